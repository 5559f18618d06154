/-
  A page of a heap: the program's contract.
-/
import Derived.Test.YtdhocncfpapncacPage
namespace Go.Proofs.Ytdhocncfpapncac
open Go.RowKit
set_option linter.unusedVariables false

def sub (x : List Int) (t m : Nat) : List Int := (x.drop t).take m
theorem sub_length (x : List Int) (t m : Nat) (h : t + m ≤ x.length) : (sub x t m).length = m := by simp [sub]; omega
theorem sub_get (x : List Int) (t m j : Nat) (hj : j < m) : (sub x t m).getD j 0 = x.getD (t + j) 0 := by
  simp [sub, List.getD, hj, List.getElem?_drop]
theorem sub_succ (x : List Int) (t m : Nat) (h : t + (m + 1) ≤ x.length) : sub x t (m + 1) = sub x t m ++ [x.getD (t + m) 0] := by
  have h1 : t + m < x.length := by omega
  unfold sub
  rw [List.take_add_one, List.getElem?_drop]
  simp [h1]
theorem zr_any (x : List Int) (t m : Nat) (h : t + m ≤ x.length) : (!(sub x t m).any (fun x => x != 0)) = zrR x t m := by
  induction m with
  | zero => simp [sub, zrR]
  | succ m ih =>
    rw [sub_succ x t m h, List.any_append, Bool.not_or, ih (by omega)]
    show (zrR x t m && _) = (zrR x t m && decide (x.getD (t + m) 0 = 0))
    congr 1
    generalize x.getD (t + m) 0 = a
    by_cases e : a = 0
    · rw [e]; rfl
    · rw [decide_eq_false e]; simp [e]
theorem ldR_sub (x : List Int) (t m off k : Nat) (h : off + k ≤ m) : ldR (sub x t m) off k = ldR x (t + off) k := by
  induction k with
  | zero => rfl
  | succ k ih =>
    simp only [ldR]
    rw [ih (by omega), sub_get x t m (off + k) (by omega), Nat.add_assoc]
theorem bok_sub (x : List Int) (t m : Nat) (h : t + m ≤ x.length) (hm : m ≤ 1000) (hb : bokR x = true) : bokR (sub x t m) = true := by
  unfold bokR
  rw [bok_good (fun j hj => by rw [sub_length x t m h] at hj; rw [sub_get x t m j hj]; exact bok_byte hb _ (by omega)), sub_length x t m h]
  simpa using hm
theorem rd_sub {w : World} {b o : Nat} {x : List Int} {B : Nat} (ha : RdB .i64 w (some ⟨b, o, none⟩) x B) (t m : Nat) (h : t + m ≤ x.length) : RdB .i64 w (some ⟨b, o + t, none⟩) (sub x t m) B := fun j hj => by
  rw [sub_length x t m h] at hj
  obtain ⟨b', o', e, hb, hc⟩ := ha (t + j) (by omega)
  injection e with e
  injection e with e1 e2
  subst e1 e2
  exact ⟨b, o + t, rfl, hb, by rw [sub_get x t m j hj, Nat.add_assoc]; exact hc⟩
theorem implPerPage_as (c : Int) (w : World) : Calls Try.prog 26 #[.int .i64 c] w fun e w' => e = .returned (.int .i64 (perC c)) ∧ w' = w := (implPerPage_any c w).mono fun e w' k => ⟨k.1, k.2.symm⟩
theorem nz_any (x : Int) (w : World) : Calls Try.prog 71 #[.int .i64 x] w fun e w' => e = .returned (.bool (x != 0)) ∧ w = w' := by
  go_enter Try.func71, Try.ntmps71
  go_wp2
  go_ret
  exact ⟨rfl, rfl⟩
set_option maxRecDepth 100000 in
set_option maxHeartbeats 800000 in
theorem indexFunc_nz (A : Option Addr) (n c : Nat) (zs : List Int) (U : Nat) (w : World) (hn : n = zs.length) (hz : n ≤ 2097152) (ha : RdB .i64 w A zs U) :
    Calls Try.prog 67 #[.slice A n c, .func (.func 71) #[] #[]] w fun e w' => (∃ x : Int, e = .returned (.int .i64 x) ∧ (zs.any (fun x => x != 0) = decide (0 ≤ x)) ∧ -1 ≤ x ∧ x ≤ 2097152) ∧ w = w' := by
  have HN := hide hn
  have HA := hide ha
  have hz1 : (n : Int) ≤ 2097152 := by omega
  clear hn ha hz
  go_enter Try.func67, Try.ntmps67
  go_wp2
  go_loopg [5, 8] (n + 1) (fun g _x i wr => wr = w ∧ ∃ k : Nat, k ≤ n ∧ g = n + 1 - k ∧ i = .int .i64 k ∧ ∀ j, j < k → (fun x => x != 0) (zs.getD j 0) = false)
  case atStart => exact ⟨rfl, 0, Nat.zero_le _, rfl, rfl, fun j hj => absurd hj (by omega)⟩
  case round =>
    obtain ⟨rfl, k, hk, hg, rfl, hall⟩ := hrel
    have HG := hide hg
    have HALL := hide hall
    clear hg hall
    by_cases hlt : k < n
    · obtain ⟨b, off, rfl, hb, hc⟩ := HA.out k (by have := HN.out; omega)
      have hi : (k : Int) < (n : Int) := by omega
      obtain ⟨x, hx⟩ : ∃ x, x = zs.getD k 0 := ⟨_, rfl⟩
      rw [← hx] at hc
      have HX := hide hx
      clear hx
      go_wp2_with fail
      refine (nz_any x _).mono ?_
      rintro e w1 ⟨rfl, rfl⟩
      generalize hq : (x != 0) = v
      cases v
      · have HQ := hide hq
        clear hq
        go_wp2
        go_roundg (n + 1 - (k + 1))
        case measure => have := HG.out; omega
        case rel => exact ⟨rfl, k + 1, by omega, rfl, by go_num, fun j hj => by
          by_cases e : j = k
          · subst e; rw [← HX.out]; exact HQ.out
          · exact HALL.out j (by omega)⟩
      · have HY : Hid (zs.any (fun x => x != 0) = true) := hide (any_yes (q := (fun x => x != 0)) (k := k) (by have := HN.out; omega) (by rw [← HX.out]; exact hq))
        clear hq
        go_wp2
        go_ret
        exact ⟨⟨(k : Int), rfl, by rw [HY.out]; symm; simp, by omega, by omega⟩, rfl⟩
    · have hi : ¬ (k : Int) < (n : Int) := by omega
      have HT : Hid (zs.any (fun x => x != 0) = false) := hide (any_no (q := (fun x => x != 0)) (fun j hj => HALL.out j (by have := HN.out; omega)))
      go_wp2
      go_ret
      exact ⟨⟨-1, rfl, by rw [HT.out]; rfl, by omega, by omega⟩, rfl⟩

theorem containsFunc_nz (A : Option Addr) (n c : Nat) (zs : List Int) (U : Nat) (w : World) (hn : n = zs.length) (hz : n ≤ 2097152) (ha : RdB .i64 w A zs U) :
    Calls Try.prog 55 #[.slice A n c, .func (.func 71) #[] #[]] w fun e w' => e = .returned (.bool (zs.any (fun x => x != 0))) ∧ w = w' := by
  have H := hide (indexFunc_nz A n c zs U w hn hz ha)
  clear hn hz ha
  go_enter Try.func55, Try.ntmps55
  go_wp2_with fail
  refine H.out.mono ?_
  rintro e w1 ⟨⟨x, rfl, hx, h1, h2⟩, rfl⟩
  have HX := hide hx
  clear hx H
  go_wp2
  go_ret
  exact ⟨retB HX.out.symm, rfl⟩


theorem isZero_any (b o t m c : Nat) (x : List Int) (U : Nat) (w : World) (h : t + m ≤ x.length) (hm : m ≤ 1000) (ha : RdB .i64 w (some ⟨b, o, none⟩) x U) :
    Calls Try.prog 63 #[.slice (some ⟨b, o + t, none⟩) m c] w fun e w' => e = .returned (.bool (zrR x t m)) ∧ w' = w := by
  have H := hide (containsFunc_nz (some ⟨b, o + t, none⟩) m c (sub x t m) U w (sub_length x t m h).symm (by omega) (rd_sub ha t m h))
  have HZ := hide (zr_any x t m h)
  clear ha h hm
  go_enter Try.func63, Try.ntmps63
  go_wp2_with fail
  refine H.out.mono ?_
  rintro e w1 ⟨rfl, rfl⟩
  clear H
  generalize hv : ((sub x t m).any fun x => x != 0) = v at *
  go_wp2
  go_ret
  exact ⟨retB HZ.out, rfl⟩

set_option maxRecDepth 100000 in
set_option maxHeartbeats 3200000 in
theorem implPage_any (A A' : Option Addr) (c c' : Nat) (x y : List Int) (p t : Nat) (w : World) (hp : p < 6) (ht : t = p * 64) (hn : 384 = x.length) (hn' : 6 = y.length) (hbk : bokR x = true) (hcl : y.all isCl = true) (hc : 384 ≤ c) (hcm : c ≤ maxLen) (ha : RdB .i64 w A x w.heap.size) (ha' : RdB .i64 w A' y w.heap.size) :
    Calls Try.prog 45 #[.agg #[.slice A 384 c, .slice A' 6 c'], .int .i64 (p : Int)] w fun e w' => e = .returned (.bool (pageC x t (y.getD p 0))) ∧ Below w.heap.size w w' := by
  have hb0 : Below w.heap.size w (w.alloc (.cells #[.slice A 384 c, .slice A' 6 c'] 26)) := (Below.refl _ _).alloc (Nat.le_refl _) _
  obtain ⟨b, o, rfl, hbl, -⟩ := ha 0 (by omega)
  obtain ⟨b', o', rfl, hbl', hcy⟩ := ha' p (by omega)
  have h1 := isCl_at hcl p (by omega)
  obtain ⟨v, hv⟩ : ∃ v, v = y.getD p 0 := ⟨_, rfl⟩
  rw [← hv] at hcy h1 ⊢
  have HA := hide ha
  have HA' := hide ha'
  have HN := hide hn
  have HK := hide hbk
  have hpt : (p : Int) * 64 = (t : Int) := by omega
  have hpt1 : ((p : Int) + 1) * 64 = (t : Int) + 64 := by omega
  have hp6 : (p : Int) < 6 := by omega
  have ht6 : (t : Int) + 64 ≤ 384 := by omega
  have htc : (t : Int) + 64 ≤ (c : Int) := by omega
  have htc2 : (384 : Int) ≤ (c : Int) := by omega
  have HT := hide ht
  have HN' := hide hn'
  clear ha ha' hn hn' hbk hcl hv ht
  by_cases hv0 : v < 0
  · have dv : decide (v < 0) = true := by simpa using hv0
    have HP : Hid (pageC x t v = zrR x t 64) := hide (by unfold pageC; rw [if_pos hv0])
    go_enter Try.func45, Try.ntmps45
    go_wp2_with fail
    go_quiet (fail)
    go_wp2_with fail
    try simp only [Nat.add_sub_cancel_left]
    refine (isZero_any b o t 64 (c - t) x w.heap.size _ (by have := HN.out; omega) (by omega) ((HA.out.below hb0 (Nat.le_refl _)).drewN _)).mono ?_
    rintro e w2 ⟨rfl, rfl⟩
    generalize hz : zrR x t 64 = r
    have HZ := hide hz
    clear hz
    go_wp2
    go_ret
    exact ⟨retB (by rw [HP.out, HZ.out]), hb0.trans ⟨rfl, rfl, rfl, Nat.le_refl _, fun _ _ => rfl⟩⟩
  have dv : decide (v < 0) = false := by simpa using hv0
  have HP : Hid (pageC x t v = (decide (x.getD t 0 = 171) && decide (x.getD (t + 1) 0 = v) && decide (x.getD (t + 2) 0 = perC v) && zrR x (t + 3) 5 && gnR x (t + 8) (strideC v).toNat (perC v).toNat)) := hide (by unfold pageC; rw [if_neg hv0])
  obtain ⟨_, _, e', hb, hx0⟩ := HA.out t (by have := HN.out; omega)
  injection e' with e'
  injection e' with e1 e2
  subst e1 e2
  obtain ⟨_, _, e', hb, hx1⟩ := HA.out (t + 1) (by have := HN.out; omega)
  injection e' with e'
  injection e' with e1 e2
  subst e1 e2
  obtain ⟨_, _, e', hb, hx2⟩ := HA.out (t + 2) (by have := HN.out; omega)
  injection e' with e'
  injection e' with e1 e2
  subst e1 e2
  rw [← Nat.add_assoc] at hx1 hx2
  obtain ⟨X0, hX0⟩ : ∃ X, X = x.getD t 0 := ⟨_, rfl⟩
  obtain ⟨X1, hX1⟩ : ∃ X, X = x.getD (t + 1) 0 := ⟨_, rfl⟩
  obtain ⟨X2, hX2⟩ : ∃ X, X = x.getD (t + 2) 0 := ⟨_, rfl⟩
  rw [← hX0] at hx0 HP
  rw [← hX1] at hx1 HP
  rw [← hX2] at hx2 HP
  clear hX0 hX1 hX2
  have hcs : (64 : Int) ≤ ((c - t : Nat) : Int) := by omega
  have hcs8 : (8 : Int) ≤ ((c - t : Nat) : Int) := by omega
  have hcsm : c - t ≤ maxLen := by omega
  by_cases g0 : X0 = 171
  rotate_left
  · have HF : Hid (pageC x t v = false) := hide (by rw [HP.out, decide_eq_false g0]; rfl)
    have dg : (X0 != 171) = true := by simpa using g0
    go_enter Try.func45, Try.ntmps45
    go_wp2_with fail
    go_quiet (fail)
    rename_i nq
    obtain ⟨w1, hW⟩ : ∃ W : World, W = (w.alloc (.cells #[.slice (some ⟨b, o, none⟩) 384 c, .slice (some ⟨b', o', none⟩) 6 c'] 26)).drewN nq := ⟨_, rfl⟩
    have y0 : w1.cell? ⟨b, o + t, none⟩ = some (.int .i64 (X0)) := by rw [hW]; go_simp
    have y1 : w1.cell? ⟨b, o + t + 1, none⟩ = some (.int .i64 (X1)) := by rw [hW]; go_simp
    have y2 : w1.cell? ⟨b, o + t + 2, none⟩ = some (.int .i64 (X2)) := by rw [hW]; go_simp
    have hB1 : Below w.heap.size w w1 := by rw [hW]; exact hb0.trans ⟨rfl, rfl, rfl, Nat.le_refl _, fun _ _ => rfl⟩
    rw [← hW]
    clear hW hx0 hx1 hx2
    go_wp2_with fail
    simp only [Nat.add_sub_cancel_left]
    generalize c - t = cp at *
    go_quiet (fail)
    go_wp2
    go_ret
    exact ⟨retB HF.out.symm, hB1.trans ⟨rfl, rfl, rfl, Nat.le_refl _, fun _ _ => rfl⟩⟩
  subst g0
  by_cases g1 : X1 = v
  rotate_left
  · have HF : Hid (pageC x t v = false) := hide (by rw [HP.out, decide_eq_false g1]; simp)
    have dg : (X1 != v) = true := by simpa using g1
    go_enter Try.func45, Try.ntmps45
    go_wp2_with fail
    go_quiet (fail)
    rename_i nq
    obtain ⟨w1, hW⟩ : ∃ W : World, W = (w.alloc (.cells #[.slice (some ⟨b, o, none⟩) 384 c, .slice (some ⟨b', o', none⟩) 6 c'] 26)).drewN nq := ⟨_, rfl⟩
    have y0 : w1.cell? ⟨b, o + t, none⟩ = some (.int .i64 (171)) := by rw [hW]; go_simp
    have y1 : w1.cell? ⟨b, o + t + 1, none⟩ = some (.int .i64 (X1)) := by rw [hW]; go_simp
    have y2 : w1.cell? ⟨b, o + t + 2, none⟩ = some (.int .i64 (X2)) := by rw [hW]; go_simp
    have hB1 : Below w.heap.size w w1 := by rw [hW]; exact hb0.trans ⟨rfl, rfl, rfl, Nat.le_refl _, fun _ _ => rfl⟩
    rw [← hW]
    clear hW hx0 hx1 hx2
    go_wp2_with fail
    simp only [Nat.add_sub_cancel_left]
    generalize c - t = cp at *
    go_quiet (fail)
    go_wp2
    go_ret
    exact ⟨retB HF.out.symm, hB1.trans ⟨rfl, rfl, rfl, Nat.le_refl _, fun _ _ => rfl⟩⟩
  rw [g1] at hx1
  by_cases g2 : X2 = perC v
  rotate_left
  · have HF : Hid (pageC x t v = false) := hide (by rw [HP.out, decide_eq_false g2]; simp)
    have dg : (X2 != perC v) = true := by simpa using g2
    go_enter Try.func45, Try.ntmps45
    go_wp2_with fail
    go_quiet (fail)
    rename_i nq
    obtain ⟨w1, hW⟩ : ∃ W : World, W = (w.alloc (.cells #[.slice (some ⟨b, o, none⟩) 384 c, .slice (some ⟨b', o', none⟩) 6 c'] 26)).drewN nq := ⟨_, rfl⟩
    have y0 : w1.cell? ⟨b, o + t, none⟩ = some (.int .i64 (171)) := by rw [hW]; go_simp
    have y1 : w1.cell? ⟨b, o + t + 1, none⟩ = some (.int .i64 (v)) := by rw [hW]; go_simp
    have y2 : w1.cell? ⟨b, o + t + 2, none⟩ = some (.int .i64 (X2)) := by rw [hW]; go_simp
    have hB1 : Below w.heap.size w w1 := by rw [hW]; exact hb0.trans ⟨rfl, rfl, rfl, Nat.le_refl _, fun _ _ => rfl⟩
    rw [← hW]
    clear hW hx0 hx1 hx2
    go_wp2_with fail
    simp only [Nat.add_sub_cancel_left]
    generalize c - t = cp at *
    go_quiet (first | (go_at_call 26; exact Calls.quiet_of_same (implPerPage_as _ _)))
    go_wp2
    go_ret
    exact ⟨retB HF.out.symm, hB1.trans ⟨rfl, rfl, rfl, Nat.le_refl _, fun _ _ => rfl⟩⟩
  rw [g2] at hx2
  have HP2 : Hid (pageC x t v = (zrR x (t + 3) 5 && gnR x (t + 8) (strideC v).toNat (perC v).toNat)) := hide (by rw [HP.out, g1, g2]; simp)
  clear HP g1 g2 X1 X2
  have hpb := perC_bd v
  obtain ⟨pb0, pb4⟩ := hpb
  obtain ⟨N, hN⟩ : ∃ N : Nat, perC v = N := ⟨(perC v).toNat, by omega⟩
  have HPN : Hid (perC v = N) := hide hN
  have HPW : ∀ w : World, Calls Try.prog 26 #[.int .i64 v] w fun e w' => e = .returned (.int .i64 (N : Int)) ∧ w' = w := fun w => by rw [← hN]; exact implPerPage_as v w
  have HPW2 := hide HPW
  clear HPW
  rw [hN] at hx2 pb0 pb4
  have hN4 : N ≤ 4 := by omega
  clear hN
  have HZ3 : Hid (∀ (W : World) (cp : Nat), RdB .i64 W (some ⟨b, o, none⟩) x w.heap.size → Calls Try.prog 63 #[.slice (some ⟨b, o + t + 3, none⟩) 5 cp] W fun e w' => e = .returned (.bool (zrR x (t + 3) 5)) ∧ w' = W) := hide (fun W cp h => by
    rw [Nat.add_assoc]; exact isZero_any b o (t + 3) 5 cp x w.heap.size W (by have := HN.out; omega) (by omega) h)
  cases hz5 : zrR x (t + 3) 5
  · have HF : Hid (pageC x t v = false) := hide (by rw [HP2.out, hz5]; rfl)
    rw [hz5] at HZ3
    clear hz5
    go_enter Try.func45, Try.ntmps45
    go_wp2_with fail
    go_quiet (fail)
    rename_i nq
    obtain ⟨w1, hW⟩ : ∃ W : World, W = (w.alloc (.cells #[.slice (some ⟨b, o, none⟩) 384 c, .slice (some ⟨b', o', none⟩) 6 c'] 26)).drewN nq := ⟨_, rfl⟩
    have y0 : w1.cell? ⟨b, o + t, none⟩ = some (.int .i64 (171)) := by rw [hW]; go_simp
    have y1 : w1.cell? ⟨b, o + t + 1, none⟩ = some (.int .i64 (v)) := by rw [hW]; go_simp
    have y2 : w1.cell? ⟨b, o + t + 2, none⟩ = some (.int .i64 ((N : Int))) := by rw [hW]; go_simp
    have hB1 : Below w.heap.size w w1 := by rw [hW]; exact hb0.trans ⟨rfl, rfl, rfl, Nat.le_refl _, fun _ _ => rfl⟩
    rw [← hW]
    clear hW hx0 hx1 hx2
    go_wp2_with fail
    simp only [Nat.add_sub_cancel_left]
    generalize c - t = cp at *
    go_quiet (first | (go_at_call 26; exact Calls.quiet_of_same (HPW2.out _)) | (go_at_call 63; exact Calls.quiet_of_same (HZ3.out _ _ ((HA.out.below hB1 (Nat.le_refl _)).drewN _))))
    go_wp2
    go_ret
    exact ⟨retB HF.out.symm, hB1.trans ⟨rfl, rfl, rfl, Nat.le_refl _, fun _ _ => rfl⟩⟩
  have HP3 : Hid (pageC x t v = gnR x (t + 8) (strideC v).toNat N) := hide (by rw [HP2.out, hz5, HPN.out]; simp)
  rw [hz5] at HZ3
  clear hz5 HP2
  go_enter Try.func45, Try.ntmps45
  go_wp2_with fail
  go_quiet (fail)
  rename_i nq
  obtain ⟨w1, hW⟩ : ∃ W : World, W = (w.alloc (.cells #[.slice (some ⟨b, o, none⟩) 384 c, .slice (some ⟨b', o', none⟩) 6 c'] 26)).drewN nq := ⟨_, rfl⟩
  have y0 : w1.cell? ⟨b, o + t, none⟩ = some (.int .i64 (171)) := by rw [hW]; go_simp
  have y1 : w1.cell? ⟨b, o + t + 1, none⟩ = some (.int .i64 (v)) := by rw [hW]; go_simp
  have y2 : w1.cell? ⟨b, o + t + 2, none⟩ = some (.int .i64 ((N : Int))) := by rw [hW]; go_simp
  have hB1 : Below w.heap.size w w1 := by rw [hW]; exact hb0.trans ⟨rfl, rfl, rfl, Nat.le_refl _, fun _ _ => rfl⟩
  rw [← hW]
  clear hW hx0 hx1 hx2
  go_wp2_with fail
  simp only [Nat.add_sub_cancel_left]
  generalize c - t = cp at *
  go_quiet (first | (go_at_call 26; exact Calls.quiet_of_same (HPW2.out _)) | (go_at_call 63; exact Calls.quiet_of_same (HZ3.out _ _ ((HA.out.below hB1 (Nat.le_refl _)).drewN _))))
  go_wp2_with (go_at_call 26; refine (HPW2.out _).mono ?_; rintro e w' ⟨rfl, rfl⟩)
  obtain ⟨sb0, sb44⟩ := strideC_bd v
  obtain ⟨S, hS⟩ : ∃ S : Nat, strideC v = S := ⟨(strideC v).toNat, by omega⟩
  have HST : Hid (∀ w : World, Calls Try.prog 46 #[.int .i64 v] w fun e w' => e = .returned (.int .i64 (S : Int)) ∧ w = w') := hide (fun w => by rw [← hS]; exact implStrideOf_any v w)
  have hS2 : (strideC v).toNat = S := by omega
  have HS := hide hS2
  clear hS hS2 sb0 sb44
  go_loopg [7, 52] 5 (fun g _x i wr => Below w.heap.size w wr ∧ ∃ k : Nat, k ≤ N ∧ g = 5 - k ∧ i = .int .i64 (k : Int) ∧ gnR x (t + 8) S k = true)
  case atStart => exact ⟨hB1.trans ⟨rfl, rfl, rfl, Nat.le_refl _, fun _ _ => rfl⟩, 0, by omega, rfl, rfl, rfl⟩
  case round =>
    obtain ⟨hB, k, hk, hg, rfl, hz⟩ := hrel
    have HG := hide hg
    have HZ := hide hz
    have HB := hide hB
    clear hg hz hB
    rw [HS.out] at HP3
    by_cases hlt : k < N
    · have hi : (k : Int) < (N : Int) := by omega
      obtain ⟨hga, hge, hk4⟩ := gen_at (c := v) hp (k := k) (by rw [HPN.out]; omega)
      rw [← HT.out, HS.out] at hge
      obtain ⟨q, hq⟩ : ∃ q : Nat, q = k * S := ⟨_, rfl⟩
      have hqi : (k : Int) * (S : Int) = (q : Int) := by rw [hq]; simp
      rw [← hq] at hge
      have hq52 : q ≤ 52 := by omega
      obtain ⟨L, hL⟩ : ∃ L, L = ldR x (t + 8 + q) 4 := ⟨_, rfl⟩
      have HL := hide hL
      have HQ := hide hq
      have hwq : IntKind.i64.wrap (q : Int) = (q : Int) := by rw [IntKind.wrap_i64]; omega
      have HLN : Hid (Calls Try.prog 39 #[.slice (some ⟨b, o + t, none⟩) 64 cp, .int .i64 (8 + (q : Int)), .int .i64 4] wr fun e w' => e = .returned (.int .i64 L) ∧ wr = w') := hide (by
        have h := loadNum_any (some ⟨b, o + t, none⟩) 64 cp (sub x t 64) w.heap.size (8 + q) 4 wr (sub_length x t 64 (by have := HN.out; omega)).symm (by omega) (by omega) (by omega) (rd_sub (HA.out.below HB.out (Nat.le_refl _)) t 64 (by have := HN.out; omega)) (by omega) (by omega) (by omega) (bok_sub x t 64 (by have := HN.out; omega) (by omega) HK.out)
        rw [ldR_sub x t 64 (8 + q) 4 (by omega), ← Nat.add_assoc, ← hL] at h
        have e : ((8 + q : Nat) : Int) = 8 + (q : Int) := by omega
        rw [e] at h
        exact h)
      clear hga hge hL hq
      cases hvk : vOk L
      · have HF : Hid (pageC x t v = false) := hide (by rw [HP3.out]; exact gnR_bad hlt (by rw [← HQ.out, ← HL.out]; exact hvk))
        have HV := hide hvk
        clear hvk
        go_wp2_with (first | (go_at_call 46; refine (HST.out _).mono ?_; rintro e w' ⟨rfl, rfl⟩) | (go_at_call 39; refine HLN.out.mono ?_; rintro e w' ⟨rfl, rfl⟩) | (go_at_call 40; refine (withinV_any _ _).mono ?_; rintro e w' ⟨rfl, rfl⟩; rw [HV.out]))
        go_ret
        exact ⟨retB HF.out.symm, HB.out⟩
      · have HZ2 : Hid (gnR x (t + 8) S (k + 1) = true) := hide (by unfold gnR; rw [HZ.out, ← HQ.out, ← HL.out, hvk]; rfl)
        have HV := hide hvk
        clear hvk
        go_wp2_with (first | (go_at_call 46; refine (HST.out _).mono ?_; rintro e w' ⟨rfl, rfl⟩) | (go_at_call 39; refine HLN.out.mono ?_; rintro e w' ⟨rfl, rfl⟩) | (go_at_call 40; refine (withinV_any _ _).mono ?_; rintro e w' ⟨rfl, rfl⟩; rw [HV.out]))
        go_roundg (5 - (k + 1))
        case measure => have := HG.out; omega
        case rel => exact ⟨HB.out, k + 1, by omega, rfl, by go_num, HZ2.out⟩
    · have hkN : k = N := by omega
      subst hkN
      have hi : ¬ (k : Int) < (k : Int) := by omega
      go_wp2
      go_ret
      exact ⟨retB (by rw [HP3.out]; exact HZ.out.symm), HB.out⟩
end Go.Proofs.Ytdhocncfpapncac
