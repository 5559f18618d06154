/-
  FreeOf: how many slots are on the lists of a class: both walks and the law.
-/
import Derived.Test.YtafhfikcpgjnaaaListsOkW
import Derived.Test.YtafhfikcpgjnaaaPlace
import Derived.IntWalk
namespace Go.Proofs.Ytafhfikcpgjnaaa
open Go.RowKit
set_option linter.unusedVariables false

/-- The slots on the first j workers' lists of class k. -/
def cntY (y : List (List Int)) (k : Nat) : Nat → Nat
  | 0 => 0
  | j + 1 => cntY y k j + (y.getD (j * 3 + k) []).length
def freeR (z y : List (List Int)) (c : Int) : Int := if okR z y = true ∧ in02 c = true then (((z.getD c.toNat []).length + cntY y c.toNat 3 : Nat) : Int) else 0
theorem okR_lens {z y : List (List Int)} (h : okR z y = true) : z.length = 3 ∧ y.length = 9 := by
  unfold okR at h
  simp only [Bool.and_eq_true, decide_eq_true_eq] at h
  exact h.1
theorem cntY_le {y : List (List Int)} {k : Nat} (h : ∀ j, j < y.length → (y.getD j []).length ≤ 1048576) (hk : k < 3) (hy : y.length = 9) : ∀ j, j ≤ 3 → cntY y k j ≤ j * 1048576 := by
  intro j
  induction j with
  | zero => intro _; simp [cntY]
  | succ j ih =>
    intro hj
    have h1 := ih (by omega)
    have h2 := h (j * 3 + k) (by omega)
    simp only [cntY]
    omega

set_option maxRecDepth 100000 in
set_option maxHeartbeats 1600000 in
theorem specFreeOf_any (A A' : Option Addr) (n c n' c' : Nat) (z y : List (List Int)) (x : Int) (w : World) (hn : n = z.length) (hn' : n' = y.length) (hc : n ≤ c) (hc' : n' ≤ c') (hm : n + sumL z n + n' + sumL y n' ≤ 1048576) (ha : RdM w A z w.heap.size) (ha' : RdM w A' y w.heap.size) :
    Calls Try.prog 30 #[.agg #[.slice A n c, .slice A' n' c'], .int .i64 x] w fun e w' => e = .returned (.int .i64 (freeR z y x)) ∧ Below w.heap.size w w' := by
  have HS : Hid (∀ j, j < z.length → (z.getD j []).length ≤ 1048576) := hide (fun j hj => by have := len_le z n j (by omega); omega)
  have HS' : Hid (∀ j, j < y.length → (y.getD j []).length ≤ 1048576) := hide (fun j hj => by have := len_le y n' j (by omega); omega)
  have HN := hide hn
  have HN' := hide hn'
  have HA := hide ha
  have HA' := hide ha'
  have HM := hide hm
  have HOK : Hid (∀ W : World, RdM W A z W.heap.size → RdM W A' y W.heap.size → ∀ r, okR z y = r → Calls Try.prog 22 #[.agg #[.slice A n c, .slice A' n' c']] W fun e w' => e = .returned (.bool r) ∧ Below W.heap.size W w') := hide (fun W h1 h2 r hr => by subst hr; exact specListsOk_any A A' n c n' c' z y W hn hn' hm h1 h2)
  clear hn hn' ha ha' hm
  cases hok : okR z y
  · have HX : Hid (freeR z y x = 0) := hide (by unfold freeR; rw [if_neg (by rw [hok]; simp)])
    have HQ := hide hok
    clear hok
    go_enter Try.func30, Try.ntmps30
    go_wp2_with fail
    have hb1 : Below w.heap.size w (w.alloc (.cells #[.slice A n c, .slice A' n' c'] 24)) := (Below.refl _ _).alloc (Nat.le_refl _) _
    refine (HOK.out _ (rdM_at HA.out hb1) (rdM_at HA'.out hb1) false HQ.out).mono ?_
    rintro e w2 ⟨rfl, hb⟩
    have HB2 := hide (below_go hb1 hb)
    clear hb hb1
    go_wp2
    go_ret
    exact ⟨retI HX.out.symm, HB2.out⟩
  obtain ⟨h3, h9⟩ := okR_lens hok
  have H3 : Hid (z.length = 3) := hide h3
  have H9 : Hid (y.length = 9) := hide h9
  obtain rfl : n = 3 := by have := HN.out; omega
  obtain rfl : n' = 9 := by have := HN'.out; omega
  clear h3 h9
  cases hin : in02 x
  · have HX : Hid (freeR z y x = 0) := hide (by unfold freeR; rw [if_neg (by rw [hin]; simp)])
    have HQ := hide hok
    have HI := hide hin
    clear hok hin
    go_enter Try.func30, Try.ntmps30
    go_wp2_with fail
    have hb1 : Below w.heap.size w (w.alloc (.cells #[.slice A 3 c, .slice A' 9 c'] 24)) := (Below.refl _ _).alloc (Nat.le_refl _) _
    refine (HOK.out _ (rdM_at HA.out hb1) (rdM_at HA'.out hb1) true HQ.out).mono ?_
    rintro e w2 ⟨rfl, hb⟩
    have HB2 := hide (below_go hb1 hb)
    clear hb hb1
    go_wp2_with fail
    refine (l1In2_q HI.out _).mono ?_
    rintro e w3 ⟨rfl, rfl⟩
    go_wp2
    go_ret
    exact ⟨retI HX.out.symm, HB2.out⟩
  obtain ⟨k, rfl, hk⟩ := in02_nat hin
  have HX : Hid (freeR z y k = (((z.getD k []).length + cntY y k 3 : Nat) : Int)) := hide (by unfold freeR; rw [if_pos ⟨hok, hin⟩]; rfl)
  have HQ := hide hok
  have HI := hide hin
  have hki : (k : Int) < 3 := by omega
  clear hok hin
  go_enter Try.func30, Try.ntmps30
  go_wp2_with fail
  obtain ⟨w1, hW⟩ : ∃ W : World, W = w.alloc (.cells #[.slice A 3 c, .slice A' 9 c'] 24) := ⟨_, rfl⟩
  rw [← hW]
  have hb1 : Below w.heap.size w w1 := by rw [hW]; exact (Below.refl _ _).alloc (Nat.le_refl _) _
  have t1 : w.heap.size < w1.heap.size := by rw [hW]; simp
  have b0 : w1.cell? ⟨w.heap.size, 0, none⟩ = some (.slice A 3 c) := by rw [hW]; go_simp
  have b1 : w1.cell? ⟨w.heap.size, 1, none⟩ = some (.slice A' 9 c') := by rw [hW]; go_simp
  clear hW
  refine (HOK.out _ (rdM_at HA.out hb1) (rdM_at HA'.out hb1) true HQ.out).mono ?_
  rintro e w2 ⟨rfl, hb⟩
  have HB2 := hide (below_go hb1 hb)
  have c0 : w2.cell? ⟨w.heap.size, 0, none⟩ = some (.slice A 3 c) := by rw [hb.cell t1]; exact b0
  have c1 : w2.cell? ⟨w.heap.size, 1, none⟩ = some (.slice A' 9 c') := by rw [hb.cell t1]; exact b1
  have t2 : w.heap.size < w2.heap.size := Nat.lt_of_lt_of_le t1 hb.size
  clear hb hb1 b0 b1 t1
  go_wp2_with fail
  refine (l1In2_q HI.out _).mono ?_
  rintro e w3 ⟨rfl, rfl⟩
  obtain ⟨b, off, A2, n2, d2, rfl, hbb, hcell, hn2, hd2, hdm, -⟩ := (rdM_at HA.out HB2.out) k (by have := H3.out; omega)
  have hn2b : n2 ≤ 1048576 := by have := HS.out k (by have := H3.out; omega); omega
  have hn2i : (n2 : Int) ≤ 1048576 := by omega
  have HN2 := hide hn2
  have hkc : k < c := by omega
  clear hn2 hdm
  go_wp2
  go_loopg [5, 6] 4 (fun g v i wo => ∃ wr : World, wr = wo ∧ ∃ j : Nat, j ≤ 3 ∧ g = 4 - j ∧ i = .int .i64 j ∧ v = .int .i64 ((n2 + cntY y k j : Nat) : Int) ∧ Below w2.heap.size w2 wr)
  case atStart => exact ⟨_, rfl, 0, by omega, rfl, rfl, by simp [cntY], Below.refl _ _⟩
  case round =>
    obtain ⟨wr, rfl, j, hj, hg, rfl, rfl, hB⟩ := hrel
    have HG := hide hg
    have HB := hide hB
    have hcb := cntY_le HS'.out hk H9.out j hj
    clear hg hB hcell
    by_cases hlt : j < 3
    · have hji : (j : Int) < 3 := by omega
      obtain ⟨b3, off3, A3, n3, d3, rfl, hb3, hcell3, hn3, hd3, hdm3, -⟩ := (rdM_at HA'.out (below_go HB2.out HB.out)) (j * 3 + k) (by have := H9.out; omega)
      have hn3b : n3 ≤ 1048576 := by have := HS'.out (j * 3 + k) (by have := H9.out; omega); omega
      have HN3 := hide hn3
      have c1 : wr.cell? ⟨w.heap.size, 1, none⟩ = some (.slice (some ⟨b3, off3, none⟩) 9 c') := by rw [HB.out.cell t2]; exact c1
      obtain ⟨q, eq⟩ : ∃ q : Nat, q = n2 + cntY y k j := ⟨_, rfl⟩
      have hq : q ≤ 4194304 := by omega
      have HE : Hid (n2 + cntY y k (j + 1) = q + n3) := hide (by simp only [cntY]; rw [← HN3.out]; omega)
      rw [← eq]
      clear eq hcb hdm3 hn3 c0
      obtain ⟨p, ep⟩ : ∃ p : Nat, p = j * 3 + k := ⟨_, rfl⟩
      rw [← ep] at hcell3
      have hp9 : p < 9 := by omega
      have hpi : (p : Int) < 9 := by omega
      have hpc : p < c' := by omega
      have HC : Hid (ownR j k = (p : Int)) := hide (by rw [ownR_nat hlt hk, ep])
      clear ep
      have hw : IntKind.i64.wrap ((q : Int) + (n3 : Int)) = (q : Int) + n3 := IntWalk.i64_in _ (by omega)
      go_wp2_with fail
      go_quiet (first | (go_at_call 50; exact Calls.quiet_of_same ((specOwnAt_any j k _).mono fun e w' h => ⟨by rw [h.1, HC.out], h.2.symm⟩)))
      rename_i nq
      have HBW := hide (HB.out.trans (show Below w2.heap.size wr (wr.drewN nq) from ⟨rfl, rfl, rfl, Nat.le_refl _, fun _ _ => rfl⟩))
      go_wp2
      go_roundg (4 - (j + 1))
      case measure => have := HG.out; omega
      case rel => exact ⟨_, rfl, j + 1, by omega, rfl, by go_num, by rw [HE.out]; go_num, HBW.out⟩
    · have hji : ¬ (j : Int) < 3 := by omega
      obtain rfl : j = 3 := by omega
      have HY : Hid (((n2 + cntY y k 3 : Nat) : Int) = freeR z y k) := hide (by rw [HX.out, HN2.out])
      rw [HY.out]
      clear hcb
      go_wp2
      go_ret
      exact ⟨rfl, below_go HB2.out HB.out⟩
set_option maxRecDepth 100000 in
set_option maxHeartbeats 1600000 in
theorem implFreeOf_any (A A' : Option Addr) (n c n' c' : Nat) (z y : List (List Int)) (x : Int) (w : World) (hn : n = z.length) (hn' : n' = y.length) (hc : n ≤ c) (hc' : n' ≤ c') (hm : n + sumL z n + n' + sumL y n' ≤ 1048576) (ha : RdM w A z w.heap.size) (ha' : RdM w A' y w.heap.size) :
    Calls Try.prog 31 #[.agg #[.slice A n c, .slice A' n' c'], .int .i64 x] w fun e w' => e = .returned (.int .i64 (freeR z y x)) ∧ Below w.heap.size w w' := by
  have HS : Hid (∀ j, j < z.length → (z.getD j []).length ≤ 1048576) := hide (fun j hj => by have := len_le z n j (by omega); omega)
  have HS' : Hid (∀ j, j < y.length → (y.getD j []).length ≤ 1048576) := hide (fun j hj => by have := len_le y n' j (by omega); omega)
  have HN := hide hn
  have HN' := hide hn'
  have HA := hide ha
  have HA' := hide ha'
  have HM := hide hm
  have HOK : Hid (∀ W : World, RdM W A z W.heap.size → RdM W A' y W.heap.size → ∀ r, okR z y = r → Calls Try.prog 23 #[.agg #[.slice A n c, .slice A' n' c']] W fun e w' => e = .returned (.bool r) ∧ Below W.heap.size W w') := hide (fun W h1 h2 r hr => by subst hr; exact implListsOk_any A A' n c n' c' z y W hn hn' hm h1 h2)
  clear hn hn' ha ha' hm
  cases hok : okR z y
  · have HX : Hid (freeR z y x = 0) := hide (by unfold freeR; rw [if_neg (by rw [hok]; simp)])
    have HQ := hide hok
    clear hok
    go_enter Try.func31, Try.ntmps31
    go_wp2_with fail
    have hb1 : Below w.heap.size w (w.alloc (.cells #[.slice A n c, .slice A' n' c'] 24)) := (Below.refl _ _).alloc (Nat.le_refl _) _
    refine (HOK.out _ (rdM_at HA.out hb1) (rdM_at HA'.out hb1) false HQ.out).mono ?_
    rintro e w2 ⟨rfl, hb⟩
    have HB2 := hide (below_go hb1 hb)
    clear hb hb1
    go_wp2
    go_ret
    exact ⟨retI HX.out.symm, HB2.out⟩
  obtain ⟨h3, h9⟩ := okR_lens hok
  have H3 : Hid (z.length = 3) := hide h3
  have H9 : Hid (y.length = 9) := hide h9
  obtain rfl : n = 3 := by have := HN.out; omega
  obtain rfl : n' = 9 := by have := HN'.out; omega
  clear h3 h9
  cases hin : in02 x
  · have HX : Hid (freeR z y x = 0) := hide (by unfold freeR; rw [if_neg (by rw [hin]; simp)])
    have HQ := hide hok
    have HI := hide hin
    clear hok hin
    go_enter Try.func31, Try.ntmps31
    go_wp2_with fail
    have hb1 : Below w.heap.size w (w.alloc (.cells #[.slice A 3 c, .slice A' 9 c'] 24)) := (Below.refl _ _).alloc (Nat.le_refl _) _
    refine (HOK.out _ (rdM_at HA.out hb1) (rdM_at HA'.out hb1) true HQ.out).mono ?_
    rintro e w2 ⟨rfl, hb⟩
    have HB2 := hide (below_go hb1 hb)
    clear hb hb1
    go_wp2_with fail
    refine (isClass_q HI.out _).mono ?_
    rintro e w3 ⟨rfl, rfl⟩
    go_wp2
    go_ret
    exact ⟨retI HX.out.symm, HB2.out⟩
  obtain ⟨k, rfl, hk⟩ := in02_nat hin
  have HX : Hid (freeR z y k = (((z.getD k []).length + cntY y k 3 : Nat) : Int)) := hide (by unfold freeR; rw [if_pos ⟨hok, hin⟩]; rfl)
  have HQ := hide hok
  have HI := hide hin
  have hki : (k : Int) < 3 := by omega
  clear hok hin
  go_enter Try.func31, Try.ntmps31
  go_wp2_with fail
  obtain ⟨w1, hW⟩ : ∃ W : World, W = w.alloc (.cells #[.slice A 3 c, .slice A' 9 c'] 24) := ⟨_, rfl⟩
  rw [← hW]
  have hb1 : Below w.heap.size w w1 := by rw [hW]; exact (Below.refl _ _).alloc (Nat.le_refl _) _
  have t1 : w.heap.size < w1.heap.size := by rw [hW]; simp
  have b0 : w1.cell? ⟨w.heap.size, 0, none⟩ = some (.slice A 3 c) := by rw [hW]; go_simp
  have b1 : w1.cell? ⟨w.heap.size, 1, none⟩ = some (.slice A' 9 c') := by rw [hW]; go_simp
  clear hW
  refine (HOK.out _ (rdM_at HA.out hb1) (rdM_at HA'.out hb1) true HQ.out).mono ?_
  rintro e w2 ⟨rfl, hb⟩
  have HB2 := hide (below_go hb1 hb)
  have c0 : w2.cell? ⟨w.heap.size, 0, none⟩ = some (.slice A 3 c) := by rw [hb.cell t1]; exact b0
  have c1 : w2.cell? ⟨w.heap.size, 1, none⟩ = some (.slice A' 9 c') := by rw [hb.cell t1]; exact b1
  have t2 : w.heap.size < w2.heap.size := Nat.lt_of_lt_of_le t1 hb.size
  clear hb hb1 b0 b1 t1
  go_wp2_with fail
  refine (isClass_q HI.out _).mono ?_
  rintro e w3 ⟨rfl, rfl⟩
  obtain ⟨b, off, A2, n2, d2, rfl, hbb, hcell, hn2, hd2, hdm, -⟩ := (rdM_at HA.out HB2.out) k (by have := H3.out; omega)
  have hn2b : n2 ≤ 1048576 := by have := HS.out k (by have := H3.out; omega); omega
  have hn2i : (n2 : Int) ≤ 1048576 := by omega
  have HN2 := hide hn2
  have hkc : k < c := by omega
  clear hn2 hdm
  go_wp2
  go_loopg [5, 22] 4 (fun g v i wo => ∃ wr : World, wr = wo ∧ ∃ j : Nat, j ≤ 3 ∧ g = 4 - j ∧ i = .int .i64 j ∧ v = .int .i64 ((n2 + cntY y k j : Nat) : Int) ∧ Below w2.heap.size w2 wr)
  case atStart => exact ⟨_, rfl, 0, by omega, rfl, rfl, by simp [cntY], Below.refl _ _⟩
  case round =>
    obtain ⟨wr, rfl, j, hj, hg, rfl, rfl, hB⟩ := hrel
    have HG := hide hg
    have HB := hide hB
    have hcb := cntY_le HS'.out hk H9.out j hj
    clear hg hB hcell
    by_cases hlt : j < 3
    · have hji : (j : Int) < 3 := by omega
      obtain ⟨b3, off3, A3, n3, d3, rfl, hb3, hcell3, hn3, hd3, hdm3, -⟩ := (rdM_at HA'.out (below_go HB2.out HB.out)) (j * 3 + k) (by have := H9.out; omega)
      have hn3b : n3 ≤ 1048576 := by have := HS'.out (j * 3 + k) (by have := H9.out; omega); omega
      have HN3 := hide hn3
      have c1 : wr.cell? ⟨w.heap.size, 1, none⟩ = some (.slice (some ⟨b3, off3, none⟩) 9 c') := by rw [HB.out.cell t2]; exact c1
      obtain ⟨q, eq⟩ : ∃ q : Nat, q = n2 + cntY y k j := ⟨_, rfl⟩
      have hq : q ≤ 4194304 := by omega
      have HE : Hid (n2 + cntY y k (j + 1) = q + n3) := hide (by simp only [cntY]; rw [← HN3.out]; omega)
      rw [← eq]
      clear eq hcb hdm3 hn3 c0
      obtain ⟨p, ep⟩ : ∃ p : Nat, p = j * 3 + k := ⟨_, rfl⟩
      rw [← ep] at hcell3
      have hp9 : p < 9 := by omega
      have hpi : (p : Int) < 9 := by omega
      have hpc : p < c' := by omega
      have HC : Hid (ownR j k = (p : Int)) := hide (by rw [ownR_nat hlt hk, ep])
      clear ep
      have hw : IntKind.i64.wrap ((q : Int) + (n3 : Int)) = (q : Int) + n3 := IntWalk.i64_in _ (by omega)
      go_wp2_with fail
      go_quiet (first | (go_at_call 53; exact Calls.quiet_of_same ((implOwnAt_any j k _).mono fun e w' h => ⟨by rw [h.1, HC.out], h.2.symm⟩)))
      rename_i nq
      have HBW := hide (HB.out.trans (show Below w2.heap.size wr (wr.drewN nq) from ⟨rfl, rfl, rfl, Nat.le_refl _, fun _ _ => rfl⟩))
      go_wp2
      go_roundg (4 - (j + 1))
      case measure => have := HG.out; omega
      case rel => exact ⟨_, rfl, j + 1, by omega, rfl, by go_num, by rw [HE.out]; go_num, HBW.out⟩
    · have hji : ¬ (j : Int) < 3 := by omega
      obtain rfl : j = 3 := by omega
      have HY : Hid (((n2 + cntY y k 3 : Nat) : Int) = freeR z y k) := hide (by rw [HX.out, HN2.out])
      rw [HY.out]
      clear hcb
      go_wp2
      go_ret
      exact ⟨rfl, below_go HB2.out HB.out⟩
set_option maxRecDepth 100000 in
set_option maxHeartbeats 3200000 in
theorem fnExactFreeOf_walk (v0_0 v0_1 : Value) (a1 : Int) (w : World) (h0 : ListsArg w v0_0 v0_1) (h1 : (Lit.int .i64 a1).wf = true) :
    Calls Try.prog 10 #[.agg #[v0_0, v0_1], .int .i64 a1] w fun e w' => e = .returned (.bool true) ∧ Below w.heap.size w w' := by
  obtain ⟨z0, y0, ⟨A0, n0, c0, rfl, hn0, hnc0, hc0, hr0⟩, ⟨B0, m0, d0, rfl, hm0, hmd0, hd0, hs0⟩⟩ := h0
  have Hn0 := hide hn0
  clear hn0
  have Hm0 := hide hm0
  clear hm0
  have Hr0 := hide hr0
  clear hr0
  have Hs0 := hide hs0
  clear hs0
  have hb1 := bounds_i64 h1
  clear h1
  have HB0 := hide (Below.refl w.heap.size w)
  go_enter Try.func10, Try.ntmps10
  go_wp2_with fail
  obtain ⟨w1, hW⟩ : ∃ W : World, W = w.alloc (.cells #[(.slice A0 n0 c0), (.slice B0 m0 d0)] 31) := ⟨_, rfl⟩
  rw [← hW]
  have hb : Below w.heap.size w w1 := by rw [hW]; exact (Below.refl _ _).alloc (Nat.le_refl _) _
  have nb0 : w1.cell? ⟨w.heap.size, 0, none⟩ = some (.slice A0 n0 c0) := by rw [hW]; go_simp
  have nb1 : w1.cell? ⟨w.heap.size, 1, none⟩ = some (.slice B0 m0 d0) := by rw [hW]; go_simp
  have nt : w.heap.size < w1.heap.size := by rw [hW]; simp
  clear hW
  have HB1 := hide (HB0.out.trans (hb.mono HB0.out.size))
  have hs1 : w.heap.size ≤ w1.heap.size := hb.size
  clear hb
  have b0_0_1 := nb0
  have b0_1_1 := nb1
  have t0_1 := nt
  have u0 := nt
  clear nb0 nb1 nt
  refine (szLists_any A0 B0 n0 c0 m0 d0 z0 y0 1048576 _ Hn0.out Hm0.out (by omega) (by omega) hnc0 hc0 hmd0 hd0 (rdL_at Hr0.out HB1.out) (rdL_at Hs0.out HB1.out)).mono ?_
  rintro e w2 ⟨⟨L0, rfl, hL0⟩, hb⟩
  have HB2 := hide (HB1.out.trans (hb.mono HB1.out.size))
  have hs2 : w1.heap.size ≤ w2.heap.size := hb.size
  have b0_0_2 : w2.cell? ⟨w.heap.size, 0, none⟩ = some (.slice A0 n0 c0) := by rw [hb.cell t0_1]; exact b0_0_1
  have b0_1_2 : w2.cell? ⟨w.heap.size, 1, none⟩ = some (.slice B0 m0 d0) := by rw [hb.cell t0_1]; exact b0_1_1
  have t0_2 : w.heap.size < w2.heap.size := Nat.lt_of_lt_of_le t0_1 hs2
  clear b0_0_1 b0_1_1 t0_1
  clear hb
  by_cases hneg0 : L0 < 0
  case pos =>
    go_wp2
    go_ret
    exact ⟨rfl, HB2.out⟩
  have hq0 : n0 + sumL z0 n0 + m0 + sumL y0 m0 ≤ 1048576 := by omega
  have HQ0 := hide hq0
  have hL0b : 0 ≤ L0 ∧ L0 ≤ 1048576 := by omega
  clear hL0 hq0
  go_wp2_with fail
  refine (toLists_any A0 B0 n0 c0 m0 d0 z0 y0 _ Hn0.out Hm0.out HQ0.out (rdL_at Hr0.out HB2.out) (rdL_at Hs0.out HB2.out)).mono ?_
  rintro e w3 ⟨g_a, k_a, rfl, ho, ho', hb⟩
  have HB3 := hide (HB2.out.trans (hb.mono HB2.out.size))
  have hs3 : w2.heap.size ≤ w3.heap.size := hb.size
  have b0_0_3 : w3.cell? ⟨w.heap.size, 0, none⟩ = some (.slice A0 n0 c0) := by rw [hb.cell t0_2]; exact b0_0_2
  have b0_1_3 : w3.cell? ⟨w.heap.size, 1, none⟩ = some (.slice B0 m0 d0) := by rw [hb.cell t0_2]; exact b0_1_2
  have t0_3 : w.heap.size < w3.heap.size := Nat.lt_of_lt_of_le t0_2 hs3
  clear b0_0_2 b0_1_2 t0_2
  clear hb
  have Oa_3 := hide ho
  have Pa_3 := hide ho'
  clear ho ho'
  go_wp2_with fail
  refine (specFreeOf_any _ _ _ _ _ _ z0 y0 a1 _ Hn0.out Hm0.out (Nat.le_refl _) (Nat.le_refl _) HQ0.out Oa_3.out Pa_3.out).mono ?_
  rintro e w4 ⟨rfl, hb⟩
  have HB4 := hide (HB3.out.trans (hb.mono HB3.out.size))
  have hs4 : w3.heap.size ≤ w4.heap.size := hb.size
  have b0_0_4 : w4.cell? ⟨w.heap.size, 0, none⟩ = some (.slice A0 n0 c0) := by rw [hb.cell t0_3]; exact b0_0_3
  have b0_1_4 : w4.cell? ⟨w.heap.size, 1, none⟩ = some (.slice B0 m0 d0) := by rw [hb.cell t0_3]; exact b0_1_3
  have t0_4 : w.heap.size < w4.heap.size := Nat.lt_of_lt_of_le t0_3 hs4
  clear b0_0_3 b0_1_3 t0_3
  have Oa_4 := hide (rdM_at Oa_3.out hb)
  clear Oa_3
  have Pa_4 := hide (rdM_at Pa_3.out hb)
  clear Pa_3
  clear hb
  clear Oa_4 Pa_4
  go_wp2_with fail
  refine (toLists_any A0 B0 n0 c0 m0 d0 z0 y0 _ Hn0.out Hm0.out HQ0.out (rdL_at Hr0.out HB4.out) (rdL_at Hs0.out HB4.out)).mono ?_
  rintro e w5 ⟨g_x, k_x, rfl, ho, ho', hb⟩
  have HB5 := hide (HB4.out.trans (hb.mono HB4.out.size))
  have hs5 : w4.heap.size ≤ w5.heap.size := hb.size
  have b0_0_5 : w5.cell? ⟨w.heap.size, 0, none⟩ = some (.slice A0 n0 c0) := by rw [hb.cell t0_4]; exact b0_0_4
  have b0_1_5 : w5.cell? ⟨w.heap.size, 1, none⟩ = some (.slice B0 m0 d0) := by rw [hb.cell t0_4]; exact b0_1_4
  have t0_5 : w.heap.size < w5.heap.size := Nat.lt_of_lt_of_le t0_4 hs5
  clear b0_0_4 b0_1_4 t0_4
  clear hb
  have Ox_5 := hide ho
  have Px_5 := hide ho'
  clear ho ho'
  go_wp2_with fail
  obtain ⟨w6, hW⟩ : ∃ W : World, W = w5.alloc (.cells #[(.slice (some ⟨g_x, 0, none⟩) n0 n0), (.slice (some ⟨k_x, 0, none⟩) m0 m0)] 24) := ⟨_, rfl⟩
  rw [← hW]
  have hb : Below w5.heap.size w5 w6 := by rw [hW]; exact (Below.refl _ _).alloc (Nat.le_refl _) _
  have nb0 : w6.cell? ⟨w5.heap.size, 0, none⟩ = some (.slice (some ⟨g_x, 0, none⟩) n0 n0) := by rw [hW]; go_simp
  have nb1 : w6.cell? ⟨w5.heap.size, 1, none⟩ = some (.slice (some ⟨k_x, 0, none⟩) m0 m0) := by rw [hW]; go_simp
  have nt : w5.heap.size < w6.heap.size := by rw [hW]; simp
  clear hW
  have HB6 := hide (HB5.out.trans (hb.mono HB5.out.size))
  have hs6 : w5.heap.size ≤ w6.heap.size := hb.size
  have b0_0_6 : w6.cell? ⟨w.heap.size, 0, none⟩ = some (.slice A0 n0 c0) := by rw [hb.cell t0_5]; exact b0_0_5
  have b0_1_6 : w6.cell? ⟨w.heap.size, 1, none⟩ = some (.slice B0 m0 d0) := by rw [hb.cell t0_5]; exact b0_1_5
  have t0_6 : w.heap.size < w6.heap.size := Nat.lt_of_lt_of_le t0_5 hs6
  clear b0_0_5 b0_1_5 t0_5
  have Ox_6 := hide (rdM_at Ox_5.out hb)
  clear Ox_5
  have Px_6 := hide (rdM_at Px_5.out hb)
  clear Px_5
  clear hb
  have bx_0_6 := nb0
  have bx_1_6 := nb1
  have tx_6 := nt
  have ux := nt
  clear nb0 nb1 nt
  refine (implFreeOf_any _ _ _ _ _ _ z0 y0 a1 _ Hn0.out Hm0.out (Nat.le_refl _) (Nat.le_refl _) HQ0.out Ox_6.out Px_6.out).mono ?_
  rintro e w7 ⟨rfl, hb⟩
  have HB7 := hide (HB6.out.trans (hb.mono HB6.out.size))
  have hs7 : w6.heap.size ≤ w7.heap.size := hb.size
  have b0_0_7 : w7.cell? ⟨w.heap.size, 0, none⟩ = some (.slice A0 n0 c0) := by rw [hb.cell t0_6]; exact b0_0_6
  have b0_1_7 : w7.cell? ⟨w.heap.size, 1, none⟩ = some (.slice B0 m0 d0) := by rw [hb.cell t0_6]; exact b0_1_6
  have t0_7 : w.heap.size < w7.heap.size := Nat.lt_of_lt_of_le t0_6 hs7
  clear b0_0_6 b0_1_6 t0_6
  have bx_0_7 : w7.cell? ⟨w5.heap.size, 0, none⟩ = some (.slice (some ⟨g_x, 0, none⟩) n0 n0) := by rw [hb.cell tx_6]; exact bx_0_6
  have bx_1_7 : w7.cell? ⟨w5.heap.size, 1, none⟩ = some (.slice (some ⟨k_x, 0, none⟩) m0 m0) := by rw [hb.cell tx_6]; exact bx_1_6
  have tx_7 : w5.heap.size < w7.heap.size := Nat.lt_of_lt_of_le tx_6 hs7
  clear bx_0_6 bx_1_6 tx_6
  have Ox_7 := hide (rdM_at Ox_6.out hb)
  clear Ox_6
  have Px_7 := hide (rdM_at Px_6.out hb)
  clear Px_6
  clear hb
  go_wp2_with fail
  go_region_held3 (fun w' => (w'.cell? ⟨w5.heap.size, 0, none⟩ = some (.slice (some ⟨g_x, 0, none⟩) n0 n0) ∧ w'.cell? ⟨w5.heap.size, 1, none⟩ = some (.slice (some ⟨k_x, 0, none⟩) m0 m0) ∧ w'.cell? ⟨w.heap.size, 0, none⟩ = some (.slice A0 n0 c0) ∧ w'.cell? ⟨w.heap.size, 1, none⟩ = some (.slice B0 m0 d0)) ∧ Below w7.heap.size w7 w')
    (first | (exact keep22 tx_7 tx_7 t0_7 t0_7 (by assumption) (by assumption)) | (exact ⟨⟨bx_0_7, bx_1_7, b0_0_7, b0_1_7⟩, (Below.refl _ _).drew⟩))
    (first
      | (go_at_call 18; refine (toLists_any A0 B0 n0 c0 m0 d0 z0 y0 _ Hn0.out Hm0.out HQ0.out (rdLS Hr0.out HB7.out (by assumption)) (rdLS Hs0.out HB7.out (by assumption))).mono ?_; rintro e w' ⟨g, g', rfl, ho, ho', hb⟩)
      | (go_at_call 13; refine (eqLists_same _ _ _ _ _ _ _ _ _ _ z0 y0 _ Hn0.out Hm0.out HQ0.out (rdMS Ox_7.out (by assumption)) (by assumption) (rdMS Px_7.out (by assumption)) (by assumption)).mono ?_; rintro e w' ⟨rfl, hb⟩))
  have hS := ‹(_ ∧ _) ∧ Below w7.heap.size w7 _›
  obtain ⟨w8, rfl, -, hb⟩ := named (C := fun W => (W.cell? ⟨w5.heap.size, 0, none⟩ = some (.slice (some ⟨g_x, 0, none⟩) n0 n0) ∧ W.cell? ⟨w5.heap.size, 1, none⟩ = some (.slice (some ⟨k_x, 0, none⟩) m0 m0) ∧ W.cell? ⟨w.heap.size, 0, none⟩ = some (.slice A0 n0 c0) ∧ W.cell? ⟨w.heap.size, 1, none⟩ = some (.slice B0 m0 d0))) hS
  clear hS
  have HB8 := hide (HB7.out.trans (hb.mono HB7.out.size))
  have hs8 : w7.heap.size ≤ w8.heap.size := hb.size
  have b0_0_8 : w8.cell? ⟨w.heap.size, 0, none⟩ = some (.slice A0 n0 c0) := by rw [hb.cell t0_7]; exact b0_0_7
  have b0_1_8 : w8.cell? ⟨w.heap.size, 1, none⟩ = some (.slice B0 m0 d0) := by rw [hb.cell t0_7]; exact b0_1_7
  have t0_8 : w.heap.size < w8.heap.size := Nat.lt_of_lt_of_le t0_7 hs8
  clear b0_0_7 b0_1_7 t0_7
  have bx_0_8 : w8.cell? ⟨w5.heap.size, 0, none⟩ = some (.slice (some ⟨g_x, 0, none⟩) n0 n0) := by rw [hb.cell tx_7]; exact bx_0_7
  have bx_1_8 : w8.cell? ⟨w5.heap.size, 1, none⟩ = some (.slice (some ⟨k_x, 0, none⟩) m0 m0) := by rw [hb.cell tx_7]; exact bx_1_7
  have tx_8 : w5.heap.size < w8.heap.size := Nat.lt_of_lt_of_le tx_7 hs8
  clear bx_0_7 bx_1_7 tx_7
  have Ox_8 := hide (rdM_at Ox_7.out hb)
  clear Ox_7
  have Px_8 := hide (rdM_at Px_7.out hb)
  clear Px_7
  clear hb
  go_wp2
  go_ret
  exact ⟨rfl, HB8.out⟩
end Go.Proofs.Ytafhfikcpgjnaaa
