/-
  FreeOf: how many slots are on the lists of a class: both walks and the law.
-/
import Derived.Test.YtdhocncfpapncabListsOkW
import Derived.Test.YtdhocncfpapncabPlace
import Derived.IntWalk
namespace Go.Proofs.Ytdhocncfpapncab
open Go.RowKit
set_option linter.unusedVariables false

/-- The slots on the first j workers' lists of class k. -/
def cntY (y : List (List Int)) (k : Nat) : Nat → Nat
  | 0 => 0
  | j + 1 => cntY y k j + (y.getD (j * 3 + k) []).length
def freeR (z y : List (List Int)) (c : Int) : Int := if okR z y = true ∧ in02 c = true then (((z.getD c.toNat []).length + cntY y c.toNat 3 : Nat) : Int) else 0
theorem okR_lens {z y : List (List Int)} (h : okR z y = true) : z.length = 3 ∧ y.length = 9 := by
  unfold okR at h
  simp only [Bool.and_eq_true, decide_eq_true_eq] at h
  exact h.1
theorem cntY_le {y : List (List Int)} {k : Nat} (h : ∀ j, j < y.length → (y.getD j []).length ≤ 1048576) (hk : k < 3) (hy : y.length = 9) : ∀ j, j ≤ 3 → cntY y k j ≤ j * 1048576 := by
  intro j
  induction j with
  | zero => intro _; simp [cntY]
  | succ j ih =>
    intro hj
    have h1 := ih (by omega)
    have h2 := h (j * 3 + k) (by omega)
    simp only [cntY]
    omega

set_option maxRecDepth 100000 in
set_option maxHeartbeats 1600000 in
theorem specFreeOf_any (A A' : Option Addr) (n c n' c' : Nat) (z y : List (List Int)) (x : Int) (w : World) (hn : n = z.length) (hn' : n' = y.length) (hc : n ≤ c) (hc' : n' ≤ c') (hm : n + sumL z n + n' + sumL y n' ≤ 1048576) (ha : RdM w A z w.heap.size) (ha' : RdM w A' y w.heap.size) :
    Calls Try.prog 12 #[.agg #[.slice A n c, .slice A' n' c'], .int .i64 x] w fun e w' => e = .returned (.int .i64 (freeR z y x)) ∧ Below w.heap.size w w' := by
  have HS : Hid (∀ j, j < z.length → (z.getD j []).length ≤ 1048576) := hide (fun j hj => by have := len_le z n j (by omega); omega)
  have HS' : Hid (∀ j, j < y.length → (y.getD j []).length ≤ 1048576) := hide (fun j hj => by have := len_le y n' j (by omega); omega)
  have HN := hide hn
  have HN' := hide hn'
  have HA := hide ha
  have HA' := hide ha'
  have HM := hide hm
  have HOK : Hid (∀ W : World, RdM W A z W.heap.size → RdM W A' y W.heap.size → ∀ r, okR z y = r → Calls Try.prog 9 #[.agg #[.slice A n c, .slice A' n' c']] W fun e w' => e = .returned (.bool r) ∧ Below W.heap.size W w') := hide (fun W h1 h2 r hr => by subst hr; exact specListsOk_any A A' n c n' c' z y W hn hn' hm h1 h2)
  clear hn hn' ha ha' hm
  cases hok : okR z y
  · have HX : Hid (freeR z y x = 0) := hide (by unfold freeR; rw [if_neg (by rw [hok]; simp)])
    have HQ := hide hok
    clear hok
    go_enter Try.func12, Try.ntmps12
    go_wp2_with fail
    have hb1 : Below w.heap.size w (w.alloc (.cells #[.slice A n c, .slice A' n' c'] 26)) := (Below.refl _ _).alloc (Nat.le_refl _) _
    refine (HOK.out _ (rdM_at HA.out hb1) (rdM_at HA'.out hb1) false HQ.out).mono ?_
    rintro e w2 ⟨rfl, hb⟩
    have HB2 := hide (below_go hb1 hb)
    clear hb hb1
    go_wp2
    go_ret
    exact ⟨retI HX.out.symm, HB2.out⟩
  obtain ⟨h3, h9⟩ := okR_lens hok
  have H3 : Hid (z.length = 3) := hide h3
  have H9 : Hid (y.length = 9) := hide h9
  obtain rfl : n = 3 := by have := HN.out; omega
  obtain rfl : n' = 9 := by have := HN'.out; omega
  clear h3 h9
  cases hin : in02 x
  · have HX : Hid (freeR z y x = 0) := hide (by unfold freeR; rw [if_neg (by rw [hin]; simp)])
    have HQ := hide hok
    have HI := hide hin
    clear hok hin
    go_enter Try.func12, Try.ntmps12
    go_wp2_with fail
    have hb1 : Below w.heap.size w (w.alloc (.cells #[.slice A 3 c, .slice A' 9 c'] 26)) := (Below.refl _ _).alloc (Nat.le_refl _) _
    refine (HOK.out _ (rdM_at HA.out hb1) (rdM_at HA'.out hb1) true HQ.out).mono ?_
    rintro e w2 ⟨rfl, hb⟩
    have HB2 := hide (below_go hb1 hb)
    clear hb hb1
    go_wp2_with fail
    refine (l1In2_q HI.out _).mono ?_
    rintro e w3 ⟨rfl, rfl⟩
    go_wp2
    go_ret
    exact ⟨retI HX.out.symm, HB2.out⟩
  obtain ⟨k, rfl, hk⟩ := in02_nat hin
  have HX : Hid (freeR z y k = (((z.getD k []).length + cntY y k 3 : Nat) : Int)) := hide (by unfold freeR; rw [if_pos ⟨hok, hin⟩]; rfl)
  have HQ := hide hok
  have HI := hide hin
  have hki : (k : Int) < 3 := by omega
  clear hok hin
  go_enter Try.func12, Try.ntmps12
  go_wp2_with fail
  obtain ⟨w1, hW⟩ : ∃ W : World, W = w.alloc (.cells #[.slice A 3 c, .slice A' 9 c'] 26) := ⟨_, rfl⟩
  rw [← hW]
  have hb1 : Below w.heap.size w w1 := by rw [hW]; exact (Below.refl _ _).alloc (Nat.le_refl _) _
  have t1 : w.heap.size < w1.heap.size := by rw [hW]; simp
  have b0 : w1.cell? ⟨w.heap.size, 0, none⟩ = some (.slice A 3 c) := by rw [hW]; go_simp
  have b1 : w1.cell? ⟨w.heap.size, 1, none⟩ = some (.slice A' 9 c') := by rw [hW]; go_simp
  clear hW
  refine (HOK.out _ (rdM_at HA.out hb1) (rdM_at HA'.out hb1) true HQ.out).mono ?_
  rintro e w2 ⟨rfl, hb⟩
  have HB2 := hide (below_go hb1 hb)
  have c0 : w2.cell? ⟨w.heap.size, 0, none⟩ = some (.slice A 3 c) := by rw [hb.cell t1]; exact b0
  have c1 : w2.cell? ⟨w.heap.size, 1, none⟩ = some (.slice A' 9 c') := by rw [hb.cell t1]; exact b1
  have t2 : w.heap.size < w2.heap.size := Nat.lt_of_lt_of_le t1 hb.size
  clear hb hb1 b0 b1 t1
  go_wp2_with fail
  refine (l1In2_q HI.out _).mono ?_
  rintro e w3 ⟨rfl, rfl⟩
  obtain ⟨b, off, A2, n2, d2, rfl, hbb, hcell, hn2, hd2, hdm, -⟩ := (rdM_at HA.out HB2.out) k (by have := H3.out; omega)
  have hn2b : n2 ≤ 1048576 := by have := HS.out k (by have := H3.out; omega); omega
  have hn2i : (n2 : Int) ≤ 1048576 := by omega
  have HN2 := hide hn2
  have hkc : k < c := by omega
  clear hn2 hdm
  go_wp2
  go_loopg [5, 6] 4 (fun g v i wo => ∃ wr : World, wr = wo ∧ ∃ j : Nat, j ≤ 3 ∧ g = 4 - j ∧ i = .int .i64 j ∧ v = .int .i64 ((n2 + cntY y k j : Nat) : Int) ∧ Below w2.heap.size w2 wr)
  case atStart => exact ⟨_, rfl, 0, by omega, rfl, rfl, by simp [cntY], Below.refl _ _⟩
  case round =>
    obtain ⟨wr, rfl, j, hj, hg, rfl, rfl, hB⟩ := hrel
    have HG := hide hg
    have HB := hide hB
    have hcb := cntY_le HS'.out hk H9.out j hj
    clear hg hB hcell
    by_cases hlt : j < 3
    · have hji : (j : Int) < 3 := by omega
      obtain ⟨b3, off3, A3, n3, d3, rfl, hb3, hcell3, hn3, hd3, hdm3, -⟩ := (rdM_at HA'.out (below_go HB2.out HB.out)) (j * 3 + k) (by have := H9.out; omega)
      have hn3b : n3 ≤ 1048576 := by have := HS'.out (j * 3 + k) (by have := H9.out; omega); omega
      have HN3 := hide hn3
      have c1 : wr.cell? ⟨w.heap.size, 1, none⟩ = some (.slice (some ⟨b3, off3, none⟩) 9 c') := by rw [HB.out.cell t2]; exact c1
      obtain ⟨q, eq⟩ : ∃ q : Nat, q = n2 + cntY y k j := ⟨_, rfl⟩
      have hq : q ≤ 4194304 := by omega
      have HE : Hid (n2 + cntY y k (j + 1) = q + n3) := hide (by simp only [cntY]; rw [← HN3.out]; omega)
      rw [← eq]
      clear eq hcb hdm3 hn3 c0
      obtain ⟨p, ep⟩ : ∃ p : Nat, p = j * 3 + k := ⟨_, rfl⟩
      rw [← ep] at hcell3
      have hp9 : p < 9 := by omega
      have hpi : (p : Int) < 9 := by omega
      have hpc : p < c' := by omega
      have HC : Hid (ownR j k = (p : Int)) := hide (by rw [ownR_nat hlt hk, ep])
      clear ep
      have hw : IntKind.i64.wrap ((q : Int) + (n3 : Int)) = (q : Int) + n3 := IntWalk.i64_in _ (by omega)
      go_wp2_with fail
      go_quiet (first | (go_at_call 13; exact Calls.quiet_of_same ((specOwnAt_any j k _).mono fun e w' h => ⟨by rw [h.1, HC.out], h.2.symm⟩)))
      rename_i nq
      have HBW := hide (HB.out.trans (show Below w2.heap.size wr (wr.drewN nq) from ⟨rfl, rfl, rfl, Nat.le_refl _, fun _ _ => rfl⟩))
      go_wp2
      go_roundg (4 - (j + 1))
      case measure => have := HG.out; omega
      case rel => exact ⟨_, rfl, j + 1, by omega, rfl, by go_num, by rw [HE.out]; go_num, HBW.out⟩
    · have hji : ¬ (j : Int) < 3 := by omega
      obtain rfl : j = 3 := by omega
      have HY : Hid (((n2 + cntY y k 3 : Nat) : Int) = freeR z y k) := hide (by rw [HX.out, HN2.out])
      rw [HY.out]
      clear hcb
      go_wp2
      go_ret
      exact ⟨rfl, below_go HB2.out HB.out⟩
set_option maxRecDepth 100000 in
set_option maxHeartbeats 1600000 in
theorem implFreeOf_any (A A' : Option Addr) (n c n' c' : Nat) (z y : List (List Int)) (x : Int) (w : World) (hn : n = z.length) (hn' : n' = y.length) (hc : n ≤ c) (hc' : n' ≤ c') (hm : n + sumL z n + n' + sumL y n' ≤ 1048576) (ha : RdM w A z w.heap.size) (ha' : RdM w A' y w.heap.size) :
    Calls Try.prog 11 #[.agg #[.slice A n c, .slice A' n' c'], .int .i64 x] w fun e w' => e = .returned (.int .i64 (freeR z y x)) ∧ Below w.heap.size w w' := by
  have HS : Hid (∀ j, j < z.length → (z.getD j []).length ≤ 1048576) := hide (fun j hj => by have := len_le z n j (by omega); omega)
  have HS' : Hid (∀ j, j < y.length → (y.getD j []).length ≤ 1048576) := hide (fun j hj => by have := len_le y n' j (by omega); omega)
  have HN := hide hn
  have HN' := hide hn'
  have HA := hide ha
  have HA' := hide ha'
  have HM := hide hm
  have HOK : Hid (∀ W : World, RdM W A z W.heap.size → RdM W A' y W.heap.size → ∀ r, okR z y = r → Calls Try.prog 23 #[.agg #[.slice A n c, .slice A' n' c']] W fun e w' => e = .returned (.bool r) ∧ Below W.heap.size W w') := hide (fun W h1 h2 r hr => by subst hr; exact implListsOk_any A A' n c n' c' z y W hn hn' hm h1 h2)
  clear hn hn' ha ha' hm
  cases hok : okR z y
  · have HX : Hid (freeR z y x = 0) := hide (by unfold freeR; rw [if_neg (by rw [hok]; simp)])
    have HQ := hide hok
    clear hok
    go_enter Try.func11, Try.ntmps11
    go_wp2_with fail
    have hb1 : Below w.heap.size w (w.alloc (.cells #[.slice A n c, .slice A' n' c'] 26)) := (Below.refl _ _).alloc (Nat.le_refl _) _
    refine (HOK.out _ (rdM_at HA.out hb1) (rdM_at HA'.out hb1) false HQ.out).mono ?_
    rintro e w2 ⟨rfl, hb⟩
    have HB2 := hide (below_go hb1 hb)
    clear hb hb1
    go_wp2
    go_ret
    exact ⟨retI HX.out.symm, HB2.out⟩
  obtain ⟨h3, h9⟩ := okR_lens hok
  have H3 : Hid (z.length = 3) := hide h3
  have H9 : Hid (y.length = 9) := hide h9
  obtain rfl : n = 3 := by have := HN.out; omega
  obtain rfl : n' = 9 := by have := HN'.out; omega
  clear h3 h9
  cases hin : in02 x
  · have HX : Hid (freeR z y x = 0) := hide (by unfold freeR; rw [if_neg (by rw [hin]; simp)])
    have HQ := hide hok
    have HI := hide hin
    clear hok hin
    go_enter Try.func11, Try.ntmps11
    go_wp2_with fail
    have hb1 : Below w.heap.size w (w.alloc (.cells #[.slice A 3 c, .slice A' 9 c'] 26)) := (Below.refl _ _).alloc (Nat.le_refl _) _
    refine (HOK.out _ (rdM_at HA.out hb1) (rdM_at HA'.out hb1) true HQ.out).mono ?_
    rintro e w2 ⟨rfl, hb⟩
    have HB2 := hide (below_go hb1 hb)
    clear hb hb1
    go_wp2_with fail
    refine (isClass_q HI.out _).mono ?_
    rintro e w3 ⟨rfl, rfl⟩
    go_wp2
    go_ret
    exact ⟨retI HX.out.symm, HB2.out⟩
  obtain ⟨k, rfl, hk⟩ := in02_nat hin
  have HX : Hid (freeR z y k = (((z.getD k []).length + cntY y k 3 : Nat) : Int)) := hide (by unfold freeR; rw [if_pos ⟨hok, hin⟩]; rfl)
  have HQ := hide hok
  have HI := hide hin
  have hki : (k : Int) < 3 := by omega
  clear hok hin
  go_enter Try.func11, Try.ntmps11
  go_wp2_with fail
  obtain ⟨w1, hW⟩ : ∃ W : World, W = w.alloc (.cells #[.slice A 3 c, .slice A' 9 c'] 26) := ⟨_, rfl⟩
  rw [← hW]
  have hb1 : Below w.heap.size w w1 := by rw [hW]; exact (Below.refl _ _).alloc (Nat.le_refl _) _
  have t1 : w.heap.size < w1.heap.size := by rw [hW]; simp
  have b0 : w1.cell? ⟨w.heap.size, 0, none⟩ = some (.slice A 3 c) := by rw [hW]; go_simp
  have b1 : w1.cell? ⟨w.heap.size, 1, none⟩ = some (.slice A' 9 c') := by rw [hW]; go_simp
  clear hW
  refine (HOK.out _ (rdM_at HA.out hb1) (rdM_at HA'.out hb1) true HQ.out).mono ?_
  rintro e w2 ⟨rfl, hb⟩
  have HB2 := hide (below_go hb1 hb)
  have c0 : w2.cell? ⟨w.heap.size, 0, none⟩ = some (.slice A 3 c) := by rw [hb.cell t1]; exact b0
  have c1 : w2.cell? ⟨w.heap.size, 1, none⟩ = some (.slice A' 9 c') := by rw [hb.cell t1]; exact b1
  have t2 : w.heap.size < w2.heap.size := Nat.lt_of_lt_of_le t1 hb.size
  clear hb hb1 b0 b1 t1
  go_wp2_with fail
  refine (isClass_q HI.out _).mono ?_
  rintro e w3 ⟨rfl, rfl⟩
  obtain ⟨b, off, A2, n2, d2, rfl, hbb, hcell, hn2, hd2, hdm, -⟩ := (rdM_at HA.out HB2.out) k (by have := H3.out; omega)
  have hn2b : n2 ≤ 1048576 := by have := HS.out k (by have := H3.out; omega); omega
  have hn2i : (n2 : Int) ≤ 1048576 := by omega
  have HN2 := hide hn2
  have hkc : k < c := by omega
  clear hn2 hdm
  go_wp2
  go_loopg [5, 22] 4 (fun g v i wo => ∃ wr : World, wr = wo ∧ ∃ j : Nat, j ≤ 3 ∧ g = 4 - j ∧ i = .int .i64 j ∧ v = .int .i64 ((n2 + cntY y k j : Nat) : Int) ∧ Below w2.heap.size w2 wr)
  case atStart => exact ⟨_, rfl, 0, by omega, rfl, rfl, by simp [cntY], Below.refl _ _⟩
  case round =>
    obtain ⟨wr, rfl, j, hj, hg, rfl, rfl, hB⟩ := hrel
    have HG := hide hg
    have HB := hide hB
    have hcb := cntY_le HS'.out hk H9.out j hj
    clear hg hB hcell
    by_cases hlt : j < 3
    · have hji : (j : Int) < 3 := by omega
      obtain ⟨b3, off3, A3, n3, d3, rfl, hb3, hcell3, hn3, hd3, hdm3, -⟩ := (rdM_at HA'.out (below_go HB2.out HB.out)) (j * 3 + k) (by have := H9.out; omega)
      have hn3b : n3 ≤ 1048576 := by have := HS'.out (j * 3 + k) (by have := H9.out; omega); omega
      have HN3 := hide hn3
      have c1 : wr.cell? ⟨w.heap.size, 1, none⟩ = some (.slice (some ⟨b3, off3, none⟩) 9 c') := by rw [HB.out.cell t2]; exact c1
      obtain ⟨q, eq⟩ : ∃ q : Nat, q = n2 + cntY y k j := ⟨_, rfl⟩
      have hq : q ≤ 4194304 := by omega
      have HE : Hid (n2 + cntY y k (j + 1) = q + n3) := hide (by simp only [cntY]; rw [← HN3.out]; omega)
      rw [← eq]
      clear eq hcb hdm3 hn3 c0
      obtain ⟨p, ep⟩ : ∃ p : Nat, p = j * 3 + k := ⟨_, rfl⟩
      rw [← ep] at hcell3
      have hp9 : p < 9 := by omega
      have hpi : (p : Int) < 9 := by omega
      have hpc : p < c' := by omega
      have HC : Hid (ownR j k = (p : Int)) := hide (by rw [ownR_nat hlt hk, ep])
      clear ep
      have hw : IntKind.i64.wrap ((q : Int) + (n3 : Int)) = (q : Int) + n3 := IntWalk.i64_in _ (by omega)
      go_wp2_with fail
      go_quiet (first | (go_at_call 22; exact Calls.quiet_of_same ((implOwnAt_any j k _).mono fun e w' h => ⟨by rw [h.1, HC.out], h.2.symm⟩)))
      rename_i nq
      have HBW := hide (HB.out.trans (show Below w2.heap.size wr (wr.drewN nq) from ⟨rfl, rfl, rfl, Nat.le_refl _, fun _ _ => rfl⟩))
      go_wp2
      go_roundg (4 - (j + 1))
      case measure => have := HG.out; omega
      case rel => exact ⟨_, rfl, j + 1, by omega, rfl, by go_num, by rw [HE.out]; go_num, HBW.out⟩
    · have hji : ¬ (j : Int) < 3 := by omega
      obtain rfl : j = 3 := by omega
      have HY : Hid (((n2 + cntY y k 3 : Nat) : Int) = freeR z y k) := hide (by rw [HX.out, HN2.out])
      rw [HY.out]
      clear hcb
      go_wp2
      go_ret
      exact ⟨rfl, below_go HB2.out HB.out⟩
end Go.Proofs.Ytdhocncfpapncab
