/-
  SameLists: have two values equal lists? The contracts and the walk of the law.
-/
import Derived.Test.YtdhocncfpapncabLsts
import Derived.Test.YtdhocncfpapncabSame
namespace Go.Proofs.Ytdhocncfpapncab
open Go.RowKit
set_option linter.unusedVariables false

theorem listG_eq {α : Type} (d : α) {xs ys : List α} (hl : xs.length = ys.length) (h : ∀ j, j < xs.length → xs.getD j d = ys.getD j d) : xs = ys := by
  refine List.ext_getElem hl fun j h1 h2 => ?_
  have := h j h1
  simpa [List.getD, h1, h2] using this
def sameL (z z' : List (List Int)) : Bool := decide (z = z')
def sameR (z y z' y' : List (List Int)) : Bool := sameL z z' && sameL y y'
theorem sameL_len {z z' : List (List Int)} (h : ¬ z.length = z'.length) : sameL z z' = false := decide_eq_false (fun e => h (by rw [e]))
theorem sameL_at {z z' : List (List Int)} {k : Nat} (h : decide (z.getD k [] = z'.getD k []) = false) : sameL z z' = false := decide_eq_false (fun e => by rw [e] at h; simp at h)
theorem sameL_yes {z z' : List (List Int)} (hl : z.length = z'.length) (h : ∀ j, j < z.length → z.getD j [] = z'.getD j []) : sameL z z' = true := decide_eq_true (listG_eq [] hl h)
set_option maxRecDepth 100000 in
set_option maxHeartbeats 1600000 in
theorem l8Same_any (A B : Option Addr) (n c m d : Nat) (z z' : List (List Int)) (w : World) (hn : n = z.length) (hm : m = z'.length) (hz : n ≤ 1048576) (hz' : m ≤ 1048576) (hs : ∀ j, j < z.length → (z.getD j []).length ≤ 1048576) (hs' : ∀ j, j < z'.length → (z'.getD j []).length ≤ 1048576) (ha : RdM w A z w.heap.size) (hb : RdM w B z' w.heap.size) :
    Calls Try.prog 30 #[.slice A n c, .slice B m d] w fun e w' => e = .returned (.bool (sameL z z')) ∧ Below w.heap.size w w' := by
  have HN := hide hn
  have HM := hide hm
  have HA := hide ha
  have HB := hide hb
  have HS := hide hs
  have HS' := hide hs'
  have q1 : (n : Int) ≤ 1048576 := by omega
  have q2 : (m : Int) ≤ 1048576 := by omega
  clear hn hm ha hb hs hs'
  by_cases hl : n = m
  · subst hl
    go_enter Try.func30, Try.ntmps30
    go_wp2
    go_loopg [5] (n + 1) (fun g i wr => Below w.heap.size w wr ∧ ∃ k : Nat, k ≤ n ∧ g = n + 1 - k ∧ i = .int .i64 k ∧ ∀ j, j < k → z.getD j [] = z'.getD j [])
    case atStart => exact ⟨Below.refl _ _, 0, Nat.zero_le _, rfl, rfl, fun j hj => absurd hj (by omega)⟩
    case round =>
      obtain ⟨hB, k, hk, hg, rfl, hall⟩ := hrel
      have HG := hide hg
      have HALL := hide hall
      have HW := hide hB
      clear hg hall hB
      by_cases hlt : k < n
      · have hi : (k : Int) < (n : Int) := by omega
        obtain ⟨b1, o1, A1, n1, c1, rfl, hb1, hcell1, hn1, hc1, hcm1, hrd1⟩ := (HA.out.below HW.out (Nat.le_refl _)) k (by have := HN.out; omega)
        obtain ⟨b2, o2, A2, n2, c2, rfl, hb2, hcell2, hn2, hc2, hcm2, hrd2⟩ := (HB.out.below HW.out (Nat.le_refl _)) k (by have := HM.out; omega)
        have hz1 : n1 ≤ 2097152 := by have := HS.out k (by have := HN.out; omega); omega
        have hz2 : n2 ≤ 2097152 := by have := HS'.out k (by have := HM.out; omega); omega
        have HN1 := hide hn1
        have HN2 := hide hn2
        have HR1 := hide hrd1
        have HR2 := hide hrd2
        have HC : Hid (∀ W : World, Below wr.heap.size wr W → Calls Try.prog 45 #[.slice A1 n1 c1, .slice A2 n2 c2] W fun e w' => e = .returned (.bool (decide (z.getD k [] = z'.getD k []))) ∧ Below W.heap.size W w') := hide (fun W hW => specSame_any A1 A2 n1 n2 c1 c2 (z.getD k []) (z'.getD k []) w.heap.size W hn1 hn2 hz1 hz2 (hrd1.below hW HW.out.size) (hrd2.below hW HW.out.size))
        have hlb1 := Nat.lt_of_lt_of_le hb1 HW.out.size
        have hlb2 := Nat.lt_of_lt_of_le hb2 HW.out.size
        clear hn1 hn2 hrd1 hrd2
        cases hq : decide (z.getD k [] = z'.getD k [])
        · have HF : Hid (sameL z z' = false) := hide (sameL_at hq)
          rw [hq] at HC
          clear hq
          go_wp2_with fail
          go_region_held3 (fun w' => (w'.cell? ⟨b1, o1 + k, none⟩ = some (.slice A1 n1 c1) ∧ w'.cell? ⟨b2, o2 + k, none⟩ = some (.slice A2 n2 c2)) ∧ Below wr.heap.size wr w')
            (first | (exact keep21 hlb1 hlb2 (by assumption) (by assumption)) | (exact ⟨⟨hcell1, hcell2⟩, (Below.refl _ _).drew⟩))
            (first | (go_at_call 45; refine (HC.out _ (And.right (by assumption))).mono ?_; rintro e w' ⟨rfl, hb⟩))
          have hS := ‹(_ ∧ _) ∧ Below wr.heap.size wr _›
          have hBf := hS.2
          have HB2 := hide (below_go HW.out hBf)
          clear hS hBf
          go_wp2
          go_ret
          exact ⟨retB HF.out.symm, HB2.out⟩
        · have HE : Hid (z.getD k [] = z'.getD k []) := hide (by simpa using hq)
          rw [hq] at HC
          clear hq
          go_wp2_with fail
          go_region_held3 (fun w' => (w'.cell? ⟨b1, o1 + k, none⟩ = some (.slice A1 n1 c1) ∧ w'.cell? ⟨b2, o2 + k, none⟩ = some (.slice A2 n2 c2)) ∧ Below wr.heap.size wr w')
            (first | (exact keep21 hlb1 hlb2 (by assumption) (by assumption)) | (exact ⟨⟨hcell1, hcell2⟩, (Below.refl _ _).drew⟩))
            (first | (go_at_call 45; refine (HC.out _ (And.right (by assumption))).mono ?_; rintro e w' ⟨rfl, hb⟩))
          have hS := ‹(_ ∧ _) ∧ Below wr.heap.size wr _›
          have hBf := hS.2
          have HB2 := hide (below_go HW.out hBf)
          clear hS hBf
          go_wp2
          go_roundg (n + 1 - (k + 1))
          case measure => have := HG.out; omega
          case rel => exact ⟨HB2.out, k + 1, by omega, rfl, by go_num, fun j hj => by
            by_cases e : j = k
            · subst e; exact HE.out
            · exact HALL.out j (by omega)⟩
      · have hi : ¬ (k : Int) < (n : Int) := by omega
        have HT : Hid (sameL z z' = true) := hide (sameL_yes (by rw [← HN.out, ← HM.out]) (fun j hj => HALL.out j (by have := HN.out; omega)))
        go_wp2
        go_ret
        exact ⟨retB HT.out.symm, HW.out⟩
  · have HF : Hid (sameL z z' = false) := hide (sameL_len (fun e => hl (by rw [HN.out, HM.out, e])))
    have hne : ¬ (n : Int) = (m : Int) := by omega
    go_enter Try.func30, Try.ntmps30
    go_wp2
    go_ret
    exact ⟨retB HF.out.symm, Below.refl _ _⟩
set_option maxRecDepth 100000 in
set_option maxHeartbeats 1600000 in
theorem specSameLists_any (A A' B B' : Option Addr) (n c n' c' m d m' d' : Nat) (z y z1 y1 : List (List Int)) (w : World) (hn : n = z.length) (hn' : n' = y.length) (hm : m = z1.length) (hm' : m' = y1.length) (hq : n + sumL z n + n' + sumL y n' ≤ 1048576) (hq' : m + sumL z1 m + m' + sumL y1 m' ≤ 1048576)
    (ha : RdM w A z w.heap.size) (ha' : RdM w A' y w.heap.size) (hb : RdM w B z1 w.heap.size) (hb' : RdM w B' y1 w.heap.size) :
    Calls Try.prog 8 #[.agg #[.slice A n c, .slice A' n' c'], .agg #[.slice B m d, .slice B' m' d']] w fun e w' => e = .returned (.bool (sameR z y z1 y1)) ∧ Below w.heap.size w w' := by
  have HS1 : Hid (∀ j, j < z.length → (z.getD j []).length ≤ 1048576) := hide (fun j hj => by have := len_le z n j (by omega); omega)
  have HS2 : Hid (∀ j, j < y.length → (y.getD j []).length ≤ 1048576) := hide (fun j hj => by have := len_le y n' j (by omega); omega)
  have HS3 : Hid (∀ j, j < z1.length → (z1.getD j []).length ≤ 1048576) := hide (fun j hj => by have := len_le z1 m j (by omega); omega)
  have HS4 : Hid (∀ j, j < y1.length → (y1.getD j []).length ≤ 1048576) := hide (fun j hj => by have := len_le y1 m' j (by omega); omega)
  have i1 : n ≤ 1048576 := by omega
  have i2 : n' ≤ 1048576 := by omega
  have i3 : m ≤ 1048576 := by omega
  have i4 : m' ≤ 1048576 := by omega
  have H1 := hide hn
  have H2 := hide hn'
  have H3 := hide hm
  have H4 := hide hm'
  have HA := hide ha
  have HA' := hide ha'
  have HB := hide hb
  have HB' := hide hb'
  clear hn hn' hm hm' hq hq' ha ha' hb hb'
  go_enter Try.func8, Try.ntmps8
  go_wp2_with fail
  obtain ⟨w1, hW⟩ : ∃ W : World, W = (w.alloc (.cells #[.slice A n c, .slice A' n' c'] 26)).alloc (.cells #[.slice B m d, .slice B' m' d'] 26) := ⟨_, rfl⟩
  rw [← hW]
  have hb1 : Below w.heap.size w w1 := by rw [hW]; exact ((Below.refl _ _).alloc (Nat.le_refl _) _).alloc (by simp) _
  have HW1 := hide hb1
  have t1 : w.heap.size < w1.heap.size := by rw [hW]; simp <;> omega
  have t2 : w.heap.size + 1 < w1.heap.size := by rw [hW]; simp <;> omega
  have b1 : w1.cell? ⟨w.heap.size, 1, none⟩ = some (.slice A' n' c') := by rw [hW]; go_simp
  have b2 : w1.cell? ⟨w.heap.size + 1, 1, none⟩ = some (.slice B' m' d') := by rw [hW]; go_simp
  clear hW hb1
  refine (l8Same_any A B n c m d z z1 w1 H1.out H3.out i1 i3 HS1.out HS3.out (rdM_at HA.out HW1.out) (rdM_at HB.out HW1.out)).mono ?_
  rintro e w2 ⟨rfl, hb⟩
  have k1 : w2.cell? ⟨w.heap.size, 1, none⟩ = some (.slice A' n' c') := by rw [hb.cell t1]; exact b1
  have k2 : w2.cell? ⟨w.heap.size + 1, 1, none⟩ = some (.slice B' m' d') := by rw [hb.cell t2]; exact b2
  have HW2 := hide (below_go HW1.out hb)
  clear hb b1 b2
  cases h1 : sameL z z1
  · have HX : Hid (sameR z y z1 y1 = false) := hide (by unfold sameR; rw [h1]; rfl)
    clear h1
    go_wp2
    go_ret
    exact ⟨retB HX.out.symm, HW2.out⟩
  · have HX : Hid (sameR z y z1 y1 = sameL y y1) := hide (by unfold sameR; rw [h1]; rfl)
    clear h1
    go_wp2_with fail
    refine (l8Same_any A' B' n' c' m' d' y y1 w2 H2.out H4.out i2 i4 HS2.out HS4.out (rdM_at HA'.out HW2.out) (rdM_at HB'.out HW2.out)).mono ?_
    rintro e w3 ⟨rfl, hb⟩
    have HW3 := hide (below_go HW2.out hb)
    rw [← HX.out]
    clear hb
    generalize hv : sameR z y z1 y1 = v
    have HV := hide hv
    clear hv
    go_wp2
    go_ret
    exact ⟨retB HV.out.symm, HW3.out⟩

end Go.Proofs.Ytdhocncfpapncab
