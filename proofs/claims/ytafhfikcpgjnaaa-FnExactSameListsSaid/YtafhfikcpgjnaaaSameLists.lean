/-
  SameLists: have two values equal lists? The contracts and the walk of the law.
-/
import Derived.Test.YtafhfikcpgjnaaaLsts
import Derived.Test.YtafhfikcpgjnaaaSame
namespace Go.Proofs.Ytafhfikcpgjnaaa
open Go.RowKit
set_option linter.unusedVariables false

theorem listG_eq {α : Type} (d : α) {xs ys : List α} (hl : xs.length = ys.length) (h : ∀ j, j < xs.length → xs.getD j d = ys.getD j d) : xs = ys := by
  refine List.ext_getElem hl fun j h1 h2 => ?_
  have := h j h1
  simpa [List.getD, h1, h2] using this
def sameL (z z' : List (List Int)) : Bool := decide (z = z')
def sameR (z y z' y' : List (List Int)) : Bool := sameL z z' && sameL y y'
theorem sameL_len {z z' : List (List Int)} (h : ¬ z.length = z'.length) : sameL z z' = false := decide_eq_false (fun e => h (by rw [e]))
theorem sameL_at {z z' : List (List Int)} {k : Nat} (h : decide (z.getD k [] = z'.getD k []) = false) : sameL z z' = false := decide_eq_false (fun e => by rw [e] at h; simp at h)
theorem sameL_yes {z z' : List (List Int)} (hl : z.length = z'.length) (h : ∀ j, j < z.length → z.getD j [] = z'.getD j []) : sameL z z' = true := decide_eq_true (listG_eq [] hl h)
set_option maxRecDepth 100000 in
set_option maxHeartbeats 1600000 in
theorem l8Same_any (A B : Option Addr) (n c m d : Nat) (z z' : List (List Int)) (w : World) (hn : n = z.length) (hm : m = z'.length) (hz : n ≤ 1048576) (hz' : m ≤ 1048576) (hs : ∀ j, j < z.length → (z.getD j []).length ≤ 1048576) (hs' : ∀ j, j < z'.length → (z'.getD j []).length ≤ 1048576) (ha : RdM w A z w.heap.size) (hb : RdM w B z' w.heap.size) :
    Calls Try.prog 42 #[.slice A n c, .slice B m d] w fun e w' => e = .returned (.bool (sameL z z')) ∧ Below w.heap.size w w' := by
  have HN := hide hn
  have HM := hide hm
  have HA := hide ha
  have HB := hide hb
  have HS := hide hs
  have HS' := hide hs'
  have q1 : (n : Int) ≤ 1048576 := by omega
  have q2 : (m : Int) ≤ 1048576 := by omega
  clear hn hm ha hb hs hs'
  by_cases hl : n = m
  · subst hl
    go_enter Try.func42, Try.ntmps42
    go_wp2
    go_loopg [5] (n + 1) (fun g i wr => Below w.heap.size w wr ∧ ∃ k : Nat, k ≤ n ∧ g = n + 1 - k ∧ i = .int .i64 k ∧ ∀ j, j < k → z.getD j [] = z'.getD j [])
    case atStart => exact ⟨Below.refl _ _, 0, Nat.zero_le _, rfl, rfl, fun j hj => absurd hj (by omega)⟩
    case round =>
      obtain ⟨hB, k, hk, hg, rfl, hall⟩ := hrel
      have HG := hide hg
      have HALL := hide hall
      have HW := hide hB
      clear hg hall hB
      by_cases hlt : k < n
      · have hi : (k : Int) < (n : Int) := by omega
        obtain ⟨b1, o1, A1, n1, c1, rfl, hb1, hcell1, hn1, hc1, hcm1, hrd1⟩ := (HA.out.below HW.out (Nat.le_refl _)) k (by have := HN.out; omega)
        obtain ⟨b2, o2, A2, n2, c2, rfl, hb2, hcell2, hn2, hc2, hcm2, hrd2⟩ := (HB.out.below HW.out (Nat.le_refl _)) k (by have := HM.out; omega)
        have hz1 : n1 ≤ 2097152 := by have := HS.out k (by have := HN.out; omega); omega
        have hz2 : n2 ≤ 2097152 := by have := HS'.out k (by have := HM.out; omega); omega
        have HN1 := hide hn1
        have HN2 := hide hn2
        have HR1 := hide hrd1
        have HR2 := hide hrd2
        have HC : Hid (∀ W : World, Below wr.heap.size wr W → Calls Try.prog 64 #[.slice A1 n1 c1, .slice A2 n2 c2] W fun e w' => e = .returned (.bool (decide (z.getD k [] = z'.getD k []))) ∧ Below W.heap.size W w') := hide (fun W hW => specSame_any A1 A2 n1 n2 c1 c2 (z.getD k []) (z'.getD k []) w.heap.size W hn1 hn2 hz1 hz2 (hrd1.below hW HW.out.size) (hrd2.below hW HW.out.size))
        have hlb1 := Nat.lt_of_lt_of_le hb1 HW.out.size
        have hlb2 := Nat.lt_of_lt_of_le hb2 HW.out.size
        clear hn1 hn2 hrd1 hrd2
        cases hq : decide (z.getD k [] = z'.getD k [])
        · have HF : Hid (sameL z z' = false) := hide (sameL_at hq)
          rw [hq] at HC
          clear hq
          go_wp2_with fail
          go_region_held3 (fun w' => (w'.cell? ⟨b1, o1 + k, none⟩ = some (.slice A1 n1 c1) ∧ w'.cell? ⟨b2, o2 + k, none⟩ = some (.slice A2 n2 c2)) ∧ Below wr.heap.size wr w')
            (first | (exact keep21 hlb1 hlb2 (by assumption) (by assumption)) | (exact ⟨⟨hcell1, hcell2⟩, (Below.refl _ _).drew⟩))
            (first | (go_at_call 64; refine (HC.out _ (And.right (by assumption))).mono ?_; rintro e w' ⟨rfl, hb⟩))
          have hS := ‹(_ ∧ _) ∧ Below wr.heap.size wr _›
          have hBf := hS.2
          have HB2 := hide (below_go HW.out hBf)
          clear hS hBf
          go_wp2
          go_ret
          exact ⟨retB HF.out.symm, HB2.out⟩
        · have HE : Hid (z.getD k [] = z'.getD k []) := hide (by simpa using hq)
          rw [hq] at HC
          clear hq
          go_wp2_with fail
          go_region_held3 (fun w' => (w'.cell? ⟨b1, o1 + k, none⟩ = some (.slice A1 n1 c1) ∧ w'.cell? ⟨b2, o2 + k, none⟩ = some (.slice A2 n2 c2)) ∧ Below wr.heap.size wr w')
            (first | (exact keep21 hlb1 hlb2 (by assumption) (by assumption)) | (exact ⟨⟨hcell1, hcell2⟩, (Below.refl _ _).drew⟩))
            (first | (go_at_call 64; refine (HC.out _ (And.right (by assumption))).mono ?_; rintro e w' ⟨rfl, hb⟩))
          have hS := ‹(_ ∧ _) ∧ Below wr.heap.size wr _›
          have hBf := hS.2
          have HB2 := hide (below_go HW.out hBf)
          clear hS hBf
          go_wp2
          go_roundg (n + 1 - (k + 1))
          case measure => have := HG.out; omega
          case rel => exact ⟨HB2.out, k + 1, by omega, rfl, by go_num, fun j hj => by
            by_cases e : j = k
            · subst e; exact HE.out
            · exact HALL.out j (by omega)⟩
      · have hi : ¬ (k : Int) < (n : Int) := by omega
        have HT : Hid (sameL z z' = true) := hide (sameL_yes (by rw [← HN.out, ← HM.out]) (fun j hj => HALL.out j (by have := HN.out; omega)))
        go_wp2
        go_ret
        exact ⟨retB HT.out.symm, HW.out⟩
  · have HF : Hid (sameL z z' = false) := hide (sameL_len (fun e => hl (by rw [HN.out, HM.out, e])))
    have hne : ¬ (n : Int) = (m : Int) := by omega
    go_enter Try.func42, Try.ntmps42
    go_wp2
    go_ret
    exact ⟨retB HF.out.symm, Below.refl _ _⟩
theorem sameClos_any (A B : Option Addr) (n m c d : Nat) (xs ys : List Int) (w : World) (hn : n = xs.length) (hm : m = ys.length) (hz : n ≤ 2097152) (hz2 : m ≤ 2097152) (ha : RdB .i64 w A xs w.heap.size) (hb : RdB .i64 w B ys w.heap.size) :
    Calls Try.prog 43 #[.agg #[.slice A n c], .agg #[.slice B m d]] w fun e w' => e = .returned (.bool (decide (xs = ys))) ∧ Below w.heap.size w w' := by
  have HN := hide hn
  have HM := hide hm
  have HA := hide ha
  have HB := hide hb
  clear hn hm ha hb
  go_enter Try.func43, Try.ntmps43
  go_wp2_with fail
  have hb0 : Below w.heap.size w ((w.alloc (.cells #[.slice A n c] 54)).alloc (.cells #[.slice B m d] 54)) := ((Below.refl _ _).alloc (Nat.le_refl _) _).alloc (by simp) _
  refine (slicesEqual_any A B n m c d xs ys w.heap.size _ HN.out HM.out hz hz2 (HA.out.below hb0 (Nat.le_refl _)) (HB.out.below hb0 (Nat.le_refl _))).mono ?_
  rintro e w1 ⟨rfl, hb⟩
  have HB1 := hide (below_go hb0 hb)
  generalize hv : decide (xs = ys) = v
  have HV := hide hv
  clear hv hb
  go_wp2
  go_ret
  exact ⟨retB HV.out.symm, HB1.out⟩
set_option maxRecDepth 100000 in
set_option maxHeartbeats 1600000 in
theorem equalFunc_any (A B : Option Addr) (n c m d : Nat) (z z' : List (List Int)) (w : World) (hn : n = z.length) (hm : m = z'.length) (hz : n ≤ 1048576) (hz' : m ≤ 1048576) (hs : ∀ j, j < z.length → (z.getD j []).length ≤ 1048576) (hs' : ∀ j, j < z'.length → (z'.getD j []).length ≤ 1048576) (ha : RdM w A z w.heap.size) (hb : RdM w B z' w.heap.size) :
    Calls Try.prog 45 #[.slice A n c, .slice B m d, .func (.func 43) #[] #[]] w fun e w' => e = .returned (.bool (sameL z z')) ∧ Below w.heap.size w w' := by
  have HN := hide hn
  have HM := hide hm
  have HA := hide ha
  have HB := hide hb
  have HS := hide hs
  have HS' := hide hs'
  have q1 : (n : Int) ≤ 1048576 := by omega
  have q2 : (m : Int) ≤ 1048576 := by omega
  clear hn hm ha hb hs hs'
  by_cases hl : n = m
  · subst hl
    go_enter Try.func45, Try.ntmps45
    go_wp2
    go_loopg [7, 8, 9, 17] (n + 1) (fun g _x _x8 _x9 i wr => Below w.heap.size w wr ∧ ∃ k : Nat, k ≤ n ∧ g = n + 1 - k ∧ i = .int .i64 k ∧ ∀ j, j < k → z.getD j [] = z'.getD j [])
    case atStart => exact ⟨Below.refl _ _, 0, Nat.zero_le _, rfl, rfl, fun j hj => absurd hj (by omega)⟩
    case round =>
      obtain ⟨hB, k, hk, hg, rfl, hall⟩ := hrel
      have HG := hide hg
      have HALL := hide hall
      have HW := hide hB
      clear hg hall hB
      by_cases hlt : k < n
      · have hi : (k : Int) < (n : Int) := by omega
        obtain ⟨b1, o1, A1, n1, c1, rfl, hb1, hcell1, hn1, hc1, hcm1, hrd1⟩ := (HA.out.below HW.out (Nat.le_refl _)) k (by have := HN.out; omega)
        obtain ⟨b2, o2, A2, n2, c2, rfl, hb2, hcell2, hn2, hc2, hcm2, hrd2⟩ := (HB.out.below HW.out (Nat.le_refl _)) k (by have := HM.out; omega)
        have hz1 : n1 ≤ 2097152 := by have := HS.out k (by have := HN.out; omega); omega
        have hz2 : n2 ≤ 2097152 := by have := HS'.out k (by have := HM.out; omega); omega
        have HN1 := hide hn1
        have HN2 := hide hn2
        have HR1 := hide hrd1
        have HR2 := hide hrd2
        have hlb1 := Nat.lt_of_lt_of_le hb1 HW.out.size
        have hlb2 := Nat.lt_of_lt_of_le hb2 HW.out.size
        clear hn1 hn2 hrd1 hrd2
        go_wp2_with fail
        have hb0 : Below wr.heap.size wr ((wr.alloc (.cells #[.slice A1 n1 c1] 54)).alloc (.cells #[.slice A2 n2 c2] 54)) := ((Below.refl _ _).alloc (Nat.le_refl _) _).alloc (by simp) _
        have hbw := below_go HW.out hb0
        refine (sameClos_any A1 A2 n1 n2 c1 c2 (z.getD k []) (z'.getD k []) _ HN1.out HN2.out hz1 hz2 ((HR1.out.below hb0 HW.out.size).more hbw.size) ((HR2.out.below hb0 HW.out.size).more hbw.size)).mono ?_
        rintro e w1 ⟨rfl, hb⟩
        have HB1 := hide (below_go hbw hb)
        clear hb hbw hb0
        cases hq : decide (z.getD k [] = z'.getD k [])
        · have HF : Hid (sameL z z' = false) := hide (sameL_at hq)
          clear hq
          go_wp2
          go_ret
          exact ⟨retB HF.out.symm, HB1.out⟩
        · have HE : Hid (z.getD k [] = z'.getD k []) := hide (by simpa using hq)
          clear hq
          go_wp2
          go_roundg (n + 1 - (k + 1))
          case measure => have := HG.out; omega
          case rel => exact ⟨HB1.out, k + 1, by omega, rfl, by go_num, fun j hj => by
            by_cases e : j = k
            · subst e; exact HE.out
            · exact HALL.out j (by omega)⟩
      · have hi : ¬ (k : Int) < (n : Int) := by omega
        have HT : Hid (sameL z z' = true) := hide (sameL_yes (by rw [← HN.out, ← HM.out]) (fun j hj => HALL.out j (by have := HN.out; omega)))
        go_wp2
        go_ret
        exact ⟨retB HT.out.symm, HW.out⟩
  · have HF : Hid (sameL z z' = false) := hide (sameL_len (fun e => hl (by rw [HN.out, HM.out, e])))
    have hne : ¬ (n : Int) = (m : Int) := by omega
    go_enter Try.func45, Try.ntmps45
    go_wp2
    go_ret
    exact ⟨retB HF.out.symm, Below.refl _ _⟩

set_option maxRecDepth 100000 in
set_option maxHeartbeats 1600000 in
theorem specSameLists_any (A A' B B' : Option Addr) (n c n' c' m d m' d' : Nat) (z y z1 y1 : List (List Int)) (w : World) (hn : n = z.length) (hn' : n' = y.length) (hm : m = z1.length) (hm' : m' = y1.length) (hq : n + sumL z n + n' + sumL y n' ≤ 1048576) (hq' : m + sumL z1 m + m' + sumL y1 m' ≤ 1048576)
    (ha : RdM w A z w.heap.size) (ha' : RdM w A' y w.heap.size) (hb : RdM w B z1 w.heap.size) (hb' : RdM w B' y1 w.heap.size) :
    Calls Try.prog 20 #[.agg #[.slice A n c, .slice A' n' c'], .agg #[.slice B m d, .slice B' m' d']] w fun e w' => e = .returned (.bool (sameR z y z1 y1)) ∧ Below w.heap.size w w' := by
  have HS1 : Hid (∀ j, j < z.length → (z.getD j []).length ≤ 1048576) := hide (fun j hj => by have := len_le z n j (by omega); omega)
  have HS2 : Hid (∀ j, j < y.length → (y.getD j []).length ≤ 1048576) := hide (fun j hj => by have := len_le y n' j (by omega); omega)
  have HS3 : Hid (∀ j, j < z1.length → (z1.getD j []).length ≤ 1048576) := hide (fun j hj => by have := len_le z1 m j (by omega); omega)
  have HS4 : Hid (∀ j, j < y1.length → (y1.getD j []).length ≤ 1048576) := hide (fun j hj => by have := len_le y1 m' j (by omega); omega)
  have i1 : n ≤ 1048576 := by omega
  have i2 : n' ≤ 1048576 := by omega
  have i3 : m ≤ 1048576 := by omega
  have i4 : m' ≤ 1048576 := by omega
  have H1 := hide hn
  have H2 := hide hn'
  have H3 := hide hm
  have H4 := hide hm'
  have HA := hide ha
  have HA' := hide ha'
  have HB := hide hb
  have HB' := hide hb'
  clear hn hn' hm hm' hq hq' ha ha' hb hb'
  go_enter Try.func20, Try.ntmps20
  go_wp2_with fail
  obtain ⟨w1, hW⟩ : ∃ W : World, W = (w.alloc (.cells #[.slice A n c, .slice A' n' c'] 24)).alloc (.cells #[.slice B m d, .slice B' m' d'] 24) := ⟨_, rfl⟩
  rw [← hW]
  have hb1 : Below w.heap.size w w1 := by rw [hW]; exact ((Below.refl _ _).alloc (Nat.le_refl _) _).alloc (by simp) _
  have HW1 := hide hb1
  have t1 : w.heap.size < w1.heap.size := by rw [hW]; simp <;> omega
  have t2 : w.heap.size + 1 < w1.heap.size := by rw [hW]; simp <;> omega
  have b1 : w1.cell? ⟨w.heap.size, 1, none⟩ = some (.slice A' n' c') := by rw [hW]; go_simp
  have b2 : w1.cell? ⟨w.heap.size + 1, 1, none⟩ = some (.slice B' m' d') := by rw [hW]; go_simp
  clear hW hb1
  refine (l8Same_any A B n c m d z z1 w1 H1.out H3.out i1 i3 HS1.out HS3.out (rdM_at HA.out HW1.out) (rdM_at HB.out HW1.out)).mono ?_
  rintro e w2 ⟨rfl, hb⟩
  have k1 : w2.cell? ⟨w.heap.size, 1, none⟩ = some (.slice A' n' c') := by rw [hb.cell t1]; exact b1
  have k2 : w2.cell? ⟨w.heap.size + 1, 1, none⟩ = some (.slice B' m' d') := by rw [hb.cell t2]; exact b2
  have HW2 := hide (below_go HW1.out hb)
  clear hb b1 b2
  cases h1 : sameL z z1
  · have HX : Hid (sameR z y z1 y1 = false) := hide (by unfold sameR; rw [h1]; rfl)
    clear h1
    go_wp2
    go_ret
    exact ⟨retB HX.out.symm, HW2.out⟩
  · have HX : Hid (sameR z y z1 y1 = sameL y y1) := hide (by unfold sameR; rw [h1]; rfl)
    clear h1
    go_wp2_with fail
    refine (l8Same_any A' B' n' c' m' d' y y1 w2 H2.out H4.out i2 i4 HS2.out HS4.out (rdM_at HA'.out HW2.out) (rdM_at HB'.out HW2.out)).mono ?_
    rintro e w3 ⟨rfl, hb⟩
    have HW3 := hide (below_go HW2.out hb)
    rw [← HX.out]
    clear hb
    generalize hv : sameR z y z1 y1 = v
    have HV := hide hv
    clear hv
    go_wp2
    go_ret
    exact ⟨retB HV.out.symm, HW3.out⟩

set_option maxRecDepth 100000 in
set_option maxHeartbeats 1600000 in
theorem implSameLists_any (A A' B B' : Option Addr) (n c n' c' m d m' d' : Nat) (z y z1 y1 : List (List Int)) (w : World) (hn : n = z.length) (hn' : n' = y.length) (hm : m = z1.length) (hm' : m' = y1.length) (hq : n + sumL z n + n' + sumL y n' ≤ 1048576) (hq' : m + sumL z1 m + m' + sumL y1 m' ≤ 1048576)
    (ha : RdM w A z w.heap.size) (ha' : RdM w A' y w.heap.size) (hb : RdM w B z1 w.heap.size) (hb' : RdM w B' y1 w.heap.size) :
    Calls Try.prog 21 #[.agg #[.slice A n c, .slice A' n' c'], .agg #[.slice B m d, .slice B' m' d']] w fun e w' => e = .returned (.bool (sameR z y z1 y1)) ∧ Below w.heap.size w w' := by
  have HS1 : Hid (∀ j, j < z.length → (z.getD j []).length ≤ 1048576) := hide (fun j hj => by have := len_le z n j (by omega); omega)
  have HS2 : Hid (∀ j, j < y.length → (y.getD j []).length ≤ 1048576) := hide (fun j hj => by have := len_le y n' j (by omega); omega)
  have HS3 : Hid (∀ j, j < z1.length → (z1.getD j []).length ≤ 1048576) := hide (fun j hj => by have := len_le z1 m j (by omega); omega)
  have HS4 : Hid (∀ j, j < y1.length → (y1.getD j []).length ≤ 1048576) := hide (fun j hj => by have := len_le y1 m' j (by omega); omega)
  have i1 : n ≤ 1048576 := by omega
  have i2 : n' ≤ 1048576 := by omega
  have i3 : m ≤ 1048576 := by omega
  have i4 : m' ≤ 1048576 := by omega
  have H1 := hide hn
  have H2 := hide hn'
  have H3 := hide hm
  have H4 := hide hm'
  have HA := hide ha
  have HA' := hide ha'
  have HB := hide hb
  have HB' := hide hb'
  clear hn hn' hm hm' hq hq' ha ha' hb hb'
  go_enter Try.func21, Try.ntmps21
  go_wp2_with fail
  obtain ⟨w1, hW⟩ : ∃ W : World, W = (w.alloc (.cells #[.slice A n c, .slice A' n' c'] 24)).alloc (.cells #[.slice B m d, .slice B' m' d'] 24) := ⟨_, rfl⟩
  rw [← hW]
  have hb1 : Below w.heap.size w w1 := by rw [hW]; exact ((Below.refl _ _).alloc (Nat.le_refl _) _).alloc (by simp) _
  have HW1 := hide hb1
  have t1 : w.heap.size < w1.heap.size := by rw [hW]; simp <;> omega
  have t2 : w.heap.size + 1 < w1.heap.size := by rw [hW]; simp <;> omega
  have b1 : w1.cell? ⟨w.heap.size, 1, none⟩ = some (.slice A' n' c') := by rw [hW]; go_simp
  have b2 : w1.cell? ⟨w.heap.size + 1, 1, none⟩ = some (.slice B' m' d') := by rw [hW]; go_simp
  clear hW hb1
  refine (equalFunc_any A B n c m d z z1 w1 H1.out H3.out i1 i3 HS1.out HS3.out (rdM_at HA.out HW1.out) (rdM_at HB.out HW1.out)).mono ?_
  rintro e w2 ⟨rfl, hb⟩
  have k1 : w2.cell? ⟨w.heap.size, 1, none⟩ = some (.slice A' n' c') := by rw [hb.cell t1]; exact b1
  have k2 : w2.cell? ⟨w.heap.size + 1, 1, none⟩ = some (.slice B' m' d') := by rw [hb.cell t2]; exact b2
  have HW2 := hide (below_go HW1.out hb)
  clear hb b1 b2
  cases h1 : sameL z z1
  · have HX : Hid (sameR z y z1 y1 = false) := hide (by unfold sameR; rw [h1]; rfl)
    clear h1
    go_wp2
    go_ret
    exact ⟨retB HX.out.symm, HW2.out⟩
  · have HX : Hid (sameR z y z1 y1 = sameL y y1) := hide (by unfold sameR; rw [h1]; rfl)
    clear h1
    go_wp2_with fail
    refine (equalFunc_any A' B' n' c' m' d' y y1 w2 H2.out H4.out i2 i4 HS2.out HS4.out (rdM_at HA'.out HW2.out) (rdM_at HB'.out HW2.out)).mono ?_
    rintro e w3 ⟨rfl, hb⟩
    have HW3 := hide (below_go HW2.out hb)
    rw [← HX.out]
    clear hb
    generalize hv : sameR z y z1 y1 = v
    have HV := hide hv
    clear hv
    go_wp2
    go_ret
    exact ⟨retB HV.out.symm, HW3.out⟩

set_option maxRecDepth 100000 in
set_option maxHeartbeats 3200000 in
theorem fnExactSameLists_walk (v0_0 v0_1 : Value) (v1_0 v1_1 : Value) (w : World) (h0 : ListsArg w v0_0 v0_1) (h1 : ListsArg w v1_0 v1_1) :
    Calls Try.prog 5 #[.agg #[v0_0, v0_1], .agg #[v1_0, v1_1]] w fun e w' => e = .returned (.bool true) ∧ Below w.heap.size w w' := by
  obtain ⟨z0, y0, ⟨A0, n0, c0, rfl, hn0, hnc0, hc0, hr0⟩, ⟨B0, m0, d0, rfl, hm0, hmd0, hd0, hs0⟩⟩ := h0
  have Hn0 := hide hn0
  clear hn0
  have Hm0 := hide hm0
  clear hm0
  have Hr0 := hide hr0
  clear hr0
  have Hs0 := hide hs0
  clear hs0
  obtain ⟨z1, y1, ⟨A1, n1, c1, rfl, hn1, hnc1, hc1, hr1⟩, ⟨B1, m1, d1, rfl, hm1, hmd1, hd1, hs1⟩⟩ := h1
  have Hn1 := hide hn1
  clear hn1
  have Hm1 := hide hm1
  clear hm1
  have Hr1 := hide hr1
  clear hr1
  have Hs1 := hide hs1
  clear hs1
  have HB0 := hide (Below.refl w.heap.size w)
  go_enter Try.func5, Try.ntmps5
  go_wp2_with fail
  obtain ⟨w1, hW⟩ : ∃ W : World, W = ((w.alloc (.cells #[(.slice A0 n0 c0), (.slice B0 m0 d0)] 31)).alloc (.cells #[(.slice A1 n1 c1), (.slice B1 m1 d1)] 31)) := ⟨_, rfl⟩
  rw [← hW]
  have hb : Below w.heap.size w w1 := by rw [hW]; exact (((Below.refl _ _).alloc (by simp <;> omega) _).alloc (by simp <;> omega) _)
  have b0_0_1 : w1.cell? ⟨w.heap.size, 0, none⟩ = some (.slice A0 n0 c0) := by rw [hW]; go_simp
  have b0_1_1 : w1.cell? ⟨w.heap.size, 1, none⟩ = some (.slice B0 m0 d0) := by rw [hW]; go_simp
  have t0_1 : w.heap.size < w1.heap.size := by rw [hW]; simp <;> omega
  have u0 := t0_1
  have b1_0_1 : w1.cell? ⟨w.heap.size + 1, 0, none⟩ = some (.slice A1 n1 c1) := by rw [hW]; go_simp
  have b1_1_1 : w1.cell? ⟨w.heap.size + 1, 1, none⟩ = some (.slice B1 m1 d1) := by rw [hW]; go_simp
  have t1_1 : w.heap.size + 1 < w1.heap.size := by rw [hW]; simp <;> omega
  have u1 := t1_1
  clear hW
  have HB1 := hide (HB0.out.trans (hb.mono HB0.out.size))
  have hs1 : w.heap.size ≤ w1.heap.size := hb.size
  clear hb
  refine (szLists_any A0 B0 n0 c0 m0 d0 z0 y0 1048576 _ Hn0.out Hm0.out (by omega) (by omega) hnc0 hc0 hmd0 hd0 (rdL_at Hr0.out HB1.out) (rdL_at Hs0.out HB1.out)).mono ?_
  rintro e w2 ⟨⟨L0, rfl, hL0⟩, hb⟩
  have HB2 := hide (HB1.out.trans (hb.mono HB1.out.size))
  have hs2 : w1.heap.size ≤ w2.heap.size := hb.size
  have b0_0_2 : w2.cell? ⟨w.heap.size, 0, none⟩ = some (.slice A0 n0 c0) := by rw [hb.cell t0_1]; exact b0_0_1
  have b0_1_2 : w2.cell? ⟨w.heap.size, 1, none⟩ = some (.slice B0 m0 d0) := by rw [hb.cell t0_1]; exact b0_1_1
  have t0_2 : w.heap.size < w2.heap.size := Nat.lt_of_lt_of_le t0_1 hs2
  clear b0_0_1 b0_1_1 t0_1
  have b1_0_2 : w2.cell? ⟨(w.heap.size + 1), 0, none⟩ = some (.slice A1 n1 c1) := by rw [hb.cell t1_1]; exact b1_0_1
  have b1_1_2 : w2.cell? ⟨(w.heap.size + 1), 1, none⟩ = some (.slice B1 m1 d1) := by rw [hb.cell t1_1]; exact b1_1_1
  have t1_2 : (w.heap.size + 1) < w2.heap.size := Nat.lt_of_lt_of_le t1_1 hs2
  clear b1_0_1 b1_1_1 t1_1
  clear hb
  by_cases hneg0 : L0 < 0
  case pos =>
    go_wp2
    go_ret
    exact ⟨rfl, HB2.out⟩
  have hq0 : n0 + sumL z0 n0 + m0 + sumL y0 m0 ≤ 1048576 := by omega
  have HQ0 := hide hq0
  have hL0b : 0 ≤ L0 ∧ L0 ≤ 1048576 := by omega
  clear hL0 hq0
  go_wp2_with fail
  refine (szLists_any A1 B1 n1 c1 m1 d1 z1 y1 L0 _ Hn1.out Hm1.out (by omega) (by omega) hnc1 hc1 hmd1 hd1 (rdL_at Hr1.out HB2.out) (rdL_at Hs1.out HB2.out)).mono ?_
  rintro e w3 ⟨⟨L1, rfl, hL1⟩, hb⟩
  have HB3 := hide (HB2.out.trans (hb.mono HB2.out.size))
  have hs3 : w2.heap.size ≤ w3.heap.size := hb.size
  have b0_0_3 : w3.cell? ⟨w.heap.size, 0, none⟩ = some (.slice A0 n0 c0) := by rw [hb.cell t0_2]; exact b0_0_2
  have b0_1_3 : w3.cell? ⟨w.heap.size, 1, none⟩ = some (.slice B0 m0 d0) := by rw [hb.cell t0_2]; exact b0_1_2
  have t0_3 : w.heap.size < w3.heap.size := Nat.lt_of_lt_of_le t0_2 hs3
  clear b0_0_2 b0_1_2 t0_2
  have b1_0_3 : w3.cell? ⟨(w.heap.size + 1), 0, none⟩ = some (.slice A1 n1 c1) := by rw [hb.cell t1_2]; exact b1_0_2
  have b1_1_3 : w3.cell? ⟨(w.heap.size + 1), 1, none⟩ = some (.slice B1 m1 d1) := by rw [hb.cell t1_2]; exact b1_1_2
  have t1_3 : (w.heap.size + 1) < w3.heap.size := Nat.lt_of_lt_of_le t1_2 hs3
  clear b1_0_2 b1_1_2 t1_2
  clear hb
  by_cases hneg1 : L1 < 0
  case pos =>
    go_wp2
    go_ret
    exact ⟨rfl, HB3.out⟩
  have hq1 : n1 + sumL z1 n1 + m1 + sumL y1 m1 ≤ 1048576 := by omega
  have HQ1 := hide hq1
  have hL1b : 0 ≤ L1 ∧ L1 ≤ 1048576 := by omega
  clear hL1 hq1
  go_wp2_with fail
  go_region_held3 (fun w' => (w'.cell? ⟨w.heap.size, 0, none⟩ = some (.slice A0 n0 c0) ∧ w'.cell? ⟨w.heap.size, 1, none⟩ = some (.slice B0 m0 d0) ∧ w'.cell? ⟨(w.heap.size + 1), 0, none⟩ = some (.slice A1 n1 c1) ∧ w'.cell? ⟨(w.heap.size + 1), 1, none⟩ = some (.slice B1 m1 d1)) ∧ Below w3.heap.size w3 w')
    (first | (exact keep22 t0_3 t0_3 t1_3 t1_3 (by assumption) (by assumption)) | (exact ⟨⟨b0_0_3, b0_1_3, b1_0_3, b1_1_3⟩, (Below.refl _ _).drew⟩))
    (first
      | (go_at_call 18; refine (toLists_any _ _ _ _ _ _ _ _ _ (by first | exact Hn0.out | exact Hn1.out) (by first | exact Hm0.out | exact Hm1.out) (by first | exact HQ0.out | exact HQ1.out) (by first | exact rdLS Hr0.out HB3.out (by assumption) | exact rdLS Hr1.out HB3.out (by assumption)) (by first | exact rdLS Hs0.out HB3.out (by assumption) | exact rdLS Hs1.out HB3.out (by assumption))).mono ?_; rintro e w_p ⟨g, g', rfl, hop, hop', hb⟩)
      | (go_at_call 20; refine (specSameLists_any _ _ _ _ _ _ _ _ _ _ _ _ z0 y0 z1 y1 _ Hn0.out Hm0.out Hn1.out Hm1.out HQ0.out HQ1.out (by first | assumption | exact rdM_at (by assumption) (by assumption)) (by first | assumption | exact rdM_at (by assumption) (by assumption)) (by first | assumption | exact rdM_at (by assumption) (by assumption)) (by first | assumption | exact rdM_at (by assumption) (by assumption))).mono ?_; rintro e w_r ⟨rfl, hb⟩))
  have hS := ‹(_ ∧ _) ∧ Below w3.heap.size w3 _›
  obtain ⟨w4, rfl, -, hb⟩ := named (C := fun W => (W.cell? ⟨w.heap.size, 0, none⟩ = some (.slice A0 n0 c0) ∧ W.cell? ⟨w.heap.size, 1, none⟩ = some (.slice B0 m0 d0) ∧ W.cell? ⟨(w.heap.size + 1), 0, none⟩ = some (.slice A1 n1 c1) ∧ W.cell? ⟨(w.heap.size + 1), 1, none⟩ = some (.slice B1 m1 d1))) hS
  clear hS
  have HB4 := hide (HB3.out.trans (hb.mono HB3.out.size))
  have hs4 : w3.heap.size ≤ w4.heap.size := hb.size
  have b0_0_4 : w4.cell? ⟨w.heap.size, 0, none⟩ = some (.slice A0 n0 c0) := by rw [hb.cell t0_3]; exact b0_0_3
  have b0_1_4 : w4.cell? ⟨w.heap.size, 1, none⟩ = some (.slice B0 m0 d0) := by rw [hb.cell t0_3]; exact b0_1_3
  have t0_4 : w.heap.size < w4.heap.size := Nat.lt_of_lt_of_le t0_3 hs4
  clear b0_0_3 b0_1_3 t0_3
  have b1_0_4 : w4.cell? ⟨(w.heap.size + 1), 0, none⟩ = some (.slice A1 n1 c1) := by rw [hb.cell t1_3]; exact b1_0_3
  have b1_1_4 : w4.cell? ⟨(w.heap.size + 1), 1, none⟩ = some (.slice B1 m1 d1) := by rw [hb.cell t1_3]; exact b1_1_3
  have t1_4 : (w.heap.size + 1) < w4.heap.size := Nat.lt_of_lt_of_le t1_3 hs4
  clear b1_0_3 b1_1_3 t1_3
  clear hb
  go_wp2_with fail
  refine (toLists_any A0 B0 n0 c0 m0 d0 z0 y0 _ Hn0.out Hm0.out HQ0.out (rdL_at Hr0.out HB4.out) (rdL_at Hs0.out HB4.out)).mono ?_
  rintro e w5 ⟨g_p, k_p, rfl, ho, ho', hb⟩
  have HB5 := hide (HB4.out.trans (hb.mono HB4.out.size))
  have hs5 : w4.heap.size ≤ w5.heap.size := hb.size
  have b0_0_5 : w5.cell? ⟨w.heap.size, 0, none⟩ = some (.slice A0 n0 c0) := by rw [hb.cell t0_4]; exact b0_0_4
  have b0_1_5 : w5.cell? ⟨w.heap.size, 1, none⟩ = some (.slice B0 m0 d0) := by rw [hb.cell t0_4]; exact b0_1_4
  have t0_5 : w.heap.size < w5.heap.size := Nat.lt_of_lt_of_le t0_4 hs5
  clear b0_0_4 b0_1_4 t0_4
  have b1_0_5 : w5.cell? ⟨(w.heap.size + 1), 0, none⟩ = some (.slice A1 n1 c1) := by rw [hb.cell t1_4]; exact b1_0_4
  have b1_1_5 : w5.cell? ⟨(w.heap.size + 1), 1, none⟩ = some (.slice B1 m1 d1) := by rw [hb.cell t1_4]; exact b1_1_4
  have t1_5 : (w.heap.size + 1) < w5.heap.size := Nat.lt_of_lt_of_le t1_4 hs5
  clear b1_0_4 b1_1_4 t1_4
  clear hb
  have Op_5 := hide ho
  have Pp_5 := hide ho'
  clear ho ho'
  go_wp2_with fail
  obtain ⟨w6, hW⟩ : ∃ W : World, W = w5.alloc (.cells #[(.slice (some ⟨g_p, 0, none⟩) n0 n0), (.slice (some ⟨k_p, 0, none⟩) m0 m0)] 24) := ⟨_, rfl⟩
  rw [← hW]
  have hb : Below w5.heap.size w5 w6 := by rw [hW]; exact (Below.refl _ _).alloc (Nat.le_refl _) _
  have nb0 : w6.cell? ⟨w5.heap.size, 0, none⟩ = some (.slice (some ⟨g_p, 0, none⟩) n0 n0) := by rw [hW]; go_simp
  have nb1 : w6.cell? ⟨w5.heap.size, 1, none⟩ = some (.slice (some ⟨k_p, 0, none⟩) m0 m0) := by rw [hW]; go_simp
  have nt : w5.heap.size < w6.heap.size := by rw [hW]; simp
  clear hW
  have HB6 := hide (HB5.out.trans (hb.mono HB5.out.size))
  have hs6 : w5.heap.size ≤ w6.heap.size := hb.size
  have b0_0_6 : w6.cell? ⟨w.heap.size, 0, none⟩ = some (.slice A0 n0 c0) := by rw [hb.cell t0_5]; exact b0_0_5
  have b0_1_6 : w6.cell? ⟨w.heap.size, 1, none⟩ = some (.slice B0 m0 d0) := by rw [hb.cell t0_5]; exact b0_1_5
  have t0_6 : w.heap.size < w6.heap.size := Nat.lt_of_lt_of_le t0_5 hs6
  clear b0_0_5 b0_1_5 t0_5
  have b1_0_6 : w6.cell? ⟨(w.heap.size + 1), 0, none⟩ = some (.slice A1 n1 c1) := by rw [hb.cell t1_5]; exact b1_0_5
  have b1_1_6 : w6.cell? ⟨(w.heap.size + 1), 1, none⟩ = some (.slice B1 m1 d1) := by rw [hb.cell t1_5]; exact b1_1_5
  have t1_6 : (w.heap.size + 1) < w6.heap.size := Nat.lt_of_lt_of_le t1_5 hs6
  clear b1_0_5 b1_1_5 t1_5
  have Op_6 := hide (rdM_at Op_5.out hb)
  clear Op_5
  have Pp_6 := hide (rdM_at Pp_5.out hb)
  clear Pp_5
  clear hb
  have bp_0_6 := nb0
  have bp_1_6 := nb1
  have tp_6 := nt
  have up := nt
  clear nb0 nb1 nt
  refine (toLists_any A1 B1 n1 c1 m1 d1 z1 y1 _ Hn1.out Hm1.out HQ1.out (rdL_at Hr1.out HB6.out) (rdL_at Hs1.out HB6.out)).mono ?_
  rintro e w7 ⟨g_q, k_q, rfl, ho, ho', hb⟩
  have HB7 := hide (HB6.out.trans (hb.mono HB6.out.size))
  have hs7 : w6.heap.size ≤ w7.heap.size := hb.size
  have b0_0_7 : w7.cell? ⟨w.heap.size, 0, none⟩ = some (.slice A0 n0 c0) := by rw [hb.cell t0_6]; exact b0_0_6
  have b0_1_7 : w7.cell? ⟨w.heap.size, 1, none⟩ = some (.slice B0 m0 d0) := by rw [hb.cell t0_6]; exact b0_1_6
  have t0_7 : w.heap.size < w7.heap.size := Nat.lt_of_lt_of_le t0_6 hs7
  clear b0_0_6 b0_1_6 t0_6
  have b1_0_7 : w7.cell? ⟨(w.heap.size + 1), 0, none⟩ = some (.slice A1 n1 c1) := by rw [hb.cell t1_6]; exact b1_0_6
  have b1_1_7 : w7.cell? ⟨(w.heap.size + 1), 1, none⟩ = some (.slice B1 m1 d1) := by rw [hb.cell t1_6]; exact b1_1_6
  have t1_7 : (w.heap.size + 1) < w7.heap.size := Nat.lt_of_lt_of_le t1_6 hs7
  clear b1_0_6 b1_1_6 t1_6
  have bp_0_7 : w7.cell? ⟨w5.heap.size, 0, none⟩ = some (.slice (some ⟨g_p, 0, none⟩) n0 n0) := by rw [hb.cell tp_6]; exact bp_0_6
  have bp_1_7 : w7.cell? ⟨w5.heap.size, 1, none⟩ = some (.slice (some ⟨k_p, 0, none⟩) m0 m0) := by rw [hb.cell tp_6]; exact bp_1_6
  have tp_7 : w5.heap.size < w7.heap.size := Nat.lt_of_lt_of_le tp_6 hs7
  clear bp_0_6 bp_1_6 tp_6
  have Op_7 := hide (rdM_at Op_6.out hb)
  clear Op_6
  have Pp_7 := hide (rdM_at Pp_6.out hb)
  clear Pp_6
  clear hb
  have Oq_7 := hide ho
  have Pq_7 := hide ho'
  clear ho ho'
  go_wp2_with fail
  obtain ⟨w8, hW⟩ : ∃ W : World, W = w7.alloc (.cells #[(.slice (some ⟨g_q, 0, none⟩) n1 n1), (.slice (some ⟨k_q, 0, none⟩) m1 m1)] 24) := ⟨_, rfl⟩
  rw [← hW]
  have hb : Below w7.heap.size w7 w8 := by rw [hW]; exact (Below.refl _ _).alloc (Nat.le_refl _) _
  have nb0 : w8.cell? ⟨w7.heap.size, 0, none⟩ = some (.slice (some ⟨g_q, 0, none⟩) n1 n1) := by rw [hW]; go_simp
  have nb1 : w8.cell? ⟨w7.heap.size, 1, none⟩ = some (.slice (some ⟨k_q, 0, none⟩) m1 m1) := by rw [hW]; go_simp
  have nt : w7.heap.size < w8.heap.size := by rw [hW]; simp
  clear hW
  have HB8 := hide (HB7.out.trans (hb.mono HB7.out.size))
  have hs8 : w7.heap.size ≤ w8.heap.size := hb.size
  have b0_0_8 : w8.cell? ⟨w.heap.size, 0, none⟩ = some (.slice A0 n0 c0) := by rw [hb.cell t0_7]; exact b0_0_7
  have b0_1_8 : w8.cell? ⟨w.heap.size, 1, none⟩ = some (.slice B0 m0 d0) := by rw [hb.cell t0_7]; exact b0_1_7
  have t0_8 : w.heap.size < w8.heap.size := Nat.lt_of_lt_of_le t0_7 hs8
  clear b0_0_7 b0_1_7 t0_7
  have b1_0_8 : w8.cell? ⟨(w.heap.size + 1), 0, none⟩ = some (.slice A1 n1 c1) := by rw [hb.cell t1_7]; exact b1_0_7
  have b1_1_8 : w8.cell? ⟨(w.heap.size + 1), 1, none⟩ = some (.slice B1 m1 d1) := by rw [hb.cell t1_7]; exact b1_1_7
  have t1_8 : (w.heap.size + 1) < w8.heap.size := Nat.lt_of_lt_of_le t1_7 hs8
  clear b1_0_7 b1_1_7 t1_7
  have bp_0_8 : w8.cell? ⟨w5.heap.size, 0, none⟩ = some (.slice (some ⟨g_p, 0, none⟩) n0 n0) := by rw [hb.cell tp_7]; exact bp_0_7
  have bp_1_8 : w8.cell? ⟨w5.heap.size, 1, none⟩ = some (.slice (some ⟨k_p, 0, none⟩) m0 m0) := by rw [hb.cell tp_7]; exact bp_1_7
  have tp_8 : w5.heap.size < w8.heap.size := Nat.lt_of_lt_of_le tp_7 hs8
  clear bp_0_7 bp_1_7 tp_7
  have Op_8 := hide (rdM_at Op_7.out hb)
  clear Op_7
  have Pp_8 := hide (rdM_at Pp_7.out hb)
  clear Pp_7
  have Oq_8 := hide (rdM_at Oq_7.out hb)
  clear Oq_7
  have Pq_8 := hide (rdM_at Pq_7.out hb)
  clear Pq_7
  clear hb
  have bq_0_8 := nb0
  have bq_1_8 := nb1
  have tq_8 := nt
  have uq := nt
  clear nb0 nb1 nt
  refine (implSameLists_any _ _ _ _ _ _ _ _ _ _ _ _ z0 y0 z1 y1 _ Hn0.out Hm0.out Hn1.out Hm1.out HQ0.out HQ1.out Op_8.out Pp_8.out Oq_8.out Pq_8.out).mono ?_
  rintro e w9 ⟨rfl, hb⟩
  have HB9 := hide (HB8.out.trans (hb.mono HB8.out.size))
  have hs9 : w8.heap.size ≤ w9.heap.size := hb.size
  have b0_0_9 : w9.cell? ⟨w.heap.size, 0, none⟩ = some (.slice A0 n0 c0) := by rw [hb.cell t0_8]; exact b0_0_8
  have b0_1_9 : w9.cell? ⟨w.heap.size, 1, none⟩ = some (.slice B0 m0 d0) := by rw [hb.cell t0_8]; exact b0_1_8
  have t0_9 : w.heap.size < w9.heap.size := Nat.lt_of_lt_of_le t0_8 hs9
  clear b0_0_8 b0_1_8 t0_8
  have b1_0_9 : w9.cell? ⟨(w.heap.size + 1), 0, none⟩ = some (.slice A1 n1 c1) := by rw [hb.cell t1_8]; exact b1_0_8
  have b1_1_9 : w9.cell? ⟨(w.heap.size + 1), 1, none⟩ = some (.slice B1 m1 d1) := by rw [hb.cell t1_8]; exact b1_1_8
  have t1_9 : (w.heap.size + 1) < w9.heap.size := Nat.lt_of_lt_of_le t1_8 hs9
  clear b1_0_8 b1_1_8 t1_8
  have bp_0_9 : w9.cell? ⟨w5.heap.size, 0, none⟩ = some (.slice (some ⟨g_p, 0, none⟩) n0 n0) := by rw [hb.cell tp_8]; exact bp_0_8
  have bp_1_9 : w9.cell? ⟨w5.heap.size, 1, none⟩ = some (.slice (some ⟨k_p, 0, none⟩) m0 m0) := by rw [hb.cell tp_8]; exact bp_1_8
  have tp_9 : w5.heap.size < w9.heap.size := Nat.lt_of_lt_of_le tp_8 hs9
  clear bp_0_8 bp_1_8 tp_8
  have bq_0_9 : w9.cell? ⟨w7.heap.size, 0, none⟩ = some (.slice (some ⟨g_q, 0, none⟩) n1 n1) := by rw [hb.cell tq_8]; exact bq_0_8
  have bq_1_9 : w9.cell? ⟨w7.heap.size, 1, none⟩ = some (.slice (some ⟨k_q, 0, none⟩) m1 m1) := by rw [hb.cell tq_8]; exact bq_1_8
  have tq_9 : w7.heap.size < w9.heap.size := Nat.lt_of_lt_of_le tq_8 hs9
  clear bq_0_8 bq_1_8 tq_8
  have Op_9 := hide (rdM_at Op_8.out hb)
  clear Op_8
  have Pp_9 := hide (rdM_at Pp_8.out hb)
  clear Pp_8
  have Oq_9 := hide (rdM_at Oq_8.out hb)
  clear Oq_8
  have Pq_9 := hide (rdM_at Pq_8.out hb)
  clear Pq_8
  clear hb
  go_wp2_with fail
  go_region_held3 (fun w' => (w'.cell? ⟨w5.heap.size, 0, none⟩ = some (.slice (some ⟨g_p, 0, none⟩) n0 n0) ∧ w'.cell? ⟨w5.heap.size, 1, none⟩ = some (.slice (some ⟨k_p, 0, none⟩) m0 m0) ∧ w'.cell? ⟨w.heap.size, 0, none⟩ = some (.slice A0 n0 c0) ∧ w'.cell? ⟨w.heap.size, 1, none⟩ = some (.slice B0 m0 d0)) ∧ Below w9.heap.size w9 w')
    (first | (exact keep22 tp_9 tp_9 t0_9 t0_9 (by assumption) (by assumption)) | (exact ⟨⟨bp_0_9, bp_1_9, b0_0_9, b0_1_9⟩, (Below.refl _ _).drew⟩))
    (first
      | (go_at_call 18; refine (toLists_any A0 B0 n0 c0 m0 d0 z0 y0 _ Hn0.out Hm0.out HQ0.out (rdLS Hr0.out HB9.out (by assumption)) (rdLS Hs0.out HB9.out (by assumption))).mono ?_; rintro e w' ⟨g, g', rfl, ho, ho', hb⟩)
      | (go_at_call 13; refine (eqLists_same _ _ _ _ _ _ _ _ _ _ z0 y0 _ Hn0.out Hm0.out HQ0.out (rdMS Op_9.out (by assumption)) (by assumption) (rdMS Pp_9.out (by assumption)) (by assumption)).mono ?_; rintro e w' ⟨rfl, hb⟩))
  have hS := ‹(_ ∧ _) ∧ Below w9.heap.size w9 _›
  obtain ⟨w10, rfl, -, hb⟩ := named (C := fun W => (W.cell? ⟨w5.heap.size, 0, none⟩ = some (.slice (some ⟨g_p, 0, none⟩) n0 n0) ∧ W.cell? ⟨w5.heap.size, 1, none⟩ = some (.slice (some ⟨k_p, 0, none⟩) m0 m0) ∧ W.cell? ⟨w.heap.size, 0, none⟩ = some (.slice A0 n0 c0) ∧ W.cell? ⟨w.heap.size, 1, none⟩ = some (.slice B0 m0 d0))) hS
  clear hS
  have HB10 := hide (HB9.out.trans (hb.mono HB9.out.size))
  have hs10 : w9.heap.size ≤ w10.heap.size := hb.size
  have b0_0_10 : w10.cell? ⟨w.heap.size, 0, none⟩ = some (.slice A0 n0 c0) := by rw [hb.cell t0_9]; exact b0_0_9
  have b0_1_10 : w10.cell? ⟨w.heap.size, 1, none⟩ = some (.slice B0 m0 d0) := by rw [hb.cell t0_9]; exact b0_1_9
  have t0_10 : w.heap.size < w10.heap.size := Nat.lt_of_lt_of_le t0_9 hs10
  clear b0_0_9 b0_1_9 t0_9
  have b1_0_10 : w10.cell? ⟨(w.heap.size + 1), 0, none⟩ = some (.slice A1 n1 c1) := by rw [hb.cell t1_9]; exact b1_0_9
  have b1_1_10 : w10.cell? ⟨(w.heap.size + 1), 1, none⟩ = some (.slice B1 m1 d1) := by rw [hb.cell t1_9]; exact b1_1_9
  have t1_10 : (w.heap.size + 1) < w10.heap.size := Nat.lt_of_lt_of_le t1_9 hs10
  clear b1_0_9 b1_1_9 t1_9
  have bp_0_10 : w10.cell? ⟨w5.heap.size, 0, none⟩ = some (.slice (some ⟨g_p, 0, none⟩) n0 n0) := by rw [hb.cell tp_9]; exact bp_0_9
  have bp_1_10 : w10.cell? ⟨w5.heap.size, 1, none⟩ = some (.slice (some ⟨k_p, 0, none⟩) m0 m0) := by rw [hb.cell tp_9]; exact bp_1_9
  have tp_10 : w5.heap.size < w10.heap.size := Nat.lt_of_lt_of_le tp_9 hs10
  clear bp_0_9 bp_1_9 tp_9
  have bq_0_10 : w10.cell? ⟨w7.heap.size, 0, none⟩ = some (.slice (some ⟨g_q, 0, none⟩) n1 n1) := by rw [hb.cell tq_9]; exact bq_0_9
  have bq_1_10 : w10.cell? ⟨w7.heap.size, 1, none⟩ = some (.slice (some ⟨k_q, 0, none⟩) m1 m1) := by rw [hb.cell tq_9]; exact bq_1_9
  have tq_10 : w7.heap.size < w10.heap.size := Nat.lt_of_lt_of_le tq_9 hs10
  clear bq_0_9 bq_1_9 tq_9
  have Op_10 := hide (rdM_at Op_9.out hb)
  clear Op_9
  have Pp_10 := hide (rdM_at Pp_9.out hb)
  clear Pp_9
  have Oq_10 := hide (rdM_at Oq_9.out hb)
  clear Oq_9
  have Pq_10 := hide (rdM_at Pq_9.out hb)
  clear Pq_9
  clear hb
  go_wp2_with fail
  go_region_held3 (fun w' => (w'.cell? ⟨w7.heap.size, 0, none⟩ = some (.slice (some ⟨g_q, 0, none⟩) n1 n1) ∧ w'.cell? ⟨w7.heap.size, 1, none⟩ = some (.slice (some ⟨k_q, 0, none⟩) m1 m1) ∧ w'.cell? ⟨(w.heap.size + 1), 0, none⟩ = some (.slice A1 n1 c1) ∧ w'.cell? ⟨(w.heap.size + 1), 1, none⟩ = some (.slice B1 m1 d1)) ∧ Below w10.heap.size w10 w')
    (first | (exact keep22 tq_10 tq_10 t1_10 t1_10 (by assumption) (by assumption)) | (exact ⟨⟨bq_0_10, bq_1_10, b1_0_10, b1_1_10⟩, (Below.refl _ _).drew⟩))
    (first
      | (go_at_call 18; refine (toLists_any A1 B1 n1 c1 m1 d1 z1 y1 _ Hn1.out Hm1.out HQ1.out (rdLS Hr1.out HB10.out (by assumption)) (rdLS Hs1.out HB10.out (by assumption))).mono ?_; rintro e w' ⟨g, g', rfl, ho, ho', hb⟩)
      | (go_at_call 13; refine (eqLists_same _ _ _ _ _ _ _ _ _ _ z1 y1 _ Hn1.out Hm1.out HQ1.out (rdMS Oq_10.out (by assumption)) (by assumption) (rdMS Pq_10.out (by assumption)) (by assumption)).mono ?_; rintro e w' ⟨rfl, hb⟩))
  have hS := ‹(_ ∧ _) ∧ Below w10.heap.size w10 _›
  obtain ⟨w11, rfl, -, hb⟩ := named (C := fun W => (W.cell? ⟨w7.heap.size, 0, none⟩ = some (.slice (some ⟨g_q, 0, none⟩) n1 n1) ∧ W.cell? ⟨w7.heap.size, 1, none⟩ = some (.slice (some ⟨k_q, 0, none⟩) m1 m1) ∧ W.cell? ⟨(w.heap.size + 1), 0, none⟩ = some (.slice A1 n1 c1) ∧ W.cell? ⟨(w.heap.size + 1), 1, none⟩ = some (.slice B1 m1 d1))) hS
  clear hS
  have HB11 := hide (HB10.out.trans (hb.mono HB10.out.size))
  have hs11 : w10.heap.size ≤ w11.heap.size := hb.size
  have b0_0_11 : w11.cell? ⟨w.heap.size, 0, none⟩ = some (.slice A0 n0 c0) := by rw [hb.cell t0_10]; exact b0_0_10
  have b0_1_11 : w11.cell? ⟨w.heap.size, 1, none⟩ = some (.slice B0 m0 d0) := by rw [hb.cell t0_10]; exact b0_1_10
  have t0_11 : w.heap.size < w11.heap.size := Nat.lt_of_lt_of_le t0_10 hs11
  clear b0_0_10 b0_1_10 t0_10
  have b1_0_11 : w11.cell? ⟨(w.heap.size + 1), 0, none⟩ = some (.slice A1 n1 c1) := by rw [hb.cell t1_10]; exact b1_0_10
  have b1_1_11 : w11.cell? ⟨(w.heap.size + 1), 1, none⟩ = some (.slice B1 m1 d1) := by rw [hb.cell t1_10]; exact b1_1_10
  have t1_11 : (w.heap.size + 1) < w11.heap.size := Nat.lt_of_lt_of_le t1_10 hs11
  clear b1_0_10 b1_1_10 t1_10
  have bp_0_11 : w11.cell? ⟨w5.heap.size, 0, none⟩ = some (.slice (some ⟨g_p, 0, none⟩) n0 n0) := by rw [hb.cell tp_10]; exact bp_0_10
  have bp_1_11 : w11.cell? ⟨w5.heap.size, 1, none⟩ = some (.slice (some ⟨k_p, 0, none⟩) m0 m0) := by rw [hb.cell tp_10]; exact bp_1_10
  have tp_11 : w5.heap.size < w11.heap.size := Nat.lt_of_lt_of_le tp_10 hs11
  clear bp_0_10 bp_1_10 tp_10
  have bq_0_11 : w11.cell? ⟨w7.heap.size, 0, none⟩ = some (.slice (some ⟨g_q, 0, none⟩) n1 n1) := by rw [hb.cell tq_10]; exact bq_0_10
  have bq_1_11 : w11.cell? ⟨w7.heap.size, 1, none⟩ = some (.slice (some ⟨k_q, 0, none⟩) m1 m1) := by rw [hb.cell tq_10]; exact bq_1_10
  have tq_11 : w7.heap.size < w11.heap.size := Nat.lt_of_lt_of_le tq_10 hs11
  clear bq_0_10 bq_1_10 tq_10
  have Op_11 := hide (rdM_at Op_10.out hb)
  clear Op_10
  have Pp_11 := hide (rdM_at Pp_10.out hb)
  clear Pp_10
  have Oq_11 := hide (rdM_at Oq_10.out hb)
  clear Oq_10
  have Pq_11 := hide (rdM_at Pq_10.out hb)
  clear Pq_10
  clear hb
  go_wp2
  go_ret
  exact ⟨rfl, HB11.out⟩
end Go.Proofs.Ytafhfikcpgjnaaa
