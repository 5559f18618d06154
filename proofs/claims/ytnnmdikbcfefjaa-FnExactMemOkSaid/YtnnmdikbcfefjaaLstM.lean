/-
  The laws' words over lists of slots: sizes, copies, comparison.
-/
import Derived.Test.YtnnmdikbcfefjaaHeap
import Derived.Test.YtnnmdikbcfefjaaInts
import Derived.Test.YtnnmdikbcfefjaaMark
import Derived.Test.YtnnmdikbcfefjaaApp
import Derived.Deep.LoopGhost
import Derived.BigQuiet
import Derived.Deep.RegionHeld3
namespace Go.Proofs.Ytnnmdikbcfefjaa
open Go.RowKit
set_option linter.unusedVariables false

theorem below_go {w W W' : World} (h : Below w.heap.size w W) (hb : Below W.heap.size W W') : Below w.heap.size w W' := h.trans (hb.mono h.size)
def sumL (zss : List (List Int)) : Nat → Nat
  | 0 => 0
  | j + 1 => sumL zss j + (zss.getD j []).length
theorem sumL_le (zss : List (List Int)) {i j : Nat} (h : i ≤ j) : sumL zss i ≤ sumL zss j := by
  induction j with
  | zero => have : i = 0 := by omega
            subst this; exact Nat.le_refl _
  | succ j ih =>
    by_cases e : i = j + 1
    · subst e; exact Nat.le_refl _
    · have := ih (by omega); simp only [sumL]; omega
theorem RdL.below {w w' : World} {A : Option Addr} {zss : List (List Int)} {B B' : Nat} (h : RdL w A zss B) (hb : Below B' w w') (hB : B ≤ B') : RdL w' A zss B := fun j hj => by
  obtain ⟨b, off, A', n', c', e, hbB, hc, h1, h2, h3, h4, h5⟩ := h j hj
  exact ⟨b, off, A', n', c', e, hbB, by rw [hb.cell (show (⟨b, off + j, none⟩ : Addr).block < B' by show b < B'; omega)]; exact hc, h1, h2, h3, h4.below hb hB, h5⟩
theorem RdL.more {w : World} {A : Option Addr} {zss : List (List Int)} {B B' : Nat} (h : RdL w A zss B) (hB : B ≤ B') : RdL w A zss B' := fun j hj => by
  obtain ⟨b, off, A', n', c', e, hbB, hc, h1, h2, h3, h4, h5⟩ := h j hj
  exact ⟨b, off, A', n', c', e, by omega, hc, h1, h2, h3, h4.more hB, h5⟩
theorem rdL_at {w W : World} {A : Option Addr} {z : List (List Int)} (h : RdL w A z w.heap.size) (hb : Below w.heap.size w W) : RdL W A z W.heap.size := (h.below hb (Nat.le_refl _)).more hb.size

/-! sizes -/
def SzRes (e : Ending) (t k : Int) : Prop := ∃ r : Int, e = .returned (.int .i64 r) ∧ (t ≤ k ∧ r = k - t ∨ k < t ∧ r = -1)
theorem szIntS_any (A : Option Addr) (n c : Nat) (k : Int) (w : World) (h0 : 0 ≤ k) (h1 : k ≤ 2097152) (hc : n ≤ c) (hcm : c ≤ maxLen) :
    Calls Try.prog 22 #[.slice A n c, .int .i64 k] w fun e w' => SzRes e n k ∧ w = w' := by
  have h3 : (n : Int) ≤ 9223372036854775807 := by unfold maxLen at hcm; omega
  by_cases h : (n : Int) ≤ k
  · have h2 : ¬ k - (n : Int) < 0 := by omega
    go_enter Try.func22, Try.ntmps22
    go_wp2
    go_ret
    exact ⟨⟨_, rfl, .inl ⟨h, rfl⟩⟩, rfl⟩
  · have h2 : k - (n : Int) < 0 := by omega
    go_enter Try.func22, Try.ntmps22
    go_wp2
    go_ret
    exact ⟨⟨_, rfl, .inr ⟨by omega, rfl⟩⟩, rfl⟩
theorem szSList_any (A : Option Addr) (n c : Nat) (k : Int) (w : World) (h0 : 0 ≤ k) (h1 : k ≤ 2097152) (hc : n ≤ c) (hcm : c ≤ maxLen) :
    Calls Try.prog 41 #[.agg #[.slice A n c], .int .i64 k] w fun e w' => SzRes e n k ∧ Below w.heap.size w w' := by
  have hb0 : Below w.heap.size w (w.alloc (.cells #[.slice A n c] 69)) := (Below.refl _ _).alloc (Nat.le_refl _) _
  go_enter Try.func41, Try.ntmps41
  go_wp2_with fail
  refine (szIntS_any A n c k _ h0 h1 hc hcm).mono ?_
  rintro e w1 ⟨⟨r, rfl, hr⟩, rfl⟩
  have HR := hide hr
  by_cases hlt : r < 0
  · have HX : Hid (r = -1) := hide (by omega)
    clear hr
    go_wp2
    go_ret
    exact ⟨⟨-1, rfl, by have := HR.out; have := HX.out; omega⟩, hb0⟩
  · clear hr
    go_wp2
    go_ret
    exact ⟨⟨r, rfl, HR.out⟩, hb0⟩
set_option maxRecDepth 100000 in
set_option maxHeartbeats 1600000 in
theorem szSListS_any (A : Option Addr) (n c : Nat) (zss : List (List Int)) (k : Int) (w : World) (hn : n = zss.length) (h0 : 0 ≤ k) (h1 : k ≤ 2097152) (hc : n ≤ c) (hcm : c ≤ maxLen) (ha : RdL w A zss w.heap.size) :
    Calls Try.prog 23 #[.slice A n c, .int .i64 k] w fun e w' => SzRes e ((n : Int) + sumL zss n) k ∧ Below w.heap.size w w' := by
  have h3 : (n : Int) ≤ 9223372036854775807 := by unfold maxLen at hcm; omega
  have HN := hide hn
  have HA := hide ha
  clear hn ha
  by_cases h : (n : Int) ≤ k
  · have h2 : ¬ k - (n : Int) < 0 := by omega
    go_enter Try.func23, Try.ntmps23
    go_wp2
    go_loopg [1, 5] (n + 1) (fun g l i wr => Below w.heap.size w wr ∧ ∃ j : Nat, ∃ r : Int, j ≤ n ∧ g = n + 1 - j ∧ i = .int .i64 j ∧ l = .int .i64 r ∧ r = k - n - sumL zss j ∧ 0 ≤ r)
    case atStart => exact ⟨Below.refl _ _, 0, _, Nat.zero_le _, rfl, rfl, rfl, by simp [sumL], by omega⟩
    case round =>
      obtain ⟨hB, j, r, hj, hg, rfl, rfl, hr, hr0⟩ := hrel
      have HG := hide hg
      have HB := hide hB
      have HR := hide hr
      have hrk : r ≤ 2097152 := by omega
      clear hg hB hr
      by_cases hlt : j < n
      · have hi : (j : Int) < (n : Int) := by omega
        obtain ⟨b, off, A', n', c', rfl, hb, hcell, hn', hc', hcm', -, -⟩ := (HA.out.below HB.out (Nat.le_refl _)) j (by have := HN.out; omega)
        have HN' := hide hn'
        have HS := hide (sumL_le zss (show j + 1 ≤ n by omega))
        clear hn'
        go_wp2_with fail
        refine (szSList_any A' n' c' r _ hr0 hrk hc' hcm').mono ?_
        rintro e w1 ⟨⟨r', rfl, hr'⟩, hb'⟩
        have HB1 := hide (below_go HB.out hb')
        have HR' := hide hr'
        clear hb' hr'
        by_cases hlt' : r' < 0
        · have HX : Hid (k < (n : Int) + sumL zss n) := hide (by
            have h5 := HR'.out; have h6 := HR.out; have h7 := HN'.out; have h8 := HS.out
            simp only [sumL] at h8
            omega)
          go_wp2
          go_ret
          exact ⟨⟨-1, rfl, .inr ⟨HX.out, rfl⟩⟩, HB1.out⟩
        · have HX : Hid (r' = k - n - sumL zss (j + 1) ∧ 0 ≤ r') := hide (by
            have h5 := HR'.out; have h6 := HR.out; have h7 := HN'.out
            simp only [sumL]
            omega)
          go_wp2
          go_roundg (n + 1 - (j + 1))
          case measure => have := HG.out; omega
          case rel => exact ⟨HB1.out, j + 1, r', by omega, rfl, by go_num, rfl, HX.out⟩
      · have hi : ¬ (j : Int) < (n : Int) := by omega
        have hjn : j = n := by omega
        subst hjn
        go_wp2
        go_ret
        exact ⟨⟨r, rfl, .inl ⟨by have := HR.out; omega, by have := HR.out; omega⟩⟩, HB.out⟩
  · have h2 : k - (n : Int) < 0 := by omega
    go_enter Try.func23, Try.ntmps23
    go_wp2
    go_ret
    exact ⟨⟨-1, rfl, .inr ⟨by omega, rfl⟩⟩, Below.refl _ _⟩
set_option maxRecDepth 100000 in
set_option maxHeartbeats 1600000 in
theorem szLists_any (A A' : Option Addr) (n c n' c' : Nat) (z z' : List (List Int)) (k : Int) (w : World) (hn : n = z.length) (hn' : n' = z'.length) (h0 : 0 ≤ k) (h1 : k ≤ 2097152) (hc : n ≤ c) (hcm : c ≤ maxLen) (hc' : n' ≤ c') (hcm' : c' ≤ maxLen) (ha : RdL w A z w.heap.size) (ha' : RdL w A' z' w.heap.size) :
    Calls Try.prog 10 #[.agg #[.slice A n c, .slice A' n' c'], .int .i64 k] w fun e w' => SzRes e ((n : Int) + sumL z n + n' + sumL z' n') k ∧ Below w.heap.size w w' := by
  have HN := hide hn
  have HN' := hide hn'
  have HA := hide ha
  have HA' := hide ha'
  clear hn hn' ha ha'
  go_enter Try.func10, Try.ntmps10
  go_wp2_with fail
  obtain ⟨w1, hW⟩ : ∃ W : World, W = w.alloc (.cells #[.slice A n c, .slice A' n' c'] 27) := ⟨_, rfl⟩
  rw [← hW]
  have hb1 : Below w.heap.size w w1 := by rw [hW]; exact (Below.refl _ _).alloc (Nat.le_refl _) _
  have HB1 := hide hb1
  have t1 : w.heap.size < w1.heap.size := by rw [hW]; simp
  have b1 : w1.cell? ⟨w.heap.size, 1, none⟩ = some (.slice A' n' c') := by rw [hW]; go_simp
  clear hW hb1
  refine (szSListS_any A n c z k w1 HN.out h0 h1 hc hcm (rdL_at HA.out HB1.out)).mono ?_
  rintro e w2 ⟨⟨r, rfl, hr⟩, hb⟩
  have k1 : w2.cell? ⟨w.heap.size, 1, none⟩ = some (.slice A' n' c') := by rw [hb.cell t1]; exact b1
  have HB2 := hide (below_go HB1.out hb)
  have HR := hide hr
  clear hb hr b1
  by_cases hlt : r < 0
  · have HX : Hid (k < (n : Int) + sumL z n + n' + sumL z' n') := hide (by have := HR.out; omega)
    go_wp2
    go_ret
    exact ⟨⟨-1, rfl, .inr ⟨HX.out, rfl⟩⟩, HB2.out⟩
  have hr0 : 0 ≤ r := by omega
  have hrk : r ≤ 2097152 := by have := HR.out; omega
  go_wp2_with fail
  refine (szSListS_any A' n' c' z' r w2 HN'.out hr0 hrk hc' hcm' (rdL_at HA'.out HB2.out)).mono ?_
  rintro e w3 ⟨⟨r', rfl, hr'⟩, hb⟩
  have HB3 := hide (below_go HB2.out hb)
  have HR' := hide hr'
  clear hb hr'
  by_cases hlt' : r' < 0
  · have HX : Hid (k < (n : Int) + sumL z n + n' + sumL z' n') := hide (by have := HR.out; have := HR'.out; omega)
    go_wp2
    go_ret
    exact ⟨⟨-1, rfl, .inr ⟨HX.out, rfl⟩⟩, HB3.out⟩
  · have HX : Hid ((n : Int) + sumL z n + n' + sumL z' n' ≤ k ∧ r' = k - ((n : Int) + sumL z n + n' + sumL z' n')) := hide (by have := HR.out; have := HR'.out; omega)
    go_wp2
    go_ret
    exact ⟨⟨r', rfl, .inl HX.out⟩, HB3.out⟩

/-! copies -/
def ToOne (w w' : World) (e : Ending) (n : Nat) (zs : List Int) : Prop :=
  ∃ g, e = .returned (.agg #[.slice (some ⟨g, 0, none⟩) n n]) ∧ Own 3 w' (.slice (some ⟨g, 0, none⟩) n n) (ints zs) [g] ∧ w.heap.size ≤ g ∧ g < w'.heap.size ∧ Below w.heap.size w w'
set_option maxRecDepth 100000 in
set_option maxHeartbeats 1600000 in
theorem toSList_any (A : Option Addr) (n c : Nat) (z : List Int) (w : World) (hn : n = z.length) (hz : n ≤ 1048576) (ha : RdB .i64 w A z w.heap.size) :
    Calls Try.prog 49 #[.agg #[.slice A n c]] w fun e w' => ToOne w w' e n z := by
  have HN := hide hn
  have HA := hide ha
  clear hn ha
  go_enter Try.func49, Try.ntmps49
  go_wp2_with fail
  have hb0 : Below w.heap.size w (((w.alloc (.cells #[.slice A n c] 69)).alloc (.cells #[.slice none 0 0] 47)).alloc (.cells #[.slice none 0 0] 47)) := (((Below.refl _ _).alloc (Nat.le_refl _) _).alloc (by simp) _).alloc (by simp <;> omega) _
  refine (toIntS_ex A n c z _ HN.out hz ((HA.out.below hb0 (Nat.le_refl _)).more hb0.size)).mono ?_
  rintro e w1 ⟨g, rfl, ho, hg, hg1, hb1⟩
  have k2 : w1.cell? ⟨w.heap.size + 1 + 1, 0, none⟩ = some (.slice none 0 0) := by rw [hb1.cell (by simp <;> omega)]; go_simp
  have k4 : w1.cell? ⟨w.heap.size + 1, 0, none⟩ = some (.slice none 0 0) := by rw [hb1.cell (by simp <;> omega)]; go_simp
  have f2 : w1.frozen? ⟨w.heap.size + 1 + 1, 0, none⟩ = false := by rw [hb1.frozen (by simp <;> omega)]; go_simp
  have f4 : w1.frozen? ⟨w.heap.size + 1, 0, none⟩ = false := by rw [hb1.frozen (by simp <;> omega)]; go_simp
  have hs1 : w.heap.size + 3 ≤ g := by simp at hg; omega
  have HB1 := hide (hb0.trans (hb1.mono hb0.size))
  have HO := hide ho
  clear hb0 hb1 hg ho
  go_wp2
  have ht : Touch [w.heap.size + 1, w.heap.size + 1 + 1] w1 ((w1.setCell ⟨w.heap.size + 1 + 1, 0, none⟩ (.slice (some ⟨g, 0, none⟩) n n)).setCell ⟨w.heap.size + 1, 0, none⟩ (.slice (some ⟨g, 0, none⟩) n n)) := ((Touch.refl _ _).setCell (by simp) _).setCell (by simp) _
  exact bodyPost_ret (v := .agg #[.slice (some ⟨g, 0, none⟩) n n]) (by simp [results, Try.results49, go_sem, k4]) rfl
    ⟨g, rfl, HO.out.touch ht (by simp <;> omega), by omega, Nat.lt_of_lt_of_le hg1 ht.size, Below.touch HB1.out ht (by simp <;> omega) HB1.out.size⟩

/-! a slice of lists, each in a block of its own -/
def OwnL (w : World) (g : Nat) (zss : List (List Int)) (G : Nat → Nat) : Prop :=
  w.rowIs g 47 zss.length (fun j => .slice (some ⟨G j, 0, none⟩) (zss.getD j []).length (zss.getD j []).length) ∧
  (∀ j, j < zss.length → g < G j ∧ G j < w.heap.size ∧ Own 3 w (.slice (some ⟨G j, 0, none⟩) (zss.getD j []).length (zss.getD j []).length) (ints (zss.getD j [])) [G j]) ∧
  ∀ i j, i < zss.length → j < zss.length → i ≠ j → G i ≠ G j
structure ToL (w wr : World) (zss : List (List Int)) (G : Nat → Nat) (k : Nat) : Prop where
  row : wr.rowIs w.heap.size 47 zss.length (fun j => if j < k then .slice (some ⟨G j, 0, none⟩) (zss.getD j []).length (zss.getD j []).length else .slice none 0 0)
  own : ∀ j, j < k → j < zss.length → w.heap.size < G j ∧ G j < wr.heap.size ∧ Own 3 wr (.slice (some ⟨G j, 0, none⟩) (zss.getD j []).length (zss.getD j []).length) (ints (zss.getD j [])) [G j]
  inj : ∀ i j, i < k → j < k → i ≠ j → G i ≠ G j
  lt : w.heap.size < wr.heap.size
  bel : Below w.heap.size w wr
theorem grown_none {w w' : World} (h : w.grownBy w' none) : Below w.heap.size w w' := ⟨h.os, h.tape, h.output, h.size, fun i hi => h.block i hi (by simp)⟩
theorem listInfo : (Try.prog.info? 47).map (fun i => (i.zero, i.size, i.bytes)) = some (some (.agg #[.slice none 0 0]), 1, 24) := by kernel_rfl
theorem to_made (w : World) (zss : List (List Int)) (hm : zss.length ≤ 1048576) :
    ∃ w1, (Instr.makeSlice 33 (.int .i64 (zss.length : Int)) (.int .i64 (zss.length : Int))).run Try.prog w = .ok (.slice (some ⟨w.heap.size, 0, none⟩) zss.length zss.length) w1 ∧ ∀ G, ToL w w1 zss G 0 := by
  obtain ⟨i, hi, hzz⟩ := Option.map_eq_some_iff.1 listInfo
  simp only [Prod.mk.injEq] at hzz
  obtain ⟨hz, hs, hb⟩ := hzz
  obtain ⟨w1, hr, ho, hg⟩ := run_make_full (P := Try.prog) w w.heap.size 33 47 i (.agg #[.slice none 0 0]) 1 Try.underlying33 hi hz hs .i64 .i64 zss.length (by rw [hb]; omega) (by unfold maxLen; omega) (Nat.le_refl _)
  refine ⟨w1, hr, fun G => ?_⟩
  obtain ⟨hl, ⟨h1, h2⟩ | ⟨g, cap, cur, h1, hgb, hh, hnc, hcm, hcs, htk⟩⟩ := ho
  · cases h1
  · injection h1 with h1 h2 h3
    injection h1 with h1
    injection h1 with h1
    subst h1 h3
    have hlt := (Array.getElem?_eq_some_iff.1 hh).1
    refine ⟨⟨cur, hh, by omega, fun i hi => ?_⟩, fun j hj _ => absurd hj (Nat.not_lt_zero _), fun i j hi _ _ => absurd hi (Nat.not_lt_zero _), hlt, grown_none hg⟩
    show cur[i]? = some (if i < 0 then _ else _)
    rw [if_neg (Nat.not_lt_zero _)]
    have h5 : (cur.toList.take (zss.length * 1))[i]? = (madeCells (Value.agg #[.slice none 0 0]).cells (zss.length * 1)).toList[i]? := by rw [htk]
    have h6 : (madeCells (Value.agg #[.slice none 0 0]).cells (zss.length * 1)).toList[i]? = some (.slice none 0 0) := by
      show (madeCells #[Value.slice none 0 0] (zss.length * 1)).toList[i]? = _
      simp [madeCells, hi, Nat.mod_one]
    rw [h6, List.getElem?_take, if_pos (by omega)] at h5
    simpa using h5
theorem ToL.step {w wr w1 : World} {zss : List (List Int)} {G : Nat → Nat} {k g : Nat} {n : Nat} (h : ToL w wr zss G k) (hk : k < zss.length) (hn : n = (zss.getD k []).length) (hb : Below wr.heap.size wr w1) (hg : wr.heap.size ≤ g) (hg1 : g < w1.heap.size) (ho : Own 3 w1 (.slice (some ⟨g, 0, none⟩) n n) (ints (zss.getD k [])) [g]) :
    ∃ G', ToL w (w1.setCell ⟨w.heap.size, k, none⟩ (.slice (some ⟨g, 0, none⟩) n n)) zss G' (k + 1) := by
  subst hn
  have hs : Touch [w.heap.size] w1 (w1.setCell ⟨w.heap.size, k, none⟩ (.slice (some ⟨g, 0, none⟩) (zss.getD k []).length (zss.getD k []).length)) := (Touch.refl _ _).setCell (by simp) _
  have hlt := h.lt
  have hz := hb.size
  refine ⟨fun j => if j = k then g else G j, ⟨((rowIs_below h.row hb hlt).set k _).congr (fun j hj => ?_), fun j hj hj2 => ?_, fun i j hi hj hij => ?_, Nat.lt_of_lt_of_le (Nat.lt_of_lt_of_le hlt hz) hs.size, Below.touch (below_go h.bel hb) hs (by simp) (Nat.le_trans h.bel.size hz)⟩⟩
  · by_cases e : j = k
    · subst e; simp
    · by_cases e2 : j < k
      · have e3 : j < k + 1 := by omega
        simp [e, e2, e3]
      · have e3 : ¬ j < k + 1 := by omega
        simp [e, e2, e3]
  · by_cases e : j = k
    · subst e
      simp only [if_true]
      exact ⟨by omega, Nat.lt_of_lt_of_le hg1 hs.size, ho.touch hs (by simp; omega)⟩
    · rw [if_neg e]
      obtain ⟨h1, h2, h3⟩ := h.own j (by omega) hj2
      exact ⟨h1, Nat.lt_of_lt_of_le (Nat.lt_of_lt_of_le h2 hz) hs.size, (h3.below hb).touch hs (by simp; omega)⟩
  · by_cases e : i = k
    · by_cases e' : j = k
      · omega
      · simp only [e, e', if_true, if_false]
        have := (h.own j (by omega) (by omega)).2.1
        omega
    · by_cases e' : j = k
      · simp only [e, e', if_true, if_false]
        have := (h.own i (by omega) (by omega)).2.1
        omega
      · simp only [e, e', if_false]
        exact h.inj i j (by omega) (by omega) hij
theorem ToL.fin {w wr : World} {zss : List (List Int)} {G : Nat → Nat} {k : Nat} (h : ToL w wr zss G k) (hk : zss.length ≤ k) : OwnL wr w.heap.size zss G :=
  ⟨h.row.congr (fun j hj => by rw [if_pos (by omega)]), fun j hj => h.own j (by omega) hj, fun i j hi hj hij => h.inj i j (by omega) (by omega) hij⟩
def ToRes (w w' : World) (e : Ending) (zss : List (List Int)) : Prop :=
  ∃ g G, e = .returned (.slice (some ⟨g, 0, none⟩) zss.length zss.length) ∧ OwnL w' g zss G ∧ w.heap.size ≤ g ∧ g < w'.heap.size ∧ Below w.heap.size w w'
set_option maxRecDepth 100000 in
set_option maxHeartbeats 1600000 in
theorem toSListS_any (A : Option Addr) (c : Nat) (zss : List (List Int)) (w : World) (hm : zss.length ≤ 1048576) (hs : ∀ j, j < zss.length → (zss.getD j []).length ≤ 1048576) (ha : RdL w A zss w.heap.size) :
    Calls Try.prog 32 #[.slice A zss.length c] w fun e w' => ToRes w w' e zss := by
  obtain ⟨w1, hmk, hst⟩ := to_made w zss hm
  have HST := hide hst
  have HA := hide ha
  have HM := hide hm
  have HS := hide hs
  obtain ⟨n, hn⟩ : ∃ n, n = zss.length := ⟨_, rfl⟩
  rw [← hn] at hmk hm ⊢
  have HN := hide hn
  have hn2 : (n : Int) ≤ 1048576 := by omega
  clear hst ha hs hm hn
  go_enter Try.func32, Try.ntmps32
  go_wp2
  clear hmk
  go_loopg [4] (n + 1) (fun g i wr => ∃ k : Nat, k ≤ n ∧ g = n + 1 - k ∧ i = .int .i64 k ∧ ∃ G, ToL w wr zss G k)
  case atStart => exact ⟨0, Nat.zero_le _, rfl, rfl, fun _ => 0, HST.out _⟩
  case round =>
    obtain ⟨k, hk, hg, rfl, G, hI⟩ := hrel
    have HG := hide hg
    have HI := hide hI
    clear hg hI
    by_cases hlt : k < n
    · have hi : (k : Int) < (n : Int) := by omega
      obtain ⟨b, off, A', n', c', rfl, hb, hcell, hn', hc', hcm', hrd, -⟩ := (HA.out.below HI.out.bel (Nat.le_refl _)) k (by have := HN.out; omega)
      have HN' := hide hn'
      have HRD := hide (hrd.more HI.out.bel.size)
      have hsz : n' ≤ 1048576 := by rw [hn']; exact HS.out k (by have := HN.out; omega)
      have g2 : wr.cell? ⟨w.heap.size, k, none⟩ = some (.slice none 0 0) := by simpa using HI.out.row.cell (show k < zss.length by have := HN.out; omega)
      have g3 : wr.frozen? ⟨w.heap.size, k, none⟩ = false := HI.out.row.frozen k
      clear hn' hrd
      go_wp2_with fail
      refine (toSList_any A' n' c' (zss.getD k []) _ HN'.out hsz HRD.out).mono ?_
      rintro e w2 ⟨g, rfl, ho, hg, hg1, hb2⟩
      have j2 : w2.cell? ⟨w.heap.size, k, none⟩ = some (.slice none 0 0) := by rw [hb2.cell HI.out.lt]; exact g2
      have j3 : w2.frozen? ⟨w.heap.size, k, none⟩ = false := by rw [hb2.frozen HI.out.lt]; exact g3
      obtain ⟨G', hI'⟩ := HI.out.step (by have := HN.out; omega) HN'.out hb2 hg hg1 ho
      have HI' := hide hI'
      clear ho hg hg1 hb2 hI' g2 g3
      go_wp2
      go_roundg (n + 1 - (k + 1))
      case measure => have := HG.out; omega
      case rel => exact ⟨k + 1, by omega, rfl, by go_num, G', HI'.out⟩
    · have hi : ¬ (k : Int) < (n : Int) := by omega
      have hkn : k = n := by omega
      subst hkn
      go_wp2
      go_ret
      exact ⟨w.heap.size, G, by rw [HN.out]; rfl, HI.out.fin (by rw [← HN.out]; exact Nat.le_refl _), Nat.le_refl _, HI.out.lt, HI.out.bel⟩
theorem OwnL.below {w w' : World} {g : Nat} {zss : List (List Int)} {G : Nat → Nat} (h : OwnL w g zss G) (hg : g < w.heap.size) (hb : Below w.heap.size w w') : OwnL w' g zss G :=
  ⟨rowIs_below h.1 hb hg, fun j hj => ⟨(h.2.1 j hj).1, Nat.lt_of_lt_of_le (h.2.1 j hj).2.1 hb.size, (h.2.1 j hj).2.2.below hb⟩, h.2.2⟩
theorem OwnL.touch {w w' : World} {g : Nat} {zss : List (List Int)} {G : Nat → Nat} {F : List Nat} (h : OwnL w g zss G) (ht : Touch F w w') (hg : g ∉ F) (hG : ∀ j, j < zss.length → G j ∉ F) : OwnL w' g zss G :=
  ⟨rowIs_touch h.1 ht hg, fun j hj => ⟨(h.2.1 j hj).1, Nat.lt_of_lt_of_le (h.2.1 j hj).2.1 ht.size, (h.2.1 j hj).2.2.touch ht (fun x hx => by simp at hx; subst hx; exact hG j hj)⟩, h.2.2⟩
/-- It reads so. (No value is outside of its kind: that is not asked any more.) -/
def RdM (w : World) (A : Option Addr) (zss : List (List Int)) (B : Nat) : Prop :=
  ∀ j, j < zss.length → ∃ b off A' n' c', A = some ⟨b, off, none⟩ ∧ b < B ∧ w.cell? ⟨b, off + j, none⟩ = some (.slice A' n' c') ∧ n' = (zss.getD j []).length ∧ n' ≤ c' ∧ c' ≤ maxLen ∧ RdB .i64 w A' (zss.getD j []) B
theorem RdM.below {w w' : World} {A : Option Addr} {zss : List (List Int)} {B B' : Nat} (h : RdM w A zss B) (hb : Below B' w w') (hB : B ≤ B') : RdM w' A zss B := fun j hj => by
  obtain ⟨b, off, A', n', c', e, hbB, hc, h1, h2, h3, h4⟩ := h j hj
  exact ⟨b, off, A', n', c', e, hbB, by rw [hb.cell (show (⟨b, off + j, none⟩ : Addr).block < B' by show b < B'; omega)]; exact hc, h1, h2, h3, h4.below hb hB⟩
theorem RdM.more {w : World} {A : Option Addr} {zss : List (List Int)} {B B' : Nat} (h : RdM w A zss B) (hB : B ≤ B') : RdM w A zss B' := fun j hj => by
  obtain ⟨b, off, A', n', c', e, hbB, hc, h1, h2, h3, h4⟩ := h j hj
  exact ⟨b, off, A', n', c', e, by omega, hc, h1, h2, h3, h4.more hB⟩
theorem rdM_at {w W : World} {A : Option Addr} {z : List (List Int)} (h : RdM w A z w.heap.size) (hb : Below w.heap.size w W) : RdM W A z W.heap.size := (h.below hb (Nat.le_refl _)).more hb.size
theorem RdM.drewN {w : World} {A : Option Addr} {z : List (List Int)} {B : Nat} (h : RdM w A z B) (n : Nat) : RdM (w.drewN n) A z B := h
theorem RdL.rdM {w : World} {A : Option Addr} {zss : List (List Int)} {B : Nat} (h : RdL w A zss B) : RdM w A zss B := fun j hj => by
  obtain ⟨b, off, A', n', c', e, hbB, hc, h1, h2, h3, h4, _⟩ := h j hj
  exact ⟨b, off, A', n', c', e, hbB, hc, h1, h2, h3, h4⟩
theorem OwnL.rd {w : World} {g : Nat} {zss : List (List Int)} {G : Nat → Nat} (h : OwnL w g zss G) (hg : g < w.heap.size) (hs : ∀ j, j < zss.length → (zss.getD j []).length ≤ 1048576) : RdM w (some ⟨g, 0, none⟩) zss w.heap.size := fun j hj => by
  have hc := h.1.cell hj
  exact ⟨g, 0, _, _, _, rfl, hg, by rw [Nat.zero_add]; exact hc, rfl, Nat.le_refl _, by have := hs j hj; unfold maxLen; omega, ((h.2.1 j hj).2.2.rd).2⟩

/-! comparison -/
theorem keep21L {wK W W' : World} {p q : Addr} {u0 u1 : Value} (hp : p.block < wK.heap.size) (hq : q.block < wK.heap.size)
    (hb : Below W.heap.size W W') (h : (W.cell? p = some u0 ∧ W.cell? q = some u1) ∧ Below wK.heap.size wK W) :
    (W'.cell? p = some u0 ∧ W'.cell? q = some u1) ∧ Below wK.heap.size wK W' := by
  have hz := h.2.size
  obtain ⟨⟨h0, h1⟩, hB⟩ := h
  exact ⟨⟨by rw [hb.cell (by omega)]; exact h0, by rw [hb.cell (by omega)]; exact h1⟩, hB.trans (hb.mono hz)⟩
theorem rdS21 {wK W : World} {A : Option Addr} {z : List Int} {B : Nat} {C : Prop} (hr : RdB .i64 wK A z B) (hB : B ≤ wK.heap.size) (h : C ∧ Below wK.heap.size wK W) : RdB .i64 W A z W.heap.size :=
  (hr.below h.2 hB).more (Nat.le_trans hB h.2.size)
set_option maxRecDepth 100000 in
set_option maxHeartbeats 1600000 in
theorem eqSList_same (A B : Option Addr) (n c d : Nat) (zs : List Int) (w : World) (hn : n = zs.length) (hz : n ≤ 2097152) (ha : RdB .i64 w A zs w.heap.size) (hb : RdB .i64 w B zs w.heap.size) :
    Calls Try.prog 61 #[.agg #[.slice A n c], .agg #[.slice B n d]] w fun e w' => e = .returned (.bool true) ∧ Below w.heap.size w w' := by
  have HN := hide hn
  have HA := hide ha
  have HB := hide hb
  clear hn ha hb
  go_enter Try.func61, Try.ntmps61
  go_wp2_with fail
  have hb0 : Below w.heap.size w ((w.alloc (.cells #[.slice A n c] 47)).alloc (.cells #[.slice B n d] 47)) := ((Below.refl _ _).alloc (Nat.le_refl _) _).alloc (by simp) _
  refine (eqIntS_same _ _ _ _ _ zs w.heap.size _ HN.out hz (HA.out.below hb0 (Nat.le_refl _)) (HB.out.below hb0 (Nat.le_refl _))).mono ?_
  rintro e w1 ⟨rfl, hb1⟩
  have HB1 := hide (hb0.trans (hb1.mono hb0.size))
  clear hb0 hb1
  go_wp2
  go_ret
  exact ⟨rfl, HB1.out⟩
set_option maxRecDepth 100000 in
set_option maxHeartbeats 1600000 in
theorem eqSListS_same (A B : Option Addr) (n c d : Nat) (zss : List (List Int)) (w : World) (hn : n = zss.length) (hm : n ≤ 1048576) (hs : ∀ j, j < zss.length → (zss.getD j []).length ≤ 1048576) (ha : RdM w A zss w.heap.size) (hb : RdM w B zss w.heap.size) :
    Calls Try.prog 40 #[.slice A n c, .slice B n d] w fun e w' => e = .returned (.bool true) ∧ Below w.heap.size w w' := by
  have HN := hide hn
  have HA := hide ha
  have HB := hide hb
  have HS := hide hs
  have hn2 : (n : Int) ≤ 1048576 := by omega
  clear hn ha hb hs
  go_enter Try.func40, Try.ntmps40
  go_wp2
  go_loopg [5] (n + 1) (fun g i wr => Below w.heap.size w wr ∧ ∃ k : Nat, k ≤ n ∧ g = n + 1 - k ∧ i = .int .i64 k)
  case atStart => exact ⟨Below.refl _ _, 0, Nat.zero_le _, rfl, rfl⟩
  case round =>
    obtain ⟨hB, k, hk, hg, rfl⟩ := hrel
    have HG := hide hg
    have HW := hide hB
    clear hg hB
    by_cases hlt : k < n
    · have hi : (k : Int) < (n : Int) := by omega
      obtain ⟨b, off, A', n', c', rfl, hbb, hcell, hn', hc', hcm', hrd⟩ := (HA.out.below HW.out (Nat.le_refl _)) k (by have := HN.out; omega)
      obtain ⟨b2, off2, A2, n2, c2, rfl, hbb2, hcell2, hn2', hc2', hcm2', hrd2⟩ := (HB.out.below HW.out (Nat.le_refl _)) k (by have := HN.out; omega)
      have hsz : n' ≤ 1048576 := by rw [hn']; exact HS.out k (by have := HN.out; omega)
      obtain rfl : n2 = n' := by omega
      have HN' := hide hn'
      have HR := hide hrd
      have HR2 := hide hrd2
      obtain ⟨zs, hzs⟩ : ∃ zs, zs = zss.getD k [] := ⟨_, rfl⟩
      rw [← hzs] at HN' HR HR2
      clear hn' hn2' hrd hrd2 hzs
      go_wp2_with fail
      have HWD := hide (HW.out)
      go_region_held3 (fun w' => (w'.cell? ⟨b, off + k, none⟩ = some (.slice A' n2 c') ∧ w'.cell? ⟨b2, off2 + k, none⟩ = some (.slice A2 n2 c2)) ∧ Below wr.heap.size wr w')
        (first | (exact keep21L (Nat.lt_of_lt_of_le hbb HW.out.size) (Nat.lt_of_lt_of_le hbb2 HW.out.size) (by assumption) (by assumption)) | (exact ⟨⟨hcell, hcell2⟩, (Below.refl _ _).drew⟩))
        (first | (go_at_call 61; refine (eqSList_same _ _ _ _ _ zs _ HN'.out (by omega) (rdS21 HR.out HW.out.size (by assumption)) (rdS21 HR2.out HW.out.size (by assumption))).mono ?_; rintro e w' ⟨rfl, hb⟩))
      have hS := ‹(_ ∧ _) ∧ Below wr.heap.size wr _›
      have hBf := hS.2
      have HB2 := hide (below_go HW.out hBf)
      clear hS hBf
      go_wp2
      go_roundg (n + 1 - (k + 1))
      case measure => have := HG.out; omega
      case rel => exact ⟨HB2.out, k + 1, by omega, rfl, by go_num⟩
    · have hi : ¬ (k : Int) < (n : Int) := by omega
      go_wp2
      go_ret
      exact ⟨rfl, HW.out⟩
end Go.Proofs.Ytnnmdikbcfefjaa
