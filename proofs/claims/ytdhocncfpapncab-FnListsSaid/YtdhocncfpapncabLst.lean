/-
  The laws' words over lists of slots: sizes, copies, comparison.
-/
import Derived.Test.YtdhocncfpapncabInts
import Derived.Test.YtdhocncfpapncabMark
import Derived.Test.YtdhocncfpapncabApp
import Derived.Deep.LoopGhost
import Derived.BigQuiet
import Derived.Deep.RegionHeld3
namespace Go.Proofs.Ytdhocncfpapncab
open Go.RowKit
set_option linter.unusedVariables false

theorem below_go {w W W' : World} (h : Below w.heap.size w W) (hb : Below W.heap.size W W') : Below w.heap.size w W' := h.trans (hb.mono h.size)
def sumL (zss : List (List Int)) : Nat → Nat
  | 0 => 0
  | j + 1 => sumL zss j + (zss.getD j []).length
theorem sumL_le (zss : List (List Int)) {i j : Nat} (h : i ≤ j) : sumL zss i ≤ sumL zss j := by
  induction j with
  | zero => have : i = 0 := by omega
            subst this; exact Nat.le_refl _
  | succ j ih =>
    by_cases e : i = j + 1
    · subst e; exact Nat.le_refl _
    · have := ih (by omega); simp only [sumL]; omega
theorem RdL.below {w w' : World} {A : Option Addr} {zss : List (List Int)} {B B' : Nat} (h : RdL w A zss B) (hb : Below B' w w') (hB : B ≤ B') : RdL w' A zss B := fun j hj => by
  obtain ⟨b, off, A', n', c', e, hbB, hc, h1, h2, h3, h4, h5⟩ := h j hj
  exact ⟨b, off, A', n', c', e, hbB, by rw [hb.cell (show (⟨b, off + j, none⟩ : Addr).block < B' by show b < B'; omega)]; exact hc, h1, h2, h3, h4.below hb hB, h5⟩
theorem RdL.more {w : World} {A : Option Addr} {zss : List (List Int)} {B B' : Nat} (h : RdL w A zss B) (hB : B ≤ B') : RdL w A zss B' := fun j hj => by
  obtain ⟨b, off, A', n', c', e, hbB, hc, h1, h2, h3, h4, h5⟩ := h j hj
  exact ⟨b, off, A', n', c', e, by omega, hc, h1, h2, h3, h4.more hB, h5⟩
theorem rdL_at {w W : World} {A : Option Addr} {z : List (List Int)} (h : RdL w A z w.heap.size) (hb : Below w.heap.size w W) : RdL W A z W.heap.size := (h.below hb (Nat.le_refl _)).more hb.size

/-! sizes -/
def SzRes (e : Ending) (t k : Int) : Prop := ∃ r : Int, e = .returned (.int .i64 r) ∧ (t ≤ k ∧ r = k - t ∨ k < t ∧ r = -1)
/-! copies -/
def ToOne (w w' : World) (e : Ending) (n : Nat) (zs : List Int) : Prop :=
  ∃ g, e = .returned (.agg #[.slice (some ⟨g, 0, none⟩) n n]) ∧ Own 3 w' (.slice (some ⟨g, 0, none⟩) n n) (ints zs) [g] ∧ w.heap.size ≤ g ∧ g < w'.heap.size ∧ Below w.heap.size w w'
/-! a slice of lists, each in a block of its own -/
def OwnL (w : World) (g : Nat) (zss : List (List Int)) (G : Nat → Nat) : Prop :=
  w.rowIs g 37 zss.length (fun j => .slice (some ⟨G j, 0, none⟩) (zss.getD j []).length (zss.getD j []).length) ∧
  (∀ j, j < zss.length → g < G j ∧ G j < w.heap.size ∧ Own 3 w (.slice (some ⟨G j, 0, none⟩) (zss.getD j []).length (zss.getD j []).length) (ints (zss.getD j [])) [G j]) ∧
  ∀ i j, i < zss.length → j < zss.length → i ≠ j → G i ≠ G j
structure ToL (w wr : World) (zss : List (List Int)) (G : Nat → Nat) (k : Nat) : Prop where
  row : wr.rowIs w.heap.size 37 zss.length (fun j => if j < k then .slice (some ⟨G j, 0, none⟩) (zss.getD j []).length (zss.getD j []).length else .slice none 0 0)
  own : ∀ j, j < k → j < zss.length → w.heap.size < G j ∧ G j < wr.heap.size ∧ Own 3 wr (.slice (some ⟨G j, 0, none⟩) (zss.getD j []).length (zss.getD j []).length) (ints (zss.getD j [])) [G j]
  inj : ∀ i j, i < k → j < k → i ≠ j → G i ≠ G j
  lt : w.heap.size < wr.heap.size
  bel : Below w.heap.size w wr
theorem grown_none {w w' : World} (h : w.grownBy w' none) : Below w.heap.size w w' := ⟨h.os, h.tape, h.output, h.size, fun i hi => h.block i hi (by simp)⟩
theorem listInfo : (Try.prog.info? 37).map (fun i => (i.zero, i.size, i.bytes)) = some (some (.agg #[.slice none 0 0]), 1, 24) := by kernel_rfl
theorem to_made (w : World) (zss : List (List Int)) (hm : zss.length ≤ 1048576) :
    ∃ w1, (Instr.makeSlice 24 (.int .i64 (zss.length : Int)) (.int .i64 (zss.length : Int))).run Try.prog w = .ok (.slice (some ⟨w.heap.size, 0, none⟩) zss.length zss.length) w1 ∧ ∀ G, ToL w w1 zss G 0 := by
  obtain ⟨i, hi, hzz⟩ := Option.map_eq_some_iff.1 listInfo
  simp only [Prod.mk.injEq] at hzz
  obtain ⟨hz, hs, hb⟩ := hzz
  obtain ⟨w1, hr, ho, hg⟩ := run_make_full (P := Try.prog) w w.heap.size 24 37 i (.agg #[.slice none 0 0]) 1 Try.underlying24 hi hz hs .i64 .i64 zss.length (by rw [hb]; omega) (by unfold maxLen; omega) (Nat.le_refl _)
  refine ⟨w1, hr, fun G => ?_⟩
  obtain ⟨hl, ⟨h1, h2⟩ | ⟨g, cap, cur, h1, hgb, hh, hnc, hcm, hcs, htk⟩⟩ := ho
  · cases h1
  · injection h1 with h1 h2 h3
    injection h1 with h1
    injection h1 with h1
    subst h1 h3
    have hlt := (Array.getElem?_eq_some_iff.1 hh).1
    refine ⟨⟨cur, hh, by omega, fun i hi => ?_⟩, fun j hj _ => absurd hj (Nat.not_lt_zero _), fun i j hi _ _ => absurd hi (Nat.not_lt_zero _), hlt, grown_none hg⟩
    show cur[i]? = some (if i < 0 then _ else _)
    rw [if_neg (Nat.not_lt_zero _)]
    have h5 : (cur.toList.take (zss.length * 1))[i]? = (madeCells (Value.agg #[.slice none 0 0]).cells (zss.length * 1)).toList[i]? := by rw [htk]
    have h6 : (madeCells (Value.agg #[.slice none 0 0]).cells (zss.length * 1)).toList[i]? = some (.slice none 0 0) := by
      show (madeCells #[Value.slice none 0 0] (zss.length * 1)).toList[i]? = _
      simp [madeCells, hi, Nat.mod_one]
    rw [h6, List.getElem?_take, if_pos (by omega)] at h5
    simpa using h5
theorem ToL.step {w wr w1 : World} {zss : List (List Int)} {G : Nat → Nat} {k g : Nat} {n : Nat} (h : ToL w wr zss G k) (hk : k < zss.length) (hn : n = (zss.getD k []).length) (hb : Below wr.heap.size wr w1) (hg : wr.heap.size ≤ g) (hg1 : g < w1.heap.size) (ho : Own 3 w1 (.slice (some ⟨g, 0, none⟩) n n) (ints (zss.getD k [])) [g]) :
    ∃ G', ToL w (w1.setCell ⟨w.heap.size, k, none⟩ (.slice (some ⟨g, 0, none⟩) n n)) zss G' (k + 1) := by
  subst hn
  have hs : Touch [w.heap.size] w1 (w1.setCell ⟨w.heap.size, k, none⟩ (.slice (some ⟨g, 0, none⟩) (zss.getD k []).length (zss.getD k []).length)) := (Touch.refl _ _).setCell (by simp) _
  have hlt := h.lt
  have hz := hb.size
  refine ⟨fun j => if j = k then g else G j, ⟨((rowIs_below h.row hb hlt).set k _).congr (fun j hj => ?_), fun j hj hj2 => ?_, fun i j hi hj hij => ?_, Nat.lt_of_lt_of_le (Nat.lt_of_lt_of_le hlt hz) hs.size, Below.touch (below_go h.bel hb) hs (by simp) (Nat.le_trans h.bel.size hz)⟩⟩
  · by_cases e : j = k
    · subst e; simp
    · by_cases e2 : j < k
      · have e3 : j < k + 1 := by omega
        simp [e, e2, e3]
      · have e3 : ¬ j < k + 1 := by omega
        simp [e, e2, e3]
  · by_cases e : j = k
    · subst e
      simp only [if_true]
      exact ⟨by omega, Nat.lt_of_lt_of_le hg1 hs.size, ho.touch hs (by simp; omega)⟩
    · rw [if_neg e]
      obtain ⟨h1, h2, h3⟩ := h.own j (by omega) hj2
      exact ⟨h1, Nat.lt_of_lt_of_le (Nat.lt_of_lt_of_le h2 hz) hs.size, (h3.below hb).touch hs (by simp; omega)⟩
  · by_cases e : i = k
    · by_cases e' : j = k
      · omega
      · simp only [e, e', if_true, if_false]
        have := (h.own j (by omega) (by omega)).2.1
        omega
    · by_cases e' : j = k
      · simp only [e, e', if_true, if_false]
        have := (h.own i (by omega) (by omega)).2.1
        omega
      · simp only [e, e', if_false]
        exact h.inj i j (by omega) (by omega) hij
theorem ToL.fin {w wr : World} {zss : List (List Int)} {G : Nat → Nat} {k : Nat} (h : ToL w wr zss G k) (hk : zss.length ≤ k) : OwnL wr w.heap.size zss G :=
  ⟨h.row.congr (fun j hj => by rw [if_pos (by omega)]), fun j hj => h.own j (by omega) hj, fun i j hi hj hij => h.inj i j (by omega) (by omega) hij⟩
def ToRes (w w' : World) (e : Ending) (zss : List (List Int)) : Prop :=
  ∃ g G, e = .returned (.slice (some ⟨g, 0, none⟩) zss.length zss.length) ∧ OwnL w' g zss G ∧ w.heap.size ≤ g ∧ g < w'.heap.size ∧ Below w.heap.size w w'
theorem OwnL.below {w w' : World} {g : Nat} {zss : List (List Int)} {G : Nat → Nat} (h : OwnL w g zss G) (hg : g < w.heap.size) (hb : Below w.heap.size w w') : OwnL w' g zss G :=
  ⟨rowIs_below h.1 hb hg, fun j hj => ⟨(h.2.1 j hj).1, Nat.lt_of_lt_of_le (h.2.1 j hj).2.1 hb.size, (h.2.1 j hj).2.2.below hb⟩, h.2.2⟩
theorem OwnL.touch {w w' : World} {g : Nat} {zss : List (List Int)} {G : Nat → Nat} {F : List Nat} (h : OwnL w g zss G) (ht : Touch F w w') (hg : g ∉ F) (hG : ∀ j, j < zss.length → G j ∉ F) : OwnL w' g zss G :=
  ⟨rowIs_touch h.1 ht hg, fun j hj => ⟨(h.2.1 j hj).1, Nat.lt_of_lt_of_le (h.2.1 j hj).2.1 ht.size, (h.2.1 j hj).2.2.touch ht (fun x hx => by simp at hx; subst hx; exact hG j hj)⟩, h.2.2⟩
/-- It reads so. (No value is outside of its kind: that is not asked any more.) -/
def RdM (w : World) (A : Option Addr) (zss : List (List Int)) (B : Nat) : Prop :=
  ∀ j, j < zss.length → ∃ b off A' n' c', A = some ⟨b, off, none⟩ ∧ b < B ∧ w.cell? ⟨b, off + j, none⟩ = some (.slice A' n' c') ∧ n' = (zss.getD j []).length ∧ n' ≤ c' ∧ c' ≤ maxLen ∧ RdB .i64 w A' (zss.getD j []) B
theorem RdM.below {w w' : World} {A : Option Addr} {zss : List (List Int)} {B B' : Nat} (h : RdM w A zss B) (hb : Below B' w w') (hB : B ≤ B') : RdM w' A zss B := fun j hj => by
  obtain ⟨b, off, A', n', c', e, hbB, hc, h1, h2, h3, h4⟩ := h j hj
  exact ⟨b, off, A', n', c', e, hbB, by rw [hb.cell (show (⟨b, off + j, none⟩ : Addr).block < B' by show b < B'; omega)]; exact hc, h1, h2, h3, h4.below hb hB⟩
theorem RdM.more {w : World} {A : Option Addr} {zss : List (List Int)} {B B' : Nat} (h : RdM w A zss B) (hB : B ≤ B') : RdM w A zss B' := fun j hj => by
  obtain ⟨b, off, A', n', c', e, hbB, hc, h1, h2, h3, h4⟩ := h j hj
  exact ⟨b, off, A', n', c', e, by omega, hc, h1, h2, h3, h4.more hB⟩
theorem rdM_at {w W : World} {A : Option Addr} {z : List (List Int)} (h : RdM w A z w.heap.size) (hb : Below w.heap.size w W) : RdM W A z W.heap.size := (h.below hb (Nat.le_refl _)).more hb.size
theorem RdM.drewN {w : World} {A : Option Addr} {z : List (List Int)} {B : Nat} (h : RdM w A z B) (n : Nat) : RdM (w.drewN n) A z B := h
theorem RdL.rdM {w : World} {A : Option Addr} {zss : List (List Int)} {B : Nat} (h : RdL w A zss B) : RdM w A zss B := fun j hj => by
  obtain ⟨b, off, A', n', c', e, hbB, hc, h1, h2, h3, h4, _⟩ := h j hj
  exact ⟨b, off, A', n', c', e, hbB, hc, h1, h2, h3, h4⟩
theorem OwnL.rd {w : World} {g : Nat} {zss : List (List Int)} {G : Nat → Nat} (h : OwnL w g zss G) (hg : g < w.heap.size) (hs : ∀ j, j < zss.length → (zss.getD j []).length ≤ 1048576) : RdM w (some ⟨g, 0, none⟩) zss w.heap.size := fun j hj => by
  have hc := h.1.cell hj
  exact ⟨g, 0, _, _, _, rfl, hg, by rw [Nat.zero_add]; exact hc, rfl, Nat.le_refl _, by have := hs j hj; unfold maxLen; omega, ((h.2.1 j hj).2.2.rd).2⟩

/-! comparison -/
theorem keep21 {wK W W' : World} {p q : Addr} {u0 u1 : Value} (hp : p.block < wK.heap.size) (hq : q.block < wK.heap.size)
    (hb : Below W.heap.size W W') (h : (W.cell? p = some u0 ∧ W.cell? q = some u1) ∧ Below wK.heap.size wK W) :
    (W'.cell? p = some u0 ∧ W'.cell? q = some u1) ∧ Below wK.heap.size wK W' := by
  have hz := h.2.size
  obtain ⟨⟨h0, h1⟩, hB⟩ := h
  exact ⟨⟨by rw [hb.cell (by omega)]; exact h0, by rw [hb.cell (by omega)]; exact h1⟩, hB.trans (hb.mono hz)⟩
theorem rdS21 {wK W : World} {A : Option Addr} {z : List Int} {B : Nat} {C : Prop} (hr : RdB .i64 wK A z B) (hB : B ≤ wK.heap.size) (h : C ∧ Below wK.heap.size wK W) : RdB .i64 W A z W.heap.size :=
  (hr.below h.2 hB).more (Nat.le_trans hB h.2.size)
end Go.Proofs.Ytdhocncfpapncab
