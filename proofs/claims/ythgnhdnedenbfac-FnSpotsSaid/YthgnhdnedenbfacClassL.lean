/-
  Contracts of ClassOf, Waste, StartOf and RangeOf of the reference and of the program, and the walks of the exact laws on classes and places.
-/
import Derived.Test.YthgnhdnedenbfacClass
import Derived.LoopN
import Derived.Deep.RegionHeld3
namespace Go.Proofs.Ythgnhdnedenbfac
open Go.RowKit
set_option linter.unusedVariables false

def classOfC (n : Int) : Int := if n < 1 then -1 else if n ≤ 8 then 0 else if n ≤ 16 then 1 else if n ≤ 40 then 2 else -1
def startC (slot c : Int) : Int := if genAtC slot c < 0 then -1 else genAtC slot c + 4
theorem classOfC_lo {n : Int} (h : n < 1) : classOfC n = -1 := by unfold classOfC; rw [if_pos h]
theorem classOfC_0 {n : Int} (h : 1 ≤ n) (h2 : n ≤ 8) : classOfC n = 0 := by unfold classOfC; rw [if_neg (by omega), if_pos h2]
theorem classOfC_1 {n : Int} (h : 8 < n) (h2 : n ≤ 16) : classOfC n = 1 := by unfold classOfC; rw [if_neg (by omega), if_neg (by omega), if_pos h2]
theorem classOfC_2 {n : Int} (h : 16 < n) (h2 : n ≤ 40) : classOfC n = 2 := by unfold classOfC; rw [if_neg (by omega), if_neg (by omega), if_neg (by omega), if_pos h2]
theorem classOfC_hi {n : Int} (h : 40 < n) : classOfC n = -1 := by unfold classOfC; rw [if_neg (by omega), if_neg (by omega), if_neg (by omega), if_neg (by omega)]
theorem startC_no {slot c : Int} (h : genAtC slot c < 0) : startC slot c = -1 := by unfold startC; rw [if_pos h]
theorem startC_yes {slot c : Int} (h : ¬ genAtC slot c < 0) : startC slot c = genAtC slot c + 4 := by unfold startC; rw [if_neg h]
theorem startC_bd (slot c : Int) : (startC slot c = -1 ∧ genAtC slot c < 0) ∨ (12 ≤ startC slot c ∧ startC slot c + sizeC c ≤ 384 ∧ ¬ genAtC slot c < 0) := by
  rcases genAtC_bd slot c with ⟨h, _⟩ | ⟨h1, h2, _⟩
  · exact .inl ⟨startC_no (by omega), by omega⟩
  · rw [startC_yes (by omega)]; exact .inr ⟨by omega, by omega, by omega⟩

set_option maxHeartbeats 400000 in
theorem implStartOf_any (slot c : Int) (w : World) : Calls Try.prog 12 #[.int .i64 slot, .int .i64 c] w fun e w' => e = .returned (.int .i64 (startC slot c)) ∧ w = w' := by
  by_cases h : genAtC slot c < 0
  · have HE := hidden (startC_no h)
    go_enter Try.func12, Try.ntmps12
    go_wp2_with (first | (go_at_call 9; refine (implGenAt_any _ _ _).mono ?_; rintro e w' ⟨rfl, rfl⟩))
    go_ret
    exact ⟨ret_int HE.out.symm, rfl⟩
  · have HE := hidden (startC_yes h)
    have bb : 0 ≤ genAtC slot c ∧ genAtC slot c ≤ 384 := by
      have := genAtC_bd slot c
      have := sizeC_bd c
      omega
    go_enter Try.func12, Try.ntmps12
    go_wp2_with (first | (go_at_call 9; refine (implGenAt_any _ _ _).mono ?_; rintro e w' ⟨rfl, rfl⟩))
    go_ret
    exact ⟨ret_int HE.out.symm, rfl⟩

set_option maxHeartbeats 400000 in
theorem implRangeOf_no (slot c : Int) (w : World) (h : startC slot c < 0) : Calls Try.prog 10 #[.int .i64 slot, .int .i64 c] w fun e w' => e = .returned (.agg #[.int .i64 0, .int .i64 0]) ∧ Below w.heap.size w w' := by
  go_enter Try.func10, Try.ntmps10
  go_wp2_with (first | (go_at_call 12; refine (implStartOf_any _ _ _).mono ?_; rintro e w' ⟨rfl, rfl⟩) | (go_at_call 21; refine (implSizeOf_any _ _).mono ?_; rintro e w' ⟨rfl, rfl⟩))
  exact bodyPost_ret (v := .agg #[.int .i64 0, .int .i64 0]) (by simp [results, Try.results10, go_sem]) rfl ⟨rfl, by repeat (first | exact Below.refl _ _ | refine Below.drew ?_ | refine Below.setCell ?_ (by simp <;> omega) _ | refine Below.alloc ?_ (by simp <;> omega) _)⟩
set_option maxHeartbeats 400000 in
theorem implRangeOf_yes (slot c : Int) (w : World) (h : ¬ startC slot c < 0) (h2 : startC slot c + sizeC c ≤ 384) : Calls Try.prog 10 #[.int .i64 slot, .int .i64 c] w fun e w' => e = .returned (.agg #[.int .i64 (startC slot c), .int .i64 (startC slot c + sizeC c)]) ∧ Below w.heap.size w w' := by
  have bs := sizeC_bd c
  have q : 0 ≤ startC slot c := by omega
  go_enter Try.func10, Try.ntmps10
  go_wp2_with (first | (go_at_call 12; refine (implStartOf_any _ _ _).mono ?_; rintro e w' ⟨rfl, rfl⟩) | (go_at_call 21; refine (implSizeOf_any _ _).mono ?_; rintro e w' ⟨rfl, rfl⟩))
  exact bodyPost_ret (v := .agg #[.int .i64 (startC slot c), .int .i64 (startC slot c + sizeC c)]) (by simp [results, Try.results10, go_sem]) rfl ⟨rfl, by repeat (first | exact Below.refl _ _ | refine Below.drew ?_ | refine Below.setCell ?_ (by simp <;> omega) _ | refine Below.alloc ?_ (by simp <;> omega) _)⟩

theorem two_keep {W w1 w2 : World} {B : Nat} {p q r s : Addr} {a b c d : Value} (hb : Below w1.heap.size w1 w2)
    (h : w1.cell? p = some a ∧ w1.cell? q = some b ∧ w1.cell? r = some c ∧ w1.cell? s = some d ∧ Below B W w1 ∧ B ≤ w1.heap.size) :
    w2.cell? p = some a ∧ w2.cell? q = some b ∧ w2.cell? r = some c ∧ w2.cell? s = some d ∧ Below B W w2 ∧ B ≤ w2.heap.size := by
  obtain ⟨h1, h2, h3, h4, h5, h6⟩ := h
  have k : ∀ {p : Addr} {v : Value}, w1.cell? p = some v → w2.cell? p = some v := fun {p v} h => (hb.cell (World.block_lt_of_cell? _ _ h)).trans h
  exact ⟨k h1, k h2, k h3, k h4, h5.trans (hb.mono h6), Nat.le_trans h6 hb.size⟩

theorem box2 {w1 w2 : World} {a b : Value} {T : TypeId} (hb : Below (w1.alloc (.cells #[a, b] T)).heap.size (w1.alloc (.cells #[a, b] T)) w2) :
    w2.cell? ⟨w1.heap.size, 0, none⟩ = some a ∧ w2.cell? ⟨w1.heap.size, 1, none⟩ = some b ∧ w1.heap.size < w2.heap.size ∧ w1.heap.size ≠ w2.heap.size ∧ Below w1.heap.size w1 w2 := by
  have hz := hb.size
  simp only [World.size_alloc] at hz
  refine ⟨?_, ?_, by omega, by omega, ((Below.refl _ _).alloc (Nat.le_refl _) _).trans (hb.mono (by simp))⟩
  · rw [hb.cell (by simp)]; exact cell_of_row _ _ _ _ _ _ (heap_alloc_new _ _)
  · rw [hb.cell (by simp)]; exact cell_of_row _ _ _ _ _ _ (heap_alloc_new _ _)

end Go.Proofs.Ythgnhdnedenbfac
