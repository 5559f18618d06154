/-
  The walk of FnExactApart: the two functions on spans agree for all spans.
-/
import Derived.Test.YthgnhdnedenbfacChecked
import Derived.WalkKit
import Derived.WalkLawsBesides
import Derived.Deep.RegionHeld3
import Derived.Outline
namespace Go.Proofs.Ythgnhdnedenbfac
open Go.RowKit
set_option linter.unusedVariables false

def apartB (a b c d : Int) : Bool := decide (b ≤ a) || decide (d ≤ c) || decide (b ≤ c) || decide (d ≤ a)

set_option maxHeartbeats 400000 in
theorem implApart_any (a b c d : Int) (w : World) :
    Calls Try.prog 14 #[.agg #[.int .i64 a, .int .i64 b], .agg #[.int .i64 c, .int .i64 d]] w fun e w' => e = .returned (.bool (apartB a b c d)) ∧ Below w.heap.size w w' := by
  by_cases h1 : b ≤ a
  · go_enter Try.func14, Try.ntmps14
    go_wp2
    go_ret
    exact ⟨by simp [apartB, h1], by repeat (first | exact Below.refl _ _ | refine Below.drew ?_ | refine Below.alloc ?_ (by simp <;> omega) _)⟩
  by_cases h2 : d ≤ c
  · go_enter Try.func14, Try.ntmps14
    go_wp2
    go_ret
    exact ⟨by simp [apartB, h2], by repeat (first | exact Below.refl _ _ | refine Below.drew ?_ | refine Below.alloc ?_ (by simp <;> omega) _)⟩
  by_cases h3 : b ≤ c
  · go_enter Try.func14, Try.ntmps14
    go_wp2
    go_ret
    exact ⟨by simp [apartB, h3], by repeat (first | exact Below.refl _ _ | refine Below.drew ?_ | refine Below.alloc ?_ (by simp <;> omega) _)⟩
  by_cases h4 : d ≤ a
  all_goals
    go_enter Try.func14, Try.ntmps14
    go_wp2
    go_ret
    exact ⟨by simp [apartB, h1, h2, h3, h4], by repeat (first | exact Below.refl _ _ | refine Below.drew ?_ | refine Below.alloc ?_ (by simp <;> omega) _)⟩

theorem span_keep {W w1 w2 : World} {B : Nat} {p q r s : Addr} {a b c d : Value} (hb : Below w1.heap.size w1 w2)
    (h : w1.cell? p = some a ∧ w1.cell? q = some b ∧ w1.cell? r = some c ∧ w1.cell? s = some d ∧ Below B W w1 ∧ B ≤ w1.heap.size) :
    w2.cell? p = some a ∧ w2.cell? q = some b ∧ w2.cell? r = some c ∧ w2.cell? s = some d ∧ Below B W w2 ∧ B ≤ w2.heap.size := by
  obtain ⟨h1, h2, h3, h4, h5, h6⟩ := h
  have k : ∀ {p : Addr} {v : Value}, w1.cell? p = some v → w2.cell? p = some v := fun {p v} h => (hb.cell (World.block_lt_of_cell? _ _ h)).trans h
  exact ⟨k h1, k h2, k h3, k h4, h5.trans (hb.mono h6), Nat.le_trans h6 hb.size⟩

end Go.Proofs.Ythgnhdnedenbfac
