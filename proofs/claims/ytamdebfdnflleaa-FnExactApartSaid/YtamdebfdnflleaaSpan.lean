/-
  The walk of FnExactApart: the two functions on spans agree for all spans.
-/
import Derived.Test.YtamdebfdnflleaaChecked
import Derived.WalkKit
import Derived.WalkLawsBesides
import Derived.Deep.RegionHeld3
import Derived.Outline
namespace Go.Proofs.Ytamdebfdnflleaa
open Go.RowKit
set_option linter.unusedVariables false

set_option maxHeartbeats 400000 in
theorem toSpan_any (a b : Int) (w : World) :
    Calls Try.prog 18 #[.agg #[.int .i64 a, .int .i64 b]] w fun e w' => e = .returned (.agg #[.int .i64 a, .int .i64 b]) ∧ Below w.heap.size w w' := by
  go_enter Try.func18, Try.ntmps18
  go_wp2
  exact bodyPost_ret (v := .agg #[.int .i64 a, .int .i64 b]) (by simp [results, Try.results18, go_sem]) rfl ⟨rfl, by repeat (first | exact Below.refl _ _ | refine Below.drew ?_ | refine Below.setCell ?_ (by simp) _ | refine Below.alloc ?_ (by simp <;> omega) _)⟩

def apartB (a b c d : Int) : Bool := decide (b ≤ a) || decide (d ≤ c) || decide (b ≤ c) || decide (d ≤ a)

set_option maxHeartbeats 400000 in
theorem specApart_any (a b c d : Int) (w : World) :
    Calls Try.prog 17 #[.agg #[.int .i64 a, .int .i64 b], .agg #[.int .i64 c, .int .i64 d]] w fun e w' => e = .returned (.bool (apartB a b c d)) ∧ Below w.heap.size w w' := by
  by_cases h1 : b ≤ a
  · go_enter Try.func17, Try.ntmps17
    go_wp2
    go_ret
    exact ⟨by simp [apartB, h1], by repeat (first | exact Below.refl _ _ | refine Below.drew ?_ | refine Below.alloc ?_ (by simp <;> omega) _)⟩
  by_cases h2 : d ≤ c
  · go_enter Try.func17, Try.ntmps17
    go_wp2
    go_ret
    exact ⟨by simp [apartB, h2], by repeat (first | exact Below.refl _ _ | refine Below.drew ?_ | refine Below.alloc ?_ (by simp <;> omega) _)⟩
  by_cases h3 : b ≤ c
  · go_enter Try.func17, Try.ntmps17
    go_wp2
    go_ret
    exact ⟨by simp [apartB, h3], by repeat (first | exact Below.refl _ _ | refine Below.drew ?_ | refine Below.alloc ?_ (by simp <;> omega) _)⟩
  by_cases h4 : d ≤ a
  all_goals
    go_enter Try.func17, Try.ntmps17
    go_wp2
    go_ret
    exact ⟨by simp [apartB, h1, h2, h3, h4], by repeat (first | exact Below.refl _ _ | refine Below.drew ?_ | refine Below.alloc ?_ (by simp <;> omega) _)⟩

set_option maxHeartbeats 400000 in
theorem implApart_any (a b c d : Int) (w : World) :
    Calls Try.prog 19 #[.agg #[.int .i64 a, .int .i64 b], .agg #[.int .i64 c, .int .i64 d]] w fun e w' => e = .returned (.bool (apartB a b c d)) ∧ Below w.heap.size w w' := by
  by_cases h1 : b ≤ a
  · go_enter Try.func19, Try.ntmps19
    go_wp2
    go_ret
    exact ⟨by simp [apartB, h1], by repeat (first | exact Below.refl _ _ | refine Below.drew ?_ | refine Below.alloc ?_ (by simp <;> omega) _)⟩
  by_cases h2 : d ≤ c
  · go_enter Try.func19, Try.ntmps19
    go_wp2
    go_ret
    exact ⟨by simp [apartB, h2], by repeat (first | exact Below.refl _ _ | refine Below.drew ?_ | refine Below.alloc ?_ (by simp <;> omega) _)⟩
  by_cases h3 : b ≤ c
  · go_enter Try.func19, Try.ntmps19
    go_wp2
    go_ret
    exact ⟨by simp [apartB, h3], by repeat (first | exact Below.refl _ _ | refine Below.drew ?_ | refine Below.alloc ?_ (by simp <;> omega) _)⟩
  by_cases h4 : d ≤ a
  all_goals
    go_enter Try.func19, Try.ntmps19
    go_wp2
    go_ret
    exact ⟨by simp [apartB, h1, h2, h3, h4], by repeat (first | exact Below.refl _ _ | refine Below.drew ?_ | refine Below.alloc ?_ (by simp <;> omega) _)⟩

theorem span_keep {W w1 w2 : World} {B : Nat} {p q r s : Addr} {a b c d : Value} (hb : Below w1.heap.size w1 w2)
    (h : w1.cell? p = some a ∧ w1.cell? q = some b ∧ w1.cell? r = some c ∧ w1.cell? s = some d ∧ Below B W w1 ∧ B ≤ w1.heap.size) :
    w2.cell? p = some a ∧ w2.cell? q = some b ∧ w2.cell? r = some c ∧ w2.cell? s = some d ∧ Below B W w2 ∧ B ≤ w2.heap.size := by
  obtain ⟨h1, h2, h3, h4, h5, h6⟩ := h
  have k : ∀ {p : Addr} {v : Value}, w1.cell? p = some v → w2.cell? p = some v := fun {p v} h => (hb.cell (World.block_lt_of_cell? _ _ h)).trans h
  exact ⟨k h1, k h2, k h3, k h4, h5.trans (hb.mono h6), Nat.le_trans h6 hb.size⟩

set_option maxHeartbeats 800000 in
theorem fnExactApart_walk (a0 b0 a1 b1 : Int) (w : World) (_ : (Lit.int .i64 a0).wf = true) (_ : (Lit.int .i64 b0).wf = true) (_ : (Lit.int .i64 a1).wf = true) (_ : (Lit.int .i64 b1).wf = true) :
    Calls Try.prog 5 #[.agg #[.int .i64 a0, .int .i64 b0], .agg #[.int .i64 a1, .int .i64 b1]] w fun e w' => e = .returned (.bool true) ∧ Below w.heap.size w w' := by
  go_enter Try.func5, Try.ntmps5
  go_wp2_with fail
  go_region_held3 (fun w' => w'.cell? ⟨w.heap.size, 0, none⟩ = some (.int .i64 a0) ∧ w'.cell? ⟨w.heap.size, 1, none⟩ = some (.int .i64 b0) ∧ w'.cell? ⟨w.heap.size + 1, 0, none⟩ = some (.int .i64 a1) ∧ w'.cell? ⟨w.heap.size + 1, 1, none⟩ = some (.int .i64 b1) ∧ Below w.heap.size w w' ∧ w.heap.size ≤ w'.heap.size)
    (first | (exact span_keep (hb := by assumption) (h := by assumption)) | (refine ⟨by go_simp, by go_simp, by go_simp, by go_simp, by repeat (first | exact Below.refl _ _ | refine Below.drew ?_ | refine Below.alloc ?_ (by simp <;> omega) _), by simp <;> omega⟩))
    (first
      | (go_at_call 18; refine (toSpan_any _ _ _).mono ?_; rintro e w' ⟨rfl, hb⟩)
      | (go_at_call 17; refine (specApart_any _ _ _ _ _).mono ?_; rintro e w' ⟨rfl, hb⟩))
  have hz := ‹_ ∧ _ ∧ _ ∧ _ ∧ Below _ w _ ∧ _›
  obtain ⟨c0, c1, c2, c3, hB, hs⟩ := hz
  go_wp2_with fail
  go_region_held3 (fun w' => w'.cell? ⟨w.heap.size, 0, none⟩ = some (.int .i64 a0) ∧ w'.cell? ⟨w.heap.size, 1, none⟩ = some (.int .i64 b0) ∧ w'.cell? ⟨w.heap.size + 1, 0, none⟩ = some (.int .i64 a1) ∧ w'.cell? ⟨w.heap.size + 1, 1, none⟩ = some (.int .i64 b1) ∧ Below w.heap.size w w' ∧ w.heap.size ≤ w'.heap.size)
    (first | (exact span_keep (hb := by assumption) (h := by assumption)) | (exact ⟨c0, c1, c2, c3, hB.drew, hs⟩) | (exact ⟨c0, c1, c2, c3, hB, hs⟩))
    (first
      | (go_at_call 18; refine (toSpan_any _ _ _).mono ?_; rintro e w' ⟨rfl, hb⟩)
      | (go_at_call 19; refine (implApart_any _ _ _ _ _).mono ?_; rintro e w' ⟨rfl, hb⟩))
  have hz2 := ‹_ ∧ _ ∧ _ ∧ _ ∧ Below _ w _ ∧ _›
  obtain ⟨_, _, _, _, hB2, _⟩ := hz2
  go_wp2
  go_ret
  exact ⟨rfl, hB2⟩
end Go.Proofs.Ytamdebfdnflleaa
