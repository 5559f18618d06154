/-
  Contracts of markIntS and heldIntS (the laws' helpers that mark a slice of ints and look whether the marks stand), of the program's slices.Clone and the reference's l3Copy.
-/
import Derived.Test.YtnnmdikbcfefjaaApp
import Derived.Deep.QuietTactic
import Derived.BigQuiet
import Derived.LoopTactic
import Derived.Outline
namespace Go.Proofs.Ytnnmdikbcfefjaa
open Go.RowKit
set_option linter.unusedVariables false

/-- The first i of the marks from k on have been written over zs. -/
def half (zs : List Int) (k : Int) (i : Nat) (j : Nat) : Int := if j < i then k + j else zs.getD j 0

structure MarkInv (w wr : World) (g : Nat) (cap : Nat) (zs : List Int) (k : Int) (i : Nat) : Prop where
  row : ∃ f, wr.rowIs g 3 cap f ∧ ∀ j, j < zs.length → f j = .int .i64 (half zs k i j)
  bel : Touch [g] w wr

theorem markInv_step {w wr : World} {g cap : Nat} {zs : List Int} {k : Int} {i : Nat} (h : MarkInv w wr g cap zs k i) : MarkInv w (wr.setCell ⟨g, i, none⟩ (.int .i64 (k + i))) g cap zs k (i + 1) := by
  obtain ⟨⟨f, hr, hf⟩, hb⟩ := h
  refine ⟨⟨_, hr.set i _, fun j hj => ?_⟩, hb.setCell (by simp) _⟩
  by_cases e : j = i
  · subst e; simp [half]
  · rw [if_neg e, hf j hj]
    unfold half
    by_cases hl : j < i
    · rw [if_pos hl, if_pos (by omega)]
    · rw [if_neg hl, if_neg (by omega)]

theorem intInfo2 : (Try.prog.info? 3).map (fun i => (i.zero, i.size, i.bytes)) = some (some (.int .i64 0), 1, 8) := by kernel_rfl

theorem copy_own {w w' : World} {v : Value} {n : Nat} {zs : List Int} (h : w'.ownsRow w.heap.size 3 1 v n (ints zs)) :
    ∃ A' c' F, v = .slice A' n c' ∧ Own 3 w' (.slice A' n c') (ints zs) F ∧ (∀ g, g ∈ F → w.heap.size ≤ g) := by
  obtain ⟨A', c', F, rfl, _, ho, hF⟩ := own_of_row h
  exact ⟨A', c', F, rfl, ho, fun g hg => (hF g hg).1⟩

end Go.Proofs.Ytnnmdikbcfefjaa
