/-
  SameLists: have two values equal lists? The contracts and the walk of the law.
-/
import Derived.Test.YtnnmdikbcfefjaaLstsM
import Derived.Test.YtnnmdikbcfefjaaSame
namespace Go.Proofs.Ytnnmdikbcfefjaa
open Go.RowKit
set_option linter.unusedVariables false

theorem listG_eq {α : Type} (d : α) {xs ys : List α} (hl : xs.length = ys.length) (h : ∀ j, j < xs.length → xs.getD j d = ys.getD j d) : xs = ys := by
  refine List.ext_getElem hl fun j h1 h2 => ?_
  have := h j h1
  simpa [List.getD, h1, h2] using this
def sameL (z z' : List (List Int)) : Bool := decide (z = z')
def sameR (z y z' y' : List (List Int)) : Bool := sameL z z' && sameL y y'
theorem sameL_len {z z' : List (List Int)} (h : ¬ z.length = z'.length) : sameL z z' = false := decide_eq_false (fun e => h (by rw [e]))
theorem sameL_at {z z' : List (List Int)} {k : Nat} (h : decide (z.getD k [] = z'.getD k []) = false) : sameL z z' = false := decide_eq_false (fun e => by rw [e] at h; simp at h)
theorem sameL_yes {z z' : List (List Int)} (hl : z.length = z'.length) (h : ∀ j, j < z.length → z.getD j [] = z'.getD j []) : sameL z z' = true := decide_eq_true (listG_eq [] hl h)
end Go.Proofs.Ytnnmdikbcfefjaa
