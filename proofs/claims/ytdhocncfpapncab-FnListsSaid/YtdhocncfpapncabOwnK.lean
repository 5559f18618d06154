/-
  Marks over lists that a function has made: markSListS, markLists; and whether they stand: heldSListS, heldLists.
-/
import Derived.Test.YtdhocncfpapncabOwnM
namespace Go.Proofs.Ytdhocncfpapncab
open Go.RowKit
set_option linter.unusedVariables false

def rg (lo hi : Nat) : List Nat := List.range' lo (hi - lo)
theorem mem_rg {lo hi g : Nat} : g ∈ rg lo hi ↔ lo ≤ g ∧ g < hi := by unfold rg; rw [List.mem_range'_1]; omega
/-- The first i rows marked from k on. -/
def mkL (z : List (List Int)) (k : Int) (i : Nat) : List (List Int) := (List.range z.length).map (fun j => if j < i then marks (k + sumL z j) (z.getD j []).length else z.getD j [])
theorem mkL_length (z : List (List Int)) (k : Int) (i : Nat) : (mkL z k i).length = z.length := by simp [mkL]
theorem mkL_at (z : List (List Int)) (k : Int) (i : Nat) {j : Nat} (hj : j < z.length) : (mkL z k i).getD j [] = if j < i then marks (k + sumL z j) (z.getD j []).length else z.getD j [] := by
  simp [mkL, List.getD, hj]
theorem mkL_zero (z : List (List Int)) (k : Int) : mkL z k 0 = z := by
  apply List.ext_getElem
  · exact mkL_length z k 0
  · intro j h1 h2
    have := mkL_at z k 0 h2
    rw [if_neg (by omega)] at this
    simpa [List.getD, h1, h2] using this
theorem mkL_len (z : List (List Int)) (k : Int) (i : Nat) {j : Nat} (hj : j < z.length) : ((mkL z k i).getD j []).length = (z.getD j []).length := by
  rw [mkL_at z k i hj]
  split
  · exact marks_length _ _
  · rfl
theorem mkL_sum (z : List (List Int)) (k : Int) (i : Nat) : ∀ m, m ≤ z.length → sumL (mkL z k i) m = sumL z m := by
  intro m
  induction m with
  | zero => intro _; rfl
  | succ m ih =>
    intro hm
    simp only [sumL]
    rw [ih (by omega), mkL_len z k i (by omega)]
theorem OwnU.mark {w w' : World} {v : Value} {us : List Value} {z z' : List (List Int)} {lo hi i : Nat} {F : List Nat} {zs : List Int} (h : OwnU false w v us z lo hi) (hi' : i < z.length) (hF : ∀ g, g ∈ F ↔ (us.getD i undef).ownBlock = some g) (ht : Touch F w w')
    (ho : Own 3 w' (us.getD i undef) (ints zs) F) (hl : z'.length = z.length) (hzi : z'.getD i [] = zs) (hzn : ∀ j, j < z.length → j ≠ i → z'.getD j [] = z.getD j []) : OwnU false w' v us z' lo hi := by
  refine ⟨h.out.touch ht fun g hg hm => (h.rows.ins i hi' g ((hF g).1 hm)).2.2 hg, h.ob, ⟨by rw [hl]; exact h.rows.len, fun j hj => ?_, fun j hj b hb => h.rows.ins j (by omega) b hb, fun a b ha hb hne c hc => h.rows.dis a b (by omega) (by omega) hne c hc⟩⟩
  by_cases e : j = i
  · subst e
    rw [hzi]
    exact Sr.of_own ho fun g hg => (hF g).2 hg
  · rw [hzn j (by omega) e]
    exact (h.rows.el j (by omega)).touch ht fun g hg hm => h.rows.dis i j hi' (by omega) (fun e' => e e'.symm) g ((hF g).1 hm) hg
end Go.Proofs.Ytdhocncfpapncab
