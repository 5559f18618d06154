/-
  Contracts of the laws' helpers on []int: toIntS (a copy in a new block), eqIntS at equal lists, szIntS, markIntS, heldIntS.
-/
import Derived.Test.YtdhocncfpapncacMem
import Derived.Deep.QuietTactic
import Derived.BigQuiet
import Derived.LoopTactic
namespace Go.Proofs.Ytdhocncfpapncac
open Go.RowKit
set_option linter.unusedVariables false

theorem intInfo : (Try.prog.info? 3).map (fun i => (i.zero, i.size, i.bytes)) = some (some (.int .i64 0), 1, 8) := by kernel_rfl

structure ToInv (w wr : World) (n : Nat) (zs : List Int) (k : Nat) : Prop where
  row : wr.rowIs w.heap.size 3 n (fun j => if j < k then .int .i64 (zs.getD j 0) else .int .i64 0)
  bel : Below w.heap.size w wr

theorem toInv_start (w : World) (n : Nat) (zs : List Int) : ToInv w (w.alloc (.cells (madeCells #[.int .i64 0] n) 3)) n zs 0 :=
  ⟨(World.rowIs_made w _ n _).congr (fun j _ => by simp), (Below.refl _ _).alloc (Nat.le_refl _) _⟩
theorem toInv_step {w wr : World} {n : Nat} {zs : List Int} {k : Nat} (h : ToInv w wr n zs k) {x : Int} (hx : x = zs.getD k 0) : ToInv w (wr.setCell ⟨w.heap.size, k, none⟩ (.int .i64 x)) n zs (k + 1) := by
  refine ⟨(h.row.set k _).congr (fun j _ => ?_), h.bel.setCell (Nat.le_refl _) _⟩
  by_cases e : j = k
  · subst e; simp [hx]
  · rw [if_neg e]
    by_cases hl : j < k
    · rw [if_pos hl, if_pos (by omega)]
    · rw [if_neg hl, if_neg (by omega)]
theorem toInv_own {w wr : World} {n : Nat} {zs : List Int} {k : Nat} (h : ToInv w wr n zs k) (hn : n = zs.length) (hm : n ≤ maxLen) (hk : n ≤ k) : Own 3 wr (.slice (some ⟨w.heap.size, 0, none⟩) n n) (ints zs) [w.heap.size] :=
  ⟨some ⟨w.heap.size, 0, none⟩, n, by rw [ints_length, hn], hm, .inr ⟨_, n, _, rfl, rfl, h.row, by rw [ints_length]; omega, Nat.le_refl _, fun j hj => by
    rw [ints_length] at hj
    rw [if_pos (by omega), ints_get _ _ hj]⟩⟩

end Go.Proofs.Ytdhocncfpapncac
