/-
  Contracts of the draws of sizes, slots, handles and spans, and of big and at: which numbers may come.
-/
import Derived.Test.YtdhocncfpapncacDraw
namespace Go.Proofs.Ytdhocncfpapncac
open Go.RowKit
set_option linter.unusedVariables false

theorem Cur.alloc {w : World} {cb : Nat} (h : Cur w cb) (o : Obj) : Cur (w.alloc o) cb := h.below ((Below.refl w.heap.size w).alloc (Nat.le_refl _) o) h.lt

/-- What a draw leaves: nothing that was there has changed. -/
theorem drawn_below {w w1 w2 : World} (hb : Below w.heap.size w w1) (hg : w1.grownBy w2 (some w.heap.size)) : Below w.heap.size w w2 := below_grown hb hg (Nat.le_refl _) hb.size

end Go.Proofs.Ytdhocncfpapncac
