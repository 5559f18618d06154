/-
  SameHeap: both lists of two heaps compared. The contracts and the walk of FnExactSameHeap.
-/
import Derived.Test.YtnnmdikbcfefjaaHeap
import Derived.Test.YtnnmdikbcfefjaaSame
namespace Go.Proofs.Ytnnmdikbcfefjaa
open Go.RowKit
set_option linter.unusedVariables false

end Go.Proofs.Ytnnmdikbcfefjaa
