/-
  The walk of FnExactFixed.
-/
import Derived.Test.YtcigohnndbmadaaFix
import Derived.OpenShut
namespace Go.Proofs.Ytcigohnndbmadaa
open Go.RowKit
set_option linter.unusedVariables false

set_option maxRecDepth 100000 in
set_option maxHeartbeats 400000 in
theorem fnExactFixed_walk (n width : Int) (w : World) (h0 : (Lit.int .i64 n).wf = true) (_ : (Lit.int .i64 width).wf = true) :
    Calls Try.prog 6 #[.int .i64 n, .int .i64 width] w fun e w' => e = .returned (.bool true) ∧ Below w.heap.size w w' := by
  have hb := bounds_i64 h0
  have H0 := hide hb
  clear hb h0
  go_enter Try.func6, Try.ntmps6
  go_wp2_with fail
  refine (specFixed_any _ _ _ H0.out.2).mono ?_
  rintro e w1 ⟨rfl, hb1⟩
  have HB1 := hide hb1
  clear hb1
  go_wp2_with fail
  refine (implFixed_any _ _ _ H0.out.1 H0.out.2).mono ?_
  rintro e w2 ⟨rfl, hb2⟩
  have HB2 := hide (HB1.out.trans (hb2.mono HB1.out.size))
  clear hb2
  go_wp2
  go_ret
  exact ⟨rfl, HB2.out⟩
end Go.Proofs.Ytcigohnndbmadaa
