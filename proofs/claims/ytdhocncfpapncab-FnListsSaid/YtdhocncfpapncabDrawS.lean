/-
  Contracts of the draws of sizes, slots, handles and spans, and of big and at: which numbers may come.
-/
import Derived.Test.YtdhocncfpapncabDraw
namespace Go.Proofs.Ytdhocncfpapncab
open Go.RowKit
set_option linter.unusedVariables false

theorem Cur.alloc {w : World} {cb : Nat} (h : Cur w cb) (o : Obj) : Cur (w.alloc o) cb := h.below ((Below.refl w.heap.size w).alloc (Nat.le_refl _) o) h.lt

set_option maxRecDepth 100000 in
set_option maxHeartbeats 800000 in
theorem l5Slot_any (cb : Nat) (w : World) (hcur : Cur w cb) :
    Calls Try.prog 20 #[.pointer (some ⟨cb, 0, none⟩)] w fun e w' => (∃ x : Int, e = .returned (.int .i64 x) ∧ -1 ≤ x ∧ x ≤ 24) ∧ Cur w' cb ∧ w.grownBy w' (some cb) := by
  have HC := hide hcur
  clear hcur
  go_enter Try.func20, Try.ntmps20
  go_wp2_with fail
  refine (l1Once_any _ _ _ HC.out (by omega)).mono ?_
  rintro e w1 ⟨⟨b, rfl⟩, hc1, hg1⟩
  have HC1 := hide hc1
  have HG1 := hide hg1
  clear hc1 hg1
  cases b
  · go_wp2_with fail
    refine (l1Below_any _ _ _ HC1.out (by omega)).mono ?_
    rintro e w2 ⟨⟨j, rfl, hj⟩, hc2, hg2⟩
    have HC2 := hide hc2
    have HG2 := hide hg2
    clear hc2 hg2
    go_wp2_with fail
    go_ret
    exact ⟨⟨_, rfl, by omega, by omega⟩, HC2.out, grown_trans HG1.out HG2.out⟩
  · go_wp2_with fail
    refine (l1PickInt_any cb w1.heap.size [-1, 24, 23, 0] _ _ _ _ (HC1.out.alloc _) (heap_alloc_new _ _) (by have := HC1.out.lt; omega) rfl (by simp) (by simp)).mono ?_
    rintro e w3 ⟨⟨x, rfl, hx⟩, hc3, hg3⟩
    have hb : -1 ≤ x ∧ x ≤ 24 := by
      simp at hx
      omega
    have HC3 := hide hc3
    have HG3 := hide hg3
    clear hc3 hg3 hx
    go_wp2_with fail
    go_ret
    exact ⟨⟨x, rfl, hb.1, hb.2⟩, HC3.out, grown_trans HG1.out (grown_trans (World.grownBy_alloc _ _ _) HG3.out)⟩

/-- What a draw leaves: nothing that was there has changed. -/
theorem drawn_below {w w1 w2 : World} (hb : Below w.heap.size w w1) (hg : w1.grownBy w2 (some w.heap.size)) : Below w.heap.size w w2 := below_grown hb hg (Nat.le_refl _) hb.size

end Go.Proofs.Ytdhocncfpapncab
