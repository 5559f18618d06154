/-
  Contracts of the reference's cursor over a draw: l1Once, l1PickInt. Each says which numbers may come, and that nothing that was there changes but the cursor.
-/
import Derived.Test.YtdhocncfpapncacDraw0
namespace Go.Proofs.Ytdhocncfpapncac
open Go.RowKit
set_option linter.unusedVariables false

set_option maxRecDepth 100000 in
set_option maxHeartbeats 400000 in
theorem l1Once_any (cb : Nat) (n : Int) (w : World) (hcur : Cur w cb) (hn : n ≤ 1000000000) :
    Calls Try.prog 60 #[.pointer (some ⟨cb, 0, none⟩), .int .i64 n] w fun e w' => (∃ b : Bool, e = .returned (.bool b)) ∧ Cur w' cb ∧ w.grownBy w' (some cb) := by
  have HC := hide hcur
  clear hcur
  go_enter Try.func60, Try.ntmps60
  go_wp2_with fail
  refine (l1Below_any _ _ _ HC.out hn).mono ?_
  rintro e w1 ⟨⟨k, rfl, hk⟩, hc1, hg1⟩
  have HC1 := hide hc1
  have HG1 := hide hg1
  clear hc1 hg1 hk
  go_wp2_with fail
  go_ret
  exact ⟨⟨_, rfl⟩, HC1.out, HG1.out⟩

set_option maxRecDepth 100000 in
set_option maxHeartbeats 400000 in
theorem l1PickInt_any (cb g : Nat) (ls : List Int) (n c : Nat) (T : TypeId) (w : World) (hcur : Cur w cb) (hg : w.heap[g]? = some (.cells (ls.map (Value.int .i64)).toArray T (0, 0))) (hne : g ≠ cb) (hl : n = ls.length) (h0 : 0 < n) (h1 : n ≤ 1000) :
    Calls Try.prog 43 #[.pointer (some ⟨cb, 0, none⟩), .slice (some ⟨g, 0, none⟩) n c] w fun e w' => (∃ x : Int, e = .returned (.int .i64 x) ∧ x ∈ ls) ∧ Cur w' cb ∧ w.grownBy w' (some cb) := by
  have HC := hide hcur
  have HG := hide hg
  have HL := hide hl
  clear hcur hg hl
  go_enter Try.func43, Try.ntmps43
  go_wp2_with fail
  refine (l1Below_any _ _ _ HC.out (by omega)).mono ?_
  rintro e w1 ⟨⟨k, rfl, hk⟩, hc1, hg1⟩
  have hkn : k < n := by omega
  have hkz : (k : Int) < (n : Int) := by omega
  have hlt : k < ls.length := by have := HL.out; omega
  have hcell : w1.cell? ⟨g, k, none⟩ = some (.int .i64 ls[k]) := by
    have hb : w1.heap[g]? = w.heap[g]? := hg1.block g (Array.getElem?_eq_some_iff.1 HG.out).1 (fun e => hne (by injection e))
    rw [cell_of_row _ _ _ _ _ _ (hb.trans HG.out)]
    simp [hlt]
  have HM := hide (List.getElem_mem hlt)
  generalize ls[k] = x at hcell HM
  have HC1 := hide hc1
  have HG1 := hide hg1
  clear hc1 hg1 hk
  go_wp2_with fail
  go_ret
  exact ⟨⟨x, rfl, HM.out⟩, HC1.out, HG1.out⟩
end Go.Proofs.Ytdhocncfpapncac
