/-
  The walk of FnExactCodeWord: the words of the codes agree for every int.
-/
import Derived.Test.YtamdebfdnflleaaChecked
import Derived.WalkKit
import Derived.WalkLawsBesides
namespace Go.Proofs.Ytamdebfdnflleaa
open Go.RowKit
set_option linter.unusedVariables false

theorem codeWord_at0 (w : World) : (Instr.index 57 (.agg #[.string { data := #[111, 107] }, .string { data := #[97, 114, 103, 115] }, .string { data := #[115, 105, 122, 101] }, .string { data := #[102, 117, 108, 108] }, .string { data := #[115, 116, 97, 108, 101] }, .string { data := #[103, 117, 97, 114, 100] }, .string { data := #[115, 116, 97, 108, 108] }, .string { data := #[99, 108, 97, 115, 104] }, .string { data := #[110, 111, 110, 101] }]) (.int .i64 0)).run Try.prog w = .ok (.string { data := #[111, 107] }) w := by kernel_rfl
theorem codeWord_at1 (w : World) : (Instr.index 57 (.agg #[.string { data := #[111, 107] }, .string { data := #[97, 114, 103, 115] }, .string { data := #[115, 105, 122, 101] }, .string { data := #[102, 117, 108, 108] }, .string { data := #[115, 116, 97, 108, 101] }, .string { data := #[103, 117, 97, 114, 100] }, .string { data := #[115, 116, 97, 108, 108] }, .string { data := #[99, 108, 97, 115, 104] }, .string { data := #[110, 111, 110, 101] }]) (.int .i64 1)).run Try.prog w = .ok (.string { data := #[97, 114, 103, 115] }) w := by kernel_rfl
theorem codeWord_at2 (w : World) : (Instr.index 57 (.agg #[.string { data := #[111, 107] }, .string { data := #[97, 114, 103, 115] }, .string { data := #[115, 105, 122, 101] }, .string { data := #[102, 117, 108, 108] }, .string { data := #[115, 116, 97, 108, 101] }, .string { data := #[103, 117, 97, 114, 100] }, .string { data := #[115, 116, 97, 108, 108] }, .string { data := #[99, 108, 97, 115, 104] }, .string { data := #[110, 111, 110, 101] }]) (.int .i64 2)).run Try.prog w = .ok (.string { data := #[115, 105, 122, 101] }) w := by kernel_rfl
theorem codeWord_at3 (w : World) : (Instr.index 57 (.agg #[.string { data := #[111, 107] }, .string { data := #[97, 114, 103, 115] }, .string { data := #[115, 105, 122, 101] }, .string { data := #[102, 117, 108, 108] }, .string { data := #[115, 116, 97, 108, 101] }, .string { data := #[103, 117, 97, 114, 100] }, .string { data := #[115, 116, 97, 108, 108] }, .string { data := #[99, 108, 97, 115, 104] }, .string { data := #[110, 111, 110, 101] }]) (.int .i64 3)).run Try.prog w = .ok (.string { data := #[102, 117, 108, 108] }) w := by kernel_rfl
theorem codeWord_at4 (w : World) : (Instr.index 57 (.agg #[.string { data := #[111, 107] }, .string { data := #[97, 114, 103, 115] }, .string { data := #[115, 105, 122, 101] }, .string { data := #[102, 117, 108, 108] }, .string { data := #[115, 116, 97, 108, 101] }, .string { data := #[103, 117, 97, 114, 100] }, .string { data := #[115, 116, 97, 108, 108] }, .string { data := #[99, 108, 97, 115, 104] }, .string { data := #[110, 111, 110, 101] }]) (.int .i64 4)).run Try.prog w = .ok (.string { data := #[115, 116, 97, 108, 101] }) w := by kernel_rfl
theorem codeWord_at5 (w : World) : (Instr.index 57 (.agg #[.string { data := #[111, 107] }, .string { data := #[97, 114, 103, 115] }, .string { data := #[115, 105, 122, 101] }, .string { data := #[102, 117, 108, 108] }, .string { data := #[115, 116, 97, 108, 101] }, .string { data := #[103, 117, 97, 114, 100] }, .string { data := #[115, 116, 97, 108, 108] }, .string { data := #[99, 108, 97, 115, 104] }, .string { data := #[110, 111, 110, 101] }]) (.int .i64 5)).run Try.prog w = .ok (.string { data := #[103, 117, 97, 114, 100] }) w := by kernel_rfl
theorem codeWord_at6 (w : World) : (Instr.index 57 (.agg #[.string { data := #[111, 107] }, .string { data := #[97, 114, 103, 115] }, .string { data := #[115, 105, 122, 101] }, .string { data := #[102, 117, 108, 108] }, .string { data := #[115, 116, 97, 108, 101] }, .string { data := #[103, 117, 97, 114, 100] }, .string { data := #[115, 116, 97, 108, 108] }, .string { data := #[99, 108, 97, 115, 104] }, .string { data := #[110, 111, 110, 101] }]) (.int .i64 6)).run Try.prog w = .ok (.string { data := #[115, 116, 97, 108, 108] }) w := by kernel_rfl
theorem codeWord_at7 (w : World) : (Instr.index 57 (.agg #[.string { data := #[111, 107] }, .string { data := #[97, 114, 103, 115] }, .string { data := #[115, 105, 122, 101] }, .string { data := #[102, 117, 108, 108] }, .string { data := #[115, 116, 97, 108, 101] }, .string { data := #[103, 117, 97, 114, 100] }, .string { data := #[115, 116, 97, 108, 108] }, .string { data := #[99, 108, 97, 115, 104] }, .string { data := #[110, 111, 110, 101] }]) (.int .i64 7)).run Try.prog w = .ok (.string { data := #[99, 108, 97, 115, 104] }) w := by kernel_rfl
theorem codeWord_at8 (w : World) : (Instr.index 57 (.agg #[.string { data := #[111, 107] }, .string { data := #[97, 114, 103, 115] }, .string { data := #[115, 105, 122, 101] }, .string { data := #[102, 117, 108, 108] }, .string { data := #[115, 116, 97, 108, 101] }, .string { data := #[103, 117, 97, 114, 100] }, .string { data := #[115, 116, 97, 108, 108] }, .string { data := #[99, 108, 97, 115, 104] }, .string { data := #[110, 111, 110, 101] }]) (.int .i64 8)).run Try.prog w = .ok (.string { data := #[110, 111, 110, 101] }) w := by kernel_rfl

set_option maxRecDepth 100000 in
set_option maxHeartbeats 400000 in
theorem codeWord_case0 (w : World) :
    Calls Try.prog 6 #[.int .i64 0] w fun e w' => e = .returned (.bool true) ∧ Below w.heap.size w w' := by
  have hi := codeWord_at0
  go_enter Try.func6, Try.ntmps6
  go_wp2
  go_ret
  exact ⟨rfl, by repeat (first | exact Below.refl _ _ | apply Below.drew | refine Below.alloc ?_ (by simp) _)⟩

set_option maxRecDepth 100000 in
set_option maxHeartbeats 400000 in
theorem codeWord_case1 (w : World) :
    Calls Try.prog 6 #[.int .i64 1] w fun e w' => e = .returned (.bool true) ∧ Below w.heap.size w w' := by
  have hi := codeWord_at1
  go_enter Try.func6, Try.ntmps6
  go_wp2
  go_ret
  exact ⟨rfl, by repeat (first | exact Below.refl _ _ | apply Below.drew | refine Below.alloc ?_ (by simp) _)⟩

set_option maxRecDepth 100000 in
set_option maxHeartbeats 400000 in
theorem codeWord_case2 (w : World) :
    Calls Try.prog 6 #[.int .i64 2] w fun e w' => e = .returned (.bool true) ∧ Below w.heap.size w w' := by
  have hi := codeWord_at2
  go_enter Try.func6, Try.ntmps6
  go_wp2
  go_ret
  exact ⟨rfl, by repeat (first | exact Below.refl _ _ | apply Below.drew | refine Below.alloc ?_ (by simp) _)⟩

set_option maxRecDepth 100000 in
set_option maxHeartbeats 400000 in
theorem codeWord_case3 (w : World) :
    Calls Try.prog 6 #[.int .i64 3] w fun e w' => e = .returned (.bool true) ∧ Below w.heap.size w w' := by
  have hi := codeWord_at3
  go_enter Try.func6, Try.ntmps6
  go_wp2
  go_ret
  exact ⟨rfl, by repeat (first | exact Below.refl _ _ | apply Below.drew | refine Below.alloc ?_ (by simp) _)⟩

set_option maxRecDepth 100000 in
set_option maxHeartbeats 400000 in
theorem codeWord_case4 (w : World) :
    Calls Try.prog 6 #[.int .i64 4] w fun e w' => e = .returned (.bool true) ∧ Below w.heap.size w w' := by
  have hi := codeWord_at4
  go_enter Try.func6, Try.ntmps6
  go_wp2
  go_ret
  exact ⟨rfl, by repeat (first | exact Below.refl _ _ | apply Below.drew | refine Below.alloc ?_ (by simp) _)⟩

set_option maxRecDepth 100000 in
set_option maxHeartbeats 400000 in
theorem codeWord_case5 (w : World) :
    Calls Try.prog 6 #[.int .i64 5] w fun e w' => e = .returned (.bool true) ∧ Below w.heap.size w w' := by
  have hi := codeWord_at5
  go_enter Try.func6, Try.ntmps6
  go_wp2
  go_ret
  exact ⟨rfl, by repeat (first | exact Below.refl _ _ | apply Below.drew | refine Below.alloc ?_ (by simp) _)⟩

set_option maxRecDepth 100000 in
set_option maxHeartbeats 400000 in
theorem codeWord_case6 (w : World) :
    Calls Try.prog 6 #[.int .i64 6] w fun e w' => e = .returned (.bool true) ∧ Below w.heap.size w w' := by
  have hi := codeWord_at6
  go_enter Try.func6, Try.ntmps6
  go_wp2
  go_ret
  exact ⟨rfl, by repeat (first | exact Below.refl _ _ | apply Below.drew | refine Below.alloc ?_ (by simp) _)⟩

set_option maxRecDepth 100000 in
set_option maxHeartbeats 400000 in
theorem codeWord_case7 (w : World) :
    Calls Try.prog 6 #[.int .i64 7] w fun e w' => e = .returned (.bool true) ∧ Below w.heap.size w w' := by
  have hi := codeWord_at7
  go_enter Try.func6, Try.ntmps6
  go_wp2
  go_ret
  exact ⟨rfl, by repeat (first | exact Below.refl _ _ | apply Below.drew | refine Below.alloc ?_ (by simp) _)⟩

set_option maxRecDepth 100000 in
set_option maxHeartbeats 400000 in
theorem codeWord_case8 (w : World) :
    Calls Try.prog 6 #[.int .i64 8] w fun e w' => e = .returned (.bool true) ∧ Below w.heap.size w w' := by
  have hi := codeWord_at8
  go_enter Try.func6, Try.ntmps6
  go_wp2
  go_ret
  exact ⟨rfl, by repeat (first | exact Below.refl _ _ | apply Below.drew | refine Below.alloc ?_ (by simp) _)⟩

set_option maxHeartbeats 400000 in
theorem fnExactCodeWord_walk (a0 : Int) (w : World) (w0 : (Lit.int .i64 a0).wf = true) :
    Calls Try.prog 6 #[.int .i64 a0] w fun e w' => e = .returned (.bool true) ∧ Below w.heap.size w w' := by
  clear w0
  by_cases h1 : 0 ≤ a0
  · by_cases h2 : a0 ≤ 8
    · rcases (show a0 = 0 ∨ a0 = 1 ∨ a0 = 2 ∨ a0 = 3 ∨ a0 = 4 ∨ a0 = 5 ∨ a0 = 6 ∨ a0 = 7 ∨ a0 = 8 from by omega) with h | h | h | h | h | h | h | h | h
      · subst h; exact codeWord_case0 w
      · subst h; exact codeWord_case1 w
      · subst h; exact codeWord_case2 w
      · subst h; exact codeWord_case3 w
      · subst h; exact codeWord_case4 w
      · subst h; exact codeWord_case5 w
      · subst h; exact codeWord_case6 w
      · subst h; exact codeWord_case7 w
      · subst h; exact codeWord_case8 w
    · go_enter Try.func6, Try.ntmps6
      go_wp2
      go_ret
      exact ⟨rfl, Below.refl _ _⟩
  · go_enter Try.func6, Try.ntmps6
    go_wp2
    go_ret
    exact ⟨rfl, Below.refl _ _⟩
end Go.Proofs.Ytamdebfdnflleaa
