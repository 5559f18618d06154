/-
  Contracts of isClass, isWorker, OwnAt (both sides): is this a class, a worker; where a worker's list lies.
-/
import Derived.Test.YtnnmdikbcfefjaaIn
namespace Go.Proofs.Ytnnmdikbcfefjaa
open Go.RowKit
set_option linter.unusedVariables false

def in02 (x : Int) : Bool := decide (0 ≤ x ∧ x ≤ 2)
theorem in02_nat {x : Int} (h : in02 x = true) : ∃ k : Nat, x = (k : Int) ∧ k < 3 := ⟨x.toNat, by have := of_decide_eq_true h; omega, by have := of_decide_eq_true h; omega⟩
theorem nat_in02 {k : Nat} (h : k < 3) : in02 (k : Int) = true := decide_eq_true (by omega)
theorem l1In2_q {x : Int} {r : Bool} (h : in02 x = r) (w : World) : Calls Try.prog 27 #[.int .i64 x, .int .i64 0, .int .i64 2] w fun e w' => e = .returned (.bool r) ∧ w = w' := by
  subst h
  by_cases h : 0 ≤ x ∧ x ≤ 2
  · rw [show in02 x = true from decide_eq_true h]; exact l1In_yes _ _ _ w h.1 h.2
  · rw [show in02 x = false from decide_eq_false h]; exact l1In_no _ _ _ w h
theorem within2_q {x : Int} {r : Bool} (h : in02 x = r) (w : World) : Calls Try.prog 53 #[.int .i64 x, .int .i64 0, .int .i64 2] w fun e w' => e = .returned (.bool r) ∧ w = w' := by
  subst h
  by_cases h : 0 ≤ x ∧ x ≤ 2
  · rw [show in02 x = true from decide_eq_true h]; exact within_yes _ _ _ w h.1 h.2
  · rw [show in02 x = false from decide_eq_false h]; exact within_no _ _ _ w h
theorem isClass_q {x : Int} {r : Bool} (h : in02 x = r) (w : World) : Calls Try.prog 67 #[.int .i64 x] w fun e w' => e = .returned (.bool r) ∧ w = w' := by
  have H := hide h
  clear h
  go_enter Try.func67, Try.ntmps67
  go_wp2_with fail
  refine (within2_q H.out w).mono ?_
  rintro e w1 ⟨rfl, rfl⟩
  go_wp2
  go_ret
  exact ⟨rfl, rfl⟩
/-- What both sides' OwnAt answers. -/
def ownPR (a c : Int) : Int := if in02 a = true ∧ in02 c = true then a * 3 + c else -1
set_option maxHeartbeats 400000 in
theorem specOwnAt_any (a c : Int) (w : World) : Calls Try.prog 14 #[.int .i64 a, .int .i64 c] w fun e w' => e = .returned (.int .i64 (ownPR a c)) ∧ w = w' := by
  cases h1 : in02 a
  · have HX : Hid (ownPR a c = -1) := hide (by unfold ownPR; rw [if_neg (by rw [h1]; simp)])
    have H1 := hide h1
    clear h1
    go_enter Try.func14, Try.ntmps14
    go_wp2_with fail
    refine (l1In2_q H1.out w).mono ?_
    rintro e w1 ⟨rfl, rfl⟩
    go_wp2
    go_ret
    exact ⟨retI HX.out.symm, rfl⟩
  cases h2 : in02 c
  · have HX : Hid (ownPR a c = -1) := hide (by unfold ownPR; rw [if_neg (by rw [h2]; simp)])
    have H1 := hide h1
    have H2 := hide h2
    clear h1 h2
    go_enter Try.func14, Try.ntmps14
    go_wp2_with fail
    refine (l1In2_q H1.out w).mono ?_
    rintro e w1 ⟨rfl, rfl⟩
    go_wp2_with fail
    refine (l1In2_q H2.out w).mono ?_
    rintro e w1 ⟨rfl, rfl⟩
    go_wp2
    go_ret
    exact ⟨retI HX.out.symm, rfl⟩
  · have HX : Hid (ownPR a c = a * 3 + c) := hide (by unfold ownPR; rw [if_pos ⟨h1, h2⟩])
    have H1 := hide h1
    have H2 := hide h2
    obtain ⟨i, ei, hi⟩ := in02_nat h1
    obtain ⟨j, ej, hj⟩ := in02_nat h2
    have b1 : 0 ≤ a := by omega
    have b2 : a ≤ 2 := by omega
    have b3 : 0 ≤ c := by omega
    have b4 : c ≤ 2 := by omega
    clear h1 h2 ei ej
    go_enter Try.func14, Try.ntmps14
    go_wp2_with fail
    refine (l1In2_q H1.out w).mono ?_
    rintro e w1 ⟨rfl, rfl⟩
    go_wp2_with fail
    refine (l1In2_q H2.out w).mono ?_
    rintro e w1 ⟨rfl, rfl⟩
    go_wp2
    go_ret
    exact ⟨retI (by rw [HX.out]), rfl⟩
theorem ownPR_nat {j k : Nat} (hj : j < 3) (hk : k < 3) : ownPR j k = ((j * 3 + k : Nat) : Int) := by
  unfold ownPR; rw [if_pos ⟨nat_in02 hj, nat_in02 hk⟩]; omega
theorem ownPR_neg {a c : Int} (h : ¬ (in02 a = true ∧ in02 c = true)) : ownPR a c = -1 := by unfold ownPR; rw [if_neg h]
end Go.Proofs.Ytnnmdikbcfefjaa
