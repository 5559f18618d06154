/-
  Contracts of the plain functions on classes, places and handles, of the reference and of the program: each returns the value of one Lean function, and the world stays.
-/
import Derived.Test.YtdhocncfpapncacChecked
import Derived.WalkKit
import Derived.WalkLawsBesides
namespace Go.Proofs.Ytdhocncfpapncac
open Go.RowKit
set_option linter.unusedVariables false

theorem hidden {p : Prop} (h : p) : Hid p := h
theorem ret_int {k : IntKind} {a b : Int} (h : a = b) : Ending.returned (.int k a) = .returned (.int k b) := by rw [h]

def sizeC (c : Int) : Int := if c = 0 then 8 else if c = 1 then 16 else if c = 2 then 40 else 0
def strideC (c : Int) : Int := if c = 0 then 12 else if c = 1 then 20 else if c = 2 then 44 else 0
def perC (c : Int) : Int := if c = 0 then 4 else if c = 1 then 2 else if c = 2 then 1 else 0
def genAtC (slot c : Int) : Int := if 0 ≤ slot ∧ slot < 24 ∧ slot % 4 < perC c then slot / 4 * 64 + 8 + slot % 4 * strideC c else -1

theorem class_cases (c : Int) : c = 0 ∨ c = 1 ∨ c = 2 ∨ c < 0 ∨ 2 < c := by omega
theorem sizeC_bd (c : Int) : 0 ≤ sizeC c ∧ sizeC c ≤ 40 := by unfold sizeC; split <;> (try split) <;> (try split) <;> omega
theorem strideC_bd (c : Int) : 0 ≤ strideC c ∧ strideC c ≤ 44 := by unfold strideC; split <;> (try split) <;> (try split) <;> omega
theorem perC_bd (c : Int) : 0 ≤ perC c ∧ perC c ≤ 4 := by unfold perC; split <;> (try split) <;> (try split) <;> omega
theorem perC_out {c : Int} (h : c < 0 ∨ 2 < c) : perC c = 0 := by unfold perC; rw [if_neg (by omega), if_neg (by omega), if_neg (by omega)]
theorem sizeC_out {c : Int} (h : c < 0 ∨ 2 < c) : sizeC c = 0 := by unfold sizeC; rw [if_neg (by omega), if_neg (by omega), if_neg (by omega)]
theorem strideC_out {c : Int} (h : c < 0 ∨ 2 < c) : strideC c = 0 := by unfold strideC; rw [if_neg (by omega), if_neg (by omega), if_neg (by omega)]
theorem genAtC_out {slot c : Int} (h : slot < 0 ∨ 24 ≤ slot ∨ perC c ≤ slot % 4) : genAtC slot c = -1 := by unfold genAtC; rw [if_neg (by omega)]
theorem genAtC_in {slot c : Int} (h0 : 0 ≤ slot) (h1 : slot < 24) (h2 : slot % 4 < perC c) : genAtC slot c = slot / 4 * 64 + 8 + slot % 4 * strideC c := by unfold genAtC; rw [if_pos ⟨h0, h1, h2⟩]
theorem genAtC_bd (slot c : Int) : (genAtC slot c = -1 ∧ (slot < 0 ∨ 24 ≤ slot ∨ perC c ≤ slot % 4)) ∨ (8 ≤ genAtC slot c ∧ genAtC slot c + 4 + sizeC c ≤ 384 ∧ 0 ≤ slot ∧ slot < 24 ∧ slot % 4 < perC c ∧ 0 ≤ c ∧ c ≤ 2) := by
  by_cases h : 0 ≤ slot ∧ slot < 24 ∧ slot % 4 < perC c
  · obtain ⟨h0, h1, h2⟩ := h
    rw [genAtC_in h0 h1 h2]
    right
    rcases class_cases c with rfl | rfl | rfl | hc | hc
    · simp [perC, strideC, sizeC] at *; omega
    · simp [perC, strideC, sizeC] at *; omega
    · simp [perC, strideC, sizeC] at *; omega
    · rw [perC_out (.inl hc)] at h2; omega
    · rw [perC_out (.inr hc)] at h2; omega
  · left
    exact ⟨by unfold genAtC; rw [if_neg h], by omega⟩

theorem sizes_at0 (w : World) : (Instr.index 65 (.agg #[.int .i64 8, .int .i64 16, .int .i64 40]) (.int .i64 0)).run Try.prog w = .ok (.int .i64 8) w := by kernel_rfl
theorem sizes_at1 (w : World) : (Instr.index 65 (.agg #[.int .i64 8, .int .i64 16, .int .i64 40]) (.int .i64 1)).run Try.prog w = .ok (.int .i64 16) w := by kernel_rfl
theorem sizes_at2 (w : World) : (Instr.index 65 (.agg #[.int .i64 8, .int .i64 16, .int .i64 40]) (.int .i64 2)).run Try.prog w = .ok (.int .i64 40) w := by kernel_rfl

set_option maxHeartbeats 400000 in
theorem specSizeOf_any (c : Int) (w : World) : Calls Try.prog 53 #[.int .i64 c] w fun e w' => e = .returned (.int .i64 (sizeC c)) ∧ w = w' := by
  rcases class_cases c with rfl | rfl | rfl | hc | hc
  · go_enter Try.func53, Try.ntmps53
    go_wp2
    go_ret
    exact ⟨rfl, rfl⟩
  · go_enter Try.func53, Try.ntmps53
    go_wp2
    go_ret
    exact ⟨rfl, rfl⟩
  · go_enter Try.func53, Try.ntmps53
    go_wp2
    go_ret
    exact ⟨rfl, rfl⟩
  · have e := sizeC_out (c := c) (.inl hc)
    have HE := hidden e
    clear e
    have p0 : ¬ 0 ≤ c := by omega
    have p2 : c ≤ 2 := by omega
    have e0 : (c == 0) = false := beq_eq_false_iff_ne.2 (by omega)
    have e1 : (c == 1) = false := beq_eq_false_iff_ne.2 (by omega)
    have e2 : (c == 2) = false := beq_eq_false_iff_ne.2 (by omega)
    go_enter Try.func53, Try.ntmps53
    go_wp2
    go_ret
    exact ⟨ret_int HE.out.symm, rfl⟩
  · have e := sizeC_out (c := c) (.inr hc)
    have HE := hidden e
    clear e
    have p0 : 0 ≤ c := by omega
    have p2 : ¬ c ≤ 2 := by omega
    have e0 : (c == 0) = false := beq_eq_false_iff_ne.2 (by omega)
    have e1 : (c == 1) = false := beq_eq_false_iff_ne.2 (by omega)
    have e2 : (c == 2) = false := beq_eq_false_iff_ne.2 (by omega)
    go_enter Try.func53, Try.ntmps53
    go_wp2
    go_ret
    exact ⟨ret_int HE.out.symm, rfl⟩

set_option maxHeartbeats 400000 in
theorem implSizeOf_any (c : Int) (w : World) : Calls Try.prog 64 #[.int .i64 c] w fun e w' => e = .returned (.int .i64 (sizeC c)) ∧ w = w' := by
  have i0 := sizes_at0
  have i1 := sizes_at1
  have i2 := sizes_at2
  rcases class_cases c with rfl | rfl | rfl | hc | hc
  · go_enter Try.func64, Try.ntmps64
    go_wp2
    go_ret
    exact ⟨rfl, rfl⟩
  · go_enter Try.func64, Try.ntmps64
    go_wp2
    go_ret
    exact ⟨rfl, rfl⟩
  · go_enter Try.func64, Try.ntmps64
    go_wp2
    go_ret
    exact ⟨rfl, rfl⟩
  · have e := sizeC_out (c := c) (.inl hc)
    have HE := hidden e
    clear e
    have p0 : ¬ 0 ≤ c := by omega
    have p2 : c ≤ 2 := by omega
    have e0 : (c == 0) = false := beq_eq_false_iff_ne.2 (by omega)
    have e1 : (c == 1) = false := beq_eq_false_iff_ne.2 (by omega)
    have e2 : (c == 2) = false := beq_eq_false_iff_ne.2 (by omega)
    go_enter Try.func64, Try.ntmps64
    go_wp2
    go_ret
    exact ⟨ret_int HE.out.symm, rfl⟩
  · have e := sizeC_out (c := c) (.inr hc)
    have HE := hidden e
    clear e
    have p0 : 0 ≤ c := by omega
    have p2 : ¬ c ≤ 2 := by omega
    have e0 : (c == 0) = false := beq_eq_false_iff_ne.2 (by omega)
    have e1 : (c == 1) = false := beq_eq_false_iff_ne.2 (by omega)
    have e2 : (c == 2) = false := beq_eq_false_iff_ne.2 (by omega)
    go_enter Try.func64, Try.ntmps64
    go_wp2
    go_ret
    exact ⟨ret_int HE.out.symm, rfl⟩

set_option maxHeartbeats 400000 in
theorem specStrideOf_any (c : Int) (w : World) : Calls Try.prog 35 #[.int .i64 c] w fun e w' => e = .returned (.int .i64 (strideC c)) ∧ w = w' := by
  rcases class_cases c with rfl | rfl | rfl | hc | hc
  · go_enter Try.func35, Try.ntmps35
    go_wp2
    go_ret
    exact ⟨rfl, rfl⟩
  · go_enter Try.func35, Try.ntmps35
    go_wp2
    go_ret
    exact ⟨rfl, rfl⟩
  · go_enter Try.func35, Try.ntmps35
    go_wp2
    go_ret
    exact ⟨rfl, rfl⟩
  · have e := strideC_out (c := c) (.inl hc)
    have HE := hidden e
    clear e
    have p0 : ¬ 0 ≤ c := by omega
    have p2 : c ≤ 2 := by omega
    have e0 : (c == 0) = false := beq_eq_false_iff_ne.2 (by omega)
    have e1 : (c == 1) = false := beq_eq_false_iff_ne.2 (by omega)
    have e2 : (c == 2) = false := beq_eq_false_iff_ne.2 (by omega)
    go_enter Try.func35, Try.ntmps35
    go_wp2
    go_ret
    exact ⟨ret_int HE.out.symm, rfl⟩
  · have e := strideC_out (c := c) (.inr hc)
    have HE := hidden e
    clear e
    have p0 : 0 ≤ c := by omega
    have p2 : ¬ c ≤ 2 := by omega
    have e0 : (c == 0) = false := beq_eq_false_iff_ne.2 (by omega)
    have e1 : (c == 1) = false := beq_eq_false_iff_ne.2 (by omega)
    have e2 : (c == 2) = false := beq_eq_false_iff_ne.2 (by omega)
    go_enter Try.func35, Try.ntmps35
    go_wp2
    go_ret
    exact ⟨ret_int HE.out.symm, rfl⟩

set_option maxHeartbeats 400000 in
theorem implStrideOf_any (c : Int) (w : World) : Calls Try.prog 46 #[.int .i64 c] w fun e w' => e = .returned (.int .i64 (strideC c)) ∧ w = w' := by
  have i0 := sizes_at0
  have i1 := sizes_at1
  have i2 := sizes_at2
  rcases class_cases c with rfl | rfl | rfl | hc | hc
  · go_enter Try.func46, Try.ntmps46
    go_wp2
    go_ret
    exact ⟨rfl, rfl⟩
  · go_enter Try.func46, Try.ntmps46
    go_wp2
    go_ret
    exact ⟨rfl, rfl⟩
  · go_enter Try.func46, Try.ntmps46
    go_wp2
    go_ret
    exact ⟨rfl, rfl⟩
  · have e := strideC_out (c := c) (.inl hc)
    have HE := hidden e
    clear e
    have p0 : ¬ 0 ≤ c := by omega
    have p2 : c ≤ 2 := by omega
    have e0 : (c == 0) = false := beq_eq_false_iff_ne.2 (by omega)
    have e1 : (c == 1) = false := beq_eq_false_iff_ne.2 (by omega)
    have e2 : (c == 2) = false := beq_eq_false_iff_ne.2 (by omega)
    go_enter Try.func46, Try.ntmps46
    go_wp2
    go_ret
    exact ⟨ret_int HE.out.symm, rfl⟩
  · have e := strideC_out (c := c) (.inr hc)
    have HE := hidden e
    clear e
    have p0 : 0 ≤ c := by omega
    have p2 : ¬ c ≤ 2 := by omega
    have e0 : (c == 0) = false := beq_eq_false_iff_ne.2 (by omega)
    have e1 : (c == 1) = false := beq_eq_false_iff_ne.2 (by omega)
    have e2 : (c == 2) = false := beq_eq_false_iff_ne.2 (by omega)
    go_enter Try.func46, Try.ntmps46
    go_wp2
    go_ret
    exact ⟨ret_int HE.out.symm, rfl⟩

set_option maxHeartbeats 400000 in
theorem specPerPage_any (c : Int) (w : World) : Calls Try.prog 10 #[.int .i64 c] w fun e w' => e = .returned (.int .i64 (perC c)) ∧ w = w' := by
  rcases class_cases c with rfl | rfl | rfl | hc | hc
  · go_enter Try.func10, Try.ntmps10
    go_wp2
    go_ret
    exact ⟨rfl, rfl⟩
  · go_enter Try.func10, Try.ntmps10
    go_wp2
    go_ret
    exact ⟨rfl, rfl⟩
  · go_enter Try.func10, Try.ntmps10
    go_wp2
    go_ret
    exact ⟨rfl, rfl⟩
  · have e := perC_out (c := c) (.inl hc)
    have HE := hidden e
    clear e
    have p0 : ¬ 0 ≤ c := by omega
    have p2 : c ≤ 2 := by omega
    have e0 : (c == 0) = false := beq_eq_false_iff_ne.2 (by omega)
    have e1 : (c == 1) = false := beq_eq_false_iff_ne.2 (by omega)
    have e2 : (c == 2) = false := beq_eq_false_iff_ne.2 (by omega)
    go_enter Try.func10, Try.ntmps10
    go_wp2
    go_ret
    exact ⟨ret_int HE.out.symm, rfl⟩
  · have e := perC_out (c := c) (.inr hc)
    have HE := hidden e
    clear e
    have p0 : 0 ≤ c := by omega
    have p2 : ¬ c ≤ 2 := by omega
    have e0 : (c == 0) = false := beq_eq_false_iff_ne.2 (by omega)
    have e1 : (c == 1) = false := beq_eq_false_iff_ne.2 (by omega)
    have e2 : (c == 2) = false := beq_eq_false_iff_ne.2 (by omega)
    go_enter Try.func10, Try.ntmps10
    go_wp2
    go_ret
    exact ⟨ret_int HE.out.symm, rfl⟩

set_option maxHeartbeats 400000 in
theorem implPerPage_any (c : Int) (w : World) : Calls Try.prog 26 #[.int .i64 c] w fun e w' => e = .returned (.int .i64 (perC c)) ∧ w = w' := by
  have i0 := sizes_at0
  have i1 := sizes_at1
  have i2 := sizes_at2
  rcases class_cases c with rfl | rfl | rfl | hc | hc
  · go_enter Try.func26, Try.ntmps26
    go_wp2
    go_ret
    exact ⟨rfl, rfl⟩
  · go_enter Try.func26, Try.ntmps26
    go_wp2
    go_ret
    exact ⟨rfl, rfl⟩
  · go_enter Try.func26, Try.ntmps26
    go_wp2
    go_ret
    exact ⟨rfl, rfl⟩
  · have e := perC_out (c := c) (.inl hc)
    have HE := hidden e
    clear e
    have p0 : ¬ 0 ≤ c := by omega
    have p2 : c ≤ 2 := by omega
    have e0 : (c == 0) = false := beq_eq_false_iff_ne.2 (by omega)
    have e1 : (c == 1) = false := beq_eq_false_iff_ne.2 (by omega)
    have e2 : (c == 2) = false := beq_eq_false_iff_ne.2 (by omega)
    go_enter Try.func26, Try.ntmps26
    go_wp2
    go_ret
    exact ⟨ret_int HE.out.symm, rfl⟩
  · have e := perC_out (c := c) (.inr hc)
    have HE := hidden e
    clear e
    have p0 : 0 ≤ c := by omega
    have p2 : ¬ c ≤ 2 := by omega
    have e0 : (c == 0) = false := beq_eq_false_iff_ne.2 (by omega)
    have e1 : (c == 1) = false := beq_eq_false_iff_ne.2 (by omega)
    have e2 : (c == 2) = false := beq_eq_false_iff_ne.2 (by omega)
    go_enter Try.func26, Try.ntmps26
    go_wp2
    go_ret
    exact ⟨ret_int HE.out.symm, rfl⟩

set_option maxHeartbeats 800000 in
theorem specGenAt_any (slot c : Int) (w : World) : Calls Try.prog 51 #[.int .i64 slot, .int .i64 c] w fun e w' => e = .returned (.int .i64 (genAtC slot c)) ∧ w = w' := by
  have bp := perC_bd c
  have bs := strideC_bd c
  by_cases h0 : slot < 0
  · have HE := hidden (genAtC_out (slot := slot) (c := c) (.inl h0))
    have q0 : ¬ 0 ≤ slot := by omega
    go_enter Try.func51, Try.ntmps51
    go_wp2_with (first | (go_at_call 10; refine (specPerPage_any _ _).mono ?_; rintro e w' ⟨rfl, rfl⟩) | (go_at_call 35; refine (specStrideOf_any _ _).mono ?_; rintro e w' ⟨rfl, rfl⟩) | go_in)
    go_ret
    exact ⟨ret_int HE.out.symm, rfl⟩
  by_cases h1 : 24 ≤ slot
  · have HE := hidden (genAtC_out (slot := slot) (c := c) (.inr (.inl h1)))
    have q0 : 0 ≤ slot := by omega
    have q1 : ¬ slot ≤ 23 := by omega
    go_enter Try.func51, Try.ntmps51
    go_wp2_with (first | (go_at_call 10; refine (specPerPage_any _ _).mono ?_; rintro e w' ⟨rfl, rfl⟩) | (go_at_call 35; refine (specStrideOf_any _ _).mono ?_; rintro e w' ⟨rfl, rfl⟩) | go_in)
    go_ret
    exact ⟨ret_int HE.out.symm, rfl⟩
  have q0 : 0 ≤ slot := by omega
  have q1 : slot ≤ 23 := by omega
  by_cases h2 : slot % 4 < perC c
  · have HE := hidden (genAtC_in (slot := slot) (c := c) (by omega) (by omega) h2)
    have q4 : slot % 4 ≤ perC c - 1 := by omega
    have q5 : ¬ perC c ≤ slot % 4 := by omega
    have b1 : 0 ≤ slot % 4 * strideC c := Int.mul_nonneg (by omega) bs.1
    have b2 : slot % 4 * strideC c ≤ 176 := by
      have : slot % 4 * strideC c ≤ 4 * 44 := Int.mul_le_mul (by omega) bs.2 bs.1 (by omega)
      omega
    go_enter Try.func51, Try.ntmps51
    go_wp2_with (first | (go_at_call 10; refine (specPerPage_any _ _).mono ?_; rintro e w' ⟨rfl, rfl⟩) | (go_at_call 35; refine (specStrideOf_any _ _).mono ?_; rintro e w' ⟨rfl, rfl⟩) | go_in)
    go_ret
    exact ⟨ret_int HE.out.symm, rfl⟩
  · have HE := hidden (genAtC_out (slot := slot) (c := c) (.inr (.inr (by omega))))
    have q4 : ¬ slot % 4 ≤ perC c - 1 := by omega
    have q6 : decide (slot % 4 ≤ perC c - 1) = false := by simp; omega
    have q7 : decide (slot / 4 < 0) = false := by simp; omega
    have q5 : perC c ≤ slot % 4 := by omega
    go_enter Try.func51, Try.ntmps51
    go_wp2_with (first | (go_at_call 10; refine (specPerPage_any _ _).mono ?_; rintro e w' ⟨rfl, rfl⟩) | (go_at_call 35; refine (specStrideOf_any _ _).mono ?_; rintro e w' ⟨rfl, rfl⟩) | go_in)
    go_ret
    exact ⟨ret_int HE.out.symm, rfl⟩

set_option maxHeartbeats 800000 in
theorem implGenAt_any (slot c : Int) (w : World) : Calls Try.prog 29 #[.int .i64 slot, .int .i64 c] w fun e w' => e = .returned (.int .i64 (genAtC slot c)) ∧ w = w' := by
  have bp := perC_bd c
  have bs := strideC_bd c
  by_cases h0 : slot < 0
  · have HE := hidden (genAtC_out (slot := slot) (c := c) (.inl h0))
    have q0 : ¬ 0 ≤ slot := by omega
    go_enter Try.func29, Try.ntmps29
    go_wp2_with (first | (go_at_call 26; refine (implPerPage_any _ _).mono ?_; rintro e w' ⟨rfl, rfl⟩) | (go_at_call 46; refine (implStrideOf_any _ _).mono ?_; rintro e w' ⟨rfl, rfl⟩) | go_in)
    go_ret
    exact ⟨ret_int HE.out.symm, rfl⟩
  by_cases h1 : 24 ≤ slot
  · have HE := hidden (genAtC_out (slot := slot) (c := c) (.inr (.inl h1)))
    have q0 : 0 ≤ slot := by omega
    have q1 : ¬ slot ≤ 23 := by omega
    go_enter Try.func29, Try.ntmps29
    go_wp2_with (first | (go_at_call 26; refine (implPerPage_any _ _).mono ?_; rintro e w' ⟨rfl, rfl⟩) | (go_at_call 46; refine (implStrideOf_any _ _).mono ?_; rintro e w' ⟨rfl, rfl⟩) | go_in)
    go_ret
    exact ⟨ret_int HE.out.symm, rfl⟩
  have q0 : 0 ≤ slot := by omega
  have q1 : slot ≤ 23 := by omega
  by_cases hc : c < 0
  · have HE := hidden (genAtC_out (slot := slot) (c := c) (.inr (.inr (by rw [perC_out (.inl hc)]; omega))))
    have q2 : ¬ 0 ≤ c := by omega
    go_enter Try.func29, Try.ntmps29
    go_wp2_with (first | (go_at_call 26; refine (implPerPage_any _ _).mono ?_; rintro e w' ⟨rfl, rfl⟩) | (go_at_call 46; refine (implStrideOf_any _ _).mono ?_; rintro e w' ⟨rfl, rfl⟩) | go_in)
    go_ret
    exact ⟨ret_int HE.out.symm, rfl⟩
  by_cases hd : 2 < c
  · have HE := hidden (genAtC_out (slot := slot) (c := c) (.inr (.inr (by rw [perC_out (.inr hd)]; omega))))
    have q2 : 0 ≤ c := by omega
    have q3 : ¬ c ≤ 2 := by omega
    go_enter Try.func29, Try.ntmps29
    go_wp2_with (first | (go_at_call 26; refine (implPerPage_any _ _).mono ?_; rintro e w' ⟨rfl, rfl⟩) | (go_at_call 46; refine (implStrideOf_any _ _).mono ?_; rintro e w' ⟨rfl, rfl⟩) | go_in)
    go_ret
    exact ⟨ret_int HE.out.symm, rfl⟩
  have q2 : 0 ≤ c := by omega
  have q3 : c ≤ 2 := by omega
  by_cases h2 : slot % 4 < perC c
  · have HE := hidden (genAtC_in (slot := slot) (c := c) (by omega) (by omega) h2)
    have q4 : slot % 4 ≤ perC c - 1 := by omega
    have q5 : ¬ perC c ≤ slot % 4 := by omega
    have b1 : 0 ≤ slot % 4 * strideC c := Int.mul_nonneg (by omega) bs.1
    have b2 : slot % 4 * strideC c ≤ 176 := by
      have : slot % 4 * strideC c ≤ 4 * 44 := Int.mul_le_mul (by omega) bs.2 bs.1 (by omega)
      omega
    go_enter Try.func29, Try.ntmps29
    go_wp2_with (first | (go_at_call 26; refine (implPerPage_any _ _).mono ?_; rintro e w' ⟨rfl, rfl⟩) | (go_at_call 46; refine (implStrideOf_any _ _).mono ?_; rintro e w' ⟨rfl, rfl⟩) | go_in)
    go_ret
    exact ⟨ret_int HE.out.symm, rfl⟩
  · have HE := hidden (genAtC_out (slot := slot) (c := c) (.inr (.inr (by omega))))
    have q4 : ¬ slot % 4 ≤ perC c - 1 := by omega
    have q6 : decide (slot % 4 ≤ perC c - 1) = false := by simp; omega
    have q7 : decide (slot / 4 < 0) = false := by simp; omega
    have q5 : perC c ≤ slot % 4 := by omega
    go_enter Try.func29, Try.ntmps29
    go_wp2_with (first | (go_at_call 26; refine (implPerPage_any _ _).mono ?_; rintro e w' ⟨rfl, rfl⟩) | (go_at_call 46; refine (implStrideOf_any _ _).mono ?_; rintro e w' ⟨rfl, rfl⟩) | go_in)
    go_ret
    exact ⟨ret_int HE.out.symm, rfl⟩
end Go.Proofs.Ytdhocncfpapncac
