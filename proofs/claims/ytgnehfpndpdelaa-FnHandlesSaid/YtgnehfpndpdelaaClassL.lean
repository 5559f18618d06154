/-
  Contracts of ClassOf, Waste, StartOf and RangeOf of the reference and of the program, and the walks of the exact laws on classes and places.
-/
import Derived.Test.YtgnehfpndpdelaaClass
import Derived.LoopN
import Derived.Deep.RegionHeld3
namespace Go.Proofs.Ytgnehfpndpdelaa
open Go.RowKit
set_option linter.unusedVariables false

def classOfC (n : Int) : Int := if n < 1 then -1 else if n ≤ 8 then 0 else if n ≤ 16 then 1 else if n ≤ 40 then 2 else -1
def startC (slot c : Int) : Int := if genAtC slot c < 0 then -1 else genAtC slot c + 4
theorem classOfC_lo {n : Int} (h : n < 1) : classOfC n = -1 := by unfold classOfC; rw [if_pos h]
theorem classOfC_0 {n : Int} (h : 1 ≤ n) (h2 : n ≤ 8) : classOfC n = 0 := by unfold classOfC; rw [if_neg (by omega), if_pos h2]
theorem classOfC_1 {n : Int} (h : 8 < n) (h2 : n ≤ 16) : classOfC n = 1 := by unfold classOfC; rw [if_neg (by omega), if_neg (by omega), if_pos h2]
theorem classOfC_2 {n : Int} (h : 16 < n) (h2 : n ≤ 40) : classOfC n = 2 := by unfold classOfC; rw [if_neg (by omega), if_neg (by omega), if_neg (by omega), if_pos h2]
theorem classOfC_hi {n : Int} (h : 40 < n) : classOfC n = -1 := by unfold classOfC; rw [if_neg (by omega), if_neg (by omega), if_neg (by omega), if_neg (by omega)]
theorem startC_no {slot c : Int} (h : genAtC slot c < 0) : startC slot c = -1 := by unfold startC; rw [if_pos h]
theorem startC_yes {slot c : Int} (h : ¬ genAtC slot c < 0) : startC slot c = genAtC slot c + 4 := by unfold startC; rw [if_neg h]
theorem startC_bd (slot c : Int) : (startC slot c = -1 ∧ genAtC slot c < 0) ∨ (12 ≤ startC slot c ∧ startC slot c + sizeC c ≤ 384 ∧ ¬ genAtC slot c < 0) := by
  rcases genAtC_bd slot c with ⟨h, _⟩ | ⟨h1, h2, _⟩
  · exact .inl ⟨startC_no (by omega), by omega⟩
  · rw [startC_yes (by omega)]; exact .inr ⟨by omega, by omega, by omega⟩

set_option maxHeartbeats 1600000 in
theorem specClassOf_any (n : Int) (w : World) : Calls Try.prog 18 #[.int .i64 n] w fun e w' => e = .returned (.int .i64 (classOfC n)) ∧ w = w' := by
  have i0 := sizes_at0
  have i1 := sizes_at1
  have i2 := sizes_at2
  by_cases h0 : n < 1
  · have HE := hidden (classOfC_lo h0)
    have q0 : ¬ 1 ≤ n := by omega
    have q1 : n < 1 := by omega
    go_enter Try.func18, Try.ntmps18
    go_wp2
    refine wp_loop_rounds 4 ?_
    iterate 4 (try (rw [rounds_succ]; go_wp2))
    go_ret
    exact ⟨ret_int HE.out.symm, rfl⟩
  by_cases h1 : n ≤ 8
  · have HE := hidden (classOfC_0 (by omega) h1)
    have q0 : 1 ≤ n := by omega
    have q1 : n ≤ 8 := by omega
    go_enter Try.func18, Try.ntmps18
    go_wp2
    refine wp_loop_rounds 4 ?_
    iterate 4 (try (rw [rounds_succ]; go_wp2))
    go_ret
    exact ⟨ret_int HE.out.symm, rfl⟩
  by_cases h2 : n ≤ 16
  · have HE := hidden (classOfC_1 (by omega) h2)
    have q0 : 1 ≤ n := by omega
    have q1 : ¬ n ≤ 8 := by omega
    have q2 : n ≤ 16 := by omega
    go_enter Try.func18, Try.ntmps18
    go_wp2
    refine wp_loop_rounds 4 ?_
    iterate 4 (try (rw [rounds_succ]; go_wp2))
    go_ret
    exact ⟨ret_int HE.out.symm, rfl⟩
  by_cases h3 : n ≤ 40
  · have HE := hidden (classOfC_2 (by omega) h3)
    have q0 : 1 ≤ n := by omega
    have q1 : ¬ n ≤ 8 := by omega
    have q2 : ¬ n ≤ 16 := by omega
    have q3 : n ≤ 40 := by omega
    go_enter Try.func18, Try.ntmps18
    go_wp2
    refine wp_loop_rounds 4 ?_
    iterate 4 (try (rw [rounds_succ]; go_wp2))
    go_ret
    exact ⟨ret_int HE.out.symm, rfl⟩
  · have HE := hidden (classOfC_hi (n := n) (by omega))
    have q0 : 1 ≤ n := by omega
    have q1 : ¬ n ≤ 8 := by omega
    have q2 : ¬ n ≤ 16 := by omega
    have q3 : ¬ n ≤ 40 := by omega
    go_enter Try.func18, Try.ntmps18
    go_wp2
    refine wp_loop_rounds 4 ?_
    iterate 4 (try (rw [rounds_succ]; go_wp2))
    go_ret
    exact ⟨ret_int HE.out.symm, rfl⟩
set_option maxHeartbeats 1600000 in
theorem implClassOf_any (n : Int) (w : World) : Calls Try.prog 19 #[.int .i64 n] w fun e w' => e = .returned (.int .i64 (classOfC n)) ∧ w = w' := by
  have i0 := sizes_at0
  have i1 := sizes_at1
  have i2 := sizes_at2
  by_cases h0 : n < 1
  · have HE := hidden (classOfC_lo h0)
    have q0 : ¬ 1 ≤ n := by omega
    have q1 : n < 1 := by omega
    go_enter Try.func19, Try.ntmps19
    go_wp2
    refine wp_loop_rounds 4 ?_
    iterate 4 (try (rw [rounds_succ]; go_wp2))
    go_ret
    exact ⟨ret_int HE.out.symm, rfl⟩
  by_cases h1 : n ≤ 8
  · have HE := hidden (classOfC_0 (by omega) h1)
    have q0 : 1 ≤ n := by omega
    have q1 : n ≤ 8 := by omega
    go_enter Try.func19, Try.ntmps19
    go_wp2
    refine wp_loop_rounds 4 ?_
    iterate 4 (try (rw [rounds_succ]; go_wp2))
    go_ret
    exact ⟨ret_int HE.out.symm, rfl⟩
  by_cases h2 : n ≤ 16
  · have HE := hidden (classOfC_1 (by omega) h2)
    have q0 : 1 ≤ n := by omega
    have q1 : ¬ n ≤ 8 := by omega
    have q2 : n ≤ 16 := by omega
    go_enter Try.func19, Try.ntmps19
    go_wp2
    refine wp_loop_rounds 4 ?_
    iterate 4 (try (rw [rounds_succ]; go_wp2))
    go_ret
    exact ⟨ret_int HE.out.symm, rfl⟩
  by_cases h3 : n ≤ 40
  · have HE := hidden (classOfC_2 (by omega) h3)
    have q0 : 1 ≤ n := by omega
    have q1 : ¬ n ≤ 8 := by omega
    have q2 : ¬ n ≤ 16 := by omega
    have q3 : n ≤ 40 := by omega
    go_enter Try.func19, Try.ntmps19
    go_wp2
    refine wp_loop_rounds 4 ?_
    iterate 4 (try (rw [rounds_succ]; go_wp2))
    go_ret
    exact ⟨ret_int HE.out.symm, rfl⟩
  · have HE := hidden (classOfC_hi (n := n) (by omega))
    have q0 : 1 ≤ n := by omega
    have q1 : ¬ n ≤ 8 := by omega
    have q2 : ¬ n ≤ 16 := by omega
    have q3 : ¬ n ≤ 40 := by omega
    go_enter Try.func19, Try.ntmps19
    go_wp2
    refine wp_loop_rounds 4 ?_
    iterate 4 (try (rw [rounds_succ]; go_wp2))
    go_ret
    exact ⟨ret_int HE.out.symm, rfl⟩

set_option maxHeartbeats 400000 in
theorem specStartOf_any (slot c : Int) (w : World) : Calls Try.prog 28 #[.int .i64 slot, .int .i64 c] w fun e w' => e = .returned (.int .i64 (startC slot c)) ∧ w = w' := by
  by_cases h : genAtC slot c < 0
  · have HE := hidden (startC_no h)
    go_enter Try.func28, Try.ntmps28
    go_wp2_with (first | (go_at_call 26; refine (specGenAt_any _ _ _).mono ?_; rintro e w' ⟨rfl, rfl⟩))
    go_ret
    exact ⟨ret_int HE.out.symm, rfl⟩
  · have HE := hidden (startC_yes h)
    have bb : 0 ≤ genAtC slot c ∧ genAtC slot c ≤ 384 := by
      have := genAtC_bd slot c
      have := sizeC_bd c
      omega
    go_enter Try.func28, Try.ntmps28
    go_wp2_with (first | (go_at_call 26; refine (specGenAt_any _ _ _).mono ?_; rintro e w' ⟨rfl, rfl⟩))
    go_ret
    exact ⟨ret_int HE.out.symm, rfl⟩

set_option maxHeartbeats 400000 in
theorem specRangeOf_no (slot c : Int) (w : World) (h : startC slot c < 0) : Calls Try.prog 30 #[.int .i64 slot, .int .i64 c] w fun e w' => e = .returned (.agg #[.int .i64 0, .int .i64 0]) ∧ Below w.heap.size w w' := by
  go_enter Try.func30, Try.ntmps30
  go_wp2_with (first | (go_at_call 28; refine (specStartOf_any _ _ _).mono ?_; rintro e w' ⟨rfl, rfl⟩) | (go_at_call 16; refine (specSizeOf_any _ _).mono ?_; rintro e w' ⟨rfl, rfl⟩))
  exact bodyPost_ret (v := .agg #[.int .i64 0, .int .i64 0]) (by simp [results, Try.results30, go_sem]) rfl ⟨rfl, by repeat (first | exact Below.refl _ _ | refine Below.drew ?_ | refine Below.setCell ?_ (by simp <;> omega) _ | refine Below.alloc ?_ (by simp <;> omega) _)⟩
set_option maxHeartbeats 400000 in
theorem specRangeOf_yes (slot c : Int) (w : World) (h : ¬ startC slot c < 0) (h2 : startC slot c + sizeC c ≤ 384) : Calls Try.prog 30 #[.int .i64 slot, .int .i64 c] w fun e w' => e = .returned (.agg #[.int .i64 (startC slot c), .int .i64 (startC slot c + sizeC c)]) ∧ Below w.heap.size w w' := by
  have bs := sizeC_bd c
  have q : 0 ≤ startC slot c := by omega
  go_enter Try.func30, Try.ntmps30
  go_wp2_with (first | (go_at_call 28; refine (specStartOf_any _ _ _).mono ?_; rintro e w' ⟨rfl, rfl⟩) | (go_at_call 16; refine (specSizeOf_any _ _).mono ?_; rintro e w' ⟨rfl, rfl⟩))
  exact bodyPost_ret (v := .agg #[.int .i64 (startC slot c), .int .i64 (startC slot c + sizeC c)]) (by simp [results, Try.results30, go_sem]) rfl ⟨rfl, by repeat (first | exact Below.refl _ _ | refine Below.drew ?_ | refine Below.setCell ?_ (by simp <;> omega) _ | refine Below.alloc ?_ (by simp <;> omega) _)⟩

set_option maxHeartbeats 400000 in
theorem implStartOf_any (slot c : Int) (w : World) : Calls Try.prog 29 #[.int .i64 slot, .int .i64 c] w fun e w' => e = .returned (.int .i64 (startC slot c)) ∧ w = w' := by
  by_cases h : genAtC slot c < 0
  · have HE := hidden (startC_no h)
    go_enter Try.func29, Try.ntmps29
    go_wp2_with (first | (go_at_call 27; refine (implGenAt_any _ _ _).mono ?_; rintro e w' ⟨rfl, rfl⟩))
    go_ret
    exact ⟨ret_int HE.out.symm, rfl⟩
  · have HE := hidden (startC_yes h)
    have bb : 0 ≤ genAtC slot c ∧ genAtC slot c ≤ 384 := by
      have := genAtC_bd slot c
      have := sizeC_bd c
      omega
    go_enter Try.func29, Try.ntmps29
    go_wp2_with (first | (go_at_call 27; refine (implGenAt_any _ _ _).mono ?_; rintro e w' ⟨rfl, rfl⟩))
    go_ret
    exact ⟨ret_int HE.out.symm, rfl⟩

set_option maxHeartbeats 400000 in
theorem implRangeOf_no (slot c : Int) (w : World) (h : startC slot c < 0) : Calls Try.prog 31 #[.int .i64 slot, .int .i64 c] w fun e w' => e = .returned (.agg #[.int .i64 0, .int .i64 0]) ∧ Below w.heap.size w w' := by
  go_enter Try.func31, Try.ntmps31
  go_wp2_with (first | (go_at_call 29; refine (implStartOf_any _ _ _).mono ?_; rintro e w' ⟨rfl, rfl⟩) | (go_at_call 17; refine (implSizeOf_any _ _).mono ?_; rintro e w' ⟨rfl, rfl⟩))
  exact bodyPost_ret (v := .agg #[.int .i64 0, .int .i64 0]) (by simp [results, Try.results31, go_sem]) rfl ⟨rfl, by repeat (first | exact Below.refl _ _ | refine Below.drew ?_ | refine Below.setCell ?_ (by simp <;> omega) _ | refine Below.alloc ?_ (by simp <;> omega) _)⟩
set_option maxHeartbeats 400000 in
theorem implRangeOf_yes (slot c : Int) (w : World) (h : ¬ startC slot c < 0) (h2 : startC slot c + sizeC c ≤ 384) : Calls Try.prog 31 #[.int .i64 slot, .int .i64 c] w fun e w' => e = .returned (.agg #[.int .i64 (startC slot c), .int .i64 (startC slot c + sizeC c)]) ∧ Below w.heap.size w w' := by
  have bs := sizeC_bd c
  have q : 0 ≤ startC slot c := by omega
  go_enter Try.func31, Try.ntmps31
  go_wp2_with (first | (go_at_call 29; refine (implStartOf_any _ _ _).mono ?_; rintro e w' ⟨rfl, rfl⟩) | (go_at_call 17; refine (implSizeOf_any _ _).mono ?_; rintro e w' ⟨rfl, rfl⟩))
  exact bodyPost_ret (v := .agg #[.int .i64 (startC slot c), .int .i64 (startC slot c + sizeC c)]) (by simp [results, Try.results31, go_sem]) rfl ⟨rfl, by repeat (first | exact Below.refl _ _ | refine Below.drew ?_ | refine Below.setCell ?_ (by simp <;> omega) _ | refine Below.alloc ?_ (by simp <;> omega) _)⟩

set_option maxHeartbeats 400000 in
theorem fnExactSizeOf_walk (a0 : Int) (w : World) (w0 : (Lit.int .i64 a0).wf = true) :
    Calls Try.prog 3 #[.int .i64 a0] w fun e w' => e = .returned (.bool true) ∧ Below w.heap.size w w' := by
  clear w0
  go_enter Try.func3, Try.ntmps3
  go_wp2_with (first | (go_at_call 16; refine (specSizeOf_any _ _).mono ?_; rintro e w' ⟨rfl, rfl⟩) | (go_at_call 17; refine (implSizeOf_any _ _).mono ?_; rintro e w' ⟨rfl, rfl⟩))
  go_ret
  exact ⟨rfl, Below.refl _ _⟩

set_option maxHeartbeats 400000 in
theorem fnExactStrideOf_walk (a0 : Int) (w : World) (w0 : (Lit.int .i64 a0).wf = true) :
    Calls Try.prog 5 #[.int .i64 a0] w fun e w' => e = .returned (.bool true) ∧ Below w.heap.size w w' := by
  clear w0
  go_enter Try.func5, Try.ntmps5
  go_wp2_with (first | (go_at_call 20; refine (specStrideOf_any _ _).mono ?_; rintro e w' ⟨rfl, rfl⟩) | (go_at_call 21; refine (implStrideOf_any _ _).mono ?_; rintro e w' ⟨rfl, rfl⟩))
  go_ret
  exact ⟨rfl, Below.refl _ _⟩

set_option maxHeartbeats 400000 in
theorem fnExactPerPage_walk (a0 : Int) (w : World) (w0 : (Lit.int .i64 a0).wf = true) :
    Calls Try.prog 6 #[.int .i64 a0] w fun e w' => e = .returned (.bool true) ∧ Below w.heap.size w w' := by
  clear w0
  go_enter Try.func6, Try.ntmps6
  go_wp2_with (first | (go_at_call 22; refine (specPerPage_any _ _).mono ?_; rintro e w' ⟨rfl, rfl⟩) | (go_at_call 23; refine (implPerPage_any _ _).mono ?_; rintro e w' ⟨rfl, rfl⟩))
  go_ret
  exact ⟨rfl, Below.refl _ _⟩

set_option maxHeartbeats 400000 in
theorem fnExactClassOf_walk (a0 : Int) (w : World) (w0 : (Lit.int .i64 a0).wf = true) :
    Calls Try.prog 4 #[.int .i64 a0] w fun e w' => e = .returned (.bool true) ∧ Below w.heap.size w w' := by
  clear w0
  go_enter Try.func4, Try.ntmps4
  go_wp2_with (first | (go_at_call 18; refine (specClassOf_any _ _).mono ?_; rintro e w' ⟨rfl, rfl⟩) | (go_at_call 19; refine (implClassOf_any _ _).mono ?_; rintro e w' ⟨rfl, rfl⟩))
  go_ret
  exact ⟨rfl, Below.refl _ _⟩

set_option maxHeartbeats 400000 in
theorem fnExactGenAt_walk (a0 a1 : Int) (w : World) (w0 : (Lit.int .i64 a0).wf = true) (w1 : (Lit.int .i64 a1).wf = true) :
    Calls Try.prog 8 #[.int .i64 a0, .int .i64 a1] w fun e w' => e = .returned (.bool true) ∧ Below w.heap.size w w' := by
  clear w0 w1
  go_enter Try.func8, Try.ntmps8
  go_wp2_with (first | (go_at_call 26; refine (specGenAt_any _ _ _).mono ?_; rintro e w' ⟨rfl, rfl⟩) | (go_at_call 27; refine (implGenAt_any _ _ _).mono ?_; rintro e w' ⟨rfl, rfl⟩))
  go_ret
  exact ⟨rfl, Below.refl _ _⟩

set_option maxHeartbeats 400000 in
theorem fnExactStartOf_walk (a0 a1 : Int) (w : World) (w0 : (Lit.int .i64 a0).wf = true) (w1 : (Lit.int .i64 a1).wf = true) :
    Calls Try.prog 9 #[.int .i64 a0, .int .i64 a1] w fun e w' => e = .returned (.bool true) ∧ Below w.heap.size w w' := by
  clear w0 w1
  go_enter Try.func9, Try.ntmps9
  go_wp2_with (first | (go_at_call 28; refine (specStartOf_any _ _ _).mono ?_; rintro e w' ⟨rfl, rfl⟩) | (go_at_call 29; refine (implStartOf_any _ _ _).mono ?_; rintro e w' ⟨rfl, rfl⟩))
  go_ret
  exact ⟨rfl, Below.refl _ _⟩

set_option maxHeartbeats 800000 in
theorem fnExactWaste_walk (a0 : Int) (w : World) (w0 : (Lit.int .i64 a0).wf = true) :
    Calls Try.prog 7 #[.int .i64 a0] w fun e w' => e = .returned (.bool true) ∧ Below w.heap.size w w' := by
  clear w0
  have bs := sizeC_bd (classOfC a0)
  by_cases h : classOfC a0 < 0
  · go_enter Try.func7, Try.ntmps7
    go_wp2_with (first | (go_at_call 18; refine (specClassOf_any _ _).mono ?_; rintro e w' ⟨rfl, rfl⟩) | (go_at_call 19; refine (implClassOf_any _ _).mono ?_; rintro e w' ⟨rfl, rfl⟩) | (go_at_call 16; refine (specSizeOf_any _ _).mono ?_; rintro e w' ⟨rfl, rfl⟩) | (go_at_call 17; refine (implSizeOf_any _ _).mono ?_; rintro e w' ⟨rfl, rfl⟩) | go_in)
    go_ret
    exact ⟨rfl, Below.refl _ _⟩
  · go_enter Try.func7, Try.ntmps7
    go_wp2_with (first | (go_at_call 18; refine (specClassOf_any _ _).mono ?_; rintro e w' ⟨rfl, rfl⟩) | (go_at_call 19; refine (implClassOf_any _ _).mono ?_; rintro e w' ⟨rfl, rfl⟩) | (go_at_call 16; refine (specSizeOf_any _ _).mono ?_; rintro e w' ⟨rfl, rfl⟩) | (go_at_call 17; refine (implSizeOf_any _ _).mono ?_; rintro e w' ⟨rfl, rfl⟩) | go_in)
    go_ret
    exact ⟨rfl, Below.refl _ _⟩

theorem two_keep {W w1 w2 : World} {B : Nat} {p q r s : Addr} {a b c d : Value} (hb : Below w1.heap.size w1 w2)
    (h : w1.cell? p = some a ∧ w1.cell? q = some b ∧ w1.cell? r = some c ∧ w1.cell? s = some d ∧ Below B W w1 ∧ B ≤ w1.heap.size) :
    w2.cell? p = some a ∧ w2.cell? q = some b ∧ w2.cell? r = some c ∧ w2.cell? s = some d ∧ Below B W w2 ∧ B ≤ w2.heap.size := by
  obtain ⟨h1, h2, h3, h4, h5, h6⟩ := h
  have k : ∀ {p : Addr} {v : Value}, w1.cell? p = some v → w2.cell? p = some v := fun {p v} h => (hb.cell (World.block_lt_of_cell? _ _ h)).trans h
  exact ⟨k h1, k h2, k h3, k h4, h5.trans (hb.mono h6), Nat.le_trans h6 hb.size⟩

set_option maxHeartbeats 400000 in
theorem eqSpan_same (a b : Int) (w : World) : Calls Try.prog 32 #[.agg #[.int .i64 a, .int .i64 b], .agg #[.int .i64 a, .int .i64 b]] w fun e w' => e = .returned (.bool true) ∧ Below w.heap.size w w' := by
  go_enter Try.func32, Try.ntmps32
  go_wp2
  go_ret
  exact ⟨rfl, by repeat (first | exact Below.refl _ _ | refine Below.drew ?_ | refine Below.setCell ?_ (by simp <;> omega) _ | refine Below.alloc ?_ (by simp <;> omega) _)⟩

theorem box2 {w1 w2 : World} {a b : Value} {T : TypeId} (hb : Below (w1.alloc (.cells #[a, b] T)).heap.size (w1.alloc (.cells #[a, b] T)) w2) :
    w2.cell? ⟨w1.heap.size, 0, none⟩ = some a ∧ w2.cell? ⟨w1.heap.size, 1, none⟩ = some b ∧ w1.heap.size < w2.heap.size ∧ w1.heap.size ≠ w2.heap.size ∧ Below w1.heap.size w1 w2 := by
  have hz := hb.size
  simp only [World.size_alloc] at hz
  refine ⟨?_, ?_, by omega, by omega, ((Below.refl _ _).alloc (Nat.le_refl _) _).trans (hb.mono (by simp))⟩
  · rw [hb.cell (by simp)]; exact cell_of_row _ _ _ _ _ _ (heap_alloc_new _ _)
  · rw [hb.cell (by simp)]; exact cell_of_row _ _ _ _ _ _ (heap_alloc_new _ _)

set_option maxHeartbeats 800000 in
theorem fnExactRangeOf_walk (a0 a1 : Int) (w : World) (w0 : (Lit.int .i64 a0).wf = true) (w1 : (Lit.int .i64 a1).wf = true) :
    Calls Try.prog 10 #[.int .i64 a0, .int .i64 a1] w fun e w' => e = .returned (.bool true) ∧ Below w.heap.size w w' := by
  clear w0 w1
  rcases startC_bd a0 a1 with ⟨h, _⟩ | ⟨h1, h2, _⟩
  · go_enter Try.func10, Try.ntmps10
    have H := hidden h; clear h
    go_wp2_with fail
    refine (specRangeOf_no _ _ _ (by have := H.out; omega)).mono ?_
    rintro e w1 ⟨rfl, hb1⟩
    have z1 := hb1.size
    go_wp2_with fail
    refine (implRangeOf_no _ _ _ (by have := H.out; omega)).mono ?_
    rintro e w2 ⟨rfl, hb2⟩
    obtain ⟨c0, c1, hlt, hne, hb3⟩ := box2 hb2
    go_wp2_with fail
    refine (eqSpan_same _ _ _).mono ?_
    rintro e w3 ⟨rfl, hb4⟩
    go_wp2
    go_ret
    exact ⟨rfl, ((hb1.trans (hb3.mono z1)).alloc (by omega) _).trans (hb4.mono (by simp; omega))⟩
  · go_enter Try.func10, Try.ntmps10
    go_wp2_with fail
    refine (specRangeOf_yes _ _ _ (by omega) h2).mono ?_
    rintro e w1 ⟨rfl, hb1⟩
    have z1 := hb1.size
    go_wp2_with fail
    refine (implRangeOf_yes _ _ _ (by omega) h2).mono ?_
    rintro e w2 ⟨rfl, hb2⟩
    obtain ⟨c0, c1, hlt, hne, hb3⟩ := box2 hb2
    go_wp2_with fail
    refine (eqSpan_same _ _ _).mono ?_
    rintro e w3 ⟨rfl, hb4⟩
    go_wp2
    go_ret
    exact ⟨rfl, ((hb1.trans (hb3.mono z1)).alloc (by omega) _).trans (hb4.mono (by simp; omega))⟩
end Go.Proofs.Ytgnehfpndpdelaa
