/-
  The walks of FnExactHandleSlot, FnExactLater, FnSizes and FnHandles.
-/
import Derived.Test.YtgnehfpndpdelaaClassL
import Derived.Test.YtgnehfpndpdelaaDrawS
import Derived.Deep.Cut
import Derived.Deep.CutRange
import Derived.Deep.DeepCutAuto
namespace Go.Proofs.Ytgnehfpndpdelaa
open Go.RowKit
set_option linter.unusedVariables false

set_option maxHeartbeats 400000 in
theorem fnExactHandleSlot_walk (a0 : Int) (w : World) (w0 : (Lit.int .i64 a0).wf = true) :
    Calls Try.prog 14 #[.int .i64 a0] w fun e w' => e = .returned (.bool true) ∧ Below w.heap.size w w' := by
  clear w0
  by_cases h1 : 32 ≤ a0 <;> by_cases h2 : a0 ≤ 223 <;> by_cases h3 : a0 % 32 < 24
  all_goals
    go_enter Try.func14, Try.ntmps14
    go_wp2
    go_ret
    exact ⟨rfl, Below.refl _ _⟩

set_option maxHeartbeats 1600000 in
theorem fnExactLater_walk (a0 : Int) (w : World) (w0 : (Lit.int .i64 a0).wf = true) :
    Calls Try.prog 13 #[.int .i64 a0] w fun e w' => e = .returned (.bool true) ∧ Below w.heap.size w w' := by
  clear w0
  by_cases h1 : 32 ≤ a0
  · by_cases h2 : a0 ≤ 223
    · by_cases h3 : a0 % 32 < 24
      · by_cases h4 : a0 / 32 = 6
        · have e1 : (a0 / 32 == 6) = true := by simp [h4]
          have H := hide h4
          clear h4
          have q1 : ¬ a0 / 32 + 1 ≤ 6 := by have := H.out; omega
          go_enter Try.func13, Try.ntmps13
          go_wp2
          go_ret
          exact ⟨rfl, Below.refl _ _⟩
        · have e1 : (a0 / 32 == 6) = false := by simp [h4]
          have q1 : a0 / 32 + 1 ≤ 6 := by omega
          have q2 : 1 ≤ a0 / 32 + 1 := by omega
          have e2 : ((a0 / 32 + 1) * 32 + a0 % 32 != 0) = true := by rw [bne_iff_ne]; omega
          have e3 : ((a0 / 32 + 1) * 32 + a0 % 32 != a0 + 32) = false := by rw [bne_eq_false_iff_eq]; omega
          go_enter Try.func13, Try.ntmps13
          go_wp2
          go_ret
          exact ⟨rfl, Below.refl _ _⟩
      · go_enter Try.func13, Try.ntmps13
        go_wp2
        go_ret
        exact ⟨rfl, Below.refl _ _⟩
    · go_enter Try.func13, Try.ntmps13
      go_wp2
      go_ret
      exact ⟨rfl, Below.refl _ _⟩
  · go_enter Try.func13, Try.ntmps13
    go_wp2
    go_ret
    exact ⟨rfl, Below.refl _ _⟩

theorem implClassOf_eq {n v : Int} (h : classOfC n = v) (w : World) : Calls Try.prog 19 #[.int .i64 n] w fun e w' => e = .returned (.int .i64 v) ∧ w = w' := h ▸ implClassOf_any n w

set_option maxRecDepth 100000 in
set_option maxHeartbeats 3200000 in
theorem fnSizes_core (A : Option Addr) (n c : Nat) (zs : List Int) (w : World) (hn : n = zs.length) (hz : n ≤ 1048576) (hr : RdB .u8 w A zs w.heap.size) :
    Calls Try.prog 11 #[.slice A n c] w fun e w' => e = .returned (.bool true) ∧ Below w.heap.size w w' := by
  have HN := hide hn
  have HR := hide hr
  have HZ := hide hz
  have hz1 : ¬ (1048576 : Int) < (n : Int) := by omega
  clear hn hr hz
  go_enter Try.func11, Try.ntmps11
  go_wp2_with (first | (go_at_call 33; go_in))
  refine (drawClassOf_any _ _ _ zs _ HN.out (by have := HZ.out; omega) HR.out).mono ?_
  rintro e w1 ⟨⟨x, rfl, hx1, hx2⟩, hb1⟩
  have HB := hide hb1
  clear hb1
  have i0 := sizes_at0
  have i1 := sizes_at1
  have i2 := sizes_at2
  by_cases h0 : x < 1
  · have H := hide (classOfC_lo h0)
    go_wp2_with (first | (go_at_call 19; refine (implClassOf_eq H.out _).mono ?_; rintro e w' ⟨rfl, rfl⟩) | go_in)
    go_ret
    exact ⟨rfl, HB.out⟩
  by_cases h1 : x ≤ 8
  · have H := hide (classOfC_0 (by omega) h1)
    have q1 : ¬ 40 < x := by omega
    go_wp2_with (first | (go_at_call 19; refine (implClassOf_eq H.out _).mono ?_; rintro e w' ⟨rfl, rfl⟩) | go_in)
    go_ret
    exact ⟨rfl, HB.out⟩
  by_cases h2 : x ≤ 16
  · have H := hide (classOfC_1 (by omega) h2)
    have q1 : ¬ 40 < x := by omega
    have q2 : 8 < x := by omega
    go_wp2_with (first | (go_at_call 19; refine (implClassOf_eq H.out _).mono ?_; rintro e w' ⟨rfl, rfl⟩) | go_in)
    go_ret
    exact ⟨rfl, HB.out⟩
  by_cases h3 : x ≤ 40
  · have H := hide (classOfC_2 (by omega) h3)
    have q1 : ¬ 40 < x := by omega
    have q2 : 16 < x := by omega
    go_wp2_with (first | (go_at_call 19; refine (implClassOf_eq H.out _).mono ?_; rintro e w' ⟨rfl, rfl⟩) | go_in)
    go_ret
    exact ⟨rfl, HB.out⟩
  · have H := hide (classOfC_hi (n := x) (by omega))
    have q1 : 40 < x := by omega
    go_wp2_with (first | (go_at_call 19; refine (implClassOf_eq H.out _).mono ?_; rintro e w' ⟨rfl, rfl⟩) | go_in)
    go_ret
    exact ⟨rfl, HB.out⟩

theorem fnSizes_walk (A : Option Addr) (n c : Nat) (zs : List Int) (w : World) (h : Sl .u8 w A n c zs) : Calls Try.prog 11 #[.slice A n c] w fun e w' => e = .returned (.bool true) ∧ Below w.heap.size w w' := by
  obtain ⟨hn, _, hm, hr, _⟩ := h
  by_cases hz : n ≤ 1048576
  · exact fnSizes_core A n c zs w hn hz hr
  · have hz1 : (1048576 : Int) < (n : Int) := by omega
    clear hn hr hz
    go_enter Try.func11, Try.ntmps11
    go_wp2
    go_ret
    exact ⟨rfl, Below.refl _ _⟩
end Go.Proofs.Ytgnehfpndpdelaa
