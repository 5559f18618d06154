/-
  The walk of FnHandles.
-/
import Derived.Test.YtgnehfpndpdelaaClassL
import Derived.Test.YtgnehfpndpdelaaDrawS
import Derived.Deep.Cut
import Derived.Deep.CutRange
namespace Go.Proofs.Ytgnehfpndpdelaa
open Go.RowKit
set_option linter.unusedVariables false

def handleOfC (s g : Int) : Int := if 0 ≤ s ∧ s ≤ 23 ∧ 1 ≤ g ∧ g ≤ 6 then g * 32 + s else 0

set_option maxHeartbeats 400000 in
theorem implHandleOf_any (s g : Int) (w : World) : Calls Try.prog 46 #[.int .i64 s, .int .i64 g] w fun e w' => e = .returned (.int .i64 (handleOfC s g)) ∧ w = w' := by
  by_cases h1 : 0 ≤ s
  · by_cases h2 : s ≤ 23
    · by_cases h3 : 1 ≤ g
      · by_cases h4 : g ≤ 6
        · have H := hide (show handleOfC s g = g * 32 + s by unfold handleOfC; rw [if_pos ⟨h1, h2, h3, h4⟩])
          go_enter Try.func46, Try.ntmps46
          go_wp2
          go_ret
          exact ⟨ret_int H.out.symm, rfl⟩
        all_goals
          have H := hide (show handleOfC s g = 0 by unfold handleOfC; rw [if_neg (by omega)])
          go_enter Try.func46, Try.ntmps46
          go_wp2
          go_ret
          exact ⟨ret_int H.out.symm, rfl⟩
      all_goals
        have H := hide (show handleOfC s g = 0 by unfold handleOfC; rw [if_neg (by omega)])
        go_enter Try.func46, Try.ntmps46
        go_wp2
        go_ret
        exact ⟨ret_int H.out.symm, rfl⟩
    all_goals
      have H := hide (show handleOfC s g = 0 by unfold handleOfC; rw [if_neg (by omega)])
      go_enter Try.func46, Try.ntmps46
      go_wp2
      go_ret
      exact ⟨ret_int H.out.symm, rfl⟩
  all_goals
    have H := hide (show handleOfC s g = 0 by unfold handleOfC; rw [if_neg (by omega)])
    go_enter Try.func46, Try.ntmps46
    go_wp2
    go_ret
    exact ⟨ret_int H.out.symm, rfl⟩

set_option maxRecDepth 100000 in
set_option maxHeartbeats 6400000 in
theorem fnHandles_core (A : Option Addr) (n c : Nat) (zs : List Int) (w : World) (hn : n = zs.length) (hz : n ≤ 1048576) (hr : RdB .u8 w A zs w.heap.size) :
    Calls Try.prog 15 #[.slice A n c] w fun e w' => e = .returned (.bool true) ∧ Below w.heap.size w w' := by
  have HN := hide hn
  have HR := hide hr
  have HZ := hide hz
  have hz1 : ¬ (1048576 : Int) < (n : Int) := by omega
  clear hn hr hz
  go_enter Try.func15, Try.ntmps15
  go_wp2_with (first | (go_at_call 33; go_in))
  refine (drawHandleOf_any _ _ _ zs _ HN.out (by have := HZ.out; omega) HR.out).mono ?_
  rintro e w1 ⟨⟨s, g, rfl, hs1, hs2, hg1, hg2⟩, hb1⟩
  have HB := hide hb1
  clear hb1
  go_wp2_with fail
  obtain ⟨h, hh⟩ : ∃ h, h = handleOfC s g := ⟨_, rfl⟩
  refine (implHandleOf_any _ _ _).mono ?_
  rintro e w2 ⟨rfl, rfl⟩
  rw [← hh]
  have HH := hide hh
  clear hh
  go_upto_region 5 with fail
  go_cut [56] from 19 to 55 (fun s56 wx => wx = w1 ∧ s56 = .bool false)
  case first =>
    by_cases h1 : 0 ≤ s
    · by_cases h2 : s ≤ 23
      · by_cases h3 : 1 ≤ g
        · by_cases h4 : g ≤ 6
          · have H : h = g * 32 + s := by rw [HH.out]; unfold handleOfC; rw [if_pos ⟨h1, h2, h3, h4⟩]
            have e1 : (h != 0) = true := by rw [bne_iff_ne]; omega
            have e2 : (h % 32 != s) = false := by rw [bne_eq_false_iff_eq]; omega
            have e3 : (h / 32 != g) = false := by rw [bne_eq_false_iff_eq]; omega
            have q2 : 32 ≤ h := by omega
            have q3 : h ≤ 223 := by omega
            have q4 : h % 32 < 24 := by omega
            clear H
            have q1 : s < 24 := by omega
            go_wp2
            go_meet
            exact ⟨rfl, rfl⟩
          · have e1 : (h != 0) = false := by rw [HH.out]; unfold handleOfC; rw [if_neg (by omega)]; rfl
            have q1 : s < 24 := by omega
            go_wp2
            go_meet
            exact ⟨rfl, rfl⟩
        · have e1 : (h != 0) = false := by rw [HH.out]; unfold handleOfC; rw [if_neg (by omega)]; rfl
          have q1 : s < 24 := by omega
          go_wp2
          go_meet
          exact ⟨rfl, rfl⟩
      · have e1 : (h != 0) = false := by rw [HH.out]; unfold handleOfC; rw [if_neg (by omega)]; rfl
        have q1 : ¬ s < 24 := by omega
        go_wp2
        go_meet
        exact ⟨rfl, rfl⟩
    · have e1 : (h != 0) = false := by rw [HH.out]; unfold handleOfC; rw [if_neg (by omega)]; rfl
      go_wp2
      go_meet
      exact ⟨rfl, rfl⟩
  case rest =>
    obtain ⟨rfl, rfl⟩ := hcut
    go_wp2_with fail
    refine (drawHandleOk_any _ _ _ zs _ HN.out (by have := HZ.out; omega) ((HR.out.below HB.out (Nat.le_refl _)).more HB.out.size)).mono ?_
    rintro e w2 ⟨⟨x, rfl, hx1, hx2⟩, hb2⟩
    have HB2 := hide (HB.out.trans (hb2.mono HB.out.size))
    clear hb2
    by_cases h1 : 32 ≤ x
    · by_cases h2 : x ≤ 223
      · by_cases h3 : x % 32 < 24
        · have e0 : (x / 32 * 32 + x % 32 != x) = false := by rw [bne_eq_false_iff_eq]; omega
          have q4 : 1 ≤ x / 32 := by omega
          have q5 : x / 32 ≤ 6 := by omega
          have q6 : x % 32 ≤ 23 := by omega
          by_cases h4 : x / 32 + 1 ≤ 6
          · have q1 : x / 32 < 6 := by omega
            have q2 : 1 ≤ x / 32 + 1 := by omega
            have q3 : 0 ≤ x % 32 := by omega
            have e2 : ((x / 32 + 1) * 32 + x % 32 != 0) = true := by rw [bne_iff_ne]; omega
            have e3 : (((x / 32 + 1) * 32 + x % 32) % 32 == x % 32) = true := by rw [beq_iff_eq]; omega
            have e4 : (((x / 32 + 1) * 32 + x % 32) / 32 == x / 32 + 1) = true := by rw [beq_iff_eq]; omega
            have q7 : 32 ≤ (x / 32 + 1) * 32 + x % 32 := by omega
            have q8 : (x / 32 + 1) * 32 + x % 32 ≤ 223 := by omega
            have q9 : ((x / 32 + 1) * 32 + x % 32) % 32 < 24 := by omega
            go_wp2
            go_ret
            exact ⟨rfl, HB2.out⟩
          · have q1 : ¬ x / 32 < 6 := by omega
            have q2 : 1 ≤ x / 32 + 1 := by omega
            have e5 : decide (x / 32 < 6) = false := by simp; omega
            have e6 : decide (x / 32 + 1 ≤ 6) = false := by simp; omega
            have q3 : 0 ≤ x % 32 := by omega
            go_wp2
            go_ret
            exact ⟨rfl, HB2.out⟩
        · have e5 : decide (x % 32 < 24) = false := by simp; omega
          go_wp2
          go_ret
          exact ⟨rfl, HB2.out⟩
      · have e5 : decide (x ≤ 223) = false := by simp; omega
        go_wp2
        go_ret
        exact ⟨rfl, HB2.out⟩
    · have e5 : decide (32 ≤ x) = false := by simp; omega
      go_wp2
      go_ret
      exact ⟨rfl, HB2.out⟩

theorem fnHandles_walk (A : Option Addr) (n c : Nat) (zs : List Int) (w : World) (h : Sl .u8 w A n c zs) : Calls Try.prog 15 #[.slice A n c] w fun e w' => e = .returned (.bool true) ∧ Below w.heap.size w w' := by
  obtain ⟨hn, _, hm, hr, _⟩ := h
  by_cases hz : n ≤ 1048576
  · exact fnHandles_core A n c zs w hn hz hr
  · have hz1 : (1048576 : Int) < (n : Int) := by omega
    clear hn hr hz
    go_enter Try.func15, Try.ntmps15
    go_wp2
    go_ret
    exact ⟨rfl, Below.refl _ _⟩
end Go.Proofs.Ytgnehfpndpdelaa
