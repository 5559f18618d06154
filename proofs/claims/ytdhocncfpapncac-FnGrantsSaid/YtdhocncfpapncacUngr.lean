/-
  Ungranted: how many classes of the second list are -1. The contracts.
-/
import Derived.Test.YtdhocncfpapncacHeap
namespace Go.Proofs.Ytdhocncfpapncac
open Go.RowKit
set_option linter.unusedVariables false

def cntN (z : List Int) : Nat → Nat
  | 0 => 0
  | k + 1 => cntN z k + if z.getD k 0 = -1 then 1 else 0
theorem cntN_le (z : List Int) (k : Nat) : cntN z k ≤ k := by
  induction k with
  | zero => exact Nat.le_refl _
  | succ k ih => unfold cntN; split <;> omega

set_option maxRecDepth 100000 in
set_option maxHeartbeats 1600000 in
theorem specUngr_any (A A' : Option Addr) (n c n' c' : Nat) (z' : List Int) (w : World) (hn' : n' = z'.length) (hz' : n' ≤ 1048576) (ha' : RdB .i64 w A' z' w.heap.size) :
    Calls Try.prog 8 #[.agg #[.slice A n c, .slice A' n' c']] w fun e w' => e = .returned (.int .i64 (cntN z' n' : Int)) ∧ Below w.heap.size w w' := by
  have hb0 : Below w.heap.size w (w.alloc (.cells #[.slice A n c, .slice A' n' c'] 26)) := (Below.refl _ _).alloc (Nat.le_refl _) _
  have HN := hide hn'
  have HA := hide (ha'.below hb0 (Nat.le_refl _))
  have HB := hide hb0
  have hz1 : (n' : Int) ≤ 1048576 := by omega
  clear hn' ha' hb0 hz'
  go_enter Try.func8, Try.ntmps8
  go_wp2
  go_loopg [3, 4] (n' + 1) (fun g s i wr => wr = w.alloc (.cells #[.slice A n c, .slice A' n' c'] 26) ∧ ∃ k : Nat, k ≤ n' ∧ g = n' + 1 - k ∧ i = .int .i64 k ∧ s = .int .i64 (cntN z' k : Int))
  case atStart => exact ⟨rfl, 0, Nat.zero_le _, rfl, rfl, rfl⟩
  case round =>
    obtain ⟨rfl, k, hk, hg, rfl, rfl⟩ := hrel
    have HG := hide hg
    have hcb := cntN_le z' k
    have hst : cntN z' (k + 1) = cntN z' k + if z'.getD k 0 = -1 then 1 else 0 := rfl
    have HST := hide hst
    clear hg hst
    generalize hs : cntN z' k = s at *
    have HS := hide hs
    clear hs
    by_cases hlt : k < n'
    · obtain ⟨b, off, rfl, hb, hc⟩ := HA.out k (by have := HN.out; omega)
      have hi : (k : Int) < (n' : Int) := by omega
      obtain ⟨x, hx⟩ : ∃ x, x = z'.getD k 0 := ⟨_, rfl⟩
      rw [← hx] at hc
      have HX := hide hx
      clear hx
      by_cases hm : x = -1
      · have he : (x == -1) = true := by rw [hm]; rfl
        have HM := hide hm
        clear hm
        go_wp2
        go_roundg (n' + 1 - (k + 1))
        case measure => have := HG.out; omega
        case rel => exact ⟨rfl, k + 1, by omega, rfl, by go_num, by rw [HST.out, ← HX.out, if_pos HM.out]; go_num⟩
      · have he : (x == -1) = false := by rw [beq_eq_false_iff_ne]; exact hm
        have HM := hide hm
        clear hm
        go_wp2
        go_roundg (n' + 1 - (k + 1))
        case measure => have := HG.out; omega
        case rel => exact ⟨rfl, k + 1, by omega, rfl, by go_num, by rw [HST.out, ← HX.out, if_neg HM.out]; rfl⟩
    · have hi : ¬ (k : Int) < (n' : Int) := by omega
      have hkn : k = n' := by omega
      subst hkn
      go_wp2
      go_ret
      exact ⟨retI (by rw [HS.out]), HB.out⟩

set_option maxRecDepth 100000 in
set_option maxHeartbeats 1600000 in
theorem implUngr_any (A A' : Option Addr) (n c n' c' : Nat) (z' : List Int) (w : World) (hn' : n' = z'.length) (hz' : n' ≤ 1048576) (ha' : RdB .i64 w A' z' w.heap.size) :
    Calls Try.prog 11 #[.agg #[.slice A n c, .slice A' n' c']] w fun e w' => e = .returned (.int .i64 (cntN z' n' : Int)) ∧ Below w.heap.size w w' := by
  have hb0 : Below w.heap.size w (w.alloc (.cells #[.slice A n c, .slice A' n' c'] 26)) := (Below.refl _ _).alloc (Nat.le_refl _) _
  have HN := hide hn'
  have HA := hide (ha'.below hb0 (Nat.le_refl _))
  have HB := hide hb0
  have hz1 : (n' : Int) ≤ 1048576 := by omega
  clear hn' ha' hb0 hz'
  go_enter Try.func11, Try.ntmps11
  go_wp2
  go_loopg [3, 5, 9] (n' + 1) (fun g s _x i wr => wr = w.alloc (.cells #[.slice A n c, .slice A' n' c'] 26) ∧ ∃ k : Nat, k ≤ n' ∧ g = n' + 1 - k ∧ i = .int .i64 k ∧ s = .int .i64 (cntN z' k : Int))
  case atStart => exact ⟨rfl, 0, Nat.zero_le _, rfl, rfl, rfl⟩
  case round =>
    obtain ⟨rfl, k, hk, hg, rfl, rfl⟩ := hrel
    have HG := hide hg
    have hcb := cntN_le z' k
    have hst : cntN z' (k + 1) = cntN z' k + if z'.getD k 0 = -1 then 1 else 0 := rfl
    have HST := hide hst
    clear hg hst
    generalize hs : cntN z' k = s at *
    have HS := hide hs
    clear hs
    by_cases hlt : k < n'
    · obtain ⟨b, off, rfl, hb, hc⟩ := HA.out k (by have := HN.out; omega)
      have hi : (k : Int) < (n' : Int) := by omega
      obtain ⟨x, hx⟩ : ∃ x, x = z'.getD k 0 := ⟨_, rfl⟩
      rw [← hx] at hc
      have HX := hide hx
      clear hx
      by_cases hm : x = -1
      · have he : (x == -1) = true := by rw [hm]; rfl
        have HM := hide hm
        clear hm
        go_wp2
        go_roundg (n' + 1 - (k + 1))
        case measure => have := HG.out; omega
        case rel => exact ⟨rfl, k + 1, by omega, rfl, by go_num, by rw [HST.out, ← HX.out, if_pos HM.out]; go_num⟩
      · have he : (x == -1) = false := by rw [beq_eq_false_iff_ne]; exact hm
        have HM := hide hm
        clear hm
        go_wp2
        go_roundg (n' + 1 - (k + 1))
        case measure => have := HG.out; omega
        case rel => exact ⟨rfl, k + 1, by omega, rfl, by go_num, by rw [HST.out, ← HX.out, if_neg HM.out]; rfl⟩
    · have hi : ¬ (k : Int) < (n' : Int) := by omega
      have hkn : k = n' := by omega
      subst hkn
      go_wp2
      go_ret
      exact ⟨retI (by rw [HS.out]), HB.out⟩
end Go.Proofs.Ytdhocncfpapncac
