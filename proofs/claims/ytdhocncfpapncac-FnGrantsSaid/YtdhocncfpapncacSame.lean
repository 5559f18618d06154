/-
  Two slices of ints compared: the reference's loop and slices.Equal.
-/
import Derived.Test.YtdhocncfpapncacInts
import Derived.Deep.LoopGhost
import Derived.Deep.RegionHeld3
namespace Go.Proofs.Ytdhocncfpapncac
open Go.RowKit
set_option linter.unusedVariables false

theorem list_eq_of {xs ys : List Int} (hl : xs.length = ys.length) (h : ∀ j, j < xs.length → xs.getD j 0 = ys.getD j 0) : xs = ys := by
  apply List.ext_getElem hl
  intro j h1 h2
  have := h j h1
  simpa [List.getD, h1, h2] using this
theorem list_ne_of {xs ys : List Int} {j : Nat} (h : xs.getD j 0 ≠ ys.getD j 0) : xs ≠ ys := fun e => h (by rw [e])

set_option maxRecDepth 100000 in
set_option maxHeartbeats 800000 in
theorem specSame_any (A B : Option Addr) (n m c d : Nat) (xs ys : List Int) (U : Nat) (w : World) (hn : n = xs.length) (hm : m = ys.length) (hz : n ≤ 2097152) (hz2 : m ≤ 2097152) (ha : RdB .i64 w A xs U) (hb : RdB .i64 w B ys U) :
    Calls Try.prog 33 #[.slice A n c, .slice B m d] w fun e w' => e = .returned (.bool (decide (xs = ys))) ∧ Below w.heap.size w w' := by
  have HN := hide hn
  have HM := hide hm
  have HA := hide ha
  have HB := hide hb
  clear hn hm ha hb
  by_cases hnm : n = m
  · subst hnm
    have hz1 : (n : Int) ≤ 2097152 := by omega
    have e0 : ((n : Int) != (n : Int)) = false := by simp
    clear hz hz2
    go_enter Try.func33, Try.ntmps33
    go_wp2
    go_loopg [5] (n + 1) (fun g i wr => ∃ k : Nat, k ≤ n ∧ g = n + 1 - k ∧ i = .int .i64 k ∧ (∃ nd, wr = w.drewN nd) ∧ ∀ j, j < k → xs.getD j 0 = ys.getD j 0)
    case atStart => exact ⟨0, Nat.zero_le _, rfl, rfl, ⟨0, rfl⟩, fun j hj => absurd hj (by omega)⟩
    case round =>
      obtain ⟨k, hk, hg, rfl, ⟨nd, rfl⟩, hall⟩ := hrel
      have HG := hide hg
      have HALL := hide hall
      clear hg hall
      by_cases hlt : k < n
      · obtain ⟨b, off, rfl, hb, hc⟩ := HA.out k (by have := HN.out; omega)
        obtain ⟨b2, off2, rfl, hb2, hc2⟩ := HB.out k (by have := HM.out; omega)
        have hi : (k : Int) < (n : Int) := by omega
        obtain ⟨x, hx⟩ : ∃ x, x = xs.getD k 0 := ⟨_, rfl⟩
        obtain ⟨y, hy⟩ : ∃ y, y = ys.getD k 0 := ⟨_, rfl⟩
        rw [← hx] at hc
        rw [← hy] at hc2
        have HX := hide hx
        have HY := hide hy
        clear hx hy
        by_cases hxy : x = y
        · have hne : (x != y) = false := by rw [hxy]; simp
          have HXY := hide hxy
          clear hxy
          go_wp2_with fail
          go_quiet (fail)
          go_wp2_with fail
          go_roundg (n + 1 - (k + 1))
          case measure => have := HG.out; omega
          case rel => exact ⟨k + 1, by omega, rfl, by go_num, ⟨_, rfl⟩, fun j hj => by
            by_cases e : j = k
            · subst e; rw [← HX.out, ← HY.out]; exact HXY.out
            · exact HALL.out j (by omega)⟩
        · have hne : (x != y) = true := by rw [bne_iff_ne]; exact hxy
          have HF := hide (decide_eq_false (list_ne_of (j := k) (xs := xs) (ys := ys) (by rw [← HX.out, ← HY.out]; exact hxy)))
          clear hxy
          go_wp2_with fail
          go_quiet (fail)
          go_wp2_with fail
          go_ret
          exact ⟨retB HF.out.symm, ⟨rfl, rfl, rfl, Nat.le_refl _, fun _ _ => rfl⟩⟩
      · have hi : ¬ (k : Int) < (n : Int) := by omega
        have HT := hide (decide_eq_true (list_eq_of (xs := xs) (ys := ys) (by have := HN.out; have := HM.out; omega) (fun j hj => HALL.out j (by have := HN.out; omega))))
        go_wp2
        go_ret
        exact ⟨retB HT.out.symm, ⟨rfl, rfl, rfl, Nat.le_refl _, fun _ _ => rfl⟩⟩
  · have e0 : ((n : Int) != (m : Int)) = true := by rw [bne_iff_ne]; omega
    have HF := hide (decide_eq_false (show ¬ xs = ys from fun e => hnm (by rw [HN.out, HM.out, e])))
    have hz1 : (n : Int) ≤ 2097152 := by omega
    have hz3 : (m : Int) ≤ 2097152 := by omega
    clear hz hz2 hnm
    go_enter Try.func33, Try.ntmps33
    go_wp2
    go_ret
    exact ⟨retB HF.out.symm, Below.refl _ _⟩

end Go.Proofs.Ytdhocncfpapncac
