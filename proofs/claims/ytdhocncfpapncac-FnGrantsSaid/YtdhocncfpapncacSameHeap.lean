/-
  SameHeap: both lists of two heaps compared. The contracts and the walk of FnExactSameHeap.
-/
import Derived.Test.YtdhocncfpapncacHeap
import Derived.Test.YtdhocncfpapncacSame
namespace Go.Proofs.Ytdhocncfpapncac
open Go.RowKit
set_option linter.unusedVariables false

set_option maxRecDepth 100000 in
set_option maxHeartbeats 1600000 in
theorem specSameHeap_any (A B A' B' : Option Addr) (n c m d n' c' m' d' : Nat) (x x' y y' : List Int) (w : World) (hn : n = x.length) (hn' : n' = x'.length) (hm : m = y.length) (hm' : m' = y'.length) (hz : n ≤ 2097152) (hz' : n' ≤ 2097152) (hy : m ≤ 2097152) (hy' : m' ≤ 2097152)
    (ha : RdB .i64 w A x w.heap.size) (ha' : RdB .i64 w A' x' w.heap.size) (hb : RdB .i64 w B y w.heap.size) (hb' : RdB .i64 w B' y' w.heap.size) :
    Calls Try.prog 9 #[.agg #[.slice A n c, .slice A' n' c'], .agg #[.slice B m d, .slice B' m' d']] w fun e w' => e = .returned (.bool (decide (x = y) && decide (x' = y'))) ∧ Below w.heap.size w w' := by
  have HN := hide hn
  have HN' := hide hn'
  have HM := hide hm
  have HM' := hide hm'
  have HA := hide ha
  have HA' := hide ha'
  have HB := hide hb
  have HB' := hide hb'
  clear hn hn' hm hm' ha ha' hb hb'
  go_enter Try.func9, Try.ntmps9
  go_wp2_with fail
  have hb0 : Below w.heap.size w ((w.alloc (.cells #[.slice A n c, .slice A' n' c'] 26)).alloc (.cells #[.slice B m d, .slice B' m' d'] 26)) := ((Below.refl _ _).alloc (Nat.le_refl _) _).alloc (by simp) _
  refine (specSame_any _ _ _ _ _ _ x y w.heap.size _ HN.out HM.out hz hy (HA.out.below hb0 (Nat.le_refl _)) (HB.out.below hb0 (Nat.le_refl _))).mono ?_
  rintro e w1 ⟨rfl, hb1⟩
  have k1 : w1.cell? ⟨w.heap.size, 1, none⟩ = some (.slice A' n' c') := by rw [hb1.cell (by simp <;> omega)]; go_simp
  have k2 : w1.cell? ⟨w.heap.size + 1, 1, none⟩ = some (.slice B' m' d') := by rw [hb1.cell (by simp <;> omega)]; go_simp
  have HB1 := hide (hb0.trans (hb1.mono hb0.size))
  clear hb0 hb1
  by_cases hxy : x = y
  · rw [decide_eq_true hxy]
    have HXY := hide hxy
    clear hxy
    go_wp2_with fail
    refine (specSame_any _ _ _ _ _ _ x' y' w.heap.size _ HN'.out HM'.out hz' hy' (HA'.out.below HB1.out (Nat.le_refl _)) (HB'.out.below HB1.out (Nat.le_refl _))).mono ?_
    rintro e w2 ⟨rfl, hb2⟩
    have HB2 := hide (HB1.out.trans (hb2.mono HB1.out.size))
    clear hb2
    go_wp2
    go_ret
    exact ⟨retB (by simp [HXY.out]), HB2.out⟩
  · rw [decide_eq_false hxy]
    have HXY := hide hxy
    clear hxy
    go_wp2
    go_ret
    exact ⟨retB (by simp [HXY.out]), HB1.out⟩

end Go.Proofs.Ytdhocncfpapncac
