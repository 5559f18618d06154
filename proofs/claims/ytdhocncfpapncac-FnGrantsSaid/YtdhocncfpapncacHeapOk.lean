/-
  HeapOk: a heap of the right shape, all its pages as they should be. The contracts and the walk of the law.
-/
import Derived.Test.YtdhocncfpapncacPageI
namespace Go.Proofs.Ytdhocncfpapncac
open Go.RowKit
set_option linter.unusedVariables false

theorem shape_parts {x y : List Int} (h : shapeR x y = true) : x.length = 384 ∧ y.length = 6 ∧ bokR x = true ∧ y.all isCl = true := by
  unfold shapeR at h
  simp only [Bool.and_eq_true, decide_eq_true_eq] at h
  exact ⟨h.1.1.1, h.1.2, h.1.1.2, h.2⟩

set_option maxRecDepth 100000 in
set_option maxHeartbeats 3200000 in
theorem specHeapOk_any (A A' : Option Addr) (n c n' c' : Nat) (x y : List Int) (w : World) (hn : n = x.length) (hn' : n' = y.length) (hz : n ≤ 1048576) (hz' : n' ≤ 1048576) (hc : n ≤ c) (hcm : c ≤ maxLen) (ha : RdB .i64 w A x w.heap.size) (ha' : RdB .i64 w A' y w.heap.size) :
    Calls Try.prog 7 #[.agg #[.slice A n c, .slice A' n' c']] w fun e w' => e = .returned (.bool (hokR x y)) ∧ Below w.heap.size w w' := by
  have HN := hide hn
  have HN' := hide hn'
  have HA := hide ha
  have HA' := hide ha'
  clear hn hn' ha ha'
  go_enter Try.func7, Try.ntmps7
  go_wp2_with fail
  obtain ⟨w1, hW⟩ : ∃ W : World, W = w.alloc (.cells #[.slice A n c, .slice A' n' c'] 26) := ⟨_, rfl⟩
  rw [← hW]
  have hb1 : Below w.heap.size w w1 := by rw [hW]; exact (Below.refl _ _).alloc (Nat.le_refl _) _
  have HB1 := hide hb1
  have t1 : w.heap.size < w1.heap.size := by rw [hW]; simp
  have b0 : w1.cell? ⟨w.heap.size, 0, none⟩ = some (.slice A n c) := by rw [hW]; go_simp
  have b1 : w1.cell? ⟨w.heap.size, 1, none⟩ = some (.slice A' n' c') := by rw [hW]; go_simp
  clear hW hb1
  refine (specShape_any A A' n c n' c' x y w1 HN.out HN'.out hz hz' (rdB_at HA.out HB1.out) (rdB_at HA'.out HB1.out)).mono ?_
  rintro e w2 ⟨rfl, hb⟩
  have k0 : w2.cell? ⟨w.heap.size, 0, none⟩ = some (.slice A n c) := by rw [hb.cell t1]; exact b0
  have k1 : w2.cell? ⟨w.heap.size, 1, none⟩ = some (.slice A' n' c') := by rw [hb.cell t1]; exact b1
  have t2 : w.heap.size < w2.heap.size := Nat.lt_of_lt_of_le t1 hb.size
  have HB2 := hide (HB1.out.trans (hb.mono HB1.out.size))
  clear hb b0 b1
  cases hs : shapeR x y
  · have HX : Hid (hokR x y = false) := hide (by unfold hokR; rw [hs]; rfl)
    clear hs
    go_wp2
    go_ret
    exact ⟨retB HX.out.symm, HB2.out⟩
  have HX : Hid (hokR x y = pgsR x y 6) := hide (by unfold hokR; rw [hs]; rfl)
  obtain ⟨s1, s2, s3, s4⟩ := shape_parts hs
  have e384 : n = 384 := by have := HN.out; omega
  have e6 : n' = 6 := by have := HN'.out; omega
  subst e384 e6
  have HBK := hide s3
  have HCL := hide s4
  clear hs s1 s2 s3 s4
  go_wp2_with fail
  go_loopg [3] 7 (fun g i wr => (wr.cell? ⟨w.heap.size, 0, none⟩ = some (.slice A 384 c) ∧ wr.cell? ⟨w.heap.size, 1, none⟩ = some (.slice A' 6 c') ∧ w.heap.size < wr.heap.size ∧ Below w.heap.size w wr) ∧ ∃ k : Nat, k ≤ 6 ∧ g = 7 - k ∧ i = .int .i64 k ∧ pgsR x y k = true)
  case atStart => exact ⟨⟨k0, k1, t2, HB2.out⟩, 0, by omega, rfl, rfl, rfl⟩
  case round =>
    clear k0 k1 t2
    obtain ⟨⟨k0, k1, t2, hB⟩, k, hk, hg, rfl, hp⟩ := hrel
    have HG := hide hg
    have HP := hide hp
    have HB := hide hB
    clear hg hp hB
    by_cases hlt : k < 6
    · have hi : (k : Int) < 6 := by omega
      go_wp2_with fail
      refine (specPage_any A A' c c' x y k (k * 64) _ hlt rfl HN.out HN'.out HBK.out HCL.out hc hcm (rdB_at HA.out HB.out) (rdB_at HA'.out HB.out)).mono ?_
      rintro e w3 ⟨rfl, hb⟩
      have j0 : w3.cell? ⟨w.heap.size, 0, none⟩ = some (.slice A 384 c) := by rw [hb.cell t2]; exact k0
      have j1 : w3.cell? ⟨w.heap.size, 1, none⟩ = some (.slice A' 6 c') := by rw [hb.cell t2]; exact k1
      have t3 : w.heap.size < w3.heap.size := Nat.lt_of_lt_of_le t2 hb.size
      have HB3 := hide (HB.out.trans (hb.mono HB.out.size))
      clear hb
      cases hq : pageC x (k * 64) (y.getD k 0)
      · have HF : Hid (hokR x y = false) := hide (by rw [HX.out]; exact pgsR_bad hlt hq)
        clear hq
        go_wp2
        go_ret
        exact ⟨retB HF.out.symm, HB3.out⟩
      · have HP2 : Hid (pgsR x y (k + 1) = true) := hide (by unfold pgsR; rw [HP.out, hq]; rfl)
        clear hq
        go_wp2
        go_roundg (7 - (k + 1))
        case measure => have := HG.out; omega
        case rel => exact ⟨⟨j0, j1, t3, HB3.out⟩, k + 1, by omega, rfl, by go_num, HP2.out⟩
    · have hk6 : k = 6 := by omega
      subst hk6
      go_wp2
      go_ret
      exact ⟨retB (by rw [HX.out]; exact HP.out.symm), HB.out⟩

set_option maxRecDepth 100000 in
set_option maxHeartbeats 3200000 in
theorem implHeapOk_any (A A' : Option Addr) (n c n' c' : Nat) (x y : List Int) (w : World) (hn : n = x.length) (hn' : n' = y.length) (hz : n ≤ 1048576) (hz' : n' ≤ 1048576) (hc : n ≤ c) (hcm : c ≤ maxLen) (ha : RdB .i64 w A x w.heap.size) (ha' : RdB .i64 w A' y w.heap.size) :
    Calls Try.prog 24 #[.agg #[.slice A n c, .slice A' n' c']] w fun e w' => e = .returned (.bool (hokR x y)) ∧ Below w.heap.size w w' := by
  have HN := hide hn
  have HN' := hide hn'
  have HA := hide ha
  have HA' := hide ha'
  clear hn hn' ha ha'
  go_enter Try.func24, Try.ntmps24
  go_wp2_with fail
  obtain ⟨w1, hW⟩ : ∃ W : World, W = w.alloc (.cells #[.slice A n c, .slice A' n' c'] 26) := ⟨_, rfl⟩
  rw [← hW]
  have hb1 : Below w.heap.size w w1 := by rw [hW]; exact (Below.refl _ _).alloc (Nat.le_refl _) _
  have HB1 := hide hb1
  have t1 : w.heap.size < w1.heap.size := by rw [hW]; simp
  have b0 : w1.cell? ⟨w.heap.size, 0, none⟩ = some (.slice A n c) := by rw [hW]; go_simp
  have b1 : w1.cell? ⟨w.heap.size, 1, none⟩ = some (.slice A' n' c') := by rw [hW]; go_simp
  clear hW hb1
  refine (implShape_any A A' n c n' c' x y w1 HN.out HN'.out hz hz' (rdB_at HA.out HB1.out) (rdB_at HA'.out HB1.out)).mono ?_
  rintro e w2 ⟨rfl, hb⟩
  have k0 : w2.cell? ⟨w.heap.size, 0, none⟩ = some (.slice A n c) := by rw [hb.cell t1]; exact b0
  have k1 : w2.cell? ⟨w.heap.size, 1, none⟩ = some (.slice A' n' c') := by rw [hb.cell t1]; exact b1
  have t2 : w.heap.size < w2.heap.size := Nat.lt_of_lt_of_le t1 hb.size
  have HB2 := hide (HB1.out.trans (hb.mono HB1.out.size))
  clear hb b0 b1
  cases hs : shapeR x y
  · have HX : Hid (hokR x y = false) := hide (by unfold hokR; rw [hs]; rfl)
    clear hs
    go_wp2
    go_ret
    exact ⟨retB HX.out.symm, HB2.out⟩
  have HX : Hid (hokR x y = pgsR x y 6) := hide (by unfold hokR; rw [hs]; rfl)
  obtain ⟨s1, s2, s3, s4⟩ := shape_parts hs
  have e384 : n = 384 := by have := HN.out; omega
  have e6 : n' = 6 := by have := HN'.out; omega
  subst e384 e6
  have HBK := hide s3
  have HCL := hide s4
  clear hs s1 s2 s3 s4
  go_wp2_with fail
  go_loopg [3, 7] 7 (fun g _x i wr => (wr.cell? ⟨w.heap.size, 0, none⟩ = some (.slice A 384 c) ∧ wr.cell? ⟨w.heap.size, 1, none⟩ = some (.slice A' 6 c') ∧ w.heap.size < wr.heap.size ∧ Below w.heap.size w wr) ∧ ∃ k : Nat, k ≤ 6 ∧ g = 7 - k ∧ i = .int .i64 k ∧ pgsR x y k = true)
  case atStart => exact ⟨⟨k0, k1, t2, HB2.out⟩, 0, by omega, rfl, rfl, rfl⟩
  case round =>
    clear k0 k1 t2
    obtain ⟨⟨k0, k1, t2, hB⟩, k, hk, hg, rfl, hp⟩ := hrel
    have HG := hide hg
    have HP := hide hp
    have HB := hide hB
    clear hg hp hB
    by_cases hlt : k < 6
    · have hi : (k : Int) < 6 := by omega
      go_wp2_with fail
      refine (implPage_any A A' c c' x y k (k * 64) _ hlt rfl HN.out HN'.out HBK.out HCL.out hc hcm (rdB_at HA.out HB.out) (rdB_at HA'.out HB.out)).mono ?_
      rintro e w3 ⟨rfl, hb⟩
      have j0 : w3.cell? ⟨w.heap.size, 0, none⟩ = some (.slice A 384 c) := by rw [hb.cell t2]; exact k0
      have j1 : w3.cell? ⟨w.heap.size, 1, none⟩ = some (.slice A' 6 c') := by rw [hb.cell t2]; exact k1
      have t3 : w.heap.size < w3.heap.size := Nat.lt_of_lt_of_le t2 hb.size
      have HB3 := hide (HB.out.trans (hb.mono HB.out.size))
      clear hb
      cases hq : pageC x (k * 64) (y.getD k 0)
      · have HF : Hid (hokR x y = false) := hide (by rw [HX.out]; exact pgsR_bad hlt hq)
        clear hq
        go_wp2
        go_ret
        exact ⟨retB HF.out.symm, HB3.out⟩
      · have HP2 : Hid (pgsR x y (k + 1) = true) := hide (by unfold pgsR; rw [HP.out, hq]; rfl)
        clear hq
        go_wp2
        go_roundg (7 - (k + 1))
        case measure => have := HG.out; omega
        case rel => exact ⟨⟨j0, j1, t3, HB3.out⟩, k + 1, by omega, rfl, by go_num, HP2.out⟩
    · have hk6 : k = 6 := by omega
      subst hk6
      go_wp2
      go_ret
      exact ⟨retB (by rw [HX.out]; exact HP.out.symm), HB.out⟩

end Go.Proofs.Ytdhocncfpapncac
