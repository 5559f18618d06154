/-
  HeapOk: a heap of the right shape, all its pages as they should be. The contracts and the walk of the law.
-/
import Derived.Test.YtjjfblejccfplaaPageI
namespace Go.Proofs.Ytjjfblejccfplaa
open Go.RowKit
set_option linter.unusedVariables false

theorem shape_parts {x y : List Int} (h : shapeR x y = true) : x.length = 384 ∧ y.length = 6 ∧ bokR x = true ∧ y.all isCl = true := by
  unfold shapeR at h
  simp only [Bool.and_eq_true, decide_eq_true_eq] at h
  exact ⟨h.1.1.1, h.1.2, h.1.1.2, h.2⟩

set_option maxRecDepth 100000 in
set_option maxHeartbeats 3200000 in
theorem specHeapOk_any (A A' : Option Addr) (n c n' c' : Nat) (x y : List Int) (w : World) (hn : n = x.length) (hn' : n' = y.length) (hz : n ≤ 1048576) (hz' : n' ≤ 1048576) (hc : n ≤ c) (hcm : c ≤ maxLen) (ha : RdB .i64 w A x w.heap.size) (ha' : RdB .i64 w A' y w.heap.size) :
    Calls Try.prog 32 #[.agg #[.slice A n c, .slice A' n' c']] w fun e w' => e = .returned (.bool (hokR x y)) ∧ Below w.heap.size w w' := by
  have HN := hide hn
  have HN' := hide hn'
  have HA := hide ha
  have HA' := hide ha'
  clear hn hn' ha ha'
  go_enter Try.func32, Try.ntmps32
  go_wp2_with fail
  obtain ⟨w1, hW⟩ : ∃ W : World, W = w.alloc (.cells #[.slice A n c, .slice A' n' c'] 27) := ⟨_, rfl⟩
  rw [← hW]
  have hb1 : Below w.heap.size w w1 := by rw [hW]; exact (Below.refl _ _).alloc (Nat.le_refl _) _
  have HB1 := hide hb1
  have t1 : w.heap.size < w1.heap.size := by rw [hW]; simp
  have b0 : w1.cell? ⟨w.heap.size, 0, none⟩ = some (.slice A n c) := by rw [hW]; go_simp
  have b1 : w1.cell? ⟨w.heap.size, 1, none⟩ = some (.slice A' n' c') := by rw [hW]; go_simp
  clear hW hb1
  refine (specShape_any A A' n c n' c' x y w1 HN.out HN'.out hz hz' (rdB_at HA.out HB1.out) (rdB_at HA'.out HB1.out)).mono ?_
  rintro e w2 ⟨rfl, hb⟩
  have k0 : w2.cell? ⟨w.heap.size, 0, none⟩ = some (.slice A n c) := by rw [hb.cell t1]; exact b0
  have k1 : w2.cell? ⟨w.heap.size, 1, none⟩ = some (.slice A' n' c') := by rw [hb.cell t1]; exact b1
  have t2 : w.heap.size < w2.heap.size := Nat.lt_of_lt_of_le t1 hb.size
  have HB2 := hide (HB1.out.trans (hb.mono HB1.out.size))
  clear hb b0 b1
  cases hs : shapeR x y
  · have HX : Hid (hokR x y = false) := hide (by unfold hokR; rw [hs]; rfl)
    clear hs
    go_wp2
    go_ret
    exact ⟨retB HX.out.symm, HB2.out⟩
  have HX : Hid (hokR x y = pgsR x y 6) := hide (by unfold hokR; rw [hs]; rfl)
  obtain ⟨s1, s2, s3, s4⟩ := shape_parts hs
  have e384 : n = 384 := by have := HN.out; omega
  have e6 : n' = 6 := by have := HN'.out; omega
  subst e384 e6
  have HBK := hide s3
  have HCL := hide s4
  clear hs s1 s2 s3 s4
  go_wp2_with fail
  go_loopg [3] 7 (fun g i wr => (wr.cell? ⟨w.heap.size, 0, none⟩ = some (.slice A 384 c) ∧ wr.cell? ⟨w.heap.size, 1, none⟩ = some (.slice A' 6 c') ∧ w.heap.size < wr.heap.size ∧ Below w.heap.size w wr) ∧ ∃ k : Nat, k ≤ 6 ∧ g = 7 - k ∧ i = .int .i64 k ∧ pgsR x y k = true)
  case atStart => exact ⟨⟨k0, k1, t2, HB2.out⟩, 0, by omega, rfl, rfl, rfl⟩
  case round =>
    clear k0 k1 t2
    obtain ⟨⟨k0, k1, t2, hB⟩, k, hk, hg, rfl, hp⟩ := hrel
    have HG := hide hg
    have HP := hide hp
    have HB := hide hB
    clear hg hp hB
    by_cases hlt : k < 6
    · have hi : (k : Int) < 6 := by omega
      go_wp2_with fail
      refine (specPage_any A A' c c' x y k (k * 64) _ hlt rfl HN.out HN'.out HBK.out HCL.out hc hcm (rdB_at HA.out HB.out) (rdB_at HA'.out HB.out)).mono ?_
      rintro e w3 ⟨rfl, hb⟩
      have j0 : w3.cell? ⟨w.heap.size, 0, none⟩ = some (.slice A 384 c) := by rw [hb.cell t2]; exact k0
      have j1 : w3.cell? ⟨w.heap.size, 1, none⟩ = some (.slice A' 6 c') := by rw [hb.cell t2]; exact k1
      have t3 : w.heap.size < w3.heap.size := Nat.lt_of_lt_of_le t2 hb.size
      have HB3 := hide (HB.out.trans (hb.mono HB.out.size))
      clear hb
      cases hq : pageC x (k * 64) (y.getD k 0)
      · have HF : Hid (hokR x y = false) := hide (by rw [HX.out]; exact pgsR_bad hlt hq)
        clear hq
        go_wp2
        go_ret
        exact ⟨retB HF.out.symm, HB3.out⟩
      · have HP2 : Hid (pgsR x y (k + 1) = true) := hide (by unfold pgsR; rw [HP.out, hq]; rfl)
        clear hq
        go_wp2
        go_roundg (7 - (k + 1))
        case measure => have := HG.out; omega
        case rel => exact ⟨⟨j0, j1, t3, HB3.out⟩, k + 1, by omega, rfl, by go_num, HP2.out⟩
    · have hk6 : k = 6 := by omega
      subst hk6
      go_wp2
      go_ret
      exact ⟨retB (by rw [HX.out]; exact HP.out.symm), HB.out⟩

set_option maxRecDepth 100000 in
set_option maxHeartbeats 3200000 in
theorem implHeapOk_any (A A' : Option Addr) (n c n' c' : Nat) (x y : List Int) (w : World) (hn : n = x.length) (hn' : n' = y.length) (hz : n ≤ 1048576) (hz' : n' ≤ 1048576) (hc : n ≤ c) (hcm : c ≤ maxLen) (ha : RdB .i64 w A x w.heap.size) (ha' : RdB .i64 w A' y w.heap.size) :
    Calls Try.prog 33 #[.agg #[.slice A n c, .slice A' n' c']] w fun e w' => e = .returned (.bool (hokR x y)) ∧ Below w.heap.size w w' := by
  have HN := hide hn
  have HN' := hide hn'
  have HA := hide ha
  have HA' := hide ha'
  clear hn hn' ha ha'
  go_enter Try.func33, Try.ntmps33
  go_wp2_with fail
  obtain ⟨w1, hW⟩ : ∃ W : World, W = w.alloc (.cells #[.slice A n c, .slice A' n' c'] 27) := ⟨_, rfl⟩
  rw [← hW]
  have hb1 : Below w.heap.size w w1 := by rw [hW]; exact (Below.refl _ _).alloc (Nat.le_refl _) _
  have HB1 := hide hb1
  have t1 : w.heap.size < w1.heap.size := by rw [hW]; simp
  have b0 : w1.cell? ⟨w.heap.size, 0, none⟩ = some (.slice A n c) := by rw [hW]; go_simp
  have b1 : w1.cell? ⟨w.heap.size, 1, none⟩ = some (.slice A' n' c') := by rw [hW]; go_simp
  clear hW hb1
  refine (implShape_any A A' n c n' c' x y w1 HN.out HN'.out hz hz' (rdB_at HA.out HB1.out) (rdB_at HA'.out HB1.out)).mono ?_
  rintro e w2 ⟨rfl, hb⟩
  have k0 : w2.cell? ⟨w.heap.size, 0, none⟩ = some (.slice A n c) := by rw [hb.cell t1]; exact b0
  have k1 : w2.cell? ⟨w.heap.size, 1, none⟩ = some (.slice A' n' c') := by rw [hb.cell t1]; exact b1
  have t2 : w.heap.size < w2.heap.size := Nat.lt_of_lt_of_le t1 hb.size
  have HB2 := hide (HB1.out.trans (hb.mono HB1.out.size))
  clear hb b0 b1
  cases hs : shapeR x y
  · have HX : Hid (hokR x y = false) := hide (by unfold hokR; rw [hs]; rfl)
    clear hs
    go_wp2
    go_ret
    exact ⟨retB HX.out.symm, HB2.out⟩
  have HX : Hid (hokR x y = pgsR x y 6) := hide (by unfold hokR; rw [hs]; rfl)
  obtain ⟨s1, s2, s3, s4⟩ := shape_parts hs
  have e384 : n = 384 := by have := HN.out; omega
  have e6 : n' = 6 := by have := HN'.out; omega
  subst e384 e6
  have HBK := hide s3
  have HCL := hide s4
  clear hs s1 s2 s3 s4
  go_wp2_with fail
  go_loopg [3, 7] 7 (fun g _x i wr => (wr.cell? ⟨w.heap.size, 0, none⟩ = some (.slice A 384 c) ∧ wr.cell? ⟨w.heap.size, 1, none⟩ = some (.slice A' 6 c') ∧ w.heap.size < wr.heap.size ∧ Below w.heap.size w wr) ∧ ∃ k : Nat, k ≤ 6 ∧ g = 7 - k ∧ i = .int .i64 k ∧ pgsR x y k = true)
  case atStart => exact ⟨⟨k0, k1, t2, HB2.out⟩, 0, by omega, rfl, rfl, rfl⟩
  case round =>
    clear k0 k1 t2
    obtain ⟨⟨k0, k1, t2, hB⟩, k, hk, hg, rfl, hp⟩ := hrel
    have HG := hide hg
    have HP := hide hp
    have HB := hide hB
    clear hg hp hB
    by_cases hlt : k < 6
    · have hi : (k : Int) < 6 := by omega
      go_wp2_with fail
      refine (implPage_any A A' c c' x y k (k * 64) _ hlt rfl HN.out HN'.out HBK.out HCL.out hc hcm (rdB_at HA.out HB.out) (rdB_at HA'.out HB.out)).mono ?_
      rintro e w3 ⟨rfl, hb⟩
      have j0 : w3.cell? ⟨w.heap.size, 0, none⟩ = some (.slice A 384 c) := by rw [hb.cell t2]; exact k0
      have j1 : w3.cell? ⟨w.heap.size, 1, none⟩ = some (.slice A' 6 c') := by rw [hb.cell t2]; exact k1
      have t3 : w.heap.size < w3.heap.size := Nat.lt_of_lt_of_le t2 hb.size
      have HB3 := hide (HB.out.trans (hb.mono HB.out.size))
      clear hb
      cases hq : pageC x (k * 64) (y.getD k 0)
      · have HF : Hid (hokR x y = false) := hide (by rw [HX.out]; exact pgsR_bad hlt hq)
        clear hq
        go_wp2
        go_ret
        exact ⟨retB HF.out.symm, HB3.out⟩
      · have HP2 : Hid (pgsR x y (k + 1) = true) := hide (by unfold pgsR; rw [HP.out, hq]; rfl)
        clear hq
        go_wp2
        go_roundg (7 - (k + 1))
        case measure => have := HG.out; omega
        case rel => exact ⟨⟨j0, j1, t3, HB3.out⟩, k + 1, by omega, rfl, by go_num, HP2.out⟩
    · have hk6 : k = 6 := by omega
      subst hk6
      go_wp2
      go_ret
      exact ⟨retB (by rw [HX.out]; exact HP.out.symm), HB.out⟩

set_option maxRecDepth 100000 in
set_option maxHeartbeats 3200000 in
theorem fnExactHeapOk_walk (v0_0 v0_1 : Value) (w : World) (h0 : HeapArg w v0_0 v0_1) :
    Calls Try.prog 9 #[.agg #[v0_0, v0_1]] w fun e w' => e = .returned (.bool true) ∧ Below w.heap.size w w' := by
  obtain ⟨A0, n0, c0, z0, B0, m0, d0, y0, rfl, rfl, ⟨hn0, hnc0, hc0, hr0, hx0⟩, ⟨hm0, hmd0, hd0, hs0, hy0⟩⟩ := h0
  have Hn0 := hide hn0
  clear hn0
  have Hm0 := hide hm0
  clear hm0
  have Hr0 := hide hr0
  clear hr0
  have Hs0 := hide hs0
  clear hs0
  have Hx0 := hide hx0
  clear hx0
  have Hy0 := hide hy0
  clear hy0
  have HB0 := hide (Below.refl w.heap.size w)
  go_enter Try.func9, Try.ntmps9
  go_wp2_with fail
  obtain ⟨w1, hW⟩ : ∃ W : World, W = w.alloc (.cells #[(.slice A0 n0 c0), (.slice B0 m0 d0)] 24) := ⟨_, rfl⟩
  rw [← hW]
  have hb : Below w.heap.size w w1 := by rw [hW]; exact (Below.refl _ _).alloc (Nat.le_refl _) _
  have nb0 : w1.cell? ⟨w.heap.size, 0, none⟩ = some (.slice A0 n0 c0) := by rw [hW]; go_simp
  have nb1 : w1.cell? ⟨w.heap.size, 1, none⟩ = some (.slice B0 m0 d0) := by rw [hW]; go_simp
  have nt : w.heap.size < w1.heap.size := by rw [hW]; simp
  clear hW
  have HB1 := hide (HB0.out.trans (hb.mono HB0.out.size))
  have hs1 : w.heap.size ≤ w1.heap.size := hb.size
  clear hb
  have b0_0_1 := nb0
  have b0_1_1 := nb1
  have t0_1 := nt
  have u0 := nt
  clear nb0 nb1 nt
  by_cases hbig0 : (n0 : Int) + m0 ≤ 1048576
  case neg =>
    refine (szHeap_no A0 B0 n0 c0 m0 d0 (1048576) _ (by omega) (by omega) hnc0 hc0 hmd0 hd0 (by omega)).mono ?_
    rintro e v1 ⟨rfl, hb⟩
    have HV := hide (HB1.out.trans (hb.mono HB1.out.size))
    clear hb
    go_wp2
    go_ret
    exact ⟨rfl, HV.out⟩
  refine (szHeap_yes A0 B0 n0 c0 m0 d0 (1048576) _ (by omega) (by omega) hbig0).mono ?_
  rintro e w2 ⟨rfl, hb⟩
  have HB2 := hide (HB1.out.trans (hb.mono HB1.out.size))
  have hs2 : w1.heap.size ≤ w2.heap.size := hb.size
  have b0_0_2 : w2.cell? ⟨w.heap.size, 0, none⟩ = some (.slice A0 n0 c0) := by rw [hb.cell t0_1]; exact b0_0_1
  have b0_1_2 : w2.cell? ⟨w.heap.size, 1, none⟩ = some (.slice B0 m0 d0) := by rw [hb.cell t0_1]; exact b0_1_1
  have t0_2 : w.heap.size < w2.heap.size := Nat.lt_of_lt_of_le t0_1 hs2
  clear b0_0_1 b0_1_1 t0_1
  clear hb
  have hq0 : ¬ 1048576 - (n0 : Int) - (m0 : Int) < 0 := by omega
  go_wp2_with fail
  refine (toHeap_any A0 B0 n0 c0 m0 d0 z0 y0 _ Hn0.out (by omega) Hm0.out (by omega) ((Hr0.out.below HB2.out (Nat.le_refl _)).more HB2.out.size) ((Hs0.out.below HB2.out (Nat.le_refl _)).more HB2.out.size)).mono ?_
  rintro e w3 ⟨g_a, k_a, rfl, ho, ho', l1_a, l2_a, l3_a, hb⟩
  have HB3 := hide (HB2.out.trans (hb.mono HB2.out.size))
  have hs3 : w2.heap.size ≤ w3.heap.size := hb.size
  have b0_0_3 : w3.cell? ⟨w.heap.size, 0, none⟩ = some (.slice A0 n0 c0) := by rw [hb.cell t0_2]; exact b0_0_2
  have b0_1_3 : w3.cell? ⟨w.heap.size, 1, none⟩ = some (.slice B0 m0 d0) := by rw [hb.cell t0_2]; exact b0_1_2
  have t0_3 : w.heap.size < w3.heap.size := Nat.lt_of_lt_of_le t0_2 hs3
  clear b0_0_2 b0_1_2 t0_2
  clear hb
  have Oa_3 := hide ho
  have Pa_3 := hide ho'
  clear ho ho'
  have La : Hid (∀ g, g ∈ [g_a] ++ [k_a] → w2.heap.size ≤ g ∧ g < w3.heap.size) := hide (by simp <;> omega)
  go_wp2_with fail
  refine (specHeapOk_any _ _ _ _ _ _ z0 y0 _ Hn0.out Hm0.out (by omega) (by omega) (Nat.le_refl _) (by unfold maxLen; omega) (Oa_3.out.rd).2 (Pa_3.out.rd).2).mono ?_
  rintro e w4 ⟨rfl, hb⟩
  have HB4 := hide (HB3.out.trans (hb.mono HB3.out.size))
  have hs4 : w3.heap.size ≤ w4.heap.size := hb.size
  have b0_0_4 : w4.cell? ⟨w.heap.size, 0, none⟩ = some (.slice A0 n0 c0) := by rw [hb.cell t0_3]; exact b0_0_3
  have b0_1_4 : w4.cell? ⟨w.heap.size, 1, none⟩ = some (.slice B0 m0 d0) := by rw [hb.cell t0_3]; exact b0_1_3
  have t0_4 : w.heap.size < w4.heap.size := Nat.lt_of_lt_of_le t0_3 hs4
  clear b0_0_3 b0_1_3 t0_3
  have Oa_4 := hide (Oa_3.out.below hb)
  clear Oa_3
  have Pa_4 := hide (Pa_3.out.below hb)
  clear Pa_3
  clear hb
  clear Oa_4 Pa_4
  go_wp2_with fail
  refine (toHeap_any A0 B0 n0 c0 m0 d0 z0 y0 _ Hn0.out (by omega) Hm0.out (by omega) ((Hr0.out.below HB4.out (Nat.le_refl _)).more HB4.out.size) ((Hs0.out.below HB4.out (Nat.le_refl _)).more HB4.out.size)).mono ?_
  rintro e w5 ⟨g_x, k_x, rfl, ho, ho', l1_x, l2_x, l3_x, hb⟩
  have HB5 := hide (HB4.out.trans (hb.mono HB4.out.size))
  have hs5 : w4.heap.size ≤ w5.heap.size := hb.size
  have b0_0_5 : w5.cell? ⟨w.heap.size, 0, none⟩ = some (.slice A0 n0 c0) := by rw [hb.cell t0_4]; exact b0_0_4
  have b0_1_5 : w5.cell? ⟨w.heap.size, 1, none⟩ = some (.slice B0 m0 d0) := by rw [hb.cell t0_4]; exact b0_1_4
  have t0_5 : w.heap.size < w5.heap.size := Nat.lt_of_lt_of_le t0_4 hs5
  clear b0_0_4 b0_1_4 t0_4
  clear hb
  have Ox_5 := hide ho
  have Px_5 := hide ho'
  clear ho ho'
  have Lx : Hid (∀ g, g ∈ [g_x] ++ [k_x] → w4.heap.size ≤ g ∧ g < w5.heap.size) := hide (by simp <;> omega)
  go_wp2_with fail
  obtain ⟨w6, hW⟩ : ∃ W : World, W = w5.alloc (.cells #[(.slice (some ⟨g_x, 0, none⟩) n0 n0), (.slice (some ⟨k_x, 0, none⟩) m0 m0)] 27) := ⟨_, rfl⟩
  rw [← hW]
  have hb : Below w5.heap.size w5 w6 := by rw [hW]; exact (Below.refl _ _).alloc (Nat.le_refl _) _
  have nb0 : w6.cell? ⟨w5.heap.size, 0, none⟩ = some (.slice (some ⟨g_x, 0, none⟩) n0 n0) := by rw [hW]; go_simp
  have nb1 : w6.cell? ⟨w5.heap.size, 1, none⟩ = some (.slice (some ⟨k_x, 0, none⟩) m0 m0) := by rw [hW]; go_simp
  have nt : w5.heap.size < w6.heap.size := by rw [hW]; simp
  clear hW
  have HB6 := hide (HB5.out.trans (hb.mono HB5.out.size))
  have hs6 : w5.heap.size ≤ w6.heap.size := hb.size
  have b0_0_6 : w6.cell? ⟨w.heap.size, 0, none⟩ = some (.slice A0 n0 c0) := by rw [hb.cell t0_5]; exact b0_0_5
  have b0_1_6 : w6.cell? ⟨w.heap.size, 1, none⟩ = some (.slice B0 m0 d0) := by rw [hb.cell t0_5]; exact b0_1_5
  have t0_6 : w.heap.size < w6.heap.size := Nat.lt_of_lt_of_le t0_5 hs6
  clear b0_0_5 b0_1_5 t0_5
  have Ox_6 := hide (Ox_5.out.below hb)
  clear Ox_5
  have Px_6 := hide (Px_5.out.below hb)
  clear Px_5
  clear hb
  have bx_0_6 := nb0
  have bx_1_6 := nb1
  have tx_6 := nt
  have ux := nt
  clear nb0 nb1 nt
  refine (implHeapOk_any _ _ _ _ _ _ z0 y0 _ Hn0.out Hm0.out (by omega) (by omega) (Nat.le_refl _) (by unfold maxLen; omega) (Ox_6.out.rd).2 (Px_6.out.rd).2).mono ?_
  rintro e w7 ⟨rfl, hb⟩
  have HB7 := hide (HB6.out.trans (hb.mono HB6.out.size))
  have hs7 : w6.heap.size ≤ w7.heap.size := hb.size
  have b0_0_7 : w7.cell? ⟨w.heap.size, 0, none⟩ = some (.slice A0 n0 c0) := by rw [hb.cell t0_6]; exact b0_0_6
  have b0_1_7 : w7.cell? ⟨w.heap.size, 1, none⟩ = some (.slice B0 m0 d0) := by rw [hb.cell t0_6]; exact b0_1_6
  have t0_7 : w.heap.size < w7.heap.size := Nat.lt_of_lt_of_le t0_6 hs7
  clear b0_0_6 b0_1_6 t0_6
  have bx_0_7 : w7.cell? ⟨w5.heap.size, 0, none⟩ = some (.slice (some ⟨g_x, 0, none⟩) n0 n0) := by rw [hb.cell tx_6]; exact bx_0_6
  have bx_1_7 : w7.cell? ⟨w5.heap.size, 1, none⟩ = some (.slice (some ⟨k_x, 0, none⟩) m0 m0) := by rw [hb.cell tx_6]; exact bx_1_6
  have tx_7 : w5.heap.size < w7.heap.size := Nat.lt_of_lt_of_le tx_6 hs7
  clear bx_0_6 bx_1_6 tx_6
  have Ox_7 := hide (Ox_6.out.below hb)
  clear Ox_6
  have Px_7 := hide (Px_6.out.below hb)
  clear Px_6
  clear hb
  go_wp2_with fail
  go_region_held3 (fun w' => (w'.cell? ⟨w5.heap.size, 0, none⟩ = some (.slice (some ⟨g_x, 0, none⟩) n0 n0) ∧ w'.cell? ⟨w5.heap.size, 1, none⟩ = some (.slice (some ⟨k_x, 0, none⟩) m0 m0) ∧ w'.cell? ⟨w.heap.size, 0, none⟩ = some (.slice A0 n0 c0) ∧ w'.cell? ⟨w.heap.size, 1, none⟩ = some (.slice B0 m0 d0)) ∧ Below w7.heap.size w7 w')
    (first | (exact keep22 tx_7 tx_7 t0_7 t0_7 (by assumption) (by assumption)) | (exact ⟨⟨bx_0_7, bx_1_7, b0_0_7, b0_1_7⟩, (Below.refl _ _).drew⟩))
    (first
      | (go_at_call 14; refine (toHeap_any A0 B0 n0 c0 m0 d0 z0 y0 _ Hn0.out (by omega) Hm0.out (by omega) (rdS Hr0.out HB7.out (by assumption)) (rdS Hs0.out HB7.out (by assumption))).mono ?_; rintro e w' ⟨g, g', rfl, ho, ho', _, _, _, hb⟩)
      | (go_at_call 16; refine (eqHeap_same _ _ _ _ _ _ _ _ _ _ z0 y0 _ _ Hn0.out (by omega) Hm0.out (by omega) (Nat.le_refl _) (ownS Ox_7.out (by assumption)) (ownR (by assumption)) (ownS Px_7.out (by assumption)) (ownR (by assumption))).mono ?_; rintro e w' ⟨rfl, hb⟩))
  have hS := ‹(_ ∧ _) ∧ Below w7.heap.size w7 _›
  obtain ⟨w8, rfl, -, hb⟩ := named (C := fun W => (W.cell? ⟨w5.heap.size, 0, none⟩ = some (.slice (some ⟨g_x, 0, none⟩) n0 n0) ∧ W.cell? ⟨w5.heap.size, 1, none⟩ = some (.slice (some ⟨k_x, 0, none⟩) m0 m0) ∧ W.cell? ⟨w.heap.size, 0, none⟩ = some (.slice A0 n0 c0) ∧ W.cell? ⟨w.heap.size, 1, none⟩ = some (.slice B0 m0 d0))) hS
  clear hS
  have HB8 := hide (HB7.out.trans (hb.mono HB7.out.size))
  have hs8 : w7.heap.size ≤ w8.heap.size := hb.size
  have b0_0_8 : w8.cell? ⟨w.heap.size, 0, none⟩ = some (.slice A0 n0 c0) := by rw [hb.cell t0_7]; exact b0_0_7
  have b0_1_8 : w8.cell? ⟨w.heap.size, 1, none⟩ = some (.slice B0 m0 d0) := by rw [hb.cell t0_7]; exact b0_1_7
  have t0_8 : w.heap.size < w8.heap.size := Nat.lt_of_lt_of_le t0_7 hs8
  clear b0_0_7 b0_1_7 t0_7
  have bx_0_8 : w8.cell? ⟨w5.heap.size, 0, none⟩ = some (.slice (some ⟨g_x, 0, none⟩) n0 n0) := by rw [hb.cell tx_7]; exact bx_0_7
  have bx_1_8 : w8.cell? ⟨w5.heap.size, 1, none⟩ = some (.slice (some ⟨k_x, 0, none⟩) m0 m0) := by rw [hb.cell tx_7]; exact bx_1_7
  have tx_8 : w5.heap.size < w8.heap.size := Nat.lt_of_lt_of_le tx_7 hs8
  clear bx_0_7 bx_1_7 tx_7
  have Ox_8 := hide (Ox_7.out.below hb)
  clear Ox_7
  have Px_8 := hide (Px_7.out.below hb)
  clear Px_7
  clear hb
  go_wp2
  go_ret
  exact ⟨rfl, HB8.out⟩
end Go.Proofs.Ytjjfblejccfplaa
