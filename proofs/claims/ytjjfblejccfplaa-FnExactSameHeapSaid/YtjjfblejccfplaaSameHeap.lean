/-
  SameHeap: both lists of two heaps compared. The contracts and the walk of FnExactSameHeap.
-/
import Derived.Test.YtjjfblejccfplaaHeap
import Derived.Test.YtjjfblejccfplaaSame
namespace Go.Proofs.Ytjjfblejccfplaa
open Go.RowKit
set_option linter.unusedVariables false

set_option maxRecDepth 100000 in
set_option maxHeartbeats 1600000 in
theorem specSameHeap_any (A B A' B' : Option Addr) (n c m d n' c' m' d' : Nat) (x x' y y' : List Int) (w : World) (hn : n = x.length) (hn' : n' = x'.length) (hm : m = y.length) (hm' : m' = y'.length) (hz : n ≤ 2097152) (hz' : n' ≤ 2097152) (hy : m ≤ 2097152) (hy' : m' ≤ 2097152)
    (ha : RdB .i64 w A x w.heap.size) (ha' : RdB .i64 w A' x' w.heap.size) (hb : RdB .i64 w B y w.heap.size) (hb' : RdB .i64 w B' y' w.heap.size) :
    Calls Try.prog 17 #[.agg #[.slice A n c, .slice A' n' c'], .agg #[.slice B m d, .slice B' m' d']] w fun e w' => e = .returned (.bool (decide (x = y) && decide (x' = y'))) ∧ Below w.heap.size w w' := by
  have HN := hide hn
  have HN' := hide hn'
  have HM := hide hm
  have HM' := hide hm'
  have HA := hide ha
  have HA' := hide ha'
  have HB := hide hb
  have HB' := hide hb'
  clear hn hn' hm hm' ha ha' hb hb'
  go_enter Try.func17, Try.ntmps17
  go_wp2_with fail
  have hb0 : Below w.heap.size w ((w.alloc (.cells #[.slice A n c, .slice A' n' c'] 27)).alloc (.cells #[.slice B m d, .slice B' m' d'] 27)) := ((Below.refl _ _).alloc (Nat.le_refl _) _).alloc (by simp) _
  refine (specSame_any _ _ _ _ _ _ x y w.heap.size _ HN.out HM.out hz hy (HA.out.below hb0 (Nat.le_refl _)) (HB.out.below hb0 (Nat.le_refl _))).mono ?_
  rintro e w1 ⟨rfl, hb1⟩
  have k1 : w1.cell? ⟨w.heap.size, 1, none⟩ = some (.slice A' n' c') := by rw [hb1.cell (by simp <;> omega)]; go_simp
  have k2 : w1.cell? ⟨w.heap.size + 1, 1, none⟩ = some (.slice B' m' d') := by rw [hb1.cell (by simp <;> omega)]; go_simp
  have HB1 := hide (hb0.trans (hb1.mono hb0.size))
  clear hb0 hb1
  by_cases hxy : x = y
  · rw [decide_eq_true hxy]
    have HXY := hide hxy
    clear hxy
    go_wp2_with fail
    refine (specSame_any _ _ _ _ _ _ x' y' w.heap.size _ HN'.out HM'.out hz' hy' (HA'.out.below HB1.out (Nat.le_refl _)) (HB'.out.below HB1.out (Nat.le_refl _))).mono ?_
    rintro e w2 ⟨rfl, hb2⟩
    have HB2 := hide (HB1.out.trans (hb2.mono HB1.out.size))
    clear hb2
    go_wp2
    go_ret
    exact ⟨retB (by simp [HXY.out]), HB2.out⟩
  · rw [decide_eq_false hxy]
    have HXY := hide hxy
    clear hxy
    go_wp2
    go_ret
    exact ⟨retB (by simp [HXY.out]), HB1.out⟩

set_option maxRecDepth 100000 in
set_option maxHeartbeats 1600000 in
theorem implSameHeap_any (A B A' B' : Option Addr) (n c m d n' c' m' d' : Nat) (x x' y y' : List Int) (w : World) (hn : n = x.length) (hn' : n' = x'.length) (hm : m = y.length) (hm' : m' = y'.length) (hz : n ≤ 2097152) (hz' : n' ≤ 2097152) (hy : m ≤ 2097152) (hy' : m' ≤ 2097152)
    (ha : RdB .i64 w A x w.heap.size) (ha' : RdB .i64 w A' x' w.heap.size) (hb : RdB .i64 w B y w.heap.size) (hb' : RdB .i64 w B' y' w.heap.size) :
    Calls Try.prog 18 #[.agg #[.slice A n c, .slice A' n' c'], .agg #[.slice B m d, .slice B' m' d']] w fun e w' => e = .returned (.bool (decide (x = y) && decide (x' = y'))) ∧ Below w.heap.size w w' := by
  have HN := hide hn
  have HN' := hide hn'
  have HM := hide hm
  have HM' := hide hm'
  have HA := hide ha
  have HA' := hide ha'
  have HB := hide hb
  have HB' := hide hb'
  clear hn hn' hm hm' ha ha' hb hb'
  go_enter Try.func18, Try.ntmps18
  go_wp2_with fail
  have hb0 : Below w.heap.size w ((w.alloc (.cells #[.slice A n c, .slice A' n' c'] 27)).alloc (.cells #[.slice B m d, .slice B' m' d'] 27)) := ((Below.refl _ _).alloc (Nat.le_refl _) _).alloc (by simp) _
  refine (slicesEqual_any _ _ _ _ _ _ x y w.heap.size _ HN.out HM.out hz hy (HA.out.below hb0 (Nat.le_refl _)) (HB.out.below hb0 (Nat.le_refl _))).mono ?_
  rintro e w1 ⟨rfl, hb1⟩
  have k1 : w1.cell? ⟨w.heap.size, 1, none⟩ = some (.slice A' n' c') := by rw [hb1.cell (by simp <;> omega)]; go_simp
  have k2 : w1.cell? ⟨w.heap.size + 1, 1, none⟩ = some (.slice B' m' d') := by rw [hb1.cell (by simp <;> omega)]; go_simp
  have HB1 := hide (hb0.trans (hb1.mono hb0.size))
  clear hb0 hb1
  by_cases hxy : x = y
  · rw [decide_eq_true hxy]
    have HXY := hide hxy
    clear hxy
    go_wp2_with fail
    refine (slicesEqual_any _ _ _ _ _ _ x' y' w.heap.size _ HN'.out HM'.out hz' hy' (HA'.out.below HB1.out (Nat.le_refl _)) (HB'.out.below HB1.out (Nat.le_refl _))).mono ?_
    rintro e w2 ⟨rfl, hb2⟩
    have HB2 := hide (HB1.out.trans (hb2.mono HB1.out.size))
    clear hb2
    go_wp2
    go_ret
    exact ⟨retB (by simp [HXY.out]), HB2.out⟩
  · rw [decide_eq_false hxy]
    have HXY := hide hxy
    clear hxy
    go_wp2
    go_ret
    exact ⟨retB (by simp [HXY.out]), HB1.out⟩

set_option maxRecDepth 100000 in
set_option maxHeartbeats 3200000 in
theorem fnExactSameHeap_walk (v0_0 v0_1 : Value) (v1_0 v1_1 : Value) (w : World) (h0 : HeapArg w v0_0 v0_1) (h1 : HeapArg w v1_0 v1_1) :
    Calls Try.prog 4 #[.agg #[v0_0, v0_1], .agg #[v1_0, v1_1]] w fun e w' => e = .returned (.bool true) ∧ Below w.heap.size w w' := by
  obtain ⟨A0, n0, c0, z0, B0, m0, d0, y0, rfl, rfl, ⟨hn0, hnc0, hc0, hr0, hx0⟩, ⟨hm0, hmd0, hd0, hs0, hy0⟩⟩ := h0
  have Hn0 := hide hn0
  clear hn0
  have Hm0 := hide hm0
  clear hm0
  have Hr0 := hide hr0
  clear hr0
  have Hs0 := hide hs0
  clear hs0
  have Hx0 := hide hx0
  clear hx0
  have Hy0 := hide hy0
  clear hy0
  obtain ⟨A1, n1, c1, z1, B1, m1, d1, y1, rfl, rfl, ⟨hn1, hnc1, hc1, hr1, hx1⟩, ⟨hm1, hmd1, hd1, hs1, hy1⟩⟩ := h1
  have Hn1 := hide hn1
  clear hn1
  have Hm1 := hide hm1
  clear hm1
  have Hr1 := hide hr1
  clear hr1
  have Hs1 := hide hs1
  clear hs1
  have Hx1 := hide hx1
  clear hx1
  have Hy1 := hide hy1
  clear hy1
  have HB0 := hide (Below.refl w.heap.size w)
  go_enter Try.func4, Try.ntmps4
  go_wp2_with fail
  obtain ⟨w1, hW⟩ : ∃ W : World, W = ((w.alloc (.cells #[(.slice A0 n0 c0), (.slice B0 m0 d0)] 24)).alloc (.cells #[(.slice A1 n1 c1), (.slice B1 m1 d1)] 24)) := ⟨_, rfl⟩
  rw [← hW]
  have hb : Below w.heap.size w w1 := by rw [hW]; exact (((Below.refl _ _).alloc (by simp <;> omega) _).alloc (by simp <;> omega) _)
  have b0_0_1 : w1.cell? ⟨w.heap.size, 0, none⟩ = some (.slice A0 n0 c0) := by rw [hW]; go_simp
  have b0_1_1 : w1.cell? ⟨w.heap.size, 1, none⟩ = some (.slice B0 m0 d0) := by rw [hW]; go_simp
  have t0_1 : w.heap.size < w1.heap.size := by rw [hW]; simp <;> omega
  have b1_0_1 : w1.cell? ⟨w.heap.size + 1, 0, none⟩ = some (.slice A1 n1 c1) := by rw [hW]; go_simp
  have b1_1_1 : w1.cell? ⟨w.heap.size + 1, 1, none⟩ = some (.slice B1 m1 d1) := by rw [hW]; go_simp
  have t1_1 : w.heap.size + 1 < w1.heap.size := by rw [hW]; simp <;> omega
  clear hW
  have HB1 := hide (HB0.out.trans (hb.mono HB0.out.size))
  have hs1 : w.heap.size ≤ w1.heap.size := hb.size
  clear hb
  by_cases hbig0 : (n0 : Int) + m0 ≤ 1048576
  case neg =>
    refine (szHeap_no A0 B0 n0 c0 m0 d0 (1048576) _ (by omega) (by omega) hnc0 hc0 hmd0 hd0 (by omega)).mono ?_
    rintro e v1 ⟨rfl, hb⟩
    have HV := hide (HB1.out.trans (hb.mono HB1.out.size))
    clear hb
    go_wp2
    go_ret
    exact ⟨rfl, HV.out⟩
  refine (szHeap_yes A0 B0 n0 c0 m0 d0 (1048576) _ (by omega) (by omega) hbig0).mono ?_
  rintro e w2 ⟨rfl, hb⟩
  have HB2 := hide (HB1.out.trans (hb.mono HB1.out.size))
  have hs2 : w1.heap.size ≤ w2.heap.size := hb.size
  have b0_0_2 : w2.cell? ⟨w.heap.size, 0, none⟩ = some (.slice A0 n0 c0) := by rw [hb.cell t0_1]; exact b0_0_1
  have b0_1_2 : w2.cell? ⟨w.heap.size, 1, none⟩ = some (.slice B0 m0 d0) := by rw [hb.cell t0_1]; exact b0_1_1
  have t0_2 : w.heap.size < w2.heap.size := Nat.lt_of_lt_of_le t0_1 hs2
  clear b0_0_1 b0_1_1 t0_1
  have b1_0_2 : w2.cell? ⟨(w.heap.size + 1), 0, none⟩ = some (.slice A1 n1 c1) := by rw [hb.cell t1_1]; exact b1_0_1
  have b1_1_2 : w2.cell? ⟨(w.heap.size + 1), 1, none⟩ = some (.slice B1 m1 d1) := by rw [hb.cell t1_1]; exact b1_1_1
  have t1_2 : (w.heap.size + 1) < w2.heap.size := Nat.lt_of_lt_of_le t1_1 hs2
  clear b1_0_1 b1_1_1 t1_1
  clear hb
  have hq0 : ¬ 1048576 - (n0 : Int) - (m0 : Int) < 0 := by omega
  go_wp2_with fail
  by_cases hbig1 : (n1 : Int) + m1 ≤ 1048576 - (n0 : Int) - (m0 : Int)
  case neg =>
    refine (szHeap_no A1 B1 n1 c1 m1 d1 (1048576 - (n0 : Int) - (m0 : Int)) _ (by omega) (by omega) hnc1 hc1 hmd1 hd1 (by omega)).mono ?_
    rintro e v1 ⟨rfl, hb⟩
    have HV := hide (HB2.out.trans (hb.mono HB2.out.size))
    clear hb
    go_wp2
    go_ret
    exact ⟨rfl, HV.out⟩
  refine (szHeap_yes A1 B1 n1 c1 m1 d1 (1048576 - (n0 : Int) - (m0 : Int)) _ (by omega) (by omega) hbig1).mono ?_
  rintro e w3 ⟨rfl, hb⟩
  have HB3 := hide (HB2.out.trans (hb.mono HB2.out.size))
  have hs3 : w2.heap.size ≤ w3.heap.size := hb.size
  have b0_0_3 : w3.cell? ⟨w.heap.size, 0, none⟩ = some (.slice A0 n0 c0) := by rw [hb.cell t0_2]; exact b0_0_2
  have b0_1_3 : w3.cell? ⟨w.heap.size, 1, none⟩ = some (.slice B0 m0 d0) := by rw [hb.cell t0_2]; exact b0_1_2
  have t0_3 : w.heap.size < w3.heap.size := Nat.lt_of_lt_of_le t0_2 hs3
  clear b0_0_2 b0_1_2 t0_2
  have b1_0_3 : w3.cell? ⟨(w.heap.size + 1), 0, none⟩ = some (.slice A1 n1 c1) := by rw [hb.cell t1_2]; exact b1_0_2
  have b1_1_3 : w3.cell? ⟨(w.heap.size + 1), 1, none⟩ = some (.slice B1 m1 d1) := by rw [hb.cell t1_2]; exact b1_1_2
  have t1_3 : (w.heap.size + 1) < w3.heap.size := Nat.lt_of_lt_of_le t1_2 hs3
  clear b1_0_2 b1_1_2 t1_2
  clear hb
  have hq1 : ¬ 1048576 - (n0 : Int) - (m0 : Int) - (n1 : Int) - (m1 : Int) < 0 := by omega
  go_wp2_with fail
  go_region_held3 (fun w' => (w'.cell? ⟨w.heap.size, 0, none⟩ = some (.slice A0 n0 c0) ∧ w'.cell? ⟨w.heap.size, 1, none⟩ = some (.slice B0 m0 d0) ∧ w'.cell? ⟨(w.heap.size + 1), 0, none⟩ = some (.slice A1 n1 c1) ∧ w'.cell? ⟨(w.heap.size + 1), 1, none⟩ = some (.slice B1 m1 d1)) ∧ Below w3.heap.size w3 w')
    (first | (exact keep22 t0_3 t0_3 t1_3 t1_3 (by assumption) (by assumption)) | (exact ⟨⟨b0_0_3, b0_1_3, b1_0_3, b1_1_3⟩, (Below.refl _ _).drew⟩))
    (first
      | (go_at_call 14; refine (toHeap_any _ _ _ _ _ _ _ _ _ (by first | exact Hn0.out | exact Hn1.out) (by omega) (by first | exact Hm0.out | exact Hm1.out) (by omega) (by first | exact rdS Hr0.out HB3.out (by assumption) | exact rdS Hr1.out HB3.out (by assumption)) (by first | exact rdS Hs0.out HB3.out (by assumption) | exact rdS Hs1.out HB3.out (by assumption))).mono ?_; rintro e w_p ⟨g, g', rfl, hop, hop', _, _, _, hb⟩)
      | (go_at_call 17; refine (specSameHeap_any _ _ _ _ _ _ _ _ _ _ _ _ z0 y0 z1 y1 _ Hn0.out Hm0.out Hn1.out Hm1.out (by omega) (by omega) (by omega) (by omega) (ownR (by first | assumption | (exact Own.below (by assumption) (by assumption)))) (ownR (by first | assumption | (exact Own.below (by assumption) (by assumption)))) (ownR (by first | assumption | (exact Own.below (by assumption) (by assumption)))) (ownR (by first | assumption | (exact Own.below (by assumption) (by assumption))))).mono ?_; rintro e w_r ⟨rfl, hb⟩))
  have hS := ‹(_ ∧ _) ∧ Below w3.heap.size w3 _›
  obtain ⟨w4, rfl, -, hb⟩ := named (C := fun W => (W.cell? ⟨w.heap.size, 0, none⟩ = some (.slice A0 n0 c0) ∧ W.cell? ⟨w.heap.size, 1, none⟩ = some (.slice B0 m0 d0) ∧ W.cell? ⟨(w.heap.size + 1), 0, none⟩ = some (.slice A1 n1 c1) ∧ W.cell? ⟨(w.heap.size + 1), 1, none⟩ = some (.slice B1 m1 d1))) hS
  clear hS
  have HB4 := hide (HB3.out.trans (hb.mono HB3.out.size))
  have hs4 : w3.heap.size ≤ w4.heap.size := hb.size
  have b0_0_4 : w4.cell? ⟨w.heap.size, 0, none⟩ = some (.slice A0 n0 c0) := by rw [hb.cell t0_3]; exact b0_0_3
  have b0_1_4 : w4.cell? ⟨w.heap.size, 1, none⟩ = some (.slice B0 m0 d0) := by rw [hb.cell t0_3]; exact b0_1_3
  have t0_4 : w.heap.size < w4.heap.size := Nat.lt_of_lt_of_le t0_3 hs4
  clear b0_0_3 b0_1_3 t0_3
  have b1_0_4 : w4.cell? ⟨(w.heap.size + 1), 0, none⟩ = some (.slice A1 n1 c1) := by rw [hb.cell t1_3]; exact b1_0_3
  have b1_1_4 : w4.cell? ⟨(w.heap.size + 1), 1, none⟩ = some (.slice B1 m1 d1) := by rw [hb.cell t1_3]; exact b1_1_3
  have t1_4 : (w.heap.size + 1) < w4.heap.size := Nat.lt_of_lt_of_le t1_3 hs4
  clear b1_0_3 b1_1_3 t1_3
  clear hb
  go_wp2_with fail
  refine (toHeap_any A0 B0 n0 c0 m0 d0 z0 y0 _ Hn0.out (by omega) Hm0.out (by omega) ((Hr0.out.below HB4.out (Nat.le_refl _)).more HB4.out.size) ((Hs0.out.below HB4.out (Nat.le_refl _)).more HB4.out.size)).mono ?_
  rintro e w5 ⟨g_x, k_x, rfl, ho, ho', l1_x, l2_x, l3_x, hb⟩
  have HB5 := hide (HB4.out.trans (hb.mono HB4.out.size))
  have hs5 : w4.heap.size ≤ w5.heap.size := hb.size
  have b0_0_5 : w5.cell? ⟨w.heap.size, 0, none⟩ = some (.slice A0 n0 c0) := by rw [hb.cell t0_4]; exact b0_0_4
  have b0_1_5 : w5.cell? ⟨w.heap.size, 1, none⟩ = some (.slice B0 m0 d0) := by rw [hb.cell t0_4]; exact b0_1_4
  have t0_5 : w.heap.size < w5.heap.size := Nat.lt_of_lt_of_le t0_4 hs5
  clear b0_0_4 b0_1_4 t0_4
  have b1_0_5 : w5.cell? ⟨(w.heap.size + 1), 0, none⟩ = some (.slice A1 n1 c1) := by rw [hb.cell t1_4]; exact b1_0_4
  have b1_1_5 : w5.cell? ⟨(w.heap.size + 1), 1, none⟩ = some (.slice B1 m1 d1) := by rw [hb.cell t1_4]; exact b1_1_4
  have t1_5 : (w.heap.size + 1) < w5.heap.size := Nat.lt_of_lt_of_le t1_4 hs5
  clear b1_0_4 b1_1_4 t1_4
  clear hb
  have Ox_5 := hide ho
  have Px_5 := hide ho'
  clear ho ho'
  have Lx : Hid (∀ g, g ∈ [g_x] ++ [k_x] → w4.heap.size ≤ g ∧ g < w5.heap.size) := hide (by simp <;> omega)
  go_wp2_with fail
  obtain ⟨w6, hW⟩ : ∃ W : World, W = w5.alloc (.cells #[(.slice (some ⟨g_x, 0, none⟩) n0 n0), (.slice (some ⟨k_x, 0, none⟩) m0 m0)] 27) := ⟨_, rfl⟩
  rw [← hW]
  have hb : Below w5.heap.size w5 w6 := by rw [hW]; exact (Below.refl _ _).alloc (Nat.le_refl _) _
  have nb0 : w6.cell? ⟨w5.heap.size, 0, none⟩ = some (.slice (some ⟨g_x, 0, none⟩) n0 n0) := by rw [hW]; go_simp
  have nb1 : w6.cell? ⟨w5.heap.size, 1, none⟩ = some (.slice (some ⟨k_x, 0, none⟩) m0 m0) := by rw [hW]; go_simp
  have nt : w5.heap.size < w6.heap.size := by rw [hW]; simp
  clear hW
  have HB6 := hide (HB5.out.trans (hb.mono HB5.out.size))
  have hs6 : w5.heap.size ≤ w6.heap.size := hb.size
  have b0_0_6 : w6.cell? ⟨w.heap.size, 0, none⟩ = some (.slice A0 n0 c0) := by rw [hb.cell t0_5]; exact b0_0_5
  have b0_1_6 : w6.cell? ⟨w.heap.size, 1, none⟩ = some (.slice B0 m0 d0) := by rw [hb.cell t0_5]; exact b0_1_5
  have t0_6 : w.heap.size < w6.heap.size := Nat.lt_of_lt_of_le t0_5 hs6
  clear b0_0_5 b0_1_5 t0_5
  have b1_0_6 : w6.cell? ⟨(w.heap.size + 1), 0, none⟩ = some (.slice A1 n1 c1) := by rw [hb.cell t1_5]; exact b1_0_5
  have b1_1_6 : w6.cell? ⟨(w.heap.size + 1), 1, none⟩ = some (.slice B1 m1 d1) := by rw [hb.cell t1_5]; exact b1_1_5
  have t1_6 : (w.heap.size + 1) < w6.heap.size := Nat.lt_of_lt_of_le t1_5 hs6
  clear b1_0_5 b1_1_5 t1_5
  have Ox_6 := hide (Ox_5.out.below hb)
  clear Ox_5
  have Px_6 := hide (Px_5.out.below hb)
  clear Px_5
  clear hb
  have bx_0_6 := nb0
  have bx_1_6 := nb1
  have tx_6 := nt
  clear nb0 nb1 nt
  refine (toHeap_any A1 B1 n1 c1 m1 d1 z1 y1 _ Hn1.out (by omega) Hm1.out (by omega) ((Hr1.out.below HB6.out (Nat.le_refl _)).more HB6.out.size) ((Hs1.out.below HB6.out (Nat.le_refl _)).more HB6.out.size)).mono ?_
  rintro e w7 ⟨g_y, k_y, rfl, ho, ho', l1_y, l2_y, l3_y, hb⟩
  have HB7 := hide (HB6.out.trans (hb.mono HB6.out.size))
  have hs7 : w6.heap.size ≤ w7.heap.size := hb.size
  have b0_0_7 : w7.cell? ⟨w.heap.size, 0, none⟩ = some (.slice A0 n0 c0) := by rw [hb.cell t0_6]; exact b0_0_6
  have b0_1_7 : w7.cell? ⟨w.heap.size, 1, none⟩ = some (.slice B0 m0 d0) := by rw [hb.cell t0_6]; exact b0_1_6
  have t0_7 : w.heap.size < w7.heap.size := Nat.lt_of_lt_of_le t0_6 hs7
  clear b0_0_6 b0_1_6 t0_6
  have b1_0_7 : w7.cell? ⟨(w.heap.size + 1), 0, none⟩ = some (.slice A1 n1 c1) := by rw [hb.cell t1_6]; exact b1_0_6
  have b1_1_7 : w7.cell? ⟨(w.heap.size + 1), 1, none⟩ = some (.slice B1 m1 d1) := by rw [hb.cell t1_6]; exact b1_1_6
  have t1_7 : (w.heap.size + 1) < w7.heap.size := Nat.lt_of_lt_of_le t1_6 hs7
  clear b1_0_6 b1_1_6 t1_6
  have bx_0_7 : w7.cell? ⟨w5.heap.size, 0, none⟩ = some (.slice (some ⟨g_x, 0, none⟩) n0 n0) := by rw [hb.cell tx_6]; exact bx_0_6
  have bx_1_7 : w7.cell? ⟨w5.heap.size, 1, none⟩ = some (.slice (some ⟨k_x, 0, none⟩) m0 m0) := by rw [hb.cell tx_6]; exact bx_1_6
  have tx_7 : w5.heap.size < w7.heap.size := Nat.lt_of_lt_of_le tx_6 hs7
  clear bx_0_6 bx_1_6 tx_6
  have Ox_7 := hide (Ox_6.out.below hb)
  clear Ox_6
  have Px_7 := hide (Px_6.out.below hb)
  clear Px_6
  clear hb
  have Oy_7 := hide ho
  have Py_7 := hide ho'
  clear ho ho'
  have Ly : Hid (∀ g, g ∈ [g_y] ++ [k_y] → w6.heap.size ≤ g ∧ g < w7.heap.size) := hide (by simp <;> omega)
  go_wp2_with fail
  obtain ⟨w8, hW⟩ : ∃ W : World, W = w7.alloc (.cells #[(.slice (some ⟨g_y, 0, none⟩) n1 n1), (.slice (some ⟨k_y, 0, none⟩) m1 m1)] 27) := ⟨_, rfl⟩
  rw [← hW]
  have hb : Below w7.heap.size w7 w8 := by rw [hW]; exact (Below.refl _ _).alloc (Nat.le_refl _) _
  have nb0 : w8.cell? ⟨w7.heap.size, 0, none⟩ = some (.slice (some ⟨g_y, 0, none⟩) n1 n1) := by rw [hW]; go_simp
  have nb1 : w8.cell? ⟨w7.heap.size, 1, none⟩ = some (.slice (some ⟨k_y, 0, none⟩) m1 m1) := by rw [hW]; go_simp
  have nt : w7.heap.size < w8.heap.size := by rw [hW]; simp
  clear hW
  have HB8 := hide (HB7.out.trans (hb.mono HB7.out.size))
  have hs8 : w7.heap.size ≤ w8.heap.size := hb.size
  have b0_0_8 : w8.cell? ⟨w.heap.size, 0, none⟩ = some (.slice A0 n0 c0) := by rw [hb.cell t0_7]; exact b0_0_7
  have b0_1_8 : w8.cell? ⟨w.heap.size, 1, none⟩ = some (.slice B0 m0 d0) := by rw [hb.cell t0_7]; exact b0_1_7
  have t0_8 : w.heap.size < w8.heap.size := Nat.lt_of_lt_of_le t0_7 hs8
  clear b0_0_7 b0_1_7 t0_7
  have b1_0_8 : w8.cell? ⟨(w.heap.size + 1), 0, none⟩ = some (.slice A1 n1 c1) := by rw [hb.cell t1_7]; exact b1_0_7
  have b1_1_8 : w8.cell? ⟨(w.heap.size + 1), 1, none⟩ = some (.slice B1 m1 d1) := by rw [hb.cell t1_7]; exact b1_1_7
  have t1_8 : (w.heap.size + 1) < w8.heap.size := Nat.lt_of_lt_of_le t1_7 hs8
  clear b1_0_7 b1_1_7 t1_7
  have bx_0_8 : w8.cell? ⟨w5.heap.size, 0, none⟩ = some (.slice (some ⟨g_x, 0, none⟩) n0 n0) := by rw [hb.cell tx_7]; exact bx_0_7
  have bx_1_8 : w8.cell? ⟨w5.heap.size, 1, none⟩ = some (.slice (some ⟨k_x, 0, none⟩) m0 m0) := by rw [hb.cell tx_7]; exact bx_1_7
  have tx_8 : w5.heap.size < w8.heap.size := Nat.lt_of_lt_of_le tx_7 hs8
  clear bx_0_7 bx_1_7 tx_7
  have Ox_8 := hide (Ox_7.out.below hb)
  clear Ox_7
  have Px_8 := hide (Px_7.out.below hb)
  clear Px_7
  have Oy_8 := hide (Oy_7.out.below hb)
  clear Oy_7
  have Py_8 := hide (Py_7.out.below hb)
  clear Py_7
  clear hb
  have by_0_8 := nb0
  have by_1_8 := nb1
  have ty_8 := nt
  clear nb0 nb1 nt
  refine (implSameHeap_any _ _ _ _ _ _ _ _ _ _ _ _ z0 y0 z1 y1 _ Hn0.out Hm0.out Hn1.out Hm1.out (by omega) (by omega) (by omega) (by omega) (Ox_8.out.rd).2 (Px_8.out.rd).2 (Oy_8.out.rd).2 (Py_8.out.rd).2).mono ?_
  rintro e w9 ⟨rfl, hb⟩
  have HB9 := hide (HB8.out.trans (hb.mono HB8.out.size))
  have hs9 : w8.heap.size ≤ w9.heap.size := hb.size
  have b0_0_9 : w9.cell? ⟨w.heap.size, 0, none⟩ = some (.slice A0 n0 c0) := by rw [hb.cell t0_8]; exact b0_0_8
  have b0_1_9 : w9.cell? ⟨w.heap.size, 1, none⟩ = some (.slice B0 m0 d0) := by rw [hb.cell t0_8]; exact b0_1_8
  have t0_9 : w.heap.size < w9.heap.size := Nat.lt_of_lt_of_le t0_8 hs9
  clear b0_0_8 b0_1_8 t0_8
  have b1_0_9 : w9.cell? ⟨(w.heap.size + 1), 0, none⟩ = some (.slice A1 n1 c1) := by rw [hb.cell t1_8]; exact b1_0_8
  have b1_1_9 : w9.cell? ⟨(w.heap.size + 1), 1, none⟩ = some (.slice B1 m1 d1) := by rw [hb.cell t1_8]; exact b1_1_8
  have t1_9 : (w.heap.size + 1) < w9.heap.size := Nat.lt_of_lt_of_le t1_8 hs9
  clear b1_0_8 b1_1_8 t1_8
  have bx_0_9 : w9.cell? ⟨w5.heap.size, 0, none⟩ = some (.slice (some ⟨g_x, 0, none⟩) n0 n0) := by rw [hb.cell tx_8]; exact bx_0_8
  have bx_1_9 : w9.cell? ⟨w5.heap.size, 1, none⟩ = some (.slice (some ⟨k_x, 0, none⟩) m0 m0) := by rw [hb.cell tx_8]; exact bx_1_8
  have tx_9 : w5.heap.size < w9.heap.size := Nat.lt_of_lt_of_le tx_8 hs9
  clear bx_0_8 bx_1_8 tx_8
  have by_0_9 : w9.cell? ⟨w7.heap.size, 0, none⟩ = some (.slice (some ⟨g_y, 0, none⟩) n1 n1) := by rw [hb.cell ty_8]; exact by_0_8
  have by_1_9 : w9.cell? ⟨w7.heap.size, 1, none⟩ = some (.slice (some ⟨k_y, 0, none⟩) m1 m1) := by rw [hb.cell ty_8]; exact by_1_8
  have ty_9 : w7.heap.size < w9.heap.size := Nat.lt_of_lt_of_le ty_8 hs9
  clear by_0_8 by_1_8 ty_8
  have Ox_9 := hide (Ox_8.out.below hb)
  clear Ox_8
  have Px_9 := hide (Px_8.out.below hb)
  clear Px_8
  have Oy_9 := hide (Oy_8.out.below hb)
  clear Oy_8
  have Py_9 := hide (Py_8.out.below hb)
  clear Py_8
  clear hb
  go_wp2_with fail
  go_region_held3 (fun w' => (w'.cell? ⟨w5.heap.size, 0, none⟩ = some (.slice (some ⟨g_x, 0, none⟩) n0 n0) ∧ w'.cell? ⟨w5.heap.size, 1, none⟩ = some (.slice (some ⟨k_x, 0, none⟩) m0 m0) ∧ w'.cell? ⟨w.heap.size, 0, none⟩ = some (.slice A0 n0 c0) ∧ w'.cell? ⟨w.heap.size, 1, none⟩ = some (.slice B0 m0 d0)) ∧ Below w9.heap.size w9 w')
    (first | (exact keep22 tx_9 tx_9 t0_9 t0_9 (by assumption) (by assumption)) | (exact ⟨⟨bx_0_9, bx_1_9, b0_0_9, b0_1_9⟩, (Below.refl _ _).drew⟩))
    (first
      | (go_at_call 14; refine (toHeap_any A0 B0 n0 c0 m0 d0 z0 y0 _ Hn0.out (by omega) Hm0.out (by omega) (rdS Hr0.out HB9.out (by assumption)) (rdS Hs0.out HB9.out (by assumption))).mono ?_; rintro e w' ⟨g, g', rfl, ho, ho', _, _, _, hb⟩)
      | (go_at_call 16; refine (eqHeap_same _ _ _ _ _ _ _ _ _ _ z0 y0 _ _ Hn0.out (by omega) Hm0.out (by omega) (Nat.le_refl _) (ownS Ox_9.out (by assumption)) (ownR (by assumption)) (ownS Px_9.out (by assumption)) (ownR (by assumption))).mono ?_; rintro e w' ⟨rfl, hb⟩))
  have hS := ‹(_ ∧ _) ∧ Below w9.heap.size w9 _›
  obtain ⟨w10, rfl, -, hb⟩ := named (C := fun W => (W.cell? ⟨w5.heap.size, 0, none⟩ = some (.slice (some ⟨g_x, 0, none⟩) n0 n0) ∧ W.cell? ⟨w5.heap.size, 1, none⟩ = some (.slice (some ⟨k_x, 0, none⟩) m0 m0) ∧ W.cell? ⟨w.heap.size, 0, none⟩ = some (.slice A0 n0 c0) ∧ W.cell? ⟨w.heap.size, 1, none⟩ = some (.slice B0 m0 d0))) hS
  clear hS
  have HB10 := hide (HB9.out.trans (hb.mono HB9.out.size))
  have hs10 : w9.heap.size ≤ w10.heap.size := hb.size
  have b0_0_10 : w10.cell? ⟨w.heap.size, 0, none⟩ = some (.slice A0 n0 c0) := by rw [hb.cell t0_9]; exact b0_0_9
  have b0_1_10 : w10.cell? ⟨w.heap.size, 1, none⟩ = some (.slice B0 m0 d0) := by rw [hb.cell t0_9]; exact b0_1_9
  have t0_10 : w.heap.size < w10.heap.size := Nat.lt_of_lt_of_le t0_9 hs10
  clear b0_0_9 b0_1_9 t0_9
  have b1_0_10 : w10.cell? ⟨(w.heap.size + 1), 0, none⟩ = some (.slice A1 n1 c1) := by rw [hb.cell t1_9]; exact b1_0_9
  have b1_1_10 : w10.cell? ⟨(w.heap.size + 1), 1, none⟩ = some (.slice B1 m1 d1) := by rw [hb.cell t1_9]; exact b1_1_9
  have t1_10 : (w.heap.size + 1) < w10.heap.size := Nat.lt_of_lt_of_le t1_9 hs10
  clear b1_0_9 b1_1_9 t1_9
  have bx_0_10 : w10.cell? ⟨w5.heap.size, 0, none⟩ = some (.slice (some ⟨g_x, 0, none⟩) n0 n0) := by rw [hb.cell tx_9]; exact bx_0_9
  have bx_1_10 : w10.cell? ⟨w5.heap.size, 1, none⟩ = some (.slice (some ⟨k_x, 0, none⟩) m0 m0) := by rw [hb.cell tx_9]; exact bx_1_9
  have tx_10 : w5.heap.size < w10.heap.size := Nat.lt_of_lt_of_le tx_9 hs10
  clear bx_0_9 bx_1_9 tx_9
  have by_0_10 : w10.cell? ⟨w7.heap.size, 0, none⟩ = some (.slice (some ⟨g_y, 0, none⟩) n1 n1) := by rw [hb.cell ty_9]; exact by_0_9
  have by_1_10 : w10.cell? ⟨w7.heap.size, 1, none⟩ = some (.slice (some ⟨k_y, 0, none⟩) m1 m1) := by rw [hb.cell ty_9]; exact by_1_9
  have ty_10 : w7.heap.size < w10.heap.size := Nat.lt_of_lt_of_le ty_9 hs10
  clear by_0_9 by_1_9 ty_9
  have Ox_10 := hide (Ox_9.out.below hb)
  clear Ox_9
  have Px_10 := hide (Px_9.out.below hb)
  clear Px_9
  have Oy_10 := hide (Oy_9.out.below hb)
  clear Oy_9
  have Py_10 := hide (Py_9.out.below hb)
  clear Py_9
  clear hb
  go_wp2_with fail
  go_region_held3 (fun w' => (w'.cell? ⟨w7.heap.size, 0, none⟩ = some (.slice (some ⟨g_y, 0, none⟩) n1 n1) ∧ w'.cell? ⟨w7.heap.size, 1, none⟩ = some (.slice (some ⟨k_y, 0, none⟩) m1 m1) ∧ w'.cell? ⟨(w.heap.size + 1), 0, none⟩ = some (.slice A1 n1 c1) ∧ w'.cell? ⟨(w.heap.size + 1), 1, none⟩ = some (.slice B1 m1 d1)) ∧ Below w10.heap.size w10 w')
    (first | (exact keep22 ty_10 ty_10 t1_10 t1_10 (by assumption) (by assumption)) | (exact ⟨⟨by_0_10, by_1_10, b1_0_10, b1_1_10⟩, (Below.refl _ _).drew⟩))
    (first
      | (go_at_call 14; refine (toHeap_any A1 B1 n1 c1 m1 d1 z1 y1 _ Hn1.out (by omega) Hm1.out (by omega) (rdS Hr1.out HB10.out (by assumption)) (rdS Hs1.out HB10.out (by assumption))).mono ?_; rintro e w' ⟨g, g', rfl, ho, ho', _, _, _, hb⟩)
      | (go_at_call 16; refine (eqHeap_same _ _ _ _ _ _ _ _ _ _ z1 y1 _ _ Hn1.out (by omega) Hm1.out (by omega) (Nat.le_refl _) (ownS Oy_10.out (by assumption)) (ownR (by assumption)) (ownS Py_10.out (by assumption)) (ownR (by assumption))).mono ?_; rintro e w' ⟨rfl, hb⟩))
  have hS := ‹(_ ∧ _) ∧ Below w10.heap.size w10 _›
  obtain ⟨w11, rfl, -, hb⟩ := named (C := fun W => (W.cell? ⟨w7.heap.size, 0, none⟩ = some (.slice (some ⟨g_y, 0, none⟩) n1 n1) ∧ W.cell? ⟨w7.heap.size, 1, none⟩ = some (.slice (some ⟨k_y, 0, none⟩) m1 m1) ∧ W.cell? ⟨(w.heap.size + 1), 0, none⟩ = some (.slice A1 n1 c1) ∧ W.cell? ⟨(w.heap.size + 1), 1, none⟩ = some (.slice B1 m1 d1))) hS
  clear hS
  have HB11 := hide (HB10.out.trans (hb.mono HB10.out.size))
  have hs11 : w10.heap.size ≤ w11.heap.size := hb.size
  have b0_0_11 : w11.cell? ⟨w.heap.size, 0, none⟩ = some (.slice A0 n0 c0) := by rw [hb.cell t0_10]; exact b0_0_10
  have b0_1_11 : w11.cell? ⟨w.heap.size, 1, none⟩ = some (.slice B0 m0 d0) := by rw [hb.cell t0_10]; exact b0_1_10
  have t0_11 : w.heap.size < w11.heap.size := Nat.lt_of_lt_of_le t0_10 hs11
  clear b0_0_10 b0_1_10 t0_10
  have b1_0_11 : w11.cell? ⟨(w.heap.size + 1), 0, none⟩ = some (.slice A1 n1 c1) := by rw [hb.cell t1_10]; exact b1_0_10
  have b1_1_11 : w11.cell? ⟨(w.heap.size + 1), 1, none⟩ = some (.slice B1 m1 d1) := by rw [hb.cell t1_10]; exact b1_1_10
  have t1_11 : (w.heap.size + 1) < w11.heap.size := Nat.lt_of_lt_of_le t1_10 hs11
  clear b1_0_10 b1_1_10 t1_10
  have bx_0_11 : w11.cell? ⟨w5.heap.size, 0, none⟩ = some (.slice (some ⟨g_x, 0, none⟩) n0 n0) := by rw [hb.cell tx_10]; exact bx_0_10
  have bx_1_11 : w11.cell? ⟨w5.heap.size, 1, none⟩ = some (.slice (some ⟨k_x, 0, none⟩) m0 m0) := by rw [hb.cell tx_10]; exact bx_1_10
  have tx_11 : w5.heap.size < w11.heap.size := Nat.lt_of_lt_of_le tx_10 hs11
  clear bx_0_10 bx_1_10 tx_10
  have by_0_11 : w11.cell? ⟨w7.heap.size, 0, none⟩ = some (.slice (some ⟨g_y, 0, none⟩) n1 n1) := by rw [hb.cell ty_10]; exact by_0_10
  have by_1_11 : w11.cell? ⟨w7.heap.size, 1, none⟩ = some (.slice (some ⟨k_y, 0, none⟩) m1 m1) := by rw [hb.cell ty_10]; exact by_1_10
  have ty_11 : w7.heap.size < w11.heap.size := Nat.lt_of_lt_of_le ty_10 hs11
  clear by_0_10 by_1_10 ty_10
  have Ox_11 := hide (Ox_10.out.below hb)
  clear Ox_10
  have Px_11 := hide (Px_10.out.below hb)
  clear Px_10
  have Oy_11 := hide (Oy_10.out.below hb)
  clear Oy_10
  have Py_11 := hide (Py_10.out.below hb)
  clear Py_10
  clear hb
  go_wp2
  go_ret
  exact ⟨rfl, HB11.out⟩
end Go.Proofs.Ytjjfblejccfplaa
