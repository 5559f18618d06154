/-
  SetGen: the walk of its law.
-/
import Derived.Test.YtjjfblejccfplaaSetGenI
namespace Go.Proofs.Ytjjfblejccfplaa
open Go.RowKit
set_option linter.unusedVariables false

set_option maxRecDepth 100000 in
set_option maxHeartbeats 3200000 in
theorem fnExactSetGen_walk (v0_0 v0_1 : Value) (a1 : Int) (a2 : Int) (w : World) (h0 : HeapArg w v0_0 v0_1) (h1 : (Lit.int .i64 a1).wf = true) (h2 : (Lit.int .i64 a2).wf = true) :
    Calls Try.prog 10 #[.agg #[v0_0, v0_1], .int .i64 a1, .int .i64 a2] w fun e w' => e = .returned (.bool true) ∧ Below w.heap.size w w' := by
  obtain ⟨A0, n0, c0, z0, B0, m0, d0, y0, rfl, rfl, ⟨hn0, hnc0, hc0, hr0, hx0⟩, ⟨hm0, hmd0, hd0, hs0, hy0⟩⟩ := h0
  have Hn0 := hide hn0
  clear hn0
  have Hm0 := hide hm0
  clear hm0
  have Hr0 := hide hr0
  clear hr0
  have Hs0 := hide hs0
  clear hs0
  have Hx0 := hide hx0
  clear hx0
  have Hy0 := hide hy0
  clear hy0
  have hb1 := bounds_i64 h1
  clear h1
  have hb2 := bounds_i64 h2
  clear h2
  have HB0 := hide (Below.refl w.heap.size w)
  have hpos : ¬ (1 + (n0 : Int) + (m0 : Int)) < 0 := by omega
  go_enter Try.func10, Try.ntmps10
  go_wp2_with fail
  obtain ⟨w1, hW⟩ : ∃ W : World, W = w.alloc (.cells #[(.slice A0 n0 c0), (.slice B0 m0 d0)] 24) := ⟨_, rfl⟩
  rw [← hW]
  have hb : Below w.heap.size w w1 := by rw [hW]; exact (Below.refl _ _).alloc (Nat.le_refl _) _
  have nb0 : w1.cell? ⟨w.heap.size, 0, none⟩ = some (.slice A0 n0 c0) := by rw [hW]; go_simp
  have nb1 : w1.cell? ⟨w.heap.size, 1, none⟩ = some (.slice B0 m0 d0) := by rw [hW]; go_simp
  have nt : w.heap.size < w1.heap.size := by rw [hW]; simp
  clear hW
  have HB1 := hide (HB0.out.trans (hb.mono HB0.out.size))
  have hs1 : w.heap.size ≤ w1.heap.size := hb.size
  clear hb
  have b0_0_1 := nb0
  have b0_1_1 := nb1
  have t0_1 := nt
  have u0 := nt
  clear nb0 nb1 nt
  by_cases hbig0 : (n0 : Int) + m0 ≤ 1048576
  case neg =>
    refine (szHeap_no A0 B0 n0 c0 m0 d0 (1048576) _ (by omega) (by omega) hnc0 hc0 hmd0 hd0 (by omega)).mono ?_
    rintro e v1 ⟨rfl, hb⟩
    have HV := hide (HB1.out.trans (hb.mono HB1.out.size))
    clear hb
    go_wp2
    go_ret
    exact ⟨rfl, HV.out⟩
  refine (szHeap_yes A0 B0 n0 c0 m0 d0 (1048576) _ (by omega) (by omega) hbig0).mono ?_
  rintro e w2 ⟨rfl, hb⟩
  have HB2 := hide (HB1.out.trans (hb.mono HB1.out.size))
  have hs2 : w1.heap.size ≤ w2.heap.size := hb.size
  have b0_0_2 : w2.cell? ⟨w.heap.size, 0, none⟩ = some (.slice A0 n0 c0) := by rw [hb.cell t0_1]; exact b0_0_1
  have b0_1_2 : w2.cell? ⟨w.heap.size, 1, none⟩ = some (.slice B0 m0 d0) := by rw [hb.cell t0_1]; exact b0_1_1
  have t0_2 : w.heap.size < w2.heap.size := Nat.lt_of_lt_of_le t0_1 hs2
  clear b0_0_1 b0_1_1 t0_1
  clear hb
  have hq0 : ¬ 1048576 - (n0 : Int) - (m0 : Int) < 0 := by omega
  go_wp2_with fail
  refine (toHeap_any A0 B0 n0 c0 m0 d0 z0 y0 _ Hn0.out (by omega) Hm0.out (by omega) ((Hr0.out.below HB2.out (Nat.le_refl _)).more HB2.out.size) ((Hs0.out.below HB2.out (Nat.le_refl _)).more HB2.out.size)).mono ?_
  rintro e w3 ⟨g_a, k_a, rfl, ho, ho', l1_a, l2_a, l3_a, hb⟩
  have HB3 := hide (HB2.out.trans (hb.mono HB2.out.size))
  have hs3 : w2.heap.size ≤ w3.heap.size := hb.size
  have b0_0_3 : w3.cell? ⟨w.heap.size, 0, none⟩ = some (.slice A0 n0 c0) := by rw [hb.cell t0_2]; exact b0_0_2
  have b0_1_3 : w3.cell? ⟨w.heap.size, 1, none⟩ = some (.slice B0 m0 d0) := by rw [hb.cell t0_2]; exact b0_1_2
  have t0_3 : w.heap.size < w3.heap.size := Nat.lt_of_lt_of_le t0_2 hs3
  clear b0_0_2 b0_1_2 t0_2
  clear hb
  have Oa_3 := hide ho
  have Pa_3 := hide ho'
  clear ho ho'
  have La : Hid (∀ g, g ∈ [g_a] ++ [k_a] → w2.heap.size ≤ g ∧ g < w3.heap.size) := hide (by simp <;> omega)
  go_wp2_with fail
  refine (specSetGen_any _ _ _ _ _ _ z0 y0 a1 a2 _ Hn0.out Hm0.out (by omega) (by omega) (Nat.le_refl _) (by unfold maxLen; omega) (Oa_3.out.rd).2 (Pa_3.out.rd).2).mono ?_
  rintro e w4 ⟨A_s, c_s, F_s, B_s, d_s, G_s, rfl, ho, ho', hF, hd, hb⟩
  have HB4 := hide (HB3.out.trans (hb.mono HB3.out.size))
  have hs4 : w3.heap.size ≤ w4.heap.size := hb.size
  have b0_0_4 : w4.cell? ⟨w.heap.size, 0, none⟩ = some (.slice A0 n0 c0) := by rw [hb.cell t0_3]; exact b0_0_3
  have b0_1_4 : w4.cell? ⟨w.heap.size, 1, none⟩ = some (.slice B0 m0 d0) := by rw [hb.cell t0_3]; exact b0_1_3
  have t0_4 : w.heap.size < w4.heap.size := Nat.lt_of_lt_of_le t0_3 hs4
  clear b0_0_3 b0_1_3 t0_3
  have Oa_4 := hide (Oa_3.out.below hb)
  clear Oa_3
  have Pa_4 := hide (Pa_3.out.below hb)
  clear Pa_3
  clear hb
  have Os_4 := hide ho
  have Ps_4 := hide ho'
  have HDs := hide hd
  clear ho ho' hd
  have Ls : Hid (∀ g, g ∈ F_s ++ G_s → w3.heap.size ≤ g ∧ g < w4.heap.size) := hide (fun g hg => ⟨hF g hg, (List.mem_append.1 hg).elim (Os_4.out.lt g) (Ps_4.out.lt g)⟩)
  clear hF
  clear Oa_4 Pa_4
  go_wp2_with fail
  obtain ⟨w5, hW⟩ : ∃ W : World, W = w4.alloc (.cells #[(.slice A_s n0 c_s), (.slice B_s m0 d_s)] 27) := ⟨_, rfl⟩
  rw [← hW]
  have hb : Below w4.heap.size w4 w5 := by rw [hW]; exact (Below.refl _ _).alloc (Nat.le_refl _) _
  have nb0 : w5.cell? ⟨w4.heap.size, 0, none⟩ = some (.slice A_s n0 c_s) := by rw [hW]; go_simp
  have nb1 : w5.cell? ⟨w4.heap.size, 1, none⟩ = some (.slice B_s m0 d_s) := by rw [hW]; go_simp
  have nt : w4.heap.size < w5.heap.size := by rw [hW]; simp
  clear hW
  have HB5 := hide (HB4.out.trans (hb.mono HB4.out.size))
  have hs5 : w4.heap.size ≤ w5.heap.size := hb.size
  have b0_0_5 : w5.cell? ⟨w.heap.size, 0, none⟩ = some (.slice A0 n0 c0) := by rw [hb.cell t0_4]; exact b0_0_4
  have b0_1_5 : w5.cell? ⟨w.heap.size, 1, none⟩ = some (.slice B0 m0 d0) := by rw [hb.cell t0_4]; exact b0_1_4
  have t0_5 : w.heap.size < w5.heap.size := Nat.lt_of_lt_of_le t0_4 hs5
  clear b0_0_4 b0_1_4 t0_4
  have Os_5 := hide (Os_4.out.below hb)
  clear Os_4
  have Ps_5 := hide (Ps_4.out.below hb)
  clear Ps_4
  clear hb
  have bs_0_5 := nb0
  have bs_1_5 := nb1
  have ts_5 := nt
  have us := nt
  clear nb0 nb1 nt
  refine (toHeap_any A0 B0 n0 c0 m0 d0 z0 y0 _ Hn0.out (by omega) Hm0.out (by omega) ((Hr0.out.below HB5.out (Nat.le_refl _)).more HB5.out.size) ((Hs0.out.below HB5.out (Nat.le_refl _)).more HB5.out.size)).mono ?_
  rintro e w6 ⟨g_x, k_x, rfl, ho, ho', l1_x, l2_x, l3_x, hb⟩
  have HB6 := hide (HB5.out.trans (hb.mono HB5.out.size))
  have hs6 : w5.heap.size ≤ w6.heap.size := hb.size
  have b0_0_6 : w6.cell? ⟨w.heap.size, 0, none⟩ = some (.slice A0 n0 c0) := by rw [hb.cell t0_5]; exact b0_0_5
  have b0_1_6 : w6.cell? ⟨w.heap.size, 1, none⟩ = some (.slice B0 m0 d0) := by rw [hb.cell t0_5]; exact b0_1_5
  have t0_6 : w.heap.size < w6.heap.size := Nat.lt_of_lt_of_le t0_5 hs6
  clear b0_0_5 b0_1_5 t0_5
  have bs_0_6 : w6.cell? ⟨w4.heap.size, 0, none⟩ = some (.slice A_s n0 c_s) := by rw [hb.cell ts_5]; exact bs_0_5
  have bs_1_6 : w6.cell? ⟨w4.heap.size, 1, none⟩ = some (.slice B_s m0 d_s) := by rw [hb.cell ts_5]; exact bs_1_5
  have ts_6 : w4.heap.size < w6.heap.size := Nat.lt_of_lt_of_le ts_5 hs6
  clear bs_0_5 bs_1_5 ts_5
  have Os_6 := hide (Os_5.out.below hb)
  clear Os_5
  have Ps_6 := hide (Ps_5.out.below hb)
  clear Ps_5
  clear hb
  have Ox_6 := hide ho
  have Px_6 := hide ho'
  clear ho ho'
  have Lx : Hid (∀ g, g ∈ [g_x] ++ [k_x] → w5.heap.size ≤ g ∧ g < w6.heap.size) := hide (by simp <;> omega)
  go_wp2_with fail
  obtain ⟨w7, hW⟩ : ∃ W : World, W = w6.alloc (.cells #[(.slice (some ⟨g_x, 0, none⟩) n0 n0), (.slice (some ⟨k_x, 0, none⟩) m0 m0)] 27) := ⟨_, rfl⟩
  rw [← hW]
  have hb : Below w6.heap.size w6 w7 := by rw [hW]; exact (Below.refl _ _).alloc (Nat.le_refl _) _
  have nb0 : w7.cell? ⟨w6.heap.size, 0, none⟩ = some (.slice (some ⟨g_x, 0, none⟩) n0 n0) := by rw [hW]; go_simp
  have nb1 : w7.cell? ⟨w6.heap.size, 1, none⟩ = some (.slice (some ⟨k_x, 0, none⟩) m0 m0) := by rw [hW]; go_simp
  have nt : w6.heap.size < w7.heap.size := by rw [hW]; simp
  clear hW
  have HB7 := hide (HB6.out.trans (hb.mono HB6.out.size))
  have hs7 : w6.heap.size ≤ w7.heap.size := hb.size
  have b0_0_7 : w7.cell? ⟨w.heap.size, 0, none⟩ = some (.slice A0 n0 c0) := by rw [hb.cell t0_6]; exact b0_0_6
  have b0_1_7 : w7.cell? ⟨w.heap.size, 1, none⟩ = some (.slice B0 m0 d0) := by rw [hb.cell t0_6]; exact b0_1_6
  have t0_7 : w.heap.size < w7.heap.size := Nat.lt_of_lt_of_le t0_6 hs7
  clear b0_0_6 b0_1_6 t0_6
  have bs_0_7 : w7.cell? ⟨w4.heap.size, 0, none⟩ = some (.slice A_s n0 c_s) := by rw [hb.cell ts_6]; exact bs_0_6
  have bs_1_7 : w7.cell? ⟨w4.heap.size, 1, none⟩ = some (.slice B_s m0 d_s) := by rw [hb.cell ts_6]; exact bs_1_6
  have ts_7 : w4.heap.size < w7.heap.size := Nat.lt_of_lt_of_le ts_6 hs7
  clear bs_0_6 bs_1_6 ts_6
  have Os_7 := hide (Os_6.out.below hb)
  clear Os_6
  have Ps_7 := hide (Ps_6.out.below hb)
  clear Ps_6
  have Ox_7 := hide (Ox_6.out.below hb)
  clear Ox_6
  have Px_7 := hide (Px_6.out.below hb)
  clear Px_6
  clear hb
  have bx_0_7 := nb0
  have bx_1_7 := nb1
  have tx_7 := nt
  have ux := nt
  clear nb0 nb1 nt
  refine (implSetGen_any _ _ _ _ _ _ z0 y0 a1 a2 _ Hn0.out Hm0.out (by omega) (by omega) (Nat.le_refl _) (by unfold maxLen; omega) (Ox_7.out.rd).2 (Px_7.out.rd).2).mono ?_
  rintro e w8 ⟨A_g, c_g, F_g, B_g, d_g, G_g, rfl, ho, ho', hF, hd, hb⟩
  have HB8 := hide (HB7.out.trans (hb.mono HB7.out.size))
  have hs8 : w7.heap.size ≤ w8.heap.size := hb.size
  have b0_0_8 : w8.cell? ⟨w.heap.size, 0, none⟩ = some (.slice A0 n0 c0) := by rw [hb.cell t0_7]; exact b0_0_7
  have b0_1_8 : w8.cell? ⟨w.heap.size, 1, none⟩ = some (.slice B0 m0 d0) := by rw [hb.cell t0_7]; exact b0_1_7
  have t0_8 : w.heap.size < w8.heap.size := Nat.lt_of_lt_of_le t0_7 hs8
  clear b0_0_7 b0_1_7 t0_7
  have bs_0_8 : w8.cell? ⟨w4.heap.size, 0, none⟩ = some (.slice A_s n0 c_s) := by rw [hb.cell ts_7]; exact bs_0_7
  have bs_1_8 : w8.cell? ⟨w4.heap.size, 1, none⟩ = some (.slice B_s m0 d_s) := by rw [hb.cell ts_7]; exact bs_1_7
  have ts_8 : w4.heap.size < w8.heap.size := Nat.lt_of_lt_of_le ts_7 hs8
  clear bs_0_7 bs_1_7 ts_7
  have bx_0_8 : w8.cell? ⟨w6.heap.size, 0, none⟩ = some (.slice (some ⟨g_x, 0, none⟩) n0 n0) := by rw [hb.cell tx_7]; exact bx_0_7
  have bx_1_8 : w8.cell? ⟨w6.heap.size, 1, none⟩ = some (.slice (some ⟨k_x, 0, none⟩) m0 m0) := by rw [hb.cell tx_7]; exact bx_1_7
  have tx_8 : w6.heap.size < w8.heap.size := Nat.lt_of_lt_of_le tx_7 hs8
  clear bx_0_7 bx_1_7 tx_7
  have Os_8 := hide (Os_7.out.below hb)
  clear Os_7
  have Ps_8 := hide (Ps_7.out.below hb)
  clear Ps_7
  have Ox_8 := hide (Ox_7.out.below hb)
  clear Ox_7
  have Px_8 := hide (Px_7.out.below hb)
  clear Px_7
  clear hb
  have Og_8 := hide ho
  have Pg_8 := hide ho'
  have HDg := hide hd
  clear ho ho' hd
  have Lg : Hid (∀ g, g ∈ F_g ++ G_g → w7.heap.size ≤ g ∧ g < w8.heap.size) := hide (fun g hg => ⟨hF g hg, (List.mem_append.1 hg).elim (Og_8.out.lt g) (Pg_8.out.lt g)⟩)
  clear hF
  go_wp2_with fail
  obtain ⟨w9, hW⟩ : ∃ W : World, W = w8.alloc (.cells #[(.slice A_g n0 c_g), (.slice B_g m0 d_g)] 27) := ⟨_, rfl⟩
  rw [← hW]
  have hb : Below w8.heap.size w8 w9 := by rw [hW]; exact (Below.refl _ _).alloc (Nat.le_refl _) _
  have nb0 : w9.cell? ⟨w8.heap.size, 0, none⟩ = some (.slice A_g n0 c_g) := by rw [hW]; go_simp
  have nb1 : w9.cell? ⟨w8.heap.size, 1, none⟩ = some (.slice B_g m0 d_g) := by rw [hW]; go_simp
  have nt : w8.heap.size < w9.heap.size := by rw [hW]; simp
  clear hW
  have HB9 := hide (HB8.out.trans (hb.mono HB8.out.size))
  have hs9 : w8.heap.size ≤ w9.heap.size := hb.size
  have b0_0_9 : w9.cell? ⟨w.heap.size, 0, none⟩ = some (.slice A0 n0 c0) := by rw [hb.cell t0_8]; exact b0_0_8
  have b0_1_9 : w9.cell? ⟨w.heap.size, 1, none⟩ = some (.slice B0 m0 d0) := by rw [hb.cell t0_8]; exact b0_1_8
  have t0_9 : w.heap.size < w9.heap.size := Nat.lt_of_lt_of_le t0_8 hs9
  clear b0_0_8 b0_1_8 t0_8
  have bs_0_9 : w9.cell? ⟨w4.heap.size, 0, none⟩ = some (.slice A_s n0 c_s) := by rw [hb.cell ts_8]; exact bs_0_8
  have bs_1_9 : w9.cell? ⟨w4.heap.size, 1, none⟩ = some (.slice B_s m0 d_s) := by rw [hb.cell ts_8]; exact bs_1_8
  have ts_9 : w4.heap.size < w9.heap.size := Nat.lt_of_lt_of_le ts_8 hs9
  clear bs_0_8 bs_1_8 ts_8
  have bx_0_9 : w9.cell? ⟨w6.heap.size, 0, none⟩ = some (.slice (some ⟨g_x, 0, none⟩) n0 n0) := by rw [hb.cell tx_8]; exact bx_0_8
  have bx_1_9 : w9.cell? ⟨w6.heap.size, 1, none⟩ = some (.slice (some ⟨k_x, 0, none⟩) m0 m0) := by rw [hb.cell tx_8]; exact bx_1_8
  have tx_9 : w6.heap.size < w9.heap.size := Nat.lt_of_lt_of_le tx_8 hs9
  clear bx_0_8 bx_1_8 tx_8
  have Os_9 := hide (Os_8.out.below hb)
  clear Os_8
  have Ps_9 := hide (Ps_8.out.below hb)
  clear Ps_8
  have Ox_9 := hide (Ox_8.out.below hb)
  clear Ox_8
  have Px_9 := hide (Px_8.out.below hb)
  clear Px_8
  have Og_9 := hide (Og_8.out.below hb)
  clear Og_8
  have Pg_9 := hide (Pg_8.out.below hb)
  clear Pg_8
  clear hb
  have bg_0_9 := nb0
  have bg_1_9 := nb1
  have tg_9 := nt
  have ug := nt
  clear nb0 nb1 nt
  refine (eqHeap_same _ _ _ _ _ _ _ _ _ _ (setR z0 y0 a1 a2) y0 _ _ (by rw [setR_length]; exact Hn0.out) (by omega) Hm0.out (by omega) (Nat.le_refl _) (Og_9.out.rd).2 (Os_9.out.rd).2 (Pg_9.out.rd).2 (Ps_9.out.rd).2).mono ?_
  rintro e w10 ⟨rfl, hb⟩
  have HB10 := hide (HB9.out.trans (hb.mono HB9.out.size))
  have hs10 : w9.heap.size ≤ w10.heap.size := hb.size
  have b0_0_10 : w10.cell? ⟨w.heap.size, 0, none⟩ = some (.slice A0 n0 c0) := by rw [hb.cell t0_9]; exact b0_0_9
  have b0_1_10 : w10.cell? ⟨w.heap.size, 1, none⟩ = some (.slice B0 m0 d0) := by rw [hb.cell t0_9]; exact b0_1_9
  have t0_10 : w.heap.size < w10.heap.size := Nat.lt_of_lt_of_le t0_9 hs10
  clear b0_0_9 b0_1_9 t0_9
  have bs_0_10 : w10.cell? ⟨w4.heap.size, 0, none⟩ = some (.slice A_s n0 c_s) := by rw [hb.cell ts_9]; exact bs_0_9
  have bs_1_10 : w10.cell? ⟨w4.heap.size, 1, none⟩ = some (.slice B_s m0 d_s) := by rw [hb.cell ts_9]; exact bs_1_9
  have ts_10 : w4.heap.size < w10.heap.size := Nat.lt_of_lt_of_le ts_9 hs10
  clear bs_0_9 bs_1_9 ts_9
  have bx_0_10 : w10.cell? ⟨w6.heap.size, 0, none⟩ = some (.slice (some ⟨g_x, 0, none⟩) n0 n0) := by rw [hb.cell tx_9]; exact bx_0_9
  have bx_1_10 : w10.cell? ⟨w6.heap.size, 1, none⟩ = some (.slice (some ⟨k_x, 0, none⟩) m0 m0) := by rw [hb.cell tx_9]; exact bx_1_9
  have tx_10 : w6.heap.size < w10.heap.size := Nat.lt_of_lt_of_le tx_9 hs10
  clear bx_0_9 bx_1_9 tx_9
  have bg_0_10 : w10.cell? ⟨w8.heap.size, 0, none⟩ = some (.slice A_g n0 c_g) := by rw [hb.cell tg_9]; exact bg_0_9
  have bg_1_10 : w10.cell? ⟨w8.heap.size, 1, none⟩ = some (.slice B_g m0 d_g) := by rw [hb.cell tg_9]; exact bg_1_9
  have tg_10 : w8.heap.size < w10.heap.size := Nat.lt_of_lt_of_le tg_9 hs10
  clear bg_0_9 bg_1_9 tg_9
  have Os_10 := hide (Os_9.out.below hb)
  clear Os_9
  have Ps_10 := hide (Ps_9.out.below hb)
  clear Ps_9
  have Ox_10 := hide (Ox_9.out.below hb)
  clear Ox_9
  have Px_10 := hide (Px_9.out.below hb)
  clear Px_9
  have Og_10 := hide (Og_9.out.below hb)
  clear Og_9
  have Pg_10 := hide (Pg_9.out.below hb)
  clear Pg_9
  clear hb
  go_wp2_with fail
  go_region_held3 (fun w' => (w'.cell? ⟨w6.heap.size, 0, none⟩ = some (.slice (some ⟨g_x, 0, none⟩) n0 n0) ∧ w'.cell? ⟨w6.heap.size, 1, none⟩ = some (.slice (some ⟨k_x, 0, none⟩) m0 m0) ∧ w'.cell? ⟨w.heap.size, 0, none⟩ = some (.slice A0 n0 c0) ∧ w'.cell? ⟨w.heap.size, 1, none⟩ = some (.slice B0 m0 d0)) ∧ Below w10.heap.size w10 w')
    (first | (exact keep22 tx_10 tx_10 t0_10 t0_10 (by assumption) (by assumption)) | (exact ⟨⟨bx_0_10, bx_1_10, b0_0_10, b0_1_10⟩, (Below.refl _ _).drew⟩))
    (first
      | (go_at_call 14; refine (toHeap_any A0 B0 n0 c0 m0 d0 z0 y0 _ Hn0.out (by omega) Hm0.out (by omega) (rdS Hr0.out HB10.out (by assumption)) (rdS Hs0.out HB10.out (by assumption))).mono ?_; rintro e w' ⟨g, g', rfl, ho, ho', _, _, _, hb⟩)
      | (go_at_call 16; refine (eqHeap_same _ _ _ _ _ _ _ _ _ _ z0 y0 _ _ Hn0.out (by omega) Hm0.out (by omega) (Nat.le_refl _) (ownS Ox_10.out (by assumption)) (ownR (by assumption)) (ownS Px_10.out (by assumption)) (ownR (by assumption))).mono ?_; rintro e w' ⟨rfl, hb⟩))
  have hS := ‹(_ ∧ _) ∧ Below w10.heap.size w10 _›
  obtain ⟨w11, rfl, -, hb⟩ := named (C := fun W => (W.cell? ⟨w6.heap.size, 0, none⟩ = some (.slice (some ⟨g_x, 0, none⟩) n0 n0) ∧ W.cell? ⟨w6.heap.size, 1, none⟩ = some (.slice (some ⟨k_x, 0, none⟩) m0 m0) ∧ W.cell? ⟨w.heap.size, 0, none⟩ = some (.slice A0 n0 c0) ∧ W.cell? ⟨w.heap.size, 1, none⟩ = some (.slice B0 m0 d0))) hS
  clear hS
  have HB11 := hide (HB10.out.trans (hb.mono HB10.out.size))
  have hs11 : w10.heap.size ≤ w11.heap.size := hb.size
  have b0_0_11 : w11.cell? ⟨w.heap.size, 0, none⟩ = some (.slice A0 n0 c0) := by rw [hb.cell t0_10]; exact b0_0_10
  have b0_1_11 : w11.cell? ⟨w.heap.size, 1, none⟩ = some (.slice B0 m0 d0) := by rw [hb.cell t0_10]; exact b0_1_10
  have t0_11 : w.heap.size < w11.heap.size := Nat.lt_of_lt_of_le t0_10 hs11
  clear b0_0_10 b0_1_10 t0_10
  have bs_0_11 : w11.cell? ⟨w4.heap.size, 0, none⟩ = some (.slice A_s n0 c_s) := by rw [hb.cell ts_10]; exact bs_0_10
  have bs_1_11 : w11.cell? ⟨w4.heap.size, 1, none⟩ = some (.slice B_s m0 d_s) := by rw [hb.cell ts_10]; exact bs_1_10
  have ts_11 : w4.heap.size < w11.heap.size := Nat.lt_of_lt_of_le ts_10 hs11
  clear bs_0_10 bs_1_10 ts_10
  have bx_0_11 : w11.cell? ⟨w6.heap.size, 0, none⟩ = some (.slice (some ⟨g_x, 0, none⟩) n0 n0) := by rw [hb.cell tx_10]; exact bx_0_10
  have bx_1_11 : w11.cell? ⟨w6.heap.size, 1, none⟩ = some (.slice (some ⟨k_x, 0, none⟩) m0 m0) := by rw [hb.cell tx_10]; exact bx_1_10
  have tx_11 : w6.heap.size < w11.heap.size := Nat.lt_of_lt_of_le tx_10 hs11
  clear bx_0_10 bx_1_10 tx_10
  have bg_0_11 : w11.cell? ⟨w8.heap.size, 0, none⟩ = some (.slice A_g n0 c_g) := by rw [hb.cell tg_10]; exact bg_0_10
  have bg_1_11 : w11.cell? ⟨w8.heap.size, 1, none⟩ = some (.slice B_g m0 d_g) := by rw [hb.cell tg_10]; exact bg_1_10
  have tg_11 : w8.heap.size < w11.heap.size := Nat.lt_of_lt_of_le tg_10 hs11
  clear bg_0_10 bg_1_10 tg_10
  have Os_11 := hide (Os_10.out.below hb)
  clear Os_10
  have Ps_11 := hide (Ps_10.out.below hb)
  clear Ps_10
  have Ox_11 := hide (Ox_10.out.below hb)
  clear Ox_10
  have Px_11 := hide (Px_10.out.below hb)
  clear Px_10
  have Og_11 := hide (Og_10.out.below hb)
  clear Og_10
  have Pg_11 := hide (Pg_10.out.below hb)
  clear Pg_10
  clear hb
  go_wp2_with fail
  refine (markHeap_any _ _ _ _ _ _ _ _ _ _ 1 _ Ox_11.out Px_11.out (by simp <;> omega) (by omega) (by omega) (by omega)).mono ?_
  rintro e w12 ⟨rfl, ho, ho', ht⟩
  have HB12 := hide (Below.touch HB11.out ht (fun g hg => by have := Lx.out g hg; omega) HB11.out.size)
  have hs12 : w11.heap.size ≤ w12.heap.size := ht.size
  have b0_0_12 : w12.cell? ⟨w.heap.size, 0, none⟩ = some (.slice A0 n0 c0) := by rw [World.cell?_of_block (w := w11) (ht.block _ t0_11 (fun hg => by have h5 := Lx.out (w.heap.size) hg; omega))]; exact b0_0_11
  have b0_1_12 : w12.cell? ⟨w.heap.size, 1, none⟩ = some (.slice B0 m0 d0) := by rw [World.cell?_of_block (w := w11) (ht.block _ t0_11 (fun hg => by have h5 := Lx.out (w.heap.size) hg; omega))]; exact b0_1_11
  have t0_12 : w.heap.size < w12.heap.size := Nat.lt_of_lt_of_le t0_11 hs12
  clear b0_0_11 b0_1_11 t0_11
  have bs_0_12 : w12.cell? ⟨w4.heap.size, 0, none⟩ = some (.slice A_s n0 c_s) := by rw [World.cell?_of_block (w := w11) (ht.block _ ts_11 (fun hg => by have h5 := Lx.out (w4.heap.size) hg; omega))]; exact bs_0_11
  have bs_1_12 : w12.cell? ⟨w4.heap.size, 1, none⟩ = some (.slice B_s m0 d_s) := by rw [World.cell?_of_block (w := w11) (ht.block _ ts_11 (fun hg => by have h5 := Lx.out (w4.heap.size) hg; omega))]; exact bs_1_11
  have ts_12 : w4.heap.size < w12.heap.size := Nat.lt_of_lt_of_le ts_11 hs12
  clear bs_0_11 bs_1_11 ts_11
  have bx_0_12 : w12.cell? ⟨w6.heap.size, 0, none⟩ = some (.slice (some ⟨g_x, 0, none⟩) n0 n0) := by rw [World.cell?_of_block (w := w11) (ht.block _ tx_11 (fun hg => by have h5 := Lx.out (w6.heap.size) hg; omega))]; exact bx_0_11
  have bx_1_12 : w12.cell? ⟨w6.heap.size, 1, none⟩ = some (.slice (some ⟨k_x, 0, none⟩) m0 m0) := by rw [World.cell?_of_block (w := w11) (ht.block _ tx_11 (fun hg => by have h5 := Lx.out (w6.heap.size) hg; omega))]; exact bx_1_11
  have tx_12 : w6.heap.size < w12.heap.size := Nat.lt_of_lt_of_le tx_11 hs12
  clear bx_0_11 bx_1_11 tx_11
  have bg_0_12 : w12.cell? ⟨w8.heap.size, 0, none⟩ = some (.slice A_g n0 c_g) := by rw [World.cell?_of_block (w := w11) (ht.block _ tg_11 (fun hg => by have h5 := Lx.out (w8.heap.size) hg; omega))]; exact bg_0_11
  have bg_1_12 : w12.cell? ⟨w8.heap.size, 1, none⟩ = some (.slice B_g m0 d_g) := by rw [World.cell?_of_block (w := w11) (ht.block _ tg_11 (fun hg => by have h5 := Lx.out (w8.heap.size) hg; omega))]; exact bg_1_11
  have tg_12 : w8.heap.size < w12.heap.size := Nat.lt_of_lt_of_le tg_11 hs12
  clear bg_0_11 bg_1_11 tg_11
  have Os_12 := hide (Os_11.out.touch ht (fun g hg hg' => by have := Ls.out g (List.mem_append_left _ hg); have := Lx.out g hg'; omega))
  clear Os_11
  have Ps_12 := hide (Ps_11.out.touch ht (fun g hg hg' => by have := Ls.out g (List.mem_append_right _ hg); have := Lx.out g hg'; omega))
  clear Ps_11
  have Og_12 := hide (Og_11.out.touch ht (fun g hg hg' => by have := Lg.out g (List.mem_append_left _ hg); have := Lx.out g hg'; omega))
  clear Og_11
  have Pg_12 := hide (Pg_11.out.touch ht (fun g hg hg' => by have := Lg.out g (List.mem_append_right _ hg); have := Lx.out g hg'; omega))
  clear Pg_11
  clear ht
  have Ox_12 := hide ho
  have Px_12 := hide ho'
  clear ho ho' Ox_11 Px_11
  go_wp2_with fail
  refine (eqHeap_same _ _ _ _ _ _ _ _ _ _ (setR z0 y0 a1 a2) y0 _ _ (by rw [setR_length]; exact Hn0.out) (by omega) Hm0.out (by omega) (Nat.le_refl _) (Og_12.out.rd).2 (Os_12.out.rd).2 (Pg_12.out.rd).2 (Ps_12.out.rd).2).mono ?_
  rintro e w13 ⟨rfl, hb⟩
  have HB13 := hide (HB12.out.trans (hb.mono HB12.out.size))
  have hs13 : w12.heap.size ≤ w13.heap.size := hb.size
  have b0_0_13 : w13.cell? ⟨w.heap.size, 0, none⟩ = some (.slice A0 n0 c0) := by rw [hb.cell t0_12]; exact b0_0_12
  have b0_1_13 : w13.cell? ⟨w.heap.size, 1, none⟩ = some (.slice B0 m0 d0) := by rw [hb.cell t0_12]; exact b0_1_12
  have t0_13 : w.heap.size < w13.heap.size := Nat.lt_of_lt_of_le t0_12 hs13
  clear b0_0_12 b0_1_12 t0_12
  have bs_0_13 : w13.cell? ⟨w4.heap.size, 0, none⟩ = some (.slice A_s n0 c_s) := by rw [hb.cell ts_12]; exact bs_0_12
  have bs_1_13 : w13.cell? ⟨w4.heap.size, 1, none⟩ = some (.slice B_s m0 d_s) := by rw [hb.cell ts_12]; exact bs_1_12
  have ts_13 : w4.heap.size < w13.heap.size := Nat.lt_of_lt_of_le ts_12 hs13
  clear bs_0_12 bs_1_12 ts_12
  have bx_0_13 : w13.cell? ⟨w6.heap.size, 0, none⟩ = some (.slice (some ⟨g_x, 0, none⟩) n0 n0) := by rw [hb.cell tx_12]; exact bx_0_12
  have bx_1_13 : w13.cell? ⟨w6.heap.size, 1, none⟩ = some (.slice (some ⟨k_x, 0, none⟩) m0 m0) := by rw [hb.cell tx_12]; exact bx_1_12
  have tx_13 : w6.heap.size < w13.heap.size := Nat.lt_of_lt_of_le tx_12 hs13
  clear bx_0_12 bx_1_12 tx_12
  have bg_0_13 : w13.cell? ⟨w8.heap.size, 0, none⟩ = some (.slice A_g n0 c_g) := by rw [hb.cell tg_12]; exact bg_0_12
  have bg_1_13 : w13.cell? ⟨w8.heap.size, 1, none⟩ = some (.slice B_g m0 d_g) := by rw [hb.cell tg_12]; exact bg_1_12
  have tg_13 : w8.heap.size < w13.heap.size := Nat.lt_of_lt_of_le tg_12 hs13
  clear bg_0_12 bg_1_12 tg_12
  have Os_13 := hide (Os_12.out.below hb)
  clear Os_12
  have Ps_13 := hide (Ps_12.out.below hb)
  clear Ps_12
  have Ox_13 := hide (Ox_12.out.below hb)
  clear Ox_12
  have Px_13 := hide (Px_12.out.below hb)
  clear Px_12
  have Og_13 := hide (Og_12.out.below hb)
  clear Og_12
  have Pg_13 := hide (Pg_12.out.below hb)
  clear Pg_12
  clear hb
  go_wp2_with fail
  refine (markHeap_any _ _ _ _ _ _ _ _ _ _ 1 _ Og_13.out Pg_13.out HDg.out (by omega) (by omega) (by omega)).mono ?_
  rintro e w14 ⟨rfl, ho, ho', ht⟩
  have HB14 := hide (Below.touch HB13.out ht (fun g hg => by have := Lg.out g hg; omega) HB13.out.size)
  have hs14 : w13.heap.size ≤ w14.heap.size := ht.size
  have b0_0_14 : w14.cell? ⟨w.heap.size, 0, none⟩ = some (.slice A0 n0 c0) := by rw [World.cell?_of_block (w := w13) (ht.block _ t0_13 (fun hg => by have h5 := Lg.out (w.heap.size) hg; omega))]; exact b0_0_13
  have b0_1_14 : w14.cell? ⟨w.heap.size, 1, none⟩ = some (.slice B0 m0 d0) := by rw [World.cell?_of_block (w := w13) (ht.block _ t0_13 (fun hg => by have h5 := Lg.out (w.heap.size) hg; omega))]; exact b0_1_13
  have t0_14 : w.heap.size < w14.heap.size := Nat.lt_of_lt_of_le t0_13 hs14
  clear b0_0_13 b0_1_13 t0_13
  have bs_0_14 : w14.cell? ⟨w4.heap.size, 0, none⟩ = some (.slice A_s n0 c_s) := by rw [World.cell?_of_block (w := w13) (ht.block _ ts_13 (fun hg => by have h5 := Lg.out (w4.heap.size) hg; omega))]; exact bs_0_13
  have bs_1_14 : w14.cell? ⟨w4.heap.size, 1, none⟩ = some (.slice B_s m0 d_s) := by rw [World.cell?_of_block (w := w13) (ht.block _ ts_13 (fun hg => by have h5 := Lg.out (w4.heap.size) hg; omega))]; exact bs_1_13
  have ts_14 : w4.heap.size < w14.heap.size := Nat.lt_of_lt_of_le ts_13 hs14
  clear bs_0_13 bs_1_13 ts_13
  have bx_0_14 : w14.cell? ⟨w6.heap.size, 0, none⟩ = some (.slice (some ⟨g_x, 0, none⟩) n0 n0) := by rw [World.cell?_of_block (w := w13) (ht.block _ tx_13 (fun hg => by have h5 := Lg.out (w6.heap.size) hg; omega))]; exact bx_0_13
  have bx_1_14 : w14.cell? ⟨w6.heap.size, 1, none⟩ = some (.slice (some ⟨k_x, 0, none⟩) m0 m0) := by rw [World.cell?_of_block (w := w13) (ht.block _ tx_13 (fun hg => by have h5 := Lg.out (w6.heap.size) hg; omega))]; exact bx_1_13
  have tx_14 : w6.heap.size < w14.heap.size := Nat.lt_of_lt_of_le tx_13 hs14
  clear bx_0_13 bx_1_13 tx_13
  have bg_0_14 : w14.cell? ⟨w8.heap.size, 0, none⟩ = some (.slice A_g n0 c_g) := by rw [World.cell?_of_block (w := w13) (ht.block _ tg_13 (fun hg => by have h5 := Lg.out (w8.heap.size) hg; omega))]; exact bg_0_13
  have bg_1_14 : w14.cell? ⟨w8.heap.size, 1, none⟩ = some (.slice B_g m0 d_g) := by rw [World.cell?_of_block (w := w13) (ht.block _ tg_13 (fun hg => by have h5 := Lg.out (w8.heap.size) hg; omega))]; exact bg_1_13
  have tg_14 : w8.heap.size < w14.heap.size := Nat.lt_of_lt_of_le tg_13 hs14
  clear bg_0_13 bg_1_13 tg_13
  have Os_14 := hide (Os_13.out.touch ht (fun g hg hg' => by have := Ls.out g (List.mem_append_left _ hg); have := Lg.out g hg'; omega))
  clear Os_13
  have Ps_14 := hide (Ps_13.out.touch ht (fun g hg hg' => by have := Ls.out g (List.mem_append_right _ hg); have := Lg.out g hg'; omega))
  clear Ps_13
  have Ox_14 := hide (Ox_13.out.touch ht (fun g hg hg' => by have := Lx.out g (List.mem_append_left _ hg); have := Lg.out g hg'; omega))
  clear Ox_13
  have Px_14 := hide (Px_13.out.touch ht (fun g hg hg' => by have := Lx.out g (List.mem_append_right _ hg); have := Lg.out g hg'; omega))
  clear Px_13
  clear ht
  have Og_14 := hide ho
  have Pg_14 := hide ho'
  clear ho ho' Og_13 Pg_13
  go_wp2_with fail
  refine (heldHeap_same _ _ _ _ _ _ 1 _ (Og_14.out.rd).2 (Pg_14.out.rd).2 (by omega) (by omega) (by omega)).mono ?_
  rintro e w15 ⟨rfl, hb⟩
  have HB15 := hide (HB14.out.trans (hb.mono HB14.out.size))
  have hs15 : w14.heap.size ≤ w15.heap.size := hb.size
  have b0_0_15 : w15.cell? ⟨w.heap.size, 0, none⟩ = some (.slice A0 n0 c0) := by rw [hb.cell t0_14]; exact b0_0_14
  have b0_1_15 : w15.cell? ⟨w.heap.size, 1, none⟩ = some (.slice B0 m0 d0) := by rw [hb.cell t0_14]; exact b0_1_14
  have t0_15 : w.heap.size < w15.heap.size := Nat.lt_of_lt_of_le t0_14 hs15
  clear b0_0_14 b0_1_14 t0_14
  have bs_0_15 : w15.cell? ⟨w4.heap.size, 0, none⟩ = some (.slice A_s n0 c_s) := by rw [hb.cell ts_14]; exact bs_0_14
  have bs_1_15 : w15.cell? ⟨w4.heap.size, 1, none⟩ = some (.slice B_s m0 d_s) := by rw [hb.cell ts_14]; exact bs_1_14
  have ts_15 : w4.heap.size < w15.heap.size := Nat.lt_of_lt_of_le ts_14 hs15
  clear bs_0_14 bs_1_14 ts_14
  have bx_0_15 : w15.cell? ⟨w6.heap.size, 0, none⟩ = some (.slice (some ⟨g_x, 0, none⟩) n0 n0) := by rw [hb.cell tx_14]; exact bx_0_14
  have bx_1_15 : w15.cell? ⟨w6.heap.size, 1, none⟩ = some (.slice (some ⟨k_x, 0, none⟩) m0 m0) := by rw [hb.cell tx_14]; exact bx_1_14
  have tx_15 : w6.heap.size < w15.heap.size := Nat.lt_of_lt_of_le tx_14 hs15
  clear bx_0_14 bx_1_14 tx_14
  have bg_0_15 : w15.cell? ⟨w8.heap.size, 0, none⟩ = some (.slice A_g n0 c_g) := by rw [hb.cell tg_14]; exact bg_0_14
  have bg_1_15 : w15.cell? ⟨w8.heap.size, 1, none⟩ = some (.slice B_g m0 d_g) := by rw [hb.cell tg_14]; exact bg_1_14
  have tg_15 : w8.heap.size < w15.heap.size := Nat.lt_of_lt_of_le tg_14 hs15
  clear bg_0_14 bg_1_14 tg_14
  have Os_15 := hide (Os_14.out.below hb)
  clear Os_14
  have Ps_15 := hide (Ps_14.out.below hb)
  clear Ps_14
  have Ox_15 := hide (Ox_14.out.below hb)
  clear Ox_14
  have Px_15 := hide (Px_14.out.below hb)
  clear Px_14
  have Og_15 := hide (Og_14.out.below hb)
  clear Og_14
  have Pg_15 := hide (Pg_14.out.below hb)
  clear Pg_14
  clear hb
  go_wp2_with fail
  refine (toHeap_any A0 B0 n0 c0 m0 d0 z0 y0 _ Hn0.out (by omega) Hm0.out (by omega) ((Hr0.out.below HB15.out (Nat.le_refl _)).more HB15.out.size) ((Hs0.out.below HB15.out (Nat.le_refl _)).more HB15.out.size)).mono ?_
  rintro e w16 ⟨g_q, k_q, rfl, ho, ho', l1_q, l2_q, l3_q, hb⟩
  have HB16 := hide (HB15.out.trans (hb.mono HB15.out.size))
  have hs16 : w15.heap.size ≤ w16.heap.size := hb.size
  have b0_0_16 : w16.cell? ⟨w.heap.size, 0, none⟩ = some (.slice A0 n0 c0) := by rw [hb.cell t0_15]; exact b0_0_15
  have b0_1_16 : w16.cell? ⟨w.heap.size, 1, none⟩ = some (.slice B0 m0 d0) := by rw [hb.cell t0_15]; exact b0_1_15
  have t0_16 : w.heap.size < w16.heap.size := Nat.lt_of_lt_of_le t0_15 hs16
  clear b0_0_15 b0_1_15 t0_15
  have bs_0_16 : w16.cell? ⟨w4.heap.size, 0, none⟩ = some (.slice A_s n0 c_s) := by rw [hb.cell ts_15]; exact bs_0_15
  have bs_1_16 : w16.cell? ⟨w4.heap.size, 1, none⟩ = some (.slice B_s m0 d_s) := by rw [hb.cell ts_15]; exact bs_1_15
  have ts_16 : w4.heap.size < w16.heap.size := Nat.lt_of_lt_of_le ts_15 hs16
  clear bs_0_15 bs_1_15 ts_15
  have bx_0_16 : w16.cell? ⟨w6.heap.size, 0, none⟩ = some (.slice (some ⟨g_x, 0, none⟩) n0 n0) := by rw [hb.cell tx_15]; exact bx_0_15
  have bx_1_16 : w16.cell? ⟨w6.heap.size, 1, none⟩ = some (.slice (some ⟨k_x, 0, none⟩) m0 m0) := by rw [hb.cell tx_15]; exact bx_1_15
  have tx_16 : w6.heap.size < w16.heap.size := Nat.lt_of_lt_of_le tx_15 hs16
  clear bx_0_15 bx_1_15 tx_15
  have bg_0_16 : w16.cell? ⟨w8.heap.size, 0, none⟩ = some (.slice A_g n0 c_g) := by rw [hb.cell tg_15]; exact bg_0_15
  have bg_1_16 : w16.cell? ⟨w8.heap.size, 1, none⟩ = some (.slice B_g m0 d_g) := by rw [hb.cell tg_15]; exact bg_1_15
  have tg_16 : w8.heap.size < w16.heap.size := Nat.lt_of_lt_of_le tg_15 hs16
  clear bg_0_15 bg_1_15 tg_15
  have Os_16 := hide (Os_15.out.below hb)
  clear Os_15
  have Ps_16 := hide (Ps_15.out.below hb)
  clear Ps_15
  have Ox_16 := hide (Ox_15.out.below hb)
  clear Ox_15
  have Px_16 := hide (Px_15.out.below hb)
  clear Px_15
  have Og_16 := hide (Og_15.out.below hb)
  clear Og_15
  have Pg_16 := hide (Pg_15.out.below hb)
  clear Pg_15
  clear hb
  have Oq_16 := hide ho
  have Pq_16 := hide ho'
  clear ho ho'
  have Lq : Hid (∀ g, g ∈ [g_q] ++ [k_q] → w15.heap.size ≤ g ∧ g < w16.heap.size) := hide (by simp <;> omega)
  go_wp2_with fail
  refine (implSetGen_any _ _ _ _ _ _ z0 y0 a1 a2 _ Hn0.out Hm0.out (by omega) (by omega) (Nat.le_refl _) (by unfold maxLen; omega) (Oq_16.out.rd).2 (Pq_16.out.rd).2).mono ?_
  rintro e w17 ⟨A_r, c_r, F_r, B_r, d_r, G_r, rfl, ho, ho', hF, hd, hb⟩
  have HB17 := hide (HB16.out.trans (hb.mono HB16.out.size))
  have hs17 : w16.heap.size ≤ w17.heap.size := hb.size
  have b0_0_17 : w17.cell? ⟨w.heap.size, 0, none⟩ = some (.slice A0 n0 c0) := by rw [hb.cell t0_16]; exact b0_0_16
  have b0_1_17 : w17.cell? ⟨w.heap.size, 1, none⟩ = some (.slice B0 m0 d0) := by rw [hb.cell t0_16]; exact b0_1_16
  have t0_17 : w.heap.size < w17.heap.size := Nat.lt_of_lt_of_le t0_16 hs17
  clear b0_0_16 b0_1_16 t0_16
  have bs_0_17 : w17.cell? ⟨w4.heap.size, 0, none⟩ = some (.slice A_s n0 c_s) := by rw [hb.cell ts_16]; exact bs_0_16
  have bs_1_17 : w17.cell? ⟨w4.heap.size, 1, none⟩ = some (.slice B_s m0 d_s) := by rw [hb.cell ts_16]; exact bs_1_16
  have ts_17 : w4.heap.size < w17.heap.size := Nat.lt_of_lt_of_le ts_16 hs17
  clear bs_0_16 bs_1_16 ts_16
  have bx_0_17 : w17.cell? ⟨w6.heap.size, 0, none⟩ = some (.slice (some ⟨g_x, 0, none⟩) n0 n0) := by rw [hb.cell tx_16]; exact bx_0_16
  have bx_1_17 : w17.cell? ⟨w6.heap.size, 1, none⟩ = some (.slice (some ⟨k_x, 0, none⟩) m0 m0) := by rw [hb.cell tx_16]; exact bx_1_16
  have tx_17 : w6.heap.size < w17.heap.size := Nat.lt_of_lt_of_le tx_16 hs17
  clear bx_0_16 bx_1_16 tx_16
  have bg_0_17 : w17.cell? ⟨w8.heap.size, 0, none⟩ = some (.slice A_g n0 c_g) := by rw [hb.cell tg_16]; exact bg_0_16
  have bg_1_17 : w17.cell? ⟨w8.heap.size, 1, none⟩ = some (.slice B_g m0 d_g) := by rw [hb.cell tg_16]; exact bg_1_16
  have tg_17 : w8.heap.size < w17.heap.size := Nat.lt_of_lt_of_le tg_16 hs17
  clear bg_0_16 bg_1_16 tg_16
  have Os_17 := hide (Os_16.out.below hb)
  clear Os_16
  have Ps_17 := hide (Ps_16.out.below hb)
  clear Ps_16
  have Ox_17 := hide (Ox_16.out.below hb)
  clear Ox_16
  have Px_17 := hide (Px_16.out.below hb)
  clear Px_16
  have Og_17 := hide (Og_16.out.below hb)
  clear Og_16
  have Pg_17 := hide (Pg_16.out.below hb)
  clear Pg_16
  have Oq_17 := hide (Oq_16.out.below hb)
  clear Oq_16
  have Pq_17 := hide (Pq_16.out.below hb)
  clear Pq_16
  clear hb
  have Or_17 := hide ho
  have Pr_17 := hide ho'
  have HDr := hide hd
  clear ho ho' hd
  have Lr : Hid (∀ g, g ∈ F_r ++ G_r → w16.heap.size ≤ g ∧ g < w17.heap.size) := hide (fun g hg => ⟨hF g hg, (List.mem_append.1 hg).elim (Or_17.out.lt g) (Pr_17.out.lt g)⟩)
  clear hF
  clear Oq_17 Pq_17
  go_wp2_with fail
  obtain ⟨w18, hW⟩ : ∃ W : World, W = w17.alloc (.cells #[(.slice A_r n0 c_r), (.slice B_r m0 d_r)] 27) := ⟨_, rfl⟩
  rw [← hW]
  have hb : Below w17.heap.size w17 w18 := by rw [hW]; exact (Below.refl _ _).alloc (Nat.le_refl _) _
  have nb0 : w18.cell? ⟨w17.heap.size, 0, none⟩ = some (.slice A_r n0 c_r) := by rw [hW]; go_simp
  have nb1 : w18.cell? ⟨w17.heap.size, 1, none⟩ = some (.slice B_r m0 d_r) := by rw [hW]; go_simp
  have nt : w17.heap.size < w18.heap.size := by rw [hW]; simp
  clear hW
  have HB18 := hide (HB17.out.trans (hb.mono HB17.out.size))
  have hs18 : w17.heap.size ≤ w18.heap.size := hb.size
  have b0_0_18 : w18.cell? ⟨w.heap.size, 0, none⟩ = some (.slice A0 n0 c0) := by rw [hb.cell t0_17]; exact b0_0_17
  have b0_1_18 : w18.cell? ⟨w.heap.size, 1, none⟩ = some (.slice B0 m0 d0) := by rw [hb.cell t0_17]; exact b0_1_17
  have t0_18 : w.heap.size < w18.heap.size := Nat.lt_of_lt_of_le t0_17 hs18
  clear b0_0_17 b0_1_17 t0_17
  have bs_0_18 : w18.cell? ⟨w4.heap.size, 0, none⟩ = some (.slice A_s n0 c_s) := by rw [hb.cell ts_17]; exact bs_0_17
  have bs_1_18 : w18.cell? ⟨w4.heap.size, 1, none⟩ = some (.slice B_s m0 d_s) := by rw [hb.cell ts_17]; exact bs_1_17
  have ts_18 : w4.heap.size < w18.heap.size := Nat.lt_of_lt_of_le ts_17 hs18
  clear bs_0_17 bs_1_17 ts_17
  have bx_0_18 : w18.cell? ⟨w6.heap.size, 0, none⟩ = some (.slice (some ⟨g_x, 0, none⟩) n0 n0) := by rw [hb.cell tx_17]; exact bx_0_17
  have bx_1_18 : w18.cell? ⟨w6.heap.size, 1, none⟩ = some (.slice (some ⟨k_x, 0, none⟩) m0 m0) := by rw [hb.cell tx_17]; exact bx_1_17
  have tx_18 : w6.heap.size < w18.heap.size := Nat.lt_of_lt_of_le tx_17 hs18
  clear bx_0_17 bx_1_17 tx_17
  have bg_0_18 : w18.cell? ⟨w8.heap.size, 0, none⟩ = some (.slice A_g n0 c_g) := by rw [hb.cell tg_17]; exact bg_0_17
  have bg_1_18 : w18.cell? ⟨w8.heap.size, 1, none⟩ = some (.slice B_g m0 d_g) := by rw [hb.cell tg_17]; exact bg_1_17
  have tg_18 : w8.heap.size < w18.heap.size := Nat.lt_of_lt_of_le tg_17 hs18
  clear bg_0_17 bg_1_17 tg_17
  have Os_18 := hide (Os_17.out.below hb)
  clear Os_17
  have Ps_18 := hide (Ps_17.out.below hb)
  clear Ps_17
  have Ox_18 := hide (Ox_17.out.below hb)
  clear Ox_17
  have Px_18 := hide (Px_17.out.below hb)
  clear Px_17
  have Og_18 := hide (Og_17.out.below hb)
  clear Og_17
  have Pg_18 := hide (Pg_17.out.below hb)
  clear Pg_17
  have Or_18 := hide (Or_17.out.below hb)
  clear Or_17
  have Pr_18 := hide (Pr_17.out.below hb)
  clear Pr_17
  clear hb
  have br_0_18 := nb0
  have br_1_18 := nb1
  have tr_18 := nt
  have ur := nt
  clear nb0 nb1 nt
  refine (eqHeap_same _ _ _ _ _ _ _ _ _ _ (setR z0 y0 a1 a2) y0 _ _ (by rw [setR_length]; exact Hn0.out) (by omega) Hm0.out (by omega) (Nat.le_refl _) (Or_18.out.rd).2 (Os_18.out.rd).2 (Pr_18.out.rd).2 (Ps_18.out.rd).2).mono ?_
  rintro e w19 ⟨rfl, hb⟩
  have HB19 := hide (HB18.out.trans (hb.mono HB18.out.size))
  have hs19 : w18.heap.size ≤ w19.heap.size := hb.size
  have b0_0_19 : w19.cell? ⟨w.heap.size, 0, none⟩ = some (.slice A0 n0 c0) := by rw [hb.cell t0_18]; exact b0_0_18
  have b0_1_19 : w19.cell? ⟨w.heap.size, 1, none⟩ = some (.slice B0 m0 d0) := by rw [hb.cell t0_18]; exact b0_1_18
  have t0_19 : w.heap.size < w19.heap.size := Nat.lt_of_lt_of_le t0_18 hs19
  clear b0_0_18 b0_1_18 t0_18
  have bs_0_19 : w19.cell? ⟨w4.heap.size, 0, none⟩ = some (.slice A_s n0 c_s) := by rw [hb.cell ts_18]; exact bs_0_18
  have bs_1_19 : w19.cell? ⟨w4.heap.size, 1, none⟩ = some (.slice B_s m0 d_s) := by rw [hb.cell ts_18]; exact bs_1_18
  have ts_19 : w4.heap.size < w19.heap.size := Nat.lt_of_lt_of_le ts_18 hs19
  clear bs_0_18 bs_1_18 ts_18
  have bx_0_19 : w19.cell? ⟨w6.heap.size, 0, none⟩ = some (.slice (some ⟨g_x, 0, none⟩) n0 n0) := by rw [hb.cell tx_18]; exact bx_0_18
  have bx_1_19 : w19.cell? ⟨w6.heap.size, 1, none⟩ = some (.slice (some ⟨k_x, 0, none⟩) m0 m0) := by rw [hb.cell tx_18]; exact bx_1_18
  have tx_19 : w6.heap.size < w19.heap.size := Nat.lt_of_lt_of_le tx_18 hs19
  clear bx_0_18 bx_1_18 tx_18
  have bg_0_19 : w19.cell? ⟨w8.heap.size, 0, none⟩ = some (.slice A_g n0 c_g) := by rw [hb.cell tg_18]; exact bg_0_18
  have bg_1_19 : w19.cell? ⟨w8.heap.size, 1, none⟩ = some (.slice B_g m0 d_g) := by rw [hb.cell tg_18]; exact bg_1_18
  have tg_19 : w8.heap.size < w19.heap.size := Nat.lt_of_lt_of_le tg_18 hs19
  clear bg_0_18 bg_1_18 tg_18
  have br_0_19 : w19.cell? ⟨w17.heap.size, 0, none⟩ = some (.slice A_r n0 c_r) := by rw [hb.cell tr_18]; exact br_0_18
  have br_1_19 : w19.cell? ⟨w17.heap.size, 1, none⟩ = some (.slice B_r m0 d_r) := by rw [hb.cell tr_18]; exact br_1_18
  have tr_19 : w17.heap.size < w19.heap.size := Nat.lt_of_lt_of_le tr_18 hs19
  clear br_0_18 br_1_18 tr_18
  have Os_19 := hide (Os_18.out.below hb)
  clear Os_18
  have Ps_19 := hide (Ps_18.out.below hb)
  clear Ps_18
  have Ox_19 := hide (Ox_18.out.below hb)
  clear Ox_18
  have Px_19 := hide (Px_18.out.below hb)
  clear Px_18
  have Og_19 := hide (Og_18.out.below hb)
  clear Og_18
  have Pg_19 := hide (Pg_18.out.below hb)
  clear Pg_18
  have Or_19 := hide (Or_18.out.below hb)
  clear Or_18
  have Pr_19 := hide (Pr_18.out.below hb)
  clear Pr_18
  clear hb
  clear Or_19 Pr_19
  go_wp2_with fail
  refine (heldHeap_same _ _ _ _ _ _ 1 _ (Og_19.out.rd).2 (Pg_19.out.rd).2 (by omega) (by omega) (by omega)).mono ?_
  rintro e w20 ⟨rfl, hb⟩
  have HB20 := hide (HB19.out.trans (hb.mono HB19.out.size))
  have hs20 : w19.heap.size ≤ w20.heap.size := hb.size
  have b0_0_20 : w20.cell? ⟨w.heap.size, 0, none⟩ = some (.slice A0 n0 c0) := by rw [hb.cell t0_19]; exact b0_0_19
  have b0_1_20 : w20.cell? ⟨w.heap.size, 1, none⟩ = some (.slice B0 m0 d0) := by rw [hb.cell t0_19]; exact b0_1_19
  have t0_20 : w.heap.size < w20.heap.size := Nat.lt_of_lt_of_le t0_19 hs20
  clear b0_0_19 b0_1_19 t0_19
  have bs_0_20 : w20.cell? ⟨w4.heap.size, 0, none⟩ = some (.slice A_s n0 c_s) := by rw [hb.cell ts_19]; exact bs_0_19
  have bs_1_20 : w20.cell? ⟨w4.heap.size, 1, none⟩ = some (.slice B_s m0 d_s) := by rw [hb.cell ts_19]; exact bs_1_19
  have ts_20 : w4.heap.size < w20.heap.size := Nat.lt_of_lt_of_le ts_19 hs20
  clear bs_0_19 bs_1_19 ts_19
  have bx_0_20 : w20.cell? ⟨w6.heap.size, 0, none⟩ = some (.slice (some ⟨g_x, 0, none⟩) n0 n0) := by rw [hb.cell tx_19]; exact bx_0_19
  have bx_1_20 : w20.cell? ⟨w6.heap.size, 1, none⟩ = some (.slice (some ⟨k_x, 0, none⟩) m0 m0) := by rw [hb.cell tx_19]; exact bx_1_19
  have tx_20 : w6.heap.size < w20.heap.size := Nat.lt_of_lt_of_le tx_19 hs20
  clear bx_0_19 bx_1_19 tx_19
  have bg_0_20 : w20.cell? ⟨w8.heap.size, 0, none⟩ = some (.slice A_g n0 c_g) := by rw [hb.cell tg_19]; exact bg_0_19
  have bg_1_20 : w20.cell? ⟨w8.heap.size, 1, none⟩ = some (.slice B_g m0 d_g) := by rw [hb.cell tg_19]; exact bg_1_19
  have tg_20 : w8.heap.size < w20.heap.size := Nat.lt_of_lt_of_le tg_19 hs20
  clear bg_0_19 bg_1_19 tg_19
  have br_0_20 : w20.cell? ⟨w17.heap.size, 0, none⟩ = some (.slice A_r n0 c_r) := by rw [hb.cell tr_19]; exact br_0_19
  have br_1_20 : w20.cell? ⟨w17.heap.size, 1, none⟩ = some (.slice B_r m0 d_r) := by rw [hb.cell tr_19]; exact br_1_19
  have tr_20 : w17.heap.size < w20.heap.size := Nat.lt_of_lt_of_le tr_19 hs20
  clear br_0_19 br_1_19 tr_19
  have Os_20 := hide (Os_19.out.below hb)
  clear Os_19
  have Ps_20 := hide (Ps_19.out.below hb)
  clear Ps_19
  have Ox_20 := hide (Ox_19.out.below hb)
  clear Ox_19
  have Px_20 := hide (Px_19.out.below hb)
  clear Px_19
  have Og_20 := hide (Og_19.out.below hb)
  clear Og_19
  have Pg_20 := hide (Pg_19.out.below hb)
  clear Pg_19
  clear hb
  go_wp2
  go_ret
  exact ⟨rfl, HB20.out⟩
end Go.Proofs.Ytjjfblejccfplaa
