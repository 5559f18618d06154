/-
  Grant: the walk of its law.
-/
import Derived.Test.YtjjfblejccfplaaGrantI
namespace Go.Proofs.Ytjjfblejccfplaa
open Go.RowKit
set_option linter.unusedVariables false

theorem gS_le (x y : List Int) (c : Int) : (gS x y c).length ≤ 4 := by
  unfold gS
  split
  · unfold grS
    split
    · rw [gsN_length]
      have := perC_bd c
      omega
    · simp
  · simp
set_option maxRecDepth 100000 in
set_option maxHeartbeats 6400000 in
theorem fnExactGrant_walk (v0_0 v0_1 : Value) (a1 : Int) (w : World) (h0 : HeapArg w v0_0 v0_1) (h1 : (Lit.int .i64 a1).wf = true) :
    Calls Try.prog 11 #[.agg #[v0_0, v0_1], .int .i64 a1] w fun e w' => e = .returned (.bool true) ∧ Below w.heap.size w w' := by
  obtain ⟨A0, n0, c0, z0, B0, m0, d0, y0, rfl, rfl, ⟨hn0, hnc0, hc0, hr0, hx0⟩, ⟨hm0, hmd0, hd0, hs0, hy0⟩⟩ := h0
  have Hn0 := hide hn0
  clear hn0
  have Hm0 := hide hm0
  clear hm0
  have Hr0 := hide hr0
  clear hr0
  have Hs0 := hide hs0
  clear hs0
  have Hx0 := hide hx0
  clear hx0
  have Hy0 := hide hy0
  clear hy0
  have hb1 := bounds_i64 h1
  clear h1
  have HB0 := hide (Below.refl w.heap.size w)
  have hcl : (gS z0 y0 a1).length ≤ 4 := gS_le z0 y0 a1
  have hpos : ¬ (1 + (n0 : Int) + (m0 : Int)) < 0 := by omega
  have hpos2 : ¬ (1 + (n0 : Int) + (m0 : Int) + ((gS z0 y0 a1).length : Int)) < 0 := by omega
  go_enter Try.func11, Try.ntmps11
  go_wp2_with fail
  obtain ⟨w1, hW⟩ : ∃ W : World, W = w.alloc (.cells #[(.slice A0 n0 c0), (.slice B0 m0 d0)] 24) := ⟨_, rfl⟩
  rw [← hW]
  have hb : Below w.heap.size w w1 := by rw [hW]; exact (Below.refl _ _).alloc (Nat.le_refl _) _
  have nb0 : w1.cell? ⟨w.heap.size, 0, none⟩ = some (.slice A0 n0 c0) := by rw [hW]; go_simp
  have nb1 : w1.cell? ⟨w.heap.size, 1, none⟩ = some (.slice B0 m0 d0) := by rw [hW]; go_simp
  have nt : w.heap.size < w1.heap.size := by rw [hW]; simp
  clear hW
  have HB1 := hide (HB0.out.trans (hb.mono HB0.out.size))
  have hs1 : w.heap.size ≤ w1.heap.size := hb.size
  clear hb
  have b0_0_1 := nb0
  have b0_1_1 := nb1
  have t0_1 := nt
  have u0 := nt
  clear nb0 nb1 nt
  by_cases hbig0 : (n0 : Int) + m0 ≤ 1048576
  case neg =>
    refine (szHeap_no A0 B0 n0 c0 m0 d0 (1048576) _ (by omega) (by omega) hnc0 hc0 hmd0 hd0 (by omega)).mono ?_
    rintro e v1 ⟨rfl, hb⟩
    have HV := hide (HB1.out.trans (hb.mono HB1.out.size))
    clear hb
    go_wp2
    go_ret
    exact ⟨rfl, HV.out⟩
  refine (szHeap_yes A0 B0 n0 c0 m0 d0 (1048576) _ (by omega) (by omega) hbig0).mono ?_
  rintro e w2 ⟨rfl, hb⟩
  have HB2 := hide (HB1.out.trans (hb.mono HB1.out.size))
  have hs2 : w1.heap.size ≤ w2.heap.size := hb.size
  have b0_0_2 : w2.cell? ⟨w.heap.size, 0, none⟩ = some (.slice A0 n0 c0) := by rw [hb.cell t0_1]; exact b0_0_1
  have b0_1_2 : w2.cell? ⟨w.heap.size, 1, none⟩ = some (.slice B0 m0 d0) := by rw [hb.cell t0_1]; exact b0_1_1
  have t0_2 : w.heap.size < w2.heap.size := Nat.lt_of_lt_of_le t0_1 hs2
  clear b0_0_1 b0_1_1 t0_1
  clear hb
  have hq0 : ¬ 1048576 - (n0 : Int) - (m0 : Int) < 0 := by omega
  go_wp2_with fail
  refine (toHeap_any A0 B0 n0 c0 m0 d0 z0 y0 _ Hn0.out (by omega) Hm0.out (by omega) ((Hr0.out.below HB2.out (Nat.le_refl _)).more HB2.out.size) ((Hs0.out.below HB2.out (Nat.le_refl _)).more HB2.out.size)).mono ?_
  rintro e w3 ⟨g_a, k_a, rfl, ho, ho', l1_a, l2_a, l3_a, hb⟩
  have HB3 := hide (HB2.out.trans (hb.mono HB2.out.size))
  have hs3 : w2.heap.size ≤ w3.heap.size := hb.size
  have b0_0_3 : w3.cell? ⟨w.heap.size, 0, none⟩ = some (.slice A0 n0 c0) := by rw [hb.cell t0_2]; exact b0_0_2
  have b0_1_3 : w3.cell? ⟨w.heap.size, 1, none⟩ = some (.slice B0 m0 d0) := by rw [hb.cell t0_2]; exact b0_1_2
  have t0_3 : w.heap.size < w3.heap.size := Nat.lt_of_lt_of_le t0_2 hs3
  clear b0_0_2 b0_1_2 t0_2
  clear hb
  have Oa_3 := hide ho
  have Pa_3 := hide ho'
  clear ho ho'
  have La : Hid (∀ g, g ∈ [g_a] ++ [k_a] → w2.heap.size ≤ g ∧ g < w3.heap.size) := hide (by simp <;> omega)
  go_wp2_with fail
  refine (specGrant_any _ _ _ _ _ _ z0 y0 a1 _ Hn0.out Hm0.out (by omega) (by omega) (Nat.le_refl _) (by unfold maxLen; omega) (Oa_3.out.rd).2 (Pa_3.out.rd).2).mono ?_
  rintro e w4 ⟨A_s, c_s, F_s, B_s, d_s, G_s, A_t, c_t, F_t, rfl, ⟨ho, ho', hF, hd, hb⟩, hos, hG⟩
  have HB4 := hide (HB3.out.trans (hb.mono HB3.out.size))
  have hs4 : w3.heap.size ≤ w4.heap.size := hb.size
  have b0_0_4 : w4.cell? ⟨w.heap.size, 0, none⟩ = some (.slice A0 n0 c0) := by rw [hb.cell t0_3]; exact b0_0_3
  have b0_1_4 : w4.cell? ⟨w.heap.size, 1, none⟩ = some (.slice B0 m0 d0) := by rw [hb.cell t0_3]; exact b0_1_3
  have t0_4 : w.heap.size < w4.heap.size := Nat.lt_of_lt_of_le t0_3 hs4
  clear b0_0_3 b0_1_3 t0_3
  have Oa_4 := hide (Oa_3.out.below hb)
  clear Oa_3
  have Pa_4 := hide (Pa_3.out.below hb)
  clear Pa_3
  clear hb
  have Os_4 := hide ho
  have Ps_4 := hide ho'
  have HDs := hide hd
  have Ot_4 := hide hos
  clear ho ho' hd hos
  have Ls : Hid (∀ g, g ∈ F_s ++ G_s → w3.heap.size ≤ g ∧ g < w4.heap.size) := hide (fun g hg => ⟨hF g hg, (List.mem_append.1 hg).elim (Os_4.out.lt g) (Ps_4.out.lt g)⟩)
  clear hF
  have Lt : Hid (∀ g, g ∈ F_t → w3.heap.size ≤ g ∧ g < w4.heap.size) := hide (fun g hg => ⟨(hG g hg).1, Ot_4.out.lt g hg⟩)
  have HDGt : Hid (∀ g, g ∈ F_t → g ∉ F_s ++ G_s) := hide (fun g hg => (hG g hg).2)
  clear hG
  clear Oa_4 Pa_4
  go_wp2_with fail
  obtain ⟨w5, hW⟩ : ∃ W : World, W = w4.alloc (.cells #[(.slice A_s n0 c_s), (.slice B_s m0 d_s)] 27) := ⟨_, rfl⟩
  rw [← hW]
  have hb : Below w4.heap.size w4 w5 := by rw [hW]; exact (Below.refl _ _).alloc (Nat.le_refl _) _
  have nb0 : w5.cell? ⟨w4.heap.size, 0, none⟩ = some (.slice A_s n0 c_s) := by rw [hW]; go_simp
  have nb1 : w5.cell? ⟨w4.heap.size, 1, none⟩ = some (.slice B_s m0 d_s) := by rw [hW]; go_simp
  have nt : w4.heap.size < w5.heap.size := by rw [hW]; simp
  clear hW
  have HB5 := hide (HB4.out.trans (hb.mono HB4.out.size))
  have hs5 : w4.heap.size ≤ w5.heap.size := hb.size
  have b0_0_5 : w5.cell? ⟨w.heap.size, 0, none⟩ = some (.slice A0 n0 c0) := by rw [hb.cell t0_4]; exact b0_0_4
  have b0_1_5 : w5.cell? ⟨w.heap.size, 1, none⟩ = some (.slice B0 m0 d0) := by rw [hb.cell t0_4]; exact b0_1_4
  have t0_5 : w.heap.size < w5.heap.size := Nat.lt_of_lt_of_le t0_4 hs5
  clear b0_0_4 b0_1_4 t0_4
  have Os_5 := hide (Os_4.out.below hb)
  clear Os_4
  have Ps_5 := hide (Ps_4.out.below hb)
  clear Ps_4
  have Ot_5 := hide (Ot_4.out.below hb)
  clear Ot_4
  clear hb
  have bs_0_5 := nb0
  have bs_1_5 := nb1
  have ts_5 := nt
  have us := nt
  clear nb0 nb1 nt
  refine (toHeap_any A0 B0 n0 c0 m0 d0 z0 y0 _ Hn0.out (by omega) Hm0.out (by omega) ((Hr0.out.below HB5.out (Nat.le_refl _)).more HB5.out.size) ((Hs0.out.below HB5.out (Nat.le_refl _)).more HB5.out.size)).mono ?_
  rintro e w6 ⟨g_x, k_x, rfl, ho, ho', l1_x, l2_x, l3_x, hb⟩
  have HB6 := hide (HB5.out.trans (hb.mono HB5.out.size))
  have hs6 : w5.heap.size ≤ w6.heap.size := hb.size
  have b0_0_6 : w6.cell? ⟨w.heap.size, 0, none⟩ = some (.slice A0 n0 c0) := by rw [hb.cell t0_5]; exact b0_0_5
  have b0_1_6 : w6.cell? ⟨w.heap.size, 1, none⟩ = some (.slice B0 m0 d0) := by rw [hb.cell t0_5]; exact b0_1_5
  have t0_6 : w.heap.size < w6.heap.size := Nat.lt_of_lt_of_le t0_5 hs6
  clear b0_0_5 b0_1_5 t0_5
  have bs_0_6 : w6.cell? ⟨w4.heap.size, 0, none⟩ = some (.slice A_s n0 c_s) := by rw [hb.cell ts_5]; exact bs_0_5
  have bs_1_6 : w6.cell? ⟨w4.heap.size, 1, none⟩ = some (.slice B_s m0 d_s) := by rw [hb.cell ts_5]; exact bs_1_5
  have ts_6 : w4.heap.size < w6.heap.size := Nat.lt_of_lt_of_le ts_5 hs6
  clear bs_0_5 bs_1_5 ts_5
  have Os_6 := hide (Os_5.out.below hb)
  clear Os_5
  have Ps_6 := hide (Ps_5.out.below hb)
  clear Ps_5
  have Ot_6 := hide (Ot_5.out.below hb)
  clear Ot_5
  clear hb
  have Ox_6 := hide ho
  have Px_6 := hide ho'
  clear ho ho'
  have Lx : Hid (∀ g, g ∈ [g_x] ++ [k_x] → w5.heap.size ≤ g ∧ g < w6.heap.size) := hide (by simp <;> omega)
  go_wp2_with fail
  obtain ⟨w7, hW⟩ : ∃ W : World, W = w6.alloc (.cells #[(.slice (some ⟨g_x, 0, none⟩) n0 n0), (.slice (some ⟨k_x, 0, none⟩) m0 m0)] 27) := ⟨_, rfl⟩
  rw [← hW]
  have hb : Below w6.heap.size w6 w7 := by rw [hW]; exact (Below.refl _ _).alloc (Nat.le_refl _) _
  have nb0 : w7.cell? ⟨w6.heap.size, 0, none⟩ = some (.slice (some ⟨g_x, 0, none⟩) n0 n0) := by rw [hW]; go_simp
  have nb1 : w7.cell? ⟨w6.heap.size, 1, none⟩ = some (.slice (some ⟨k_x, 0, none⟩) m0 m0) := by rw [hW]; go_simp
  have nt : w6.heap.size < w7.heap.size := by rw [hW]; simp
  clear hW
  have HB7 := hide (HB6.out.trans (hb.mono HB6.out.size))
  have hs7 : w6.heap.size ≤ w7.heap.size := hb.size
  have b0_0_7 : w7.cell? ⟨w.heap.size, 0, none⟩ = some (.slice A0 n0 c0) := by rw [hb.cell t0_6]; exact b0_0_6
  have b0_1_7 : w7.cell? ⟨w.heap.size, 1, none⟩ = some (.slice B0 m0 d0) := by rw [hb.cell t0_6]; exact b0_1_6
  have t0_7 : w.heap.size < w7.heap.size := Nat.lt_of_lt_of_le t0_6 hs7
  clear b0_0_6 b0_1_6 t0_6
  have bs_0_7 : w7.cell? ⟨w4.heap.size, 0, none⟩ = some (.slice A_s n0 c_s) := by rw [hb.cell ts_6]; exact bs_0_6
  have bs_1_7 : w7.cell? ⟨w4.heap.size, 1, none⟩ = some (.slice B_s m0 d_s) := by rw [hb.cell ts_6]; exact bs_1_6
  have ts_7 : w4.heap.size < w7.heap.size := Nat.lt_of_lt_of_le ts_6 hs7
  clear bs_0_6 bs_1_6 ts_6
  have Os_7 := hide (Os_6.out.below hb)
  clear Os_6
  have Ps_7 := hide (Ps_6.out.below hb)
  clear Ps_6
  have Ot_7 := hide (Ot_6.out.below hb)
  clear Ot_6
  have Ox_7 := hide (Ox_6.out.below hb)
  clear Ox_6
  have Px_7 := hide (Px_6.out.below hb)
  clear Px_6
  clear hb
  have bx_0_7 := nb0
  have bx_1_7 := nb1
  have tx_7 := nt
  have ux := nt
  clear nb0 nb1 nt
  refine (implGrant_any _ _ _ _ _ _ z0 y0 a1 _ Hn0.out Hm0.out (by omega) (by omega) (Nat.le_refl _) (by unfold maxLen; omega) (Ox_7.out.rd).2 (Px_7.out.rd).2).mono ?_
  rintro e w8 ⟨A_g, c_g, F_g, B_g, d_g, G_g, A_h, c_h, F_h, rfl, ⟨ho, ho', hF, hd, hb⟩, hos, hG⟩
  have HB8 := hide (HB7.out.trans (hb.mono HB7.out.size))
  have hs8 : w7.heap.size ≤ w8.heap.size := hb.size
  have b0_0_8 : w8.cell? ⟨w.heap.size, 0, none⟩ = some (.slice A0 n0 c0) := by rw [hb.cell t0_7]; exact b0_0_7
  have b0_1_8 : w8.cell? ⟨w.heap.size, 1, none⟩ = some (.slice B0 m0 d0) := by rw [hb.cell t0_7]; exact b0_1_7
  have t0_8 : w.heap.size < w8.heap.size := Nat.lt_of_lt_of_le t0_7 hs8
  clear b0_0_7 b0_1_7 t0_7
  have bs_0_8 : w8.cell? ⟨w4.heap.size, 0, none⟩ = some (.slice A_s n0 c_s) := by rw [hb.cell ts_7]; exact bs_0_7
  have bs_1_8 : w8.cell? ⟨w4.heap.size, 1, none⟩ = some (.slice B_s m0 d_s) := by rw [hb.cell ts_7]; exact bs_1_7
  have ts_8 : w4.heap.size < w8.heap.size := Nat.lt_of_lt_of_le ts_7 hs8
  clear bs_0_7 bs_1_7 ts_7
  have bx_0_8 : w8.cell? ⟨w6.heap.size, 0, none⟩ = some (.slice (some ⟨g_x, 0, none⟩) n0 n0) := by rw [hb.cell tx_7]; exact bx_0_7
  have bx_1_8 : w8.cell? ⟨w6.heap.size, 1, none⟩ = some (.slice (some ⟨k_x, 0, none⟩) m0 m0) := by rw [hb.cell tx_7]; exact bx_1_7
  have tx_8 : w6.heap.size < w8.heap.size := Nat.lt_of_lt_of_le tx_7 hs8
  clear bx_0_7 bx_1_7 tx_7
  have Os_8 := hide (Os_7.out.below hb)
  clear Os_7
  have Ps_8 := hide (Ps_7.out.below hb)
  clear Ps_7
  have Ot_8 := hide (Ot_7.out.below hb)
  clear Ot_7
  have Ox_8 := hide (Ox_7.out.below hb)
  clear Ox_7
  have Px_8 := hide (Px_7.out.below hb)
  clear Px_7
  clear hb
  have Og_8 := hide ho
  have Pg_8 := hide ho'
  have HDg := hide hd
  have Oh_8 := hide hos
  clear ho ho' hd hos
  have Lg : Hid (∀ g, g ∈ F_g ++ G_g → w7.heap.size ≤ g ∧ g < w8.heap.size) := hide (fun g hg => ⟨hF g hg, (List.mem_append.1 hg).elim (Og_8.out.lt g) (Pg_8.out.lt g)⟩)
  clear hF
  have Lh : Hid (∀ g, g ∈ F_h → w7.heap.size ≤ g ∧ g < w8.heap.size) := hide (fun g hg => ⟨(hG g hg).1, Oh_8.out.lt g hg⟩)
  have HDGh : Hid (∀ g, g ∈ F_h → g ∉ F_g ++ G_g) := hide (fun g hg => (hG g hg).2)
  clear hG
  go_wp2_with fail
  obtain ⟨w9, hW⟩ : ∃ W : World, W = w8.alloc (.cells #[(.slice A_g n0 c_g), (.slice B_g m0 d_g)] 27) := ⟨_, rfl⟩
  rw [← hW]
  have hb : Below w8.heap.size w8 w9 := by rw [hW]; exact (Below.refl _ _).alloc (Nat.le_refl _) _
  have nb0 : w9.cell? ⟨w8.heap.size, 0, none⟩ = some (.slice A_g n0 c_g) := by rw [hW]; go_simp
  have nb1 : w9.cell? ⟨w8.heap.size, 1, none⟩ = some (.slice B_g m0 d_g) := by rw [hW]; go_simp
  have nt : w8.heap.size < w9.heap.size := by rw [hW]; simp
  clear hW
  have HB9 := hide (HB8.out.trans (hb.mono HB8.out.size))
  have hs9 : w8.heap.size ≤ w9.heap.size := hb.size
  have b0_0_9 : w9.cell? ⟨w.heap.size, 0, none⟩ = some (.slice A0 n0 c0) := by rw [hb.cell t0_8]; exact b0_0_8
  have b0_1_9 : w9.cell? ⟨w.heap.size, 1, none⟩ = some (.slice B0 m0 d0) := by rw [hb.cell t0_8]; exact b0_1_8
  have t0_9 : w.heap.size < w9.heap.size := Nat.lt_of_lt_of_le t0_8 hs9
  clear b0_0_8 b0_1_8 t0_8
  have bs_0_9 : w9.cell? ⟨w4.heap.size, 0, none⟩ = some (.slice A_s n0 c_s) := by rw [hb.cell ts_8]; exact bs_0_8
  have bs_1_9 : w9.cell? ⟨w4.heap.size, 1, none⟩ = some (.slice B_s m0 d_s) := by rw [hb.cell ts_8]; exact bs_1_8
  have ts_9 : w4.heap.size < w9.heap.size := Nat.lt_of_lt_of_le ts_8 hs9
  clear bs_0_8 bs_1_8 ts_8
  have bx_0_9 : w9.cell? ⟨w6.heap.size, 0, none⟩ = some (.slice (some ⟨g_x, 0, none⟩) n0 n0) := by rw [hb.cell tx_8]; exact bx_0_8
  have bx_1_9 : w9.cell? ⟨w6.heap.size, 1, none⟩ = some (.slice (some ⟨k_x, 0, none⟩) m0 m0) := by rw [hb.cell tx_8]; exact bx_1_8
  have tx_9 : w6.heap.size < w9.heap.size := Nat.lt_of_lt_of_le tx_8 hs9
  clear bx_0_8 bx_1_8 tx_8
  have Os_9 := hide (Os_8.out.below hb)
  clear Os_8
  have Ps_9 := hide (Ps_8.out.below hb)
  clear Ps_8
  have Ot_9 := hide (Ot_8.out.below hb)
  clear Ot_8
  have Ox_9 := hide (Ox_8.out.below hb)
  clear Ox_8
  have Px_9 := hide (Px_8.out.below hb)
  clear Px_8
  have Og_9 := hide (Og_8.out.below hb)
  clear Og_8
  have Pg_9 := hide (Pg_8.out.below hb)
  clear Pg_8
  have Oh_9 := hide (Oh_8.out.below hb)
  clear Oh_8
  clear hb
  have bg_0_9 := nb0
  have bg_1_9 := nb1
  have tg_9 := nt
  have ug := nt
  clear nb0 nb1 nt
  refine (eqHeap_same _ _ _ _ _ _ _ _ _ _ (gX z0 y0 a1) (gY z0 y0 a1) _ _ (by rw [gX_length]; exact Hn0.out) (by omega) (by rw [gY_length]; exact Hm0.out) (by omega) (Nat.le_refl _) (Og_9.out.rd).2 (Os_9.out.rd).2 (Pg_9.out.rd).2 (Ps_9.out.rd).2).mono ?_
  rintro e w10 ⟨rfl, hb⟩
  have HB10 := hide (HB9.out.trans (hb.mono HB9.out.size))
  have hs10 : w9.heap.size ≤ w10.heap.size := hb.size
  have b0_0_10 : w10.cell? ⟨w.heap.size, 0, none⟩ = some (.slice A0 n0 c0) := by rw [hb.cell t0_9]; exact b0_0_9
  have b0_1_10 : w10.cell? ⟨w.heap.size, 1, none⟩ = some (.slice B0 m0 d0) := by rw [hb.cell t0_9]; exact b0_1_9
  have t0_10 : w.heap.size < w10.heap.size := Nat.lt_of_lt_of_le t0_9 hs10
  clear b0_0_9 b0_1_9 t0_9
  have bs_0_10 : w10.cell? ⟨w4.heap.size, 0, none⟩ = some (.slice A_s n0 c_s) := by rw [hb.cell ts_9]; exact bs_0_9
  have bs_1_10 : w10.cell? ⟨w4.heap.size, 1, none⟩ = some (.slice B_s m0 d_s) := by rw [hb.cell ts_9]; exact bs_1_9
  have ts_10 : w4.heap.size < w10.heap.size := Nat.lt_of_lt_of_le ts_9 hs10
  clear bs_0_9 bs_1_9 ts_9
  have bx_0_10 : w10.cell? ⟨w6.heap.size, 0, none⟩ = some (.slice (some ⟨g_x, 0, none⟩) n0 n0) := by rw [hb.cell tx_9]; exact bx_0_9
  have bx_1_10 : w10.cell? ⟨w6.heap.size, 1, none⟩ = some (.slice (some ⟨k_x, 0, none⟩) m0 m0) := by rw [hb.cell tx_9]; exact bx_1_9
  have tx_10 : w6.heap.size < w10.heap.size := Nat.lt_of_lt_of_le tx_9 hs10
  clear bx_0_9 bx_1_9 tx_9
  have bg_0_10 : w10.cell? ⟨w8.heap.size, 0, none⟩ = some (.slice A_g n0 c_g) := by rw [hb.cell tg_9]; exact bg_0_9
  have bg_1_10 : w10.cell? ⟨w8.heap.size, 1, none⟩ = some (.slice B_g m0 d_g) := by rw [hb.cell tg_9]; exact bg_1_9
  have tg_10 : w8.heap.size < w10.heap.size := Nat.lt_of_lt_of_le tg_9 hs10
  clear bg_0_9 bg_1_9 tg_9
  have Os_10 := hide (Os_9.out.below hb)
  clear Os_9
  have Ps_10 := hide (Ps_9.out.below hb)
  clear Ps_9
  have Ot_10 := hide (Ot_9.out.below hb)
  clear Ot_9
  have Ox_10 := hide (Ox_9.out.below hb)
  clear Ox_9
  have Px_10 := hide (Px_9.out.below hb)
  clear Px_9
  have Og_10 := hide (Og_9.out.below hb)
  clear Og_9
  have Pg_10 := hide (Pg_9.out.below hb)
  clear Pg_9
  have Oh_10 := hide (Oh_9.out.below hb)
  clear Oh_9
  clear hb
  go_wp2_with fail
  refine (eqIntS_same _ _ _ _ _ (gS z0 y0 a1) w10.heap.size _ rfl (by omega) (Oh_10.out.rd).2 (Ot_10.out.rd).2).mono ?_
  rintro e w11 ⟨rfl, hb⟩
  have HB11 := hide (HB10.out.trans (hb.mono HB10.out.size))
  have hs11 : w10.heap.size ≤ w11.heap.size := hb.size
  have b0_0_11 : w11.cell? ⟨w.heap.size, 0, none⟩ = some (.slice A0 n0 c0) := by rw [hb.cell t0_10]; exact b0_0_10
  have b0_1_11 : w11.cell? ⟨w.heap.size, 1, none⟩ = some (.slice B0 m0 d0) := by rw [hb.cell t0_10]; exact b0_1_10
  have t0_11 : w.heap.size < w11.heap.size := Nat.lt_of_lt_of_le t0_10 hs11
  clear b0_0_10 b0_1_10 t0_10
  have bs_0_11 : w11.cell? ⟨w4.heap.size, 0, none⟩ = some (.slice A_s n0 c_s) := by rw [hb.cell ts_10]; exact bs_0_10
  have bs_1_11 : w11.cell? ⟨w4.heap.size, 1, none⟩ = some (.slice B_s m0 d_s) := by rw [hb.cell ts_10]; exact bs_1_10
  have ts_11 : w4.heap.size < w11.heap.size := Nat.lt_of_lt_of_le ts_10 hs11
  clear bs_0_10 bs_1_10 ts_10
  have bx_0_11 : w11.cell? ⟨w6.heap.size, 0, none⟩ = some (.slice (some ⟨g_x, 0, none⟩) n0 n0) := by rw [hb.cell tx_10]; exact bx_0_10
  have bx_1_11 : w11.cell? ⟨w6.heap.size, 1, none⟩ = some (.slice (some ⟨k_x, 0, none⟩) m0 m0) := by rw [hb.cell tx_10]; exact bx_1_10
  have tx_11 : w6.heap.size < w11.heap.size := Nat.lt_of_lt_of_le tx_10 hs11
  clear bx_0_10 bx_1_10 tx_10
  have bg_0_11 : w11.cell? ⟨w8.heap.size, 0, none⟩ = some (.slice A_g n0 c_g) := by rw [hb.cell tg_10]; exact bg_0_10
  have bg_1_11 : w11.cell? ⟨w8.heap.size, 1, none⟩ = some (.slice B_g m0 d_g) := by rw [hb.cell tg_10]; exact bg_1_10
  have tg_11 : w8.heap.size < w11.heap.size := Nat.lt_of_lt_of_le tg_10 hs11
  clear bg_0_10 bg_1_10 tg_10
  have Os_11 := hide (Os_10.out.below hb)
  clear Os_10
  have Ps_11 := hide (Ps_10.out.below hb)
  clear Ps_10
  have Ot_11 := hide (Ot_10.out.below hb)
  clear Ot_10
  have Ox_11 := hide (Ox_10.out.below hb)
  clear Ox_10
  have Px_11 := hide (Px_10.out.below hb)
  clear Px_10
  have Og_11 := hide (Og_10.out.below hb)
  clear Og_10
  have Pg_11 := hide (Pg_10.out.below hb)
  clear Pg_10
  have Oh_11 := hide (Oh_10.out.below hb)
  clear Oh_10
  clear hb
  go_wp2_with fail
  go_region_held3 (fun w' => (w'.cell? ⟨w6.heap.size, 0, none⟩ = some (.slice (some ⟨g_x, 0, none⟩) n0 n0) ∧ w'.cell? ⟨w6.heap.size, 1, none⟩ = some (.slice (some ⟨k_x, 0, none⟩) m0 m0) ∧ w'.cell? ⟨w.heap.size, 0, none⟩ = some (.slice A0 n0 c0) ∧ w'.cell? ⟨w.heap.size, 1, none⟩ = some (.slice B0 m0 d0)) ∧ Below w11.heap.size w11 w')
    (first | (exact keep22 tx_11 tx_11 t0_11 t0_11 (by assumption) (by assumption)) | (exact ⟨⟨bx_0_11, bx_1_11, b0_0_11, b0_1_11⟩, (Below.refl _ _).drew⟩))
    (first
      | (go_at_call 14; refine (toHeap_any A0 B0 n0 c0 m0 d0 z0 y0 _ Hn0.out (by omega) Hm0.out (by omega) (rdS Hr0.out HB11.out (by assumption)) (rdS Hs0.out HB11.out (by assumption))).mono ?_; rintro e w' ⟨g, g', rfl, ho, ho', _, _, _, hb⟩)
      | (go_at_call 16; refine (eqHeap_same _ _ _ _ _ _ _ _ _ _ z0 y0 _ _ Hn0.out (by omega) Hm0.out (by omega) (Nat.le_refl _) (ownS Ox_11.out (by assumption)) (ownR (by assumption)) (ownS Px_11.out (by assumption)) (ownR (by assumption))).mono ?_; rintro e w' ⟨rfl, hb⟩))
  have hS := ‹(_ ∧ _) ∧ Below w11.heap.size w11 _›
  obtain ⟨w12, rfl, -, hb⟩ := named (C := fun W => (W.cell? ⟨w6.heap.size, 0, none⟩ = some (.slice (some ⟨g_x, 0, none⟩) n0 n0) ∧ W.cell? ⟨w6.heap.size, 1, none⟩ = some (.slice (some ⟨k_x, 0, none⟩) m0 m0) ∧ W.cell? ⟨w.heap.size, 0, none⟩ = some (.slice A0 n0 c0) ∧ W.cell? ⟨w.heap.size, 1, none⟩ = some (.slice B0 m0 d0))) hS
  clear hS
  have HB12 := hide (HB11.out.trans (hb.mono HB11.out.size))
  have hs12 : w11.heap.size ≤ w12.heap.size := hb.size
  have b0_0_12 : w12.cell? ⟨w.heap.size, 0, none⟩ = some (.slice A0 n0 c0) := by rw [hb.cell t0_11]; exact b0_0_11
  have b0_1_12 : w12.cell? ⟨w.heap.size, 1, none⟩ = some (.slice B0 m0 d0) := by rw [hb.cell t0_11]; exact b0_1_11
  have t0_12 : w.heap.size < w12.heap.size := Nat.lt_of_lt_of_le t0_11 hs12
  clear b0_0_11 b0_1_11 t0_11
  have bs_0_12 : w12.cell? ⟨w4.heap.size, 0, none⟩ = some (.slice A_s n0 c_s) := by rw [hb.cell ts_11]; exact bs_0_11
  have bs_1_12 : w12.cell? ⟨w4.heap.size, 1, none⟩ = some (.slice B_s m0 d_s) := by rw [hb.cell ts_11]; exact bs_1_11
  have ts_12 : w4.heap.size < w12.heap.size := Nat.lt_of_lt_of_le ts_11 hs12
  clear bs_0_11 bs_1_11 ts_11
  have bx_0_12 : w12.cell? ⟨w6.heap.size, 0, none⟩ = some (.slice (some ⟨g_x, 0, none⟩) n0 n0) := by rw [hb.cell tx_11]; exact bx_0_11
  have bx_1_12 : w12.cell? ⟨w6.heap.size, 1, none⟩ = some (.slice (some ⟨k_x, 0, none⟩) m0 m0) := by rw [hb.cell tx_11]; exact bx_1_11
  have tx_12 : w6.heap.size < w12.heap.size := Nat.lt_of_lt_of_le tx_11 hs12
  clear bx_0_11 bx_1_11 tx_11
  have bg_0_12 : w12.cell? ⟨w8.heap.size, 0, none⟩ = some (.slice A_g n0 c_g) := by rw [hb.cell tg_11]; exact bg_0_11
  have bg_1_12 : w12.cell? ⟨w8.heap.size, 1, none⟩ = some (.slice B_g m0 d_g) := by rw [hb.cell tg_11]; exact bg_1_11
  have tg_12 : w8.heap.size < w12.heap.size := Nat.lt_of_lt_of_le tg_11 hs12
  clear bg_0_11 bg_1_11 tg_11
  have Os_12 := hide (Os_11.out.below hb)
  clear Os_11
  have Ps_12 := hide (Ps_11.out.below hb)
  clear Ps_11
  have Ot_12 := hide (Ot_11.out.below hb)
  clear Ot_11
  have Ox_12 := hide (Ox_11.out.below hb)
  clear Ox_11
  have Px_12 := hide (Px_11.out.below hb)
  clear Px_11
  have Og_12 := hide (Og_11.out.below hb)
  clear Og_11
  have Pg_12 := hide (Pg_11.out.below hb)
  clear Pg_11
  have Oh_12 := hide (Oh_11.out.below hb)
  clear Oh_11
  clear hb
  go_wp2_with fail
  refine (markHeap_any _ _ _ _ _ _ _ _ _ _ 1 _ Ox_12.out Px_12.out (by simp <;> omega) (by omega) (by omega) (by omega)).mono ?_
  rintro e w13 ⟨rfl, ho, ho', ht⟩
  have HB13 := hide (Below.touch HB12.out ht (fun g hg => by have := Lx.out g hg; omega) HB12.out.size)
  have hs13 : w12.heap.size ≤ w13.heap.size := ht.size
  have b0_0_13 : w13.cell? ⟨w.heap.size, 0, none⟩ = some (.slice A0 n0 c0) := by rw [World.cell?_of_block (w := w12) (ht.block _ t0_12 (fun hg => by have h5 := Lx.out (w.heap.size) hg; omega))]; exact b0_0_12
  have b0_1_13 : w13.cell? ⟨w.heap.size, 1, none⟩ = some (.slice B0 m0 d0) := by rw [World.cell?_of_block (w := w12) (ht.block _ t0_12 (fun hg => by have h5 := Lx.out (w.heap.size) hg; omega))]; exact b0_1_12
  have t0_13 : w.heap.size < w13.heap.size := Nat.lt_of_lt_of_le t0_12 hs13
  clear b0_0_12 b0_1_12 t0_12
  have bs_0_13 : w13.cell? ⟨w4.heap.size, 0, none⟩ = some (.slice A_s n0 c_s) := by rw [World.cell?_of_block (w := w12) (ht.block _ ts_12 (fun hg => by have h5 := Lx.out (w4.heap.size) hg; omega))]; exact bs_0_12
  have bs_1_13 : w13.cell? ⟨w4.heap.size, 1, none⟩ = some (.slice B_s m0 d_s) := by rw [World.cell?_of_block (w := w12) (ht.block _ ts_12 (fun hg => by have h5 := Lx.out (w4.heap.size) hg; omega))]; exact bs_1_12
  have ts_13 : w4.heap.size < w13.heap.size := Nat.lt_of_lt_of_le ts_12 hs13
  clear bs_0_12 bs_1_12 ts_12
  have bx_0_13 : w13.cell? ⟨w6.heap.size, 0, none⟩ = some (.slice (some ⟨g_x, 0, none⟩) n0 n0) := by rw [World.cell?_of_block (w := w12) (ht.block _ tx_12 (fun hg => by have h5 := Lx.out (w6.heap.size) hg; omega))]; exact bx_0_12
  have bx_1_13 : w13.cell? ⟨w6.heap.size, 1, none⟩ = some (.slice (some ⟨k_x, 0, none⟩) m0 m0) := by rw [World.cell?_of_block (w := w12) (ht.block _ tx_12 (fun hg => by have h5 := Lx.out (w6.heap.size) hg; omega))]; exact bx_1_12
  have tx_13 : w6.heap.size < w13.heap.size := Nat.lt_of_lt_of_le tx_12 hs13
  clear bx_0_12 bx_1_12 tx_12
  have bg_0_13 : w13.cell? ⟨w8.heap.size, 0, none⟩ = some (.slice A_g n0 c_g) := by rw [World.cell?_of_block (w := w12) (ht.block _ tg_12 (fun hg => by have h5 := Lx.out (w8.heap.size) hg; omega))]; exact bg_0_12
  have bg_1_13 : w13.cell? ⟨w8.heap.size, 1, none⟩ = some (.slice B_g m0 d_g) := by rw [World.cell?_of_block (w := w12) (ht.block _ tg_12 (fun hg => by have h5 := Lx.out (w8.heap.size) hg; omega))]; exact bg_1_12
  have tg_13 : w8.heap.size < w13.heap.size := Nat.lt_of_lt_of_le tg_12 hs13
  clear bg_0_12 bg_1_12 tg_12
  have Os_13 := hide (Os_12.out.touch ht (fun g hg hg' => by have := Ls.out g (List.mem_append_left _ hg); have := Lx.out g hg'; omega))
  clear Os_12
  have Ps_13 := hide (Ps_12.out.touch ht (fun g hg hg' => by have := Ls.out g (List.mem_append_right _ hg); have := Lx.out g hg'; omega))
  clear Ps_12
  have Ot_13 := hide (Ot_12.out.touch ht (fun g hg hg' => by have := Lt.out g hg; have := Lx.out g hg'; omega))
  clear Ot_12
  have Og_13 := hide (Og_12.out.touch ht (fun g hg hg' => by have := Lg.out g (List.mem_append_left _ hg); have := Lx.out g hg'; omega))
  clear Og_12
  have Pg_13 := hide (Pg_12.out.touch ht (fun g hg hg' => by have := Lg.out g (List.mem_append_right _ hg); have := Lx.out g hg'; omega))
  clear Pg_12
  have Oh_13 := hide (Oh_12.out.touch ht (fun g hg hg' => by have := Lh.out g hg; have := Lx.out g hg'; omega))
  clear Oh_12
  clear ht
  have Ox_13 := hide ho
  have Px_13 := hide ho'
  clear ho ho' Ox_12 Px_12
  go_wp2_with fail
  refine (eqHeap_same _ _ _ _ _ _ _ _ _ _ (gX z0 y0 a1) (gY z0 y0 a1) _ _ (by rw [gX_length]; exact Hn0.out) (by omega) (by rw [gY_length]; exact Hm0.out) (by omega) (Nat.le_refl _) (Og_13.out.rd).2 (Os_13.out.rd).2 (Pg_13.out.rd).2 (Ps_13.out.rd).2).mono ?_
  rintro e w14 ⟨rfl, hb⟩
  have HB14 := hide (HB13.out.trans (hb.mono HB13.out.size))
  have hs14 : w13.heap.size ≤ w14.heap.size := hb.size
  have b0_0_14 : w14.cell? ⟨w.heap.size, 0, none⟩ = some (.slice A0 n0 c0) := by rw [hb.cell t0_13]; exact b0_0_13
  have b0_1_14 : w14.cell? ⟨w.heap.size, 1, none⟩ = some (.slice B0 m0 d0) := by rw [hb.cell t0_13]; exact b0_1_13
  have t0_14 : w.heap.size < w14.heap.size := Nat.lt_of_lt_of_le t0_13 hs14
  clear b0_0_13 b0_1_13 t0_13
  have bs_0_14 : w14.cell? ⟨w4.heap.size, 0, none⟩ = some (.slice A_s n0 c_s) := by rw [hb.cell ts_13]; exact bs_0_13
  have bs_1_14 : w14.cell? ⟨w4.heap.size, 1, none⟩ = some (.slice B_s m0 d_s) := by rw [hb.cell ts_13]; exact bs_1_13
  have ts_14 : w4.heap.size < w14.heap.size := Nat.lt_of_lt_of_le ts_13 hs14
  clear bs_0_13 bs_1_13 ts_13
  have bx_0_14 : w14.cell? ⟨w6.heap.size, 0, none⟩ = some (.slice (some ⟨g_x, 0, none⟩) n0 n0) := by rw [hb.cell tx_13]; exact bx_0_13
  have bx_1_14 : w14.cell? ⟨w6.heap.size, 1, none⟩ = some (.slice (some ⟨k_x, 0, none⟩) m0 m0) := by rw [hb.cell tx_13]; exact bx_1_13
  have tx_14 : w6.heap.size < w14.heap.size := Nat.lt_of_lt_of_le tx_13 hs14
  clear bx_0_13 bx_1_13 tx_13
  have bg_0_14 : w14.cell? ⟨w8.heap.size, 0, none⟩ = some (.slice A_g n0 c_g) := by rw [hb.cell tg_13]; exact bg_0_13
  have bg_1_14 : w14.cell? ⟨w8.heap.size, 1, none⟩ = some (.slice B_g m0 d_g) := by rw [hb.cell tg_13]; exact bg_1_13
  have tg_14 : w8.heap.size < w14.heap.size := Nat.lt_of_lt_of_le tg_13 hs14
  clear bg_0_13 bg_1_13 tg_13
  have Os_14 := hide (Os_13.out.below hb)
  clear Os_13
  have Ps_14 := hide (Ps_13.out.below hb)
  clear Ps_13
  have Ot_14 := hide (Ot_13.out.below hb)
  clear Ot_13
  have Ox_14 := hide (Ox_13.out.below hb)
  clear Ox_13
  have Px_14 := hide (Px_13.out.below hb)
  clear Px_13
  have Og_14 := hide (Og_13.out.below hb)
  clear Og_13
  have Pg_14 := hide (Pg_13.out.below hb)
  clear Pg_13
  have Oh_14 := hide (Oh_13.out.below hb)
  clear Oh_13
  clear hb
  go_wp2_with fail
  refine (eqIntS_same _ _ _ _ _ (gS z0 y0 a1) w14.heap.size _ rfl (by omega) (Oh_14.out.rd).2 (Ot_14.out.rd).2).mono ?_
  rintro e w15 ⟨rfl, hb⟩
  have HB15 := hide (HB14.out.trans (hb.mono HB14.out.size))
  have hs15 : w14.heap.size ≤ w15.heap.size := hb.size
  have b0_0_15 : w15.cell? ⟨w.heap.size, 0, none⟩ = some (.slice A0 n0 c0) := by rw [hb.cell t0_14]; exact b0_0_14
  have b0_1_15 : w15.cell? ⟨w.heap.size, 1, none⟩ = some (.slice B0 m0 d0) := by rw [hb.cell t0_14]; exact b0_1_14
  have t0_15 : w.heap.size < w15.heap.size := Nat.lt_of_lt_of_le t0_14 hs15
  clear b0_0_14 b0_1_14 t0_14
  have bs_0_15 : w15.cell? ⟨w4.heap.size, 0, none⟩ = some (.slice A_s n0 c_s) := by rw [hb.cell ts_14]; exact bs_0_14
  have bs_1_15 : w15.cell? ⟨w4.heap.size, 1, none⟩ = some (.slice B_s m0 d_s) := by rw [hb.cell ts_14]; exact bs_1_14
  have ts_15 : w4.heap.size < w15.heap.size := Nat.lt_of_lt_of_le ts_14 hs15
  clear bs_0_14 bs_1_14 ts_14
  have bx_0_15 : w15.cell? ⟨w6.heap.size, 0, none⟩ = some (.slice (some ⟨g_x, 0, none⟩) n0 n0) := by rw [hb.cell tx_14]; exact bx_0_14
  have bx_1_15 : w15.cell? ⟨w6.heap.size, 1, none⟩ = some (.slice (some ⟨k_x, 0, none⟩) m0 m0) := by rw [hb.cell tx_14]; exact bx_1_14
  have tx_15 : w6.heap.size < w15.heap.size := Nat.lt_of_lt_of_le tx_14 hs15
  clear bx_0_14 bx_1_14 tx_14
  have bg_0_15 : w15.cell? ⟨w8.heap.size, 0, none⟩ = some (.slice A_g n0 c_g) := by rw [hb.cell tg_14]; exact bg_0_14
  have bg_1_15 : w15.cell? ⟨w8.heap.size, 1, none⟩ = some (.slice B_g m0 d_g) := by rw [hb.cell tg_14]; exact bg_1_14
  have tg_15 : w8.heap.size < w15.heap.size := Nat.lt_of_lt_of_le tg_14 hs15
  clear bg_0_14 bg_1_14 tg_14
  have Os_15 := hide (Os_14.out.below hb)
  clear Os_14
  have Ps_15 := hide (Ps_14.out.below hb)
  clear Ps_14
  have Ot_15 := hide (Ot_14.out.below hb)
  clear Ot_14
  have Ox_15 := hide (Ox_14.out.below hb)
  clear Ox_14
  have Px_15 := hide (Px_14.out.below hb)
  clear Px_14
  have Og_15 := hide (Og_14.out.below hb)
  clear Og_14
  have Pg_15 := hide (Pg_14.out.below hb)
  clear Pg_14
  have Oh_15 := hide (Oh_14.out.below hb)
  clear Oh_14
  clear hb
  go_wp2_with fail
  refine (markHeap_any _ _ _ _ _ _ _ _ _ _ 1 _ Og_15.out Pg_15.out HDg.out (by omega) (by omega) (by omega)).mono ?_
  rintro e w16 ⟨rfl, ho, ho', ht⟩
  have HB16 := hide (Below.touch HB15.out ht (fun g hg => by have := Lg.out g hg; omega) HB15.out.size)
  have hs16 : w15.heap.size ≤ w16.heap.size := ht.size
  have b0_0_16 : w16.cell? ⟨w.heap.size, 0, none⟩ = some (.slice A0 n0 c0) := by rw [World.cell?_of_block (w := w15) (ht.block _ t0_15 (fun hg => by have h5 := Lg.out (w.heap.size) hg; omega))]; exact b0_0_15
  have b0_1_16 : w16.cell? ⟨w.heap.size, 1, none⟩ = some (.slice B0 m0 d0) := by rw [World.cell?_of_block (w := w15) (ht.block _ t0_15 (fun hg => by have h5 := Lg.out (w.heap.size) hg; omega))]; exact b0_1_15
  have t0_16 : w.heap.size < w16.heap.size := Nat.lt_of_lt_of_le t0_15 hs16
  clear b0_0_15 b0_1_15 t0_15
  have bs_0_16 : w16.cell? ⟨w4.heap.size, 0, none⟩ = some (.slice A_s n0 c_s) := by rw [World.cell?_of_block (w := w15) (ht.block _ ts_15 (fun hg => by have h5 := Lg.out (w4.heap.size) hg; omega))]; exact bs_0_15
  have bs_1_16 : w16.cell? ⟨w4.heap.size, 1, none⟩ = some (.slice B_s m0 d_s) := by rw [World.cell?_of_block (w := w15) (ht.block _ ts_15 (fun hg => by have h5 := Lg.out (w4.heap.size) hg; omega))]; exact bs_1_15
  have ts_16 : w4.heap.size < w16.heap.size := Nat.lt_of_lt_of_le ts_15 hs16
  clear bs_0_15 bs_1_15 ts_15
  have bx_0_16 : w16.cell? ⟨w6.heap.size, 0, none⟩ = some (.slice (some ⟨g_x, 0, none⟩) n0 n0) := by rw [World.cell?_of_block (w := w15) (ht.block _ tx_15 (fun hg => by have h5 := Lg.out (w6.heap.size) hg; omega))]; exact bx_0_15
  have bx_1_16 : w16.cell? ⟨w6.heap.size, 1, none⟩ = some (.slice (some ⟨k_x, 0, none⟩) m0 m0) := by rw [World.cell?_of_block (w := w15) (ht.block _ tx_15 (fun hg => by have h5 := Lg.out (w6.heap.size) hg; omega))]; exact bx_1_15
  have tx_16 : w6.heap.size < w16.heap.size := Nat.lt_of_lt_of_le tx_15 hs16
  clear bx_0_15 bx_1_15 tx_15
  have bg_0_16 : w16.cell? ⟨w8.heap.size, 0, none⟩ = some (.slice A_g n0 c_g) := by rw [World.cell?_of_block (w := w15) (ht.block _ tg_15 (fun hg => by have h5 := Lg.out (w8.heap.size) hg; omega))]; exact bg_0_15
  have bg_1_16 : w16.cell? ⟨w8.heap.size, 1, none⟩ = some (.slice B_g m0 d_g) := by rw [World.cell?_of_block (w := w15) (ht.block _ tg_15 (fun hg => by have h5 := Lg.out (w8.heap.size) hg; omega))]; exact bg_1_15
  have tg_16 : w8.heap.size < w16.heap.size := Nat.lt_of_lt_of_le tg_15 hs16
  clear bg_0_15 bg_1_15 tg_15
  have Os_16 := hide (Os_15.out.touch ht (fun g hg hg' => by have := Ls.out g (List.mem_append_left _ hg); have := Lg.out g hg'; omega))
  clear Os_15
  have Ps_16 := hide (Ps_15.out.touch ht (fun g hg hg' => by have := Ls.out g (List.mem_append_right _ hg); have := Lg.out g hg'; omega))
  clear Ps_15
  have Ot_16 := hide (Ot_15.out.touch ht (fun g hg hg' => by have := Lt.out g hg; have := Lg.out g hg'; omega))
  clear Ot_15
  have Ox_16 := hide (Ox_15.out.touch ht (fun g hg hg' => by have := Lx.out g (List.mem_append_left _ hg); have := Lg.out g hg'; omega))
  clear Ox_15
  have Px_16 := hide (Px_15.out.touch ht (fun g hg hg' => by have := Lx.out g (List.mem_append_right _ hg); have := Lg.out g hg'; omega))
  clear Px_15
  have Oh_16 := hide (Oh_15.out.touch ht (fun g hg hg' => HDGh.out g hg hg'))
  clear Oh_15
  clear ht
  have Og_16 := hide ho
  have Pg_16 := hide ho'
  clear ho ho' Og_15 Pg_15
  go_wp2_with fail
  refine (markIntS_any _ _ _ _ _ (1 + (n0 : Int) + (m0 : Int)) _ Oh_16.out (by omega) (by omega) (by omega)).mono ?_
  rintro e w17 ⟨rfl, ho, ht⟩
  have HB17 := hide (Below.touch HB16.out ht (fun g hg => by have := Lh.out g hg; omega) HB16.out.size)
  have hs17 : w16.heap.size ≤ w17.heap.size := ht.size
  have b0_0_17 : w17.cell? ⟨w.heap.size, 0, none⟩ = some (.slice A0 n0 c0) := by rw [World.cell?_of_block (w := w16) (ht.block _ t0_16 (fun hg => by have h5 := Lh.out (w.heap.size) hg; omega))]; exact b0_0_16
  have b0_1_17 : w17.cell? ⟨w.heap.size, 1, none⟩ = some (.slice B0 m0 d0) := by rw [World.cell?_of_block (w := w16) (ht.block _ t0_16 (fun hg => by have h5 := Lh.out (w.heap.size) hg; omega))]; exact b0_1_16
  have t0_17 : w.heap.size < w17.heap.size := Nat.lt_of_lt_of_le t0_16 hs17
  clear b0_0_16 b0_1_16 t0_16
  have bs_0_17 : w17.cell? ⟨w4.heap.size, 0, none⟩ = some (.slice A_s n0 c_s) := by rw [World.cell?_of_block (w := w16) (ht.block _ ts_16 (fun hg => by have h5 := Lh.out (w4.heap.size) hg; omega))]; exact bs_0_16
  have bs_1_17 : w17.cell? ⟨w4.heap.size, 1, none⟩ = some (.slice B_s m0 d_s) := by rw [World.cell?_of_block (w := w16) (ht.block _ ts_16 (fun hg => by have h5 := Lh.out (w4.heap.size) hg; omega))]; exact bs_1_16
  have ts_17 : w4.heap.size < w17.heap.size := Nat.lt_of_lt_of_le ts_16 hs17
  clear bs_0_16 bs_1_16 ts_16
  have bx_0_17 : w17.cell? ⟨w6.heap.size, 0, none⟩ = some (.slice (some ⟨g_x, 0, none⟩) n0 n0) := by rw [World.cell?_of_block (w := w16) (ht.block _ tx_16 (fun hg => by have h5 := Lh.out (w6.heap.size) hg; omega))]; exact bx_0_16
  have bx_1_17 : w17.cell? ⟨w6.heap.size, 1, none⟩ = some (.slice (some ⟨k_x, 0, none⟩) m0 m0) := by rw [World.cell?_of_block (w := w16) (ht.block _ tx_16 (fun hg => by have h5 := Lh.out (w6.heap.size) hg; omega))]; exact bx_1_16
  have tx_17 : w6.heap.size < w17.heap.size := Nat.lt_of_lt_of_le tx_16 hs17
  clear bx_0_16 bx_1_16 tx_16
  have bg_0_17 : w17.cell? ⟨w8.heap.size, 0, none⟩ = some (.slice A_g n0 c_g) := by rw [World.cell?_of_block (w := w16) (ht.block _ tg_16 (fun hg => by have h5 := Lh.out (w8.heap.size) hg; omega))]; exact bg_0_16
  have bg_1_17 : w17.cell? ⟨w8.heap.size, 1, none⟩ = some (.slice B_g m0 d_g) := by rw [World.cell?_of_block (w := w16) (ht.block _ tg_16 (fun hg => by have h5 := Lh.out (w8.heap.size) hg; omega))]; exact bg_1_16
  have tg_17 : w8.heap.size < w17.heap.size := Nat.lt_of_lt_of_le tg_16 hs17
  clear bg_0_16 bg_1_16 tg_16
  have Os_17 := hide (Os_16.out.touch ht (fun g hg hg' => by have := Ls.out g (List.mem_append_left _ hg); have := Lh.out g hg'; omega))
  clear Os_16
  have Ps_17 := hide (Ps_16.out.touch ht (fun g hg hg' => by have := Ls.out g (List.mem_append_right _ hg); have := Lh.out g hg'; omega))
  clear Ps_16
  have Ot_17 := hide (Ot_16.out.touch ht (fun g hg hg' => by have := Lt.out g hg; have := Lh.out g hg'; omega))
  clear Ot_16
  have Ox_17 := hide (Ox_16.out.touch ht (fun g hg hg' => by have := Lx.out g (List.mem_append_left _ hg); have := Lh.out g hg'; omega))
  clear Ox_16
  have Px_17 := hide (Px_16.out.touch ht (fun g hg hg' => by have := Lx.out g (List.mem_append_right _ hg); have := Lh.out g hg'; omega))
  clear Px_16
  have Og_17 := hide (Og_16.out.touch ht (fun g hg hg' => HDGh.out g hg' (List.mem_append_left _ hg)))
  clear Og_16
  have Pg_17 := hide (Pg_16.out.touch ht (fun g hg hg' => HDGh.out g hg' (List.mem_append_right _ hg)))
  clear Pg_16
  clear ht
  have Oh_17 := hide ho
  clear ho Oh_16
  go_wp2_with fail
  refine (heldHeap_same _ _ _ _ _ _ 1 _ (Og_17.out.rd).2 (Pg_17.out.rd).2 (by omega) (by omega) (by omega)).mono ?_
  rintro e w18 ⟨rfl, hb⟩
  have HB18 := hide (HB17.out.trans (hb.mono HB17.out.size))
  have hs18 : w17.heap.size ≤ w18.heap.size := hb.size
  have b0_0_18 : w18.cell? ⟨w.heap.size, 0, none⟩ = some (.slice A0 n0 c0) := by rw [hb.cell t0_17]; exact b0_0_17
  have b0_1_18 : w18.cell? ⟨w.heap.size, 1, none⟩ = some (.slice B0 m0 d0) := by rw [hb.cell t0_17]; exact b0_1_17
  have t0_18 : w.heap.size < w18.heap.size := Nat.lt_of_lt_of_le t0_17 hs18
  clear b0_0_17 b0_1_17 t0_17
  have bs_0_18 : w18.cell? ⟨w4.heap.size, 0, none⟩ = some (.slice A_s n0 c_s) := by rw [hb.cell ts_17]; exact bs_0_17
  have bs_1_18 : w18.cell? ⟨w4.heap.size, 1, none⟩ = some (.slice B_s m0 d_s) := by rw [hb.cell ts_17]; exact bs_1_17
  have ts_18 : w4.heap.size < w18.heap.size := Nat.lt_of_lt_of_le ts_17 hs18
  clear bs_0_17 bs_1_17 ts_17
  have bx_0_18 : w18.cell? ⟨w6.heap.size, 0, none⟩ = some (.slice (some ⟨g_x, 0, none⟩) n0 n0) := by rw [hb.cell tx_17]; exact bx_0_17
  have bx_1_18 : w18.cell? ⟨w6.heap.size, 1, none⟩ = some (.slice (some ⟨k_x, 0, none⟩) m0 m0) := by rw [hb.cell tx_17]; exact bx_1_17
  have tx_18 : w6.heap.size < w18.heap.size := Nat.lt_of_lt_of_le tx_17 hs18
  clear bx_0_17 bx_1_17 tx_17
  have bg_0_18 : w18.cell? ⟨w8.heap.size, 0, none⟩ = some (.slice A_g n0 c_g) := by rw [hb.cell tg_17]; exact bg_0_17
  have bg_1_18 : w18.cell? ⟨w8.heap.size, 1, none⟩ = some (.slice B_g m0 d_g) := by rw [hb.cell tg_17]; exact bg_1_17
  have tg_18 : w8.heap.size < w18.heap.size := Nat.lt_of_lt_of_le tg_17 hs18
  clear bg_0_17 bg_1_17 tg_17
  have Os_18 := hide (Os_17.out.below hb)
  clear Os_17
  have Ps_18 := hide (Ps_17.out.below hb)
  clear Ps_17
  have Ot_18 := hide (Ot_17.out.below hb)
  clear Ot_17
  have Ox_18 := hide (Ox_17.out.below hb)
  clear Ox_17
  have Px_18 := hide (Px_17.out.below hb)
  clear Px_17
  have Og_18 := hide (Og_17.out.below hb)
  clear Og_17
  have Pg_18 := hide (Pg_17.out.below hb)
  clear Pg_17
  have Oh_18 := hide (Oh_17.out.below hb)
  clear Oh_17
  clear hb
  go_wp2_with fail
  refine (heldIntS_same _ _ _ (1 + (n0 : Int) + (m0 : Int)) w18.heap.size _ (Oh_18.out.rd).2 (by omega) (by omega) (by omega)).mono ?_
  rintro e w_h ⟨rfl, rfl⟩
  go_wp2_with fail
  refine (toHeap_any A0 B0 n0 c0 m0 d0 z0 y0 _ Hn0.out (by omega) Hm0.out (by omega) ((Hr0.out.below HB18.out (Nat.le_refl _)).more HB18.out.size) ((Hs0.out.below HB18.out (Nat.le_refl _)).more HB18.out.size)).mono ?_
  rintro e w19 ⟨g_q, k_q, rfl, ho, ho', l1_q, l2_q, l3_q, hb⟩
  have HB19 := hide (HB18.out.trans (hb.mono HB18.out.size))
  have hs19 : w18.heap.size ≤ w19.heap.size := hb.size
  have b0_0_19 : w19.cell? ⟨w.heap.size, 0, none⟩ = some (.slice A0 n0 c0) := by rw [hb.cell t0_18]; exact b0_0_18
  have b0_1_19 : w19.cell? ⟨w.heap.size, 1, none⟩ = some (.slice B0 m0 d0) := by rw [hb.cell t0_18]; exact b0_1_18
  have t0_19 : w.heap.size < w19.heap.size := Nat.lt_of_lt_of_le t0_18 hs19
  clear b0_0_18 b0_1_18 t0_18
  have bs_0_19 : w19.cell? ⟨w4.heap.size, 0, none⟩ = some (.slice A_s n0 c_s) := by rw [hb.cell ts_18]; exact bs_0_18
  have bs_1_19 : w19.cell? ⟨w4.heap.size, 1, none⟩ = some (.slice B_s m0 d_s) := by rw [hb.cell ts_18]; exact bs_1_18
  have ts_19 : w4.heap.size < w19.heap.size := Nat.lt_of_lt_of_le ts_18 hs19
  clear bs_0_18 bs_1_18 ts_18
  have bx_0_19 : w19.cell? ⟨w6.heap.size, 0, none⟩ = some (.slice (some ⟨g_x, 0, none⟩) n0 n0) := by rw [hb.cell tx_18]; exact bx_0_18
  have bx_1_19 : w19.cell? ⟨w6.heap.size, 1, none⟩ = some (.slice (some ⟨k_x, 0, none⟩) m0 m0) := by rw [hb.cell tx_18]; exact bx_1_18
  have tx_19 : w6.heap.size < w19.heap.size := Nat.lt_of_lt_of_le tx_18 hs19
  clear bx_0_18 bx_1_18 tx_18
  have bg_0_19 : w19.cell? ⟨w8.heap.size, 0, none⟩ = some (.slice A_g n0 c_g) := by rw [hb.cell tg_18]; exact bg_0_18
  have bg_1_19 : w19.cell? ⟨w8.heap.size, 1, none⟩ = some (.slice B_g m0 d_g) := by rw [hb.cell tg_18]; exact bg_1_18
  have tg_19 : w8.heap.size < w19.heap.size := Nat.lt_of_lt_of_le tg_18 hs19
  clear bg_0_18 bg_1_18 tg_18
  have Os_19 := hide (Os_18.out.below hb)
  clear Os_18
  have Ps_19 := hide (Ps_18.out.below hb)
  clear Ps_18
  have Ot_19 := hide (Ot_18.out.below hb)
  clear Ot_18
  have Ox_19 := hide (Ox_18.out.below hb)
  clear Ox_18
  have Px_19 := hide (Px_18.out.below hb)
  clear Px_18
  have Og_19 := hide (Og_18.out.below hb)
  clear Og_18
  have Pg_19 := hide (Pg_18.out.below hb)
  clear Pg_18
  have Oh_19 := hide (Oh_18.out.below hb)
  clear Oh_18
  clear hb
  have Oq_19 := hide ho
  have Pq_19 := hide ho'
  clear ho ho'
  have Lq : Hid (∀ g, g ∈ [g_q] ++ [k_q] → w18.heap.size ≤ g ∧ g < w19.heap.size) := hide (by simp <;> omega)
  go_wp2_with fail
  refine (implGrant_any _ _ _ _ _ _ z0 y0 a1 _ Hn0.out Hm0.out (by omega) (by omega) (Nat.le_refl _) (by unfold maxLen; omega) (Oq_19.out.rd).2 (Pq_19.out.rd).2).mono ?_
  rintro e w20 ⟨A_r, c_r, F_r, B_r, d_r, G_r, A_v, c_v, F_v, rfl, ⟨ho, ho', hF, hd, hb⟩, hos, hG⟩
  have HB20 := hide (HB19.out.trans (hb.mono HB19.out.size))
  have hs20 : w19.heap.size ≤ w20.heap.size := hb.size
  have b0_0_20 : w20.cell? ⟨w.heap.size, 0, none⟩ = some (.slice A0 n0 c0) := by rw [hb.cell t0_19]; exact b0_0_19
  have b0_1_20 : w20.cell? ⟨w.heap.size, 1, none⟩ = some (.slice B0 m0 d0) := by rw [hb.cell t0_19]; exact b0_1_19
  have t0_20 : w.heap.size < w20.heap.size := Nat.lt_of_lt_of_le t0_19 hs20
  clear b0_0_19 b0_1_19 t0_19
  have bs_0_20 : w20.cell? ⟨w4.heap.size, 0, none⟩ = some (.slice A_s n0 c_s) := by rw [hb.cell ts_19]; exact bs_0_19
  have bs_1_20 : w20.cell? ⟨w4.heap.size, 1, none⟩ = some (.slice B_s m0 d_s) := by rw [hb.cell ts_19]; exact bs_1_19
  have ts_20 : w4.heap.size < w20.heap.size := Nat.lt_of_lt_of_le ts_19 hs20
  clear bs_0_19 bs_1_19 ts_19
  have bx_0_20 : w20.cell? ⟨w6.heap.size, 0, none⟩ = some (.slice (some ⟨g_x, 0, none⟩) n0 n0) := by rw [hb.cell tx_19]; exact bx_0_19
  have bx_1_20 : w20.cell? ⟨w6.heap.size, 1, none⟩ = some (.slice (some ⟨k_x, 0, none⟩) m0 m0) := by rw [hb.cell tx_19]; exact bx_1_19
  have tx_20 : w6.heap.size < w20.heap.size := Nat.lt_of_lt_of_le tx_19 hs20
  clear bx_0_19 bx_1_19 tx_19
  have bg_0_20 : w20.cell? ⟨w8.heap.size, 0, none⟩ = some (.slice A_g n0 c_g) := by rw [hb.cell tg_19]; exact bg_0_19
  have bg_1_20 : w20.cell? ⟨w8.heap.size, 1, none⟩ = some (.slice B_g m0 d_g) := by rw [hb.cell tg_19]; exact bg_1_19
  have tg_20 : w8.heap.size < w20.heap.size := Nat.lt_of_lt_of_le tg_19 hs20
  clear bg_0_19 bg_1_19 tg_19
  have Os_20 := hide (Os_19.out.below hb)
  clear Os_19
  have Ps_20 := hide (Ps_19.out.below hb)
  clear Ps_19
  have Ot_20 := hide (Ot_19.out.below hb)
  clear Ot_19
  have Ox_20 := hide (Ox_19.out.below hb)
  clear Ox_19
  have Px_20 := hide (Px_19.out.below hb)
  clear Px_19
  have Og_20 := hide (Og_19.out.below hb)
  clear Og_19
  have Pg_20 := hide (Pg_19.out.below hb)
  clear Pg_19
  have Oh_20 := hide (Oh_19.out.below hb)
  clear Oh_19
  have Oq_20 := hide (Oq_19.out.below hb)
  clear Oq_19
  have Pq_20 := hide (Pq_19.out.below hb)
  clear Pq_19
  clear hb
  have Or_20 := hide ho
  have Pr_20 := hide ho'
  have HDr := hide hd
  have Ov_20 := hide hos
  clear ho ho' hd hos
  have Lr : Hid (∀ g, g ∈ F_r ++ G_r → w19.heap.size ≤ g ∧ g < w20.heap.size) := hide (fun g hg => ⟨hF g hg, (List.mem_append.1 hg).elim (Or_20.out.lt g) (Pr_20.out.lt g)⟩)
  clear hF
  have Lv : Hid (∀ g, g ∈ F_v → w19.heap.size ≤ g ∧ g < w20.heap.size) := hide (fun g hg => ⟨(hG g hg).1, Ov_20.out.lt g hg⟩)
  have HDGv : Hid (∀ g, g ∈ F_v → g ∉ F_r ++ G_r) := hide (fun g hg => (hG g hg).2)
  clear hG
  clear Oq_20 Pq_20
  go_wp2_with fail
  obtain ⟨w21, hW⟩ : ∃ W : World, W = w20.alloc (.cells #[(.slice A_r n0 c_r), (.slice B_r m0 d_r)] 27) := ⟨_, rfl⟩
  rw [← hW]
  have hb : Below w20.heap.size w20 w21 := by rw [hW]; exact (Below.refl _ _).alloc (Nat.le_refl _) _
  have nb0 : w21.cell? ⟨w20.heap.size, 0, none⟩ = some (.slice A_r n0 c_r) := by rw [hW]; go_simp
  have nb1 : w21.cell? ⟨w20.heap.size, 1, none⟩ = some (.slice B_r m0 d_r) := by rw [hW]; go_simp
  have nt : w20.heap.size < w21.heap.size := by rw [hW]; simp
  clear hW
  have HB21 := hide (HB20.out.trans (hb.mono HB20.out.size))
  have hs21 : w20.heap.size ≤ w21.heap.size := hb.size
  have b0_0_21 : w21.cell? ⟨w.heap.size, 0, none⟩ = some (.slice A0 n0 c0) := by rw [hb.cell t0_20]; exact b0_0_20
  have b0_1_21 : w21.cell? ⟨w.heap.size, 1, none⟩ = some (.slice B0 m0 d0) := by rw [hb.cell t0_20]; exact b0_1_20
  have t0_21 : w.heap.size < w21.heap.size := Nat.lt_of_lt_of_le t0_20 hs21
  clear b0_0_20 b0_1_20 t0_20
  have bs_0_21 : w21.cell? ⟨w4.heap.size, 0, none⟩ = some (.slice A_s n0 c_s) := by rw [hb.cell ts_20]; exact bs_0_20
  have bs_1_21 : w21.cell? ⟨w4.heap.size, 1, none⟩ = some (.slice B_s m0 d_s) := by rw [hb.cell ts_20]; exact bs_1_20
  have ts_21 : w4.heap.size < w21.heap.size := Nat.lt_of_lt_of_le ts_20 hs21
  clear bs_0_20 bs_1_20 ts_20
  have bx_0_21 : w21.cell? ⟨w6.heap.size, 0, none⟩ = some (.slice (some ⟨g_x, 0, none⟩) n0 n0) := by rw [hb.cell tx_20]; exact bx_0_20
  have bx_1_21 : w21.cell? ⟨w6.heap.size, 1, none⟩ = some (.slice (some ⟨k_x, 0, none⟩) m0 m0) := by rw [hb.cell tx_20]; exact bx_1_20
  have tx_21 : w6.heap.size < w21.heap.size := Nat.lt_of_lt_of_le tx_20 hs21
  clear bx_0_20 bx_1_20 tx_20
  have bg_0_21 : w21.cell? ⟨w8.heap.size, 0, none⟩ = some (.slice A_g n0 c_g) := by rw [hb.cell tg_20]; exact bg_0_20
  have bg_1_21 : w21.cell? ⟨w8.heap.size, 1, none⟩ = some (.slice B_g m0 d_g) := by rw [hb.cell tg_20]; exact bg_1_20
  have tg_21 : w8.heap.size < w21.heap.size := Nat.lt_of_lt_of_le tg_20 hs21
  clear bg_0_20 bg_1_20 tg_20
  have Os_21 := hide (Os_20.out.below hb)
  clear Os_20
  have Ps_21 := hide (Ps_20.out.below hb)
  clear Ps_20
  have Ot_21 := hide (Ot_20.out.below hb)
  clear Ot_20
  have Ox_21 := hide (Ox_20.out.below hb)
  clear Ox_20
  have Px_21 := hide (Px_20.out.below hb)
  clear Px_20
  have Og_21 := hide (Og_20.out.below hb)
  clear Og_20
  have Pg_21 := hide (Pg_20.out.below hb)
  clear Pg_20
  have Oh_21 := hide (Oh_20.out.below hb)
  clear Oh_20
  have Or_21 := hide (Or_20.out.below hb)
  clear Or_20
  have Pr_21 := hide (Pr_20.out.below hb)
  clear Pr_20
  have Ov_21 := hide (Ov_20.out.below hb)
  clear Ov_20
  clear hb
  have br_0_21 := nb0
  have br_1_21 := nb1
  have tr_21 := nt
  have ur := nt
  clear nb0 nb1 nt
  refine (eqHeap_same _ _ _ _ _ _ _ _ _ _ (gX z0 y0 a1) (gY z0 y0 a1) _ _ (by rw [gX_length]; exact Hn0.out) (by omega) (by rw [gY_length]; exact Hm0.out) (by omega) (Nat.le_refl _) (Or_21.out.rd).2 (Os_21.out.rd).2 (Pr_21.out.rd).2 (Ps_21.out.rd).2).mono ?_
  rintro e w22 ⟨rfl, hb⟩
  have HB22 := hide (HB21.out.trans (hb.mono HB21.out.size))
  have hs22 : w21.heap.size ≤ w22.heap.size := hb.size
  have b0_0_22 : w22.cell? ⟨w.heap.size, 0, none⟩ = some (.slice A0 n0 c0) := by rw [hb.cell t0_21]; exact b0_0_21
  have b0_1_22 : w22.cell? ⟨w.heap.size, 1, none⟩ = some (.slice B0 m0 d0) := by rw [hb.cell t0_21]; exact b0_1_21
  have t0_22 : w.heap.size < w22.heap.size := Nat.lt_of_lt_of_le t0_21 hs22
  clear b0_0_21 b0_1_21 t0_21
  have bs_0_22 : w22.cell? ⟨w4.heap.size, 0, none⟩ = some (.slice A_s n0 c_s) := by rw [hb.cell ts_21]; exact bs_0_21
  have bs_1_22 : w22.cell? ⟨w4.heap.size, 1, none⟩ = some (.slice B_s m0 d_s) := by rw [hb.cell ts_21]; exact bs_1_21
  have ts_22 : w4.heap.size < w22.heap.size := Nat.lt_of_lt_of_le ts_21 hs22
  clear bs_0_21 bs_1_21 ts_21
  have bx_0_22 : w22.cell? ⟨w6.heap.size, 0, none⟩ = some (.slice (some ⟨g_x, 0, none⟩) n0 n0) := by rw [hb.cell tx_21]; exact bx_0_21
  have bx_1_22 : w22.cell? ⟨w6.heap.size, 1, none⟩ = some (.slice (some ⟨k_x, 0, none⟩) m0 m0) := by rw [hb.cell tx_21]; exact bx_1_21
  have tx_22 : w6.heap.size < w22.heap.size := Nat.lt_of_lt_of_le tx_21 hs22
  clear bx_0_21 bx_1_21 tx_21
  have bg_0_22 : w22.cell? ⟨w8.heap.size, 0, none⟩ = some (.slice A_g n0 c_g) := by rw [hb.cell tg_21]; exact bg_0_21
  have bg_1_22 : w22.cell? ⟨w8.heap.size, 1, none⟩ = some (.slice B_g m0 d_g) := by rw [hb.cell tg_21]; exact bg_1_21
  have tg_22 : w8.heap.size < w22.heap.size := Nat.lt_of_lt_of_le tg_21 hs22
  clear bg_0_21 bg_1_21 tg_21
  have br_0_22 : w22.cell? ⟨w20.heap.size, 0, none⟩ = some (.slice A_r n0 c_r) := by rw [hb.cell tr_21]; exact br_0_21
  have br_1_22 : w22.cell? ⟨w20.heap.size, 1, none⟩ = some (.slice B_r m0 d_r) := by rw [hb.cell tr_21]; exact br_1_21
  have tr_22 : w20.heap.size < w22.heap.size := Nat.lt_of_lt_of_le tr_21 hs22
  clear br_0_21 br_1_21 tr_21
  have Os_22 := hide (Os_21.out.below hb)
  clear Os_21
  have Ps_22 := hide (Ps_21.out.below hb)
  clear Ps_21
  have Ot_22 := hide (Ot_21.out.below hb)
  clear Ot_21
  have Ox_22 := hide (Ox_21.out.below hb)
  clear Ox_21
  have Px_22 := hide (Px_21.out.below hb)
  clear Px_21
  have Og_22 := hide (Og_21.out.below hb)
  clear Og_21
  have Pg_22 := hide (Pg_21.out.below hb)
  clear Pg_21
  have Oh_22 := hide (Oh_21.out.below hb)
  clear Oh_21
  have Or_22 := hide (Or_21.out.below hb)
  clear Or_21
  have Pr_22 := hide (Pr_21.out.below hb)
  clear Pr_21
  have Ov_22 := hide (Ov_21.out.below hb)
  clear Ov_21
  clear hb
  go_wp2_with fail
  refine (eqIntS_same _ _ _ _ _ (gS z0 y0 a1) w22.heap.size _ rfl (by omega) (Ov_22.out.rd).2 (Ot_22.out.rd).2).mono ?_
  rintro e w23 ⟨rfl, hb⟩
  have HB23 := hide (HB22.out.trans (hb.mono HB22.out.size))
  have hs23 : w22.heap.size ≤ w23.heap.size := hb.size
  have b0_0_23 : w23.cell? ⟨w.heap.size, 0, none⟩ = some (.slice A0 n0 c0) := by rw [hb.cell t0_22]; exact b0_0_22
  have b0_1_23 : w23.cell? ⟨w.heap.size, 1, none⟩ = some (.slice B0 m0 d0) := by rw [hb.cell t0_22]; exact b0_1_22
  have t0_23 : w.heap.size < w23.heap.size := Nat.lt_of_lt_of_le t0_22 hs23
  clear b0_0_22 b0_1_22 t0_22
  have bs_0_23 : w23.cell? ⟨w4.heap.size, 0, none⟩ = some (.slice A_s n0 c_s) := by rw [hb.cell ts_22]; exact bs_0_22
  have bs_1_23 : w23.cell? ⟨w4.heap.size, 1, none⟩ = some (.slice B_s m0 d_s) := by rw [hb.cell ts_22]; exact bs_1_22
  have ts_23 : w4.heap.size < w23.heap.size := Nat.lt_of_lt_of_le ts_22 hs23
  clear bs_0_22 bs_1_22 ts_22
  have bx_0_23 : w23.cell? ⟨w6.heap.size, 0, none⟩ = some (.slice (some ⟨g_x, 0, none⟩) n0 n0) := by rw [hb.cell tx_22]; exact bx_0_22
  have bx_1_23 : w23.cell? ⟨w6.heap.size, 1, none⟩ = some (.slice (some ⟨k_x, 0, none⟩) m0 m0) := by rw [hb.cell tx_22]; exact bx_1_22
  have tx_23 : w6.heap.size < w23.heap.size := Nat.lt_of_lt_of_le tx_22 hs23
  clear bx_0_22 bx_1_22 tx_22
  have bg_0_23 : w23.cell? ⟨w8.heap.size, 0, none⟩ = some (.slice A_g n0 c_g) := by rw [hb.cell tg_22]; exact bg_0_22
  have bg_1_23 : w23.cell? ⟨w8.heap.size, 1, none⟩ = some (.slice B_g m0 d_g) := by rw [hb.cell tg_22]; exact bg_1_22
  have tg_23 : w8.heap.size < w23.heap.size := Nat.lt_of_lt_of_le tg_22 hs23
  clear bg_0_22 bg_1_22 tg_22
  have br_0_23 : w23.cell? ⟨w20.heap.size, 0, none⟩ = some (.slice A_r n0 c_r) := by rw [hb.cell tr_22]; exact br_0_22
  have br_1_23 : w23.cell? ⟨w20.heap.size, 1, none⟩ = some (.slice B_r m0 d_r) := by rw [hb.cell tr_22]; exact br_1_22
  have tr_23 : w20.heap.size < w23.heap.size := Nat.lt_of_lt_of_le tr_22 hs23
  clear br_0_22 br_1_22 tr_22
  have Os_23 := hide (Os_22.out.below hb)
  clear Os_22
  have Ps_23 := hide (Ps_22.out.below hb)
  clear Ps_22
  have Ot_23 := hide (Ot_22.out.below hb)
  clear Ot_22
  have Ox_23 := hide (Ox_22.out.below hb)
  clear Ox_22
  have Px_23 := hide (Px_22.out.below hb)
  clear Px_22
  have Og_23 := hide (Og_22.out.below hb)
  clear Og_22
  have Pg_23 := hide (Pg_22.out.below hb)
  clear Pg_22
  have Oh_23 := hide (Oh_22.out.below hb)
  clear Oh_22
  have Or_23 := hide (Or_22.out.below hb)
  clear Or_22
  have Pr_23 := hide (Pr_22.out.below hb)
  clear Pr_22
  have Ov_23 := hide (Ov_22.out.below hb)
  clear Ov_22
  clear hb
  clear Or_23 Pr_23
  clear Ov_23
  go_wp2_with fail
  refine (heldHeap_same _ _ _ _ _ _ 1 _ (Og_23.out.rd).2 (Pg_23.out.rd).2 (by omega) (by omega) (by omega)).mono ?_
  rintro e w24 ⟨rfl, hb⟩
  have HB24 := hide (HB23.out.trans (hb.mono HB23.out.size))
  have hs24 : w23.heap.size ≤ w24.heap.size := hb.size
  have b0_0_24 : w24.cell? ⟨w.heap.size, 0, none⟩ = some (.slice A0 n0 c0) := by rw [hb.cell t0_23]; exact b0_0_23
  have b0_1_24 : w24.cell? ⟨w.heap.size, 1, none⟩ = some (.slice B0 m0 d0) := by rw [hb.cell t0_23]; exact b0_1_23
  have t0_24 : w.heap.size < w24.heap.size := Nat.lt_of_lt_of_le t0_23 hs24
  clear b0_0_23 b0_1_23 t0_23
  have bs_0_24 : w24.cell? ⟨w4.heap.size, 0, none⟩ = some (.slice A_s n0 c_s) := by rw [hb.cell ts_23]; exact bs_0_23
  have bs_1_24 : w24.cell? ⟨w4.heap.size, 1, none⟩ = some (.slice B_s m0 d_s) := by rw [hb.cell ts_23]; exact bs_1_23
  have ts_24 : w4.heap.size < w24.heap.size := Nat.lt_of_lt_of_le ts_23 hs24
  clear bs_0_23 bs_1_23 ts_23
  have bx_0_24 : w24.cell? ⟨w6.heap.size, 0, none⟩ = some (.slice (some ⟨g_x, 0, none⟩) n0 n0) := by rw [hb.cell tx_23]; exact bx_0_23
  have bx_1_24 : w24.cell? ⟨w6.heap.size, 1, none⟩ = some (.slice (some ⟨k_x, 0, none⟩) m0 m0) := by rw [hb.cell tx_23]; exact bx_1_23
  have tx_24 : w6.heap.size < w24.heap.size := Nat.lt_of_lt_of_le tx_23 hs24
  clear bx_0_23 bx_1_23 tx_23
  have bg_0_24 : w24.cell? ⟨w8.heap.size, 0, none⟩ = some (.slice A_g n0 c_g) := by rw [hb.cell tg_23]; exact bg_0_23
  have bg_1_24 : w24.cell? ⟨w8.heap.size, 1, none⟩ = some (.slice B_g m0 d_g) := by rw [hb.cell tg_23]; exact bg_1_23
  have tg_24 : w8.heap.size < w24.heap.size := Nat.lt_of_lt_of_le tg_23 hs24
  clear bg_0_23 bg_1_23 tg_23
  have br_0_24 : w24.cell? ⟨w20.heap.size, 0, none⟩ = some (.slice A_r n0 c_r) := by rw [hb.cell tr_23]; exact br_0_23
  have br_1_24 : w24.cell? ⟨w20.heap.size, 1, none⟩ = some (.slice B_r m0 d_r) := by rw [hb.cell tr_23]; exact br_1_23
  have tr_24 : w20.heap.size < w24.heap.size := Nat.lt_of_lt_of_le tr_23 hs24
  clear br_0_23 br_1_23 tr_23
  have Os_24 := hide (Os_23.out.below hb)
  clear Os_23
  have Ps_24 := hide (Ps_23.out.below hb)
  clear Ps_23
  have Ot_24 := hide (Ot_23.out.below hb)
  clear Ot_23
  have Ox_24 := hide (Ox_23.out.below hb)
  clear Ox_23
  have Px_24 := hide (Px_23.out.below hb)
  clear Px_23
  have Og_24 := hide (Og_23.out.below hb)
  clear Og_23
  have Pg_24 := hide (Pg_23.out.below hb)
  clear Pg_23
  have Oh_24 := hide (Oh_23.out.below hb)
  clear Oh_23
  clear hb
  go_wp2_with fail
  refine (heldIntS_same _ _ _ (1 + (n0 : Int) + (m0 : Int)) w24.heap.size _ (Oh_24.out.rd).2 (by omega) (by omega) (by omega)).mono ?_
  rintro e w_h ⟨rfl, rfl⟩
  go_wp2
  go_ret
  exact ⟨rfl, HB24.out⟩
end Go.Proofs.Ytjjfblejccfplaa
