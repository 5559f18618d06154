/-
  The walk of FnExactCarved.
-/
import Derived.Test.YtjjfblejccfplaaCarved
namespace Go.Proofs.Ytjjfblejccfplaa
open Go.RowKit
set_option linter.unusedVariables false

set_option maxRecDepth 100000 in
set_option maxHeartbeats 3200000 in
theorem fnExactCarved_walk (v0_0 v0_1 : Value) (w : World) (h0 : HeapArg w v0_0 v0_1) :
    Calls Try.prog 7 #[.agg #[v0_0, v0_1]] w fun e w' => e = .returned (.bool true) ∧ Below w.heap.size w w' := by
  obtain ⟨A0, n0, c0, z0, B0, m0, d0, y0, rfl, rfl, ⟨hn0, hnc0, hc0, hr0, hx0⟩, ⟨hm0, hmd0, hd0, hs0, hy0⟩⟩ := h0
  have Hn0 := hide hn0
  clear hn0
  have Hm0 := hide hm0
  clear hm0
  have Hr0 := hide hr0
  clear hr0
  have Hs0 := hide hs0
  clear hs0
  have Hx0 := hide hx0
  clear hx0
  have Hy0 := hide hy0
  clear hy0
  have HB0 := hide (Below.refl w.heap.size w)
  have hle := carvS_le z0 y0 24
  have hcl : (carvR z0 y0).length ≤ 24 := hle
  clear hle
  have hpos : ¬ (1 + (n0 : Int) + (m0 : Int)) < 0 := by omega
  have hpos2 : ¬ (1 + ((carvR z0 y0).length : Int)) < 0 := by omega
  go_enter Try.func7, Try.ntmps7
  go_wp2_with fail
  obtain ⟨w1, hW⟩ : ∃ W : World, W = w.alloc (.cells #[(.slice A0 n0 c0), (.slice B0 m0 d0)] 24) := ⟨_, rfl⟩
  rw [← hW]
  have hb : Below w.heap.size w w1 := by rw [hW]; exact (Below.refl _ _).alloc (Nat.le_refl _) _
  have nb0 : w1.cell? ⟨w.heap.size, 0, none⟩ = some (.slice A0 n0 c0) := by rw [hW]; go_simp
  have nb1 : w1.cell? ⟨w.heap.size, 1, none⟩ = some (.slice B0 m0 d0) := by rw [hW]; go_simp
  have nt : w.heap.size < w1.heap.size := by rw [hW]; simp
  clear hW
  have HB1 := hide (HB0.out.trans (hb.mono HB0.out.size))
  have hs1 : w.heap.size ≤ w1.heap.size := hb.size
  clear hb
  have b0_0_1 := nb0
  have b0_1_1 := nb1
  have t0_1 := nt
  have u0 := nt
  clear nb0 nb1 nt
  by_cases hbig0 : (n0 : Int) + m0 ≤ 1048576
  case neg =>
    refine (szHeap_no A0 B0 n0 c0 m0 d0 (1048576) _ (by omega) (by omega) hnc0 hc0 hmd0 hd0 (by omega)).mono ?_
    rintro e v1 ⟨rfl, hb⟩
    have HV := hide (HB1.out.trans (hb.mono HB1.out.size))
    clear hb
    go_wp2
    go_ret
    exact ⟨rfl, HV.out⟩
  refine (szHeap_yes A0 B0 n0 c0 m0 d0 (1048576) _ (by omega) (by omega) hbig0).mono ?_
  rintro e w2 ⟨rfl, hb⟩
  have HB2 := hide (HB1.out.trans (hb.mono HB1.out.size))
  have hs2 : w1.heap.size ≤ w2.heap.size := hb.size
  have b0_0_2 : w2.cell? ⟨w.heap.size, 0, none⟩ = some (.slice A0 n0 c0) := by rw [hb.cell t0_1]; exact b0_0_1
  have b0_1_2 : w2.cell? ⟨w.heap.size, 1, none⟩ = some (.slice B0 m0 d0) := by rw [hb.cell t0_1]; exact b0_1_1
  have t0_2 : w.heap.size < w2.heap.size := Nat.lt_of_lt_of_le t0_1 hs2
  clear b0_0_1 b0_1_1 t0_1
  clear hb
  have hq0 : ¬ 1048576 - (n0 : Int) - (m0 : Int) < 0 := by omega
  go_wp2_with fail
  refine (toHeap_any A0 B0 n0 c0 m0 d0 z0 y0 _ Hn0.out (by omega) Hm0.out (by omega) ((Hr0.out.below HB2.out (Nat.le_refl _)).more HB2.out.size) ((Hs0.out.below HB2.out (Nat.le_refl _)).more HB2.out.size)).mono ?_
  rintro e w3 ⟨g_a, k_a, rfl, ho, ho', l1_a, l2_a, l3_a, hb⟩
  have HB3 := hide (HB2.out.trans (hb.mono HB2.out.size))
  have hs3 : w2.heap.size ≤ w3.heap.size := hb.size
  have b0_0_3 : w3.cell? ⟨w.heap.size, 0, none⟩ = some (.slice A0 n0 c0) := by rw [hb.cell t0_2]; exact b0_0_2
  have b0_1_3 : w3.cell? ⟨w.heap.size, 1, none⟩ = some (.slice B0 m0 d0) := by rw [hb.cell t0_2]; exact b0_1_2
  have t0_3 : w.heap.size < w3.heap.size := Nat.lt_of_lt_of_le t0_2 hs3
  clear b0_0_2 b0_1_2 t0_2
  clear hb
  have Oa_3 := hide ho
  have Pa_3 := hide ho'
  clear ho ho'
  have La : Hid (∀ g, g ∈ [g_a] ++ [k_a] → w2.heap.size ≤ g ∧ g < w3.heap.size) := hide (by simp <;> omega)
  go_wp2_with fail
  refine (specCarved_any _ _ _ _ _ _ z0 y0 _ Hn0.out Hm0.out (by omega) (by omega) (Oa_3.out.rd).2 (Pa_3.out.rd).2).mono ?_
  rintro e w4 ⟨A_s, c_s, F_s, rfl, ho, hF, hb⟩
  have HB4 := hide (HB3.out.trans (hb.mono HB3.out.size))
  have hs4 : w3.heap.size ≤ w4.heap.size := hb.size
  have b0_0_4 : w4.cell? ⟨w.heap.size, 0, none⟩ = some (.slice A0 n0 c0) := by rw [hb.cell t0_3]; exact b0_0_3
  have b0_1_4 : w4.cell? ⟨w.heap.size, 1, none⟩ = some (.slice B0 m0 d0) := by rw [hb.cell t0_3]; exact b0_1_3
  have t0_4 : w.heap.size < w4.heap.size := Nat.lt_of_lt_of_le t0_3 hs4
  clear b0_0_3 b0_1_3 t0_3
  have Oa_4 := hide (Oa_3.out.below hb)
  clear Oa_3
  have Pa_4 := hide (Pa_3.out.below hb)
  clear Pa_3
  clear hb
  have Os_4 := hide ho
  clear ho
  have Ls : Hid (∀ g, g ∈ F_s → w3.heap.size ≤ g ∧ g < w4.heap.size) := hide (fun g hg => ⟨hF g hg, Os_4.out.lt g hg⟩)
  clear hF
  clear Oa_4 Pa_4
  go_wp2_with fail
  refine (toHeap_any A0 B0 n0 c0 m0 d0 z0 y0 _ Hn0.out (by omega) Hm0.out (by omega) ((Hr0.out.below HB4.out (Nat.le_refl _)).more HB4.out.size) ((Hs0.out.below HB4.out (Nat.le_refl _)).more HB4.out.size)).mono ?_
  rintro e w5 ⟨g_x, k_x, rfl, ho, ho', l1_x, l2_x, l3_x, hb⟩
  have HB5 := hide (HB4.out.trans (hb.mono HB4.out.size))
  have hs5 : w4.heap.size ≤ w5.heap.size := hb.size
  have b0_0_5 : w5.cell? ⟨w.heap.size, 0, none⟩ = some (.slice A0 n0 c0) := by rw [hb.cell t0_4]; exact b0_0_4
  have b0_1_5 : w5.cell? ⟨w.heap.size, 1, none⟩ = some (.slice B0 m0 d0) := by rw [hb.cell t0_4]; exact b0_1_4
  have t0_5 : w.heap.size < w5.heap.size := Nat.lt_of_lt_of_le t0_4 hs5
  clear b0_0_4 b0_1_4 t0_4
  have Os_5 := hide (Os_4.out.below hb)
  clear Os_4
  clear hb
  have Ox_5 := hide ho
  have Px_5 := hide ho'
  clear ho ho'
  have Lx : Hid (∀ g, g ∈ [g_x] ++ [k_x] → w4.heap.size ≤ g ∧ g < w5.heap.size) := hide (by simp <;> omega)
  go_wp2_with fail
  obtain ⟨w6, hW⟩ : ∃ W : World, W = w5.alloc (.cells #[(.slice (some ⟨g_x, 0, none⟩) n0 n0), (.slice (some ⟨k_x, 0, none⟩) m0 m0)] 27) := ⟨_, rfl⟩
  rw [← hW]
  have hb : Below w5.heap.size w5 w6 := by rw [hW]; exact (Below.refl _ _).alloc (Nat.le_refl _) _
  have nb0 : w6.cell? ⟨w5.heap.size, 0, none⟩ = some (.slice (some ⟨g_x, 0, none⟩) n0 n0) := by rw [hW]; go_simp
  have nb1 : w6.cell? ⟨w5.heap.size, 1, none⟩ = some (.slice (some ⟨k_x, 0, none⟩) m0 m0) := by rw [hW]; go_simp
  have nt : w5.heap.size < w6.heap.size := by rw [hW]; simp
  clear hW
  have HB6 := hide (HB5.out.trans (hb.mono HB5.out.size))
  have hs6 : w5.heap.size ≤ w6.heap.size := hb.size
  have b0_0_6 : w6.cell? ⟨w.heap.size, 0, none⟩ = some (.slice A0 n0 c0) := by rw [hb.cell t0_5]; exact b0_0_5
  have b0_1_6 : w6.cell? ⟨w.heap.size, 1, none⟩ = some (.slice B0 m0 d0) := by rw [hb.cell t0_5]; exact b0_1_5
  have t0_6 : w.heap.size < w6.heap.size := Nat.lt_of_lt_of_le t0_5 hs6
  clear b0_0_5 b0_1_5 t0_5
  have Os_6 := hide (Os_5.out.below hb)
  clear Os_5
  have Ox_6 := hide (Ox_5.out.below hb)
  clear Ox_5
  have Px_6 := hide (Px_5.out.below hb)
  clear Px_5
  clear hb
  have bx_0_6 := nb0
  have bx_1_6 := nb1
  have tx_6 := nt
  have ux := nt
  clear nb0 nb1 nt
  refine (implCarved_any _ _ _ _ _ _ z0 y0 _ Hn0.out Hm0.out (by omega) (by omega) (Ox_6.out.rd).2 (Px_6.out.rd).2).mono ?_
  rintro e w7 ⟨A_g, c_g, F_g, rfl, ho, hF, hb⟩
  have HB7 := hide (HB6.out.trans (hb.mono HB6.out.size))
  have hs7 : w6.heap.size ≤ w7.heap.size := hb.size
  have b0_0_7 : w7.cell? ⟨w.heap.size, 0, none⟩ = some (.slice A0 n0 c0) := by rw [hb.cell t0_6]; exact b0_0_6
  have b0_1_7 : w7.cell? ⟨w.heap.size, 1, none⟩ = some (.slice B0 m0 d0) := by rw [hb.cell t0_6]; exact b0_1_6
  have t0_7 : w.heap.size < w7.heap.size := Nat.lt_of_lt_of_le t0_6 hs7
  clear b0_0_6 b0_1_6 t0_6
  have bx_0_7 : w7.cell? ⟨w5.heap.size, 0, none⟩ = some (.slice (some ⟨g_x, 0, none⟩) n0 n0) := by rw [hb.cell tx_6]; exact bx_0_6
  have bx_1_7 : w7.cell? ⟨w5.heap.size, 1, none⟩ = some (.slice (some ⟨k_x, 0, none⟩) m0 m0) := by rw [hb.cell tx_6]; exact bx_1_6
  have tx_7 : w5.heap.size < w7.heap.size := Nat.lt_of_lt_of_le tx_6 hs7
  clear bx_0_6 bx_1_6 tx_6
  have Os_7 := hide (Os_6.out.below hb)
  clear Os_6
  have Ox_7 := hide (Ox_6.out.below hb)
  clear Ox_6
  have Px_7 := hide (Px_6.out.below hb)
  clear Px_6
  clear hb
  have Og_7 := hide ho
  clear ho
  have Lg : Hid (∀ g, g ∈ F_g → w6.heap.size ≤ g ∧ g < w7.heap.size) := hide (fun g hg => ⟨hF g hg, Og_7.out.lt g hg⟩)
  clear hF
  go_wp2_with fail
  refine (eqIntS_same _ _ _ _ _ (carvR z0 y0) w7.heap.size _ rfl (by omega) (Og_7.out.rd).2 (Os_7.out.rd).2).mono ?_
  rintro e w8 ⟨rfl, hb⟩
  have HB8 := hide (HB7.out.trans (hb.mono HB7.out.size))
  have hs8 : w7.heap.size ≤ w8.heap.size := hb.size
  have b0_0_8 : w8.cell? ⟨w.heap.size, 0, none⟩ = some (.slice A0 n0 c0) := by rw [hb.cell t0_7]; exact b0_0_7
  have b0_1_8 : w8.cell? ⟨w.heap.size, 1, none⟩ = some (.slice B0 m0 d0) := by rw [hb.cell t0_7]; exact b0_1_7
  have t0_8 : w.heap.size < w8.heap.size := Nat.lt_of_lt_of_le t0_7 hs8
  clear b0_0_7 b0_1_7 t0_7
  have bx_0_8 : w8.cell? ⟨w5.heap.size, 0, none⟩ = some (.slice (some ⟨g_x, 0, none⟩) n0 n0) := by rw [hb.cell tx_7]; exact bx_0_7
  have bx_1_8 : w8.cell? ⟨w5.heap.size, 1, none⟩ = some (.slice (some ⟨k_x, 0, none⟩) m0 m0) := by rw [hb.cell tx_7]; exact bx_1_7
  have tx_8 : w5.heap.size < w8.heap.size := Nat.lt_of_lt_of_le tx_7 hs8
  clear bx_0_7 bx_1_7 tx_7
  have Os_8 := hide (Os_7.out.below hb)
  clear Os_7
  have Ox_8 := hide (Ox_7.out.below hb)
  clear Ox_7
  have Px_8 := hide (Px_7.out.below hb)
  clear Px_7
  have Og_8 := hide (Og_7.out.below hb)
  clear Og_7
  clear hb
  go_wp2_with fail
  go_region_held3 (fun w' => (w'.cell? ⟨w5.heap.size, 0, none⟩ = some (.slice (some ⟨g_x, 0, none⟩) n0 n0) ∧ w'.cell? ⟨w5.heap.size, 1, none⟩ = some (.slice (some ⟨k_x, 0, none⟩) m0 m0) ∧ w'.cell? ⟨w.heap.size, 0, none⟩ = some (.slice A0 n0 c0) ∧ w'.cell? ⟨w.heap.size, 1, none⟩ = some (.slice B0 m0 d0)) ∧ Below w8.heap.size w8 w')
    (first | (exact keep22 tx_8 tx_8 t0_8 t0_8 (by assumption) (by assumption)) | (exact ⟨⟨bx_0_8, bx_1_8, b0_0_8, b0_1_8⟩, (Below.refl _ _).drew⟩))
    (first
      | (go_at_call 14; refine (toHeap_any A0 B0 n0 c0 m0 d0 z0 y0 _ Hn0.out (by omega) Hm0.out (by omega) (rdS Hr0.out HB8.out (by assumption)) (rdS Hs0.out HB8.out (by assumption))).mono ?_; rintro e w' ⟨g, g', rfl, ho, ho', _, _, _, hb⟩)
      | (go_at_call 16; refine (eqHeap_same _ _ _ _ _ _ _ _ _ _ z0 y0 _ _ Hn0.out (by omega) Hm0.out (by omega) (Nat.le_refl _) (ownS Ox_8.out (by assumption)) (ownR (by assumption)) (ownS Px_8.out (by assumption)) (ownR (by assumption))).mono ?_; rintro e w' ⟨rfl, hb⟩))
  have hS := ‹(_ ∧ _) ∧ Below w8.heap.size w8 _›
  obtain ⟨w9, rfl, -, hb⟩ := named (C := fun W => (W.cell? ⟨w5.heap.size, 0, none⟩ = some (.slice (some ⟨g_x, 0, none⟩) n0 n0) ∧ W.cell? ⟨w5.heap.size, 1, none⟩ = some (.slice (some ⟨k_x, 0, none⟩) m0 m0) ∧ W.cell? ⟨w.heap.size, 0, none⟩ = some (.slice A0 n0 c0) ∧ W.cell? ⟨w.heap.size, 1, none⟩ = some (.slice B0 m0 d0))) hS
  clear hS
  have HB9 := hide (HB8.out.trans (hb.mono HB8.out.size))
  have hs9 : w8.heap.size ≤ w9.heap.size := hb.size
  have b0_0_9 : w9.cell? ⟨w.heap.size, 0, none⟩ = some (.slice A0 n0 c0) := by rw [hb.cell t0_8]; exact b0_0_8
  have b0_1_9 : w9.cell? ⟨w.heap.size, 1, none⟩ = some (.slice B0 m0 d0) := by rw [hb.cell t0_8]; exact b0_1_8
  have t0_9 : w.heap.size < w9.heap.size := Nat.lt_of_lt_of_le t0_8 hs9
  clear b0_0_8 b0_1_8 t0_8
  have bx_0_9 : w9.cell? ⟨w5.heap.size, 0, none⟩ = some (.slice (some ⟨g_x, 0, none⟩) n0 n0) := by rw [hb.cell tx_8]; exact bx_0_8
  have bx_1_9 : w9.cell? ⟨w5.heap.size, 1, none⟩ = some (.slice (some ⟨k_x, 0, none⟩) m0 m0) := by rw [hb.cell tx_8]; exact bx_1_8
  have tx_9 : w5.heap.size < w9.heap.size := Nat.lt_of_lt_of_le tx_8 hs9
  clear bx_0_8 bx_1_8 tx_8
  have Os_9 := hide (Os_8.out.below hb)
  clear Os_8
  have Ox_9 := hide (Ox_8.out.below hb)
  clear Ox_8
  have Px_9 := hide (Px_8.out.below hb)
  clear Px_8
  have Og_9 := hide (Og_8.out.below hb)
  clear Og_8
  clear hb
  go_wp2_with fail
  refine (markHeap_any _ _ _ _ _ _ _ _ _ _ 1 _ Ox_9.out Px_9.out (by simp <;> omega) (by omega) (by omega) (by omega)).mono ?_
  rintro e w10 ⟨rfl, ho, ho', ht⟩
  have HB10 := hide (Below.touch HB9.out ht (fun g hg => by have := Lx.out g hg; omega) HB9.out.size)
  have hs10 : w9.heap.size ≤ w10.heap.size := ht.size
  have b0_0_10 : w10.cell? ⟨w.heap.size, 0, none⟩ = some (.slice A0 n0 c0) := by rw [World.cell?_of_block (w := w9) (ht.block _ t0_9 (fun hg => by have h5 := Lx.out (w.heap.size) hg; omega))]; exact b0_0_9
  have b0_1_10 : w10.cell? ⟨w.heap.size, 1, none⟩ = some (.slice B0 m0 d0) := by rw [World.cell?_of_block (w := w9) (ht.block _ t0_9 (fun hg => by have h5 := Lx.out (w.heap.size) hg; omega))]; exact b0_1_9
  have t0_10 : w.heap.size < w10.heap.size := Nat.lt_of_lt_of_le t0_9 hs10
  clear b0_0_9 b0_1_9 t0_9
  have bx_0_10 : w10.cell? ⟨w5.heap.size, 0, none⟩ = some (.slice (some ⟨g_x, 0, none⟩) n0 n0) := by rw [World.cell?_of_block (w := w9) (ht.block _ tx_9 (fun hg => by have h5 := Lx.out (w5.heap.size) hg; omega))]; exact bx_0_9
  have bx_1_10 : w10.cell? ⟨w5.heap.size, 1, none⟩ = some (.slice (some ⟨k_x, 0, none⟩) m0 m0) := by rw [World.cell?_of_block (w := w9) (ht.block _ tx_9 (fun hg => by have h5 := Lx.out (w5.heap.size) hg; omega))]; exact bx_1_9
  have tx_10 : w5.heap.size < w10.heap.size := Nat.lt_of_lt_of_le tx_9 hs10
  clear bx_0_9 bx_1_9 tx_9
  have Os_10 := hide (Os_9.out.touch ht (fun g hg hg' => by have := Ls.out g hg; have := Lx.out g hg'; omega))
  clear Os_9
  have Og_10 := hide (Og_9.out.touch ht (fun g hg hg' => by have := Lg.out g hg; have := Lx.out g hg'; omega))
  clear Og_9
  clear ht
  have Ox_10 := hide ho
  have Px_10 := hide ho'
  clear ho ho' Ox_9 Px_9
  go_wp2_with fail
  refine (eqIntS_same _ _ _ _ _ (carvR z0 y0) w10.heap.size _ rfl (by omega) (Og_10.out.rd).2 (Os_10.out.rd).2).mono ?_
  rintro e w11 ⟨rfl, hb⟩
  have HB11 := hide (HB10.out.trans (hb.mono HB10.out.size))
  have hs11 : w10.heap.size ≤ w11.heap.size := hb.size
  have b0_0_11 : w11.cell? ⟨w.heap.size, 0, none⟩ = some (.slice A0 n0 c0) := by rw [hb.cell t0_10]; exact b0_0_10
  have b0_1_11 : w11.cell? ⟨w.heap.size, 1, none⟩ = some (.slice B0 m0 d0) := by rw [hb.cell t0_10]; exact b0_1_10
  have t0_11 : w.heap.size < w11.heap.size := Nat.lt_of_lt_of_le t0_10 hs11
  clear b0_0_10 b0_1_10 t0_10
  have bx_0_11 : w11.cell? ⟨w5.heap.size, 0, none⟩ = some (.slice (some ⟨g_x, 0, none⟩) n0 n0) := by rw [hb.cell tx_10]; exact bx_0_10
  have bx_1_11 : w11.cell? ⟨w5.heap.size, 1, none⟩ = some (.slice (some ⟨k_x, 0, none⟩) m0 m0) := by rw [hb.cell tx_10]; exact bx_1_10
  have tx_11 : w5.heap.size < w11.heap.size := Nat.lt_of_lt_of_le tx_10 hs11
  clear bx_0_10 bx_1_10 tx_10
  have Os_11 := hide (Os_10.out.below hb)
  clear Os_10
  have Ox_11 := hide (Ox_10.out.below hb)
  clear Ox_10
  have Px_11 := hide (Px_10.out.below hb)
  clear Px_10
  have Og_11 := hide (Og_10.out.below hb)
  clear Og_10
  clear hb
  go_wp2_with fail
  refine (markIntS_any _ _ _ _ _ 1 _ Og_11.out (by omega) (by omega) (by omega)).mono ?_
  rintro e w12 ⟨rfl, ho, ht⟩
  have HB12 := hide (Below.touch HB11.out ht (fun g hg => by have := Lg.out g hg; omega) HB11.out.size)
  have hs12 : w11.heap.size ≤ w12.heap.size := ht.size
  have b0_0_12 : w12.cell? ⟨w.heap.size, 0, none⟩ = some (.slice A0 n0 c0) := by rw [World.cell?_of_block (w := w11) (ht.block _ t0_11 (fun hg => by have h5 := Lg.out (w.heap.size) hg; omega))]; exact b0_0_11
  have b0_1_12 : w12.cell? ⟨w.heap.size, 1, none⟩ = some (.slice B0 m0 d0) := by rw [World.cell?_of_block (w := w11) (ht.block _ t0_11 (fun hg => by have h5 := Lg.out (w.heap.size) hg; omega))]; exact b0_1_11
  have t0_12 : w.heap.size < w12.heap.size := Nat.lt_of_lt_of_le t0_11 hs12
  clear b0_0_11 b0_1_11 t0_11
  have bx_0_12 : w12.cell? ⟨w5.heap.size, 0, none⟩ = some (.slice (some ⟨g_x, 0, none⟩) n0 n0) := by rw [World.cell?_of_block (w := w11) (ht.block _ tx_11 (fun hg => by have h5 := Lg.out (w5.heap.size) hg; omega))]; exact bx_0_11
  have bx_1_12 : w12.cell? ⟨w5.heap.size, 1, none⟩ = some (.slice (some ⟨k_x, 0, none⟩) m0 m0) := by rw [World.cell?_of_block (w := w11) (ht.block _ tx_11 (fun hg => by have h5 := Lg.out (w5.heap.size) hg; omega))]; exact bx_1_11
  have tx_12 : w5.heap.size < w12.heap.size := Nat.lt_of_lt_of_le tx_11 hs12
  clear bx_0_11 bx_1_11 tx_11
  have Os_12 := hide (Os_11.out.touch ht (fun g hg hg' => by have := Ls.out g hg; have := Lg.out g hg'; omega))
  clear Os_11
  have Ox_12 := hide (Ox_11.out.touch ht (fun g hg hg' => by have := Lx.out g (List.mem_append_left _ hg); have := Lg.out g hg'; omega))
  clear Ox_11
  have Px_12 := hide (Px_11.out.touch ht (fun g hg hg' => by have := Lx.out g (List.mem_append_right _ hg); have := Lg.out g hg'; omega))
  clear Px_11
  clear ht
  have Og_12 := hide ho
  clear ho Og_11
  go_wp2_with fail
  refine (heldIntS_same _ _ _ 1 w12.heap.size _ (Og_12.out.rd).2 (by omega) (by omega) (by omega)).mono ?_
  rintro e w_h ⟨rfl, rfl⟩
  go_wp2_with fail
  refine (toHeap_any A0 B0 n0 c0 m0 d0 z0 y0 _ Hn0.out (by omega) Hm0.out (by omega) ((Hr0.out.below HB12.out (Nat.le_refl _)).more HB12.out.size) ((Hs0.out.below HB12.out (Nat.le_refl _)).more HB12.out.size)).mono ?_
  rintro e w13 ⟨g_q, k_q, rfl, ho, ho', l1_q, l2_q, l3_q, hb⟩
  have HB13 := hide (HB12.out.trans (hb.mono HB12.out.size))
  have hs13 : w12.heap.size ≤ w13.heap.size := hb.size
  have b0_0_13 : w13.cell? ⟨w.heap.size, 0, none⟩ = some (.slice A0 n0 c0) := by rw [hb.cell t0_12]; exact b0_0_12
  have b0_1_13 : w13.cell? ⟨w.heap.size, 1, none⟩ = some (.slice B0 m0 d0) := by rw [hb.cell t0_12]; exact b0_1_12
  have t0_13 : w.heap.size < w13.heap.size := Nat.lt_of_lt_of_le t0_12 hs13
  clear b0_0_12 b0_1_12 t0_12
  have bx_0_13 : w13.cell? ⟨w5.heap.size, 0, none⟩ = some (.slice (some ⟨g_x, 0, none⟩) n0 n0) := by rw [hb.cell tx_12]; exact bx_0_12
  have bx_1_13 : w13.cell? ⟨w5.heap.size, 1, none⟩ = some (.slice (some ⟨k_x, 0, none⟩) m0 m0) := by rw [hb.cell tx_12]; exact bx_1_12
  have tx_13 : w5.heap.size < w13.heap.size := Nat.lt_of_lt_of_le tx_12 hs13
  clear bx_0_12 bx_1_12 tx_12
  have Os_13 := hide (Os_12.out.below hb)
  clear Os_12
  have Ox_13 := hide (Ox_12.out.below hb)
  clear Ox_12
  have Px_13 := hide (Px_12.out.below hb)
  clear Px_12
  have Og_13 := hide (Og_12.out.below hb)
  clear Og_12
  clear hb
  have Oq_13 := hide ho
  have Pq_13 := hide ho'
  clear ho ho'
  have Lq : Hid (∀ g, g ∈ [g_q] ++ [k_q] → w12.heap.size ≤ g ∧ g < w13.heap.size) := hide (by simp <;> omega)
  go_wp2_with fail
  refine (implCarved_any _ _ _ _ _ _ z0 y0 _ Hn0.out Hm0.out (by omega) (by omega) (Oq_13.out.rd).2 (Pq_13.out.rd).2).mono ?_
  rintro e w14 ⟨A_r, c_r, F_r, rfl, ho, hF, hb⟩
  have HB14 := hide (HB13.out.trans (hb.mono HB13.out.size))
  have hs14 : w13.heap.size ≤ w14.heap.size := hb.size
  have b0_0_14 : w14.cell? ⟨w.heap.size, 0, none⟩ = some (.slice A0 n0 c0) := by rw [hb.cell t0_13]; exact b0_0_13
  have b0_1_14 : w14.cell? ⟨w.heap.size, 1, none⟩ = some (.slice B0 m0 d0) := by rw [hb.cell t0_13]; exact b0_1_13
  have t0_14 : w.heap.size < w14.heap.size := Nat.lt_of_lt_of_le t0_13 hs14
  clear b0_0_13 b0_1_13 t0_13
  have bx_0_14 : w14.cell? ⟨w5.heap.size, 0, none⟩ = some (.slice (some ⟨g_x, 0, none⟩) n0 n0) := by rw [hb.cell tx_13]; exact bx_0_13
  have bx_1_14 : w14.cell? ⟨w5.heap.size, 1, none⟩ = some (.slice (some ⟨k_x, 0, none⟩) m0 m0) := by rw [hb.cell tx_13]; exact bx_1_13
  have tx_14 : w5.heap.size < w14.heap.size := Nat.lt_of_lt_of_le tx_13 hs14
  clear bx_0_13 bx_1_13 tx_13
  have Os_14 := hide (Os_13.out.below hb)
  clear Os_13
  have Ox_14 := hide (Ox_13.out.below hb)
  clear Ox_13
  have Px_14 := hide (Px_13.out.below hb)
  clear Px_13
  have Og_14 := hide (Og_13.out.below hb)
  clear Og_13
  have Oq_14 := hide (Oq_13.out.below hb)
  clear Oq_13
  have Pq_14 := hide (Pq_13.out.below hb)
  clear Pq_13
  clear hb
  have Or_14 := hide ho
  clear ho
  have Lr : Hid (∀ g, g ∈ F_r → w13.heap.size ≤ g ∧ g < w14.heap.size) := hide (fun g hg => ⟨hF g hg, Or_14.out.lt g hg⟩)
  clear hF
  clear Oq_14 Pq_14
  go_wp2_with fail
  refine (eqIntS_same _ _ _ _ _ (carvR z0 y0) w14.heap.size _ rfl (by omega) (Or_14.out.rd).2 (Os_14.out.rd).2).mono ?_
  rintro e w15 ⟨rfl, hb⟩
  have HB15 := hide (HB14.out.trans (hb.mono HB14.out.size))
  have hs15 : w14.heap.size ≤ w15.heap.size := hb.size
  have b0_0_15 : w15.cell? ⟨w.heap.size, 0, none⟩ = some (.slice A0 n0 c0) := by rw [hb.cell t0_14]; exact b0_0_14
  have b0_1_15 : w15.cell? ⟨w.heap.size, 1, none⟩ = some (.slice B0 m0 d0) := by rw [hb.cell t0_14]; exact b0_1_14
  have t0_15 : w.heap.size < w15.heap.size := Nat.lt_of_lt_of_le t0_14 hs15
  clear b0_0_14 b0_1_14 t0_14
  have bx_0_15 : w15.cell? ⟨w5.heap.size, 0, none⟩ = some (.slice (some ⟨g_x, 0, none⟩) n0 n0) := by rw [hb.cell tx_14]; exact bx_0_14
  have bx_1_15 : w15.cell? ⟨w5.heap.size, 1, none⟩ = some (.slice (some ⟨k_x, 0, none⟩) m0 m0) := by rw [hb.cell tx_14]; exact bx_1_14
  have tx_15 : w5.heap.size < w15.heap.size := Nat.lt_of_lt_of_le tx_14 hs15
  clear bx_0_14 bx_1_14 tx_14
  have Os_15 := hide (Os_14.out.below hb)
  clear Os_14
  have Ox_15 := hide (Ox_14.out.below hb)
  clear Ox_14
  have Px_15 := hide (Px_14.out.below hb)
  clear Px_14
  have Og_15 := hide (Og_14.out.below hb)
  clear Og_14
  have Or_15 := hide (Or_14.out.below hb)
  clear Or_14
  clear hb
  clear Or_15
  go_wp2_with fail
  refine (heldIntS_same _ _ _ 1 w15.heap.size _ (Og_15.out.rd).2 (by omega) (by omega) (by omega)).mono ?_
  rintro e w_h ⟨rfl, rfl⟩
  go_wp2
  go_ret
  exact ⟨rfl, HB15.out⟩
end Go.Proofs.Ytjjfblejccfplaa
