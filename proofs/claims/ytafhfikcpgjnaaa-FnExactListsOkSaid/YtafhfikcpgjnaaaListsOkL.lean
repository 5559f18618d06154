/-
  ListsOk: the walk of the law.
-/
import Derived.Test.YtafhfikcpgjnaaaListsOkW
namespace Go.Proofs.Ytafhfikcpgjnaaa
open Go.RowKit
set_option linter.unusedVariables false

set_option maxRecDepth 100000 in
set_option maxHeartbeats 3200000 in
theorem fnExactListsOk_walk (v0_0 v0_1 : Value) (w : World) (h0 : ListsArg w v0_0 v0_1) :
    Calls Try.prog 6 #[.agg #[v0_0, v0_1]] w fun e w' => e = .returned (.bool true) ∧ Below w.heap.size w w' := by
  obtain ⟨z0, y0, ⟨A0, n0, c0, rfl, hn0, hnc0, hc0, hr0⟩, ⟨B0, m0, d0, rfl, hm0, hmd0, hd0, hs0⟩⟩ := h0
  have Hn0 := hide hn0
  clear hn0
  have Hm0 := hide hm0
  clear hm0
  have Hr0 := hide hr0
  clear hr0
  have Hs0 := hide hs0
  clear hs0
  have HB0 := hide (Below.refl w.heap.size w)
  go_enter Try.func6, Try.ntmps6
  go_wp2_with fail
  obtain ⟨w1, hW⟩ : ∃ W : World, W = w.alloc (.cells #[(.slice A0 n0 c0), (.slice B0 m0 d0)] 31) := ⟨_, rfl⟩
  rw [← hW]
  have hb : Below w.heap.size w w1 := by rw [hW]; exact (Below.refl _ _).alloc (Nat.le_refl _) _
  have nb0 : w1.cell? ⟨w.heap.size, 0, none⟩ = some (.slice A0 n0 c0) := by rw [hW]; go_simp
  have nb1 : w1.cell? ⟨w.heap.size, 1, none⟩ = some (.slice B0 m0 d0) := by rw [hW]; go_simp
  have nt : w.heap.size < w1.heap.size := by rw [hW]; simp
  clear hW
  have HB1 := hide (HB0.out.trans (hb.mono HB0.out.size))
  have hs1 : w.heap.size ≤ w1.heap.size := hb.size
  clear hb
  have b0_0_1 := nb0
  have b0_1_1 := nb1
  have t0_1 := nt
  have u0 := nt
  clear nb0 nb1 nt
  refine (szLists_any A0 B0 n0 c0 m0 d0 z0 y0 1048576 _ Hn0.out Hm0.out (by omega) (by omega) hnc0 hc0 hmd0 hd0 (rdL_at Hr0.out HB1.out) (rdL_at Hs0.out HB1.out)).mono ?_
  rintro e w2 ⟨⟨L0, rfl, hL0⟩, hb⟩
  have HB2 := hide (HB1.out.trans (hb.mono HB1.out.size))
  have hs2 : w1.heap.size ≤ w2.heap.size := hb.size
  have b0_0_2 : w2.cell? ⟨w.heap.size, 0, none⟩ = some (.slice A0 n0 c0) := by rw [hb.cell t0_1]; exact b0_0_1
  have b0_1_2 : w2.cell? ⟨w.heap.size, 1, none⟩ = some (.slice B0 m0 d0) := by rw [hb.cell t0_1]; exact b0_1_1
  have t0_2 : w.heap.size < w2.heap.size := Nat.lt_of_lt_of_le t0_1 hs2
  clear b0_0_1 b0_1_1 t0_1
  clear hb
  by_cases hneg0 : L0 < 0
  case pos =>
    go_wp2
    go_ret
    exact ⟨rfl, HB2.out⟩
  have hq0 : n0 + sumL z0 n0 + m0 + sumL y0 m0 ≤ 1048576 := by omega
  have HQ0 := hide hq0
  have hL0b : 0 ≤ L0 ∧ L0 ≤ 1048576 := by omega
  clear hL0 hq0
  go_wp2_with fail
  refine (toLists_any A0 B0 n0 c0 m0 d0 z0 y0 _ Hn0.out Hm0.out HQ0.out (rdL_at Hr0.out HB2.out) (rdL_at Hs0.out HB2.out)).mono ?_
  rintro e w3 ⟨g_a, k_a, rfl, ho, ho', hb⟩
  have HB3 := hide (HB2.out.trans (hb.mono HB2.out.size))
  have hs3 : w2.heap.size ≤ w3.heap.size := hb.size
  have b0_0_3 : w3.cell? ⟨w.heap.size, 0, none⟩ = some (.slice A0 n0 c0) := by rw [hb.cell t0_2]; exact b0_0_2
  have b0_1_3 : w3.cell? ⟨w.heap.size, 1, none⟩ = some (.slice B0 m0 d0) := by rw [hb.cell t0_2]; exact b0_1_2
  have t0_3 : w.heap.size < w3.heap.size := Nat.lt_of_lt_of_le t0_2 hs3
  clear b0_0_2 b0_1_2 t0_2
  clear hb
  have Oa_3 := hide ho
  have Pa_3 := hide ho'
  clear ho ho'
  go_wp2_with fail
  refine (specListsOk_any _ _ _ _ _ _ z0 y0 _ Hn0.out Hm0.out HQ0.out Oa_3.out Pa_3.out).mono ?_
  rintro e w4 ⟨rfl, hb⟩
  have HB4 := hide (HB3.out.trans (hb.mono HB3.out.size))
  have hs4 : w3.heap.size ≤ w4.heap.size := hb.size
  have b0_0_4 : w4.cell? ⟨w.heap.size, 0, none⟩ = some (.slice A0 n0 c0) := by rw [hb.cell t0_3]; exact b0_0_3
  have b0_1_4 : w4.cell? ⟨w.heap.size, 1, none⟩ = some (.slice B0 m0 d0) := by rw [hb.cell t0_3]; exact b0_1_3
  have t0_4 : w.heap.size < w4.heap.size := Nat.lt_of_lt_of_le t0_3 hs4
  clear b0_0_3 b0_1_3 t0_3
  have Oa_4 := hide (rdM_at Oa_3.out hb)
  clear Oa_3
  have Pa_4 := hide (rdM_at Pa_3.out hb)
  clear Pa_3
  clear hb
  clear Oa_4 Pa_4
  go_wp2_with fail
  refine (toLists_any A0 B0 n0 c0 m0 d0 z0 y0 _ Hn0.out Hm0.out HQ0.out (rdL_at Hr0.out HB4.out) (rdL_at Hs0.out HB4.out)).mono ?_
  rintro e w5 ⟨g_x, k_x, rfl, ho, ho', hb⟩
  have HB5 := hide (HB4.out.trans (hb.mono HB4.out.size))
  have hs5 : w4.heap.size ≤ w5.heap.size := hb.size
  have b0_0_5 : w5.cell? ⟨w.heap.size, 0, none⟩ = some (.slice A0 n0 c0) := by rw [hb.cell t0_4]; exact b0_0_4
  have b0_1_5 : w5.cell? ⟨w.heap.size, 1, none⟩ = some (.slice B0 m0 d0) := by rw [hb.cell t0_4]; exact b0_1_4
  have t0_5 : w.heap.size < w5.heap.size := Nat.lt_of_lt_of_le t0_4 hs5
  clear b0_0_4 b0_1_4 t0_4
  clear hb
  have Ox_5 := hide ho
  have Px_5 := hide ho'
  clear ho ho'
  go_wp2_with fail
  obtain ⟨w6, hW⟩ : ∃ W : World, W = w5.alloc (.cells #[(.slice (some ⟨g_x, 0, none⟩) n0 n0), (.slice (some ⟨k_x, 0, none⟩) m0 m0)] 24) := ⟨_, rfl⟩
  rw [← hW]
  have hb : Below w5.heap.size w5 w6 := by rw [hW]; exact (Below.refl _ _).alloc (Nat.le_refl _) _
  have nb0 : w6.cell? ⟨w5.heap.size, 0, none⟩ = some (.slice (some ⟨g_x, 0, none⟩) n0 n0) := by rw [hW]; go_simp
  have nb1 : w6.cell? ⟨w5.heap.size, 1, none⟩ = some (.slice (some ⟨k_x, 0, none⟩) m0 m0) := by rw [hW]; go_simp
  have nt : w5.heap.size < w6.heap.size := by rw [hW]; simp
  clear hW
  have HB6 := hide (HB5.out.trans (hb.mono HB5.out.size))
  have hs6 : w5.heap.size ≤ w6.heap.size := hb.size
  have b0_0_6 : w6.cell? ⟨w.heap.size, 0, none⟩ = some (.slice A0 n0 c0) := by rw [hb.cell t0_5]; exact b0_0_5
  have b0_1_6 : w6.cell? ⟨w.heap.size, 1, none⟩ = some (.slice B0 m0 d0) := by rw [hb.cell t0_5]; exact b0_1_5
  have t0_6 : w.heap.size < w6.heap.size := Nat.lt_of_lt_of_le t0_5 hs6
  clear b0_0_5 b0_1_5 t0_5
  have Ox_6 := hide (rdM_at Ox_5.out hb)
  clear Ox_5
  have Px_6 := hide (rdM_at Px_5.out hb)
  clear Px_5
  clear hb
  have bx_0_6 := nb0
  have bx_1_6 := nb1
  have tx_6 := nt
  have ux := nt
  clear nb0 nb1 nt
  refine (implListsOk_any _ _ _ _ _ _ z0 y0 _ Hn0.out Hm0.out HQ0.out Ox_6.out Px_6.out).mono ?_
  rintro e w7 ⟨rfl, hb⟩
  have HB7 := hide (HB6.out.trans (hb.mono HB6.out.size))
  have hs7 : w6.heap.size ≤ w7.heap.size := hb.size
  have b0_0_7 : w7.cell? ⟨w.heap.size, 0, none⟩ = some (.slice A0 n0 c0) := by rw [hb.cell t0_6]; exact b0_0_6
  have b0_1_7 : w7.cell? ⟨w.heap.size, 1, none⟩ = some (.slice B0 m0 d0) := by rw [hb.cell t0_6]; exact b0_1_6
  have t0_7 : w.heap.size < w7.heap.size := Nat.lt_of_lt_of_le t0_6 hs7
  clear b0_0_6 b0_1_6 t0_6
  have bx_0_7 : w7.cell? ⟨w5.heap.size, 0, none⟩ = some (.slice (some ⟨g_x, 0, none⟩) n0 n0) := by rw [hb.cell tx_6]; exact bx_0_6
  have bx_1_7 : w7.cell? ⟨w5.heap.size, 1, none⟩ = some (.slice (some ⟨k_x, 0, none⟩) m0 m0) := by rw [hb.cell tx_6]; exact bx_1_6
  have tx_7 : w5.heap.size < w7.heap.size := Nat.lt_of_lt_of_le tx_6 hs7
  clear bx_0_6 bx_1_6 tx_6
  have Ox_7 := hide (rdM_at Ox_6.out hb)
  clear Ox_6
  have Px_7 := hide (rdM_at Px_6.out hb)
  clear Px_6
  clear hb
  go_wp2_with fail
  go_region_held3 (fun w' => (w'.cell? ⟨w5.heap.size, 0, none⟩ = some (.slice (some ⟨g_x, 0, none⟩) n0 n0) ∧ w'.cell? ⟨w5.heap.size, 1, none⟩ = some (.slice (some ⟨k_x, 0, none⟩) m0 m0) ∧ w'.cell? ⟨w.heap.size, 0, none⟩ = some (.slice A0 n0 c0) ∧ w'.cell? ⟨w.heap.size, 1, none⟩ = some (.slice B0 m0 d0)) ∧ Below w7.heap.size w7 w')
    (first | (exact keep22 tx_7 tx_7 t0_7 t0_7 (by assumption) (by assumption)) | (exact ⟨⟨bx_0_7, bx_1_7, b0_0_7, b0_1_7⟩, (Below.refl _ _).drew⟩))
    (first
      | (go_at_call 18; refine (toLists_any A0 B0 n0 c0 m0 d0 z0 y0 _ Hn0.out Hm0.out HQ0.out (rdLS Hr0.out HB7.out (by assumption)) (rdLS Hs0.out HB7.out (by assumption))).mono ?_; rintro e w' ⟨g, g', rfl, ho, ho', hb⟩)
      | (go_at_call 13; refine (eqLists_same _ _ _ _ _ _ _ _ _ _ z0 y0 _ Hn0.out Hm0.out HQ0.out (rdMS Ox_7.out (by assumption)) (by assumption) (rdMS Px_7.out (by assumption)) (by assumption)).mono ?_; rintro e w' ⟨rfl, hb⟩))
  have hS := ‹(_ ∧ _) ∧ Below w7.heap.size w7 _›
  obtain ⟨w8, rfl, -, hb⟩ := named (C := fun W => (W.cell? ⟨w5.heap.size, 0, none⟩ = some (.slice (some ⟨g_x, 0, none⟩) n0 n0) ∧ W.cell? ⟨w5.heap.size, 1, none⟩ = some (.slice (some ⟨k_x, 0, none⟩) m0 m0) ∧ W.cell? ⟨w.heap.size, 0, none⟩ = some (.slice A0 n0 c0) ∧ W.cell? ⟨w.heap.size, 1, none⟩ = some (.slice B0 m0 d0))) hS
  clear hS
  have HB8 := hide (HB7.out.trans (hb.mono HB7.out.size))
  have hs8 : w7.heap.size ≤ w8.heap.size := hb.size
  have b0_0_8 : w8.cell? ⟨w.heap.size, 0, none⟩ = some (.slice A0 n0 c0) := by rw [hb.cell t0_7]; exact b0_0_7
  have b0_1_8 : w8.cell? ⟨w.heap.size, 1, none⟩ = some (.slice B0 m0 d0) := by rw [hb.cell t0_7]; exact b0_1_7
  have t0_8 : w.heap.size < w8.heap.size := Nat.lt_of_lt_of_le t0_7 hs8
  clear b0_0_7 b0_1_7 t0_7
  have bx_0_8 : w8.cell? ⟨w5.heap.size, 0, none⟩ = some (.slice (some ⟨g_x, 0, none⟩) n0 n0) := by rw [hb.cell tx_7]; exact bx_0_7
  have bx_1_8 : w8.cell? ⟨w5.heap.size, 1, none⟩ = some (.slice (some ⟨k_x, 0, none⟩) m0 m0) := by rw [hb.cell tx_7]; exact bx_1_7
  have tx_8 : w5.heap.size < w8.heap.size := Nat.lt_of_lt_of_le tx_7 hs8
  clear bx_0_7 bx_1_7 tx_7
  have Ox_8 := hide (rdM_at Ox_7.out hb)
  clear Ox_7
  have Px_8 := hide (rdM_at Px_7.out hb)
  clear Px_7
  clear hb
  go_wp2
  go_ret
  exact ⟨rfl, HB8.out⟩
end Go.Proofs.Ytafhfikcpgjnaaa
