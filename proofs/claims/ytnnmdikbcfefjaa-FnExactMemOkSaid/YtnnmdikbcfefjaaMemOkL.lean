/-
  MemOk: the law.
-/
import Derived.Test.YtnnmdikbcfefjaaMemOkI
namespace Go.Proofs.Ytnnmdikbcfefjaa
open Go.RowKit
set_option linter.unusedVariables false

set_option maxRecDepth 100000 in
set_option maxHeartbeats 6400000 in
theorem fnExactMemOk_walk (v0 v1 v2 v3 : Value) (w : World) (h0 : HeapArg w v0 v1 ∧ ListsArg w v2 v3) :
    Calls Try.prog 3 #[.agg #[v0, v1, v2, v3]] w fun e w' => e = .returned (.bool true) ∧ Below w.heap.size w w' := by
  obtain ⟨A_0, B_0, L_0, K_0, n_0, p_0, m_0, q_0, c_0, e_0, d_0, f_0, x_0, y_0, z_0, t_0, rfl, rfl, rfl, rfl, hm0⟩ := MI.of h0
  have M0 := hide hm0
  clear hm0
  go_enter Try.func3, Try.ntmps3
  go_wp2_with fail
  obtain ⟨w1, hW⟩ : ∃ W : World, W = (w.alloc (.cells #[.slice A_0 n_0 c_0, .slice B_0 p_0 e_0, .slice L_0 m_0 d_0, .slice K_0 q_0 f_0] 29)) := ⟨_, rfl⟩
  rw [← hW]
  have hb1 : Below w.heap.size w w1 := by rw [hW]; exact (Below.refl _ _).alloc (Nat.le_refl _) _
  have ta_1 : w.heap.size < w1.heap.size := by rw [hW]; simp <;> omega
  have a0_1 : w1.cell? ⟨w.heap.size, 0, none⟩ = some (.slice A_0 n_0 c_0) := by rw [hW]; go_simp
  have a1_1 : w1.cell? ⟨w.heap.size, 1, none⟩ = some (.slice B_0 p_0 e_0) := by rw [hW]; go_simp
  have a2_1 : w1.cell? ⟨w.heap.size, 2, none⟩ = some (.slice L_0 m_0 d_0) := by rw [hW]; go_simp
  have a3_1 : w1.cell? ⟨w.heap.size, 3, none⟩ = some (.slice K_0 q_0 f_0) := by rw [hW]; go_simp
  clear hW
  have HB1 := hide hb1
  clear hb1
  refine (szMem_any A_0 B_0 L_0 K_0 n_0 p_0 m_0 q_0 c_0 e_0 d_0 f_0 x_0 y_0 z_0 t_0 1048576 w1 (by omega) (by omega) (M0.out.up HB1.out)).mono ?_
  rintro e w2 ⟨⟨r0, rfl, hr0⟩, hb⟩
  have HB2 := hide (below_go HB1.out hb)
  have hs2 : w1.heap.size ≤ w2.heap.size := hb.size
  have a0_2 : w2.cell? ⟨w.heap.size, 0, none⟩ = some (.slice A_0 n_0 c_0) := (hb.cell ta_1).trans a0_1
  have a1_2 : w2.cell? ⟨w.heap.size, 1, none⟩ = some (.slice B_0 p_0 e_0) := (hb.cell ta_1).trans a1_1
  have a2_2 : w2.cell? ⟨w.heap.size, 2, none⟩ = some (.slice L_0 m_0 d_0) := (hb.cell ta_1).trans a2_1
  have a3_2 : w2.cell? ⟨w.heap.size, 3, none⟩ = some (.slice K_0 q_0 f_0) := (hb.cell ta_1).trans a3_1
  have ta_2 : w.heap.size < w2.heap.size := Nat.lt_of_lt_of_le ta_1 hs2
  clear a0_1 a1_1 a2_1 a3_1 ta_1
  clear hb
  by_cases hn0 : r0 < 0
  case pos =>
    go_wp2
    go_ret
    exact ⟨rfl, HB2.out⟩
  have hq0 : n_0 + p_0 + (m_0 + sumL z_0 m_0 + q_0 + sumL t_0 q_0) ≤ 1048576 := by unfold MSum at hr0; omega
  have HQ0 := hide hq0
  have HN := hide (show n_0 ≤ maxLen by simp only [maxLen]; omega)
  clear hq0 hr0
  go_wp2_with fail
  refine (toMem_any A_0 B_0 L_0 K_0 n_0 p_0 m_0 q_0 c_0 e_0 d_0 f_0 x_0 y_0 z_0 t_0 w2 (M0.out.up HB2.out) HQ0.out).mono ?_
  rintro e w3 ⟨A_v, B_v, L_v, K_v, rfl, hmr, hb⟩
  have HB3 := hide (below_go HB2.out hb)
  have hs3 : w2.heap.size ≤ w3.heap.size := hb.size
  have a0_3 : w3.cell? ⟨w.heap.size, 0, none⟩ = some (.slice A_0 n_0 c_0) := (hb.cell ta_2).trans a0_2
  have a1_3 : w3.cell? ⟨w.heap.size, 1, none⟩ = some (.slice B_0 p_0 e_0) := (hb.cell ta_2).trans a1_2
  have a2_3 : w3.cell? ⟨w.heap.size, 2, none⟩ = some (.slice L_0 m_0 d_0) := (hb.cell ta_2).trans a2_2
  have a3_3 : w3.cell? ⟨w.heap.size, 3, none⟩ = some (.slice K_0 q_0 f_0) := (hb.cell ta_2).trans a3_2
  have ta_3 : w.heap.size < w3.heap.size := Nat.lt_of_lt_of_le ta_2 hs3
  clear a0_2 a1_2 a2_2 a3_2 ta_2
  clear hb
  have Rv_3 := hide hmr
  clear hmr
  go_wp2_with fail
  refine (specMemOk_any _ _ _ _ _ _ _ _ _ _ _ _ x_0 y_0 z_0 t_0 w3 Rv_3.out (Nat.le_refl _) HN.out).mono ?_
  rintro e w4 ⟨rfl, hb⟩
  have HB4 := hide (below_go HB3.out hb)
  have hs4 : w3.heap.size ≤ w4.heap.size := hb.size
  have a0_4 : w4.cell? ⟨w.heap.size, 0, none⟩ = some (.slice A_0 n_0 c_0) := (hb.cell ta_3).trans a0_3
  have a1_4 : w4.cell? ⟨w.heap.size, 1, none⟩ = some (.slice B_0 p_0 e_0) := (hb.cell ta_3).trans a1_3
  have a2_4 : w4.cell? ⟨w.heap.size, 2, none⟩ = some (.slice L_0 m_0 d_0) := (hb.cell ta_3).trans a2_3
  have a3_4 : w4.cell? ⟨w.heap.size, 3, none⟩ = some (.slice K_0 q_0 f_0) := (hb.cell ta_3).trans a3_3
  have ta_4 : w.heap.size < w4.heap.size := Nat.lt_of_lt_of_le ta_3 hs4
  clear a0_3 a1_3 a2_3 a3_3 ta_3
  clear hb Rv_3
  go_wp2_with fail
  refine (toMem_any A_0 B_0 L_0 K_0 n_0 p_0 m_0 q_0 c_0 e_0 d_0 f_0 x_0 y_0 z_0 t_0 w4 (M0.out.up HB4.out) HQ0.out).mono ?_
  rintro e w5 ⟨A_x, B_x, L_x, K_x, rfl, hmr, hb⟩
  have HB5 := hide (below_go HB4.out hb)
  have hs5 : w4.heap.size ≤ w5.heap.size := hb.size
  have a0_5 : w5.cell? ⟨w.heap.size, 0, none⟩ = some (.slice A_0 n_0 c_0) := (hb.cell ta_4).trans a0_4
  have a1_5 : w5.cell? ⟨w.heap.size, 1, none⟩ = some (.slice B_0 p_0 e_0) := (hb.cell ta_4).trans a1_4
  have a2_5 : w5.cell? ⟨w.heap.size, 2, none⟩ = some (.slice L_0 m_0 d_0) := (hb.cell ta_4).trans a2_4
  have a3_5 : w5.cell? ⟨w.heap.size, 3, none⟩ = some (.slice K_0 q_0 f_0) := (hb.cell ta_4).trans a3_4
  have ta_5 : w.heap.size < w5.heap.size := Nat.lt_of_lt_of_le ta_4 hs5
  clear a0_4 a1_4 a2_4 a3_4 ta_4
  clear hb
  have Rx_5 := hide hmr
  clear hmr
  go_wp2_with fail
  obtain ⟨w6, hW⟩ : ∃ W : World, W = w5.alloc (.cells #[.slice A_x n_0 n_0, .slice B_x p_0 p_0, .slice L_x m_0 m_0, .slice K_x q_0 q_0] 37) := ⟨_, rfl⟩
  rw [← hW]
  have hb : Below w5.heap.size w5 w6 := by rw [hW]; exact (Below.refl _ _).alloc (Nat.le_refl _) _
  have o0 : w6.cell? ⟨w5.heap.size, 0, none⟩ = some (.slice A_x n_0 n_0) := by rw [hW]; go_simp
  have o1 : w6.cell? ⟨w5.heap.size, 1, none⟩ = some (.slice B_x p_0 p_0) := by rw [hW]; go_simp
  have o2 : w6.cell? ⟨w5.heap.size, 2, none⟩ = some (.slice L_x m_0 m_0) := by rw [hW]; go_simp
  have o3 : w6.cell? ⟨w5.heap.size, 3, none⟩ = some (.slice K_x q_0 q_0) := by rw [hW]; go_simp
  have ot : w5.heap.size < w6.heap.size := by rw [hW]; simp
  clear hW
  have HB6 := hide (below_go HB5.out hb)
  have hs6 : w5.heap.size ≤ w6.heap.size := hb.size
  have a0_6 : w6.cell? ⟨w.heap.size, 0, none⟩ = some (.slice A_0 n_0 c_0) := (hb.cell ta_5).trans a0_5
  have a1_6 : w6.cell? ⟨w.heap.size, 1, none⟩ = some (.slice B_0 p_0 e_0) := (hb.cell ta_5).trans a1_5
  have a2_6 : w6.cell? ⟨w.heap.size, 2, none⟩ = some (.slice L_0 m_0 d_0) := (hb.cell ta_5).trans a2_5
  have a3_6 : w6.cell? ⟨w.heap.size, 3, none⟩ = some (.slice K_0 q_0 f_0) := (hb.cell ta_5).trans a3_5
  have ta_6 : w.heap.size < w6.heap.size := Nat.lt_of_lt_of_le ta_5 hs6
  clear a0_5 a1_5 a2_5 a3_5 ta_5
  have Rx_6 := hide (Rx_5.out.up hb)
  clear Rx_5
  clear hb
  refine (implMemOk_any _ _ _ _ _ _ _ _ _ _ _ _ x_0 y_0 z_0 t_0 w6 Rx_6.out (Nat.le_refl _) HN.out).mono ?_
  rintro e w7 ⟨rfl, hb⟩
  have HB7 := hide (below_go HB6.out hb)
  have hs7 : w6.heap.size ≤ w7.heap.size := hb.size
  have a0_7 : w7.cell? ⟨w.heap.size, 0, none⟩ = some (.slice A_0 n_0 c_0) := (hb.cell ta_6).trans a0_6
  have a1_7 : w7.cell? ⟨w.heap.size, 1, none⟩ = some (.slice B_0 p_0 e_0) := (hb.cell ta_6).trans a1_6
  have a2_7 : w7.cell? ⟨w.heap.size, 2, none⟩ = some (.slice L_0 m_0 d_0) := (hb.cell ta_6).trans a2_6
  have a3_7 : w7.cell? ⟨w.heap.size, 3, none⟩ = some (.slice K_0 q_0 f_0) := (hb.cell ta_6).trans a3_6
  have ta_7 : w.heap.size < w7.heap.size := Nat.lt_of_lt_of_le ta_6 hs7
  clear a0_6 a1_6 a2_6 a3_6 ta_6
  have x0_7 : w7.cell? ⟨w5.heap.size, 0, none⟩ = some (.slice A_x n_0 n_0) := (hb.cell ot).trans o0
  have x1_7 : w7.cell? ⟨w5.heap.size, 1, none⟩ = some (.slice B_x p_0 p_0) := (hb.cell ot).trans o1
  have x2_7 : w7.cell? ⟨w5.heap.size, 2, none⟩ = some (.slice L_x m_0 m_0) := (hb.cell ot).trans o2
  have x3_7 : w7.cell? ⟨w5.heap.size, 3, none⟩ = some (.slice K_x q_0 q_0) := (hb.cell ot).trans o3
  have tx_7 : w5.heap.size < w7.heap.size := Nat.lt_of_lt_of_le ot hs7
  clear o0 o1 o2 o3 ot
  have Rx_7 := hide (Rx_6.out.up hb)
  clear Rx_6
  clear hb
  obtain ⟨r, hr⟩ : ∃ r, r = memOkR x_0 y_0 z_0 t_0 := ⟨_, rfl⟩
  rw [← hr]
  clear hr
  go_wp2_with fail
  go_region_held3 (fun w' => (w'.cell? ⟨w5.heap.size, 0, none⟩ = some (.slice A_x n_0 n_0) ∧ w'.cell? ⟨w5.heap.size, 1, none⟩ = some (.slice B_x p_0 p_0) ∧ w'.cell? ⟨w5.heap.size, 2, none⟩ = some (.slice L_x m_0 m_0) ∧ w'.cell? ⟨w5.heap.size, 3, none⟩ = some (.slice K_x q_0 q_0) ∧ w'.cell? ⟨w.heap.size, 0, none⟩ = some (.slice A_0 n_0 c_0) ∧ w'.cell? ⟨w.heap.size, 1, none⟩ = some (.slice B_0 p_0 e_0) ∧ w'.cell? ⟨w.heap.size, 2, none⟩ = some (.slice L_0 m_0 d_0) ∧ w'.cell? ⟨w.heap.size, 3, none⟩ = some (.slice K_0 q_0 f_0)) ∧ Below w7.heap.size w7 w')
    (first | (exact keep44 tx_7 ta_7 (by assumption) (by assumption)) | (exact ⟨⟨x0_7, x1_7, x2_7, x3_7, a0_7, a1_7, a2_7, a3_7⟩, (Below.refl _ _).drew⟩))
    (first
      | (go_at_call 6; refine (toMem_any A_0 B_0 L_0 K_0 n_0 p_0 m_0 q_0 c_0 e_0 d_0 f_0 x_0 y_0 z_0 t_0 _ (M0.out.at HB7.out (by assumption)) HQ0.out).mono ?_; rintro e w_p ⟨Ap, Bp, Lp, Kp, rfl, hmr, hb⟩)
      | (go_at_call 8; refine (eqMem_any _ _ _ _ _ _ _ _ _ _ _ _ _ _ _ _ _ _ _ _ x_0 y_0 z_0 t_0 _ (Rx_7.out.at (by assumption)) (by assumption)).mono ?_; rintro e w_r ⟨rfl, hb⟩))
  have hS := ‹(_ ∧ _) ∧ Below w7.heap.size w7 _›
  obtain ⟨w8, rfl, -, hb⟩ := mnamed (C := fun W => (W.cell? ⟨w5.heap.size, 0, none⟩ = some (.slice A_x n_0 n_0) ∧ W.cell? ⟨w5.heap.size, 1, none⟩ = some (.slice B_x p_0 p_0) ∧ W.cell? ⟨w5.heap.size, 2, none⟩ = some (.slice L_x m_0 m_0) ∧ W.cell? ⟨w5.heap.size, 3, none⟩ = some (.slice K_x q_0 q_0) ∧ W.cell? ⟨w.heap.size, 0, none⟩ = some (.slice A_0 n_0 c_0) ∧ W.cell? ⟨w.heap.size, 1, none⟩ = some (.slice B_0 p_0 e_0) ∧ W.cell? ⟨w.heap.size, 2, none⟩ = some (.slice L_0 m_0 d_0) ∧ W.cell? ⟨w.heap.size, 3, none⟩ = some (.slice K_0 q_0 f_0))) hS
  clear hS
  have HB8 := hide (below_go HB7.out hb)
  clear hb
  go_wp2
  go_ret
  exact ⟨rfl, HB8.out⟩
end Go.Proofs.Ytnnmdikbcfefjaa
