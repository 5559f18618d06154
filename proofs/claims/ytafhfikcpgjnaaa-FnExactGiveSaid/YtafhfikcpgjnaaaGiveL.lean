/-
  Give: the walk of the law.
-/
import Derived.Test.YtafhfikcpgjnaaaGive
namespace Go.Proofs.Ytafhfikcpgjnaaa
open Go.RowKit
set_option linter.unusedVariables false

theorem addZ_len (z : List (List Int)) (i : Nat) (s : Int) (m : Nat) : ((addZ z i s).getD m []).length ≤ (z.getD m []).length + (if m = i then 1 else 0) := by
  by_cases e : m = i
  · subst e
    rw [if_pos rfl]
    by_cases hm : m < z.length
    · rw [addZ_at z s hm]; simp
    · have h1 : (addZ z m s).getD m [] = [] := by simp [List.getD, addZ_length, hm]
      rw [h1]; simp
  · rw [if_neg e, addZ_ne z s e]; exact Nat.le_refl _
theorem sumL_add (z : List (List Int)) (i : Nat) (s : Int) : ∀ m, sumL (addZ z i s) m ≤ sumL z m + (if i < m then 1 else 0) := by
  intro m
  induction m with
  | zero => simp [sumL]
  | succ m ih =>
    simp only [sumL]
    have h1 := addZ_len z i s m
    by_cases e : m = i
    · subst e
      rw [if_neg (Nat.lt_irrefl _)] at ih
      rw [if_pos rfl] at h1
      rw [if_pos (Nat.lt_succ_self _)]
      omega
    · rw [if_neg e] at h1
      by_cases h : i < m
      · rw [if_pos h] at ih
        rw [if_pos (by omega)]
        omega
      · rw [if_neg h] at ih
        rw [if_neg (by omega)]
        omega
theorem sz_give {z y : List (List Int)} {a c s : Int} {n n' : Nat} (hn : n = z.length) (hn' : n' = y.length) (hm : n + sumL z n + n' + sumL y n' ≤ 1048576) : Sz (giveZ z y a c s) (giveY z y a c s) n n' := by
  by_cases hok : okGive z y a c s = true
  · have h39 : z.length = 3 ∧ y.length = 9 := by
      unfold okGive at hok
      simp only [Bool.and_eq_true] at hok
      exact okR_lens' hok.1.1
    obtain ⟨q, hq⟩ : ∃ q, q = (a * 3 + c).toNat := ⟨_, rfl⟩
    obtain ⟨j, hj⟩ : ∃ j, j = c.toNat := ⟨_, rfl⟩
    have eZ : giveZ z y a c s = givZ z y q j s := by unfold giveZ; rw [if_pos hok, hq, hj]
    have eY : giveY z y a c s = givY z y q j s := by unfold giveY; rw [if_pos hok, hq, hj]
    rw [eZ, eY]
    unfold givZ givY
    have lz := len_le z n
    have ly := len_le y n'
    split
    · have h1 := sumL_add y q s n'
      have h2 : sumL (addZ y q s) n' ≤ sumL y n' + 1 := by split at h1 <;> omega
      exact ⟨hn, by rw [addZ_length]; exact hn', by omega, fun i hi => by have := lz i (by omega); omega, fun i hi => by
        have h5 := addZ_len y q s i
        rw [addZ_length] at hi
        have := ly i (by omega)
        split at h5 <;> omega, by omega⟩
    · have h1 := sumL_add z j s n
      have h2 : sumL (addZ z j s) n ≤ sumL z n + 1 := by split at h1 <;> omega
      exact ⟨by rw [addZ_length]; exact hn, hn', by omega, fun i hi => by
        have h5 := addZ_len z j s i
        rw [addZ_length] at hi
        have := lz i (by omega)
        split at h5 <;> omega, fun i hi => by have := ly i (by omega); omega, by omega⟩
  · have eZ : giveZ z y a c s = z := by unfold giveZ; rw [if_neg hok]
    have eY : giveY z y a c s = y := by unfold giveY; rw [if_neg hok]
    rw [eZ, eY]
    exact Sz.of hn hn' hm
set_option maxRecDepth 100000 in
set_option maxHeartbeats 3200000 in
theorem fnExactGive_walk (v0_0 v0_1 : Value) (a1 : Int) (a2 : Int) (a3 : Int) (w : World) (h0 : ListsArg w v0_0 v0_1) (h1 : (Lit.int .i64 a1).wf = true) (h2 : (Lit.int .i64 a2).wf = true) (h3 : (Lit.int .i64 a3).wf = true) :
    Calls Try.prog 9 #[.agg #[v0_0, v0_1], .int .i64 a1, .int .i64 a2, .int .i64 a3] w fun e w' => e = .returned (.bool true) ∧ Below w.heap.size w w' := by
  obtain ⟨z0, y0, ⟨A0, n0, c0, rfl, hn0, hnc0, hc0, hr0⟩, ⟨B0, m0, d0, rfl, hm0, hmd0, hd0, hs0⟩⟩ := h0
  have Hn0 := hide hn0
  clear hn0
  have Hm0 := hide hm0
  clear hm0
  have Hr0 := hide hr0
  clear hr0
  have Hs0 := hide hs0
  clear hs0
  have hb1 := bounds_i64 h1
  clear h1
  have hb2 := bounds_i64 h2
  clear h2
  have hb3 := bounds_i64 h3
  clear h3
  have HB0 := hide (Below.refl w.heap.size w)
  have hpos : ¬ (1 + (sumL z0 n0 : Int) + (sumL y0 m0 : Int)) < 0 := by omega
  have hpos2 : ¬ (1 + (sumL (giveZ z0 y0 a1 a2 a3) n0 : Int) + (sumL (giveY z0 y0 a1 a2 a3) m0 : Int)) < 0 := by omega
  go_enter Try.func9, Try.ntmps9
  go_wp2_with fail
  obtain ⟨w1, hW⟩ : ∃ W : World, W = w.alloc (.cells #[(.slice A0 n0 c0), (.slice B0 m0 d0)] 31) := ⟨_, rfl⟩
  rw [← hW]
  have hb : Below w.heap.size w w1 := by rw [hW]; exact (Below.refl _ _).alloc (Nat.le_refl _) _
  have nb0 : w1.cell? ⟨w.heap.size, 0, none⟩ = some (.slice A0 n0 c0) := by rw [hW]; go_simp
  have nb1 : w1.cell? ⟨w.heap.size, 1, none⟩ = some (.slice B0 m0 d0) := by rw [hW]; go_simp
  have nt : w.heap.size < w1.heap.size := by rw [hW]; simp
  clear hW
  have HB1 := hide (HB0.out.trans (hb.mono HB0.out.size))
  have hs1 : w.heap.size ≤ w1.heap.size := hb.size
  clear hb
  have b0_0_1 := nb0
  have b0_1_1 := nb1
  have t0_1 := nt
  have u0 := nt
  clear nb0 nb1 nt
  refine (szLists_any A0 B0 n0 c0 m0 d0 z0 y0 1048576 _ Hn0.out Hm0.out (by omega) (by omega) hnc0 hc0 hmd0 hd0 (rdL_at Hr0.out HB1.out) (rdL_at Hs0.out HB1.out)).mono ?_
  rintro e w2 ⟨⟨L0, rfl, hL0⟩, hb⟩
  have HB2 := hide (HB1.out.trans (hb.mono HB1.out.size))
  have hs2 : w1.heap.size ≤ w2.heap.size := hb.size
  have b0_0_2 : w2.cell? ⟨w.heap.size, 0, none⟩ = some (.slice A0 n0 c0) := by rw [hb.cell t0_1]; exact b0_0_1
  have b0_1_2 : w2.cell? ⟨w.heap.size, 1, none⟩ = some (.slice B0 m0 d0) := by rw [hb.cell t0_1]; exact b0_1_1
  have t0_2 : w.heap.size < w2.heap.size := Nat.lt_of_lt_of_le t0_1 hs2
  clear b0_0_1 b0_1_1 t0_1
  clear hb
  by_cases hneg0 : L0 < 0
  case pos =>
    go_wp2
    go_ret
    exact ⟨rfl, HB2.out⟩
  have hq0 : n0 + sumL z0 n0 + m0 + sumL y0 m0 ≤ 1048576 := by omega
  have HQ0 := hide hq0
  have hL0b : 0 ≤ L0 ∧ L0 ≤ 1048576 := by omega
  clear hL0 hq0
  have HSZ0 := hide (Sz.of Hn0.out Hm0.out HQ0.out)
  have HSZR := hide (sz_give (a := a1) (c := a2) (s := a3) Hn0.out Hm0.out HQ0.out)
  go_wp2_with fail
  refine (toLists_lv A0 B0 n0 c0 m0 d0 z0 y0 _ Hn0.out Hm0.out HQ0.out (rdL_at Hr0.out HB2.out) (rdL_at Hs0.out HB2.out)).mono ?_
  rintro e w3 ⟨g_a, k_a, rfl, ho, hb⟩
  have HB3 := hide (HB2.out.trans (hb.mono HB2.out.size))
  have hs3 : w2.heap.size ≤ w3.heap.size := hb.size
  have b0_0_3 : w3.cell? ⟨w.heap.size, 0, none⟩ = some (.slice A0 n0 c0) := by rw [hb.cell t0_2]; exact b0_0_2
  have b0_1_3 : w3.cell? ⟨w.heap.size, 1, none⟩ = some (.slice B0 m0 d0) := by rw [hb.cell t0_2]; exact b0_1_2
  have t0_3 : w.heap.size < w3.heap.size := Nat.lt_of_lt_of_le t0_2 hs3
  clear b0_0_2 b0_1_2 t0_2
  clear hb
  have La_3 := hide ho
  clear ho
  go_wp2_with fail
  refine (specGive_any _ _ _ _ _ _ z0 y0 a1 a2 a3 _ Hn0.out Hm0.out HQ0.out (La_3.out.rd).2.2.2.2.1 (La_3.out.rd).2.2.2.2.2).mono ?_
  rintro e w4 ⟨v, rfl, ho, hb⟩
  obtain ⟨A_s, c_s, B_s, d_s, ev⟩ := ho.shp
  subst ev
  rw [← HSZR.out.n0, ← HSZR.out.n1] at ho ⊢
  have HB4 := hide (HB3.out.trans (hb.mono HB3.out.size))
  have hs4 : w3.heap.size ≤ w4.heap.size := hb.size
  have b0_0_4 : w4.cell? ⟨w.heap.size, 0, none⟩ = some (.slice A0 n0 c0) := by rw [hb.cell t0_3]; exact b0_0_3
  have b0_1_4 : w4.cell? ⟨w.heap.size, 1, none⟩ = some (.slice B0 m0 d0) := by rw [hb.cell t0_3]; exact b0_1_3
  have t0_4 : w.heap.size < w4.heap.size := Nat.lt_of_lt_of_le t0_3 hs4
  clear b0_0_3 b0_1_3 t0_3
  have La_4 := hide (La_3.out.below hb)
  clear La_3
  clear hb
  have Ls_4 := hide ho
  clear ho
  clear La_4
  go_wp2_with fail
  obtain ⟨w5, hW⟩ : ∃ W : World, W = w4.alloc (.cells #[(.slice A_s n0 c_s), (.slice B_s m0 d_s)] 24) := ⟨_, rfl⟩
  rw [← hW]
  have hb : Below w4.heap.size w4 w5 := by rw [hW]; exact (Below.refl _ _).alloc (Nat.le_refl _) _
  have nb0 : w5.cell? ⟨w4.heap.size, 0, none⟩ = some (.slice A_s n0 c_s) := by rw [hW]; go_simp
  have nb1 : w5.cell? ⟨w4.heap.size, 1, none⟩ = some (.slice B_s m0 d_s) := by rw [hW]; go_simp
  have nt : w4.heap.size < w5.heap.size := by rw [hW]; simp
  clear hW
  have HB5 := hide (HB4.out.trans (hb.mono HB4.out.size))
  have hs5 : w4.heap.size ≤ w5.heap.size := hb.size
  have b0_0_5 : w5.cell? ⟨w.heap.size, 0, none⟩ = some (.slice A0 n0 c0) := by rw [hb.cell t0_4]; exact b0_0_4
  have b0_1_5 : w5.cell? ⟨w.heap.size, 1, none⟩ = some (.slice B0 m0 d0) := by rw [hb.cell t0_4]; exact b0_1_4
  have t0_5 : w.heap.size < w5.heap.size := Nat.lt_of_lt_of_le t0_4 hs5
  clear b0_0_4 b0_1_4 t0_4
  have Ls_5 := hide (Ls_4.out.below hb)
  clear Ls_4
  clear hb
  have bs_0_5 := nb0
  have bs_1_5 := nb1
  have ts_5 := nt
  have us := nt
  clear nb0 nb1 nt
  refine (toLists_lv A0 B0 n0 c0 m0 d0 z0 y0 _ Hn0.out Hm0.out HQ0.out (rdL_at Hr0.out HB5.out) (rdL_at Hs0.out HB5.out)).mono ?_
  rintro e w6 ⟨g_x, k_x, rfl, ho, hb⟩
  have HB6 := hide (HB5.out.trans (hb.mono HB5.out.size))
  have hs6 : w5.heap.size ≤ w6.heap.size := hb.size
  have b0_0_6 : w6.cell? ⟨w.heap.size, 0, none⟩ = some (.slice A0 n0 c0) := by rw [hb.cell t0_5]; exact b0_0_5
  have b0_1_6 : w6.cell? ⟨w.heap.size, 1, none⟩ = some (.slice B0 m0 d0) := by rw [hb.cell t0_5]; exact b0_1_5
  have t0_6 : w.heap.size < w6.heap.size := Nat.lt_of_lt_of_le t0_5 hs6
  clear b0_0_5 b0_1_5 t0_5
  have bs_0_6 : w6.cell? ⟨w4.heap.size, 0, none⟩ = some (.slice A_s n0 c_s) := by rw [hb.cell ts_5]; exact bs_0_5
  have bs_1_6 : w6.cell? ⟨w4.heap.size, 1, none⟩ = some (.slice B_s m0 d_s) := by rw [hb.cell ts_5]; exact bs_1_5
  have ts_6 : w4.heap.size < w6.heap.size := Nat.lt_of_lt_of_le ts_5 hs6
  clear bs_0_5 bs_1_5 ts_5
  have Ls_6 := hide (Ls_5.out.below hb)
  clear Ls_5
  clear hb
  have Lx_6 := hide ho
  clear ho
  go_wp2_with fail
  obtain ⟨w7, hW⟩ : ∃ W : World, W = w6.alloc (.cells #[(.slice (some ⟨g_x, 0, none⟩) n0 n0), (.slice (some ⟨k_x, 0, none⟩) m0 m0)] 24) := ⟨_, rfl⟩
  rw [← hW]
  have hb : Below w6.heap.size w6 w7 := by rw [hW]; exact (Below.refl _ _).alloc (Nat.le_refl _) _
  have nb0 : w7.cell? ⟨w6.heap.size, 0, none⟩ = some (.slice (some ⟨g_x, 0, none⟩) n0 n0) := by rw [hW]; go_simp
  have nb1 : w7.cell? ⟨w6.heap.size, 1, none⟩ = some (.slice (some ⟨k_x, 0, none⟩) m0 m0) := by rw [hW]; go_simp
  have nt : w6.heap.size < w7.heap.size := by rw [hW]; simp
  clear hW
  have HB7 := hide (HB6.out.trans (hb.mono HB6.out.size))
  have hs7 : w6.heap.size ≤ w7.heap.size := hb.size
  have b0_0_7 : w7.cell? ⟨w.heap.size, 0, none⟩ = some (.slice A0 n0 c0) := by rw [hb.cell t0_6]; exact b0_0_6
  have b0_1_7 : w7.cell? ⟨w.heap.size, 1, none⟩ = some (.slice B0 m0 d0) := by rw [hb.cell t0_6]; exact b0_1_6
  have t0_7 : w.heap.size < w7.heap.size := Nat.lt_of_lt_of_le t0_6 hs7
  clear b0_0_6 b0_1_6 t0_6
  have bs_0_7 : w7.cell? ⟨w4.heap.size, 0, none⟩ = some (.slice A_s n0 c_s) := by rw [hb.cell ts_6]; exact bs_0_6
  have bs_1_7 : w7.cell? ⟨w4.heap.size, 1, none⟩ = some (.slice B_s m0 d_s) := by rw [hb.cell ts_6]; exact bs_1_6
  have ts_7 : w4.heap.size < w7.heap.size := Nat.lt_of_lt_of_le ts_6 hs7
  clear bs_0_6 bs_1_6 ts_6
  have Ls_7 := hide (Ls_6.out.below hb)
  clear Ls_6
  have Lx_7 := hide (Lx_6.out.below hb)
  clear Lx_6
  clear hb
  have bx_0_7 := nb0
  have bx_1_7 := nb1
  have tx_7 := nt
  have ux := nt
  clear nb0 nb1 nt
  refine (implGive_any _ _ _ _ _ _ z0 y0 a1 a2 a3 _ Hn0.out Hm0.out HQ0.out (Lx_7.out.rd).2.2.2.2.1 (Lx_7.out.rd).2.2.2.2.2).mono ?_
  rintro e w8 ⟨v, rfl, ho, hb⟩
  obtain ⟨A_g, c_g, B_g, d_g, ev⟩ := ho.shp
  subst ev
  rw [← HSZR.out.n0, ← HSZR.out.n1] at ho ⊢
  have HB8 := hide (HB7.out.trans (hb.mono HB7.out.size))
  have hs8 : w7.heap.size ≤ w8.heap.size := hb.size
  have b0_0_8 : w8.cell? ⟨w.heap.size, 0, none⟩ = some (.slice A0 n0 c0) := by rw [hb.cell t0_7]; exact b0_0_7
  have b0_1_8 : w8.cell? ⟨w.heap.size, 1, none⟩ = some (.slice B0 m0 d0) := by rw [hb.cell t0_7]; exact b0_1_7
  have t0_8 : w.heap.size < w8.heap.size := Nat.lt_of_lt_of_le t0_7 hs8
  clear b0_0_7 b0_1_7 t0_7
  have bs_0_8 : w8.cell? ⟨w4.heap.size, 0, none⟩ = some (.slice A_s n0 c_s) := by rw [hb.cell ts_7]; exact bs_0_7
  have bs_1_8 : w8.cell? ⟨w4.heap.size, 1, none⟩ = some (.slice B_s m0 d_s) := by rw [hb.cell ts_7]; exact bs_1_7
  have ts_8 : w4.heap.size < w8.heap.size := Nat.lt_of_lt_of_le ts_7 hs8
  clear bs_0_7 bs_1_7 ts_7
  have bx_0_8 : w8.cell? ⟨w6.heap.size, 0, none⟩ = some (.slice (some ⟨g_x, 0, none⟩) n0 n0) := by rw [hb.cell tx_7]; exact bx_0_7
  have bx_1_8 : w8.cell? ⟨w6.heap.size, 1, none⟩ = some (.slice (some ⟨k_x, 0, none⟩) m0 m0) := by rw [hb.cell tx_7]; exact bx_1_7
  have tx_8 : w6.heap.size < w8.heap.size := Nat.lt_of_lt_of_le tx_7 hs8
  clear bx_0_7 bx_1_7 tx_7
  have Ls_8 := hide (Ls_7.out.below hb)
  clear Ls_7
  have Lx_8 := hide (Lx_7.out.below hb)
  clear Lx_7
  clear hb
  have Lg_8 := hide ho
  clear ho
  go_wp2_with fail
  obtain ⟨w9, hW⟩ : ∃ W : World, W = w8.alloc (.cells #[(.slice A_g n0 c_g), (.slice B_g m0 d_g)] 24) := ⟨_, rfl⟩
  rw [← hW]
  have hb : Below w8.heap.size w8 w9 := by rw [hW]; exact (Below.refl _ _).alloc (Nat.le_refl _) _
  have nb0 : w9.cell? ⟨w8.heap.size, 0, none⟩ = some (.slice A_g n0 c_g) := by rw [hW]; go_simp
  have nb1 : w9.cell? ⟨w8.heap.size, 1, none⟩ = some (.slice B_g m0 d_g) := by rw [hW]; go_simp
  have nt : w8.heap.size < w9.heap.size := by rw [hW]; simp
  clear hW
  have HB9 := hide (HB8.out.trans (hb.mono HB8.out.size))
  have hs9 : w8.heap.size ≤ w9.heap.size := hb.size
  have b0_0_9 : w9.cell? ⟨w.heap.size, 0, none⟩ = some (.slice A0 n0 c0) := by rw [hb.cell t0_8]; exact b0_0_8
  have b0_1_9 : w9.cell? ⟨w.heap.size, 1, none⟩ = some (.slice B0 m0 d0) := by rw [hb.cell t0_8]; exact b0_1_8
  have t0_9 : w.heap.size < w9.heap.size := Nat.lt_of_lt_of_le t0_8 hs9
  clear b0_0_8 b0_1_8 t0_8
  have bs_0_9 : w9.cell? ⟨w4.heap.size, 0, none⟩ = some (.slice A_s n0 c_s) := by rw [hb.cell ts_8]; exact bs_0_8
  have bs_1_9 : w9.cell? ⟨w4.heap.size, 1, none⟩ = some (.slice B_s m0 d_s) := by rw [hb.cell ts_8]; exact bs_1_8
  have ts_9 : w4.heap.size < w9.heap.size := Nat.lt_of_lt_of_le ts_8 hs9
  clear bs_0_8 bs_1_8 ts_8
  have bx_0_9 : w9.cell? ⟨w6.heap.size, 0, none⟩ = some (.slice (some ⟨g_x, 0, none⟩) n0 n0) := by rw [hb.cell tx_8]; exact bx_0_8
  have bx_1_9 : w9.cell? ⟨w6.heap.size, 1, none⟩ = some (.slice (some ⟨k_x, 0, none⟩) m0 m0) := by rw [hb.cell tx_8]; exact bx_1_8
  have tx_9 : w6.heap.size < w9.heap.size := Nat.lt_of_lt_of_le tx_8 hs9
  clear bx_0_8 bx_1_8 tx_8
  have Ls_9 := hide (Ls_8.out.below hb)
  clear Ls_8
  have Lx_9 := hide (Lx_8.out.below hb)
  clear Lx_8
  have Lg_9 := hide (Lg_8.out.below hb)
  clear Lg_8
  clear hb
  have bg_0_9 := nb0
  have bg_1_9 := nb1
  have tg_9 := nt
  have ug := nt
  clear nb0 nb1 nt
  refine (eqLists_lv _ _ _ _ _ _ _ _ _ _ (giveZ z0 y0 a1 a2 a3) (giveY z0 y0 a1 a2 a3) _ _ _ _ _ HSZR.out Lg_9.out Ls_9.out).mono ?_
  rintro e w10 ⟨rfl, hb⟩
  have HB10 := hide (HB9.out.trans (hb.mono HB9.out.size))
  have hs10 : w9.heap.size ≤ w10.heap.size := hb.size
  have b0_0_10 : w10.cell? ⟨w.heap.size, 0, none⟩ = some (.slice A0 n0 c0) := by rw [hb.cell t0_9]; exact b0_0_9
  have b0_1_10 : w10.cell? ⟨w.heap.size, 1, none⟩ = some (.slice B0 m0 d0) := by rw [hb.cell t0_9]; exact b0_1_9
  have t0_10 : w.heap.size < w10.heap.size := Nat.lt_of_lt_of_le t0_9 hs10
  clear b0_0_9 b0_1_9 t0_9
  have bs_0_10 : w10.cell? ⟨w4.heap.size, 0, none⟩ = some (.slice A_s n0 c_s) := by rw [hb.cell ts_9]; exact bs_0_9
  have bs_1_10 : w10.cell? ⟨w4.heap.size, 1, none⟩ = some (.slice B_s m0 d_s) := by rw [hb.cell ts_9]; exact bs_1_9
  have ts_10 : w4.heap.size < w10.heap.size := Nat.lt_of_lt_of_le ts_9 hs10
  clear bs_0_9 bs_1_9 ts_9
  have bx_0_10 : w10.cell? ⟨w6.heap.size, 0, none⟩ = some (.slice (some ⟨g_x, 0, none⟩) n0 n0) := by rw [hb.cell tx_9]; exact bx_0_9
  have bx_1_10 : w10.cell? ⟨w6.heap.size, 1, none⟩ = some (.slice (some ⟨k_x, 0, none⟩) m0 m0) := by rw [hb.cell tx_9]; exact bx_1_9
  have tx_10 : w6.heap.size < w10.heap.size := Nat.lt_of_lt_of_le tx_9 hs10
  clear bx_0_9 bx_1_9 tx_9
  have bg_0_10 : w10.cell? ⟨w8.heap.size, 0, none⟩ = some (.slice A_g n0 c_g) := by rw [hb.cell tg_9]; exact bg_0_9
  have bg_1_10 : w10.cell? ⟨w8.heap.size, 1, none⟩ = some (.slice B_g m0 d_g) := by rw [hb.cell tg_9]; exact bg_1_9
  have tg_10 : w8.heap.size < w10.heap.size := Nat.lt_of_lt_of_le tg_9 hs10
  clear bg_0_9 bg_1_9 tg_9
  have Ls_10 := hide (Ls_9.out.below hb)
  clear Ls_9
  have Lx_10 := hide (Lx_9.out.below hb)
  clear Lx_9
  have Lg_10 := hide (Lg_9.out.below hb)
  clear Lg_9
  clear hb
  go_wp2_with fail
  go_region_held3 (fun w' => (w'.cell? ⟨w6.heap.size, 0, none⟩ = some (.slice (some ⟨g_x, 0, none⟩) n0 n0) ∧ w'.cell? ⟨w6.heap.size, 1, none⟩ = some (.slice (some ⟨k_x, 0, none⟩) m0 m0) ∧ w'.cell? ⟨w.heap.size, 0, none⟩ = some (.slice A0 n0 c0) ∧ w'.cell? ⟨w.heap.size, 1, none⟩ = some (.slice B0 m0 d0)) ∧ Below w10.heap.size w10 w')
    (first | (exact keep22 tx_10 tx_10 t0_10 t0_10 (by assumption) (by assumption)) | (exact ⟨⟨bx_0_10, bx_1_10, b0_0_10, b0_1_10⟩, (Below.refl _ _).drew⟩))
    (first
      | (go_at_call 18; refine (toLists_any A0 B0 n0 c0 m0 d0 z0 y0 _ Hn0.out Hm0.out HQ0.out (rdLS Hr0.out HB10.out (by assumption)) (rdLS Hs0.out HB10.out (by assumption))).mono ?_; rintro e w' ⟨g, g', rfl, ho, ho', hb⟩)
      | (go_at_call 13; refine (eqLists_same _ _ _ _ _ _ _ _ _ _ z0 y0 _ Hn0.out Hm0.out HQ0.out (rdMS (Lx_10.out.rd).2.2.2.2.1 (by assumption)) (by assumption) (rdMS (Lx_10.out.rd).2.2.2.2.2 (by assumption)) (by assumption)).mono ?_; rintro e w' ⟨rfl, hb⟩))
  have hS := ‹(_ ∧ _) ∧ Below w10.heap.size w10 _›
  obtain ⟨w11, rfl, -, hb⟩ := named (C := fun W => (W.cell? ⟨w6.heap.size, 0, none⟩ = some (.slice (some ⟨g_x, 0, none⟩) n0 n0) ∧ W.cell? ⟨w6.heap.size, 1, none⟩ = some (.slice (some ⟨k_x, 0, none⟩) m0 m0) ∧ W.cell? ⟨w.heap.size, 0, none⟩ = some (.slice A0 n0 c0) ∧ W.cell? ⟨w.heap.size, 1, none⟩ = some (.slice B0 m0 d0))) hS
  clear hS
  have HB11 := hide (HB10.out.trans (hb.mono HB10.out.size))
  have hs11 : w10.heap.size ≤ w11.heap.size := hb.size
  have b0_0_11 : w11.cell? ⟨w.heap.size, 0, none⟩ = some (.slice A0 n0 c0) := by rw [hb.cell t0_10]; exact b0_0_10
  have b0_1_11 : w11.cell? ⟨w.heap.size, 1, none⟩ = some (.slice B0 m0 d0) := by rw [hb.cell t0_10]; exact b0_1_10
  have t0_11 : w.heap.size < w11.heap.size := Nat.lt_of_lt_of_le t0_10 hs11
  clear b0_0_10 b0_1_10 t0_10
  have bs_0_11 : w11.cell? ⟨w4.heap.size, 0, none⟩ = some (.slice A_s n0 c_s) := by rw [hb.cell ts_10]; exact bs_0_10
  have bs_1_11 : w11.cell? ⟨w4.heap.size, 1, none⟩ = some (.slice B_s m0 d_s) := by rw [hb.cell ts_10]; exact bs_1_10
  have ts_11 : w4.heap.size < w11.heap.size := Nat.lt_of_lt_of_le ts_10 hs11
  clear bs_0_10 bs_1_10 ts_10
  have bx_0_11 : w11.cell? ⟨w6.heap.size, 0, none⟩ = some (.slice (some ⟨g_x, 0, none⟩) n0 n0) := by rw [hb.cell tx_10]; exact bx_0_10
  have bx_1_11 : w11.cell? ⟨w6.heap.size, 1, none⟩ = some (.slice (some ⟨k_x, 0, none⟩) m0 m0) := by rw [hb.cell tx_10]; exact bx_1_10
  have tx_11 : w6.heap.size < w11.heap.size := Nat.lt_of_lt_of_le tx_10 hs11
  clear bx_0_10 bx_1_10 tx_10
  have bg_0_11 : w11.cell? ⟨w8.heap.size, 0, none⟩ = some (.slice A_g n0 c_g) := by rw [hb.cell tg_10]; exact bg_0_10
  have bg_1_11 : w11.cell? ⟨w8.heap.size, 1, none⟩ = some (.slice B_g m0 d_g) := by rw [hb.cell tg_10]; exact bg_1_10
  have tg_11 : w8.heap.size < w11.heap.size := Nat.lt_of_lt_of_le tg_10 hs11
  clear bg_0_10 bg_1_10 tg_10
  have Ls_11 := hide (Ls_10.out.below hb)
  clear Ls_10
  have Lx_11 := hide (Lx_10.out.below hb)
  clear Lx_10
  have Lg_11 := hide (Lg_10.out.below hb)
  clear Lg_10
  clear hb
  go_wp2_with fail
  refine (markLists_lv _ _ _ _ _ _ _ _ _ _ 1 _ Lx_11.out HSZ0.out.m0 (by omega) HSZ0.out.t0).mono ?_
  rintro e w12 ⟨rfl, ho, ht⟩
  have hs12 : w11.heap.size ≤ w12.heap.size := ht.size
  have HB12 := hide (Below.touch HB11.out ht (fun g hg => by rw [mem_rg] at hg; omega) HB11.out.size)
  have b0_0_12 : w12.cell? ⟨w.heap.size, 0, none⟩ = some (.slice A0 n0 c0) := by rw [World.cell?_of_block (w := w11) (ht.block _ t0_11 (fun hg => by have h5 := (mem_rg (g := w.heap.size)).1 hg; omega))]; exact b0_0_11
  have b0_1_12 : w12.cell? ⟨w.heap.size, 1, none⟩ = some (.slice B0 m0 d0) := by rw [World.cell?_of_block (w := w11) (ht.block _ t0_11 (fun hg => by have h5 := (mem_rg (g := w.heap.size)).1 hg; omega))]; exact b0_1_11
  have t0_12 : w.heap.size < w12.heap.size := Nat.lt_of_lt_of_le t0_11 hs12
  clear b0_0_11 b0_1_11 t0_11
  have bs_0_12 : w12.cell? ⟨w4.heap.size, 0, none⟩ = some (.slice A_s n0 c_s) := by rw [World.cell?_of_block (w := w11) (ht.block _ ts_11 (fun hg => by have h5 := (mem_rg (g := w4.heap.size)).1 hg; omega))]; exact bs_0_11
  have bs_1_12 : w12.cell? ⟨w4.heap.size, 1, none⟩ = some (.slice B_s m0 d_s) := by rw [World.cell?_of_block (w := w11) (ht.block _ ts_11 (fun hg => by have h5 := (mem_rg (g := w4.heap.size)).1 hg; omega))]; exact bs_1_11
  have ts_12 : w4.heap.size < w12.heap.size := Nat.lt_of_lt_of_le ts_11 hs12
  clear bs_0_11 bs_1_11 ts_11
  have bx_0_12 : w12.cell? ⟨w6.heap.size, 0, none⟩ = some (.slice (some ⟨g_x, 0, none⟩) n0 n0) := by rw [World.cell?_of_block (w := w11) (ht.block _ tx_11 (fun hg => by have h5 := (mem_rg (g := w6.heap.size)).1 hg; omega))]; exact bx_0_11
  have bx_1_12 : w12.cell? ⟨w6.heap.size, 1, none⟩ = some (.slice (some ⟨k_x, 0, none⟩) m0 m0) := by rw [World.cell?_of_block (w := w11) (ht.block _ tx_11 (fun hg => by have h5 := (mem_rg (g := w6.heap.size)).1 hg; omega))]; exact bx_1_11
  have tx_12 : w6.heap.size < w12.heap.size := Nat.lt_of_lt_of_le tx_11 hs12
  clear bx_0_11 bx_1_11 tx_11
  have bg_0_12 : w12.cell? ⟨w8.heap.size, 0, none⟩ = some (.slice A_g n0 c_g) := by rw [World.cell?_of_block (w := w11) (ht.block _ tg_11 (fun hg => by have h5 := (mem_rg (g := w8.heap.size)).1 hg; omega))]; exact bg_0_11
  have bg_1_12 : w12.cell? ⟨w8.heap.size, 1, none⟩ = some (.slice B_g m0 d_g) := by rw [World.cell?_of_block (w := w11) (ht.block _ tg_11 (fun hg => by have h5 := (mem_rg (g := w8.heap.size)).1 hg; omega))]; exact bg_1_11
  have tg_12 : w8.heap.size < w12.heap.size := Nat.lt_of_lt_of_le tg_11 hs12
  clear bg_0_11 bg_1_11 tg_11
  have Ls_12 := hide (Ls_11.out.touch ht (by omega))
  clear Ls_11
  have Lg_12 := hide (Lg_11.out.touch ht (by omega))
  clear Lg_11
  clear ht
  have Lx_12 := hide ho
  clear ho Lx_11
  go_wp2_with fail
  refine (eqLists_lv _ _ _ _ _ _ _ _ _ _ (giveZ z0 y0 a1 a2 a3) (giveY z0 y0 a1 a2 a3) _ _ _ _ _ HSZR.out Lg_12.out Ls_12.out).mono ?_
  rintro e w13 ⟨rfl, hb⟩
  have HB13 := hide (HB12.out.trans (hb.mono HB12.out.size))
  have hs13 : w12.heap.size ≤ w13.heap.size := hb.size
  have b0_0_13 : w13.cell? ⟨w.heap.size, 0, none⟩ = some (.slice A0 n0 c0) := by rw [hb.cell t0_12]; exact b0_0_12
  have b0_1_13 : w13.cell? ⟨w.heap.size, 1, none⟩ = some (.slice B0 m0 d0) := by rw [hb.cell t0_12]; exact b0_1_12
  have t0_13 : w.heap.size < w13.heap.size := Nat.lt_of_lt_of_le t0_12 hs13
  clear b0_0_12 b0_1_12 t0_12
  have bs_0_13 : w13.cell? ⟨w4.heap.size, 0, none⟩ = some (.slice A_s n0 c_s) := by rw [hb.cell ts_12]; exact bs_0_12
  have bs_1_13 : w13.cell? ⟨w4.heap.size, 1, none⟩ = some (.slice B_s m0 d_s) := by rw [hb.cell ts_12]; exact bs_1_12
  have ts_13 : w4.heap.size < w13.heap.size := Nat.lt_of_lt_of_le ts_12 hs13
  clear bs_0_12 bs_1_12 ts_12
  have bx_0_13 : w13.cell? ⟨w6.heap.size, 0, none⟩ = some (.slice (some ⟨g_x, 0, none⟩) n0 n0) := by rw [hb.cell tx_12]; exact bx_0_12
  have bx_1_13 : w13.cell? ⟨w6.heap.size, 1, none⟩ = some (.slice (some ⟨k_x, 0, none⟩) m0 m0) := by rw [hb.cell tx_12]; exact bx_1_12
  have tx_13 : w6.heap.size < w13.heap.size := Nat.lt_of_lt_of_le tx_12 hs13
  clear bx_0_12 bx_1_12 tx_12
  have bg_0_13 : w13.cell? ⟨w8.heap.size, 0, none⟩ = some (.slice A_g n0 c_g) := by rw [hb.cell tg_12]; exact bg_0_12
  have bg_1_13 : w13.cell? ⟨w8.heap.size, 1, none⟩ = some (.slice B_g m0 d_g) := by rw [hb.cell tg_12]; exact bg_1_12
  have tg_13 : w8.heap.size < w13.heap.size := Nat.lt_of_lt_of_le tg_12 hs13
  clear bg_0_12 bg_1_12 tg_12
  have Ls_13 := hide (Ls_12.out.below hb)
  clear Ls_12
  have Lx_13 := hide (Lx_12.out.below hb)
  clear Lx_12
  have Lg_13 := hide (Lg_12.out.below hb)
  clear Lg_12
  clear hb
  go_wp2_with fail
  refine (markLists_lv _ _ _ _ _ _ _ _ _ _ 1 _ Lg_13.out HSZR.out.m0 (by omega) HSZR.out.t0).mono ?_
  rintro e w14 ⟨rfl, ho, ht⟩
  have hs14 : w13.heap.size ≤ w14.heap.size := ht.size
  have HB14 := hide (Below.touch HB13.out ht (fun g hg => by rw [mem_rg] at hg; omega) HB13.out.size)
  have b0_0_14 : w14.cell? ⟨w.heap.size, 0, none⟩ = some (.slice A0 n0 c0) := by rw [World.cell?_of_block (w := w13) (ht.block _ t0_13 (fun hg => by have h5 := (mem_rg (g := w.heap.size)).1 hg; omega))]; exact b0_0_13
  have b0_1_14 : w14.cell? ⟨w.heap.size, 1, none⟩ = some (.slice B0 m0 d0) := by rw [World.cell?_of_block (w := w13) (ht.block _ t0_13 (fun hg => by have h5 := (mem_rg (g := w.heap.size)).1 hg; omega))]; exact b0_1_13
  have t0_14 : w.heap.size < w14.heap.size := Nat.lt_of_lt_of_le t0_13 hs14
  clear b0_0_13 b0_1_13 t0_13
  have bs_0_14 : w14.cell? ⟨w4.heap.size, 0, none⟩ = some (.slice A_s n0 c_s) := by rw [World.cell?_of_block (w := w13) (ht.block _ ts_13 (fun hg => by have h5 := (mem_rg (g := w4.heap.size)).1 hg; omega))]; exact bs_0_13
  have bs_1_14 : w14.cell? ⟨w4.heap.size, 1, none⟩ = some (.slice B_s m0 d_s) := by rw [World.cell?_of_block (w := w13) (ht.block _ ts_13 (fun hg => by have h5 := (mem_rg (g := w4.heap.size)).1 hg; omega))]; exact bs_1_13
  have ts_14 : w4.heap.size < w14.heap.size := Nat.lt_of_lt_of_le ts_13 hs14
  clear bs_0_13 bs_1_13 ts_13
  have bx_0_14 : w14.cell? ⟨w6.heap.size, 0, none⟩ = some (.slice (some ⟨g_x, 0, none⟩) n0 n0) := by rw [World.cell?_of_block (w := w13) (ht.block _ tx_13 (fun hg => by have h5 := (mem_rg (g := w6.heap.size)).1 hg; omega))]; exact bx_0_13
  have bx_1_14 : w14.cell? ⟨w6.heap.size, 1, none⟩ = some (.slice (some ⟨k_x, 0, none⟩) m0 m0) := by rw [World.cell?_of_block (w := w13) (ht.block _ tx_13 (fun hg => by have h5 := (mem_rg (g := w6.heap.size)).1 hg; omega))]; exact bx_1_13
  have tx_14 : w6.heap.size < w14.heap.size := Nat.lt_of_lt_of_le tx_13 hs14
  clear bx_0_13 bx_1_13 tx_13
  have bg_0_14 : w14.cell? ⟨w8.heap.size, 0, none⟩ = some (.slice A_g n0 c_g) := by rw [World.cell?_of_block (w := w13) (ht.block _ tg_13 (fun hg => by have h5 := (mem_rg (g := w8.heap.size)).1 hg; omega))]; exact bg_0_13
  have bg_1_14 : w14.cell? ⟨w8.heap.size, 1, none⟩ = some (.slice B_g m0 d_g) := by rw [World.cell?_of_block (w := w13) (ht.block _ tg_13 (fun hg => by have h5 := (mem_rg (g := w8.heap.size)).1 hg; omega))]; exact bg_1_13
  have tg_14 : w8.heap.size < w14.heap.size := Nat.lt_of_lt_of_le tg_13 hs14
  clear bg_0_13 bg_1_13 tg_13
  have Ls_14 := hide (Ls_13.out.touch ht (by omega))
  clear Ls_13
  have Lx_14 := hide (Lx_13.out.touch ht (by omega))
  clear Lx_13
  clear ht
  have Lg_14 := hide ho
  clear ho Lg_13
  go_wp2_with fail
  refine (heldLists_lv _ _ _ _ _ _ (giveZ z0 y0 a1 a2 a3) (giveY z0 y0 a1 a2 a3) _ _ 1 _ HSZR.out.n0 HSZR.out.n1 Lg_14.out HSZR.out.m0 (by omega) HSZR.out.t0).mono ?_
  rintro e w15 ⟨rfl, hb⟩
  have HB15 := hide (HB14.out.trans (hb.mono HB14.out.size))
  have hs15 : w14.heap.size ≤ w15.heap.size := hb.size
  have b0_0_15 : w15.cell? ⟨w.heap.size, 0, none⟩ = some (.slice A0 n0 c0) := by rw [hb.cell t0_14]; exact b0_0_14
  have b0_1_15 : w15.cell? ⟨w.heap.size, 1, none⟩ = some (.slice B0 m0 d0) := by rw [hb.cell t0_14]; exact b0_1_14
  have t0_15 : w.heap.size < w15.heap.size := Nat.lt_of_lt_of_le t0_14 hs15
  clear b0_0_14 b0_1_14 t0_14
  have bs_0_15 : w15.cell? ⟨w4.heap.size, 0, none⟩ = some (.slice A_s n0 c_s) := by rw [hb.cell ts_14]; exact bs_0_14
  have bs_1_15 : w15.cell? ⟨w4.heap.size, 1, none⟩ = some (.slice B_s m0 d_s) := by rw [hb.cell ts_14]; exact bs_1_14
  have ts_15 : w4.heap.size < w15.heap.size := Nat.lt_of_lt_of_le ts_14 hs15
  clear bs_0_14 bs_1_14 ts_14
  have bx_0_15 : w15.cell? ⟨w6.heap.size, 0, none⟩ = some (.slice (some ⟨g_x, 0, none⟩) n0 n0) := by rw [hb.cell tx_14]; exact bx_0_14
  have bx_1_15 : w15.cell? ⟨w6.heap.size, 1, none⟩ = some (.slice (some ⟨k_x, 0, none⟩) m0 m0) := by rw [hb.cell tx_14]; exact bx_1_14
  have tx_15 : w6.heap.size < w15.heap.size := Nat.lt_of_lt_of_le tx_14 hs15
  clear bx_0_14 bx_1_14 tx_14
  have bg_0_15 : w15.cell? ⟨w8.heap.size, 0, none⟩ = some (.slice A_g n0 c_g) := by rw [hb.cell tg_14]; exact bg_0_14
  have bg_1_15 : w15.cell? ⟨w8.heap.size, 1, none⟩ = some (.slice B_g m0 d_g) := by rw [hb.cell tg_14]; exact bg_1_14
  have tg_15 : w8.heap.size < w15.heap.size := Nat.lt_of_lt_of_le tg_14 hs15
  clear bg_0_14 bg_1_14 tg_14
  have Ls_15 := hide (Ls_14.out.below hb)
  clear Ls_14
  have Lx_15 := hide (Lx_14.out.below hb)
  clear Lx_14
  have Lg_15 := hide (Lg_14.out.below hb)
  clear Lg_14
  clear hb
  go_wp2_with fail
  refine (toLists_lv A0 B0 n0 c0 m0 d0 z0 y0 _ Hn0.out Hm0.out HQ0.out (rdL_at Hr0.out HB15.out) (rdL_at Hs0.out HB15.out)).mono ?_
  rintro e w16 ⟨g_q, k_q, rfl, ho, hb⟩
  have HB16 := hide (HB15.out.trans (hb.mono HB15.out.size))
  have hs16 : w15.heap.size ≤ w16.heap.size := hb.size
  have b0_0_16 : w16.cell? ⟨w.heap.size, 0, none⟩ = some (.slice A0 n0 c0) := by rw [hb.cell t0_15]; exact b0_0_15
  have b0_1_16 : w16.cell? ⟨w.heap.size, 1, none⟩ = some (.slice B0 m0 d0) := by rw [hb.cell t0_15]; exact b0_1_15
  have t0_16 : w.heap.size < w16.heap.size := Nat.lt_of_lt_of_le t0_15 hs16
  clear b0_0_15 b0_1_15 t0_15
  have bs_0_16 : w16.cell? ⟨w4.heap.size, 0, none⟩ = some (.slice A_s n0 c_s) := by rw [hb.cell ts_15]; exact bs_0_15
  have bs_1_16 : w16.cell? ⟨w4.heap.size, 1, none⟩ = some (.slice B_s m0 d_s) := by rw [hb.cell ts_15]; exact bs_1_15
  have ts_16 : w4.heap.size < w16.heap.size := Nat.lt_of_lt_of_le ts_15 hs16
  clear bs_0_15 bs_1_15 ts_15
  have bx_0_16 : w16.cell? ⟨w6.heap.size, 0, none⟩ = some (.slice (some ⟨g_x, 0, none⟩) n0 n0) := by rw [hb.cell tx_15]; exact bx_0_15
  have bx_1_16 : w16.cell? ⟨w6.heap.size, 1, none⟩ = some (.slice (some ⟨k_x, 0, none⟩) m0 m0) := by rw [hb.cell tx_15]; exact bx_1_15
  have tx_16 : w6.heap.size < w16.heap.size := Nat.lt_of_lt_of_le tx_15 hs16
  clear bx_0_15 bx_1_15 tx_15
  have bg_0_16 : w16.cell? ⟨w8.heap.size, 0, none⟩ = some (.slice A_g n0 c_g) := by rw [hb.cell tg_15]; exact bg_0_15
  have bg_1_16 : w16.cell? ⟨w8.heap.size, 1, none⟩ = some (.slice B_g m0 d_g) := by rw [hb.cell tg_15]; exact bg_1_15
  have tg_16 : w8.heap.size < w16.heap.size := Nat.lt_of_lt_of_le tg_15 hs16
  clear bg_0_15 bg_1_15 tg_15
  have Ls_16 := hide (Ls_15.out.below hb)
  clear Ls_15
  have Lx_16 := hide (Lx_15.out.below hb)
  clear Lx_15
  have Lg_16 := hide (Lg_15.out.below hb)
  clear Lg_15
  clear hb
  have Lq_16 := hide ho
  clear ho
  go_wp2_with fail
  refine (implGive_any _ _ _ _ _ _ z0 y0 a1 a2 a3 _ Hn0.out Hm0.out HQ0.out (Lq_16.out.rd).2.2.2.2.1 (Lq_16.out.rd).2.2.2.2.2).mono ?_
  rintro e w17 ⟨v, rfl, ho, hb⟩
  obtain ⟨A_r, c_r, B_r, d_r, ev⟩ := ho.shp
  subst ev
  rw [← HSZR.out.n0, ← HSZR.out.n1] at ho ⊢
  have HB17 := hide (HB16.out.trans (hb.mono HB16.out.size))
  have hs17 : w16.heap.size ≤ w17.heap.size := hb.size
  have b0_0_17 : w17.cell? ⟨w.heap.size, 0, none⟩ = some (.slice A0 n0 c0) := by rw [hb.cell t0_16]; exact b0_0_16
  have b0_1_17 : w17.cell? ⟨w.heap.size, 1, none⟩ = some (.slice B0 m0 d0) := by rw [hb.cell t0_16]; exact b0_1_16
  have t0_17 : w.heap.size < w17.heap.size := Nat.lt_of_lt_of_le t0_16 hs17
  clear b0_0_16 b0_1_16 t0_16
  have bs_0_17 : w17.cell? ⟨w4.heap.size, 0, none⟩ = some (.slice A_s n0 c_s) := by rw [hb.cell ts_16]; exact bs_0_16
  have bs_1_17 : w17.cell? ⟨w4.heap.size, 1, none⟩ = some (.slice B_s m0 d_s) := by rw [hb.cell ts_16]; exact bs_1_16
  have ts_17 : w4.heap.size < w17.heap.size := Nat.lt_of_lt_of_le ts_16 hs17
  clear bs_0_16 bs_1_16 ts_16
  have bx_0_17 : w17.cell? ⟨w6.heap.size, 0, none⟩ = some (.slice (some ⟨g_x, 0, none⟩) n0 n0) := by rw [hb.cell tx_16]; exact bx_0_16
  have bx_1_17 : w17.cell? ⟨w6.heap.size, 1, none⟩ = some (.slice (some ⟨k_x, 0, none⟩) m0 m0) := by rw [hb.cell tx_16]; exact bx_1_16
  have tx_17 : w6.heap.size < w17.heap.size := Nat.lt_of_lt_of_le tx_16 hs17
  clear bx_0_16 bx_1_16 tx_16
  have bg_0_17 : w17.cell? ⟨w8.heap.size, 0, none⟩ = some (.slice A_g n0 c_g) := by rw [hb.cell tg_16]; exact bg_0_16
  have bg_1_17 : w17.cell? ⟨w8.heap.size, 1, none⟩ = some (.slice B_g m0 d_g) := by rw [hb.cell tg_16]; exact bg_1_16
  have tg_17 : w8.heap.size < w17.heap.size := Nat.lt_of_lt_of_le tg_16 hs17
  clear bg_0_16 bg_1_16 tg_16
  have Ls_17 := hide (Ls_16.out.below hb)
  clear Ls_16
  have Lx_17 := hide (Lx_16.out.below hb)
  clear Lx_16
  have Lg_17 := hide (Lg_16.out.below hb)
  clear Lg_16
  have Lq_17 := hide (Lq_16.out.below hb)
  clear Lq_16
  clear hb
  have Lr_17 := hide ho
  clear ho
  clear Lq_17
  go_wp2_with fail
  obtain ⟨w18, hW⟩ : ∃ W : World, W = w17.alloc (.cells #[(.slice A_r n0 c_r), (.slice B_r m0 d_r)] 24) := ⟨_, rfl⟩
  rw [← hW]
  have hb : Below w17.heap.size w17 w18 := by rw [hW]; exact (Below.refl _ _).alloc (Nat.le_refl _) _
  have nb0 : w18.cell? ⟨w17.heap.size, 0, none⟩ = some (.slice A_r n0 c_r) := by rw [hW]; go_simp
  have nb1 : w18.cell? ⟨w17.heap.size, 1, none⟩ = some (.slice B_r m0 d_r) := by rw [hW]; go_simp
  have nt : w17.heap.size < w18.heap.size := by rw [hW]; simp
  clear hW
  have HB18 := hide (HB17.out.trans (hb.mono HB17.out.size))
  have hs18 : w17.heap.size ≤ w18.heap.size := hb.size
  have b0_0_18 : w18.cell? ⟨w.heap.size, 0, none⟩ = some (.slice A0 n0 c0) := by rw [hb.cell t0_17]; exact b0_0_17
  have b0_1_18 : w18.cell? ⟨w.heap.size, 1, none⟩ = some (.slice B0 m0 d0) := by rw [hb.cell t0_17]; exact b0_1_17
  have t0_18 : w.heap.size < w18.heap.size := Nat.lt_of_lt_of_le t0_17 hs18
  clear b0_0_17 b0_1_17 t0_17
  have bs_0_18 : w18.cell? ⟨w4.heap.size, 0, none⟩ = some (.slice A_s n0 c_s) := by rw [hb.cell ts_17]; exact bs_0_17
  have bs_1_18 : w18.cell? ⟨w4.heap.size, 1, none⟩ = some (.slice B_s m0 d_s) := by rw [hb.cell ts_17]; exact bs_1_17
  have ts_18 : w4.heap.size < w18.heap.size := Nat.lt_of_lt_of_le ts_17 hs18
  clear bs_0_17 bs_1_17 ts_17
  have bx_0_18 : w18.cell? ⟨w6.heap.size, 0, none⟩ = some (.slice (some ⟨g_x, 0, none⟩) n0 n0) := by rw [hb.cell tx_17]; exact bx_0_17
  have bx_1_18 : w18.cell? ⟨w6.heap.size, 1, none⟩ = some (.slice (some ⟨k_x, 0, none⟩) m0 m0) := by rw [hb.cell tx_17]; exact bx_1_17
  have tx_18 : w6.heap.size < w18.heap.size := Nat.lt_of_lt_of_le tx_17 hs18
  clear bx_0_17 bx_1_17 tx_17
  have bg_0_18 : w18.cell? ⟨w8.heap.size, 0, none⟩ = some (.slice A_g n0 c_g) := by rw [hb.cell tg_17]; exact bg_0_17
  have bg_1_18 : w18.cell? ⟨w8.heap.size, 1, none⟩ = some (.slice B_g m0 d_g) := by rw [hb.cell tg_17]; exact bg_1_17
  have tg_18 : w8.heap.size < w18.heap.size := Nat.lt_of_lt_of_le tg_17 hs18
  clear bg_0_17 bg_1_17 tg_17
  have Ls_18 := hide (Ls_17.out.below hb)
  clear Ls_17
  have Lx_18 := hide (Lx_17.out.below hb)
  clear Lx_17
  have Lg_18 := hide (Lg_17.out.below hb)
  clear Lg_17
  have Lr_18 := hide (Lr_17.out.below hb)
  clear Lr_17
  clear hb
  have br_0_18 := nb0
  have br_1_18 := nb1
  have tr_18 := nt
  have ur := nt
  clear nb0 nb1 nt
  refine (eqLists_lv _ _ _ _ _ _ _ _ _ _ (giveZ z0 y0 a1 a2 a3) (giveY z0 y0 a1 a2 a3) _ _ _ _ _ HSZR.out Lr_18.out Ls_18.out).mono ?_
  rintro e w19 ⟨rfl, hb⟩
  have HB19 := hide (HB18.out.trans (hb.mono HB18.out.size))
  have hs19 : w18.heap.size ≤ w19.heap.size := hb.size
  have b0_0_19 : w19.cell? ⟨w.heap.size, 0, none⟩ = some (.slice A0 n0 c0) := by rw [hb.cell t0_18]; exact b0_0_18
  have b0_1_19 : w19.cell? ⟨w.heap.size, 1, none⟩ = some (.slice B0 m0 d0) := by rw [hb.cell t0_18]; exact b0_1_18
  have t0_19 : w.heap.size < w19.heap.size := Nat.lt_of_lt_of_le t0_18 hs19
  clear b0_0_18 b0_1_18 t0_18
  have bs_0_19 : w19.cell? ⟨w4.heap.size, 0, none⟩ = some (.slice A_s n0 c_s) := by rw [hb.cell ts_18]; exact bs_0_18
  have bs_1_19 : w19.cell? ⟨w4.heap.size, 1, none⟩ = some (.slice B_s m0 d_s) := by rw [hb.cell ts_18]; exact bs_1_18
  have ts_19 : w4.heap.size < w19.heap.size := Nat.lt_of_lt_of_le ts_18 hs19
  clear bs_0_18 bs_1_18 ts_18
  have bx_0_19 : w19.cell? ⟨w6.heap.size, 0, none⟩ = some (.slice (some ⟨g_x, 0, none⟩) n0 n0) := by rw [hb.cell tx_18]; exact bx_0_18
  have bx_1_19 : w19.cell? ⟨w6.heap.size, 1, none⟩ = some (.slice (some ⟨k_x, 0, none⟩) m0 m0) := by rw [hb.cell tx_18]; exact bx_1_18
  have tx_19 : w6.heap.size < w19.heap.size := Nat.lt_of_lt_of_le tx_18 hs19
  clear bx_0_18 bx_1_18 tx_18
  have bg_0_19 : w19.cell? ⟨w8.heap.size, 0, none⟩ = some (.slice A_g n0 c_g) := by rw [hb.cell tg_18]; exact bg_0_18
  have bg_1_19 : w19.cell? ⟨w8.heap.size, 1, none⟩ = some (.slice B_g m0 d_g) := by rw [hb.cell tg_18]; exact bg_1_18
  have tg_19 : w8.heap.size < w19.heap.size := Nat.lt_of_lt_of_le tg_18 hs19
  clear bg_0_18 bg_1_18 tg_18
  have br_0_19 : w19.cell? ⟨w17.heap.size, 0, none⟩ = some (.slice A_r n0 c_r) := by rw [hb.cell tr_18]; exact br_0_18
  have br_1_19 : w19.cell? ⟨w17.heap.size, 1, none⟩ = some (.slice B_r m0 d_r) := by rw [hb.cell tr_18]; exact br_1_18
  have tr_19 : w17.heap.size < w19.heap.size := Nat.lt_of_lt_of_le tr_18 hs19
  clear br_0_18 br_1_18 tr_18
  have Ls_19 := hide (Ls_18.out.below hb)
  clear Ls_18
  have Lx_19 := hide (Lx_18.out.below hb)
  clear Lx_18
  have Lg_19 := hide (Lg_18.out.below hb)
  clear Lg_18
  have Lr_19 := hide (Lr_18.out.below hb)
  clear Lr_18
  clear hb
  clear Lr_19
  go_wp2_with fail
  refine (heldLists_lv _ _ _ _ _ _ (giveZ z0 y0 a1 a2 a3) (giveY z0 y0 a1 a2 a3) _ _ 1 _ HSZR.out.n0 HSZR.out.n1 Lg_19.out HSZR.out.m0 (by omega) HSZR.out.t0).mono ?_
  rintro e w20 ⟨rfl, hb⟩
  have HB20 := hide (HB19.out.trans (hb.mono HB19.out.size))
  have hs20 : w19.heap.size ≤ w20.heap.size := hb.size
  have b0_0_20 : w20.cell? ⟨w.heap.size, 0, none⟩ = some (.slice A0 n0 c0) := by rw [hb.cell t0_19]; exact b0_0_19
  have b0_1_20 : w20.cell? ⟨w.heap.size, 1, none⟩ = some (.slice B0 m0 d0) := by rw [hb.cell t0_19]; exact b0_1_19
  have t0_20 : w.heap.size < w20.heap.size := Nat.lt_of_lt_of_le t0_19 hs20
  clear b0_0_19 b0_1_19 t0_19
  have bs_0_20 : w20.cell? ⟨w4.heap.size, 0, none⟩ = some (.slice A_s n0 c_s) := by rw [hb.cell ts_19]; exact bs_0_19
  have bs_1_20 : w20.cell? ⟨w4.heap.size, 1, none⟩ = some (.slice B_s m0 d_s) := by rw [hb.cell ts_19]; exact bs_1_19
  have ts_20 : w4.heap.size < w20.heap.size := Nat.lt_of_lt_of_le ts_19 hs20
  clear bs_0_19 bs_1_19 ts_19
  have bx_0_20 : w20.cell? ⟨w6.heap.size, 0, none⟩ = some (.slice (some ⟨g_x, 0, none⟩) n0 n0) := by rw [hb.cell tx_19]; exact bx_0_19
  have bx_1_20 : w20.cell? ⟨w6.heap.size, 1, none⟩ = some (.slice (some ⟨k_x, 0, none⟩) m0 m0) := by rw [hb.cell tx_19]; exact bx_1_19
  have tx_20 : w6.heap.size < w20.heap.size := Nat.lt_of_lt_of_le tx_19 hs20
  clear bx_0_19 bx_1_19 tx_19
  have bg_0_20 : w20.cell? ⟨w8.heap.size, 0, none⟩ = some (.slice A_g n0 c_g) := by rw [hb.cell tg_19]; exact bg_0_19
  have bg_1_20 : w20.cell? ⟨w8.heap.size, 1, none⟩ = some (.slice B_g m0 d_g) := by rw [hb.cell tg_19]; exact bg_1_19
  have tg_20 : w8.heap.size < w20.heap.size := Nat.lt_of_lt_of_le tg_19 hs20
  clear bg_0_19 bg_1_19 tg_19
  have br_0_20 : w20.cell? ⟨w17.heap.size, 0, none⟩ = some (.slice A_r n0 c_r) := by rw [hb.cell tr_19]; exact br_0_19
  have br_1_20 : w20.cell? ⟨w17.heap.size, 1, none⟩ = some (.slice B_r m0 d_r) := by rw [hb.cell tr_19]; exact br_1_19
  have tr_20 : w17.heap.size < w20.heap.size := Nat.lt_of_lt_of_le tr_19 hs20
  clear br_0_19 br_1_19 tr_19
  have Ls_20 := hide (Ls_19.out.below hb)
  clear Ls_19
  have Lx_20 := hide (Lx_19.out.below hb)
  clear Lx_19
  have Lg_20 := hide (Lg_19.out.below hb)
  clear Lg_19
  clear hb
  go_wp2
  go_ret
  exact ⟨rfl, HB20.out⟩
end Go.Proofs.Ytafhfikcpgjnaaa
