/-
  CasNum and Fill: the contracts of the reference and of the program, and the walks of their laws.
-/
import Derived.Test.YtflomdjcboohlaaStoreF
namespace Go.Proofs.Ytflomdjcboohlaa
open Go.RowKit
set_option linter.unusedVariables false

def hitC (zs : List Int) (x y o : Int) : Bool := okL zs x y && decide (loadR zs x y = o)
def okC (zs : List Int) (x y o v : Int) : Bool := hitC zs x y o && okS zs x y v
def casR (zs : List Int) (x y o v : Int) : List Int := if hitC zs x y o then storeR zs x y v else zs
theorem casR_length (zs : List Int) (x y o v : Int) : (casR zs x y o v).length = zs.length := by unfold casR; split <;> simp [storeR_length]

set_option maxRecDepth 100000 in
set_option maxHeartbeats 1600000 in
theorem specCas_any (A : Option Addr) (n c : Nat) (zs : List Int) (x y o v : Int) (w : World) (hn : n = zs.length) (hz : n ≤ 2097152) (hc : n ≤ c) (hcm : c ≤ maxLen) (ha : RdB .i64 w A zs w.heap.size) (hv0 : -9223372036854775808 ≤ v) (hv : v ≤ 9223372036854775807) :
    Calls Try.prog 22 #[.slice A n c, .int .i64 x, .int .i64 y, .int .i64 o, .int .i64 v] w fun e w' => SlRes w w' e n (casR zs x y o v) (okC zs x y o v) := by
  have HN := hide hn
  have HA := hide ha
  have HL := hide (specLoad_any A n c zs x y w.heap.size w hn hz hc hcm ha (Nat.le_refl _))
  clear hn ha
  go_enter Try.func22, Try.ntmps22
  go_wp2_with fail
  refine HL.out.mono ?_
  rintro e w1 ⟨rfl, hb⟩
  have HB := hide hb
  clear hb HL
  obtain ⟨ld, hld⟩ : ∃ ld, ld = loadR zs x y := ⟨_, rfl⟩
  rw [← hld]
  have HLD := hide hld
  clear hld
  cases h1 : okL zs x y
  · have HX : Hid (hitC zs x y o = false) := hide (by unfold hitC; rw [h1]; rfl)
    clear h1
    go_wp2_with fail
    refine (l3Copy_any A n c zs w1 HN.out hz ((HA.out.below HB.out (Nat.le_refl _)).more HB.out.size)).mono ?_
    rintro e w2 ⟨A', c', F, rfl, ho, hF, hb⟩
    have HO := hide ho
    have HF := hide hF
    have HB2 := hide (HB.out.trans (hb.mono HB.out.size))
    clear ho hF hb
    go_wp2
    go_ret2
    exact ⟨A', c', F, retSl (by unfold okC; rw [HX.out]; rfl), by unfold casR; rw [HX.out]; exact HO.out, fun g hg => by have := HF.out g hg; have := HB.out.size; omega, HB2.out⟩
  have H1 := hide h1
  clear h1
  by_cases h2 : ld = o
  · have hne : (ld != o) = false := by rw [h2]; simp
    have HX : Hid (hitC zs x y o = true) := hide (by unfold hitC; rw [H1.out, ← HLD.out, h2]; simp)
    clear h2
    go_wp2_with fail
    refine (specStore_any A n c zs x y v w1 HN.out hz ((HA.out.below HB.out (Nat.le_refl _)).more HB.out.size) hv).mono ?_
    rintro e w2 ⟨A', c', F, rfl, ho, hF, hb⟩
    have HO := hide ho
    have HF := hide hF
    have HB2 := hide (HB.out.trans (hb.mono HB.out.size))
    clear ho hF hb
    go_wp2
    go_ret2
    exact ⟨A', c', F, retSl (by unfold okC; rw [HX.out]; rfl), by unfold casR; rw [HX.out]; exact HO.out, fun g hg => by have := HF.out g hg; have := HB.out.size; omega, HB2.out⟩
  · have hne : (ld != o) = true := by rw [bne_iff_ne]; exact h2
    have HX : Hid (hitC zs x y o = false) := hide (by unfold hitC; rw [H1.out, ← HLD.out]; simpa using h2)
    clear h2
    go_wp2_with fail
    refine (l3Copy_any A n c zs w1 HN.out hz ((HA.out.below HB.out (Nat.le_refl _)).more HB.out.size)).mono ?_
    rintro e w2 ⟨A', c', F, rfl, ho, hF, hb⟩
    have HO := hide ho
    have HF := hide hF
    have HB2 := hide (HB.out.trans (hb.mono HB.out.size))
    clear ho hF hb
    go_wp2
    go_ret2
    exact ⟨A', c', F, retSl (by unfold okC; rw [HX.out]; rfl), by unfold casR; rw [HX.out]; exact HO.out, fun g hg => by have := HF.out g hg; have := HB.out.size; omega, HB2.out⟩

set_option maxRecDepth 100000 in
set_option maxHeartbeats 1600000 in
theorem implCas_any (a : Addr) (n c : Nat) (zs : List Int) (x y o v : Int) (w : World) (hn : n = zs.length) (hz : n ≤ 2097152) (hc : n ≤ c) (hcm : c ≤ maxLen) (ha : RdB .i64 w (some a) zs w.heap.size) (hv0 : -9223372036854775808 ≤ v) (hv : v ≤ 9223372036854775807) :
    Calls Try.prog 23 #[.slice (some a) n c, .int .i64 x, .int .i64 y, .int .i64 o, .int .i64 v] w fun e w' => SlRes w w' e n (casR zs x y o v) (okC zs x y o v) := by
  have HN := hide hn
  have HA := hide ha
  have HL := hide (implLoad_any (some a) n c zs x y w.heap.size w hn hz hc hcm ha (Nat.le_refl _))
  clear hn ha
  go_enter Try.func23, Try.ntmps23
  go_wp2_with fail
  refine HL.out.mono ?_
  rintro e w1 ⟨rfl, hb⟩
  have HB := hide hb
  clear hb HL
  obtain ⟨ld, hld⟩ : ∃ ld, ld = loadR zs x y := ⟨_, rfl⟩
  rw [← hld]
  have HLD := hide hld
  clear hld
  cases h1 : okL zs x y
  · have HX : Hid (hitC zs x y o = false) := hide (by unfold hitC; rw [h1]; rfl)
    clear h1
    go_wp2_with fail
    refine (clone_any a n c zs w1 HN.out hz ((HA.out.below HB.out (Nat.le_refl _)).more HB.out.size)).mono ?_
    rintro e w2 ⟨A', c', F, rfl, ho, hF, hb⟩
    have HO := hide ho
    have HF := hide hF
    have HB2 := hide (HB.out.trans (hb.mono HB.out.size))
    clear ho hF hb
    go_wp2
    go_ret2
    exact ⟨A', c', F, retSl (by unfold okC; rw [HX.out]; rfl), by unfold casR; rw [HX.out]; exact HO.out, fun g hg => by have := HF.out g hg; have := HB.out.size; omega, HB2.out⟩
  have H1 := hide h1
  clear h1
  by_cases h2 : ld = o
  · have hne : (ld != o) = false := by rw [h2]; simp
    have HX : Hid (hitC zs x y o = true) := hide (by unfold hitC; rw [H1.out, ← HLD.out, h2]; simp)
    clear h2
    go_wp2_with fail
    refine (implStore_any a n c zs x y v w1 HN.out hz hc hcm ((HA.out.below HB.out (Nat.le_refl _)).more HB.out.size) hv0 hv).mono ?_
    rintro e w2 ⟨A', c', F, rfl, ho, hF, hb⟩
    have HO := hide ho
    have HF := hide hF
    have HB2 := hide (HB.out.trans (hb.mono HB.out.size))
    clear ho hF hb
    go_wp2
    go_ret2
    exact ⟨A', c', F, retSl (by unfold okC; rw [HX.out]; rfl), by unfold casR; rw [HX.out]; exact HO.out, fun g hg => by have := HF.out g hg; have := HB.out.size; omega, HB2.out⟩
  · have hne : (ld != o) = true := by rw [bne_iff_ne]; exact h2
    have HX : Hid (hitC zs x y o = false) := hide (by unfold hitC; rw [H1.out, ← HLD.out]; simpa using h2)
    clear h2
    go_wp2_with fail
    refine (clone_any a n c zs w1 HN.out hz ((HA.out.below HB.out (Nat.le_refl _)).more HB.out.size)).mono ?_
    rintro e w2 ⟨A', c', F, rfl, ho, hF, hb⟩
    have HO := hide ho
    have HF := hide hF
    have HB2 := hide (HB.out.trans (hb.mono HB.out.size))
    clear ho hF hb
    go_wp2
    go_ret2
    exact ⟨A', c', F, retSl (by unfold okC; rw [HX.out]; rfl), by unfold casR; rw [HX.out]; exact HO.out, fun g hg => by have := HF.out g hg; have := HB.out.size; omega, HB2.out⟩


set_option maxRecDepth 100000 in
set_option maxHeartbeats 3200000 in
theorem fnExactCasNum_walk (A0 : Option Addr) (n0 c0 : Nat) (z0 : List Int) (a1 : Int) (a2 : Int) (a3 : Int) (a4 : Int) (w : World) (h0 : Sl .i64 w A0 n0 c0 z0) (h1 : (Lit.int .i64 a1).wf = true) (h2 : (Lit.int .i64 a2).wf = true) (h3 : (Lit.int .i64 a3).wf = true) (h4 : (Lit.int .i64 a4).wf = true) :
    Calls Try.prog 7 #[.slice A0 n0 c0, .int .i64 a1, .int .i64 a2, .int .i64 a3, .int .i64 a4] w fun e w' => e = .returned (.bool true) ∧ Below w.heap.size w w' := by
  obtain ⟨hn0, hnc0, hc0, hr0, hx0⟩ := h0
  have Hn0 := hide hn0
  clear hn0
  have Hr0 := hide hr0
  clear hr0
  have Hx0 := hide hx0
  clear hx0
  have hb1 := bounds_i64 h1
  clear h1
  have hb2 := bounds_i64 h2
  clear h2
  have hb3 := bounds_i64 h3
  clear h3
  have hb4 := bounds_i64 h4
  clear h4
  have HB0 := hide (Below.refl w.heap.size w)
  have hRn : Hid (n0 = ((casR z0 a1 a2 a3 a4)).length) := hide (by rw [casR_length]; exact Hn0.out)
  have hpos : ¬ (1 + (n0 : Int)) < 0 := by omega
  go_enter Try.func7, Try.ntmps7
  by_cases big0 : (1048576 : Int) < (n0 : Int)
  · go_wp2
    go_ret
    exact ⟨rfl, Below.refl _ _⟩
  go_wp2_with fail
  refine (toIntS_any A0 n0 c0 z0 w Hn0.out (by omega) ((Hr0.out.below HB0.out (Nat.le_refl _)).more HB0.out.size)).mono ?_
  rintro e w1 ⟨rfl, ho, hb⟩
  have HB1 := hide (HB0.out.trans (hb.mono HB0.out.size))
  have hs1 : w.heap.size ≤ w1.heap.size := hb.size
  clear hb
  have Oa_1 := hide ho
  clear ho
  have La : Hid (∀ g, g ∈ [w.heap.size] → w.heap.size ≤ g ∧ g < w1.heap.size) := hide (fun g hg => ⟨by simp at hg; omega, Oa_1.out.lt g hg⟩)
  go_wp2_with fail
  refine (specCas_any (some ⟨w.heap.size, 0, none⟩) n0 n0 z0 a1 a2 a3 a4 w1 Hn0.out (by omega) (Nat.le_refl _) (by unfold maxLen; omega) (Oa_1.out.rd).2 (by omega) (by omega)).mono ?_
  rintro e w2 ⟨A_s, c_s, F_s, rfl, ho, hF, hb⟩
  have HB2 := hide (HB1.out.trans (hb.mono HB1.out.size))
  have hs2 : w1.heap.size ≤ w2.heap.size := hb.size
  have Oa_2 := hide (Oa_1.out.below hb)
  clear Oa_1
  clear hb
  have Os_2 := hide ho
  clear ho
  have Ls : Hid (∀ g, g ∈ F_s → w1.heap.size ≤ g ∧ g < w2.heap.size) := hide (fun g hg => ⟨hF g hg, Os_2.out.lt g hg⟩)
  clear hF
  clear Oa_2
  go_wp2_with fail
  refine (toIntS_any A0 n0 c0 z0 w2 Hn0.out (by omega) ((Hr0.out.below HB2.out (Nat.le_refl _)).more HB2.out.size)).mono ?_
  rintro e w3 ⟨rfl, ho, hb⟩
  have HB3 := hide (HB2.out.trans (hb.mono HB2.out.size))
  have hs3 : w2.heap.size ≤ w3.heap.size := hb.size
  have Os_3 := hide (Os_2.out.below hb)
  clear Os_2
  clear hb
  have Ox_3 := hide ho
  clear ho
  have Lx : Hid (∀ g, g ∈ [w2.heap.size] → w2.heap.size ≤ g ∧ g < w3.heap.size) := hide (fun g hg => ⟨by simp at hg; omega, Ox_3.out.lt g hg⟩)
  go_wp2_with fail
  refine (implCas_any ⟨w2.heap.size, 0, none⟩ n0 n0 z0 a1 a2 a3 a4 w3 Hn0.out (by omega) (Nat.le_refl _) (by unfold maxLen; omega) (Ox_3.out.rd).2 (by omega) (by omega)).mono ?_
  rintro e w4 ⟨A_g, c_g, F_g, rfl, ho, hF, hb⟩
  have HB4 := hide (HB3.out.trans (hb.mono HB3.out.size))
  have hs4 : w3.heap.size ≤ w4.heap.size := hb.size
  have Os_4 := hide (Os_3.out.below hb)
  have Ox_4 := hide (Ox_3.out.below hb)
  clear Os_3
  clear Ox_3
  clear hb
  have Og_4 := hide ho
  clear ho
  have Lg : Hid (∀ g, g ∈ F_g → w3.heap.size ≤ g ∧ g < w4.heap.size) := hide (fun g hg => ⟨hF g hg, Og_4.out.lt g hg⟩)
  clear hF
  go_wp2_with fail
  refine (eqIntS_same _ _ _ _ _ (casR z0 a1 a2 a3 a4) w4.heap.size w4 hRn.out (by omega) (Og_4.out.rd).2 (Os_4.out.rd).2).mono ?_
  rintro e w5 ⟨rfl, hb⟩
  have HB5 := hide (HB4.out.trans (hb.mono HB4.out.size))
  have hs5 : w4.heap.size ≤ w5.heap.size := hb.size
  have Os_5 := hide (Os_4.out.below hb)
  have Ox_5 := hide (Ox_4.out.below hb)
  have Og_5 := hide (Og_4.out.below hb)
  clear Os_4
  clear Ox_4
  clear Og_4
  clear hb
  go_wp2_with fail
  refine (toIntS_any A0 n0 c0 z0 w5 Hn0.out (by omega) ((Hr0.out.below HB5.out (Nat.le_refl _)).more HB5.out.size)).mono ?_
  rintro e w6 ⟨rfl, ho, hb⟩
  have HB6 := hide (HB5.out.trans (hb.mono HB5.out.size))
  have hs6 : w5.heap.size ≤ w6.heap.size := hb.size
  have Os_6 := hide (Os_5.out.below hb)
  have Ox_6 := hide (Ox_5.out.below hb)
  have Og_6 := hide (Og_5.out.below hb)
  clear Os_5
  clear Ox_5
  clear Og_5
  clear hb
  have Op_6 := hide ho
  clear ho
  have Lp : Hid (∀ g, g ∈ [w5.heap.size] → w5.heap.size ≤ g ∧ g < w6.heap.size) := hide (fun g hg => ⟨by simp at hg; omega, Op_6.out.lt g hg⟩)
  go_wp2_with fail
  refine (eqIntS_same _ _ _ _ _ z0 w6.heap.size w6 Hn0.out (by omega) (Ox_6.out.rd).2 (Op_6.out.rd).2).mono ?_
  rintro e w7 ⟨rfl, hb⟩
  have HB7 := hide (HB6.out.trans (hb.mono HB6.out.size))
  have hs7 : w6.heap.size ≤ w7.heap.size := hb.size
  have Os_7 := hide (Os_6.out.below hb)
  have Ox_7 := hide (Ox_6.out.below hb)
  have Og_7 := hide (Og_6.out.below hb)
  have Op_7 := hide (Op_6.out.below hb)
  clear Os_6
  clear Ox_6
  clear Og_6
  clear Op_6
  clear hb
  clear Op_7
  go_wp2_with fail
  refine (markIntS_any _ _ _ _ _ 1 w7 Ox_7.out (by omega) (by omega) (by omega)).mono ?_
  rintro e w8 ⟨rfl, ho, ht⟩
  have HB8 := hide (Below.touch HB7.out ht (fun g hg => by have := Lx.out g hg; have := HB7.out.size; omega) HB7.out.size)
  have hs8 : w7.heap.size ≤ w8.heap.size := ht.size
  have Os_8 := hide (Os_7.out.touch ht (fun g hg hg' => by have := Ls.out g hg; have := Lx.out g hg'; omega))
  have Og_8 := hide (Og_7.out.touch ht (fun g hg hg' => by have := Lg.out g hg; have := Lx.out g hg'; omega))
  clear Os_7
  clear Og_7
  clear ht
  have Ox_8 := hide ho
  clear ho Ox_7
  go_wp2_with fail
  refine (eqIntS_same _ _ _ _ _ (casR z0 a1 a2 a3 a4) w8.heap.size w8 hRn.out (by omega) (Og_8.out.rd).2 (Os_8.out.rd).2).mono ?_
  rintro e w9 ⟨rfl, hb⟩
  have HB9 := hide (HB8.out.trans (hb.mono HB8.out.size))
  have hs9 : w8.heap.size ≤ w9.heap.size := hb.size
  have Os_9 := hide (Os_8.out.below hb)
  have Ox_9 := hide (Ox_8.out.below hb)
  have Og_9 := hide (Og_8.out.below hb)
  clear Os_8
  clear Ox_8
  clear Og_8
  clear hb
  go_wp2_with fail
  refine (markIntS_any _ _ _ _ _ 1 w9 Og_9.out (by omega) (by omega) (by omega)).mono ?_
  rintro e w10 ⟨rfl, ho, ht⟩
  have HB10 := hide (Below.touch HB9.out ht (fun g hg => by have := Lg.out g hg; have := HB9.out.size; omega) HB9.out.size)
  have hs10 : w9.heap.size ≤ w10.heap.size := ht.size
  have Os_10 := hide (Os_9.out.touch ht (fun g hg hg' => by have := Ls.out g hg; have := Lg.out g hg'; omega))
  have Ox_10 := hide (Ox_9.out.touch ht (fun g hg hg' => by have := Lx.out g hg; have := Lg.out g hg'; omega))
  clear Os_9
  clear Ox_9
  clear ht
  have Og_10 := hide ho
  clear ho Og_9
  go_wp2_with fail
  refine (heldIntS_same _ _ _ 1 w10.heap.size w10 (Og_10.out.rd).2 (by omega) (by omega) (by omega)).mono ?_
  rintro e w_h ⟨rfl, rfl⟩
  go_wp2_with fail
  refine (toIntS_any A0 n0 c0 z0 w10 Hn0.out (by omega) ((Hr0.out.below HB10.out (Nat.le_refl _)).more HB10.out.size)).mono ?_
  rintro e w11 ⟨rfl, ho, hb⟩
  have HB11 := hide (HB10.out.trans (hb.mono HB10.out.size))
  have hs11 : w10.heap.size ≤ w11.heap.size := hb.size
  have Os_11 := hide (Os_10.out.below hb)
  have Ox_11 := hide (Ox_10.out.below hb)
  have Og_11 := hide (Og_10.out.below hb)
  clear Os_10
  clear Ox_10
  clear Og_10
  clear hb
  have Oq_11 := hide ho
  clear ho
  have Lq : Hid (∀ g, g ∈ [w10.heap.size] → w10.heap.size ≤ g ∧ g < w11.heap.size) := hide (fun g hg => ⟨by simp at hg; omega, Oq_11.out.lt g hg⟩)
  go_wp2_with fail
  refine (implCas_any ⟨w10.heap.size, 0, none⟩ n0 n0 z0 a1 a2 a3 a4 w11 Hn0.out (by omega) (Nat.le_refl _) (by unfold maxLen; omega) (Oq_11.out.rd).2 (by omega) (by omega)).mono ?_
  rintro e w12 ⟨A_r, c_r, F_r, rfl, ho, hF, hb⟩
  have HB12 := hide (HB11.out.trans (hb.mono HB11.out.size))
  have hs12 : w11.heap.size ≤ w12.heap.size := hb.size
  have Os_12 := hide (Os_11.out.below hb)
  have Ox_12 := hide (Ox_11.out.below hb)
  have Og_12 := hide (Og_11.out.below hb)
  have Oq_12 := hide (Oq_11.out.below hb)
  clear Os_11
  clear Ox_11
  clear Og_11
  clear Oq_11
  clear hb
  have Or_12 := hide ho
  clear ho
  have Lr : Hid (∀ g, g ∈ F_r → w11.heap.size ≤ g ∧ g < w12.heap.size) := hide (fun g hg => ⟨hF g hg, Or_12.out.lt g hg⟩)
  clear hF
  go_wp2_with fail
  refine (eqIntS_same _ _ _ _ _ (casR z0 a1 a2 a3 a4) w12.heap.size w12 hRn.out (by omega) (Or_12.out.rd).2 (Os_12.out.rd).2).mono ?_
  rintro e w13 ⟨rfl, hb⟩
  have HB13 := hide (HB12.out.trans (hb.mono HB12.out.size))
  have hs13 : w12.heap.size ≤ w13.heap.size := hb.size
  have Os_13 := hide (Os_12.out.below hb)
  have Ox_13 := hide (Ox_12.out.below hb)
  have Og_13 := hide (Og_12.out.below hb)
  have Oq_13 := hide (Oq_12.out.below hb)
  have Or_13 := hide (Or_12.out.below hb)
  clear Os_12
  clear Ox_12
  clear Og_12
  clear Oq_12
  clear Or_12
  clear hb
  clear Or_13
  clear Oq_13
  go_wp2_with fail
  refine (heldIntS_same _ _ _ 1 w13.heap.size w13 (Og_13.out.rd).2 (by omega) (by omega) (by omega)).mono ?_
  rintro e w_h ⟨rfl, rfl⟩
  go_wp2
  go_ret
  exact ⟨rfl, HB13.out⟩

/-! Fill -/

def okF (zs : List Int) (x y v : Int) : Bool := bokR zs && inR zs.length x y && isB v
def fillR (zs : List Int) (x y v : Int) : List Int := if okF zs x y v then upd zs x.toNat (x.toNat + y.toNat) (fun _ => v) else zs
theorem fillR_length (zs : List Int) (x y v : Int) : (fillR zs x y v).length = zs.length := by unfold fillR; split <;> simp [upd_length]
theorem l1InB_any (v : Int) (w : World) : Calls Try.prog 30 #[.int .i64 v, .int .i64 0, .int .i64 255] w fun e w' => e = .returned (.bool (isB v)) ∧ w = w' := by
  by_cases h : 0 ≤ v ∧ v ≤ 255
  · have HT : isB v = true := by simpa [isB] using h
    rw [HT]
    exact l1In_yes _ _ _ _ h.1 h.2
  · have HT : isB v = false := by simpa [isB] using h
    rw [HT]
    exact l1In_no _ _ _ _ h

set_option maxRecDepth 100000 in
set_option maxHeartbeats 1600000 in
theorem specFill_any (A : Option Addr) (n c : Nat) (zs : List Int) (x y v : Int) (w : World) (hn : n = zs.length) (hz : n ≤ 2097152) (ha : RdB .i64 w A zs w.heap.size) :
    Calls Try.prog 24 #[.slice A n c, .int .i64 x, .int .i64 y, .int .i64 v] w fun e w' => SlRes w w' e n (fillR zs x y v) (okF zs x y v) := by
  have HN := hide hn
  have HA := hide ha
  have HC := hide (l3Copy_any A n c zs w hn hz ha)
  clear hn ha
  go_enter Try.func24, Try.ntmps24
  go_wp2_with fail
  refine HC.out.mono ?_
  rintro e w1 ⟨A', c', F, rfl, ho, hF, hb⟩
  have HO := hide ho
  have HF := hide hF
  have HB := hide hb
  clear ho hF hb HC
  go_wp2_with fail
  refine (specBok_any A n c zs w.heap.size w1 HN.out hz (HA.out.below HB.out (Nat.le_refl _))).mono ?_
  rintro e w2 ⟨rfl, hb⟩
  have HO2 := hide (HO.out.below hb)
  have HB2 := hide (HB.out.trans (hb.mono HB.out.size))
  clear hb HO HB
  cases h1 : bokR zs
  · have HX : Hid (okF zs x y v = false) := hide (by unfold okF; rw [h1]; rfl)
    clear h1
    go_wp2
    go_ret2
    exact ⟨A', c', F, retSl HX.out.symm, by unfold fillR; rw [HX.out]; exact HO2.out, HF.out, HB2.out⟩
  have H1 := hide h1
  clear h1
  go_wp2_with fail
  refine (l3In_any _ _ _ _ _ _ hz).mono ?_
  rintro e w3 ⟨rfl, rfl⟩
  cases h3 : inR n x y
  · have HX : Hid (okF zs x y v = false) := hide (by unfold okF; rw [← HN.out, h3]; simp)
    clear h3
    go_wp2
    go_ret2
    exact ⟨A', c', F, retSl HX.out.symm, by unfold fillR; rw [HX.out]; exact HO2.out, HF.out, HB2.out⟩
  have H3 := hide h3
  clear h3
  go_wp2_with fail
  refine (l1InB_any _ _).mono ?_
  rintro e w3 ⟨rfl, rfl⟩
  cases h4 : isB v
  · have HX : Hid (okF zs x y v = false) := hide (by unfold okF; rw [h4]; simp)
    clear h4
    go_wp2
    go_ret2
    exact ⟨A', c', F, retSl HX.out.symm, by unfold fillR; rw [HX.out]; exact HO2.out, HF.out, HB2.out⟩
  have HX : Hid (okF zs x y v = true) := hide (by unfold okF; rw [H1.out, ← HN.out, H3.out, h4]; rfl)
  clear h4
  have hin : 0 ≤ x ∧ 0 ≤ y ∧ x + y ≤ n := by simpa [inR] using H3.out
  obtain ⟨off, rfl⟩ := Int.eq_ofNat_of_zero_le hin.1
  obtain ⟨m, rfl⟩ := Int.eq_ofNat_of_zero_le hin.2.1
  have q1 : (off : Int) + (m : Int) ≤ (n : Int) := hin.2.2
  have q2 : (n : Int) ≤ 2097152 := by omega
  clear hin
  go_wp2
  go_loopg [11] (m + 1) (fun gh i wr => ∃ k : Nat, k ≤ m ∧ gh = m + 1 - k ∧ i = .int .i64 ((off : Int) + (k : Int)) ∧ Own 3 wr (.slice A' n c') (ints (upd zs off (off + k) (fun _ => v))) F ∧ Below w.heap.size w wr)
  case atStart => exact ⟨0, Nat.zero_le _, rfl, by simp, by rw [upd_none _ _ _ _ (by omega)]; exact HO2.out, HB2.out⟩
  case round =>
    obtain ⟨k, hk, hg, rfl, ho, hb⟩ := hrel
    have HG := hide hg
    have hno := (ho.rd).1
    rw [upd_length] at hno
    by_cases hlt : k < m
    · have hi : (off : Int) + (k : Int) < (off : Int) + (m : Int) := by omega
      have hlen : off + k < zs.length := by omega
      obtain ⟨g, rfl, rfl⟩ := own_at ho (by rw [upd_length]; omega)
      obtain ⟨hc1, hc2⟩ := own_cell ho (off + k) (by rw [upd_length]; exact hlen)
      have HOW := hide ho
      have HBW := hide hb
      have hgw : w.heap.size ≤ g := HF.out g (by simp)
      have q6 : (off : Int) + (k : Int) < (n : Int) := by omega
      have q7 : (0 : Int) ≤ (off : Int) + (k : Int) := by omega
      clear hg ho hb hno HO2
      go_wp2
      go_roundg (m + 1 - (k + 1))
      case measure => have := HG.out; omega
      case rel => exact ⟨k + 1, by omega, rfl, by go_num, by
        have h := own_set HOW.out (off + k) (by rw [upd_length]; exact hlen) v
        rw [show off + (k + 1) = off + k + 1 by omega, ← upd_up _ _ _ _ hlen (by omega)]
        exact h, HBW.out.setCell hgw _⟩
    · have hi : ¬ (off : Int) + (k : Int) < (off : Int) + (m : Int) := by omega
      have hkm : k = m := by omega
      subst hkm
      have HOW := hide ho
      have HBW := hide hb
      clear hg ho hb hno
      go_wp2
      go_ret2
      exact ⟨A', c', F, retSl HX.out.symm, by unfold fillR; rw [HX.out]; simpa using HOW.out, HF.out, HBW.out⟩

set_option maxRecDepth 100000 in
set_option maxHeartbeats 1600000 in
theorem implFill_any (a : Addr) (n c : Nat) (zs : List Int) (x y v : Int) (w : World) (hn : n = zs.length) (hz : n ≤ 2097152) (ha : RdB .i64 w (some a) zs w.heap.size) :
    Calls Try.prog 25 #[.slice (some a) n c, .int .i64 x, .int .i64 y, .int .i64 v] w fun e w' => SlRes w w' e n (fillR zs x y v) (okF zs x y v) := by
  have HN := hide hn
  have HA := hide ha
  have HC := hide (clone_any a n c zs w hn hz ha)
  clear hn ha
  go_enter Try.func25, Try.ntmps25
  go_wp2_with fail
  refine HC.out.mono ?_
  rintro e w1 ⟨A', c', F, rfl, ho, hF, hb⟩
  have HO := hide ho
  have HF := hide hF
  have HB := hide hb
  clear ho hF hb HC
  go_wp2_with fail
  refine (implBok_any (some a) n c zs w.heap.size w1 HN.out hz (HA.out.below HB.out (Nat.le_refl _))).mono ?_
  rintro e w2 ⟨rfl, hb⟩
  have HO2 := hide (HO.out.below hb)
  have HB2 := hide (HB.out.trans (hb.mono HB.out.size))
  clear hb HO HB
  cases h1 : bokR zs
  · have HX : Hid (okF zs x y v = false) := hide (by unfold okF; rw [h1]; rfl)
    clear h1
    go_wp2
    go_ret2
    exact ⟨A', c', F, retSl HX.out.symm, by unfold fillR; rw [HX.out]; exact HO2.out, HF.out, HB2.out⟩
  have H1 := hide h1
  clear h1
  go_wp2_with fail
  refine (exist_any _ _ _ _ _ _ hz).mono ?_
  rintro e w3 ⟨rfl, rfl⟩
  cases h3 : inR n x y
  · have HX : Hid (okF zs x y v = false) := hide (by unfold okF; rw [← HN.out, h3]; simp)
    clear h3
    go_wp2
    go_ret2
    exact ⟨A', c', F, retSl HX.out.symm, by unfold fillR; rw [HX.out]; exact HO2.out, HF.out, HB2.out⟩
  have H3 := hide h3
  clear h3
  go_wp2_with fail
  refine (isByte_any _ _).mono ?_
  rintro e w3 ⟨rfl, rfl⟩
  cases h4 : isB v
  · have HX : Hid (okF zs x y v = false) := hide (by unfold okF; rw [h4]; simp)
    clear h4
    go_wp2
    go_ret2
    exact ⟨A', c', F, retSl HX.out.symm, by unfold fillR; rw [HX.out]; exact HO2.out, HF.out, HB2.out⟩
  have HX : Hid (okF zs x y v = true) := hide (by unfold okF; rw [H1.out, ← HN.out, H3.out, h4]; rfl)
  clear h4
  have hin : 0 ≤ x ∧ 0 ≤ y ∧ x + y ≤ n := by simpa [inR] using H3.out
  obtain ⟨off, rfl⟩ := Int.eq_ofNat_of_zero_le hin.1
  obtain ⟨m, rfl⟩ := Int.eq_ofNat_of_zero_le hin.2.1
  have q1 : (off : Int) + (m : Int) ≤ (n : Int) := hin.2.2
  have q2 : (n : Int) ≤ 2097152 := by omega
  clear hin
  go_wp2
  go_loopg [11, 31] (m + 1) (fun gh _x i wr => ∃ k : Nat, k ≤ m ∧ gh = m + 1 - k ∧ i = .int .i64 (k : Int) ∧ Own 3 wr (.slice A' n c') (ints (upd zs off (off + k) (fun _ => v))) F ∧ Below w.heap.size w wr)
  case atStart => exact ⟨0, Nat.zero_le _, rfl, rfl, by rw [upd_none _ _ _ _ (by omega)]; exact HO2.out, HB2.out⟩
  case round =>
    obtain ⟨k, hk, hg, rfl, ho, hb⟩ := hrel
    have HG := hide hg
    have hno := (ho.rd).1
    rw [upd_length] at hno
    by_cases hlt : k < m
    · have hi : (k : Int) < (m : Int) := by omega
      have hlen : off + k < zs.length := by omega
      obtain ⟨g, rfl, rfl⟩ := own_at ho (by rw [upd_length]; omega)
      obtain ⟨hc1, hc2⟩ := own_cell ho (off + k) (by rw [upd_length]; exact hlen)
      have HOW := hide ho
      have HBW := hide hb
      have hgw : w.heap.size ≤ g := HF.out g (by simp)
      have q6 : (off : Int) + (k : Int) < (n : Int) := by omega
      have q7 : (0 : Int) ≤ (off : Int) + (k : Int) := by omega
      clear hg ho hb hno HO2
      go_wp2
      go_roundg (m + 1 - (k + 1))
      case measure => have := HG.out; omega
      case rel => exact ⟨k + 1, by omega, rfl, by go_num, by
        have h := own_set HOW.out (off + k) (by rw [upd_length]; exact hlen) v
        rw [show off + (k + 1) = off + k + 1 by omega, ← upd_up _ _ _ _ hlen (by omega)]
        exact h, HBW.out.setCell hgw _⟩
    · have hi : ¬ (k : Int) < (m : Int) := by omega
      have hkm : k = m := by omega
      subst hkm
      have HOW := hide ho
      have HBW := hide hb
      clear hg ho hb hno
      go_wp2
      go_ret2
      exact ⟨A', c', F, retSl HX.out.symm, by unfold fillR; rw [HX.out]; simpa using HOW.out, HF.out, HBW.out⟩

set_option maxRecDepth 100000 in
set_option maxHeartbeats 3200000 in
theorem fnExactFill_walk (A0 : Option Addr) (n0 c0 : Nat) (z0 : List Int) (a1 : Int) (a2 : Int) (a3 : Int) (w : World) (h0 : Sl .i64 w A0 n0 c0 z0) (h1 : (Lit.int .i64 a1).wf = true) (h2 : (Lit.int .i64 a2).wf = true) (h3 : (Lit.int .i64 a3).wf = true) :
    Calls Try.prog 8 #[.slice A0 n0 c0, .int .i64 a1, .int .i64 a2, .int .i64 a3] w fun e w' => e = .returned (.bool true) ∧ Below w.heap.size w w' := by
  obtain ⟨hn0, hnc0, hc0, hr0, hx0⟩ := h0
  have Hn0 := hide hn0
  clear hn0
  have Hr0 := hide hr0
  clear hr0
  have Hx0 := hide hx0
  clear hx0
  have hb1 := bounds_i64 h1
  clear h1
  have hb2 := bounds_i64 h2
  clear h2
  have hb3 := bounds_i64 h3
  clear h3
  have HB0 := hide (Below.refl w.heap.size w)
  have hRn : Hid (n0 = ((fillR z0 a1 a2 a3)).length) := hide (by rw [fillR_length]; exact Hn0.out)
  have hpos : ¬ (1 + (n0 : Int)) < 0 := by omega
  go_enter Try.func8, Try.ntmps8
  by_cases big0 : (1048576 : Int) < (n0 : Int)
  · go_wp2
    go_ret
    exact ⟨rfl, Below.refl _ _⟩
  go_wp2_with fail
  refine (toIntS_any A0 n0 c0 z0 w Hn0.out (by omega) ((Hr0.out.below HB0.out (Nat.le_refl _)).more HB0.out.size)).mono ?_
  rintro e w1 ⟨rfl, ho, hb⟩
  have HB1 := hide (HB0.out.trans (hb.mono HB0.out.size))
  have hs1 : w.heap.size ≤ w1.heap.size := hb.size
  clear hb
  have Oa_1 := hide ho
  clear ho
  have La : Hid (∀ g, g ∈ [w.heap.size] → w.heap.size ≤ g ∧ g < w1.heap.size) := hide (fun g hg => ⟨by simp at hg; omega, Oa_1.out.lt g hg⟩)
  go_wp2_with fail
  refine (specFill_any (some ⟨w.heap.size, 0, none⟩) n0 n0 z0 a1 a2 a3 w1 Hn0.out (by omega) (Oa_1.out.rd).2).mono ?_
  rintro e w2 ⟨A_s, c_s, F_s, rfl, ho, hF, hb⟩
  have HB2 := hide (HB1.out.trans (hb.mono HB1.out.size))
  have hs2 : w1.heap.size ≤ w2.heap.size := hb.size
  have Oa_2 := hide (Oa_1.out.below hb)
  clear Oa_1
  clear hb
  have Os_2 := hide ho
  clear ho
  have Ls : Hid (∀ g, g ∈ F_s → w1.heap.size ≤ g ∧ g < w2.heap.size) := hide (fun g hg => ⟨hF g hg, Os_2.out.lt g hg⟩)
  clear hF
  clear Oa_2
  go_wp2_with fail
  refine (toIntS_any A0 n0 c0 z0 w2 Hn0.out (by omega) ((Hr0.out.below HB2.out (Nat.le_refl _)).more HB2.out.size)).mono ?_
  rintro e w3 ⟨rfl, ho, hb⟩
  have HB3 := hide (HB2.out.trans (hb.mono HB2.out.size))
  have hs3 : w2.heap.size ≤ w3.heap.size := hb.size
  have Os_3 := hide (Os_2.out.below hb)
  clear Os_2
  clear hb
  have Ox_3 := hide ho
  clear ho
  have Lx : Hid (∀ g, g ∈ [w2.heap.size] → w2.heap.size ≤ g ∧ g < w3.heap.size) := hide (fun g hg => ⟨by simp at hg; omega, Ox_3.out.lt g hg⟩)
  go_wp2_with fail
  refine (implFill_any ⟨w2.heap.size, 0, none⟩ n0 n0 z0 a1 a2 a3 w3 Hn0.out (by omega) (Ox_3.out.rd).2).mono ?_
  rintro e w4 ⟨A_g, c_g, F_g, rfl, ho, hF, hb⟩
  have HB4 := hide (HB3.out.trans (hb.mono HB3.out.size))
  have hs4 : w3.heap.size ≤ w4.heap.size := hb.size
  have Os_4 := hide (Os_3.out.below hb)
  have Ox_4 := hide (Ox_3.out.below hb)
  clear Os_3
  clear Ox_3
  clear hb
  have Og_4 := hide ho
  clear ho
  have Lg : Hid (∀ g, g ∈ F_g → w3.heap.size ≤ g ∧ g < w4.heap.size) := hide (fun g hg => ⟨hF g hg, Og_4.out.lt g hg⟩)
  clear hF
  go_wp2_with fail
  refine (eqIntS_same _ _ _ _ _ (fillR z0 a1 a2 a3) w4.heap.size w4 hRn.out (by omega) (Og_4.out.rd).2 (Os_4.out.rd).2).mono ?_
  rintro e w5 ⟨rfl, hb⟩
  have HB5 := hide (HB4.out.trans (hb.mono HB4.out.size))
  have hs5 : w4.heap.size ≤ w5.heap.size := hb.size
  have Os_5 := hide (Os_4.out.below hb)
  have Ox_5 := hide (Ox_4.out.below hb)
  have Og_5 := hide (Og_4.out.below hb)
  clear Os_4
  clear Ox_4
  clear Og_4
  clear hb
  go_wp2_with fail
  refine (toIntS_any A0 n0 c0 z0 w5 Hn0.out (by omega) ((Hr0.out.below HB5.out (Nat.le_refl _)).more HB5.out.size)).mono ?_
  rintro e w6 ⟨rfl, ho, hb⟩
  have HB6 := hide (HB5.out.trans (hb.mono HB5.out.size))
  have hs6 : w5.heap.size ≤ w6.heap.size := hb.size
  have Os_6 := hide (Os_5.out.below hb)
  have Ox_6 := hide (Ox_5.out.below hb)
  have Og_6 := hide (Og_5.out.below hb)
  clear Os_5
  clear Ox_5
  clear Og_5
  clear hb
  have Op_6 := hide ho
  clear ho
  have Lp : Hid (∀ g, g ∈ [w5.heap.size] → w5.heap.size ≤ g ∧ g < w6.heap.size) := hide (fun g hg => ⟨by simp at hg; omega, Op_6.out.lt g hg⟩)
  go_wp2_with fail
  refine (eqIntS_same _ _ _ _ _ z0 w6.heap.size w6 Hn0.out (by omega) (Ox_6.out.rd).2 (Op_6.out.rd).2).mono ?_
  rintro e w7 ⟨rfl, hb⟩
  have HB7 := hide (HB6.out.trans (hb.mono HB6.out.size))
  have hs7 : w6.heap.size ≤ w7.heap.size := hb.size
  have Os_7 := hide (Os_6.out.below hb)
  have Ox_7 := hide (Ox_6.out.below hb)
  have Og_7 := hide (Og_6.out.below hb)
  have Op_7 := hide (Op_6.out.below hb)
  clear Os_6
  clear Ox_6
  clear Og_6
  clear Op_6
  clear hb
  clear Op_7
  go_wp2_with fail
  refine (markIntS_any _ _ _ _ _ 1 w7 Ox_7.out (by omega) (by omega) (by omega)).mono ?_
  rintro e w8 ⟨rfl, ho, ht⟩
  have HB8 := hide (Below.touch HB7.out ht (fun g hg => by have := Lx.out g hg; have := HB7.out.size; omega) HB7.out.size)
  have hs8 : w7.heap.size ≤ w8.heap.size := ht.size
  have Os_8 := hide (Os_7.out.touch ht (fun g hg hg' => by have := Ls.out g hg; have := Lx.out g hg'; omega))
  have Og_8 := hide (Og_7.out.touch ht (fun g hg hg' => by have := Lg.out g hg; have := Lx.out g hg'; omega))
  clear Os_7
  clear Og_7
  clear ht
  have Ox_8 := hide ho
  clear ho Ox_7
  go_wp2_with fail
  refine (eqIntS_same _ _ _ _ _ (fillR z0 a1 a2 a3) w8.heap.size w8 hRn.out (by omega) (Og_8.out.rd).2 (Os_8.out.rd).2).mono ?_
  rintro e w9 ⟨rfl, hb⟩
  have HB9 := hide (HB8.out.trans (hb.mono HB8.out.size))
  have hs9 : w8.heap.size ≤ w9.heap.size := hb.size
  have Os_9 := hide (Os_8.out.below hb)
  have Ox_9 := hide (Ox_8.out.below hb)
  have Og_9 := hide (Og_8.out.below hb)
  clear Os_8
  clear Ox_8
  clear Og_8
  clear hb
  go_wp2_with fail
  refine (markIntS_any _ _ _ _ _ 1 w9 Og_9.out (by omega) (by omega) (by omega)).mono ?_
  rintro e w10 ⟨rfl, ho, ht⟩
  have HB10 := hide (Below.touch HB9.out ht (fun g hg => by have := Lg.out g hg; have := HB9.out.size; omega) HB9.out.size)
  have hs10 : w9.heap.size ≤ w10.heap.size := ht.size
  have Os_10 := hide (Os_9.out.touch ht (fun g hg hg' => by have := Ls.out g hg; have := Lg.out g hg'; omega))
  have Ox_10 := hide (Ox_9.out.touch ht (fun g hg hg' => by have := Lx.out g hg; have := Lg.out g hg'; omega))
  clear Os_9
  clear Ox_9
  clear ht
  have Og_10 := hide ho
  clear ho Og_9
  go_wp2_with fail
  refine (heldIntS_same _ _ _ 1 w10.heap.size w10 (Og_10.out.rd).2 (by omega) (by omega) (by omega)).mono ?_
  rintro e w_h ⟨rfl, rfl⟩
  go_wp2_with fail
  refine (toIntS_any A0 n0 c0 z0 w10 Hn0.out (by omega) ((Hr0.out.below HB10.out (Nat.le_refl _)).more HB10.out.size)).mono ?_
  rintro e w11 ⟨rfl, ho, hb⟩
  have HB11 := hide (HB10.out.trans (hb.mono HB10.out.size))
  have hs11 : w10.heap.size ≤ w11.heap.size := hb.size
  have Os_11 := hide (Os_10.out.below hb)
  have Ox_11 := hide (Ox_10.out.below hb)
  have Og_11 := hide (Og_10.out.below hb)
  clear Os_10
  clear Ox_10
  clear Og_10
  clear hb
  have Oq_11 := hide ho
  clear ho
  have Lq : Hid (∀ g, g ∈ [w10.heap.size] → w10.heap.size ≤ g ∧ g < w11.heap.size) := hide (fun g hg => ⟨by simp at hg; omega, Oq_11.out.lt g hg⟩)
  go_wp2_with fail
  refine (implFill_any ⟨w10.heap.size, 0, none⟩ n0 n0 z0 a1 a2 a3 w11 Hn0.out (by omega) (Oq_11.out.rd).2).mono ?_
  rintro e w12 ⟨A_r, c_r, F_r, rfl, ho, hF, hb⟩
  have HB12 := hide (HB11.out.trans (hb.mono HB11.out.size))
  have hs12 : w11.heap.size ≤ w12.heap.size := hb.size
  have Os_12 := hide (Os_11.out.below hb)
  have Ox_12 := hide (Ox_11.out.below hb)
  have Og_12 := hide (Og_11.out.below hb)
  have Oq_12 := hide (Oq_11.out.below hb)
  clear Os_11
  clear Ox_11
  clear Og_11
  clear Oq_11
  clear hb
  have Or_12 := hide ho
  clear ho
  have Lr : Hid (∀ g, g ∈ F_r → w11.heap.size ≤ g ∧ g < w12.heap.size) := hide (fun g hg => ⟨hF g hg, Or_12.out.lt g hg⟩)
  clear hF
  go_wp2_with fail
  refine (eqIntS_same _ _ _ _ _ (fillR z0 a1 a2 a3) w12.heap.size w12 hRn.out (by omega) (Or_12.out.rd).2 (Os_12.out.rd).2).mono ?_
  rintro e w13 ⟨rfl, hb⟩
  have HB13 := hide (HB12.out.trans (hb.mono HB12.out.size))
  have hs13 : w12.heap.size ≤ w13.heap.size := hb.size
  have Os_13 := hide (Os_12.out.below hb)
  have Ox_13 := hide (Ox_12.out.below hb)
  have Og_13 := hide (Og_12.out.below hb)
  have Oq_13 := hide (Oq_12.out.below hb)
  have Or_13 := hide (Or_12.out.below hb)
  clear Os_12
  clear Ox_12
  clear Og_12
  clear Oq_12
  clear Or_12
  clear hb
  clear Or_13
  clear Oq_13
  go_wp2_with fail
  refine (heldIntS_same _ _ _ 1 w13.heap.size w13 (Og_13.out.rd).2 (by omega) (by omega) (by omega)).mono ?_
  rintro e w_h ⟨rfl, rfl⟩
  go_wp2
  go_ret
  exact ⟨rfl, HB13.out⟩
end Go.Proofs.Ytflomdjcboohlaa
