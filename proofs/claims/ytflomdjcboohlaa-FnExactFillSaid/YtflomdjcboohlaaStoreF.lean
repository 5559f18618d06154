/-
  StoreNum, CasNum and Fill: the contracts of the reference and of the program, and the walks of their laws.
-/
import Derived.Test.YtflomdjcboohlaaStore
namespace Go.Proofs.Ytflomdjcboohlaa
open Go.RowKit
set_option linter.unusedVariables false

/-- What a function that answers a slice and a bool leaves. -/
def SlRes (w w' : World) (e : Ending) (n : Nat) (R : List Int) (b : Bool) : Prop :=
  ∃ A' c' F, e = .returned (.tuple #[.slice A' n c', .bool b]) ∧ Own 3 w' (.slice A' n c') (ints R) F ∧ (∀ g, g ∈ F → w.heap.size ≤ g) ∧ Below w.heap.size w w'
theorem retSl {A : Option Addr} {n c : Nat} {p q : Bool} (h2 : p = q) : Ending.returned (.tuple #[.slice A n c, .bool p]) = .returned (.tuple #[.slice A n c, .bool q]) := by rw [h2]

def fixOk (v y : Int) : Prop := 1 ≤ y ∧ y ≤ 7 ∧ 0 ≤ v ∧ v < pw y.toNat
instance (v y : Int) : Decidable (fixOk v y) := by unfold fixOk; infer_instance
def okS (zs : List Int) (x y v : Int) : Bool := okL zs x y && decide (fixOk v y)
def storeR (zs : List Int) (x y v : Int) : List Int := if okS zs x y v then upd zs x.toNat (x.toNat + y.toNat) (dgt y.toNat x.toNat v.toNat) else zs
theorem storeR_length (zs : List Int) (x y v : Int) : (storeR zs x y v).length = zs.length := by unfold storeR; split <;> simp [upd_length]

theorem fix_test_yes {s : ByteArray} (h : 1 ≤ s.size) : (s.toList == []) = false := by
  rw [beq_eq_false_iff_ne]
  intro e
  have : s.toList.length = 0 := by rw [e]; rfl
  rw [ByteArray.toList_eq] at this
  have h2 : s.data.toList.length = s.size := by simp
  omega
theorem fixN_size (m N : Nat) : (⟨(fixN m N).toArray⟩ : ByteArray).size = m := by
  show (fixN m N).toArray.size = m
  simp [fixN_length]
theorem put_fix (zs : List Int) (off m N : Nat) : upd zs off (off + m) (fun i => (((⟨(fixN m N).toArray⟩ : ByteArray).data.toList.getD (i - off) 0).toNat : Int)) = upd zs off (off + m) (dgt m off N) := by
  refine upd_congr _ _ _ _ _ fun i h1 h2 => ?_
  unfold dgt
  show (((fixN m N).toArray.toList.getD (i - off) 0).toNat : Int) = _
  rw [List.toList_toArray, fixN_get m N _ (by omega)]
  simp
theorem okL_parts {zs : List Int} {n : Nat} {x y : Int} (hn : n = zs.length) (h : okL zs x y = true) : bokR zs = true ∧ 1 ≤ y ∧ y ≤ 7 ∧ 0 ≤ x ∧ x + y ≤ n ∧ n ≤ 1000 := by
  unfold okL at h
  simp only [Bool.and_eq_true] at h
  obtain ⟨⟨h1, h2⟩, h3⟩ := h
  have h2' : 1 ≤ y ∧ y ≤ 7 := by simpa [wdR] using h2
  have h3' : 0 ≤ x ∧ 0 ≤ y ∧ x + y ≤ zs.length := by simpa [inR] using h3
  have h1' := h1
  unfold bokR at h1'
  rw [Bool.and_eq_true] at h1'
  have t := h1'.2
  simp at t
  exact ⟨h1, h2'.1, h2'.2, h3'.1, by omega, by omega⟩

set_option maxRecDepth 100000 in
set_option maxHeartbeats 1600000 in
theorem specStore_any (A : Option Addr) (n c : Nat) (zs : List Int) (x y v : Int) (w : World) (hn : n = zs.length) (hz : n ≤ 2097152) (ha : RdB .i64 w A zs w.heap.size) (hv : v ≤ 9223372036854775807) :
    Calls Try.prog 18 #[.slice A n c, .int .i64 x, .int .i64 y, .int .i64 v] w fun e w' => SlRes w w' e n (storeR zs x y v) (okS zs x y v) := by
  have HN := hide hn
  have HA := hide ha
  have HC := hide (l3Copy_any A n c zs w hn hz ha)
  clear hn ha
  go_enter Try.func18, Try.ntmps18
  go_wp2_with fail
  refine HC.out.mono ?_
  rintro e w1 ⟨A', c', F, rfl, ho, hF, hb⟩
  have HO := hide ho
  have HF := hide hF
  have HB := hide hb
  clear ho hF hb HC
  go_wp2_with fail
  refine (specBok_any A n c zs w.heap.size w1 HN.out hz (HA.out.below HB.out (Nat.le_refl _))).mono ?_
  rintro e w2 ⟨rfl, hb⟩
  have HO2 := hide (HO.out.below hb)
  have HB2 := hide (HB.out.trans (hb.mono HB.out.size))
  clear hb HO HB
  cases h1 : bokR zs
  · have HX : Hid (okS zs x y v = false) := hide (by unfold okS okL; rw [h1]; rfl)
    clear h1
    go_wp2
    go_ret2
    exact ⟨A', c', F, retSl HX.out.symm, by unfold storeR; rw [HX.out]; exact HO2.out, HF.out, HB2.out⟩
  have H1 := hide h1
  clear h1
  go_wp2_with fail
  refine (l1InW_any _ _).mono ?_
  rintro e w3 ⟨rfl, rfl⟩
  cases h2 : wdR y
  · have HX : Hid (okS zs x y v = false) := hide (by unfold okS okL; rw [h2]; simp)
    clear h2
    go_wp2
    go_ret2
    exact ⟨A', c', F, retSl HX.out.symm, by unfold storeR; rw [HX.out]; exact HO2.out, HF.out, HB2.out⟩
  have H2 := hide h2
  clear h2
  go_wp2_with fail
  refine (l3In_any _ _ _ _ _ _ hz).mono ?_
  rintro e w3 ⟨rfl, rfl⟩
  cases h3 : inR n x y
  · have HX : Hid (okS zs x y v = false) := hide (by unfold okS okL; rw [← HN.out, h3]; simp)
    clear h3
    go_wp2
    go_ret2
    exact ⟨A', c', F, retSl HX.out.symm, by unfold storeR; rw [HX.out]; exact HO2.out, HF.out, HB2.out⟩
  have HL : Hid (okL zs x y = true) := hide (by unfold okL; rw [H1.out, H2.out, ← HN.out, h3]; rfl)
  clear h3
  go_wp2_with fail
  refine (specFixed_any v y _ hv).mono ?_
  rintro e w3 ⟨rfl, hb⟩
  have HO3 := hide (HO2.out.below hb)
  have HB3 := hide (HB2.out.trans (hb.mono HB2.out.size))
  clear hb HO2 HB2
  by_cases h4 : fixOk v y
  · have HX : Hid (okS zs x y v = true) := hide (by unfold okS; rw [HL.out, decide_eq_true h4]; rfl)
    obtain ⟨p1, p2, p3, p4, p5, p6⟩ := okL_parts HN.out HL.out
    obtain ⟨m, rfl⟩ := Int.eq_ofNat_of_zero_le (show 0 ≤ y by omega)
    obtain ⟨off, rfl⟩ := Int.eq_ofNat_of_zero_le p4
    obtain ⟨N, rfl⟩ := Int.eq_ofNat_of_zero_le h4.2.2.1
    obtain ⟨s, hs⟩ : ∃ s, s = fixS (N : Int) (m : Int) := ⟨_, rfl⟩
    have hsz : s.size = m := by rw [hs, fixS_yes h4]; simp [fixN_size]
    have ht := fix_test_yes (s := s) (by omega)
    rw [← hs]
    have m1 : 1 ≤ m := by omega
    have m7 : m ≤ 7 := by omega
    have mo : off + m ≤ n := by omega
    have H4 := hide h4
    have HK := hide p1
    clear hs hsz p1 p2 p3 p4 p5 h4
    go_wp2_with fail
    refine (l3Store_any A' n c' zs F off m N _ HO3.out p6 m1 m7 mo hv).mono ?_
    rintro e w4 ⟨rfl, ho, htc⟩
    have HO4 := hide ho
    have HB4 := hide (Below.touch HB3.out htc HF.out HB3.out.size)
    clear ho htc
    go_wp2
    go_ret2
    exact ⟨A', c', F, retSl HX.out.symm, by unfold storeR; rw [HX.out]; simpa using HO4.out, HF.out, HB4.out⟩
  · have HX : Hid (okS zs x y v = false) := hide (by unfold okS; rw [decide_eq_false h4]; simp)
    rw [fixS_no h4]
    clear h4
    go_wp2
    go_ret2
    exact ⟨A', c', F, retSl HX.out.symm, by unfold storeR; rw [HX.out]; exact HO3.out, HF.out, HB3.out⟩

set_option maxRecDepth 100000 in
set_option maxHeartbeats 1600000 in
theorem implStore_any (a : Addr) (n c : Nat) (zs : List Int) (x y v : Int) (w : World) (hn : n = zs.length) (hz : n ≤ 2097152) (hc : n ≤ c) (hcm : c ≤ maxLen) (ha : RdB .i64 w (some a) zs w.heap.size) (hv0 : -9223372036854775808 ≤ v) (hv : v ≤ 9223372036854775807) :
    Calls Try.prog 19 #[.slice (some a) n c, .int .i64 x, .int .i64 y, .int .i64 v] w fun e w' => SlRes w w' e n (storeR zs x y v) (okS zs x y v) := by
  have HN := hide hn
  have HA := hide ha
  have HC := hide (clone_any a n c zs w hn hz ha)
  clear hn ha
  go_enter Try.func19, Try.ntmps19
  go_wp2_with fail
  refine HC.out.mono ?_
  rintro e w1 ⟨A', c', F, rfl, ho, hF, hb⟩
  have HO := hide ho
  have HF := hide hF
  have HB := hide hb
  clear ho hF hb HC
  go_wp2_with fail
  refine (implFixed_any v y _ hv0 hv).mono ?_
  rintro e w2 ⟨rfl, hb⟩
  have HO2 := hide (HO.out.below hb)
  have HB2 := hide (HB.out.trans (hb.mono HB.out.size))
  clear hb HO HB
  obtain ⟨s, hs⟩ : ∃ s, s = fixS v y := ⟨_, rfl⟩
  rw [← hs]
  have HS := hide hs
  clear hs
  go_wp2_with fail
  refine (implLoad_any (some a) n c zs x y w.heap.size w2 HN.out hz hc hcm (HA.out.below HB2.out (Nat.le_refl _)) HB2.out.size).mono ?_
  rintro e w3 ⟨rfl, hb⟩
  have HO3 := hide (HO2.out.below hb)
  have HB3 := hide (HB2.out.trans (hb.mono HB2.out.size))
  clear hb HO2 HB2
  generalize loadR zs x y = ld
  cases h1 : okL zs x y
  · have HX : Hid (okS zs x y v = false) := hide (by unfold okS; rw [h1]; rfl)
    clear h1
    go_wp2
    go_ret2
    exact ⟨A', c', F, retSl HX.out.symm, by unfold storeR; rw [HX.out]; exact HO3.out, HF.out, HB3.out⟩
  have HL := hide h1
  clear h1
  by_cases h4 : fixOk v y
  · have HX : Hid (okS zs x y v = true) := hide (by unfold okS; rw [HL.out, decide_eq_true h4]; rfl)
    obtain ⟨p1, p2, p3, p4, p5, p6⟩ := okL_parts HN.out HL.out
    obtain ⟨m, rfl⟩ := Int.eq_ofNat_of_zero_le (show 0 ≤ y by omega)
    obtain ⟨off, rfl⟩ := Int.eq_ofNat_of_zero_le p4
    obtain ⟨N, rfl⟩ := Int.eq_ofNat_of_zero_le h4.2.2.1
    have hsz : s.size = m := by rw [HS.out, fixS_yes h4]; simp [fixN_size]
    have hsf : s = ⟨(fixN m N).toArray⟩ := by rw [HS.out, fixS_yes h4]; simp
    have ht := fix_test_yes (s := s) (by omega)
    have HSF := hide hsf
    have HSZ := hide hsz
    have HK := hide p1
    clear hsz hsf p1 h4
    go_wp2_with fail
    refine (putNum_any A' n c' zs F off s _ HO3.out p6 (by have := HSZ.out; omega) (by have := HSZ.out; omega)).mono ?_
    rintro e w4 ⟨rfl, ho, htc⟩
    rw [HSZ.out, HSF.out, put_fix] at ho
    have HO4 := hide ho
    have HB4 := hide (Below.touch HB3.out htc HF.out HB3.out.size)
    clear ho htc
    go_wp2
    go_ret2
    exact ⟨A', c', F, retSl HX.out.symm, by unfold storeR; rw [HX.out]; simpa using HO4.out, HF.out, HB4.out⟩
  · have HX : Hid (okS zs x y v = false) := hide (by unfold okS; rw [decide_eq_false h4]; simp)
    have hs : s = ⟨#[]⟩ := by rw [HS.out, fixS_no h4]
    rw [hs]
    clear hs h4
    go_wp2
    go_ret2
    exact ⟨A', c', F, retSl HX.out.symm, by unfold storeR; rw [HX.out]; exact HO3.out, HF.out, HB3.out⟩

set_option maxRecDepth 100000 in
set_option maxHeartbeats 3200000 in
theorem fnExactStoreNum_walk (A0 : Option Addr) (n0 c0 : Nat) (z0 : List Int) (a1 : Int) (a2 : Int) (a3 : Int) (w : World) (h0 : Sl .i64 w A0 n0 c0 z0) (h1 : (Lit.int .i64 a1).wf = true) (h2 : (Lit.int .i64 a2).wf = true) (h3 : (Lit.int .i64 a3).wf = true) :
    Calls Try.prog 6 #[.slice A0 n0 c0, .int .i64 a1, .int .i64 a2, .int .i64 a3] w fun e w' => e = .returned (.bool true) ∧ Below w.heap.size w w' := by
  obtain ⟨hn0, hnc0, hc0, hr0, hx0⟩ := h0
  have Hn0 := hide hn0
  clear hn0
  have Hr0 := hide hr0
  clear hr0
  have Hx0 := hide hx0
  clear hx0
  have hb1 := bounds_i64 h1
  clear h1
  have hb2 := bounds_i64 h2
  clear h2
  have hb3 := bounds_i64 h3
  clear h3
  have HB0 := hide (Below.refl w.heap.size w)
  have hRn : Hid (n0 = ((storeR z0 a1 a2 a3)).length) := hide (by rw [storeR_length]; exact Hn0.out)
  have hpos : ¬ (1 + (n0 : Int)) < 0 := by omega
  go_enter Try.func6, Try.ntmps6
  by_cases big0 : (1048576 : Int) < (n0 : Int)
  · go_wp2
    go_ret
    exact ⟨rfl, Below.refl _ _⟩
  go_wp2_with fail
  refine (toIntS_any A0 n0 c0 z0 w Hn0.out (by omega) ((Hr0.out.below HB0.out (Nat.le_refl _)).more HB0.out.size)).mono ?_
  rintro e w1 ⟨rfl, ho, hb⟩
  have HB1 := hide (HB0.out.trans (hb.mono HB0.out.size))
  have hs1 : w.heap.size ≤ w1.heap.size := hb.size
  clear hb
  have Oa_1 := hide ho
  clear ho
  have La : Hid (∀ g, g ∈ [w.heap.size] → w.heap.size ≤ g ∧ g < w1.heap.size) := hide (fun g hg => ⟨by simp at hg; omega, Oa_1.out.lt g hg⟩)
  go_wp2_with fail
  refine (specStore_any (some ⟨w.heap.size, 0, none⟩) n0 n0 z0 a1 a2 a3 w1 Hn0.out (by omega) (Oa_1.out.rd).2 (by omega)).mono ?_
  rintro e w2 ⟨A_s, c_s, F_s, rfl, ho, hF, hb⟩
  have HB2 := hide (HB1.out.trans (hb.mono HB1.out.size))
  have hs2 : w1.heap.size ≤ w2.heap.size := hb.size
  have Oa_2 := hide (Oa_1.out.below hb)
  clear Oa_1
  clear hb
  have Os_2 := hide ho
  clear ho
  have Ls : Hid (∀ g, g ∈ F_s → w1.heap.size ≤ g ∧ g < w2.heap.size) := hide (fun g hg => ⟨hF g hg, Os_2.out.lt g hg⟩)
  clear hF
  clear Oa_2
  go_wp2_with fail
  refine (toIntS_any A0 n0 c0 z0 w2 Hn0.out (by omega) ((Hr0.out.below HB2.out (Nat.le_refl _)).more HB2.out.size)).mono ?_
  rintro e w3 ⟨rfl, ho, hb⟩
  have HB3 := hide (HB2.out.trans (hb.mono HB2.out.size))
  have hs3 : w2.heap.size ≤ w3.heap.size := hb.size
  have Os_3 := hide (Os_2.out.below hb)
  clear Os_2
  clear hb
  have Ox_3 := hide ho
  clear ho
  have Lx : Hid (∀ g, g ∈ [w2.heap.size] → w2.heap.size ≤ g ∧ g < w3.heap.size) := hide (fun g hg => ⟨by simp at hg; omega, Ox_3.out.lt g hg⟩)
  go_wp2_with fail
  refine (implStore_any ⟨w2.heap.size, 0, none⟩ n0 n0 z0 a1 a2 a3 w3 Hn0.out (by omega) (Nat.le_refl _) (by unfold maxLen; omega) (Ox_3.out.rd).2 (by omega) (by omega)).mono ?_
  rintro e w4 ⟨A_g, c_g, F_g, rfl, ho, hF, hb⟩
  have HB4 := hide (HB3.out.trans (hb.mono HB3.out.size))
  have hs4 : w3.heap.size ≤ w4.heap.size := hb.size
  have Os_4 := hide (Os_3.out.below hb)
  have Ox_4 := hide (Ox_3.out.below hb)
  clear Os_3
  clear Ox_3
  clear hb
  have Og_4 := hide ho
  clear ho
  have Lg : Hid (∀ g, g ∈ F_g → w3.heap.size ≤ g ∧ g < w4.heap.size) := hide (fun g hg => ⟨hF g hg, Og_4.out.lt g hg⟩)
  clear hF
  go_wp2_with fail
  refine (eqIntS_same _ _ _ _ _ (storeR z0 a1 a2 a3) w4.heap.size w4 hRn.out (by omega) (Og_4.out.rd).2 (Os_4.out.rd).2).mono ?_
  rintro e w5 ⟨rfl, hb⟩
  have HB5 := hide (HB4.out.trans (hb.mono HB4.out.size))
  have hs5 : w4.heap.size ≤ w5.heap.size := hb.size
  have Os_5 := hide (Os_4.out.below hb)
  have Ox_5 := hide (Ox_4.out.below hb)
  have Og_5 := hide (Og_4.out.below hb)
  clear Os_4
  clear Ox_4
  clear Og_4
  clear hb
  go_wp2_with fail
  refine (toIntS_any A0 n0 c0 z0 w5 Hn0.out (by omega) ((Hr0.out.below HB5.out (Nat.le_refl _)).more HB5.out.size)).mono ?_
  rintro e w6 ⟨rfl, ho, hb⟩
  have HB6 := hide (HB5.out.trans (hb.mono HB5.out.size))
  have hs6 : w5.heap.size ≤ w6.heap.size := hb.size
  have Os_6 := hide (Os_5.out.below hb)
  have Ox_6 := hide (Ox_5.out.below hb)
  have Og_6 := hide (Og_5.out.below hb)
  clear Os_5
  clear Ox_5
  clear Og_5
  clear hb
  have Op_6 := hide ho
  clear ho
  have Lp : Hid (∀ g, g ∈ [w5.heap.size] → w5.heap.size ≤ g ∧ g < w6.heap.size) := hide (fun g hg => ⟨by simp at hg; omega, Op_6.out.lt g hg⟩)
  go_wp2_with fail
  refine (eqIntS_same _ _ _ _ _ z0 w6.heap.size w6 Hn0.out (by omega) (Ox_6.out.rd).2 (Op_6.out.rd).2).mono ?_
  rintro e w7 ⟨rfl, hb⟩
  have HB7 := hide (HB6.out.trans (hb.mono HB6.out.size))
  have hs7 : w6.heap.size ≤ w7.heap.size := hb.size
  have Os_7 := hide (Os_6.out.below hb)
  have Ox_7 := hide (Ox_6.out.below hb)
  have Og_7 := hide (Og_6.out.below hb)
  have Op_7 := hide (Op_6.out.below hb)
  clear Os_6
  clear Ox_6
  clear Og_6
  clear Op_6
  clear hb
  clear Op_7
  go_wp2_with fail
  refine (markIntS_any _ _ _ _ _ 1 w7 Ox_7.out (by omega) (by omega) (by omega)).mono ?_
  rintro e w8 ⟨rfl, ho, ht⟩
  have HB8 := hide (Below.touch HB7.out ht (fun g hg => by have := Lx.out g hg; have := HB7.out.size; omega) HB7.out.size)
  have hs8 : w7.heap.size ≤ w8.heap.size := ht.size
  have Os_8 := hide (Os_7.out.touch ht (fun g hg hg' => by have := Ls.out g hg; have := Lx.out g hg'; omega))
  have Og_8 := hide (Og_7.out.touch ht (fun g hg hg' => by have := Lg.out g hg; have := Lx.out g hg'; omega))
  clear Os_7
  clear Og_7
  clear ht
  have Ox_8 := hide ho
  clear ho Ox_7
  go_wp2_with fail
  refine (eqIntS_same _ _ _ _ _ (storeR z0 a1 a2 a3) w8.heap.size w8 hRn.out (by omega) (Og_8.out.rd).2 (Os_8.out.rd).2).mono ?_
  rintro e w9 ⟨rfl, hb⟩
  have HB9 := hide (HB8.out.trans (hb.mono HB8.out.size))
  have hs9 : w8.heap.size ≤ w9.heap.size := hb.size
  have Os_9 := hide (Os_8.out.below hb)
  have Ox_9 := hide (Ox_8.out.below hb)
  have Og_9 := hide (Og_8.out.below hb)
  clear Os_8
  clear Ox_8
  clear Og_8
  clear hb
  go_wp2_with fail
  refine (markIntS_any _ _ _ _ _ 1 w9 Og_9.out (by omega) (by omega) (by omega)).mono ?_
  rintro e w10 ⟨rfl, ho, ht⟩
  have HB10 := hide (Below.touch HB9.out ht (fun g hg => by have := Lg.out g hg; have := HB9.out.size; omega) HB9.out.size)
  have hs10 : w9.heap.size ≤ w10.heap.size := ht.size
  have Os_10 := hide (Os_9.out.touch ht (fun g hg hg' => by have := Ls.out g hg; have := Lg.out g hg'; omega))
  have Ox_10 := hide (Ox_9.out.touch ht (fun g hg hg' => by have := Lx.out g hg; have := Lg.out g hg'; omega))
  clear Os_9
  clear Ox_9
  clear ht
  have Og_10 := hide ho
  clear ho Og_9
  go_wp2_with fail
  refine (heldIntS_same _ _ _ 1 w10.heap.size w10 (Og_10.out.rd).2 (by omega) (by omega) (by omega)).mono ?_
  rintro e w_h ⟨rfl, rfl⟩
  go_wp2_with fail
  refine (toIntS_any A0 n0 c0 z0 w10 Hn0.out (by omega) ((Hr0.out.below HB10.out (Nat.le_refl _)).more HB10.out.size)).mono ?_
  rintro e w11 ⟨rfl, ho, hb⟩
  have HB11 := hide (HB10.out.trans (hb.mono HB10.out.size))
  have hs11 : w10.heap.size ≤ w11.heap.size := hb.size
  have Os_11 := hide (Os_10.out.below hb)
  have Ox_11 := hide (Ox_10.out.below hb)
  have Og_11 := hide (Og_10.out.below hb)
  clear Os_10
  clear Ox_10
  clear Og_10
  clear hb
  have Oq_11 := hide ho
  clear ho
  have Lq : Hid (∀ g, g ∈ [w10.heap.size] → w10.heap.size ≤ g ∧ g < w11.heap.size) := hide (fun g hg => ⟨by simp at hg; omega, Oq_11.out.lt g hg⟩)
  go_wp2_with fail
  refine (implStore_any ⟨w10.heap.size, 0, none⟩ n0 n0 z0 a1 a2 a3 w11 Hn0.out (by omega) (Nat.le_refl _) (by unfold maxLen; omega) (Oq_11.out.rd).2 (by omega) (by omega)).mono ?_
  rintro e w12 ⟨A_r, c_r, F_r, rfl, ho, hF, hb⟩
  have HB12 := hide (HB11.out.trans (hb.mono HB11.out.size))
  have hs12 : w11.heap.size ≤ w12.heap.size := hb.size
  have Os_12 := hide (Os_11.out.below hb)
  have Ox_12 := hide (Ox_11.out.below hb)
  have Og_12 := hide (Og_11.out.below hb)
  have Oq_12 := hide (Oq_11.out.below hb)
  clear Os_11
  clear Ox_11
  clear Og_11
  clear Oq_11
  clear hb
  have Or_12 := hide ho
  clear ho
  have Lr : Hid (∀ g, g ∈ F_r → w11.heap.size ≤ g ∧ g < w12.heap.size) := hide (fun g hg => ⟨hF g hg, Or_12.out.lt g hg⟩)
  clear hF
  go_wp2_with fail
  refine (eqIntS_same _ _ _ _ _ (storeR z0 a1 a2 a3) w12.heap.size w12 hRn.out (by omega) (Or_12.out.rd).2 (Os_12.out.rd).2).mono ?_
  rintro e w13 ⟨rfl, hb⟩
  have HB13 := hide (HB12.out.trans (hb.mono HB12.out.size))
  have hs13 : w12.heap.size ≤ w13.heap.size := hb.size
  have Os_13 := hide (Os_12.out.below hb)
  have Ox_13 := hide (Ox_12.out.below hb)
  have Og_13 := hide (Og_12.out.below hb)
  have Oq_13 := hide (Oq_12.out.below hb)
  have Or_13 := hide (Or_12.out.below hb)
  clear Os_12
  clear Ox_12
  clear Og_12
  clear Oq_12
  clear Or_12
  clear hb
  clear Or_13
  clear Oq_13
  go_wp2_with fail
  refine (heldIntS_same _ _ _ 1 w13.heap.size w13 (Og_13.out.rd).2 (by omega) (by omega) (by omega)).mono ?_
  rintro e w_h ⟨rfl, rfl⟩
  go_wp2
  go_ret
  exact ⟨rfl, HB13.out⟩
end Go.Proofs.Ytflomdjcboohlaa
