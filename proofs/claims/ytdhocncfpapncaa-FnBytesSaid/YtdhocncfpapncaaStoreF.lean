/-
  StoreNum, CasNum and Fill: the contracts of the reference and of the program, and the walks of their laws.
-/
import Derived.Test.YtdhocncfpapncaaStore
namespace Go.Proofs.Ytdhocncfpapncaa
open Go.RowKit
set_option linter.unusedVariables false

/-- What a function that answers a slice and a bool leaves. -/
def SlRes (w w' : World) (e : Ending) (n : Nat) (R : List Int) (b : Bool) : Prop :=
  ∃ A' c' F, e = .returned (.tuple #[.slice A' n c', .bool b]) ∧ Own 3 w' (.slice A' n c') (ints R) F ∧ (∀ g, g ∈ F → w.heap.size ≤ g) ∧ Below w.heap.size w w'
theorem retSl {A : Option Addr} {n c : Nat} {p q : Bool} (h2 : p = q) : Ending.returned (.tuple #[.slice A n c, .bool p]) = .returned (.tuple #[.slice A n c, .bool q]) := by rw [h2]

def fixOk (v y : Int) : Prop := 1 ≤ y ∧ y ≤ 7 ∧ 0 ≤ v ∧ v < pw y.toNat
instance (v y : Int) : Decidable (fixOk v y) := by unfold fixOk; infer_instance
def okS (zs : List Int) (x y v : Int) : Bool := okL zs x y && decide (fixOk v y)
def storeR (zs : List Int) (x y v : Int) : List Int := if okS zs x y v then upd zs x.toNat (x.toNat + y.toNat) (dgt y.toNat x.toNat v.toNat) else zs
theorem storeR_length (zs : List Int) (x y v : Int) : (storeR zs x y v).length = zs.length := by unfold storeR; split <;> simp [upd_length]

theorem fix_test_yes {s : ByteArray} (h : 1 ≤ s.size) : (s.toList == []) = false := by
  rw [beq_eq_false_iff_ne]
  intro e
  have : s.toList.length = 0 := by rw [e]; rfl
  rw [ByteArray.toList_eq] at this
  have h2 : s.data.toList.length = s.size := by simp
  omega
theorem fixN_size (m N : Nat) : (⟨(fixN m N).toArray⟩ : ByteArray).size = m := by
  show (fixN m N).toArray.size = m
  simp [fixN_length]
theorem put_fix (zs : List Int) (off m N : Nat) : upd zs off (off + m) (fun i => (((⟨(fixN m N).toArray⟩ : ByteArray).data.toList.getD (i - off) 0).toNat : Int)) = upd zs off (off + m) (dgt m off N) := by
  refine upd_congr _ _ _ _ _ fun i h1 h2 => ?_
  unfold dgt
  show (((fixN m N).toArray.toList.getD (i - off) 0).toNat : Int) = _
  rw [List.toList_toArray, fixN_get m N _ (by omega)]
  simp
theorem okL_parts {zs : List Int} {n : Nat} {x y : Int} (hn : n = zs.length) (h : okL zs x y = true) : bokR zs = true ∧ 1 ≤ y ∧ y ≤ 7 ∧ 0 ≤ x ∧ x + y ≤ n ∧ n ≤ 1000 := by
  unfold okL at h
  simp only [Bool.and_eq_true] at h
  obtain ⟨⟨h1, h2⟩, h3⟩ := h
  have h2' : 1 ≤ y ∧ y ≤ 7 := by simpa [wdR] using h2
  have h3' : 0 ≤ x ∧ 0 ≤ y ∧ x + y ≤ zs.length := by simpa [inR] using h3
  have h1' := h1
  unfold bokR at h1'
  rw [Bool.and_eq_true] at h1'
  have t := h1'.2
  simp at t
  exact ⟨h1, h2'.1, h2'.2, h3'.1, by omega, by omega⟩

set_option maxRecDepth 100000 in
set_option maxHeartbeats 1600000 in
theorem specStore_any (A : Option Addr) (n c : Nat) (zs : List Int) (x y v : Int) (w : World) (hn : n = zs.length) (hz : n ≤ 2097152) (ha : RdB .i64 w A zs w.heap.size) (hv : v ≤ 9223372036854775807) :
    Calls Try.prog 7 #[.slice A n c, .int .i64 x, .int .i64 y, .int .i64 v] w fun e w' => SlRes w w' e n (storeR zs x y v) (okS zs x y v) := by
  have HN := hide hn
  have HA := hide ha
  have HC := hide (l3Copy_any A n c zs w hn hz ha)
  clear hn ha
  go_enter Try.func7, Try.ntmps7
  go_wp2_with fail
  refine HC.out.mono ?_
  rintro e w1 ⟨A', c', F, rfl, ho, hF, hb⟩
  have HO := hide ho
  have HF := hide hF
  have HB := hide hb
  clear ho hF hb HC
  go_wp2_with fail
  refine (specBok_any A n c zs w.heap.size w1 HN.out hz (HA.out.below HB.out (Nat.le_refl _))).mono ?_
  rintro e w2 ⟨rfl, hb⟩
  have HO2 := hide (HO.out.below hb)
  have HB2 := hide (HB.out.trans (hb.mono HB.out.size))
  clear hb HO HB
  cases h1 : bokR zs
  · have HX : Hid (okS zs x y v = false) := hide (by unfold okS okL; rw [h1]; rfl)
    clear h1
    go_wp2
    go_ret2
    exact ⟨A', c', F, retSl HX.out.symm, by unfold storeR; rw [HX.out]; exact HO2.out, HF.out, HB2.out⟩
  have H1 := hide h1
  clear h1
  go_wp2_with fail
  refine (l1InW_any _ _).mono ?_
  rintro e w3 ⟨rfl, rfl⟩
  cases h2 : wdR y
  · have HX : Hid (okS zs x y v = false) := hide (by unfold okS okL; rw [h2]; simp)
    clear h2
    go_wp2
    go_ret2
    exact ⟨A', c', F, retSl HX.out.symm, by unfold storeR; rw [HX.out]; exact HO2.out, HF.out, HB2.out⟩
  have H2 := hide h2
  clear h2
  go_wp2_with fail
  refine (l3In_any _ _ _ _ _ _ hz).mono ?_
  rintro e w3 ⟨rfl, rfl⟩
  cases h3 : inR n x y
  · have HX : Hid (okS zs x y v = false) := hide (by unfold okS okL; rw [← HN.out, h3]; simp)
    clear h3
    go_wp2
    go_ret2
    exact ⟨A', c', F, retSl HX.out.symm, by unfold storeR; rw [HX.out]; exact HO2.out, HF.out, HB2.out⟩
  have HL : Hid (okL zs x y = true) := hide (by unfold okL; rw [H1.out, H2.out, ← HN.out, h3]; rfl)
  clear h3
  go_wp2_with fail
  refine (specFixed_any v y _ hv).mono ?_
  rintro e w3 ⟨rfl, hb⟩
  have HO3 := hide (HO2.out.below hb)
  have HB3 := hide (HB2.out.trans (hb.mono HB2.out.size))
  clear hb HO2 HB2
  by_cases h4 : fixOk v y
  · have HX : Hid (okS zs x y v = true) := hide (by unfold okS; rw [HL.out, decide_eq_true h4]; rfl)
    obtain ⟨p1, p2, p3, p4, p5, p6⟩ := okL_parts HN.out HL.out
    obtain ⟨m, rfl⟩ := Int.eq_ofNat_of_zero_le (show 0 ≤ y by omega)
    obtain ⟨off, rfl⟩ := Int.eq_ofNat_of_zero_le p4
    obtain ⟨N, rfl⟩ := Int.eq_ofNat_of_zero_le h4.2.2.1
    obtain ⟨s, hs⟩ : ∃ s, s = fixS (N : Int) (m : Int) := ⟨_, rfl⟩
    have hsz : s.size = m := by rw [hs, fixS_yes h4]; simp [fixN_size]
    have ht := fix_test_yes (s := s) (by omega)
    rw [← hs]
    have m1 : 1 ≤ m := by omega
    have m7 : m ≤ 7 := by omega
    have mo : off + m ≤ n := by omega
    have H4 := hide h4
    have HK := hide p1
    clear hs hsz p1 p2 p3 p4 p5 h4
    go_wp2_with fail
    refine (l3Store_any A' n c' zs F off m N _ HO3.out p6 m1 m7 mo hv).mono ?_
    rintro e w4 ⟨rfl, ho, htc⟩
    have HO4 := hide ho
    have HB4 := hide (Below.touch HB3.out htc HF.out HB3.out.size)
    clear ho htc
    go_wp2
    go_ret2
    exact ⟨A', c', F, retSl HX.out.symm, by unfold storeR; rw [HX.out]; simpa using HO4.out, HF.out, HB4.out⟩
  · have HX : Hid (okS zs x y v = false) := hide (by unfold okS; rw [decide_eq_false h4]; simp)
    rw [fixS_no h4]
    clear h4
    go_wp2
    go_ret2
    exact ⟨A', c', F, retSl HX.out.symm, by unfold storeR; rw [HX.out]; exact HO3.out, HF.out, HB3.out⟩

set_option maxRecDepth 100000 in
set_option maxHeartbeats 1600000 in
theorem implStore_any (a : Addr) (n c : Nat) (zs : List Int) (x y v : Int) (w : World) (hn : n = zs.length) (hz : n ≤ 2097152) (hc : n ≤ c) (hcm : c ≤ maxLen) (ha : RdB .i64 w (some a) zs w.heap.size) (hv0 : -9223372036854775808 ≤ v) (hv : v ≤ 9223372036854775807) :
    Calls Try.prog 6 #[.slice (some a) n c, .int .i64 x, .int .i64 y, .int .i64 v] w fun e w' => SlRes w w' e n (storeR zs x y v) (okS zs x y v) := by
  have HN := hide hn
  have HA := hide ha
  have HC := hide (clone_any a n c zs w hn hz ha)
  clear hn ha
  go_enter Try.func6, Try.ntmps6
  go_wp2_with fail
  refine HC.out.mono ?_
  rintro e w1 ⟨A', c', F, rfl, ho, hF, hb⟩
  have HO := hide ho
  have HF := hide hF
  have HB := hide hb
  clear ho hF hb HC
  go_wp2_with fail
  refine (implFixed_any v y _ hv0 hv).mono ?_
  rintro e w2 ⟨rfl, hb⟩
  have HO2 := hide (HO.out.below hb)
  have HB2 := hide (HB.out.trans (hb.mono HB.out.size))
  clear hb HO HB
  obtain ⟨s, hs⟩ : ∃ s, s = fixS v y := ⟨_, rfl⟩
  rw [← hs]
  have HS := hide hs
  clear hs
  go_wp2_with fail
  refine (implLoad_any (some a) n c zs x y w.heap.size w2 HN.out hz hc hcm (HA.out.below HB2.out (Nat.le_refl _)) HB2.out.size).mono ?_
  rintro e w3 ⟨rfl, hb⟩
  have HO3 := hide (HO2.out.below hb)
  have HB3 := hide (HB2.out.trans (hb.mono HB2.out.size))
  clear hb HO2 HB2
  generalize loadR zs x y = ld
  cases h1 : okL zs x y
  · have HX : Hid (okS zs x y v = false) := hide (by unfold okS; rw [h1]; rfl)
    clear h1
    go_wp2
    go_ret2
    exact ⟨A', c', F, retSl HX.out.symm, by unfold storeR; rw [HX.out]; exact HO3.out, HF.out, HB3.out⟩
  have HL := hide h1
  clear h1
  by_cases h4 : fixOk v y
  · have HX : Hid (okS zs x y v = true) := hide (by unfold okS; rw [HL.out, decide_eq_true h4]; rfl)
    obtain ⟨p1, p2, p3, p4, p5, p6⟩ := okL_parts HN.out HL.out
    obtain ⟨m, rfl⟩ := Int.eq_ofNat_of_zero_le (show 0 ≤ y by omega)
    obtain ⟨off, rfl⟩ := Int.eq_ofNat_of_zero_le p4
    obtain ⟨N, rfl⟩ := Int.eq_ofNat_of_zero_le h4.2.2.1
    have hsz : s.size = m := by rw [HS.out, fixS_yes h4]; simp [fixN_size]
    have hsf : s = ⟨(fixN m N).toArray⟩ := by rw [HS.out, fixS_yes h4]; simp
    have ht := fix_test_yes (s := s) (by omega)
    have HSF := hide hsf
    have HSZ := hide hsz
    have HK := hide p1
    clear hsz hsf p1 h4
    go_wp2_with fail
    refine (putNum_any A' n c' zs F off s _ HO3.out p6 (by have := HSZ.out; omega) (by have := HSZ.out; omega)).mono ?_
    rintro e w4 ⟨rfl, ho, htc⟩
    rw [HSZ.out, HSF.out, put_fix] at ho
    have HO4 := hide ho
    have HB4 := hide (Below.touch HB3.out htc HF.out HB3.out.size)
    clear ho htc
    go_wp2
    go_ret2
    exact ⟨A', c', F, retSl HX.out.symm, by unfold storeR; rw [HX.out]; simpa using HO4.out, HF.out, HB4.out⟩
  · have HX : Hid (okS zs x y v = false) := hide (by unfold okS; rw [decide_eq_false h4]; simp)
    have hs : s = ⟨#[]⟩ := by rw [HS.out, fixS_no h4]
    rw [hs]
    clear hs h4
    go_wp2
    go_ret2
    exact ⟨A', c', F, retSl HX.out.symm, by unfold storeR; rw [HX.out]; exact HO3.out, HF.out, HB3.out⟩

end Go.Proofs.Ytdhocncfpapncaa
