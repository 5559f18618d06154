/-
  ClassAt: the class of a slot's page, where the slot lies in it. The contracts and the walk of FnExactClassAt.
-/
import Derived.Test.YtdhocncfpapncacShape
import Derived.Test.YtdhocncfpapncacClass
import Derived.BigQuiet
import Derived.OpenShut
namespace Go.Proofs.Ytdhocncfpapncac
open Go.RowKit
set_option linter.unusedVariables false

def pgR (i : Int) : Int := if 0 ≤ i ∧ i ≤ 23 then i / 4 else -1
def ixR (i : Int) : Int := if 0 ≤ i ∧ i ≤ 23 then i % 4 else -1
/-- The class of slot i's page, or -1. -/
def clR (y : List Int) (i : Int) : Int := if 0 ≤ i ∧ i ≤ 23 ∧ i % 4 < perC (y.getD (i / 4).toNat 0) then y.getD (i / 4).toNat 0 else -1
def classAtR (x y : List Int) (i : Int) : Int := if shapeR x y then clR y i else -1

theorem specPageOf_any (i : Int) (w : World) : Calls Try.prog 14 #[.int .i64 i] w fun e w' => e = .returned (.int .i64 (pgR i)) ∧ w = w' := by
  by_cases h : 0 ≤ i ∧ i ≤ 23
  · have HT : Hid (pgR i = i / 4) := hide (by unfold pgR; rw [if_pos h])
    have H := hide h
    have h1 : 0 ≤ i := h.1
    have h2 : i ≤ 23 := h.2
    clear h
    obtain ⟨n, rfl⟩ := Int.eq_ofNat_of_zero_le h1
    go_enter Try.func14, Try.ntmps14
    go_wp2_with fail
    refine (l1In_yes _ _ _ _ H.out.1 H.out.2).mono ?_
    rintro e w1 ⟨rfl, rfl⟩
    go_wp2
    go_ret
    exact ⟨retI (by rw [HT.out]; first | done | rfl | (simp <;> omega)), rfl⟩
  · have HT : Hid (pgR i = -1) := hide (by unfold pgR; rw [if_neg h])
    have H := hide h
    clear h
    go_enter Try.func14, Try.ntmps14
    go_wp2_with fail
    refine (l1In_no _ _ _ _ H.out).mono ?_
    rintro e w1 ⟨rfl, rfl⟩
    go_wp2
    go_ret
    exact ⟨retI HT.out.symm, rfl⟩

theorem specIndexOf_any (i : Int) (w : World) : Calls Try.prog 57 #[.int .i64 i] w fun e w' => e = .returned (.int .i64 (ixR i)) ∧ w = w' := by
  by_cases h : 0 ≤ i ∧ i ≤ 23
  · have HT : Hid (ixR i = i % 4) := hide (by unfold ixR; rw [if_pos h])
    have H := hide h
    have h1 : 0 ≤ i := h.1
    have h2 : i ≤ 23 := h.2
    clear h
    obtain ⟨n, rfl⟩ := Int.eq_ofNat_of_zero_le h1
    go_enter Try.func57, Try.ntmps57
    go_wp2_with fail
    refine (l1In_yes _ _ _ _ H.out.1 H.out.2).mono ?_
    rintro e w1 ⟨rfl, rfl⟩
    go_wp2
    go_ret
    exact ⟨retI (by rw [HT.out]; first | done | rfl | (simp <;> omega)), rfl⟩
  · have HT : Hid (ixR i = -1) := hide (by unfold ixR; rw [if_neg h])
    have H := hide h
    clear h
    go_enter Try.func57, Try.ntmps57
    go_wp2_with fail
    refine (l1In_no _ _ _ _ H.out).mono ?_
    rintro e w1 ⟨rfl, rfl⟩
    go_wp2
    go_ret
    exact ⟨retI HT.out.symm, rfl⟩

theorem specIndexOf_as {i r : Int} (h : ixR i = r) (w : World) : Calls Try.prog 57 #[.int .i64 i] w fun e w' => e = .returned (.int .i64 r) ∧ w' = w := (specIndexOf_any i w).mono fun e w' k => ⟨by rw [k.1, h], k.2.symm⟩
theorem specPerPage_as (c : Int) (w : World) : Calls Try.prog 10 #[.int .i64 c] w fun e w' => e = .returned (.int .i64 (perC c)) ∧ w' = w := (specPerPage_any c w).mono fun e w' k => ⟨k.1, k.2.symm⟩
theorem isSlot_any (i : Int) (w : World) : Calls Try.prog 47 #[.int .i64 i] w fun e w' => e = .returned (.bool (decide (0 ≤ i ∧ i ≤ 23))) ∧ w = w' := by
  by_cases h : 0 ≤ i ∧ i ≤ 23
  · have HT := hide (decide_eq_true h)
    have H := hide h
    clear h
    go_enter Try.func47, Try.ntmps47
    go_wp2_with fail
    refine (within_yes _ _ _ _ H.out.1 H.out.2).mono ?_
    rintro e w1 ⟨rfl, rfl⟩
    go_wp2
    go_ret
    exact ⟨retB HT.out.symm, rfl⟩
  · have HT := hide (decide_eq_false h)
    have H := hide h
    clear h
    go_enter Try.func47, Try.ntmps47
    go_wp2_with fail
    refine (within_no _ _ _ _ H.out).mono ?_
    rintro e w1 ⟨rfl, rfl⟩
    go_wp2
    go_ret
    exact ⟨retB HT.out.symm, rfl⟩

set_option maxRecDepth 100000 in
set_option maxHeartbeats 3200000 in
theorem specClass_any (A A' : Option Addr) (n c c' : Nat) (y : List Int) (i : Int) (w : World) (hn' : 6 = y.length) (ha' : RdB .i64 w A' y w.heap.size) :
    Calls Try.prog 38 #[.agg #[.slice A n c, .slice A' 6 c'], .int .i64 i] w fun e w' => e = .returned (.int .i64 (clR y i)) ∧ Below w.heap.size w w' := by
  have hb0 : Below w.heap.size w (w.alloc (.cells #[.slice A n c, .slice A' 6 c'] 26)) := (Below.refl _ _).alloc (Nat.le_refl _) _
  have HB := hide hb0
  have HA := hide (ha'.below hb0 (Nat.le_refl _))
  have HN := hide hn'
  clear hb0 ha' hn'
  by_cases h : 0 ≤ i ∧ i ≤ 23
  · have HPG : Hid (pgR i = i / 4) := hide (by unfold pgR; rw [if_pos h])
    have HIX : Hid (ixR i = i % 4) := hide (by unfold ixR; rw [if_pos h])
    obtain ⟨p, hp⟩ : ∃ p : Nat, i / 4 = p := ⟨(i / 4).toNat, by omega⟩
    have hp6 : p < 6 := by omega
    obtain ⟨b, off, rfl, hb, hc⟩ := HA.out p (by have := HN.out; omega)
    obtain ⟨v, hv⟩ : ∃ v, v = y.getD p 0 := ⟨_, rfl⟩
    have HCL : Hid (clR y i = if i % 4 < perC v then v else -1) := hide (by
      unfold clR
      rw [show (i / 4).toNat = p by omega, ← hv]
      by_cases e : i % 4 < perC v
      · rw [if_pos ⟨h.1, h.2, e⟩, if_pos e]
      · rw [if_neg (fun h' => e h'.2.2), if_neg e])
    rw [← hv] at hc
    have hpb := perC_bd v
    have hr : 0 ≤ i % 4 ∧ i % 4 ≤ 3 := by omega
    have HP : Hid (i / 4 = p) := hide hp
    have q1 : (p : Int) < 6 := by omega
    have HV := hide hv
    have HH := hide h
    obtain ⟨r, hrr⟩ : ∃ r, r = i % 4 := ⟨_, rfl⟩
    rw [← hrr] at HIX HCL hr
    obtain ⟨r0, r3⟩ := hr
    obtain ⟨pb0, pb4⟩ := hpb
    have HRR := hide hrr
    clear hp hv h hrr
    go_enter Try.func38, Try.ntmps38
    go_wp2_with fail
    refine (specPageOf_any _ _).mono ?_
    rintro e w1 ⟨rfl, rfl⟩
    rw [HPG.out, HP.out]
    have p0 : ¬ (p : Int) < 0 := by omega
    have dp0 : decide ((p : Int) < 0) = false := by simp
    have p1 : (0 : Int) ≤ (p : Int) := by omega
    by_cases hv0 : v < 0
    · have dv : decide (v < 0) = true := by simpa using hv0
      have HX : Hid (clR y i = -1) := hide (by rw [HCL.out, if_neg (by rw [perC_out (.inl hv0)]; omega)])
      go_wp2_with fail
      go_quiet (fail)
      go_wp2
      go_ret
      exact ⟨retI HX.out.symm, HB.out.trans ⟨rfl, rfl, rfl, Nat.le_refl _, fun _ _ => rfl⟩⟩
    · have dv : decide (v < 0) = false := by simpa using hv0
      by_cases hrp : r < perC v
      · have dr : decide (perC v ≤ r) = false := by simpa using hrp
        have nr : ¬ perC v ≤ r := by omega
        have HX : Hid (clR y i = v) := hide (by rw [HCL.out, if_pos hrp])
        have HR : Hid (ixR i = r) := HIX
        go_wp2_with fail
        go_quiet (first | (go_at_call 57; exact Calls.quiet_of_same (specIndexOf_as HIX.out _)) | (go_at_call 10; exact Calls.quiet_of_same (specPerPage_as _ _)))
        go_wp2
        go_ret
        exact ⟨retI HX.out.symm, HB.out.trans ⟨rfl, rfl, rfl, Nat.le_refl _, fun _ _ => rfl⟩⟩
      · have dr : decide (perC v ≤ r) = true := by simpa using hrp
        have nr : perC v ≤ r := by omega
        have HX : Hid (clR y i = -1) := hide (by rw [HCL.out, if_neg hrp])
        go_wp2_with fail
        go_quiet (first | (go_at_call 57; exact Calls.quiet_of_same (specIndexOf_as HIX.out _)) | (go_at_call 10; exact Calls.quiet_of_same (specPerPage_as _ _)))
        go_wp2
        go_ret
        exact ⟨retI HX.out.symm, HB.out.trans ⟨rfl, rfl, rfl, Nat.le_refl _, fun _ _ => rfl⟩⟩
  · have HPG : Hid (pgR i = -1) := hide (by unfold pgR; rw [if_neg h])
    have HX : Hid (clR y i = -1) := hide (by unfold clR; rw [if_neg (fun h' => h ⟨h'.1, h'.2.1⟩)])
    clear h
    go_enter Try.func38, Try.ntmps38
    go_wp2_with fail
    refine (specPageOf_any _ _).mono ?_
    rintro e w1 ⟨rfl, rfl⟩
    rw [HPG.out]
    go_wp2_with fail
    go_quiet (fail)
    go_wp2
    go_ret
    exact ⟨retI HX.out.symm, HB.out.trans ⟨rfl, rfl, rfl, Nat.le_refl _, fun _ _ => rfl⟩⟩

set_option maxRecDepth 100000 in
set_option maxHeartbeats 3200000 in
theorem implClass_any (A A' : Option Addr) (n c c' : Nat) (y : List Int) (i : Int) (w : World) (hn' : 6 = y.length) (ha' : RdB .i64 w A' y w.heap.size) :
    Calls Try.prog 37 #[.agg #[.slice A n c, .slice A' 6 c'], .int .i64 i] w fun e w' => e = .returned (.int .i64 (clR y i)) ∧ Below w.heap.size w w' := by
  have hb0 : Below w.heap.size w (w.alloc (.cells #[.slice A n c, .slice A' 6 c'] 26)) := (Below.refl _ _).alloc (Nat.le_refl _) _
  have HB := hide hb0
  have HA := hide (ha'.below hb0 (Nat.le_refl _))
  have HN := hide hn'
  clear hb0 ha' hn'
  by_cases h : 0 ≤ i ∧ i ≤ 23
  · obtain ⟨k, rfl⟩ := Int.eq_ofNat_of_zero_le h.1
    have hk : k ≤ 23 := by omega
    have HS : Hid (decide (0 ≤ (k : Int) ∧ (k : Int) ≤ 23) = true) := hide (decide_eq_true h)
    obtain ⟨p, hp⟩ : ∃ p : Nat, p = k / 4 := ⟨_, rfl⟩
    have hp6 : p < 6 := by omega
    obtain ⟨b, off, rfl, hb, hc⟩ := HA.out p (by have := HN.out; omega)
    obtain ⟨v, hv⟩ : ∃ v, v = y.getD p 0 := ⟨_, rfl⟩
    have HCL : Hid (clR y k = if (k : Int) % 4 < perC v then v else -1) := hide (by
      unfold clR
      rw [show ((k : Int) / 4).toNat = p by omega, ← hv]
      by_cases e : (k : Int) % 4 < perC v
      · rw [if_pos ⟨h.1, h.2, e⟩, if_pos e]
      · rw [if_neg (fun h' => e h'.2.2), if_neg e])
    rw [← hv] at hc
    have q0 : (k : Int) ≤ 23 := by omega
    have q1 : (k : Int) / 4 < 6 := by omega
    have q2 : (0 : Int) ≤ (k : Int) / 4 := by omega
    have hc1 : (w.alloc (.cells #[.slice A n c, .slice (some ⟨b, off, none⟩) 6 c'] 26)).cell? ⟨b, off + k / 4, none⟩ = some (.int .i64 v) := by rw [← hp]; exact hc
    have HV := hide hv
    clear hp hv h hc
    go_enter Try.func37, Try.ntmps37
    go_wp2_with fail
    refine (isSlot_any _ _).mono ?_
    rintro e w1 ⟨rfl, rfl⟩
    rw [HS.out]
    go_wp2_with fail
    refine (implGenAt_any _ _ _).mono ?_
    rintro e w1 ⟨rfl, rfl⟩
    have hg := genAtC_bd (k : Int) v
    by_cases hrp : (k : Int) % 4 < perC v
    · have HX : Hid (clR y k = v) := hide (by rw [HCL.out, if_pos hrp])
      have g0 : ¬ genAtC (k : Int) v < 0 := by omega
      have d0 : decide (genAtC (k : Int) v < 0) = false := by simpa using g0
      clear hg hrp
      go_wp2
      go_ret
      exact ⟨retI HX.out.symm, HB.out⟩
    · have HX : Hid (clR y k = -1) := hide (by rw [HCL.out, if_neg hrp])
      have g0 : genAtC (k : Int) v < 0 := by omega
      have d0 : decide (genAtC (k : Int) v < 0) = true := by simpa using g0
      clear hg hrp
      go_wp2
      go_ret
      exact ⟨retI HX.out.symm, HB.out⟩
  · have HS : Hid (decide (0 ≤ i ∧ i ≤ 23) = false) := hide (decide_eq_false h)
    have HX : Hid (clR y i = -1) := hide (by unfold clR; rw [if_neg (fun h' => h ⟨h'.1, h'.2.1⟩)])
    clear h
    go_enter Try.func37, Try.ntmps37
    go_wp2_with fail
    refine (isSlot_any _ _).mono ?_
    rintro e w1 ⟨rfl, rfl⟩
    rw [HS.out]
    go_wp2
    go_ret
    exact ⟨retI HX.out.symm, HB.out⟩

set_option maxRecDepth 100000 in
set_option maxHeartbeats 1600000 in
theorem specClassAt_any (A A' : Option Addr) (n c n' c' : Nat) (x y : List Int) (i : Int) (w : World) (hn : n = x.length) (hn' : n' = y.length) (hz : n ≤ 1048576) (hz' : n' ≤ 1048576) (ha : RdB .i64 w A x w.heap.size) (ha' : RdB .i64 w A' y w.heap.size) :
    Calls Try.prog 17 #[.agg #[.slice A n c, .slice A' n' c'], .int .i64 i] w fun e w' => e = .returned (.int .i64 (classAtR x y i)) ∧ Below w.heap.size w w' := by
  have hb0 : Below w.heap.size w (w.alloc (.cells #[.slice A n c, .slice A' n' c'] 26)) := (Below.refl _ _).alloc (Nat.le_refl _) _
  have HB := hide hb0
  have HN := hide hn
  have HN' := hide hn'
  have HA := hide ((ha.below hb0 (Nat.le_refl _)).more hb0.size)
  have HA' := hide ((ha'.below hb0 (Nat.le_refl _)).more hb0.size)
  clear hn hn' ha ha' hb0
  go_enter Try.func17, Try.ntmps17
  go_wp2_with fail
  refine (specShape_any _ _ _ _ _ _ x y _ HN.out HN'.out hz hz' HA.out HA'.out).mono ?_
  rintro e w1 ⟨rfl, hb⟩
  have k0 : w1.cell? ⟨w.heap.size, 0, none⟩ = some (.slice A n c) := by rw [hb.cell (by simp <;> omega)]; go_simp
  have k1 : w1.cell? ⟨w.heap.size, 1, none⟩ = some (.slice A' n' c') := by rw [hb.cell (by simp <;> omega)]; go_simp
  have HA1 := hide ((HA'.out.below hb (Nat.le_refl _)).more hb.size)
  have HB1 := hide (HB.out.trans (hb.mono HB.out.size))
  clear hb
  cases h : shapeR x y
  · have HX : Hid (classAtR x y i = -1) := hide (by unfold classAtR; rw [h]; rfl)
    clear h
    go_wp2
    go_ret
    exact ⟨retI HX.out.symm, HB1.out⟩
  have HX : Hid (classAtR x y i = clR y i) := hide (by unfold classAtR; rw [h]; rfl)
  have h6 : n' = 6 := by
    unfold shapeR at h
    simp only [Bool.and_eq_true, decide_eq_true_eq] at h
    have := HN'.out
    omega
  subst h6
  clear h
  go_wp2_with fail
  refine (specClass_any _ _ _ _ _ y i _ HN'.out HA1.out).mono ?_
  rintro e w2 ⟨rfl, hb⟩
  have HB2 := hide (HB1.out.trans (hb.mono HB1.out.size))
  clear hb
  go_wp2
  go_ret
  exact ⟨retI HX.out.symm, HB2.out⟩

set_option maxRecDepth 100000 in
set_option maxHeartbeats 1600000 in
theorem implClassAt_any (A A' : Option Addr) (n c n' c' : Nat) (x y : List Int) (i : Int) (w : World) (hn : n = x.length) (hn' : n' = y.length) (hz : n ≤ 1048576) (hz' : n' ≤ 1048576) (ha : RdB .i64 w A x w.heap.size) (ha' : RdB .i64 w A' y w.heap.size) :
    Calls Try.prog 15 #[.agg #[.slice A n c, .slice A' n' c'], .int .i64 i] w fun e w' => e = .returned (.int .i64 (classAtR x y i)) ∧ Below w.heap.size w w' := by
  have hb0 : Below w.heap.size w (w.alloc (.cells #[.slice A n c, .slice A' n' c'] 26)) := (Below.refl _ _).alloc (Nat.le_refl _) _
  have HB := hide hb0
  have HN := hide hn
  have HN' := hide hn'
  have HA := hide ((ha.below hb0 (Nat.le_refl _)).more hb0.size)
  have HA' := hide ((ha'.below hb0 (Nat.le_refl _)).more hb0.size)
  clear hn hn' ha ha' hb0
  go_enter Try.func15, Try.ntmps15
  go_wp2_with fail
  refine (implShape_any _ _ _ _ _ _ x y _ HN.out HN'.out hz hz' HA.out HA'.out).mono ?_
  rintro e w1 ⟨rfl, hb⟩
  have k0 : w1.cell? ⟨w.heap.size, 0, none⟩ = some (.slice A n c) := by rw [hb.cell (by simp <;> omega)]; go_simp
  have k1 : w1.cell? ⟨w.heap.size, 1, none⟩ = some (.slice A' n' c') := by rw [hb.cell (by simp <;> omega)]; go_simp
  have HA1 := hide ((HA'.out.below hb (Nat.le_refl _)).more hb.size)
  have HB1 := hide (HB.out.trans (hb.mono HB.out.size))
  clear hb
  cases h : shapeR x y
  · have HX : Hid (classAtR x y i = -1) := hide (by unfold classAtR; rw [h]; rfl)
    clear h
    go_wp2
    go_ret
    exact ⟨retI HX.out.symm, HB1.out⟩
  have HX : Hid (classAtR x y i = clR y i) := hide (by unfold classAtR; rw [h]; rfl)
  have h6 : n' = 6 := by
    unfold shapeR at h
    simp only [Bool.and_eq_true, decide_eq_true_eq] at h
    have := HN'.out
    omega
  subst h6
  clear h
  go_wp2_with fail
  refine (implClass_any _ _ _ _ _ y i _ HN'.out HA1.out).mono ?_
  rintro e w2 ⟨rfl, hb⟩
  have HB2 := hide (HB1.out.trans (hb.mono HB1.out.size))
  clear hb
  go_wp2
  go_ret
  exact ⟨retI HX.out.symm, HB2.out⟩

end Go.Proofs.Ytdhocncfpapncac
