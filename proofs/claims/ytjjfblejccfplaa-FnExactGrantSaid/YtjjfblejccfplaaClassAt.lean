/-
  ClassAt: the class of a slot's page, where the slot lies in it. The contracts and the walk of FnExactClassAt.
-/
import Derived.Test.YtjjfblejccfplaaShape
import Derived.Test.YtjjfblejccfplaaClass
import Derived.BigQuiet
import Derived.OpenShut
namespace Go.Proofs.Ytjjfblejccfplaa
open Go.RowKit
set_option linter.unusedVariables false

def pgR (i : Int) : Int := if 0 ≤ i ∧ i ≤ 23 then i / 4 else -1
def ixR (i : Int) : Int := if 0 ≤ i ∧ i ≤ 23 then i % 4 else -1
/-- The class of slot i's page, or -1. -/
def clR (y : List Int) (i : Int) : Int := if 0 ≤ i ∧ i ≤ 23 ∧ i % 4 < perC (y.getD (i / 4).toNat 0) then y.getD (i / 4).toNat 0 else -1
def classAtR (x y : List Int) (i : Int) : Int := if shapeR x y then clR y i else -1

theorem specPageOf_any (i : Int) (w : World) : Calls Try.prog 67 #[.int .i64 i] w fun e w' => e = .returned (.int .i64 (pgR i)) ∧ w = w' := by
  by_cases h : 0 ≤ i ∧ i ≤ 23
  · have HT : Hid (pgR i = i / 4) := hide (by unfold pgR; rw [if_pos h])
    have H := hide h
    have h1 : 0 ≤ i := h.1
    have h2 : i ≤ 23 := h.2
    clear h
    obtain ⟨n, rfl⟩ := Int.eq_ofNat_of_zero_le h1
    go_enter Try.func67, Try.ntmps67
    go_wp2_with fail
    refine (l1In_yes _ _ _ _ H.out.1 H.out.2).mono ?_
    rintro e w1 ⟨rfl, rfl⟩
    go_wp2
    go_ret
    exact ⟨retI (by rw [HT.out]; first | done | rfl | (simp <;> omega)), rfl⟩
  · have HT : Hid (pgR i = -1) := hide (by unfold pgR; rw [if_neg h])
    have H := hide h
    clear h
    go_enter Try.func67, Try.ntmps67
    go_wp2_with fail
    refine (l1In_no _ _ _ _ H.out).mono ?_
    rintro e w1 ⟨rfl, rfl⟩
    go_wp2
    go_ret
    exact ⟨retI HT.out.symm, rfl⟩

theorem specIndexOf_any (i : Int) (w : World) : Calls Try.prog 68 #[.int .i64 i] w fun e w' => e = .returned (.int .i64 (ixR i)) ∧ w = w' := by
  by_cases h : 0 ≤ i ∧ i ≤ 23
  · have HT : Hid (ixR i = i % 4) := hide (by unfold ixR; rw [if_pos h])
    have H := hide h
    have h1 : 0 ≤ i := h.1
    have h2 : i ≤ 23 := h.2
    clear h
    obtain ⟨n, rfl⟩ := Int.eq_ofNat_of_zero_le h1
    go_enter Try.func68, Try.ntmps68
    go_wp2_with fail
    refine (l1In_yes _ _ _ _ H.out.1 H.out.2).mono ?_
    rintro e w1 ⟨rfl, rfl⟩
    go_wp2
    go_ret
    exact ⟨retI (by rw [HT.out]; first | done | rfl | (simp <;> omega)), rfl⟩
  · have HT : Hid (ixR i = -1) := hide (by unfold ixR; rw [if_neg h])
    have H := hide h
    clear h
    go_enter Try.func68, Try.ntmps68
    go_wp2_with fail
    refine (l1In_no _ _ _ _ H.out).mono ?_
    rintro e w1 ⟨rfl, rfl⟩
    go_wp2
    go_ret
    exact ⟨retI HT.out.symm, rfl⟩

theorem specIndexOf_as {i r : Int} (h : ixR i = r) (w : World) : Calls Try.prog 68 #[.int .i64 i] w fun e w' => e = .returned (.int .i64 r) ∧ w' = w := (specIndexOf_any i w).mono fun e w' k => ⟨by rw [k.1, h], k.2.symm⟩
theorem specPerPage_as (c : Int) (w : World) : Calls Try.prog 69 #[.int .i64 c] w fun e w' => e = .returned (.int .i64 (perC c)) ∧ w' = w := (specPerPage_any c w).mono fun e w' k => ⟨k.1, k.2.symm⟩
theorem isSlot_any (i : Int) (w : World) : Calls Try.prog 73 #[.int .i64 i] w fun e w' => e = .returned (.bool (decide (0 ≤ i ∧ i ≤ 23))) ∧ w = w' := by
  by_cases h : 0 ≤ i ∧ i ≤ 23
  · have HT := hide (decide_eq_true h)
    have H := hide h
    clear h
    go_enter Try.func73, Try.ntmps73
    go_wp2_with fail
    refine (within_yes _ _ _ _ H.out.1 H.out.2).mono ?_
    rintro e w1 ⟨rfl, rfl⟩
    go_wp2
    go_ret
    exact ⟨retB HT.out.symm, rfl⟩
  · have HT := hide (decide_eq_false h)
    have H := hide h
    clear h
    go_enter Try.func73, Try.ntmps73
    go_wp2_with fail
    refine (within_no _ _ _ _ H.out).mono ?_
    rintro e w1 ⟨rfl, rfl⟩
    go_wp2
    go_ret
    exact ⟨retB HT.out.symm, rfl⟩

set_option maxRecDepth 100000 in
set_option maxHeartbeats 3200000 in
theorem specClass_any (A A' : Option Addr) (n c c' : Nat) (y : List Int) (i : Int) (w : World) (hn' : 6 = y.length) (ha' : RdB .i64 w A' y w.heap.size) :
    Calls Try.prog 44 #[.agg #[.slice A n c, .slice A' 6 c'], .int .i64 i] w fun e w' => e = .returned (.int .i64 (clR y i)) ∧ Below w.heap.size w w' := by
  have hb0 : Below w.heap.size w (w.alloc (.cells #[.slice A n c, .slice A' 6 c'] 27)) := (Below.refl _ _).alloc (Nat.le_refl _) _
  have HB := hide hb0
  have HA := hide (ha'.below hb0 (Nat.le_refl _))
  have HN := hide hn'
  clear hb0 ha' hn'
  by_cases h : 0 ≤ i ∧ i ≤ 23
  · have HPG : Hid (pgR i = i / 4) := hide (by unfold pgR; rw [if_pos h])
    have HIX : Hid (ixR i = i % 4) := hide (by unfold ixR; rw [if_pos h])
    obtain ⟨p, hp⟩ : ∃ p : Nat, i / 4 = p := ⟨(i / 4).toNat, by omega⟩
    have hp6 : p < 6 := by omega
    obtain ⟨b, off, rfl, hb, hc⟩ := HA.out p (by have := HN.out; omega)
    obtain ⟨v, hv⟩ : ∃ v, v = y.getD p 0 := ⟨_, rfl⟩
    have HCL : Hid (clR y i = if i % 4 < perC v then v else -1) := hide (by
      unfold clR
      rw [show (i / 4).toNat = p by omega, ← hv]
      by_cases e : i % 4 < perC v
      · rw [if_pos ⟨h.1, h.2, e⟩, if_pos e]
      · rw [if_neg (fun h' => e h'.2.2), if_neg e])
    rw [← hv] at hc
    have hpb := perC_bd v
    have hr : 0 ≤ i % 4 ∧ i % 4 ≤ 3 := by omega
    have HP : Hid (i / 4 = p) := hide hp
    have q1 : (p : Int) < 6 := by omega
    have HV := hide hv
    have HH := hide h
    obtain ⟨r, hrr⟩ : ∃ r, r = i % 4 := ⟨_, rfl⟩
    rw [← hrr] at HIX HCL hr
    obtain ⟨r0, r3⟩ := hr
    obtain ⟨pb0, pb4⟩ := hpb
    have HRR := hide hrr
    clear hp hv h hrr
    go_enter Try.func44, Try.ntmps44
    go_wp2_with fail
    refine (specPageOf_any _ _).mono ?_
    rintro e w1 ⟨rfl, rfl⟩
    rw [HPG.out, HP.out]
    have p0 : ¬ (p : Int) < 0 := by omega
    have dp0 : decide ((p : Int) < 0) = false := by simp
    have p1 : (0 : Int) ≤ (p : Int) := by omega
    by_cases hv0 : v < 0
    · have dv : decide (v < 0) = true := by simpa using hv0
      have HX : Hid (clR y i = -1) := hide (by rw [HCL.out, if_neg (by rw [perC_out (.inl hv0)]; omega)])
      go_wp2_with fail
      go_quiet (fail)
      go_wp2
      go_ret
      exact ⟨retI HX.out.symm, HB.out.trans ⟨rfl, rfl, rfl, Nat.le_refl _, fun _ _ => rfl⟩⟩
    · have dv : decide (v < 0) = false := by simpa using hv0
      by_cases hrp : r < perC v
      · have dr : decide (perC v ≤ r) = false := by simpa using hrp
        have nr : ¬ perC v ≤ r := by omega
        have HX : Hid (clR y i = v) := hide (by rw [HCL.out, if_pos hrp])
        have HR : Hid (ixR i = r) := HIX
        go_wp2_with fail
        go_quiet (first | (go_at_call 68; exact Calls.quiet_of_same (specIndexOf_as HIX.out _)) | (go_at_call 69; exact Calls.quiet_of_same (specPerPage_as _ _)))
        go_wp2
        go_ret
        exact ⟨retI HX.out.symm, HB.out.trans ⟨rfl, rfl, rfl, Nat.le_refl _, fun _ _ => rfl⟩⟩
      · have dr : decide (perC v ≤ r) = true := by simpa using hrp
        have nr : perC v ≤ r := by omega
        have HX : Hid (clR y i = -1) := hide (by rw [HCL.out, if_neg hrp])
        go_wp2_with fail
        go_quiet (first | (go_at_call 68; exact Calls.quiet_of_same (specIndexOf_as HIX.out _)) | (go_at_call 69; exact Calls.quiet_of_same (specPerPage_as _ _)))
        go_wp2
        go_ret
        exact ⟨retI HX.out.symm, HB.out.trans ⟨rfl, rfl, rfl, Nat.le_refl _, fun _ _ => rfl⟩⟩
  · have HPG : Hid (pgR i = -1) := hide (by unfold pgR; rw [if_neg h])
    have HX : Hid (clR y i = -1) := hide (by unfold clR; rw [if_neg (fun h' => h ⟨h'.1, h'.2.1⟩)])
    clear h
    go_enter Try.func44, Try.ntmps44
    go_wp2_with fail
    refine (specPageOf_any _ _).mono ?_
    rintro e w1 ⟨rfl, rfl⟩
    rw [HPG.out]
    go_wp2_with fail
    go_quiet (fail)
    go_wp2
    go_ret
    exact ⟨retI HX.out.symm, HB.out.trans ⟨rfl, rfl, rfl, Nat.le_refl _, fun _ _ => rfl⟩⟩

set_option maxRecDepth 100000 in
set_option maxHeartbeats 3200000 in
theorem implClass_any (A A' : Option Addr) (n c c' : Nat) (y : List Int) (i : Int) (w : World) (hn' : 6 = y.length) (ha' : RdB .i64 w A' y w.heap.size) :
    Calls Try.prog 46 #[.agg #[.slice A n c, .slice A' 6 c'], .int .i64 i] w fun e w' => e = .returned (.int .i64 (clR y i)) ∧ Below w.heap.size w w' := by
  have hb0 : Below w.heap.size w (w.alloc (.cells #[.slice A n c, .slice A' 6 c'] 27)) := (Below.refl _ _).alloc (Nat.le_refl _) _
  have HB := hide hb0
  have HA := hide (ha'.below hb0 (Nat.le_refl _))
  have HN := hide hn'
  clear hb0 ha' hn'
  by_cases h : 0 ≤ i ∧ i ≤ 23
  · obtain ⟨k, rfl⟩ := Int.eq_ofNat_of_zero_le h.1
    have hk : k ≤ 23 := by omega
    have HS : Hid (decide (0 ≤ (k : Int) ∧ (k : Int) ≤ 23) = true) := hide (decide_eq_true h)
    obtain ⟨p, hp⟩ : ∃ p : Nat, p = k / 4 := ⟨_, rfl⟩
    have hp6 : p < 6 := by omega
    obtain ⟨b, off, rfl, hb, hc⟩ := HA.out p (by have := HN.out; omega)
    obtain ⟨v, hv⟩ : ∃ v, v = y.getD p 0 := ⟨_, rfl⟩
    have HCL : Hid (clR y k = if (k : Int) % 4 < perC v then v else -1) := hide (by
      unfold clR
      rw [show ((k : Int) / 4).toNat = p by omega, ← hv]
      by_cases e : (k : Int) % 4 < perC v
      · rw [if_pos ⟨h.1, h.2, e⟩, if_pos e]
      · rw [if_neg (fun h' => e h'.2.2), if_neg e])
    rw [← hv] at hc
    have q0 : (k : Int) ≤ 23 := by omega
    have q1 : (k : Int) / 4 < 6 := by omega
    have q2 : (0 : Int) ≤ (k : Int) / 4 := by omega
    have hc1 : (w.alloc (.cells #[.slice A n c, .slice (some ⟨b, off, none⟩) 6 c'] 27)).cell? ⟨b, off + k / 4, none⟩ = some (.int .i64 v) := by rw [← hp]; exact hc
    have HV := hide hv
    clear hp hv h hc
    go_enter Try.func46, Try.ntmps46
    go_wp2_with fail
    refine (isSlot_any _ _).mono ?_
    rintro e w1 ⟨rfl, rfl⟩
    rw [HS.out]
    go_wp2_with fail
    refine (implGenAt_any _ _ _).mono ?_
    rintro e w1 ⟨rfl, rfl⟩
    have hg := genAtC_bd (k : Int) v
    by_cases hrp : (k : Int) % 4 < perC v
    · have HX : Hid (clR y k = v) := hide (by rw [HCL.out, if_pos hrp])
      have g0 : ¬ genAtC (k : Int) v < 0 := by omega
      have d0 : decide (genAtC (k : Int) v < 0) = false := by simpa using g0
      clear hg hrp
      go_wp2
      go_ret
      exact ⟨retI HX.out.symm, HB.out⟩
    · have HX : Hid (clR y k = -1) := hide (by rw [HCL.out, if_neg hrp])
      have g0 : genAtC (k : Int) v < 0 := by omega
      have d0 : decide (genAtC (k : Int) v < 0) = true := by simpa using g0
      clear hg hrp
      go_wp2
      go_ret
      exact ⟨retI HX.out.symm, HB.out⟩
  · have HS : Hid (decide (0 ≤ i ∧ i ≤ 23) = false) := hide (decide_eq_false h)
    have HX : Hid (clR y i = -1) := hide (by unfold clR; rw [if_neg (fun h' => h ⟨h'.1, h'.2.1⟩)])
    clear h
    go_enter Try.func46, Try.ntmps46
    go_wp2_with fail
    refine (isSlot_any _ _).mono ?_
    rintro e w1 ⟨rfl, rfl⟩
    rw [HS.out]
    go_wp2
    go_ret
    exact ⟨retI HX.out.symm, HB.out⟩

set_option maxRecDepth 100000 in
set_option maxHeartbeats 1600000 in
theorem specClassAt_any (A A' : Option Addr) (n c n' c' : Nat) (x y : List Int) (i : Int) (w : World) (hn : n = x.length) (hn' : n' = y.length) (hz : n ≤ 1048576) (hz' : n' ≤ 1048576) (ha : RdB .i64 w A x w.heap.size) (ha' : RdB .i64 w A' y w.heap.size) :
    Calls Try.prog 23 #[.agg #[.slice A n c, .slice A' n' c'], .int .i64 i] w fun e w' => e = .returned (.int .i64 (classAtR x y i)) ∧ Below w.heap.size w w' := by
  have hb0 : Below w.heap.size w (w.alloc (.cells #[.slice A n c, .slice A' n' c'] 27)) := (Below.refl _ _).alloc (Nat.le_refl _) _
  have HB := hide hb0
  have HN := hide hn
  have HN' := hide hn'
  have HA := hide ((ha.below hb0 (Nat.le_refl _)).more hb0.size)
  have HA' := hide ((ha'.below hb0 (Nat.le_refl _)).more hb0.size)
  clear hn hn' ha ha' hb0
  go_enter Try.func23, Try.ntmps23
  go_wp2_with fail
  refine (specShape_any _ _ _ _ _ _ x y _ HN.out HN'.out hz hz' HA.out HA'.out).mono ?_
  rintro e w1 ⟨rfl, hb⟩
  have k0 : w1.cell? ⟨w.heap.size, 0, none⟩ = some (.slice A n c) := by rw [hb.cell (by simp <;> omega)]; go_simp
  have k1 : w1.cell? ⟨w.heap.size, 1, none⟩ = some (.slice A' n' c') := by rw [hb.cell (by simp <;> omega)]; go_simp
  have HA1 := hide ((HA'.out.below hb (Nat.le_refl _)).more hb.size)
  have HB1 := hide (HB.out.trans (hb.mono HB.out.size))
  clear hb
  cases h : shapeR x y
  · have HX : Hid (classAtR x y i = -1) := hide (by unfold classAtR; rw [h]; rfl)
    clear h
    go_wp2
    go_ret
    exact ⟨retI HX.out.symm, HB1.out⟩
  have HX : Hid (classAtR x y i = clR y i) := hide (by unfold classAtR; rw [h]; rfl)
  have h6 : n' = 6 := by
    unfold shapeR at h
    simp only [Bool.and_eq_true, decide_eq_true_eq] at h
    have := HN'.out
    omega
  subst h6
  clear h
  go_wp2_with fail
  refine (specClass_any _ _ _ _ _ y i _ HN'.out HA1.out).mono ?_
  rintro e w2 ⟨rfl, hb⟩
  have HB2 := hide (HB1.out.trans (hb.mono HB1.out.size))
  clear hb
  go_wp2
  go_ret
  exact ⟨retI HX.out.symm, HB2.out⟩

set_option maxRecDepth 100000 in
set_option maxHeartbeats 1600000 in
theorem implClassAt_any (A A' : Option Addr) (n c n' c' : Nat) (x y : List Int) (i : Int) (w : World) (hn : n = x.length) (hn' : n' = y.length) (hz : n ≤ 1048576) (hz' : n' ≤ 1048576) (ha : RdB .i64 w A x w.heap.size) (ha' : RdB .i64 w A' y w.heap.size) :
    Calls Try.prog 24 #[.agg #[.slice A n c, .slice A' n' c'], .int .i64 i] w fun e w' => e = .returned (.int .i64 (classAtR x y i)) ∧ Below w.heap.size w w' := by
  have hb0 : Below w.heap.size w (w.alloc (.cells #[.slice A n c, .slice A' n' c'] 27)) := (Below.refl _ _).alloc (Nat.le_refl _) _
  have HB := hide hb0
  have HN := hide hn
  have HN' := hide hn'
  have HA := hide ((ha.below hb0 (Nat.le_refl _)).more hb0.size)
  have HA' := hide ((ha'.below hb0 (Nat.le_refl _)).more hb0.size)
  clear hn hn' ha ha' hb0
  go_enter Try.func24, Try.ntmps24
  go_wp2_with fail
  refine (implShape_any _ _ _ _ _ _ x y _ HN.out HN'.out hz hz' HA.out HA'.out).mono ?_
  rintro e w1 ⟨rfl, hb⟩
  have k0 : w1.cell? ⟨w.heap.size, 0, none⟩ = some (.slice A n c) := by rw [hb.cell (by simp <;> omega)]; go_simp
  have k1 : w1.cell? ⟨w.heap.size, 1, none⟩ = some (.slice A' n' c') := by rw [hb.cell (by simp <;> omega)]; go_simp
  have HA1 := hide ((HA'.out.below hb (Nat.le_refl _)).more hb.size)
  have HB1 := hide (HB.out.trans (hb.mono HB.out.size))
  clear hb
  cases h : shapeR x y
  · have HX : Hid (classAtR x y i = -1) := hide (by unfold classAtR; rw [h]; rfl)
    clear h
    go_wp2
    go_ret
    exact ⟨retI HX.out.symm, HB1.out⟩
  have HX : Hid (classAtR x y i = clR y i) := hide (by unfold classAtR; rw [h]; rfl)
  have h6 : n' = 6 := by
    unfold shapeR at h
    simp only [Bool.and_eq_true, decide_eq_true_eq] at h
    have := HN'.out
    omega
  subst h6
  clear h
  go_wp2_with fail
  refine (implClass_any _ _ _ _ _ y i _ HN'.out HA1.out).mono ?_
  rintro e w2 ⟨rfl, hb⟩
  have HB2 := hide (HB1.out.trans (hb.mono HB1.out.size))
  clear hb
  go_wp2
  go_ret
  exact ⟨retI HX.out.symm, HB2.out⟩

set_option maxRecDepth 100000 in
set_option maxHeartbeats 3200000 in
theorem fnExactClassAt_walk (v0_0 v0_1 : Value) (a1 : Int) (w : World) (h0 : HeapArg w v0_0 v0_1) (h1 : (Lit.int .i64 a1).wf = true) :
    Calls Try.prog 6 #[.agg #[v0_0, v0_1], .int .i64 a1] w fun e w' => e = .returned (.bool true) ∧ Below w.heap.size w w' := by
  obtain ⟨A0, n0, c0, z0, B0, m0, d0, y0, rfl, rfl, ⟨hn0, hnc0, hc0, hr0, hx0⟩, ⟨hm0, hmd0, hd0, hs0, hy0⟩⟩ := h0
  have Hn0 := hide hn0
  clear hn0
  have Hm0 := hide hm0
  clear hm0
  have Hr0 := hide hr0
  clear hr0
  have Hs0 := hide hs0
  clear hs0
  have Hx0 := hide hx0
  clear hx0
  have Hy0 := hide hy0
  clear hy0
  have hb1 := bounds_i64 h1
  clear h1
  have HB0 := hide (Below.refl w.heap.size w)
  go_enter Try.func6, Try.ntmps6
  go_wp2_with fail
  obtain ⟨w1, hW⟩ : ∃ W : World, W = w.alloc (.cells #[(.slice A0 n0 c0), (.slice B0 m0 d0)] 24) := ⟨_, rfl⟩
  rw [← hW]
  have hb : Below w.heap.size w w1 := by rw [hW]; exact (Below.refl _ _).alloc (Nat.le_refl _) _
  have nb0 : w1.cell? ⟨w.heap.size, 0, none⟩ = some (.slice A0 n0 c0) := by rw [hW]; go_simp
  have nb1 : w1.cell? ⟨w.heap.size, 1, none⟩ = some (.slice B0 m0 d0) := by rw [hW]; go_simp
  have nt : w.heap.size < w1.heap.size := by rw [hW]; simp
  clear hW
  have HB1 := hide (HB0.out.trans (hb.mono HB0.out.size))
  have hs1 : w.heap.size ≤ w1.heap.size := hb.size
  clear hb
  have b0_0_1 := nb0
  have b0_1_1 := nb1
  have t0_1 := nt
  clear nb0 nb1 nt
  by_cases hbig0 : (n0 : Int) + m0 ≤ 1048576
  case neg =>
    refine (szHeap_no A0 B0 n0 c0 m0 d0 (1048576) _ (by omega) (by omega) hnc0 hc0 hmd0 hd0 (by omega)).mono ?_
    rintro e v1 ⟨rfl, hb⟩
    have HV := hide (HB1.out.trans (hb.mono HB1.out.size))
    clear hb
    go_wp2
    go_ret
    exact ⟨rfl, HV.out⟩
  refine (szHeap_yes A0 B0 n0 c0 m0 d0 (1048576) _ (by omega) (by omega) hbig0).mono ?_
  rintro e w2 ⟨rfl, hb⟩
  have HB2 := hide (HB1.out.trans (hb.mono HB1.out.size))
  have hs2 : w1.heap.size ≤ w2.heap.size := hb.size
  have b0_0_2 : w2.cell? ⟨w.heap.size, 0, none⟩ = some (.slice A0 n0 c0) := by rw [hb.cell t0_1]; exact b0_0_1
  have b0_1_2 : w2.cell? ⟨w.heap.size, 1, none⟩ = some (.slice B0 m0 d0) := by rw [hb.cell t0_1]; exact b0_1_1
  have t0_2 : w.heap.size < w2.heap.size := Nat.lt_of_lt_of_le t0_1 hs2
  clear b0_0_1 b0_1_1 t0_1
  clear hb
  have hq0 : ¬ 1048576 - (n0 : Int) - (m0 : Int) < 0 := by omega
  go_wp2_with fail
  refine (toHeap_any A0 B0 n0 c0 m0 d0 z0 y0 _ Hn0.out (by omega) Hm0.out (by omega) ((Hr0.out.below HB2.out (Nat.le_refl _)).more HB2.out.size) ((Hs0.out.below HB2.out (Nat.le_refl _)).more HB2.out.size)).mono ?_
  rintro e w3 ⟨g_a, k_a, rfl, ho, ho', l1_a, l2_a, l3_a, hb⟩
  have HB3 := hide (HB2.out.trans (hb.mono HB2.out.size))
  have hs3 : w2.heap.size ≤ w3.heap.size := hb.size
  have b0_0_3 : w3.cell? ⟨w.heap.size, 0, none⟩ = some (.slice A0 n0 c0) := by rw [hb.cell t0_2]; exact b0_0_2
  have b0_1_3 : w3.cell? ⟨w.heap.size, 1, none⟩ = some (.slice B0 m0 d0) := by rw [hb.cell t0_2]; exact b0_1_2
  have t0_3 : w.heap.size < w3.heap.size := Nat.lt_of_lt_of_le t0_2 hs3
  clear b0_0_2 b0_1_2 t0_2
  clear hb
  have Oa_3 := hide ho
  have Pa_3 := hide ho'
  clear ho ho'
  have La : Hid (∀ g, g ∈ [g_a] ++ [k_a] → w2.heap.size ≤ g ∧ g < w3.heap.size) := hide (by simp <;> omega)
  go_wp2_with fail
  refine (specClassAt_any _ _ _ _ _ _ z0 y0 a1 _ Hn0.out Hm0.out (by omega) (by omega) (Oa_3.out.rd).2 (Pa_3.out.rd).2).mono ?_
  rintro e w4 ⟨rfl, hb⟩
  have HB4 := hide (HB3.out.trans (hb.mono HB3.out.size))
  have hs4 : w3.heap.size ≤ w4.heap.size := hb.size
  have b0_0_4 : w4.cell? ⟨w.heap.size, 0, none⟩ = some (.slice A0 n0 c0) := by rw [hb.cell t0_3]; exact b0_0_3
  have b0_1_4 : w4.cell? ⟨w.heap.size, 1, none⟩ = some (.slice B0 m0 d0) := by rw [hb.cell t0_3]; exact b0_1_3
  have t0_4 : w.heap.size < w4.heap.size := Nat.lt_of_lt_of_le t0_3 hs4
  clear b0_0_3 b0_1_3 t0_3
  have Oa_4 := hide (Oa_3.out.below hb)
  clear Oa_3
  have Pa_4 := hide (Pa_3.out.below hb)
  clear Pa_3
  clear hb
  clear Oa_4 Pa_4
  go_wp2_with fail
  refine (toHeap_any A0 B0 n0 c0 m0 d0 z0 y0 _ Hn0.out (by omega) Hm0.out (by omega) ((Hr0.out.below HB4.out (Nat.le_refl _)).more HB4.out.size) ((Hs0.out.below HB4.out (Nat.le_refl _)).more HB4.out.size)).mono ?_
  rintro e w5 ⟨g_x, k_x, rfl, ho, ho', l1_x, l2_x, l3_x, hb⟩
  have HB5 := hide (HB4.out.trans (hb.mono HB4.out.size))
  have hs5 : w4.heap.size ≤ w5.heap.size := hb.size
  have b0_0_5 : w5.cell? ⟨w.heap.size, 0, none⟩ = some (.slice A0 n0 c0) := by rw [hb.cell t0_4]; exact b0_0_4
  have b0_1_5 : w5.cell? ⟨w.heap.size, 1, none⟩ = some (.slice B0 m0 d0) := by rw [hb.cell t0_4]; exact b0_1_4
  have t0_5 : w.heap.size < w5.heap.size := Nat.lt_of_lt_of_le t0_4 hs5
  clear b0_0_4 b0_1_4 t0_4
  clear hb
  have Ox_5 := hide ho
  have Px_5 := hide ho'
  clear ho ho'
  have Lx : Hid (∀ g, g ∈ [g_x] ++ [k_x] → w4.heap.size ≤ g ∧ g < w5.heap.size) := hide (by simp <;> omega)
  go_wp2_with fail
  obtain ⟨w6, hW⟩ : ∃ W : World, W = w5.alloc (.cells #[(.slice (some ⟨g_x, 0, none⟩) n0 n0), (.slice (some ⟨k_x, 0, none⟩) m0 m0)] 27) := ⟨_, rfl⟩
  rw [← hW]
  have hb : Below w5.heap.size w5 w6 := by rw [hW]; exact (Below.refl _ _).alloc (Nat.le_refl _) _
  have nb0 : w6.cell? ⟨w5.heap.size, 0, none⟩ = some (.slice (some ⟨g_x, 0, none⟩) n0 n0) := by rw [hW]; go_simp
  have nb1 : w6.cell? ⟨w5.heap.size, 1, none⟩ = some (.slice (some ⟨k_x, 0, none⟩) m0 m0) := by rw [hW]; go_simp
  have nt : w5.heap.size < w6.heap.size := by rw [hW]; simp
  clear hW
  have HB6 := hide (HB5.out.trans (hb.mono HB5.out.size))
  have hs6 : w5.heap.size ≤ w6.heap.size := hb.size
  have b0_0_6 : w6.cell? ⟨w.heap.size, 0, none⟩ = some (.slice A0 n0 c0) := by rw [hb.cell t0_5]; exact b0_0_5
  have b0_1_6 : w6.cell? ⟨w.heap.size, 1, none⟩ = some (.slice B0 m0 d0) := by rw [hb.cell t0_5]; exact b0_1_5
  have t0_6 : w.heap.size < w6.heap.size := Nat.lt_of_lt_of_le t0_5 hs6
  clear b0_0_5 b0_1_5 t0_5
  have Ox_6 := hide (Ox_5.out.below hb)
  clear Ox_5
  have Px_6 := hide (Px_5.out.below hb)
  clear Px_5
  clear hb
  have bx_0_6 := nb0
  have bx_1_6 := nb1
  have tx_6 := nt
  clear nb0 nb1 nt
  refine (implClassAt_any _ _ _ _ _ _ z0 y0 a1 _ Hn0.out Hm0.out (by omega) (by omega) (Ox_6.out.rd).2 (Px_6.out.rd).2).mono ?_
  rintro e w7 ⟨rfl, hb⟩
  have HB7 := hide (HB6.out.trans (hb.mono HB6.out.size))
  have hs7 : w6.heap.size ≤ w7.heap.size := hb.size
  have b0_0_7 : w7.cell? ⟨w.heap.size, 0, none⟩ = some (.slice A0 n0 c0) := by rw [hb.cell t0_6]; exact b0_0_6
  have b0_1_7 : w7.cell? ⟨w.heap.size, 1, none⟩ = some (.slice B0 m0 d0) := by rw [hb.cell t0_6]; exact b0_1_6
  have t0_7 : w.heap.size < w7.heap.size := Nat.lt_of_lt_of_le t0_6 hs7
  clear b0_0_6 b0_1_6 t0_6
  have bx_0_7 : w7.cell? ⟨w5.heap.size, 0, none⟩ = some (.slice (some ⟨g_x, 0, none⟩) n0 n0) := by rw [hb.cell tx_6]; exact bx_0_6
  have bx_1_7 : w7.cell? ⟨w5.heap.size, 1, none⟩ = some (.slice (some ⟨k_x, 0, none⟩) m0 m0) := by rw [hb.cell tx_6]; exact bx_1_6
  have tx_7 : w5.heap.size < w7.heap.size := Nat.lt_of_lt_of_le tx_6 hs7
  clear bx_0_6 bx_1_6 tx_6
  have Ox_7 := hide (Ox_6.out.below hb)
  clear Ox_6
  have Px_7 := hide (Px_6.out.below hb)
  clear Px_6
  clear hb
  go_wp2_with fail
  go_region_held3 (fun w' => (w'.cell? ⟨w5.heap.size, 0, none⟩ = some (.slice (some ⟨g_x, 0, none⟩) n0 n0) ∧ w'.cell? ⟨w5.heap.size, 1, none⟩ = some (.slice (some ⟨k_x, 0, none⟩) m0 m0) ∧ w'.cell? ⟨w.heap.size, 0, none⟩ = some (.slice A0 n0 c0) ∧ w'.cell? ⟨w.heap.size, 1, none⟩ = some (.slice B0 m0 d0)) ∧ Below w7.heap.size w7 w')
    (first | (exact keep22 tx_7 tx_7 t0_7 t0_7 (by assumption) (by assumption)) | (exact ⟨⟨bx_0_7, bx_1_7, b0_0_7, b0_1_7⟩, (Below.refl _ _).drew⟩))
    (first
      | (go_at_call 14; refine (toHeap_any A0 B0 n0 c0 m0 d0 z0 y0 _ Hn0.out (by omega) Hm0.out (by omega) (rdS Hr0.out HB7.out (by assumption)) (rdS Hs0.out HB7.out (by assumption))).mono ?_; rintro e w' ⟨g, g', rfl, ho, ho', _, _, _, hb⟩)
      | (go_at_call 16; refine (eqHeap_same _ _ _ _ _ _ _ _ _ _ z0 y0 _ _ Hn0.out (by omega) Hm0.out (by omega) (Nat.le_refl _) (ownS Ox_7.out (by assumption)) (ownR (by assumption)) (ownS Px_7.out (by assumption)) (ownR (by assumption))).mono ?_; rintro e w' ⟨rfl, hb⟩))
  have hS := ‹(_ ∧ _) ∧ Below w7.heap.size w7 _›
  obtain ⟨w8, rfl, -, hb⟩ := named (C := fun W => (W.cell? ⟨w5.heap.size, 0, none⟩ = some (.slice (some ⟨g_x, 0, none⟩) n0 n0) ∧ W.cell? ⟨w5.heap.size, 1, none⟩ = some (.slice (some ⟨k_x, 0, none⟩) m0 m0) ∧ W.cell? ⟨w.heap.size, 0, none⟩ = some (.slice A0 n0 c0) ∧ W.cell? ⟨w.heap.size, 1, none⟩ = some (.slice B0 m0 d0))) hS
  clear hS
  have HB8 := hide (HB7.out.trans (hb.mono HB7.out.size))
  have hs8 : w7.heap.size ≤ w8.heap.size := hb.size
  have b0_0_8 : w8.cell? ⟨w.heap.size, 0, none⟩ = some (.slice A0 n0 c0) := by rw [hb.cell t0_7]; exact b0_0_7
  have b0_1_8 : w8.cell? ⟨w.heap.size, 1, none⟩ = some (.slice B0 m0 d0) := by rw [hb.cell t0_7]; exact b0_1_7
  have t0_8 : w.heap.size < w8.heap.size := Nat.lt_of_lt_of_le t0_7 hs8
  clear b0_0_7 b0_1_7 t0_7
  have bx_0_8 : w8.cell? ⟨w5.heap.size, 0, none⟩ = some (.slice (some ⟨g_x, 0, none⟩) n0 n0) := by rw [hb.cell tx_7]; exact bx_0_7
  have bx_1_8 : w8.cell? ⟨w5.heap.size, 1, none⟩ = some (.slice (some ⟨k_x, 0, none⟩) m0 m0) := by rw [hb.cell tx_7]; exact bx_1_7
  have tx_8 : w5.heap.size < w8.heap.size := Nat.lt_of_lt_of_le tx_7 hs8
  clear bx_0_7 bx_1_7 tx_7
  have Ox_8 := hide (Ox_7.out.below hb)
  clear Ox_7
  have Px_8 := hide (Px_7.out.below hb)
  clear Px_7
  clear hb
  go_wp2
  go_ret
  exact ⟨rfl, HB8.out⟩
end Go.Proofs.Ytjjfblejccfplaa
