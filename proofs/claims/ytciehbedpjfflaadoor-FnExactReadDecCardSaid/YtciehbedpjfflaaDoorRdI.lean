/-
  The program's ReadDec, by the library's contracts, and the law FnExactReadDec: the walks.
-/
import Derived.Test.YtciehbedpjfflaaDoorRdS
import Derived.Test.YtciehbedpjfflaaDoorDec
import Derived.Lib.AtoiErrMem
namespace Go.Proofs.YtciehbedpjfflaaDoor
open Go.RowKit
set_option linter.unusedVariables false

/-- What the library's variables hold. -/
structure Vars (w : World) : Prop where
  tab : Tab w
  syn : ∃ tp p, w.var? Tryd.prog "strconv.ErrSyntax" = some #[.iface tp p]
  rng : ∃ tp p, w.var? Tryd.prog "strconv.ErrRange" = some #[.iface tp p]
theorem synName : Tryd.prog.globalNamed "strconv.ErrSyntax" = some 0 := by kernel_rfl
theorem rngName : Tryd.prog.globalNamed "strconv.ErrRange" = some 1 := by kernel_rfl
theorem Vars.below {w w' : World} (h : Vars w) (hb : Below w.heap.size w w') : Vars w' := by
  obtain ⟨t, ⟨a, b, h1⟩, ⟨c, d, h2⟩⟩ := h
  exact ⟨t.below hb, ⟨a, b, Go.Joins.var_stays synName h1 hb (Nat.le_refl _)⟩, ⟨c, d, Go.Joins.var_stays rngName h2 hb (Nat.le_refl _)⟩⟩
/-- What Atoi leaves: its number, and an error or none. -/
theorem atoi_any (s : ByteArray) (hs : s.size ≤ 1048576) (w : World) (V : Vars w) :
    Calls Tryd.prog 7 #[.string s] w fun e w' => ((∃ v, Lib.atoiAll s.data.toList = .ok v ∧ e = .returned (.tuple #[.int .i64 v, .nilIface])) ∨
      ((∀ v, Lib.atoiAll s.data.toList ≠ .ok v) ∧ ∃ (x : Int) (T : TypeId) (N : Nat), e = .returned (.tuple #[.int .i64 x, .iface T (.pointer (some ⟨N, 0, none⟩))]))) ∧ Below w.heap.size w w' := by
  obtain ⟨_, ⟨tp, p, h1⟩, ⟨tq, q, h2⟩⟩ := V
  rcases he : Lib.atoiAll s.data.toList with v | _ | _
  · refine (Tryd.strconv_Atoi_ok s (by omega) v he w).mono ?_
    rintro e w' ⟨rfl, rfl | ⟨t, rfl⟩⟩
    · exact ⟨.inl ⟨v, rfl, rfl⟩, Below.refl _ _⟩
    · exact ⟨.inl ⟨v, rfl, rfl⟩, Lib.bytesWorld_below _ _ _⟩
  · refine (Tryd.strconv_Atoi_syntax_var s (by omega) he tp p w h1).mono ?_
    rintro e w' ⟨N, rfl, _, _, hb⟩
    exact ⟨.inr ⟨(fun v h => by cases h), _, _, N, rfl⟩, hb⟩
  · refine (Tryd.strconv_Atoi_range_var s (by omega) he tq q w h2).mono ?_
    rintro e w' ⟨N, rfl, _, _, hb⟩
    exact ⟨.inr ⟨(fun v h => by cases h), _, _, N, rfl⟩, hb⟩
theorem rdI_no {l : List UInt8} (h : ∀ v, Lib.atoiAll l ≠ .ok v) : rdI l = (0, false) := by
  unfold rdI
  rcases he : Lib.atoiAll l with v | _ | _
  · exact absurd he (h v)
  · rfl
  · rfl
theorem rdI_ok {l : List UInt8} {v : Int} (h : Lib.atoiAll l = .ok v) : rdI l = if okV l v = true then (v, true) else (0, false) := by unfold rdI; rw [h]
theorem trim_any (s : ByteArray) (w : World) : Calls Tryd.prog 9 #[.string s, .string ⟨#[45]⟩] w fun e w' => (∃ u : ByteArray, e = .returned (.string u) ∧ u.size = (Lib.trimPrefix s.data.toList [45]).length) ∧ w = w' :=
  (Tryd.strings_TrimPrefix s ⟨#[45]⟩ w).mono fun e w' h => ⟨⟨_, h.1, by show (List.toArray _).size = _; simp⟩, h.2.symm⟩
theorem str_ne {t s : ByteArray} (h : ¬ t = s) : (t.toList == s.toList) = false := by
  rw [beq_eq_false_iff_ne, ByteArray.toList_eq, ByteArray.toList_eq]
  intro e
  exact h (by cases t with | mk d => cases s with | mk d' => exact congrArg ByteArray.mk (Array.toList_inj.1 e))
set_option maxRecDepth 100000 in
set_option maxHeartbeats 1600000 in
theorem implRd_any (s : ByteArray) (hs : s.size ≤ 1048576) (w : World) (V : Vars w) :
    Calls Tryd.prog 5 #[.string s] w fun e w' => e = .returned (.tuple #[.int .i64 (rdI s.data.toList).1, .bool (rdI s.data.toList).2]) ∧ Below w.heap.size w w' := by
  have HV := hide V
  have HS := hide hs
  clear V hs
  go_enter Tryd.func5, Tryd.ntmps5
  go_wp2_with fail
  refine (atoi_any s HS.out w HV.out).mono ?_
  rintro e w1 ⟨⟨v, he, rfl⟩ | ⟨hno, x, T, N, rfl⟩, hb⟩
  · have HB := hide hb
    have HE := hide (rdI_ok he)
    have hbd := Lib.atoiAll_bounds he
    have HV1 := hide (HV.out.below hb)
    clear hb he
    go_wp2_with fail
    refine (implDec_any v hbd.1 hbd.2 w1 HV1.out.tab).mono ?_
    rintro e w2 ⟨rfl, hb⟩
    obtain ⟨t, ht⟩ : ∃ t : ByteArray, t = ⟨(Lib.itoa v).toArray⟩ := ⟨_, rfl⟩
    rw [← ht]
    have HT := hide ht
    have HB2 := hide (HB.out.trans (hb.mono HB.out.size))
    clear ht hb hbd
    by_cases hts : t = s
    · have hi : Lib.itoa v = s.data.toList := (bytes_eq s _).1 (HT.out.symm.trans hts)
      have HI := hide hi
      have hne : (t.toList == s.toList) = true := by rw [hts]; simp
      clear hts hi
      go_wp2_with fail
      refine (trim_any s w2).mono ?_
      rintro e w3 ⟨⟨u, rfl, hu⟩, rfl⟩
      have HU := hide hu
      clear hu
      by_cases h9 : (9 : Int) < (u.size : Int)
      · have HF : Hid (rdI s.data.toList = (0, false)) := hide (by
          rw [HE.out]
          have : okV s.data.toList v = false := by
            unfold okV
            have h : ¬ (Lib.trimPrefix s.data.toList [45]).length ≤ 9 := by rw [← HU.out]; omega
            rw [decide_eq_false h, Bool.and_false]
          rw [this]; rfl)
        go_wp2
        refine bodyPost_ret (v := .tuple #[.int .i64 0, .bool false]) (by simp [results, Tryd.results5, go_sem]) rfl ⟨?_, HB2.out⟩
        rw [HF.out]
      · have HF : Hid (rdI s.data.toList = (v, true)) := hide (by
          rw [HE.out]
          have : okV s.data.toList v = true := by
            unfold okV
            have h : (Lib.trimPrefix s.data.toList [45]).length ≤ 9 := by rw [← HU.out]; omega
            rw [decide_eq_true h, decide_eq_true HI.out]; rfl
          rw [if_pos this])
        go_wp2
        refine bodyPost_ret (v := .tuple #[.int .i64 v, .bool true]) (by simp [results, Tryd.results5, go_sem]) rfl ⟨?_, HB2.out⟩
        rw [HF.out]
    · have hne := str_ne hts
      have HF : Hid (rdI s.data.toList = (0, false)) := hide (by
        rw [HE.out]
        have : okV s.data.toList v = false := by
          unfold okV
          have h : ¬ Lib.itoa v = s.data.toList := fun e => hts (HT.out.trans ((bytes_eq s _).2 e))
          rw [decide_eq_false h, Bool.false_and]
        rw [this]; rfl)
      clear hts
      go_wp2
      refine bodyPost_ret (v := .tuple #[.int .i64 0, .bool false]) (by simp [results, Tryd.results5, go_sem]) rfl ⟨?_, HB2.out⟩
      rw [HF.out]
  · have HB := hide hb
    have HF := hide (rdI_no hno)
    clear hb hno
    go_wp2
    refine bodyPost_ret (v := .tuple #[.int .i64 0, .bool false]) (by simp [results, Tryd.results5, go_sem]) rfl ⟨?_, HB.out⟩
    rw [HF.out]
set_option maxRecDepth 100000 in
set_option maxHeartbeats 800000 in
theorem fnExactReadDec_walk (s : ByteArray) (w : World) (hz : s.size ≤ 9223372036854775807) (V : Vars w) :
    Calls Tryd.prog 3 #[.string s] w fun e w' => e = .returned (.bool true) ∧ Below w.heap.size w w' := by
  by_cases hs : s.size ≤ 1048576
  · have HV := hide V
    have HS := hide hs
    have hi : ¬ (1048576 : Int) < (s.size : Int) := by omega
    clear V hs
    go_enter Tryd.func3, Tryd.ntmps3
    go_wp2_with fail
    refine (specRd_any s HS.out w).mono ?_
    rintro e w1 ⟨rfl, hb⟩
    rw [rd_eq]
    obtain ⟨p, q, hpq⟩ : ∃ p q, rdI s.data.toList = (p, q) := ⟨_, _, rfl⟩
    rw [hpq]
    have HP := hide hpq
    have HB := hide hb
    have HV1 := hide (HV.out.below hb)
    clear hpq hb
    go_wp2_with fail
    refine (implRd_any s HS.out w1 HV1.out).mono ?_
    rintro e w2 ⟨rfl, hb⟩
    rw [HP.out]
    have HB2 := hide (HB.out.trans (hb.mono HB.out.size))
    clear hb
    cases q
    · go_wp2
      go_ret
      exact ⟨rfl, HB2.out⟩
    · go_wp2
      go_ret
      exact ⟨rfl, HB2.out⟩
  · have hi : (1048576 : Int) < (s.size : Int) := by omega
    clear hs
    go_enter Tryd.func3, Tryd.ntmps3
    go_wp2
    go_ret
    exact ⟨rfl, Below.refl _ _⟩
end Go.Proofs.YtciehbedpjfflaaDoor
