/-
  The law FnNumbers: its walk. What is alike in its ways is printed by a small program (mk_numbers.py).
-/
import Derived.Test.YtciehbedpjfflabDoorNPlain
import Derived.Test.YtciehbedpjfflabDoorNDrv
import Derived.IntWalk
namespace Go.Proofs.YtciehbedpjfflabDoor
open Go.RowKit
set_option linter.unusedVariables false

theorem three (v : Int) : (0 ≤ v ∧ v ≤ 562949953421311) ∨ (562949953421311 < v ∧ v < 72057594037927936) ∨ ¬ (0 ≤ v ∧ v < 72057594037927936) := by omega
theorem readFixed_some (s : ByteArray) (w : World) (hb : s.size ≤ 9223372036854775807) :
    Calls Tryd.prog 10 #[.string s, .int .i64 7] w fun e w' => (∃ y b, e = .returned (.tuple #[.int .i64 y, .bool b])) ∧ w = w' := by
  by_cases h : 7 ≤ s.size
  · exact (implReadFixed_yes s 7 w (by omega) (by omega) h hb).mono fun e w' h => ⟨⟨_, _, h.1⟩, h.2⟩
  · exact (implReadFixed_no s 7 w (by omega) hb).mono fun e w' h => ⟨⟨_, _, h.1⟩, h.2⟩
theorem empty_app (s : ByteArray) : ((⟨#[]⟩ : ByteArray) ++ s).size = s.size := by
  rw [ByteArray.size_append, show (⟨#[]⟩ : ByteArray).size = 0 from rfl, Nat.zero_add]
theorem not_empty {s : ByteArray} (h : 1 ≤ s.size) : s.toList.isEmpty = false := by
  rw [ByteArray.toList_eq]
  have hl : s.data.toList.length = s.size := by simp
  cases he : s.data.toList with
  | nil => rw [he] at hl; simp at hl; omega
  | cons a l => rfl
set_option maxRecDepth 100000 in
set_option maxHeartbeats 12800000 in
theorem fnNumbers_core (A : Option Addr) (n c : Nat) (zs : List Int) (w : World) (hn : n = zs.length) (hz : n ≤ 1048576) (hr : RdB .u8 w A zs w.heap.size) (V : Vars w) :
    Calls Tryd.prog 3 #[.slice A n c] w fun e w' => e = .returned (.bool true) ∧ Below w.heap.size w w' := by
  have HN := hide hn
  have hzi : ¬ (1048576 : Int) < (n : Int) := by omega
  have HZ := hide hz
  have HR := hide hr
  have HV := hide V
  clear hn hr hz V
  go_enter Tryd.func3, Tryd.ntmps3
  go_wp2_with (first | (go_at_call 4; go_in))
  refine (drawVar_any A n c zs w HN.out (by have := HZ.out; omega) HR.out).mono ?_
  rintro e w1 ⟨⟨v, rfl, v0, v1⟩, hb⟩
  have HB1 := hide hb
  have HR1 := hide (HR.out.below hb (Nat.le_refl _))
  have HV1 := hide (HV.out.below hb)
  clear hb
  go_wp2_with fail
  refine (drawHex_any A n c zs w1 HN.out (by have := HZ.out; omega) (HR1.out.more HB1.out.size)).mono ?_
  rintro e w2 ⟨⟨tl, rfl, htl⟩, hb⟩
  have HB2 := hide (HB1.out.trans (hb.mono HB1.out.size))
  have HV2 := hide (HV1.out.below hb)
  clear hb HB1 HV1 HR1
  go_wp2_with fail
  refine (implVar_any v w2).mono ?_
  rintro e w3 ⟨rfl, hb⟩
  have HB3 := hide (HB2.out.trans (hb.mono HB2.out.size))
  have HV3 := hide (HV2.out.below hb)
  clear hb HB2 HV2
  have hs7 := varS_size v
  go_wp2_with fail
  refine (implRv_any (varS v ++ tl) w3 (by rw [ByteArray.size_append]; omega)).mono ?_
  rintro e w4 ⟨rfl, rfl⟩
  rcases three v with hin | hin | hin
  · obtain ⟨r1, r2, r3⟩ := var_read v hin tl
    have hfx := fix_in v ⟨hin.1, by omega⟩ tl
    rw [r1, r2]
    generalize varS v = s at r3 hs7 ⊢
    have hne := not_empty r3
    have i0 := hin.1
    have i1 := hin.2
    clear r1 r2 hin
    go_wp2_with fail
    refine (implFixed_any v 7 w3 v0 v1).mono ?_
    rintro e w5 ⟨rfl, hb⟩
    have HB5 := hide (HB3.out.trans (hb.mono HB3.out.size))
    have HV5 := hide (HV3.out.below hb)
    clear hb HB3 HV3
    obtain ⟨f1, f2, f3⟩ := hfx
    generalize fixS v 7 = t at f1 f2 f3 ⊢
    have hne2 := not_empty (s := t) (by omega)
    go_wp2_with fail
    refine (implReadFixed_yes (t ++ tl) 7 w5 (by omega) (by omega) f2 (by rw [ByteArray.size_append]; omega)).mono ?_
    rintro e w6 ⟨rfl, rfl⟩
    rw [f3]
    clear f2 f3
    go_wp2_with fail
    clear f1 hne hne2 r3 hs7
    refine (implDec_any v v0 v1 w5 HV5.out.tab).mono ?_
    rintro e w7 ⟨rfl, hb⟩
    have HB7 := hide (HB5.out.trans (hb.mono HB5.out.size))
    have HV7 := hide (HV5.out.below hb)
    clear hb HB5 HV5
    go_wp2_with fail
    refine (implRd_any _ (itoa_size v v0 v1) w7 HV7.out).mono ?_
    rintro e w8 ⟨he, hb⟩
    rw [show (⟨(Lib.itoa v).toArray⟩ : ByteArray).data.toList = Lib.itoa v from rfl, dec_read v v0 v1] at he
    have HB8 := hide (HB7.out.trans (hb.mono HB7.out.size))
    clear hb HB7 HV7
    by_cases hd : -1000000000 < v ∧ v < 1000000000
    · rw [if_pos hd] at he
      subst he
      obtain ⟨d0, d1⟩ := hd
      all_goals try (exfalso; omega)
      all_goals
        go_wp2_with fail
        refine (implHex_any tl w8 (by omega)).mono ?_
        rintro e w9 ⟨rfl, hb⟩
        have HB9 := hide (HB8.out.trans (hb.mono HB8.out.size))
        clear hb HB8
        go_wp2_with fail
        refine (implUnhex_any (hexS tl) w9 (by rw [hexS_size]; omega)).mono ?_
        rintro e w10 ⟨he, hb⟩
        rw [hex_read] at he
        subst he
        have HB10 := hide (HB9.out.trans (hb.mono HB9.out.size))
        clear hb HB9
        go_wp2_with fail
        have HD : Hid (∀ W, Below w.heap.size w W → _) := hide (fun W hb => drawReadVarX A n c zs W HN.out (by have := HZ.out; omega) ((HR.out.below hb (Nat.le_refl _)).more hb.size))
        have hrb := rv_back (drv zs)
        have hds : (drv zs).size ≤ 14 := dvR_size _ _
        generalize drv zs = D at HD hrb hds
        refine (HD.out _ HB10.out).mono ?_
        rintro e w11 ⟨rfl, hb⟩
        have HB11 := hide (HB10.out.trans (hb.mono HB10.out.size))
        clear hb HB10
        go_wp2_with fail
        refine (implRv_any D w11 (by omega)).mono ?_
        rintro e w12 ⟨rfl, rfl⟩
        generalize (rvR D.data.toList).1 = z at hrb ⊢
        generalize (rvR D.data.toList).2 = j at hrb ⊢
        rcases hrb with hj | ⟨hj, hj2, hj3⟩
        · subst hj
          go_wp2_with fail
          go_ret
          exact ⟨rfl, HB11.out⟩
        · have q1 : (0 : Int) < (j : Int) := by omega
          have q2 : (j : Int) ≤ (D.size : Int) := by omega
          have q3 : ((j : Int) == 0) = false := by rw [beq_eq_false_iff_ne]; omega
          have q4 : ¬ (j : Int) = 0 := by omega
          have HJ := hide hj3
          clear hj hj3
          go_wp2_with fail
          refine (HD.out _ HB11.out).mono ?_
          rintro e w13 ⟨rfl, hb⟩
          have HB13 := hide (HB11.out.trans (hb.mono HB11.out.size))
          clear hb HB11
          go_wp2_with fail
          refine (HD.out _ HB13.out).mono ?_
          rintro e w14 ⟨rfl, hb⟩
          have HB14 := hide (HB13.out.trans (hb.mono HB13.out.size))
          clear hb HB13
          go_wp2_with fail
          refine (implVar_any (z : Int) w14).mono ?_
          rintro e w15 ⟨rfl, hb⟩
          have HB15 := hide (HB14.out.trans (hb.mono HB14.out.size))
          clear hb HB14
          rw [HJ.out]
          go_wp2_with fail
          refine (HD.out _ HB15.out).mono ?_
          rintro e w16 ⟨rfl, hb⟩
          have HB16 := hide (HB15.out.trans (hb.mono HB15.out.size))
          clear hb HB15
          go_wp2_with fail
          go_ret
          exact ⟨rfl, HB16.out⟩
    · rw [if_neg hd] at he
      subst he
      have hd2 : v ≤ -1000000000 ∨ 1000000000 ≤ v := by omega
      clear hd
      rcases hd2 with hd | hd
      all_goals try (exfalso; omega)
      all_goals
        go_wp2_with fail
        refine (implHex_any tl w8 (by omega)).mono ?_
        rintro e w9 ⟨rfl, hb⟩
        have HB9 := hide (HB8.out.trans (hb.mono HB8.out.size))
        clear hb HB8
        go_wp2_with fail
        refine (implUnhex_any (hexS tl) w9 (by rw [hexS_size]; omega)).mono ?_
        rintro e w10 ⟨he, hb⟩
        rw [hex_read] at he
        subst he
        have HB10 := hide (HB9.out.trans (hb.mono HB9.out.size))
        clear hb HB9
        go_wp2_with fail
        have HD : Hid (∀ W, Below w.heap.size w W → _) := hide (fun W hb => drawReadVarX A n c zs W HN.out (by have := HZ.out; omega) ((HR.out.below hb (Nat.le_refl _)).more hb.size))
        have hrb := rv_back (drv zs)
        have hds : (drv zs).size ≤ 14 := dvR_size _ _
        generalize drv zs = D at HD hrb hds
        refine (HD.out _ HB10.out).mono ?_
        rintro e w11 ⟨rfl, hb⟩
        have HB11 := hide (HB10.out.trans (hb.mono HB10.out.size))
        clear hb HB10
        go_wp2_with fail
        refine (implRv_any D w11 (by omega)).mono ?_
        rintro e w12 ⟨rfl, rfl⟩
        generalize (rvR D.data.toList).1 = z at hrb ⊢
        generalize (rvR D.data.toList).2 = j at hrb ⊢
        rcases hrb with hj | ⟨hj, hj2, hj3⟩
        · subst hj
          go_wp2_with fail
          go_ret
          exact ⟨rfl, HB11.out⟩
        · have q1 : (0 : Int) < (j : Int) := by omega
          have q2 : (j : Int) ≤ (D.size : Int) := by omega
          have q3 : ((j : Int) == 0) = false := by rw [beq_eq_false_iff_ne]; omega
          have q4 : ¬ (j : Int) = 0 := by omega
          have HJ := hide hj3
          clear hj hj3
          go_wp2_with fail
          refine (HD.out _ HB11.out).mono ?_
          rintro e w13 ⟨rfl, hb⟩
          have HB13 := hide (HB11.out.trans (hb.mono HB11.out.size))
          clear hb HB11
          go_wp2_with fail
          refine (HD.out _ HB13.out).mono ?_
          rintro e w14 ⟨rfl, hb⟩
          have HB14 := hide (HB13.out.trans (hb.mono HB13.out.size))
          clear hb HB13
          go_wp2_with fail
          refine (implVar_any (z : Int) w14).mono ?_
          rintro e w15 ⟨rfl, hb⟩
          have HB15 := hide (HB14.out.trans (hb.mono HB14.out.size))
          clear hb HB14
          rw [HJ.out]
          go_wp2_with fail
          refine (HD.out _ HB15.out).mono ?_
          rintro e w16 ⟨rfl, hb⟩
          have HB16 := hide (HB15.out.trans (hb.mono HB15.out.size))
          clear hb HB15
          go_wp2_with fail
          go_ret
          exact ⟨rfl, HB16.out⟩
  · have hvs : varS v = ⟨#[]⟩ := varS_no (by omega)
    rw [hvs]
    generalize (rvR ((⟨#[]⟩ : ByteArray) ++ tl).data.toList).1 = xa
    generalize (rvR ((⟨#[]⟩ : ByteArray) ++ tl).data.toList).2 = xb
    have hfx := fix_in v ⟨by omega, hin.2⟩ tl
    have i0 := hin.1
    have i1 := hin.2
    clear hvs hin hs7
    go_wp2_with fail
    refine (implFixed_any v 7 w3 v0 v1).mono ?_
    rintro e w5 ⟨rfl, hb⟩
    have HB5 := hide (HB3.out.trans (hb.mono HB3.out.size))
    have HV5 := hide (HV3.out.below hb)
    clear hb HB3 HV3
    obtain ⟨f1, f2, f3⟩ := hfx
    generalize fixS v 7 = t at f1 f2 f3 ⊢
    have hne2 := not_empty (s := t) (by omega)
    go_wp2_with fail
    refine (implReadFixed_yes (t ++ tl) 7 w5 (by omega) (by omega) f2 (by rw [ByteArray.size_append]; omega)).mono ?_
    rintro e w6 ⟨rfl, rfl⟩
    rw [f3]
    clear f2 f3
    go_wp2_with fail
    clear f1 hne2
    refine (implDec_any v v0 v1 w5 HV5.out.tab).mono ?_
    rintro e w7 ⟨rfl, hb⟩
    have HB7 := hide (HB5.out.trans (hb.mono HB5.out.size))
    have HV7 := hide (HV5.out.below hb)
    clear hb HB5 HV5
    go_wp2_with fail
    refine (implRd_any _ (itoa_size v v0 v1) w7 HV7.out).mono ?_
    rintro e w8 ⟨he, hb⟩
    rw [show (⟨(Lib.itoa v).toArray⟩ : ByteArray).data.toList = Lib.itoa v from rfl, dec_read v v0 v1] at he
    have HB8 := hide (HB7.out.trans (hb.mono HB7.out.size))
    clear hb HB7 HV7
    by_cases hd : -1000000000 < v ∧ v < 1000000000
    · rw [if_pos hd] at he
      subst he
      obtain ⟨d0, d1⟩ := hd
      all_goals try (exfalso; omega)
      all_goals
        go_wp2_with fail
        refine (implHex_any tl w8 (by omega)).mono ?_
        rintro e w9 ⟨rfl, hb⟩
        have HB9 := hide (HB8.out.trans (hb.mono HB8.out.size))
        clear hb HB8
        go_wp2_with fail
        refine (implUnhex_any (hexS tl) w9 (by rw [hexS_size]; omega)).mono ?_
        rintro e w10 ⟨he, hb⟩
        rw [hex_read] at he
        subst he
        have HB10 := hide (HB9.out.trans (hb.mono HB9.out.size))
        clear hb HB9
        go_wp2_with fail
        have HD : Hid (∀ W, Below w.heap.size w W → _) := hide (fun W hb => drawReadVarX A n c zs W HN.out (by have := HZ.out; omega) ((HR.out.below hb (Nat.le_refl _)).more hb.size))
        have hrb := rv_back (drv zs)
        have hds : (drv zs).size ≤ 14 := dvR_size _ _
        generalize drv zs = D at HD hrb hds
        refine (HD.out _ HB10.out).mono ?_
        rintro e w11 ⟨rfl, hb⟩
        have HB11 := hide (HB10.out.trans (hb.mono HB10.out.size))
        clear hb HB10
        go_wp2_with fail
        refine (implRv_any D w11 (by omega)).mono ?_
        rintro e w12 ⟨rfl, rfl⟩
        generalize (rvR D.data.toList).1 = z at hrb ⊢
        generalize (rvR D.data.toList).2 = j at hrb ⊢
        rcases hrb with hj | ⟨hj, hj2, hj3⟩
        · subst hj
          go_wp2_with fail
          go_ret
          exact ⟨rfl, HB11.out⟩
        · have q1 : (0 : Int) < (j : Int) := by omega
          have q2 : (j : Int) ≤ (D.size : Int) := by omega
          have q3 : ((j : Int) == 0) = false := by rw [beq_eq_false_iff_ne]; omega
          have q4 : ¬ (j : Int) = 0 := by omega
          have HJ := hide hj3
          clear hj hj3
          go_wp2_with fail
          refine (HD.out _ HB11.out).mono ?_
          rintro e w13 ⟨rfl, hb⟩
          have HB13 := hide (HB11.out.trans (hb.mono HB11.out.size))
          clear hb HB11
          go_wp2_with fail
          refine (HD.out _ HB13.out).mono ?_
          rintro e w14 ⟨rfl, hb⟩
          have HB14 := hide (HB13.out.trans (hb.mono HB13.out.size))
          clear hb HB13
          go_wp2_with fail
          refine (implVar_any (z : Int) w14).mono ?_
          rintro e w15 ⟨rfl, hb⟩
          have HB15 := hide (HB14.out.trans (hb.mono HB14.out.size))
          clear hb HB14
          rw [HJ.out]
          go_wp2_with fail
          refine (HD.out _ HB15.out).mono ?_
          rintro e w16 ⟨rfl, hb⟩
          have HB16 := hide (HB15.out.trans (hb.mono HB15.out.size))
          clear hb HB15
          go_wp2_with fail
          go_ret
          exact ⟨rfl, HB16.out⟩
    · rw [if_neg hd] at he
      subst he
      have hd2 : v ≤ -1000000000 ∨ 1000000000 ≤ v := by omega
      clear hd
      rcases hd2 with hd | hd
      all_goals try (exfalso; omega)
      all_goals
        go_wp2_with fail
        refine (implHex_any tl w8 (by omega)).mono ?_
        rintro e w9 ⟨rfl, hb⟩
        have HB9 := hide (HB8.out.trans (hb.mono HB8.out.size))
        clear hb HB8
        go_wp2_with fail
        refine (implUnhex_any (hexS tl) w9 (by rw [hexS_size]; omega)).mono ?_
        rintro e w10 ⟨he, hb⟩
        rw [hex_read] at he
        subst he
        have HB10 := hide (HB9.out.trans (hb.mono HB9.out.size))
        clear hb HB9
        go_wp2_with fail
        have HD : Hid (∀ W, Below w.heap.size w W → _) := hide (fun W hb => drawReadVarX A n c zs W HN.out (by have := HZ.out; omega) ((HR.out.below hb (Nat.le_refl _)).more hb.size))
        have hrb := rv_back (drv zs)
        have hds : (drv zs).size ≤ 14 := dvR_size _ _
        generalize drv zs = D at HD hrb hds
        refine (HD.out _ HB10.out).mono ?_
        rintro e w11 ⟨rfl, hb⟩
        have HB11 := hide (HB10.out.trans (hb.mono HB10.out.size))
        clear hb HB10
        go_wp2_with fail
        refine (implRv_any D w11 (by omega)).mono ?_
        rintro e w12 ⟨rfl, rfl⟩
        generalize (rvR D.data.toList).1 = z at hrb ⊢
        generalize (rvR D.data.toList).2 = j at hrb ⊢
        rcases hrb with hj | ⟨hj, hj2, hj3⟩
        · subst hj
          go_wp2_with fail
          go_ret
          exact ⟨rfl, HB11.out⟩
        · have q1 : (0 : Int) < (j : Int) := by omega
          have q2 : (j : Int) ≤ (D.size : Int) := by omega
          have q3 : ((j : Int) == 0) = false := by rw [beq_eq_false_iff_ne]; omega
          have q4 : ¬ (j : Int) = 0 := by omega
          have HJ := hide hj3
          clear hj hj3
          go_wp2_with fail
          refine (HD.out _ HB11.out).mono ?_
          rintro e w13 ⟨rfl, hb⟩
          have HB13 := hide (HB11.out.trans (hb.mono HB11.out.size))
          clear hb HB11
          go_wp2_with fail
          refine (HD.out _ HB13.out).mono ?_
          rintro e w14 ⟨rfl, hb⟩
          have HB14 := hide (HB13.out.trans (hb.mono HB13.out.size))
          clear hb HB13
          go_wp2_with fail
          refine (implVar_any (z : Int) w14).mono ?_
          rintro e w15 ⟨rfl, hb⟩
          have HB15 := hide (HB14.out.trans (hb.mono HB14.out.size))
          clear hb HB14
          rw [HJ.out]
          go_wp2_with fail
          refine (HD.out _ HB15.out).mono ?_
          rintro e w16 ⟨rfl, hb⟩
          have HB16 := hide (HB15.out.trans (hb.mono HB15.out.size))
          clear hb HB15
          go_wp2_with fail
          go_ret
          exact ⟨rfl, HB16.out⟩
  · have hvs : varS v = ⟨#[]⟩ := varS_no (by omega)
    rw [hvs]
    generalize (rvR ((⟨#[]⟩ : ByteArray) ++ tl).data.toList).1 = xa
    generalize (rvR ((⟨#[]⟩ : ByteArray) ++ tl).data.toList).2 = xb
    have hfx := fix_out v hin
    have hb1 : ((decide (0 ≤ v)) && decide (v ≤ 562949953421311)) = false := by
      rw [Bool.and_eq_false_iff, decide_eq_false_iff_not, decide_eq_false_iff_not]; omega
    clear hvs hs7
    by_cases hneg : v < 0
    · clear hin
      go_wp2_with fail
      refine (implFixed_any v 7 w3 v0 v1).mono ?_
      rintro e w5 ⟨rfl, hb⟩
      have HB5 := hide (HB3.out.trans (hb.mono HB3.out.size))
      have HV5 := hide (HV3.out.below hb)
      clear hb HB3 HV3
      rw [hfx]
      clear hfx
      go_wp2_with fail
      refine (readFixed_some ((⟨#[]⟩ : ByteArray) ++ tl) w5 (by rw [empty_app]; omega)).mono ?_
      rintro e w6 ⟨⟨y, b, rfl⟩, rfl⟩
      go_wp2_with fail
      clear hb1
      refine (implDec_any v v0 v1 w5 HV5.out.tab).mono ?_
      rintro e w7 ⟨rfl, hb⟩
      have HB7 := hide (HB5.out.trans (hb.mono HB5.out.size))
      have HV7 := hide (HV5.out.below hb)
      clear hb HB5 HV5
      go_wp2_with fail
      refine (implRd_any _ (itoa_size v v0 v1) w7 HV7.out).mono ?_
      rintro e w8 ⟨he, hb⟩
      rw [show (⟨(Lib.itoa v).toArray⟩ : ByteArray).data.toList = Lib.itoa v from rfl, dec_read v v0 v1] at he
      have HB8 := hide (HB7.out.trans (hb.mono HB7.out.size))
      clear hb HB7 HV7
      by_cases hd : -1000000000 < v ∧ v < 1000000000
      · rw [if_pos hd] at he
        subst he
        obtain ⟨d0, d1⟩ := hd
        all_goals try (exfalso; omega)
        all_goals
          go_wp2_with fail
          refine (implHex_any tl w8 (by omega)).mono ?_
          rintro e w9 ⟨rfl, hb⟩
          have HB9 := hide (HB8.out.trans (hb.mono HB8.out.size))
          clear hb HB8
          go_wp2_with fail
          refine (implUnhex_any (hexS tl) w9 (by rw [hexS_size]; omega)).mono ?_
          rintro e w10 ⟨he, hb⟩
          rw [hex_read] at he
          subst he
          have HB10 := hide (HB9.out.trans (hb.mono HB9.out.size))
          clear hb HB9
          go_wp2_with fail
          have HD : Hid (∀ W, Below w.heap.size w W → _) := hide (fun W hb => drawReadVarX A n c zs W HN.out (by have := HZ.out; omega) ((HR.out.below hb (Nat.le_refl _)).more hb.size))
          have hrb := rv_back (drv zs)
          have hds : (drv zs).size ≤ 14 := dvR_size _ _
          generalize drv zs = D at HD hrb hds
          refine (HD.out _ HB10.out).mono ?_
          rintro e w11 ⟨rfl, hb⟩
          have HB11 := hide (HB10.out.trans (hb.mono HB10.out.size))
          clear hb HB10
          go_wp2_with fail
          refine (implRv_any D w11 (by omega)).mono ?_
          rintro e w12 ⟨rfl, rfl⟩
          generalize (rvR D.data.toList).1 = z at hrb ⊢
          generalize (rvR D.data.toList).2 = j at hrb ⊢
          rcases hrb with hj | ⟨hj, hj2, hj3⟩
          · subst hj
            go_wp2_with fail
            go_ret
            exact ⟨rfl, HB11.out⟩
          · have q1 : (0 : Int) < (j : Int) := by omega
            have q2 : (j : Int) ≤ (D.size : Int) := by omega
            have q3 : ((j : Int) == 0) = false := by rw [beq_eq_false_iff_ne]; omega
            have q4 : ¬ (j : Int) = 0 := by omega
            have HJ := hide hj3
            clear hj hj3
            go_wp2_with fail
            refine (HD.out _ HB11.out).mono ?_
            rintro e w13 ⟨rfl, hb⟩
            have HB13 := hide (HB11.out.trans (hb.mono HB11.out.size))
            clear hb HB11
            go_wp2_with fail
            refine (HD.out _ HB13.out).mono ?_
            rintro e w14 ⟨rfl, hb⟩
            have HB14 := hide (HB13.out.trans (hb.mono HB13.out.size))
            clear hb HB13
            go_wp2_with fail
            refine (implVar_any (z : Int) w14).mono ?_
            rintro e w15 ⟨rfl, hb⟩
            have HB15 := hide (HB14.out.trans (hb.mono HB14.out.size))
            clear hb HB14
            rw [HJ.out]
            go_wp2_with fail
            refine (HD.out _ HB15.out).mono ?_
            rintro e w16 ⟨rfl, hb⟩
            have HB16 := hide (HB15.out.trans (hb.mono HB15.out.size))
            clear hb HB15
            go_wp2_with fail
            go_ret
            exact ⟨rfl, HB16.out⟩
      · rw [if_neg hd] at he
        subst he
        have hd2 : v ≤ -1000000000 ∨ 1000000000 ≤ v := by omega
        clear hd
        rcases hd2 with hd | hd
        all_goals try (exfalso; omega)
        all_goals
          go_wp2_with fail
          refine (implHex_any tl w8 (by omega)).mono ?_
          rintro e w9 ⟨rfl, hb⟩
          have HB9 := hide (HB8.out.trans (hb.mono HB8.out.size))
          clear hb HB8
          go_wp2_with fail
          refine (implUnhex_any (hexS tl) w9 (by rw [hexS_size]; omega)).mono ?_
          rintro e w10 ⟨he, hb⟩
          rw [hex_read] at he
          subst he
          have HB10 := hide (HB9.out.trans (hb.mono HB9.out.size))
          clear hb HB9
          go_wp2_with fail
          have HD : Hid (∀ W, Below w.heap.size w W → _) := hide (fun W hb => drawReadVarX A n c zs W HN.out (by have := HZ.out; omega) ((HR.out.below hb (Nat.le_refl _)).more hb.size))
          have hrb := rv_back (drv zs)
          have hds : (drv zs).size ≤ 14 := dvR_size _ _
          generalize drv zs = D at HD hrb hds
          refine (HD.out _ HB10.out).mono ?_
          rintro e w11 ⟨rfl, hb⟩
          have HB11 := hide (HB10.out.trans (hb.mono HB10.out.size))
          clear hb HB10
          go_wp2_with fail
          refine (implRv_any D w11 (by omega)).mono ?_
          rintro e w12 ⟨rfl, rfl⟩
          generalize (rvR D.data.toList).1 = z at hrb ⊢
          generalize (rvR D.data.toList).2 = j at hrb ⊢
          rcases hrb with hj | ⟨hj, hj2, hj3⟩
          · subst hj
            go_wp2_with fail
            go_ret
            exact ⟨rfl, HB11.out⟩
          · have q1 : (0 : Int) < (j : Int) := by omega
            have q2 : (j : Int) ≤ (D.size : Int) := by omega
            have q3 : ((j : Int) == 0) = false := by rw [beq_eq_false_iff_ne]; omega
            have q4 : ¬ (j : Int) = 0 := by omega
            have HJ := hide hj3
            clear hj hj3
            go_wp2_with fail
            refine (HD.out _ HB11.out).mono ?_
            rintro e w13 ⟨rfl, hb⟩
            have HB13 := hide (HB11.out.trans (hb.mono HB11.out.size))
            clear hb HB11
            go_wp2_with fail
            refine (HD.out _ HB13.out).mono ?_
            rintro e w14 ⟨rfl, hb⟩
            have HB14 := hide (HB13.out.trans (hb.mono HB13.out.size))
            clear hb HB13
            go_wp2_with fail
            refine (implVar_any (z : Int) w14).mono ?_
            rintro e w15 ⟨rfl, hb⟩
            have HB15 := hide (HB14.out.trans (hb.mono HB14.out.size))
            clear hb HB14
            rw [HJ.out]
            go_wp2_with fail
            refine (HD.out _ HB15.out).mono ?_
            rintro e w16 ⟨rfl, hb⟩
            have HB16 := hide (HB15.out.trans (hb.mono HB15.out.size))
            clear hb HB15
            go_wp2_with fail
            go_ret
            exact ⟨rfl, HB16.out⟩
    · have hbig : 72057594037927936 ≤ v := by omega
      clear hin
      go_wp2_with fail
      refine (implFixed_any v 7 w3 v0 v1).mono ?_
      rintro e w5 ⟨rfl, hb⟩
      have HB5 := hide (HB3.out.trans (hb.mono HB3.out.size))
      have HV5 := hide (HV3.out.below hb)
      clear hb HB3 HV3
      rw [hfx]
      clear hfx
      go_wp2_with fail
      refine (readFixed_some ((⟨#[]⟩ : ByteArray) ++ tl) w5 (by rw [empty_app]; omega)).mono ?_
      rintro e w6 ⟨⟨y, b, rfl⟩, rfl⟩
      go_wp2_with fail
      clear hb1
      refine (implDec_any v v0 v1 w5 HV5.out.tab).mono ?_
      rintro e w7 ⟨rfl, hb⟩
      have HB7 := hide (HB5.out.trans (hb.mono HB5.out.size))
      have HV7 := hide (HV5.out.below hb)
      clear hb HB5 HV5
      go_wp2_with fail
      refine (implRd_any _ (itoa_size v v0 v1) w7 HV7.out).mono ?_
      rintro e w8 ⟨he, hb⟩
      rw [show (⟨(Lib.itoa v).toArray⟩ : ByteArray).data.toList = Lib.itoa v from rfl, dec_read v v0 v1] at he
      have HB8 := hide (HB7.out.trans (hb.mono HB7.out.size))
      clear hb HB7 HV7
      by_cases hd : -1000000000 < v ∧ v < 1000000000
      · rw [if_pos hd] at he
        subst he
        obtain ⟨d0, d1⟩ := hd
        all_goals try (exfalso; omega)
        all_goals
          go_wp2_with fail
          refine (implHex_any tl w8 (by omega)).mono ?_
          rintro e w9 ⟨rfl, hb⟩
          have HB9 := hide (HB8.out.trans (hb.mono HB8.out.size))
          clear hb HB8
          go_wp2_with fail
          refine (implUnhex_any (hexS tl) w9 (by rw [hexS_size]; omega)).mono ?_
          rintro e w10 ⟨he, hb⟩
          rw [hex_read] at he
          subst he
          have HB10 := hide (HB9.out.trans (hb.mono HB9.out.size))
          clear hb HB9
          go_wp2_with fail
          have HD : Hid (∀ W, Below w.heap.size w W → _) := hide (fun W hb => drawReadVarX A n c zs W HN.out (by have := HZ.out; omega) ((HR.out.below hb (Nat.le_refl _)).more hb.size))
          have hrb := rv_back (drv zs)
          have hds : (drv zs).size ≤ 14 := dvR_size _ _
          generalize drv zs = D at HD hrb hds
          refine (HD.out _ HB10.out).mono ?_
          rintro e w11 ⟨rfl, hb⟩
          have HB11 := hide (HB10.out.trans (hb.mono HB10.out.size))
          clear hb HB10
          go_wp2_with fail
          refine (implRv_any D w11 (by omega)).mono ?_
          rintro e w12 ⟨rfl, rfl⟩
          generalize (rvR D.data.toList).1 = z at hrb ⊢
          generalize (rvR D.data.toList).2 = j at hrb ⊢
          rcases hrb with hj | ⟨hj, hj2, hj3⟩
          · subst hj
            go_wp2_with fail
            go_ret
            exact ⟨rfl, HB11.out⟩
          · have q1 : (0 : Int) < (j : Int) := by omega
            have q2 : (j : Int) ≤ (D.size : Int) := by omega
            have q3 : ((j : Int) == 0) = false := by rw [beq_eq_false_iff_ne]; omega
            have q4 : ¬ (j : Int) = 0 := by omega
            have HJ := hide hj3
            clear hj hj3
            go_wp2_with fail
            refine (HD.out _ HB11.out).mono ?_
            rintro e w13 ⟨rfl, hb⟩
            have HB13 := hide (HB11.out.trans (hb.mono HB11.out.size))
            clear hb HB11
            go_wp2_with fail
            refine (HD.out _ HB13.out).mono ?_
            rintro e w14 ⟨rfl, hb⟩
            have HB14 := hide (HB13.out.trans (hb.mono HB13.out.size))
            clear hb HB13
            go_wp2_with fail
            refine (implVar_any (z : Int) w14).mono ?_
            rintro e w15 ⟨rfl, hb⟩
            have HB15 := hide (HB14.out.trans (hb.mono HB14.out.size))
            clear hb HB14
            rw [HJ.out]
            go_wp2_with fail
            refine (HD.out _ HB15.out).mono ?_
            rintro e w16 ⟨rfl, hb⟩
            have HB16 := hide (HB15.out.trans (hb.mono HB15.out.size))
            clear hb HB15
            go_wp2_with fail
            go_ret
            exact ⟨rfl, HB16.out⟩
      · rw [if_neg hd] at he
        subst he
        have hd2 : v ≤ -1000000000 ∨ 1000000000 ≤ v := by omega
        clear hd
        rcases hd2 with hd | hd
        all_goals try (exfalso; omega)
        all_goals
          go_wp2_with fail
          refine (implHex_any tl w8 (by omega)).mono ?_
          rintro e w9 ⟨rfl, hb⟩
          have HB9 := hide (HB8.out.trans (hb.mono HB8.out.size))
          clear hb HB8
          go_wp2_with fail
          refine (implUnhex_any (hexS tl) w9 (by rw [hexS_size]; omega)).mono ?_
          rintro e w10 ⟨he, hb⟩
          rw [hex_read] at he
          subst he
          have HB10 := hide (HB9.out.trans (hb.mono HB9.out.size))
          clear hb HB9
          go_wp2_with fail
          have HD : Hid (∀ W, Below w.heap.size w W → _) := hide (fun W hb => drawReadVarX A n c zs W HN.out (by have := HZ.out; omega) ((HR.out.below hb (Nat.le_refl _)).more hb.size))
          have hrb := rv_back (drv zs)
          have hds : (drv zs).size ≤ 14 := dvR_size _ _
          generalize drv zs = D at HD hrb hds
          refine (HD.out _ HB10.out).mono ?_
          rintro e w11 ⟨rfl, hb⟩
          have HB11 := hide (HB10.out.trans (hb.mono HB10.out.size))
          clear hb HB10
          go_wp2_with fail
          refine (implRv_any D w11 (by omega)).mono ?_
          rintro e w12 ⟨rfl, rfl⟩
          generalize (rvR D.data.toList).1 = z at hrb ⊢
          generalize (rvR D.data.toList).2 = j at hrb ⊢
          rcases hrb with hj | ⟨hj, hj2, hj3⟩
          · subst hj
            go_wp2_with fail
            go_ret
            exact ⟨rfl, HB11.out⟩
          · have q1 : (0 : Int) < (j : Int) := by omega
            have q2 : (j : Int) ≤ (D.size : Int) := by omega
            have q3 : ((j : Int) == 0) = false := by rw [beq_eq_false_iff_ne]; omega
            have q4 : ¬ (j : Int) = 0 := by omega
            have HJ := hide hj3
            clear hj hj3
            go_wp2_with fail
            refine (HD.out _ HB11.out).mono ?_
            rintro e w13 ⟨rfl, hb⟩
            have HB13 := hide (HB11.out.trans (hb.mono HB11.out.size))
            clear hb HB11
            go_wp2_with fail
            refine (HD.out _ HB13.out).mono ?_
            rintro e w14 ⟨rfl, hb⟩
            have HB14 := hide (HB13.out.trans (hb.mono HB13.out.size))
            clear hb HB13
            go_wp2_with fail
            refine (implVar_any (z : Int) w14).mono ?_
            rintro e w15 ⟨rfl, hb⟩
            have HB15 := hide (HB14.out.trans (hb.mono HB14.out.size))
            clear hb HB14
            rw [HJ.out]
            go_wp2_with fail
            refine (HD.out _ HB15.out).mono ?_
            rintro e w16 ⟨rfl, hb⟩
            have HB16 := hide (HB15.out.trans (hb.mono HB15.out.size))
            clear hb HB15
            go_wp2_with fail
            go_ret
            exact ⟨rfl, HB16.out⟩
set_option maxRecDepth 100000 in
theorem fnNumbers_walk (A : Option Addr) (n c : Nat) (zs : List Int) (w : World) (h : Sl .u8 w A n c zs) (V : Vars w) : Calls Tryd.prog 3 #[.slice A n c] w fun e w' => e = .returned (.bool true) ∧ Below w.heap.size w w' := by
  obtain ⟨hn, _, hm, hr, hwf⟩ := h
  by_cases hz : n ≤ 1048576
  · exact fnNumbers_core A n c zs w hn hz hr V
  · have hz1 : (1048576 : Int) < (n : Int) := by omega
    clear hn hr hz hwf V
    go_enter Tryd.func3, Tryd.ntmps3
    go_wp2
    go_ret
    exact ⟨rfl, Below.refl _ _⟩
end Go.Proofs.YtciehbedpjfflabDoor
