/-
  The reference's ReadDec: its walk.
-/
import Derived.Test.YtciehbedpjfflaaDoorRdP
namespace Go.Proofs.YtciehbedpjfflaaDoor
open Go.RowKit
set_option linter.unusedVariables false

theorem take_snoc (s : ByteArray) (k : Nat) (h : k < s.size) : s.data.toList.take (k + 1) = s.data.toList.take k ++ [s[k]] := by
  rw [List.take_succ_eq_append_getElem (by simpa using h)]; rfl
theorem ret_p {a b : Int} {p q : Bool} (h1 : a = b) (h2 : p = q) : Ending.returned (.tuple #[.int .i64 a, .bool p]) = .returned (.tuple #[.int .i64 b, .bool q]) := by rw [h1, h2]
theorem head_45 (s : ByteArray) (h : 0 < s.size) : neg1 s.data.toList = decide (s[0].toNat = 45) := by
  unfold neg1
  have e : s.data.toList.head? = some s[0] := by
    rw [List.head?_eq_getElem?]
    have : 0 < s.data.toList.length := by simpa using h
    rw [List.getElem?_eq_getElem this]
    rfl
  rw [e]
  apply decide_eq_decide.2
  constructor
  · intro h; injection h with h; rw [h]; rfl
  · intro h
    have : s[0] = 45 := UInt8.toNat_inj.1 (by rw [h]; rfl)
    rw [this]
theorem bytes_eq (s : ByteArray) (l : List UInt8) : (⟨l.toArray⟩ : ByteArray) = s ↔ l = s.data.toList := by
  constructor
  · intro h; rw [← h]
  · intro h
    cases s with
    | mk d => rw [h]
/-- The end: the last statement, whatever the number is. -/
structure Rd (s : ByteArray) (k : Nat) (V : Int) : Prop where
  ek : k = nmK (s.data.toList.take 11)
  ev : V = rdV s.data.toList
theorem rdV_bd (l : List UInt8) : -100000000000 < rdV l ∧ rdV l < 100000000000 := by
  have hb := nmN_bd l 11 (by omega)
  unfold rdV; split <;> omega
theorem rdS_no {l : List UInt8} (h : rdOk l = false) : rdS l = (0, false) := by unfold rdS; rw [h]; rfl
theorem rdS_yes {l : List UInt8} (h : rdOk l = true) : rdS l = (rdV l, true) := by unfold rdS; rw [if_pos h]
set_option maxRecDepth 100000 in
set_option maxHeartbeats 3200000 in
theorem specRd_any (s : ByteArray) (hs : s.size ≤ 1048576) (w : World) :
    Calls Tryd.prog 4 #[.string s] w fun e w' => e = .returned (.tuple #[.int .i64 (rdS s.data.toList).1, .bool (rdS s.data.toList).2]) ∧ Below w.heap.size w w' := by
  have hsi : (s.size : Int) ≤ 1048576 := by omega
  have HS := hide hs
  clear hs
  go_enter Tryd.func4, Tryd.ntmps4
  go_wp2
  go_loopg [4, 5, 6] 12 (fun gk nn kk i wr => wr = w ∧ ∃ k x c : Nat, k ≤ 11 ∧ k ≤ s.size ∧ gk = 12 - k ∧ i = .int .i64 (k : Int) ∧ nn = .int .i64 (x : Int) ∧ kk = .int .i64 (c : Int) ∧ x = nmN (s.data.toList.take k) ∧ c = nmK (s.data.toList.take k))
  case atStart => exact ⟨rfl, 0, 0, 0, by omega, by omega, rfl, rfl, rfl, rfl, rfl, rfl⟩
  case round =>
    obtain ⟨rfl, k, x, c, hk, hks, hg, rfl, rfl, rfl, hx, hc⟩ := hrel
    have HG := hide hg
    have hxb : (x : Int) < 100000000000 := by have := nmN_bd s.data.toList k hk; omega
    have hcb : (c : Int) ≤ 11 := by
      have h1 := nmK_le (s.data.toList.take k)
      have h2 : (s.data.toList.take k).length ≤ k := List.length_take_le _ _
      omega
    have hxl : k < 11 → (x : Int) < 10000000000 := fun h => by
      have h1 := nmN_lt (s.data.toList.take k)
      have h2 : (s.data.toList.take k).length ≤ k := List.length_take_le _ _
      have h3 : 10 ^ (s.data.toList.take k).length ≤ 10 ^ 10 := Nat.pow_le_pow_right (by omega) (by omega)
      omega
    have HX := hide hx
    have HC := hide hc
    clear hg hx hc
    by_cases hlt : k < s.size
    · have hi : (k : Int) < (s.size : Int) := by omega
      by_cases h11 : k < 11
      · have hi11 : (k : Int) < 11 := by omega
        have hxl2 := hxl h11
        have hyb : (s[k].toNat : Int) ≤ 255 := by have := s[k].toNat_lt; omega
        have hN : nmN (s.data.toList.take (k + 1)) = stN x s[k] := by rw [take_snoc s k hlt, nmN_snoc, ← HX.out]
        have hK : nmK (s.data.toList.take (k + 1)) = stK c s[k] := by rw [take_snoc s k hlt, nmK_snoc, ← HC.out]
        have H1 := hide hN
        have H2 := hide hK
        clear hN hK hxl
        by_cases h48 : 48 ≤ s[k].toNat
        · have g48 : (48 : Int) ≤ (s[k].toNat : Int) := by omega
          by_cases h57 : s[k].toNat ≤ 57
          · have g57 : (s[k].toNat : Int) ≤ 57 := by omega
            have hd : isD s[k] := ⟨h48, h57⟩
            have e1 : stN x s[k] = x * 10 + (s[k].toNat - 48) := by unfold stN; rw [if_pos hd]
            have e2 : stK c s[k] = c + 1 := by unfold stK; rw [if_pos hd]
            have H3 := hide (And.intro e1 e2)
            clear hd e1 e2 h48 h57
            go_wp2
            go_roundg (12 - (k + 1))
            case measure => have := HG.out; omega
            case rel => exact ⟨rfl, k + 1, x * 10 + (s[k].toNat - 48), c + 1, by omega, by omega, rfl, by go_num, by refine congrArg (Value.int .i64) ?_; omega, by go_num, by rw [H1.out, H3.out.1], by rw [H2.out, H3.out.2]⟩
          · have g57 : ¬ (s[k].toNat : Int) ≤ 57 := by omega
            have hd : ¬ isD s[k] := fun h => h57 h.2
            have e1 : stN x s[k] = x := by unfold stN; rw [if_neg hd]
            have e2 : stK c s[k] = c := by unfold stK; rw [if_neg hd]
            have H3 := hide (And.intro e1 e2)
            clear hd e1 e2 h48
            go_wp2
            go_roundg (12 - (k + 1))
            case measure => have := HG.out; omega
            case rel => exact ⟨rfl, k + 1, x, c, by omega, by omega, rfl, by go_num, rfl, rfl, by rw [H1.out, H3.out.1], by rw [H2.out, H3.out.2]⟩
        · have g48 : ¬ (48 : Int) ≤ (s[k].toNat : Int) := by omega
          have hd : ¬ isD s[k] := fun h => h48 h.1
          have e1 : stN x s[k] = x := by unfold stN; rw [if_neg hd]
          have e2 : stK c s[k] = c := by unfold stK; rw [if_neg hd]
          have H3 := hide (And.intro e1 e2)
          clear hd e1 e2
          go_wp2
          go_roundg (12 - (k + 1))
          case measure => have := HG.out; omega
          case rel => exact ⟨rfl, k + 1, x, c, by omega, by omega, rfl, by go_num, rfl, rfl, by rw [H1.out, H3.out.1], by rw [H2.out, H3.out.2]⟩
      · have hi11 : ¬ (k : Int) < 11 := by omega
        have ht11 : s.data.toList.take k = s.data.toList.take 11 := by rw [show k = 11 by omega]
        have HK := hide (show c = nmK (s.data.toList.take 11) by rw [← ht11]; exact HC.out)
        have HN := hide (show x = nmN (s.data.toList.take 11) by rw [← ht11]; exact HX.out)
        clear ht11
        by_cases hp : 0 < s.size
        · have hpi : (0 : Int) < (s.size : Int) := by omega
          have h45 := head_45 s hp
          by_cases hm : s[0].toNat = 45
          · have hmi : (s[0].toNat : Int) = 45 := by omega
            have hng : neg1 s.data.toList = true := by rw [h45]; exact decide_eq_true hm
            clear h45 hm
            have hV := rdV_bd s.data.toList
            have hVe := (show -(x : Int) = rdV s.data.toList by unfold rdV; rw [if_pos hng, ← HN.out])
            rw [← hVe] at hV
            have HV := hide hVe
            have HVB := hide hV
            clear hVe hV hng
            by_cases h9 : (9 : Int) < (c : Int)
            · have HF := hide (rdS_no (l := s.data.toList) (rdOk_k (by rw [← HK.out]; omega)))
              go_wp2
              refine bodyPost_ret (v := .tuple #[.int .i64 0, .bool false]) (by simp [results, Tryd.results4, go_sem]) rfl ⟨?_, Below.refl _ _⟩
              rw [HF.out]
            · by_cases h10 : (10 : Int) < (s.size : Int)
              · have HF := hide (rdS_no (l := s.data.toList) (rdOk_l (by have e : s.data.toList.length = s.size := (by simp); omega)))
                go_wp2
                refine bodyPost_ret (v := .tuple #[.int .i64 0, .bool false]) (by simp [results, Tryd.results4, go_sem]) rfl ⟨?_, Below.refl _ _⟩
                rw [HF.out]
              · go_wp2_with fail
                refine (specDec_any (-(x : Int)) (by have := HVB.out; omega) (by have := HVB.out; omega) wr).mono ?_
                rintro e w1 ⟨rfl, hb⟩
                obtain ⟨t, ht⟩ : ∃ t : ByteArray, t = ⟨(Lib.itoa (-(x : Int))).toArray⟩ := ⟨_, rfl⟩
                rw [← ht]
                have HT := hide ht
                have HB := hide hb
                clear ht hb
                by_cases hts : t = s
                · have HF := hide (rdS_yes (l := s.data.toList) (by
                    have e1 : Lib.itoa (rdV s.data.toList) = s.data.toList := by rw [← HV.out]; exact (bytes_eq s _).1 (HT.out.symm.trans hts)
                    have e : s.data.toList.length = s.size := by simp
                    exact rdOk_y (by rw [← HK.out]; omega) (by omega) e1))
                  go_wp2
                  refine bodyPost_ret (v := .tuple #[.int .i64 (-(x : Int)), .bool true]) (by simp [results, Tryd.results4, go_sem]) rfl ⟨?_, HB.out⟩
                  rw [HF.out, ← HV.out]
                · have HF := hide (rdS_no (l := s.data.toList) (by
                    have e1 : Lib.itoa (rdV s.data.toList) ≠ s.data.toList := fun e => hts (HT.out.trans ((bytes_eq s _).2 (by rw [HV.out]; exact e)))
                    exact rdOk_s e1))
                  have hne : (t.toList == s.toList) = false := by
                    rw [beq_eq_false_iff_ne, ByteArray.toList_eq, ByteArray.toList_eq]
                    intro e
                    exact hts (by cases t with | mk d => cases s with | mk d' => exact congrArg ByteArray.mk (Array.toList_inj.1 e))
                  clear hts
                  go_wp2
                  refine bodyPost_ret (v := .tuple #[.int .i64 0, .bool false]) (by simp [results, Tryd.results4, go_sem]) rfl ⟨?_, HB.out⟩
                  rw [HF.out]
          · have hmb : ((s[0].toNat : Int) == 45) = false := by rw [beq_eq_false_iff_ne]; omega
            have hng : neg1 s.data.toList = false := by rw [h45]; exact decide_eq_false hm
            clear h45 hm
            have hV := rdV_bd s.data.toList
            have hVe := (show (x : Int) = rdV s.data.toList by unfold rdV; rw [hng, ← HN.out]; rfl)
            rw [← hVe] at hV
            have HV := hide hVe
            have HVB := hide hV
            clear hVe hV hng
            by_cases h9 : (9 : Int) < (c : Int)
            · have HF := hide (rdS_no (l := s.data.toList) (rdOk_k (by rw [← HK.out]; omega)))
              go_wp2
              refine bodyPost_ret (v := .tuple #[.int .i64 0, .bool false]) (by simp [results, Tryd.results4, go_sem]) rfl ⟨?_, Below.refl _ _⟩
              rw [HF.out]
            · by_cases h10 : (10 : Int) < (s.size : Int)
              · have HF := hide (rdS_no (l := s.data.toList) (rdOk_l (by have e : s.data.toList.length = s.size := (by simp); omega)))
                go_wp2
                refine bodyPost_ret (v := .tuple #[.int .i64 0, .bool false]) (by simp [results, Tryd.results4, go_sem]) rfl ⟨?_, Below.refl _ _⟩
                rw [HF.out]
              · go_wp2_with fail
                refine (specDec_any ((x : Int)) (by have := HVB.out; omega) (by have := HVB.out; omega) wr).mono ?_
                rintro e w1 ⟨rfl, hb⟩
                obtain ⟨t, ht⟩ : ∃ t : ByteArray, t = ⟨(Lib.itoa ((x : Int))).toArray⟩ := ⟨_, rfl⟩
                rw [← ht]
                have HT := hide ht
                have HB := hide hb
                clear ht hb
                by_cases hts : t = s
                · have HF := hide (rdS_yes (l := s.data.toList) (by
                    have e1 : Lib.itoa (rdV s.data.toList) = s.data.toList := by rw [← HV.out]; exact (bytes_eq s _).1 (HT.out.symm.trans hts)
                    have e : s.data.toList.length = s.size := by simp
                    exact rdOk_y (by rw [← HK.out]; omega) (by omega) e1))
                  go_wp2
                  refine bodyPost_ret (v := .tuple #[.int .i64 ((x : Int)), .bool true]) (by simp [results, Tryd.results4, go_sem]) rfl ⟨?_, HB.out⟩
                  rw [HF.out, ← HV.out]
                · have HF := hide (rdS_no (l := s.data.toList) (by
                    have e1 : Lib.itoa (rdV s.data.toList) ≠ s.data.toList := fun e => hts (HT.out.trans ((bytes_eq s _).2 (by rw [HV.out]; exact e)))
                    exact rdOk_s e1))
                  have hne : (t.toList == s.toList) = false := by
                    rw [beq_eq_false_iff_ne, ByteArray.toList_eq, ByteArray.toList_eq]
                    intro e
                    exact hts (by cases t with | mk d => cases s with | mk d' => exact congrArg ByteArray.mk (Array.toList_inj.1 e))
                  clear hts
                  go_wp2
                  refine bodyPost_ret (v := .tuple #[.int .i64 0, .bool false]) (by simp [results, Tryd.results4, go_sem]) rfl ⟨?_, HB.out⟩
                  rw [HF.out]
        · have hpi : decide ((0 : Int) < (s.size : Int)) = false := decide_eq_false (by omega)
          have hpn : decide (0 < s.size) = false := decide_eq_false hp
          have hng : neg1 s.data.toList = false := by
            have e : s.data.toList = [] := List.eq_nil_of_length_eq_zero (by have e : s.data.toList.length = s.size := (by simp); omega)
            rw [e]; rfl
          clear hp
          have hV := rdV_bd s.data.toList
          have hVe := (show (x : Int) = rdV s.data.toList by unfold rdV; rw [hng, ← HN.out]; rfl)
          rw [← hVe] at hV
          have HV := hide hVe
          have HVB := hide hV
          clear hVe hV hng
          by_cases h9 : (9 : Int) < (c : Int)
          · have HF := hide (rdS_no (l := s.data.toList) (rdOk_k (by rw [← HK.out]; omega)))
            go_wp2
            refine bodyPost_ret (v := .tuple #[.int .i64 0, .bool false]) (by simp [results, Tryd.results4, go_sem]) rfl ⟨?_, Below.refl _ _⟩
            rw [HF.out]
          · by_cases h10 : (10 : Int) < (s.size : Int)
            · have HF := hide (rdS_no (l := s.data.toList) (rdOk_l (by have e : s.data.toList.length = s.size := (by simp); omega)))
              go_wp2
              refine bodyPost_ret (v := .tuple #[.int .i64 0, .bool false]) (by simp [results, Tryd.results4, go_sem]) rfl ⟨?_, Below.refl _ _⟩
              rw [HF.out]
            · go_wp2_with fail
              refine (specDec_any ((x : Int)) (by have := HVB.out; omega) (by have := HVB.out; omega) wr).mono ?_
              rintro e w1 ⟨rfl, hb⟩
              obtain ⟨t, ht⟩ : ∃ t : ByteArray, t = ⟨(Lib.itoa ((x : Int))).toArray⟩ := ⟨_, rfl⟩
              rw [← ht]
              have HT := hide ht
              have HB := hide hb
              clear ht hb
              by_cases hts : t = s
              · have HF := hide (rdS_yes (l := s.data.toList) (by
                  have e1 : Lib.itoa (rdV s.data.toList) = s.data.toList := by rw [← HV.out]; exact (bytes_eq s _).1 (HT.out.symm.trans hts)
                  have e : s.data.toList.length = s.size := by simp
                  exact rdOk_y (by rw [← HK.out]; omega) (by omega) e1))
                go_wp2
                refine bodyPost_ret (v := .tuple #[.int .i64 ((x : Int)), .bool true]) (by simp [results, Tryd.results4, go_sem]) rfl ⟨?_, HB.out⟩
                rw [HF.out, ← HV.out]
              · have HF := hide (rdS_no (l := s.data.toList) (by
                  have e1 : Lib.itoa (rdV s.data.toList) ≠ s.data.toList := fun e => hts (HT.out.trans ((bytes_eq s _).2 (by rw [HV.out]; exact e)))
                  exact rdOk_s e1))
                have hne : (t.toList == s.toList) = false := by
                  rw [beq_eq_false_iff_ne, ByteArray.toList_eq, ByteArray.toList_eq]
                  intro e
                  exact hts (by cases t with | mk d => cases s with | mk d' => exact congrArg ByteArray.mk (Array.toList_inj.1 e))
                clear hts
                go_wp2
                refine bodyPost_ret (v := .tuple #[.int .i64 0, .bool false]) (by simp [results, Tryd.results4, go_sem]) rfl ⟨?_, HB.out⟩
                rw [HF.out]
    · have hi : ¬ (k : Int) < (s.size : Int) := by omega
      have ht11 : s.data.toList.take k = s.data.toList.take 11 := by rw [List.take_of_length_le (by have e : s.data.toList.length = s.size := (by simp); omega), List.take_of_length_le (by have e : s.data.toList.length = s.size := (by simp); omega)]
      have HK := hide (show c = nmK (s.data.toList.take 11) by rw [← ht11]; exact HC.out)
      have HN := hide (show x = nmN (s.data.toList.take 11) by rw [← ht11]; exact HX.out)
      clear ht11
      by_cases hp : 0 < s.size
      · have hpi : (0 : Int) < (s.size : Int) := by omega
        have h45 := head_45 s hp
        by_cases hm : s[0].toNat = 45
        · have hmi : (s[0].toNat : Int) = 45 := by omega
          have hng : neg1 s.data.toList = true := by rw [h45]; exact decide_eq_true hm
          clear h45 hm
          have hV := rdV_bd s.data.toList
          have hVe := (show -(x : Int) = rdV s.data.toList by unfold rdV; rw [if_pos hng, ← HN.out])
          rw [← hVe] at hV
          have HV := hide hVe
          have HVB := hide hV
          clear hVe hV hng
          by_cases h9 : (9 : Int) < (c : Int)
          · have HF := hide (rdS_no (l := s.data.toList) (rdOk_k (by rw [← HK.out]; omega)))
            go_wp2
            refine bodyPost_ret (v := .tuple #[.int .i64 0, .bool false]) (by simp [results, Tryd.results4, go_sem]) rfl ⟨?_, Below.refl _ _⟩
            rw [HF.out]
          · by_cases h10 : (10 : Int) < (s.size : Int)
            · have HF := hide (rdS_no (l := s.data.toList) (rdOk_l (by have e : s.data.toList.length = s.size := (by simp); omega)))
              go_wp2
              refine bodyPost_ret (v := .tuple #[.int .i64 0, .bool false]) (by simp [results, Tryd.results4, go_sem]) rfl ⟨?_, Below.refl _ _⟩
              rw [HF.out]
            · go_wp2_with fail
              refine (specDec_any (-(x : Int)) (by have := HVB.out; omega) (by have := HVB.out; omega) wr).mono ?_
              rintro e w1 ⟨rfl, hb⟩
              obtain ⟨t, ht⟩ : ∃ t : ByteArray, t = ⟨(Lib.itoa (-(x : Int))).toArray⟩ := ⟨_, rfl⟩
              rw [← ht]
              have HT := hide ht
              have HB := hide hb
              clear ht hb
              by_cases hts : t = s
              · have HF := hide (rdS_yes (l := s.data.toList) (by
                  have e1 : Lib.itoa (rdV s.data.toList) = s.data.toList := by rw [← HV.out]; exact (bytes_eq s _).1 (HT.out.symm.trans hts)
                  have e : s.data.toList.length = s.size := by simp
                  exact rdOk_y (by rw [← HK.out]; omega) (by omega) e1))
                go_wp2
                refine bodyPost_ret (v := .tuple #[.int .i64 (-(x : Int)), .bool true]) (by simp [results, Tryd.results4, go_sem]) rfl ⟨?_, HB.out⟩
                rw [HF.out, ← HV.out]
              · have HF := hide (rdS_no (l := s.data.toList) (by
                  have e1 : Lib.itoa (rdV s.data.toList) ≠ s.data.toList := fun e => hts (HT.out.trans ((bytes_eq s _).2 (by rw [HV.out]; exact e)))
                  exact rdOk_s e1))
                have hne : (t.toList == s.toList) = false := by
                  rw [beq_eq_false_iff_ne, ByteArray.toList_eq, ByteArray.toList_eq]
                  intro e
                  exact hts (by cases t with | mk d => cases s with | mk d' => exact congrArg ByteArray.mk (Array.toList_inj.1 e))
                clear hts
                go_wp2
                refine bodyPost_ret (v := .tuple #[.int .i64 0, .bool false]) (by simp [results, Tryd.results4, go_sem]) rfl ⟨?_, HB.out⟩
                rw [HF.out]
        · have hmb : ((s[0].toNat : Int) == 45) = false := by rw [beq_eq_false_iff_ne]; omega
          have hng : neg1 s.data.toList = false := by rw [h45]; exact decide_eq_false hm
          clear h45 hm
          have hV := rdV_bd s.data.toList
          have hVe := (show (x : Int) = rdV s.data.toList by unfold rdV; rw [hng, ← HN.out]; rfl)
          rw [← hVe] at hV
          have HV := hide hVe
          have HVB := hide hV
          clear hVe hV hng
          by_cases h9 : (9 : Int) < (c : Int)
          · have HF := hide (rdS_no (l := s.data.toList) (rdOk_k (by rw [← HK.out]; omega)))
            go_wp2
            refine bodyPost_ret (v := .tuple #[.int .i64 0, .bool false]) (by simp [results, Tryd.results4, go_sem]) rfl ⟨?_, Below.refl _ _⟩
            rw [HF.out]
          · by_cases h10 : (10 : Int) < (s.size : Int)
            · have HF := hide (rdS_no (l := s.data.toList) (rdOk_l (by have e : s.data.toList.length = s.size := (by simp); omega)))
              go_wp2
              refine bodyPost_ret (v := .tuple #[.int .i64 0, .bool false]) (by simp [results, Tryd.results4, go_sem]) rfl ⟨?_, Below.refl _ _⟩
              rw [HF.out]
            · go_wp2_with fail
              refine (specDec_any ((x : Int)) (by have := HVB.out; omega) (by have := HVB.out; omega) wr).mono ?_
              rintro e w1 ⟨rfl, hb⟩
              obtain ⟨t, ht⟩ : ∃ t : ByteArray, t = ⟨(Lib.itoa ((x : Int))).toArray⟩ := ⟨_, rfl⟩
              rw [← ht]
              have HT := hide ht
              have HB := hide hb
              clear ht hb
              by_cases hts : t = s
              · have HF := hide (rdS_yes (l := s.data.toList) (by
                  have e1 : Lib.itoa (rdV s.data.toList) = s.data.toList := by rw [← HV.out]; exact (bytes_eq s _).1 (HT.out.symm.trans hts)
                  have e : s.data.toList.length = s.size := by simp
                  exact rdOk_y (by rw [← HK.out]; omega) (by omega) e1))
                go_wp2
                refine bodyPost_ret (v := .tuple #[.int .i64 ((x : Int)), .bool true]) (by simp [results, Tryd.results4, go_sem]) rfl ⟨?_, HB.out⟩
                rw [HF.out, ← HV.out]
              · have HF := hide (rdS_no (l := s.data.toList) (by
                  have e1 : Lib.itoa (rdV s.data.toList) ≠ s.data.toList := fun e => hts (HT.out.trans ((bytes_eq s _).2 (by rw [HV.out]; exact e)))
                  exact rdOk_s e1))
                have hne : (t.toList == s.toList) = false := by
                  rw [beq_eq_false_iff_ne, ByteArray.toList_eq, ByteArray.toList_eq]
                  intro e
                  exact hts (by cases t with | mk d => cases s with | mk d' => exact congrArg ByteArray.mk (Array.toList_inj.1 e))
                clear hts
                go_wp2
                refine bodyPost_ret (v := .tuple #[.int .i64 0, .bool false]) (by simp [results, Tryd.results4, go_sem]) rfl ⟨?_, HB.out⟩
                rw [HF.out]
      · have hpi : decide ((0 : Int) < (s.size : Int)) = false := decide_eq_false (by omega)
        have hpn : decide (0 < s.size) = false := decide_eq_false hp
        have hng : neg1 s.data.toList = false := by
          have e : s.data.toList = [] := List.eq_nil_of_length_eq_zero (by have e : s.data.toList.length = s.size := (by simp); omega)
          rw [e]; rfl
        clear hp
        have hV := rdV_bd s.data.toList
        have hVe := (show (x : Int) = rdV s.data.toList by unfold rdV; rw [hng, ← HN.out]; rfl)
        rw [← hVe] at hV
        have HV := hide hVe
        have HVB := hide hV
        clear hVe hV hng
        by_cases h9 : (9 : Int) < (c : Int)
        · have HF := hide (rdS_no (l := s.data.toList) (rdOk_k (by rw [← HK.out]; omega)))
          go_wp2
          refine bodyPost_ret (v := .tuple #[.int .i64 0, .bool false]) (by simp [results, Tryd.results4, go_sem]) rfl ⟨?_, Below.refl _ _⟩
          rw [HF.out]
        · by_cases h10 : (10 : Int) < (s.size : Int)
          · have HF := hide (rdS_no (l := s.data.toList) (rdOk_l (by have e : s.data.toList.length = s.size := (by simp); omega)))
            go_wp2
            refine bodyPost_ret (v := .tuple #[.int .i64 0, .bool false]) (by simp [results, Tryd.results4, go_sem]) rfl ⟨?_, Below.refl _ _⟩
            rw [HF.out]
          · go_wp2_with fail
            refine (specDec_any ((x : Int)) (by have := HVB.out; omega) (by have := HVB.out; omega) wr).mono ?_
            rintro e w1 ⟨rfl, hb⟩
            obtain ⟨t, ht⟩ : ∃ t : ByteArray, t = ⟨(Lib.itoa ((x : Int))).toArray⟩ := ⟨_, rfl⟩
            rw [← ht]
            have HT := hide ht
            have HB := hide hb
            clear ht hb
            by_cases hts : t = s
            · have HF := hide (rdS_yes (l := s.data.toList) (by
                have e1 : Lib.itoa (rdV s.data.toList) = s.data.toList := by rw [← HV.out]; exact (bytes_eq s _).1 (HT.out.symm.trans hts)
                have e : s.data.toList.length = s.size := by simp
                exact rdOk_y (by rw [← HK.out]; omega) (by omega) e1))
              go_wp2
              refine bodyPost_ret (v := .tuple #[.int .i64 ((x : Int)), .bool true]) (by simp [results, Tryd.results4, go_sem]) rfl ⟨?_, HB.out⟩
              rw [HF.out, ← HV.out]
            · have HF := hide (rdS_no (l := s.data.toList) (by
                have e1 : Lib.itoa (rdV s.data.toList) ≠ s.data.toList := fun e => hts (HT.out.trans ((bytes_eq s _).2 (by rw [HV.out]; exact e)))
                exact rdOk_s e1))
              have hne : (t.toList == s.toList) = false := by
                rw [beq_eq_false_iff_ne, ByteArray.toList_eq, ByteArray.toList_eq]
                intro e
                exact hts (by cases t with | mk d => cases s with | mk d' => exact congrArg ByteArray.mk (Array.toList_inj.1 e))
              clear hts
              go_wp2
              refine bodyPost_ret (v := .tuple #[.int .i64 0, .bool false]) (by simp [results, Tryd.results4, go_sem]) rfl ⟨?_, HB.out⟩
              rw [HF.out]
end Go.Proofs.YtciehbedpjfflaaDoor
