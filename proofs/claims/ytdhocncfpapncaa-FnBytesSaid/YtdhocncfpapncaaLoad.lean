/-
  LoadNum: a number of at most seven bytes read out of a slice. The contracts and the walk of FnExactLoadNum.
-/
import Derived.Test.YtdhocncfpapncaaBok
import Derived.OpenShut
namespace Go.Proofs.Ytdhocncfpapncaa
open Go.RowKit
set_option linter.unusedVariables false

def inR (n x y : Int) : Bool := decide (0 ≤ x ∧ 0 ≤ y ∧ x + y ≤ n)
def wdR (y : Int) : Bool := decide (1 ≤ y ∧ y ≤ 7)
def ldR (zs : List Int) (off : Nat) : Nat → Int
  | 0 => 0
  | k + 1 => ldR zs off k * 256 + zs.getD (off + k) 0
def okL (zs : List Int) (x y : Int) : Bool := bokR zs && wdR y && inR zs.length x y
def loadR (zs : List Int) (x y : Int) : Int := if okL zs x y then ldR zs x.toNat y.toNat else 0

theorem bok_byte {zs : List Int} (h : bokR zs = true) (j : Nat) (hj : j < zs.length) : 0 ≤ zs.getD j 0 ∧ zs.getD j 0 ≤ 255 := by
  unfold bokR at h
  rw [Bool.and_eq_true, List.all_eq_true] at h
  have := h.1 zs[j] (List.getElem_mem _)
  have e : zs.getD j 0 = zs[j] := by simp [List.getD, hj]
  rw [e]
  simpa [isB] using this
theorem ldR_bd {zs : List Int} (h : bokR zs = true) (off k : Nat) (hk : off + k ≤ zs.length) : 0 ≤ ldR zs off k ∧ ldR zs off k < 256 ^ k := by
  induction k with
  | zero => simp [ldR]
  | succ k ih =>
    have h1 := ih (by omega)
    have h2 := bok_byte h (off + k) (by omega)
    rw [Int.pow_succ]
    simp only [ldR]
    omega
theorem ldR_le {zs : List Int} (h : bokR zs = true) (off k : Nat) (h7 : k ≤ 6) (hk : off + k ≤ zs.length) : 0 ≤ ldR zs off k ∧ ldR zs off k ≤ 281474976710656 := by
  have h1 := ldR_bd h off k hk
  have h2 : (256 : Int) ^ k ≤ 281474976710656 := by
    have : k = 0 ∨ k = 1 ∨ k = 2 ∨ k = 3 ∨ k = 4 ∨ k = 5 ∨ k = 6 := by omega
    rcases this with rfl | rfl | rfl | rfl | rfl | rfl | rfl <;> decide
  omega
theorem ret2 {a b : Int} {p q : Bool} (h1 : a = b) (h2 : p = q) : Ending.returned (.tuple #[.int .i64 a, .bool p]) = .returned (.tuple #[.int .i64 b, .bool q]) := by rw [h1, h2]

theorem isWidth_any (y : Int) (w : World) : Calls Try.prog 27 #[.int .i64 y] w fun e w' => e = .returned (.bool (wdR y)) ∧ w = w' := by
  by_cases h : 1 ≤ y ∧ y ≤ 7
  · have HT : Hid (wdR y = true) := hide (by simpa [wdR] using h)
    have H := hide h
    clear h
    go_enter Try.func27, Try.ntmps27
    go_wp2_with fail
    refine (within_yes _ _ _ _ H.out.1 H.out.2).mono ?_
    rintro e w1 ⟨rfl, rfl⟩
    go_wp2
    go_ret
    exact ⟨retB HT.out.symm, rfl⟩
  · have HT : Hid (wdR y = false) := hide (by simpa [wdR] using h)
    have H := hide h
    clear h
    go_enter Try.func27, Try.ntmps27
    go_wp2_with fail
    refine (within_no _ _ _ _ H.out).mono ?_
    rintro e w1 ⟨rfl, rfl⟩
    go_wp2
    go_ret
    exact ⟨retB HT.out.symm, rfl⟩
theorem l1InW_any (y : Int) (w : World) : Calls Try.prog 22 #[.int .i64 y, .int .i64 1, .int .i64 7] w fun e w' => e = .returned (.bool (wdR y)) ∧ w = w' := by
  by_cases h : 1 ≤ y ∧ y ≤ 7
  · have HT : wdR y = true := by simpa [wdR] using h
    rw [HT]
    exact l1In_yes _ _ _ _ h.1 h.2
  · have HT : wdR y = false := by simpa [wdR] using h
    rw [HT]
    exact l1In_no _ _ _ _ h

set_option maxHeartbeats 400000 in
theorem l3In_any (A : Option Addr) (n c : Nat) (x y : Int) (w : World) (hz : n ≤ 2097152) :
    Calls Try.prog 23 #[.slice A n c, .int .i64 x, .int .i64 y] w fun e w' => e = .returned (.bool (inR n x y)) ∧ w = w' := by
  have hz1 : (n : Int) ≤ 2097152 := by omega
  clear hz
  by_cases h1 : 0 ≤ x ∧ x ≤ n
  · by_cases h2 : 0 ≤ y ∧ y ≤ (n : Int) - x
    · have HT : Hid (inR n x y = true) := hide (by unfold inR; rw [decide_eq_true_eq]; omega)
      have H1 := hide h1
      have H2 := hide h2
      have k1 : 0 ≤ x := h1.1
      have k2 : x ≤ n := h1.2
      clear h1 h2
      go_enter Try.func23, Try.ntmps23
      go_wp2_with fail
      refine (l1In_yes _ _ _ _ H1.out.1 H1.out.2).mono ?_
      rintro e w1 ⟨rfl, rfl⟩
      go_wp2_with fail
      refine (l1In_yes _ _ _ _ H2.out.1 H2.out.2).mono ?_
      rintro e w1 ⟨rfl, rfl⟩
      go_wp2
      go_ret
      exact ⟨retB HT.out.symm, rfl⟩
    · have HT : Hid (inR n x y = false) := hide (by unfold inR; rw [decide_eq_false_iff_not]; omega)
      have H1 := hide h1
      have H2 := hide h2
      have k1 : 0 ≤ x := h1.1
      have k2 : x ≤ n := h1.2
      clear h1 h2
      go_enter Try.func23, Try.ntmps23
      go_wp2_with fail
      refine (l1In_yes _ _ _ _ H1.out.1 H1.out.2).mono ?_
      rintro e w1 ⟨rfl, rfl⟩
      go_wp2_with fail
      refine (l1In_no _ _ _ _ H2.out).mono ?_
      rintro e w1 ⟨rfl, rfl⟩
      go_wp2
      go_ret
      exact ⟨retB HT.out.symm, rfl⟩
  · have HT : Hid (inR n x y = false) := hide (by unfold inR; rw [decide_eq_false_iff_not]; omega)
    have H1 := hide h1
    clear h1
    go_enter Try.func23, Try.ntmps23
    go_wp2_with fail
    refine (l1In_no _ _ _ _ H1.out).mono ?_
    rintro e w1 ⟨rfl, rfl⟩
    go_wp2
    go_ret
    exact ⟨retB HT.out.symm, rfl⟩

set_option maxHeartbeats 400000 in
theorem exist_any (A : Option Addr) (n c : Nat) (x y : Int) (w : World) (hz : n ≤ 2097152) :
    Calls Try.prog 28 #[.slice A n c, .int .i64 x, .int .i64 y] w fun e w' => e = .returned (.bool (inR n x y)) ∧ w = w' := by
  have hz1 : (n : Int) ≤ 2097152 := by omega
  clear hz
  by_cases h1 : 0 ≤ y ∧ y ≤ n
  · by_cases h2 : 0 ≤ x ∧ x ≤ (n : Int) - y
    · have HT : Hid (inR n x y = true) := hide (by unfold inR; rw [decide_eq_true_eq]; omega)
      have H1 := hide h1
      have H2 := hide h2
      have k1 : 0 ≤ y := h1.1
      have k2 : y ≤ n := h1.2
      clear h1 h2
      go_enter Try.func28, Try.ntmps28
      go_wp2_with fail
      refine (within_yes _ _ _ _ H1.out.1 H1.out.2).mono ?_
      rintro e w1 ⟨rfl, rfl⟩
      go_wp2_with fail
      refine (within_yes _ _ _ _ H2.out.1 H2.out.2).mono ?_
      rintro e w1 ⟨rfl, rfl⟩
      go_wp2
      go_ret
      exact ⟨retB HT.out.symm, rfl⟩
    · have HT : Hid (inR n x y = false) := hide (by unfold inR; rw [decide_eq_false_iff_not]; omega)
      have H1 := hide h1
      have H2 := hide h2
      have k1 : 0 ≤ y := h1.1
      have k2 : y ≤ n := h1.2
      clear h1 h2
      go_enter Try.func28, Try.ntmps28
      go_wp2_with fail
      refine (within_yes _ _ _ _ H1.out.1 H1.out.2).mono ?_
      rintro e w1 ⟨rfl, rfl⟩
      go_wp2_with fail
      refine (within_no _ _ _ _ H2.out).mono ?_
      rintro e w1 ⟨rfl, rfl⟩
      go_wp2
      go_ret
      exact ⟨retB HT.out.symm, rfl⟩
  · have HT : Hid (inR n x y = false) := hide (by unfold inR; rw [decide_eq_false_iff_not]; omega)
    have H1 := hide h1
    clear h1
    go_enter Try.func28, Try.ntmps28
    go_wp2_with fail
    refine (within_no _ _ _ _ H1.out).mono ?_
    rintro e w1 ⟨rfl, rfl⟩
    go_wp2
    go_ret
    exact ⟨retB HT.out.symm, rfl⟩

set_option maxRecDepth 100000 in
set_option maxHeartbeats 800000 in
theorem l3Load_any (A : Option Addr) (n c : Nat) (zs : List Int) (U : Nat) (off m : Nat) (w : World) (hn : n = zs.length) (hz : n ≤ 1000) (hc : n ≤ c) (hcm : c ≤ maxLen) (ha : RdB .i64 w A zs U) (h1 : 1 ≤ m) (h7 : m ≤ 7) (hom : off + m ≤ n) (hbk : bokR zs = true) :
    Calls Try.prog 30 #[.slice A n c, .int .i64 (off : Int), .int .i64 (m : Int)] w fun e w' => e = .returned (.int .i64 (ldR zs off m)) ∧ w = w' := by
  have HN := hide hn
  have HA := hide ha
  have HK := hide hbk
  have q1 : (n : Int) ≤ 1000 := by omega
  have q2 : (m : Int) ≤ 7 := by omega
  have q3 : (off : Int) + (m : Int) ≤ (n : Int) := by omega
  have q4 : (n : Int) ≤ (c : Int) := by omega
  have q5 : (0 : Int) ≤ (off : Int) := by omega
  have q6 : (off : Int) ≤ (off : Int) + (m : Int) := by omega
  have q7 : (off : Int) + (m : Int) ≤ (c : Int) := by omega
  have q8 : (0 : Int) ≤ (off : Int) + (m : Int) := by omega
  obtain ⟨b, o, rfl, hb0, _⟩ := ha off (by omega)
  clear ha hn hbk
  go_enter Try.func30, Try.ntmps30
  go_wp2
  try simp only [Nat.add_sub_cancel_left]
  go_loopg [7, 8] (m + 1) (fun g s i wr => wr = w ∧ ∃ k : Nat, k ≤ m ∧ g = m + 1 - k ∧ i = .int .i64 k ∧ s = .int .i64 (ldR zs off k))
  case atStart => exact ⟨rfl, 0, Nat.zero_le _, rfl, rfl, rfl⟩
  case round =>
    obtain ⟨rfl, k, hk, hg, rfl, rfl⟩ := hrel
    have HG := hide hg
    clear hg
    by_cases hlt : k < m
    · have hi : (k : Int) < (m : Int) := by omega
      obtain ⟨b', o', e', hb, hc0⟩ := HA.out (off + k) (by have := HN.out; omega)
      injection e' with e'
      injection e' with e1 e2
      subst e1 e2
      have hbd := ldR_le HK.out off k (by omega) (by have := HN.out; omega)
      have hby := bok_byte HK.out (off + k) (by have := HN.out; omega)
      have hst : ldR zs off (k + 1) = ldR zs off k * 256 + zs.getD (off + k) 0 := rfl
      have HST := hide hst
      clear hst
      obtain ⟨t1, t2⟩ := hbd
      obtain ⟨t3, t4⟩ := hby
      generalize ldR zs off k = s at *
      generalize zs.getD (off + k) 0 = x at *
      have q9 : (off : Int) + (k : Int) < (n : Int) := by omega
      have q10 : (0 : Int) ≤ (off : Int) + (k : Int) := by omega
      have hc1 : wr.cell? ⟨b, o + off + k, none⟩ = some (.int .i64 x) := by rw [Nat.add_assoc]; exact hc0
      go_wp2
      go_roundg (m + 1 - (k + 1))
      case measure => have := HG.out; omega
      case rel => exact ⟨rfl, k + 1, by omega, rfl, by go_num, by rw [HST.out]; first | rfl | (done) | (congr 1; omega)⟩
    · have hi : ¬ (k : Int) < (m : Int) := by omega
      have hkm : k = m := by omega
      subst hkm
      go_wp2
      go_ret
      exact ⟨rfl, rfl⟩

set_option maxRecDepth 100000 in
set_option maxHeartbeats 800000 in
theorem loadNum_any (A : Option Addr) (n c : Nat) (zs : List Int) (U : Nat) (off m : Nat) (w : World) (hn : n = zs.length) (hz : n ≤ 1000) (hc : n ≤ c) (hcm : c ≤ maxLen) (ha : RdB .i64 w A zs U) (h1 : 1 ≤ m) (h7 : m ≤ 7) (hom : off + m ≤ n) (hbk : bokR zs = true) :
    Calls Try.prog 29 #[.slice A n c, .int .i64 (off : Int), .int .i64 (m : Int)] w fun e w' => e = .returned (.int .i64 (ldR zs off m)) ∧ w = w' := by
  have HN := hide hn
  have HA := hide ha
  have HK := hide hbk
  have q1 : (n : Int) ≤ 1000 := by omega
  have q2 : (m : Int) ≤ 7 := by omega
  have q3 : (off : Int) + (m : Int) ≤ (n : Int) := by omega
  have q4 : (n : Int) ≤ (c : Int) := by omega
  have q5 : (0 : Int) ≤ (off : Int) := by omega
  have q6 : (off : Int) ≤ (off : Int) + (m : Int) := by omega
  have q7 : (off : Int) + (m : Int) ≤ (c : Int) := by omega
  have q8 : (0 : Int) ≤ (off : Int) + (m : Int) := by omega
  obtain ⟨b, o, rfl, hb0, _⟩ := ha off (by omega)
  clear ha hn hbk
  go_enter Try.func29, Try.ntmps29
  go_wp2
  try simp only [Nat.add_sub_cancel_left]
  go_loopg [7, 9, 17] (m + 1) (fun g s _x i wr => wr = w ∧ ∃ k : Nat, k ≤ m ∧ g = m + 1 - k ∧ i = .int .i64 k ∧ s = .int .i64 (ldR zs off k))
  case atStart => exact ⟨rfl, 0, Nat.zero_le _, rfl, rfl, rfl⟩
  case round =>
    obtain ⟨rfl, k, hk, hg, rfl, rfl⟩ := hrel
    have HG := hide hg
    clear hg
    by_cases hlt : k < m
    · have hi : (k : Int) < (m : Int) := by omega
      obtain ⟨b', o', e', hb, hc0⟩ := HA.out (off + k) (by have := HN.out; omega)
      injection e' with e'
      injection e' with e1 e2
      subst e1 e2
      have hbd := ldR_le HK.out off k (by omega) (by have := HN.out; omega)
      have hby := bok_byte HK.out (off + k) (by have := HN.out; omega)
      have hst : ldR zs off (k + 1) = ldR zs off k * 256 + zs.getD (off + k) 0 := rfl
      have HST := hide hst
      clear hst
      obtain ⟨t1, t2⟩ := hbd
      obtain ⟨t3, t4⟩ := hby
      generalize ldR zs off k = s at *
      generalize zs.getD (off + k) 0 = x at *
      have q9 : (off : Int) + (k : Int) < (n : Int) := by omega
      have q10 : (0 : Int) ≤ (off : Int) + (k : Int) := by omega
      have hc1 : wr.cell? ⟨b, o + off + k, none⟩ = some (.int .i64 x) := by rw [Nat.add_assoc]; exact hc0
      go_wp2
      go_roundg (m + 1 - (k + 1))
      case measure => have := HG.out; omega
      case rel => exact ⟨rfl, k + 1, by omega, rfl, by go_num, by rw [HST.out]; first | rfl | (done) | (congr 1; omega)⟩
    · have hi : ¬ (k : Int) < (m : Int) := by omega
      have hkm : k = m := by omega
      subst hkm
      go_wp2
      go_ret
      exact ⟨rfl, rfl⟩

theorem specLoad_any (A : Option Addr) (n c : Nat) (zs : List Int) (x y : Int) (U : Nat) (w : World) (hn : n = zs.length) (hz : n ≤ 2097152) (hc : n ≤ c) (hcm : c ≤ maxLen) (ha : RdB .i64 w A zs U) (hU : U ≤ w.heap.size) :
    Calls Try.prog 10 #[.slice A n c, .int .i64 x, .int .i64 y] w fun e w' => e = .returned (.tuple #[.int .i64 (loadR zs x y), .bool (okL zs x y)]) ∧ Below w.heap.size w w' := by
  have HN := hide hn
  have HA := hide ha
  have hz1 : (n : Int) ≤ 2097152 := by omega
  have HBOK := hide (specBok_any A n c zs U w hn hz ha)
  clear hn ha
  by_cases h1 : bokR zs = true
  · by_cases h2 : wdR y = true
    · by_cases h3 : inR n x y = true
      · have HO : Hid (okL zs x y = true) := hide (by unfold okL; rw [h1, h2, ← HN.out, h3]; rfl)
        have h2' : 1 ≤ y ∧ y ≤ 7 := by simpa [wdR] using h2
        have h3' : 0 ≤ x ∧ 0 ≤ y ∧ x + y ≤ n := by simpa [inR] using h3
        have h1k : n ≤ 1000 := by
          have : bokR zs = true := h1
          unfold bokR at this
          rw [Bool.and_eq_true] at this
          have t := this.2
          have := HN.out
          simp at t
          omega
        obtain ⟨off, rfl⟩ := Int.eq_ofNat_of_zero_le h3'.1
        obtain ⟨m, rfl⟩ := Int.eq_ofNat_of_zero_le h3'.2.1
        have HV : Hid (loadR zs off m = ldR zs off m) := hide (by unfold loadR; rw [HO.out]; simp)
        have H1 := hide h1
        have H2 := hide h2
        have H3 := hide h3
        have m1 : 1 ≤ m := by omega
        have m7 : m ≤ 7 := by omega
        have mo : off + m ≤ n := by omega
        clear h1 h2 h3 h2' h3'
        go_enter Try.func10, Try.ntmps10
        go_wp2_with fail
        refine HBOK.out.mono ?_
        rintro e w1 ⟨rfl, hb1⟩
        rw [H1.out]
        have HB1 := hide hb1
        clear hb1
        go_wp2_with fail
        refine (l1InW_any _ _).mono ?_
        rintro e w2 ⟨rfl, rfl⟩
        rw [H2.out]
        go_wp2_with fail
        refine (l3In_any _ _ _ _ _ _ hz).mono ?_
        rintro e w2 ⟨rfl, rfl⟩
        rw [H3.out]
        go_wp2_with fail
        refine (l3Load_any _ _ _ zs w1.heap.size off m w1 HN.out h1k hc hcm ((HA.out.below HB1.out hU).more (by have := HB1.out.size; omega)) m1 m7 mo H1.out).mono ?_
        rintro e w2 ⟨rfl, rfl⟩
        go_wp2
        go_ret2
        exact ⟨ret2 HV.out.symm HO.out.symm, HB1.out⟩
      · have h3' : inR n x y = false := by simpa using h3
        have HO : Hid (okL zs x y = false) := hide (by unfold okL; rw [h1, h2, ← HN.out, h3']; rfl)
        have HV : Hid (loadR zs x y = 0) := hide (by unfold loadR; rw [HO.out]; rfl)
        have H1 := hide h1
        have H2 := hide h2
        have H3 := hide h3'
        clear h1 h2 h3 h3'
        go_enter Try.func10, Try.ntmps10
        go_wp2_with fail
        refine HBOK.out.mono ?_
        rintro e w1 ⟨rfl, hb1⟩
        rw [H1.out]
        have HB1 := hide hb1
        clear hb1
        go_wp2_with fail
        refine (l1InW_any _ _).mono ?_
        rintro e w2 ⟨rfl, rfl⟩
        rw [H2.out]
        go_wp2_with fail
        refine (l3In_any _ _ _ _ _ _ hz).mono ?_
        rintro e w2 ⟨rfl, rfl⟩
        rw [H3.out]
        go_wp2
        go_ret2
        exact ⟨ret2 HV.out.symm HO.out.symm, HB1.out⟩
    · have h2' : wdR y = false := by simpa using h2
      have HO : Hid (okL zs x y = false) := hide (by unfold okL; rw [h1, h2']; rfl)
      have HV : Hid (loadR zs x y = 0) := hide (by unfold loadR; rw [HO.out]; rfl)
      have H1 := hide h1
      have H2 := hide h2'
      clear h1 h2 h2'
      go_enter Try.func10, Try.ntmps10
      go_wp2_with fail
      refine HBOK.out.mono ?_
      rintro e w1 ⟨rfl, hb1⟩
      rw [H1.out]
      have HB1 := hide hb1
      clear hb1
      go_wp2_with fail
      refine (l1InW_any _ _).mono ?_
      rintro e w2 ⟨rfl, rfl⟩
      rw [H2.out]
      go_wp2
      go_ret2
      exact ⟨ret2 HV.out.symm HO.out.symm, HB1.out⟩
  · have h1' : bokR zs = false := by simpa using h1
    have HO : Hid (okL zs x y = false) := hide (by unfold okL; rw [h1']; rfl)
    have HV : Hid (loadR zs x y = 0) := hide (by unfold loadR; rw [HO.out]; rfl)
    have H1 := hide h1'
    clear h1 h1'
    go_enter Try.func10, Try.ntmps10
    go_wp2_with fail
    refine HBOK.out.mono ?_
    rintro e w1 ⟨rfl, hb1⟩
    rw [H1.out]
    have HB1 := hide hb1
    clear hb1
    go_wp2
    go_ret2
    exact ⟨ret2 HV.out.symm HO.out.symm, HB1.out⟩

theorem implLoad_any (A : Option Addr) (n c : Nat) (zs : List Int) (x y : Int) (U : Nat) (w : World) (hn : n = zs.length) (hz : n ≤ 2097152) (hc : n ≤ c) (hcm : c ≤ maxLen) (ha : RdB .i64 w A zs U) (hU : U ≤ w.heap.size) :
    Calls Try.prog 9 #[.slice A n c, .int .i64 x, .int .i64 y] w fun e w' => e = .returned (.tuple #[.int .i64 (loadR zs x y), .bool (okL zs x y)]) ∧ Below w.heap.size w w' := by
  have HN := hide hn
  have HA := hide ha
  have hz1 : (n : Int) ≤ 2097152 := by omega
  have HBOK := hide (implBok_any A n c zs U w hn hz ha)
  clear hn ha
  by_cases h1 : bokR zs = true
  · by_cases h2 : wdR y = true
    · by_cases h3 : inR n x y = true
      · have HO : Hid (okL zs x y = true) := hide (by unfold okL; rw [h1, h2, ← HN.out, h3]; rfl)
        have h2' : 1 ≤ y ∧ y ≤ 7 := by simpa [wdR] using h2
        have h3' : 0 ≤ x ∧ 0 ≤ y ∧ x + y ≤ n := by simpa [inR] using h3
        have h1k : n ≤ 1000 := by
          have : bokR zs = true := h1
          unfold bokR at this
          rw [Bool.and_eq_true] at this
          have t := this.2
          have := HN.out
          simp at t
          omega
        obtain ⟨off, rfl⟩ := Int.eq_ofNat_of_zero_le h3'.1
        obtain ⟨m, rfl⟩ := Int.eq_ofNat_of_zero_le h3'.2.1
        have HV : Hid (loadR zs off m = ldR zs off m) := hide (by unfold loadR; rw [HO.out]; simp)
        have H1 := hide h1
        have H2 := hide h2
        have H3 := hide h3
        have m1 : 1 ≤ m := by omega
        have m7 : m ≤ 7 := by omega
        have mo : off + m ≤ n := by omega
        clear h1 h2 h3 h2' h3'
        go_enter Try.func9, Try.ntmps9
        go_wp2_with fail
        refine HBOK.out.mono ?_
        rintro e w1 ⟨rfl, hb1⟩
        rw [H1.out]
        have HB1 := hide hb1
        clear hb1
        go_wp2_with fail
        refine (isWidth_any _ _).mono ?_
        rintro e w2 ⟨rfl, rfl⟩
        rw [H2.out]
        go_wp2_with fail
        refine (exist_any _ _ _ _ _ _ hz).mono ?_
        rintro e w2 ⟨rfl, rfl⟩
        rw [H3.out]
        go_wp2_with fail
        refine (loadNum_any _ _ _ zs w1.heap.size off m w1 HN.out h1k hc hcm ((HA.out.below HB1.out hU).more (by have := HB1.out.size; omega)) m1 m7 mo H1.out).mono ?_
        rintro e w2 ⟨rfl, rfl⟩
        go_wp2
        go_ret2
        exact ⟨ret2 HV.out.symm HO.out.symm, HB1.out⟩
      · have h3' : inR n x y = false := by simpa using h3
        have HO : Hid (okL zs x y = false) := hide (by unfold okL; rw [h1, h2, ← HN.out, h3']; rfl)
        have HV : Hid (loadR zs x y = 0) := hide (by unfold loadR; rw [HO.out]; rfl)
        have H1 := hide h1
        have H2 := hide h2
        have H3 := hide h3'
        clear h1 h2 h3 h3'
        go_enter Try.func9, Try.ntmps9
        go_wp2_with fail
        refine HBOK.out.mono ?_
        rintro e w1 ⟨rfl, hb1⟩
        rw [H1.out]
        have HB1 := hide hb1
        clear hb1
        go_wp2_with fail
        refine (isWidth_any _ _).mono ?_
        rintro e w2 ⟨rfl, rfl⟩
        rw [H2.out]
        go_wp2_with fail
        refine (exist_any _ _ _ _ _ _ hz).mono ?_
        rintro e w2 ⟨rfl, rfl⟩
        rw [H3.out]
        go_wp2
        go_ret2
        exact ⟨ret2 HV.out.symm HO.out.symm, HB1.out⟩
    · have h2' : wdR y = false := by simpa using h2
      have HO : Hid (okL zs x y = false) := hide (by unfold okL; rw [h1, h2']; rfl)
      have HV : Hid (loadR zs x y = 0) := hide (by unfold loadR; rw [HO.out]; rfl)
      have H1 := hide h1
      have H2 := hide h2'
      clear h1 h2 h2'
      go_enter Try.func9, Try.ntmps9
      go_wp2_with fail
      refine HBOK.out.mono ?_
      rintro e w1 ⟨rfl, hb1⟩
      rw [H1.out]
      have HB1 := hide hb1
      clear hb1
      go_wp2_with fail
      refine (isWidth_any _ _).mono ?_
      rintro e w2 ⟨rfl, rfl⟩
      rw [H2.out]
      go_wp2
      go_ret2
      exact ⟨ret2 HV.out.symm HO.out.symm, HB1.out⟩
  · have h1' : bokR zs = false := by simpa using h1
    have HO : Hid (okL zs x y = false) := hide (by unfold okL; rw [h1']; rfl)
    have HV : Hid (loadR zs x y = 0) := hide (by unfold loadR; rw [HO.out]; rfl)
    have H1 := hide h1'
    clear h1 h1'
    go_enter Try.func9, Try.ntmps9
    go_wp2_with fail
    refine HBOK.out.mono ?_
    rintro e w1 ⟨rfl, hb1⟩
    rw [H1.out]
    have HB1 := hide hb1
    clear hb1
    go_wp2
    go_ret2
    exact ⟨ret2 HV.out.symm HO.out.symm, HB1.out⟩

end Go.Proofs.Ytdhocncfpapncaa
