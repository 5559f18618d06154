/-
  The plain laws of FnNumbers: each reader answers what the writer was given, whatever stands behind. No program.
-/
import Derived.Test.YtciehbedpjfflabDoorRv
import Derived.Test.YtciehbedpjfflabDoorReadF
import Derived.Test.YtciehbedpjfflabDoorFix
import Derived.Test.YtciehbedpjfflabDoorRdI
import Derived.Test.YtciehbedpjfflabDoorHex
import Derived.Test.YtciehbedpjfflabDoorUnhex
namespace Go.Proofs.YtciehbedpjfflabDoor
set_option linter.unusedVariables false

/-! Var and ReadVar -/
theorem app_list (a b : ByteArray) : (a ++ b).data.toList = a.data.toList ++ b.data.toList := by simp [ByteArray.data_append]
theorem varB_pos (N : Nat) : 1 ≤ (varB N).length := by
  have h := varL_ne N N
  unfold varB
  cases hl : varL N N with
  | nil => exact absurd hl h
  | cons b l => simp
theorem rvR_var (N : Nat) (hN : N ≤ 562949953421311) (tl : List UInt8) : rvR (varB N ++ tl) = (N, (varB N).length) := by
  have h1 := varB_pos N
  have h2 := varB_length N (by omega)
  obtain ⟨k, hk⟩ : ∃ k, (varB N).length = k + 1 := ⟨(varB N).length - 1, by omega⟩
  have e : (varB N ++ tl).take (k + 1) = varB N := by rw [← hk, List.take_left']; rfl
  have := rvR_canon (varB N ++ tl) k (by omega) (by rw [List.length_append]; omega) (by rw [e]; exact (varB_canon N).1)
  rw [this, e, (varB_canon N).2, hk]
theorem var_read (n : Int) (h : 0 ≤ n ∧ n ≤ 562949953421311) (u : ByteArray) : ((rvR (varS n ++ u).data.toList).1 : Int) = n ∧ (rvR (varS n ++ u).data.toList).2 = (varS n).size ∧ 1 ≤ (varS n).size := by
  obtain ⟨N, rfl⟩ : ∃ N : Nat, n = (N : Int) := ⟨n.toNat, by omega⟩
  have e : varS (N : Int) = ⟨(varB N).toArray⟩ := varS_yes (by omega)
  have es : (varS (N : Int)).size = (varB N).length := by rw [e]; exact List.size_toArray
  have hl : (varS (N : Int) ++ u).data.toList = varB N ++ u.data.toList := by rw [app_list, e]
  rw [hl, rvR_var N (by omega), es]
  exact ⟨rfl, rfl, varB_pos N⟩

/-! what ReadVar accepts -/
theorem rv_back (t : ByteArray) : (rvR t.data.toList).2 = 0 ∨ (0 < (rvR t.data.toList).2 ∧ (rvR t.data.toList).2 ≤ t.size ∧ varS ((rvR t.data.toList).1 : Int) = t.extract 0 (rvR t.data.toList).2) := by
  have hsz : t.data.toList.length = t.size := by simp
  have hb := rvR_bd t.data.toList
  unfold rvR at hb ⊢
  cases hl : lowAt (t.data.toList.take 7) with
  | none => exact .inl rfl
  | some k =>
    rw [hl] at hb
    simp only at hb ⊢
    obtain ⟨h1, h2, h3⟩ := lowAt_spec _ _ hl
    rw [List.length_take] at h1
    by_cases hc : 0 < k ∧ t.data.toList.getD k 0 = 0
    · rw [if_pos hc]; exact .inl rfl
    · rw [if_neg hc] at hb ⊢
      have hk : k < t.data.toList.length := by omega
      have hc2 : canon (t.data.toList.take (k + 1)) = true := (canon_take' _ _ hk).2 ⟨fun i hi => by have := h2 i hi; rwa [getD_take _ _ _ (by omega)] at this, by rwa [getD_take _ _ _ (by omega)] at h3, fun h0 e => hc ⟨h0, e⟩⟩
      refine .inr ⟨by simp, by simp only; omega, ?_⟩
      simp only at hb ⊢
      rw [varS_yes hb.1, varB_of_canon _ hc2]
      have e := extract_list t (k + 1)
      rw [ByteArray.toList_eq] at e
      rw [← e]
/-! Fixed and ReadFixed -/
theorem rdN_fixN : ∀ (m n : Nat), n < pw m → rdN (fixN m n) = n
  | 0, n, h => by simp only [pw] at h; obtain rfl : n = 0 := by omega
                  rfl
  | m + 1, n, h => by
    simp only [pw] at h
    rw [fixN, rdN_snoc, rdN_fixN m (n / 256) (by omega)]
    have : (UInt8.ofNat (n % 256)).toNat = n % 256 := by simp
    rw [this]; omega
theorem pw7 : pw 7 = 72057594037927936 := by decide
theorem fix_in (n : Int) (h : 0 ≤ n ∧ n < 72057594037927936) (u : ByteArray) : (fixS n 7).size = 7 ∧ 7 ≤ (fixS n 7 ++ u).size ∧ (rdN ((fixS n 7 ++ u).data.toList.take 7) : Int) = n := by
  have h7 : (7 : Int).toNat = 7 := rfl
  have e := fixS_yes (n := n) (width := 7) ⟨by omega, by omega, h.1, by rw [h7, pw7]; exact h.2⟩
  rw [h7] at e
  have es : (fixS n 7).size = 7 := by rw [e]; show (fixN 7 n.toNat).toArray.size = 7; rw [List.size_toArray, fixN_length]
  refine ⟨es, by rw [ByteArray.size_append]; omega, ?_⟩
  have el : (fixS n 7).data.toList = fixN 7 n.toNat := by rw [e]
  rw [app_list, el, List.take_left' (fixN_length 7 _), rdN_fixN 7 _ (by rw [pw7]; omega)]
  omega
theorem fix_out (n : Int) (h : ¬ (0 ≤ n ∧ n < 72057594037927936)) : fixS n 7 = ⟨#[]⟩ :=
  fixS_no (fun h' => h ⟨h'.2.2.1, by have h7 : (7 : Int).toNat = 7 := rfl
                                     have := h'.2.2.2
                                     rw [h7, pw7] at this
                                     exact this⟩)

/-! Dec and ReadDec -/
theorem dd_short : ∀ (k u : Nat), u < 10 ^ (k + 1) → (Lib.decDigits u).length ≤ k + 1
  | 0, u, h => by rw [dd_small (by simpa using h)]; simp
  | k + 1, u, h => by
    by_cases hu : u < 10
    · rw [dd_small hu]; simp
    · rw [dd_big hu, List.length_append]
      have := dd_short k (u / 10) (by rw [Nat.pow_succ] at h; omega)
      simp only [List.length_cons, List.length_nil]; omega
theorem dd_long (u : Nat) (h : 1000000000 ≤ u) : 9 < (Lib.decDigits u).length := by
  have h1 := nmN_lt (Lib.decDigits u)
  rw [nmN_dd] at h1
  apply Nat.lt_of_not_le
  intro h2
  have h3 : 10 ^ (Lib.decDigits u).length ≤ 10 ^ 9 := Nat.pow_le_pow_right (by omega) h2
  have h4 : (10 : Nat) ^ 9 = 1000000000 := by decide
  omega
theorem dec_read (n : Int) (h0 : -9223372036854775808 ≤ n) (h1 : n ≤ 9223372036854775807) : rdI (Lib.itoa n) = if -1000000000 < n ∧ n < 1000000000 then (n, true) else (0, false) := by
  rw [rdI_ok (atoi_itoa n h0 h1)]
  have hl := (dd_len n).1
  by_cases h : -1000000000 < n ∧ n < 1000000000
  · rw [if_pos h]
    have hs := dd_short 8 n.natAbs (by have : (10 : Nat) ^ (8 + 1) = 1000000000 := by decide
                                       omega)
    have : okV (Lib.itoa n) n = true := by
      unfold okV
      rw [decide_eq_true rfl, decide_eq_true (show (Lib.trimPrefix (Lib.itoa n) [45]).length ≤ 9 by omega)]
      rfl
    rw [if_pos this]
  · rw [if_neg h]
    have hs := dd_long n.natAbs (by omega)
    have : okV (Lib.itoa n) n = false := by
      unfold okV
      rw [decide_eq_false (show ¬ (Lib.trimPrefix (Lib.itoa n) [45]).length ≤ 9 by omega), Bool.and_false]
    rw [this]; rfl

/-! Hex and Unhex -/
theorem hx_hxd : ∀ q : Fin 16, hx (hxd q.val) = (q.val : Int) := by decide
theorem unL_snoc : ∀ (l m : List UInt8) (a b : UInt8), unL l = some m → 0 ≤ hx a → 0 ≤ hx b → unL (l ++ [a, b]) = some (m ++ [UInt8.ofNat (16 * hx a + hx b).toNat])
  | [], m, a, b, h, ha, hb => by
    simp only [unL, Option.some.injEq] at h
    subst h
    rw [List.nil_append, unL, if_neg (by omega)]
    simp [unL]
  | [_], m, a, b, h, ha, hb => by simp [unL] at h
  | x :: y :: l, m, a, b, h, ha, hb => by
    rw [unL] at h
    by_cases hc : hx x < 0 ∨ hx y < 0
    · rw [if_pos hc] at h; cases h
    · rw [if_neg hc] at h
      cases hl : unL l with
      | none => rw [hl] at h; cases h
      | some m' =>
        rw [hl] at h
        simp only [Option.map_some, Option.some.injEq] at h
        subst h
        show unL (x :: y :: (l ++ [a, b])) = _
        rw [unL, if_neg hc, unL_snoc l m' a b hl ha hb]
        simp
theorem hex_byte (b : UInt8) : hx (hxd (b.toNat / 16)) = ((b.toNat / 16 : Nat) : Int) ∧ hx (hxd (b.toNat % 16)) = ((b.toNat % 16 : Nat) : Int) := by
  have hb := b.toNat_lt
  exact ⟨hx_hxd ⟨b.toNat / 16, by omega⟩, hx_hxd ⟨b.toNat % 16, by omega⟩⟩
theorem unL_hexN (s : ByteArray) : ∀ k, k ≤ s.size → unL (hexN s k) = some (s.data.toList.take k)
  | 0, _ => by simp [hexN, unL]
  | k + 1, h => by
    have hl : s.data.toList.length = s.size := by simp
    have ih := unL_hexN s k (by omega)
    obtain ⟨b, hb⟩ : ∃ b, b = s.data.toList.getD k 0 := ⟨_, rfl⟩
    obtain ⟨h1, h2⟩ := hex_byte b
    rw [hexN, ← hb, unL_snoc _ _ _ _ ih (by omega) (by omega), h1, h2]
    have e : s.data.toList.take (k + 1) = s.data.toList.take k ++ [b] := by
      rw [List.take_add_one, hb]
      simp only [List.getD_eq_getElem?_getD]
      rw [List.getElem?_eq_getElem (by omega)]
      rfl
    rw [e]
    have e2 : (16 * ((b.toNat / 16 : Nat) : Int) + ((b.toNat % 16 : Nat) : Int)).toNat = b.toNat := by omega
    rw [e2]
    simp
theorem hex_read (s : ByteArray) : unS (hexS s) = (s, true) := by
  have h := unL_hexN s s.size (Nat.le_refl _)
  have hl : s.data.toList.length = s.size := by simp
  rw [List.take_of_length_le (by omega)] at h
  unfold unS hexS
  rw [show (⟨(hexN s s.size).toArray⟩ : ByteArray).data.toList = hexN s s.size from rfl, h]
theorem hexS_size (s : ByteArray) : (hexS s).size = 2 * s.size := by
  show (hexN s s.size).toArray.size = _
  rw [List.size_toArray, hexN_length]
theorem itoa_size (n : Int) (h0 : -9223372036854775808 ≤ n) (h1 : n ≤ 9223372036854775807) : (⟨(Lib.itoa n).toArray⟩ : ByteArray).size ≤ 1048576 := by
  have h := (dd_len n).2.2.2.2.1
  have h2 := decDigits_size (u := n.natAbs) (by omega)
  show (Lib.itoa n).toArray.size ≤ _
  rw [List.size_toArray]; omega
end Go.Proofs.YtciehbedpjfflabDoor
