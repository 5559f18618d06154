/-
  What ReadDec answers: plain facts about decimal numerals.
-/
import Derived.Test.YtciehbedpjfflaaDoorDecS
import Derived.Lib.AtoiAll
import Derived.Lib.AtoiAllCases
import Derived.Lib.Strings
namespace Go.Proofs.YtciehbedpjfflaaDoor
set_option linter.unusedVariables false

def isD (c : UInt8) : Prop := 48 ≤ c.toNat ∧ c.toNat ≤ 57
instance (c : UInt8) : Decidable (isD c) := by unfold isD; exact inferInstance
/-- The number that the digits among some bytes spell, and how many they are. -/
def stN (a : Nat) (c : UInt8) : Nat := if isD c then a * 10 + (c.toNat - 48) else a
def stK (a : Nat) (c : UInt8) : Nat := if isD c then a + 1 else a
def nmN (l : List UInt8) : Nat := l.foldl stN 0
def nmK (l : List UInt8) : Nat := l.foldl stK 0
theorem nmN_snoc (l : List UInt8) (c : UInt8) : nmN (l ++ [c]) = stN (nmN l) c := by simp [nmN]
theorem nmK_snoc (l : List UInt8) (c : UInt8) : nmK (l ++ [c]) = stK (nmK l) c := by simp [nmK]
theorem nmK_le (l : List UInt8) : nmK l ≤ l.length := by
  have : ∀ (l : List UInt8) (a : Nat), l.foldl stK a ≤ a + l.length := by
    intro l
    induction l with
    | nil => intro a; simp
    | cons c l ih =>
      intro a
      have h1 := ih (stK a c)
      have h2 : stK a c ≤ a + 1 := by unfold stK; split <;> omega
      simp only [List.foldl_cons, List.length_cons]
      omega
  simpa [nmK] using this l 0
theorem nmN_lt (l : List UInt8) : nmN l < 10 ^ l.length := by
  have : ∀ (l : List UInt8) (a k : Nat), a < 10 ^ k → l.foldl stN a < 10 ^ (k + l.length) := by
    intro l
    induction l with
    | nil => intro a k h; simpa using h
    | cons c l ih =>
      intro a k h
      have h2 : stN a c < 10 ^ (k + 1) := by
        unfold stN
        have hp : 10 ^ (k + 1) = 10 ^ k * 10 := Nat.pow_succ 10 k
        split
        · rename_i hc
          have := hc.2
          omega
        · omega
      have h1 := ih (stN a c) (k + 1) h2
      simp only [List.foldl_cons, List.length_cons]
      rwa [show k + (l.length + 1) = k + 1 + l.length by omega]
  simpa [nmN] using this l 0 0 (by decide)
theorem nmN_bd (l : List UInt8) (k : Nat) (h : k ≤ 11) : nmN (l.take k) < 100000000000 := by
  have h1 := nmN_lt (l.take k)
  have h2 : (l.take k).length ≤ k := List.length_take_le _ _
  have h3 : 10 ^ (l.take k).length ≤ 10 ^ 11 := Nat.pow_le_pow_right (by omega) (by omega)
  omega
/-- What both sides answer about some bytes: the reference's way. -/
def neg1 (l : List UInt8) : Bool := decide (l.head? = some 45)
def rdV (l : List UInt8) : Int := if neg1 l = true then -(nmN (l.take 11) : Int) else (nmN (l.take 11) : Int)
def rdOk (l : List UInt8) : Bool := !(decide (9 < nmK (l.take 11)) || (decide (10 < l.length) || decide (Lib.itoa (rdV l) ≠ l)))
def rdS (l : List UInt8) : Int × Bool := if rdOk l = true then (rdV l, true) else (0, false)
/-- The program's way. -/
def okV (l : List UInt8) (v : Int) : Bool := decide (Lib.itoa v = l) && decide ((Lib.trimPrefix l [45]).length ≤ 9)
def rdI (l : List UInt8) : Int × Bool := match Lib.atoiAll l with
  | .ok v => if okV l v = true then (v, true) else (0, false)
  | _ => (0, false)

theorem rdOk_k {l : List UInt8} (h : 9 < nmK (l.take 11)) : rdOk l = false := by unfold rdOk; rw [decide_eq_true h]; rfl
theorem rdOk_l {l : List UInt8} (h : 10 < l.length) : rdOk l = false := by unfold rdOk; rw [decide_eq_true h, Bool.true_or, Bool.or_true]; rfl
theorem rdOk_s {l : List UInt8} (h : Lib.itoa (rdV l) ≠ l) : rdOk l = false := by unfold rdOk; rw [decide_eq_true h, Bool.or_true, Bool.or_true]; rfl
theorem rdOk_y {l : List UInt8} (h1 : ¬ 9 < nmK (l.take 11)) (h2 : ¬ 10 < l.length) (h3 : Lib.itoa (rdV l) = l) : rdOk l = true := by
  unfold rdOk
  rw [decide_eq_false h1, decide_eq_false h2, decide_eq_false (fun h => h h3)]; rfl
theorem dig_d (u : Nat) : isD (UInt8.ofNat (48 + u % 10)) ∧ (UInt8.ofNat (48 + u % 10)).toNat = 48 + u % 10 := by
  have : (UInt8.ofNat (48 + u % 10)).toNat = 48 + u % 10 := by simp; omega
  exact ⟨⟨by omega, by omega⟩, this⟩
theorem dd_ind {P : Nat → Prop} (h0 : ∀ u, u < 10 → P u) (h1 : ∀ u, ¬ u < 10 → P (u / 10) → P u) : ∀ u, P u := by
  intro u
  induction u using Nat.strongRecOn with
  | _ u ih =>
    by_cases h : u < 10
    · exact h0 u h
    · exact h1 u h (ih (u / 10) (by omega))
theorem dd_big {u : Nat} (h : ¬ u < 10) : Lib.decDigits u = Lib.decDigits (u / 10) ++ [UInt8.ofNat (48 + u % 10)] := by rw [Lib.decDigits, dif_neg h]
theorem dd_small {u : Nat} (h : u < 10) : Lib.decDigits u = [UInt8.ofNat (48 + u % 10)] := by rw [Lib.decDigits_one h, Nat.mod_eq_of_lt h]
theorem nmN_dd : ∀ u, nmN (Lib.decDigits u) = u := by
  refine dd_ind (fun u h => ?_) (fun u h ih => ?_)
  · rw [dd_small h]
    show stN 0 _ = u
    unfold stN
    rw [if_pos (dig_d u).1, (dig_d u).2]; omega
  · rw [dd_big h, nmN_snoc, ih]
    unfold stN
    rw [if_pos (dig_d u).1, (dig_d u).2]; omega
theorem nmK_dd : ∀ u, nmK (Lib.decDigits u) = (Lib.decDigits u).length := by
  refine dd_ind (fun u h => ?_) (fun u h ih => ?_)
  · rw [dd_small h]
    show stK 0 _ = 1
    unfold stK
    rw [if_pos (dig_d u).1]
  · rw [dd_big h, nmK_snoc, ih, List.length_append]
    unfold stK
    rw [if_pos (dig_d u).1]; rfl
theorem dd_digits : ∀ u, ∀ c ∈ Lib.decDigits u, isD c := by
  refine dd_ind (fun u h => ?_) (fun u h ih => ?_)
  · rw [dd_small h]; intro c hc; simp only [List.mem_singleton] at hc; subst hc; exact (dig_d u).1
  · rw [dd_big h]; intro c hc
    rcases List.mem_append.1 hc with hc | hc
    · exact ih c hc
    · simp only [List.mem_singleton] at hc; subst hc; exact (dig_d u).1
theorem dd_ne (u : Nat) : Lib.decDigits u ≠ [] := by
  by_cases h : u < 10
  · rw [dd_small h]; simp
  · rw [dd_big h]; simp
theorem p10_snoc : ∀ (l : List UInt8) (acc a : Nat) (c : UInt8), Lib.parseUint10 acc l = .ok a → Lib.parseUint10 acc (l ++ [c]) = Lib.parseUint10 a [c]
  | [], acc, a, c, h => by
    simp only [Lib.parseUint10] at h
    injection h with h
    subst h
    rfl
  | x :: l, acc, a, c, h => by
    simp only [Lib.parseUint10, List.cons_append] at h ⊢
    split at h
    · rename_i h1
      rw [if_pos h1]
      split at h
      · cases h
      · rename_i h2
        rw [if_neg h2]
        split at h
        · cases h
        · rename_i h3
          rw [if_neg h3]
          exact p10_snoc l _ a c h
    · cases h
theorem p10_dd : ∀ u, u < 18446744073709551616 → Lib.parseUint10 0 (Lib.decDigits u) = .ok u := by
  refine dd_ind (fun u h hu => ?_) (fun u h ih hu => ?_)
  · rw [dd_small h]
    simp only [Lib.parseUint10]
    have hd := (dig_d u).1
    unfold isD at hd
    rw [if_pos hd, (dig_d u).2, if_neg (by omega), if_neg (by omega)]
    congr 1; omega
  · rw [dd_big h, p10_snoc _ _ _ _ (ih (by omega))]
    simp only [Lib.parseUint10]
    have hd := (dig_d u).1
    unfold isD at hd
    rw [if_pos hd, (dig_d u).2, if_neg (by omega), if_neg (by omega)]
    congr 1; omega
theorem mag_dd (u : Nat) (hu : u < 18446744073709551616) : Lib.parseMag (Lib.decDigits u) = .ok u := by
  unfold Lib.parseMag
  rw [if_neg (dd_ne u)]
  exact p10_dd u hu
theorem dd_cons (u : Nat) : ∃ c r, Lib.decDigits u = c :: r ∧ isD c := by
  cases h : Lib.decDigits u with
  | nil => exact absurd h (dd_ne u)
  | cons c r => exact ⟨c, r, rfl, dd_digits u c (by rw [h]; exact List.mem_cons_self)⟩
theorem atoi_itoa (v : Int) (h0 : -9223372036854775808 ≤ v) (h1 : v ≤ 9223372036854775807) : Lib.atoiAll (Lib.itoa v) = .ok v := by
  by_cases hn : v < 0
  · obtain ⟨a, rfl⟩ : ∃ a : Nat, v = -(a : Int) := ⟨v.natAbs, by omega⟩
    rw [Lib.itoa_neg a (by omega)]
    unfold Lib.atoiAll
    have e : (45 : UInt8).toNat = 45 := rfl
    simp only [e, or_true, if_true, true_and, not_true_eq_false, false_and, if_false]
    rw [mag_dd a (by omega)]
    simp only
    rw [if_neg (by omega)]
  · obtain ⟨a, rfl⟩ : ∃ a : Nat, v = (a : Int) := ⟨v.toNat, by omega⟩
    rw [Lib.itoa_nonneg]
    obtain ⟨c, r, hc, hd⟩ := dd_cons a
    have hm := mag_dd a (by omega)
    rw [hc] at hm ⊢
    unfold Lib.atoiAll
    have h43 : ¬ c.toNat = 43 := by have := hd.1; omega
    have h45 : ¬ c.toNat = 45 := by have := hd.1; omega
    simp only [h43, h45, or_self, if_false, not_false_eq_true, true_and, false_and]
    rw [hm]
    simp only
    rw [if_neg (by omega)]
theorem dd_len (v : Int) : (Lib.trimPrefix (Lib.itoa v) [45]).length = (Lib.decDigits v.natAbs).length ∧ (neg1 (Lib.itoa v) = true ↔ v < 0) ∧ nmN (Lib.itoa v) = v.natAbs ∧ nmK (Lib.itoa v) = (Lib.decDigits v.natAbs).length ∧ (Lib.itoa v).length ≤ (Lib.decDigits v.natAbs).length + 1 ∧ (Lib.decDigits v.natAbs).length ≤ (Lib.itoa v).length := by
  by_cases hn : v < 0
  · obtain ⟨a, rfl⟩ : ∃ a : Nat, v = -(a : Int) := ⟨v.natAbs, by omega⟩
    have ha : (-(a : Int)).natAbs = a := by omega
    rw [Lib.itoa_neg a (by omega), ha]
    refine ⟨?_, ?_, ?_, ?_, ?_, ?_⟩
    · simp [Lib.trimPrefix, Lib.hasPrefix]
    · simp [neg1]; omega
    · show (Lib.decDigits a).foldl stN (stN 0 45) = a
      have : stN 0 45 = 0 := by decide
      rw [this]; exact nmN_dd a
    · show (Lib.decDigits a).foldl stK (stK 0 45) = _
      have : stK 0 45 = 0 := by decide
      rw [this]; exact nmK_dd a
    · simp
    · simp
  · obtain ⟨a, rfl⟩ : ∃ a : Nat, v = (a : Int) := ⟨v.toNat, by omega⟩
    have ha : ((a : Int)).natAbs = a := by omega
    rw [Lib.itoa_nonneg, ha]
    obtain ⟨c, r, hc, hd⟩ := dd_cons a
    have h45 : ¬ c = 45 := fun e => by subst e; exact absurd hd.1 (by decide)
    refine ⟨?_, ?_, nmN_dd a, nmK_dd a, by omega, by omega⟩
    · rw [hc]; have h45' : ¬ 45 = c := fun e => h45 e.symm
      simp [Lib.trimPrefix, Lib.hasPrefix, h45']
    · rw [hc]; simp [neg1, h45]
/-- The two ways are one. -/
theorem rd_eq (l : List UInt8) : rdS l = rdI l := by
  by_cases h : ∃ v, -9223372036854775808 ≤ v ∧ v ≤ 9223372036854775807 ∧ Lib.itoa v = l
  · obtain ⟨v, h0, h1, rfl⟩ := h
    obtain ⟨d1, d2, d3, d4, d5, d6⟩ := dd_len v
    unfold rdI
    rw [atoi_itoa v h0 h1]
    simp only
    by_cases hd : (Lib.decDigits v.natAbs).length ≤ 9
    · have hok : okV (Lib.itoa v) v = true := by unfold okV; rw [d1]; simp [hd]
      rw [if_pos hok]
      have ht : (Lib.itoa v).take 11 = Lib.itoa v := List.take_of_length_le (by omega)
      have hv : rdV (Lib.itoa v) = v := by
        unfold rdV
        rw [ht, d3]
        by_cases hn : v < 0
        · rw [if_pos (d2.2 hn)]; omega
        · rw [if_neg (fun e => hn (d2.1 e))]; omega
      have : rdOk (Lib.itoa v) = true := by
        unfold rdOk
        rw [hv, ht, d4]
        simp; omega
      unfold rdS
      rw [if_pos this, hv]
    · have hok : okV (Lib.itoa v) v = false := by unfold okV; rw [d1]; simp; omega
      rw [hok]
      have : rdOk (Lib.itoa v) = false := by
        unfold rdOk
        by_cases hl : 10 < (Lib.itoa v).length
        · simp [hl]
        · have ht : (Lib.itoa v).take 11 = Lib.itoa v := List.take_of_length_le (by omega)
          rw [ht, d4]
          simp; omega
      unfold rdS
      rw [this]; rfl
  · have h1 : rdOk l = false := by
      unfold rdOk
      have hb := nmN_bd l 11 (by omega)
      have : Lib.itoa (rdV l) ≠ l := fun e => h ⟨rdV l, by unfold rdV; split <;> omega, by unfold rdV; split <;> omega, e⟩
      simp [this]
    unfold rdS rdI
    rw [h1]
    rcases he : Lib.atoiAll l with v | _ | _
    · have hb := Lib.atoiAll_bounds he
      have hk : okV l v = false := by
        unfold okV
        have : ¬ Lib.itoa v = l := fun e => h ⟨v, hb.1, hb.2, e⟩
        simp [this]
      simp only [hk]
      rfl
    · rfl
    · rfl
end Go.Proofs.YtciehbedpjfflaaDoor
