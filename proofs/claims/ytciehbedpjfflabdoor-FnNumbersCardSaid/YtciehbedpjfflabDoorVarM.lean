/-
  Plain law of variable-length numbers: seven bits a byte, the lowest first. No program.
-/
import Derived.Test.YtciehbedpjfflabDoorMem
namespace Go.Proofs.YtciehbedpjfflabDoor
set_option linter.unusedVariables false

/-- The bytes of a number. -/
def varL : Nat → Nat → List UInt8
  | 0, n => [UInt8.ofNat n]
  | f + 1, n => if n < 128 then [UInt8.ofNat n] else UInt8.ofNat (128 + n % 128) :: varL f (n / 128)
theorem varL_lo (f n : Nat) (h : n < 128) : varL f n = [UInt8.ofNat n] := by
  cases f with
  | zero => rfl
  | succ f => rw [varL, if_pos h]
theorem varL_hi (f n : Nat) (h : ¬ n < 128) : varL (f + 1) n = UInt8.ofNat (128 + n % 128) :: varL f (n / 128) := by rw [varL, if_neg h]
theorem varL_fuel (f g n : Nat) (hf : n ≤ f) (hg : n ≤ g) : varL f n = varL g n := by
  induction f generalizing g n with
  | zero => rw [varL_lo _ _ (by omega), varL_lo _ _ (by omega)]
  | succ f ih =>
    by_cases h : n < 128
    · rw [varL_lo _ _ h, varL_lo _ _ h]
    · cases g with
      | zero => omega
      | succ g => rw [varL_hi _ _ h, varL_hi _ _ h, ih g (n / 128) (by omega) (by omega)]
def varB (n : Nat) : List UInt8 := varL n n

/-- The number of some bytes, seven bits of each, the lowest first. -/
def rvN : List UInt8 → Nat
  | [] => 0
  | b :: l => b.toNat % 128 + 128 * rvN l
/-- All but the last are at least 128, the last is below, and is 0 only alone. -/
def canon : List UInt8 → Bool
  | [] => false
  | [b] => decide (b.toNat < 128)
  | b :: c :: l => decide (128 ≤ b.toNat) && canon (c :: l) && !(c == 0 && l.isEmpty)

theorem toNat_ofNat (n : Nat) (h : n < 256) : (UInt8.ofNat n).toNat = n := by simp; omega
theorem canon_pos (l : List UInt8) (h : canon l = true) (h1 : l ≠ [0]) : 0 < rvN l := by
  induction l with
  | nil => simp [canon] at h
  | cons b l ih =>
    cases l with
    | nil =>
      simp [canon] at h
      simp only [rvN]
      have hb : b ≠ 0 := fun e => h1 (by rw [e])
      have : b.toNat ≠ 0 := fun e => hb (by rw [← UInt8.toNat_inj]; simpa using e)
      omega
    | cons c l =>
      simp only [canon, Bool.and_eq_true, Bool.not_eq_true', decide_eq_true_eq] at h
      have h2 : c :: l ≠ [0] := by
        intro e
        have := h.2
        simp only [List.cons.injEq] at e
        obtain ⟨rfl, rfl⟩ := e
        simp at this
      have := ih h.1.2 h2
      simp only [rvN] at this ⊢
      omega
theorem varB_of_canon (l : List UInt8) (h : canon l = true) : varB (rvN l) = l := by
  induction l with
  | nil => simp [canon] at h
  | cons b l ih =>
    cases l with
    | nil =>
      simp [canon] at h
      have e : rvN [b] = b.toNat := by simp only [rvN]; omega
      rw [varB, e, varL_lo _ _ h]
      simp
    | cons c l =>
      have hc := h
      simp only [canon, Bool.and_eq_true, Bool.not_eq_true', decide_eq_true_eq] at h
      have h2 : c :: l ≠ [0] := by
        intro e
        have := h.2
        simp only [List.cons.injEq] at e
        obtain ⟨rfl, rfl⟩ := e
        simp at this
      have hp := canon_pos _ h.1.2 h2
      have ih' := ih h.1.2
      have e : rvN (b :: c :: l) = b.toNat % 128 + 128 * rvN (c :: l) := rfl
      rw [e]
      generalize rvN (c :: l) = r at *
      have hb := b.toNat_lt
      have h3 : ¬ b.toNat % 128 + 128 * r < 128 := by omega
      have h4 : (b.toNat % 128 + 128 * r) / 128 = r := by omega
      have h5 : 128 + (b.toNat % 128 + 128 * r) % 128 = b.toNat := by omega
      unfold varB
      obtain ⟨f, hf⟩ : ∃ f, b.toNat % 128 + 128 * r = f + 1 := ⟨b.toNat % 128 + 128 * r - 1, by omega⟩
      rw [hf, varL_hi f (f + 1) (by omega), ← hf, h5, h4, varL_fuel f r r (by omega) (Nat.le_refl _)]
      unfold varB at ih'
      rw [ih']
      simp
theorem varL_ne (f n : Nat) : varL f n ≠ [] := by
  cases f with
  | zero => simp [varL]
  | succ f => rw [varL]; split <;> simp
theorem varL_canon (f n : Nat) (hf : n ≤ f) : canon (varL f n) = true ∧ rvN (varL f n) = n ∧ (0 < n → varL f n ≠ [0]) := by
  induction f generalizing n with
  | zero =>
    have : n = 0 := by omega
    subst this
    exact ⟨by decide, by decide, fun h => absurd h (by omega)⟩
  | succ f ih =>
    by_cases h : n < 128
    · rw [varL_lo _ _ h]
      have e : (UInt8.ofNat n).toNat = n := toNat_ofNat n (by omega)
      refine ⟨by simp only [canon, e]; simpa using h, by simp only [rvN, e]; omega, fun h0 e0 => ?_⟩
      simp only [List.cons.injEq, and_true] at e0
      rw [e0] at e
      simp at e
      omega
    · rw [varL_hi _ _ h]
      obtain ⟨h1, h2, h3⟩ := ih (n / 128) (by omega)
      have e : (UInt8.ofNat (128 + n % 128)).toNat = 128 + n % 128 := toNat_ofNat _ (by omega)
      refine ⟨?_, ?_, fun _ e0 => ?_⟩
      · cases hl : varL f (n / 128) with
        | nil => exact absurd hl (varL_ne _ _)
        | cons c l =>
          rw [hl] at h1 h3
          simp only [canon, e, h1, Bool.and_true, Bool.and_eq_true, Bool.not_eq_true', decide_eq_true_eq]
          refine ⟨by omega, ?_⟩
          rw [Bool.eq_false_iff]
          intro hh
          simp only [Bool.and_eq_true, beq_iff_eq, List.isEmpty_iff] at hh
          obtain ⟨rfl, rfl⟩ := hh
          exact h3 (by omega) rfl
      · simp only [rvN, e, h2]; omega
      · injection e0 with _ e1
        exact varL_ne _ _ e1
theorem varB_canon (n : Nat) : canon (varB n) = true ∧ rvN (varB n) = n := ⟨(varL_canon n n (Nat.le_refl _)).1, (varL_canon n n (Nat.le_refl _)).2.1⟩
theorem varB_iff (l : List UInt8) : varB (rvN l) = l ↔ canon l = true := ⟨fun h => by rw [← h]; exact (varB_canon _).1, varB_of_canon l⟩

/-- The first byte below 128 among the first so many. -/
def stop : List UInt8 → Nat → Option Nat
  | [], _ => none
  | b :: l, k => if b.toNat < 128 then some k else stop l (k + 1)

theorem canon_take (l : List UInt8) (k : Nat) (hk : k < l.length) : canon (l.take (k + 1)) = true ↔ (∀ i, (h : i < k) → 128 ≤ (l[i]'(by omega)).toNat) ∧ (l[k]).toNat < 128 ∧ (0 < k → l[k] ≠ 0) := by
  induction l generalizing k with
  | nil => simp at hk
  | cons b l ih =>
    cases k with
    | zero => simp [canon]
    | succ k =>
      cases l with
      | nil => simp at hk
      | cons c l =>
        have hk' : k < (c :: l).length := by simp at hk ⊢; omega
        have e : canon ((b :: c :: l).take (k + 1 + 1)) = (decide (128 ≤ b.toNat) && canon ((c :: l).take (k + 1)) && !(c == 0 && (l.take k).isEmpty)) := rfl
        rw [e]
        simp only [Bool.and_eq_true, decide_eq_true_eq, ih k hk', Bool.not_eq_true']
        constructor
        · rintro ⟨⟨h1, h2, h3, h4⟩, h5⟩
          refine ⟨fun i hi => ?_, by simpa using h3, fun _ => ?_⟩
          · cases i with
            | zero => simpa using h1
            | succ i => simpa using h2 i (by omega)
          · cases k with
            | zero =>
              intro e0
              simp at e0 h5
              exact h5 e0
            | succ k => simpa using h4 (by omega)
        · rintro ⟨h1, h2, h3⟩
          refine ⟨⟨by simpa using h1 0 (by omega), fun i hi => by simpa using h1 (i + 1) (by omega), by simpa using h2, fun _ => by simpa using h3 (by omega)⟩, ?_⟩
          rw [Bool.eq_false_iff]
          intro hh
          simp only [Bool.and_eq_true, beq_iff_eq, List.isEmpty_iff] at hh
          obtain ⟨rfl, h6⟩ := hh
          have hk0 : k = 0 := by
            rcases List.take_eq_nil_iff.1 h6 with h | h
            · exact h
            · subst h
              simp at hk'
              exact hk'
          subst hk0
          exact h3 (by omega) (by simp)
theorem rvN_snoc (l : List UInt8) (b : UInt8) : rvN (l ++ [b]) = rvN l + 128 ^ l.length * (b.toNat % 128) := by
  induction l with
  | nil => simp [rvN]
  | cons c l ih => simp only [List.cons_append, rvN, ih, List.length_cons, Nat.pow_succ, Nat.mul_add]; rw [Nat.mul_comm (128 ^ l.length) 128, Nat.mul_assoc]; omega
theorem rvN_lt (l : List UInt8) : rvN l < 128 ^ l.length := by
  induction l with
  | nil => simp [rvN]
  | cons c l ih => simp only [rvN, List.length_cons, Nat.pow_succ]; omega
theorem varB_length (n : Nat) (h : n < 562949953421312) : (varB n).length ≤ 7 := by
  have key : ∀ (f k n : Nat), n ≤ f → n < 128 ^ (k + 1) → (varL f n).length ≤ k + 1 := by
    intro f
    induction f with
    | zero => intro k n _ _; simp [varL]
    | succ f ih =>
      intro k n hf hn
      by_cases h : n < 128
      · rw [varL_lo _ _ h]; simp
      · rw [varL_hi _ _ h]
        cases k with
        | zero => simp at hn; omega
        | succ k =>
          have := ih k (n / 128) (by omega) (by rw [Nat.pow_succ] at hn; omega)
          simp; omega
  exact key n 6 n (Nat.le_refl _) (by simpa using h)
end Go.Proofs.YtciehbedpjfflabDoor
