/-
  Plain law of reading a variable-length number: the first byte below 128 ends it. No program.
-/
import Derived.Test.YtciehbedpjfflabDoorVarM
namespace Go.Proofs.YtciehbedpjfflabDoor
set_option linter.unusedVariables false

def lowAt : List UInt8 → Option Nat
  | [] => none
  | b :: l => if b.toNat < 128 then some 0 else (lowAt l).map (· + 1)
/-- What ReadVar answers. -/
def rvR (l : List UInt8) : Nat × Nat :=
  match lowAt (l.take 7) with
  | none => (0, 0)
  | some k => if 0 < k ∧ l.getD k 0 = 0 then (0, 0) else (rvN (l.take (k + 1)), k + 1)
def AllHi (l : List UInt8) (k : Nat) : Prop := ∀ i, i < k → 128 ≤ (l.getD i 0).toNat

theorem lowAt_none (l : List UInt8) (h : AllHi l l.length) : lowAt l = none := by
  induction l with
  | nil => rfl
  | cons b l ih =>
    have h0 := h 0 (by simp)
    simp at h0
    rw [lowAt, if_neg (by omega), ih (fun i hi => by simpa using h (i + 1) (by simp; omega))]
    rfl
theorem lowAt_some (l : List UInt8) (k : Nat) (hk : k < l.length) (h : AllHi l k) (hl : (l.getD k 0).toNat < 128) : lowAt l = some k := by
  induction l generalizing k with
  | nil => simp at hk
  | cons b l ih =>
    cases k with
    | zero => simp at hl; rw [lowAt, if_pos hl]
    | succ k =>
      have h0 := h 0 (by omega)
      simp at h0
      rw [lowAt, if_neg (by omega), ih k (by simpa using hk) (fun i hi => by simpa using h (i + 1) (by omega)) (by simpa using hl)]
      rfl
theorem lowAt_spec (l : List UInt8) (k : Nat) (h : lowAt l = some k) : k < l.length ∧ AllHi l k ∧ (l.getD k 0).toNat < 128 := by
  induction l generalizing k with
  | nil => cases h
  | cons b l ih =>
    rw [lowAt] at h
    by_cases hb : b.toNat < 128
    · rw [if_pos hb] at h
      injection h with h
      subst h
      exact ⟨by simp, fun i hi => absurd hi (by omega), by simpa using hb⟩
    · rw [if_neg hb] at h
      cases hl : lowAt l with
      | none => rw [hl] at h; cases h
      | some j =>
        rw [hl] at h
        have hkj : j + 1 = k := by simpa using h
        subst hkj
        obtain ⟨h1, h2, h3⟩ := ih j hl
        refine ⟨by simpa using h1, fun i hi => ?_, by simpa using h3⟩
        cases i with
        | zero => simpa using Nat.le_of_not_lt hb
        | succ i => simpa using h2 i (by omega)
theorem getD_take (l : List UInt8) (i m : Nat) (h : i < m) : (l.take m).getD i 0 = l.getD i 0 := by
  simp only [List.getD_eq_getElem?_getD, List.getElem?_take]
  rw [if_pos h]
theorem rvR_none (l : List UInt8) (m : Nat) (hm : m ≤ 7) (hm2 : m = l.length ∨ m = 7) (hl : m ≤ l.length) (h : AllHi l m) : rvR l = (0, 0) := by
  have : lowAt (l.take 7) = none := lowAt_none _ (fun i hi => by
    rw [List.length_take] at hi
    rw [getD_take _ _ _ (by omega)]
    exact h i (by omega))
  simp [rvR, this]
theorem rvR_some (l : List UInt8) (k : Nat) (h7 : k < 7) (hk : k < l.length) (h : AllHi l k) (hl : (l.getD k 0).toNat < 128) : rvR l = if 0 < k ∧ l.getD k 0 = 0 then (0, 0) else (rvN (l.take (k + 1)), k + 1) := by
  have : lowAt (l.take 7) = some k := lowAt_some _ k (by rw [List.length_take]; omega) (fun i hi => by rw [getD_take _ _ _ (by omega)]; exact h i hi) (by rw [getD_take _ _ _ h7]; exact hl)
  simp only [rvR, this]
theorem canon_take' (l : List UInt8) (k : Nat) (hk : k < l.length) : canon (l.take (k + 1)) = true ↔ AllHi l k ∧ (l.getD k 0).toNat < 128 ∧ (0 < k → l.getD k 0 ≠ 0) := by
  rw [canon_take l k hk]
  have e : ∀ i, (h : i < l.length) → l.getD i 0 = l[i] := fun i h => by simp [List.getD, h]
  rw [e k hk]
  constructor
  · rintro ⟨h1, h2, h3⟩
    exact ⟨fun i hi => by rw [e i (by omega)]; exact h1 i hi, h2, h3⟩
  · rintro ⟨h1, h2, h3⟩
    exact ⟨fun i hi => by rw [← e i (by omega)]; exact h1 i hi, h2, h3⟩
theorem rvR_canon (l : List UInt8) (k : Nat) (h7 : k < 7) (hk : k < l.length) (h : canon (l.take (k + 1)) = true) : rvR l = (rvN (l.take (k + 1)), k + 1) := by
  obtain ⟨h1, h2, h3⟩ := (canon_take' l k hk).1 h
  rw [rvR_some l k h7 hk h1 h2, if_neg (fun h' => h3 h'.1 h'.2)]
theorem rvR_nocanon (l : List UInt8) (m : Nat) (hm : m ≤ 7) (hm2 : m = l.length ∨ m = 7) (hl : m ≤ l.length) (h : ∀ j, j < m → canon (l.take (j + 1)) = false) : rvR l = (0, 0) := by
  cases hlo : lowAt (l.take 7) with
  | none => simp [rvR, hlo]
  | some k =>
    obtain ⟨h1, h2, h3⟩ := lowAt_spec _ _ hlo
    rw [List.length_take] at h1
    have hk : k < l.length := by omega
    have h2' : AllHi l k := fun i hi => by have := h2 i hi; rwa [getD_take _ _ _ (by omega)] at this
    rw [getD_take _ _ _ (by omega)] at h3
    simp only [rvR, hlo]
    by_cases hc : 0 < k ∧ l.getD k 0 = 0
    · rw [if_pos hc]
    · exfalso
      have : canon (l.take (k + 1)) = true := (canon_take' l k hk).2 ⟨h2', h3, fun h0 e => hc ⟨h0, e⟩⟩
      rw [h k (by omega)] at this
      cases this
theorem rvR_bd (l : List UInt8) : (rvR l).1 ≤ 562949953421311 ∧ (rvR l).2 ≤ 7 := by
  unfold rvR
  split
  · simp
  · rename_i k hk
    obtain ⟨h1, _, _⟩ := lowAt_spec _ _ hk
    rw [List.length_take] at h1
    split
    · simp
    · have h2 := rvN_lt (l.take (k + 1))
      have h3 : (l.take (k + 1)).length ≤ 7 := by rw [List.length_take]; omega
      have h4 : 128 ^ (l.take (k + 1)).length ≤ 128 ^ 7 := Nat.pow_le_pow_right (by omega) h3
      have h5 : (128 : Nat) ^ 7 = 562949953421312 := by decide
      constructor
      · show rvN (l.take (k + 1)) ≤ _; omega
      · show k + 1 ≤ 7; omega
end Go.Proofs.YtciehbedpjfflabDoor
