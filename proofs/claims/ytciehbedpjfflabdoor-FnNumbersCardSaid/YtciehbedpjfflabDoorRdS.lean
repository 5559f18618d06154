/-
  The reference's ReadDec: its walk.
-/
import Derived.Test.YtciehbedpjfflabDoorRdP
namespace Go.Proofs.YtciehbedpjfflabDoor
open Go.RowKit
set_option linter.unusedVariables false

theorem take_snoc (s : ByteArray) (k : Nat) (h : k < s.size) : s.data.toList.take (k + 1) = s.data.toList.take k ++ [s[k]] := by
  rw [List.take_succ_eq_append_getElem (by simpa using h)]; rfl
theorem ret_p {a b : Int} {p q : Bool} (h1 : a = b) (h2 : p = q) : Ending.returned (.tuple #[.int .i64 a, .bool p]) = .returned (.tuple #[.int .i64 b, .bool q]) := by rw [h1, h2]
theorem head_45 (s : ByteArray) (h : 0 < s.size) : neg1 s.data.toList = decide (s[0].toNat = 45) := by
  unfold neg1
  have e : s.data.toList.head? = some s[0] := by
    rw [List.head?_eq_getElem?]
    have : 0 < s.data.toList.length := by simpa using h
    rw [List.getElem?_eq_getElem this]
    rfl
  rw [e]
  apply decide_eq_decide.2
  constructor
  · intro h; injection h with h; rw [h]; rfl
  · intro h
    have : s[0] = 45 := UInt8.toNat_inj.1 (by rw [h]; rfl)
    rw [this]
theorem bytes_eq (s : ByteArray) (l : List UInt8) : (⟨l.toArray⟩ : ByteArray) = s ↔ l = s.data.toList := by
  constructor
  · intro h; rw [← h]
  · intro h
    cases s with
    | mk d => rw [h]
/-- The end: the last statement, whatever the number is. -/
structure Rd (s : ByteArray) (k : Nat) (V : Int) : Prop where
  ek : k = nmK (s.data.toList.take 11)
  ev : V = rdV s.data.toList
theorem rdV_bd (l : List UInt8) : -100000000000 < rdV l ∧ rdV l < 100000000000 := by
  have hb := nmN_bd l 11 (by omega)
  unfold rdV; split <;> omega
theorem rdS_no {l : List UInt8} (h : rdOk l = false) : rdS l = (0, false) := by unfold rdS; rw [h]; rfl
theorem rdS_yes {l : List UInt8} (h : rdOk l = true) : rdS l = (rdV l, true) := by unfold rdS; rw [if_pos h]
end Go.Proofs.YtciehbedpjfflabDoor
