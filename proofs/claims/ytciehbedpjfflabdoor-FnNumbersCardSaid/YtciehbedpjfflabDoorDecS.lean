/-
  The reference's Dec: the decimal numeral of every int.
-/
import Derived.Test.YtciehbedpjfflabDoorStr
import Derived.Lib.ItoaNum
import Derived.Lib.ItoaMem
import Derived.Lib.ItoaLen
import Derived.IntWalk
import Derived.Deep.LoopGhost
namespace Go.Proofs.YtciehbedpjfflabDoor
open Go.RowKit
set_option linter.unusedVariables false

/-- The digits of a number, none for 0. -/
def decT (u : Nat) : List UInt8 := if u = 0 then [] else Lib.decDigits u
theorem decT_step (u : Nat) (h : 0 < u) : decT u = decT (u / 10) ++ [UInt8.ofNat (48 + u % 10)] := by
  unfold decT
  rw [if_neg (by omega)]
  by_cases h1 : u < 10
  · rw [if_pos (Nat.div_eq_of_lt h1), Lib.decDigits_one h1, Nat.mod_eq_of_lt h1]; rfl
  · rw [if_neg (by omega), Lib.decDigits, dif_neg h1]
theorem ret_s {a b : ByteArray} (h : a = b) : Ending.returned (.string a) = .returned (.string b) := by rw [h]
theorem decDigits_size {u : Nat} (h : u < 10000000000000000000) : (Lib.decDigits u).length ≤ 20 := by
  have h1 := Lib.itoa_length_le
  rw [Lib.decDigits_length]
  have : ∀ k u, u < 10 ^ k → Lib.nDigits u ≤ max k 1 := by
    intro k
    induction k with
    | zero => intro u hu; rw [Lib.nDigits, dif_pos (by simp at hu; omega)]; simp
    | succ k ih =>
      intro u hu
      by_cases h1 : u < 10
      · rw [Lib.nDigits, dif_pos h1]; omega
      · rw [Lib.nDigits, dif_neg h1]
        have := ih (u / 10) (by rw [Nat.pow_succ] at hu; omega)
        by_cases hk : k = 0
        · subst hk; simp at hu; omega
        · omega
  exact Nat.le_trans (this 19 u (by simpa using h)) (by decide)
theorem str1d (w : World) (x : Nat) (c : Nat) : (convert 22 9 (.slice (some ⟨w.heap.size, 0, none⟩) 1 c)).run Tryd.prog (w.alloc (.cells #[.int .u8 (48 + (x : Int) % 10)] 5)) = .ok (.string ⟨#[UInt8.ofNat (48 + x % 10)]⟩) (w.alloc (.cells #[.int .u8 (48 + (x : Int) % 10)] 5)) :=
  strOf _ _ _ Tryd.underlying22 Tryd.underlying5 Tryd.underlying9 _ _ 1 c [UInt8.ofNat (48 + x % 10)] rfl fun j hj => by
    have : j = 0 := by simpa using hj
    subst this
    rw [cell_of_row _ _ _ _ _ _ (heap_alloc_new _ _)]
    have : (48 + x % 10) % 256 = 48 + x % 10 := by omega
    simp [this]
end Go.Proofs.YtciehbedpjfflabDoor
