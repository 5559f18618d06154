/-
  Contracts of ReadFixed, of the reference and of the program, and the walk of FnExactReadFixed.
-/
import Derived.Test.YtciehbedpjfflabDoorMem
import Derived.LoopTactic
namespace Go.Proofs.YtciehbedpjfflabDoor
open Go.RowKit
set_option linter.unusedVariables false

theorem ret2 {a b : Int} {v : Value} (h : a = b) : Ending.returned (.tuple #[.int .i64 a, v]) = .returned (.tuple #[.int .i64 b, v]) := by rw [h]
/-- The number of some bytes, the highest first. -/
def rdN (bs : List UInt8) : Nat := bs.foldl (fun n b => n * 256 + b.toNat) 0
theorem rdN_snoc (bs : List UInt8) (b : UInt8) : rdN (bs ++ [b]) = rdN bs * 256 + b.toNat := by simp [rdN]
theorem rdN_lt (bs : List UInt8) : rdN bs < 2 ^ (8 * bs.length) := by
  have h : ∀ (l : List UInt8) (n k : Nat), n < 2 ^ k → l.foldl (fun n b => n * 256 + b.toNat) n < 2 ^ (k + 8 * l.length) := by
    intro l
    induction l with
    | nil => intro n k h; simpa using h
    | cons b l ih =>
      intro n k h
      have hb := b.toNat_lt
      have := ih (n * 256 + b.toNat) (k + 8) (by rw [Nat.pow_add]; omega)
      simp only [List.foldl_cons, List.length_cons]
      rwa [show k + 8 * (l.length + 1) = k + 8 + 8 * l.length by omega]
  simpa [rdN] using h bs 0 0 (by decide)
theorem rdN_bd (bs : List UInt8) (k : Nat) (h : k ≤ 7) : rdN (bs.take k) ≤ 72057594037927935 := by
  have h1 := rdN_lt (bs.take k)
  have h2 : (bs.take k).length ≤ k := List.length_take_le _ _
  have h3 : 2 ^ (8 * (bs.take k).length) ≤ 2 ^ 56 := Nat.pow_le_pow_right (by omega) (by omega)
  omega
theorem take_snocF (s : ByteArray) (k : Nat) (h : k < s.size) : s.data.toList.take (k + 1) = s.data.toList.take k ++ [s[k]] := by
  rw [List.take_succ_eq_append_getElem (by simpa using h)]; rfl

set_option maxRecDepth 100000 in
set_option maxHeartbeats 800000 in
theorem implReadFixed_yes (s : ByteArray) (m : Nat) (w : World) (h1 : 1 ≤ m) (h7 : m ≤ 7) (hs : m ≤ s.size) (hb : s.size ≤ 9223372036854775807) :
    Calls Tryd.prog 10 #[.string s, .int .i64 (m : Int)] w fun e w' => e = .returned (.tuple #[.int .i64 (rdN (s.data.toList.take m) : Int), .bool true]) ∧ w = w' := by
  have q1 : 1 ≤ (m : Int) := by omega
  have q2 : (m : Int) ≤ 7 := by omega
  have q3 : ¬ (s.size : Int) < (m : Int) := by omega
  have H7 := hide h7
  clear h7 h1
  go_enter Tryd.func10, Tryd.ntmps10
  go_wp2
  go_loop [6, 18] (fun nn i => ∃ k x : Nat, k ≤ m ∧ i = .int .i64 k ∧ nn = .int .i64 x ∧ x = rdN (s.data.toList.take k)) (fun _ i => m - (intOf i).toNat)
  case atStart => exact ⟨0, 0, Nat.zero_le _, rfl, rfl, rfl⟩
  case round =>
    obtain ⟨k, x, hk, rfl, rfl, hx⟩ := hrel
    have hxb : (x : Int) ≤ 72057594037927935 := by
      have := rdN_bd s.data.toList k (by have := H7.out; omega)
      omega
    have HX := hide hx
    clear hx
    by_cases hlt : k < m
    · have hks : k < s.size := by omega
      have hi : (k : Int) < (m : Int) := by omega
      have hyb : (s[k].toNat : Int) ≤ 255 := by have := s[k].toNat_lt; omega
      have hxl : k < 7 → (x : Int) ≤ 281474976710655 := fun h => by
        have h1 := rdN_lt (s.data.toList.take k)
        have h2 : (s.data.toList.take k).length ≤ k := List.length_take_le _ _
        have h3 : 2 ^ (8 * (s.data.toList.take k).length) ≤ 2 ^ 48 := Nat.pow_le_pow_right (by omega) (by omega)
        have := HX.out
        omega
      have hxl2 := hxl (by have := H7.out; omega)
      have hnx : rdN (s.data.toList.take (k + 1)) = x * 256 + s[k].toNat := by rw [take_snocF s k hks, rdN_snoc, ← HX.out]
      have HNX := hide hnx
      clear hnx hxl
      go_wp2
      go_round
      case rel => exact ⟨k + 1, _, by omega, by go_num, by first | exact congrArg (Value.int .i64) (show (x : Int) * 256 + (s[k].toNat : Int) = ((x * 256 + s[k].toNat : Nat) : Int) by omega) | exact congrArg (Value.int .i64) (show 256 * (x : Int) + (s[k].toNat : Int) = ((x * 256 + s[k].toNat : Nat) : Int) by omega), HNX.out.symm⟩
      case measure => simp [intOf] <;> omega
    · have hi : ¬ (k : Int) < (m : Int) := by omega
      have hkm : k = m := by omega
      have HK := hide hkm
      clear hkm
      go_wp2
      go_ret2
      exact ⟨ret2 (by rw [HX.out, HK.out]), rfl⟩

set_option maxRecDepth 100000 in
set_option maxHeartbeats 400000 in
theorem implReadFixed_no (s : ByteArray) (width : Int) (w : World) (h : ¬ (1 ≤ width ∧ width ≤ 7 ∧ width ≤ s.size)) (hb : s.size ≤ 9223372036854775807) :
    Calls Tryd.prog 10 #[.string s, .int .i64 width] w fun e w' => e = .returned (.tuple #[.int .i64 0, .bool false]) ∧ w = w' := by
  by_cases h1 : 1 ≤ width
  · by_cases h2 : width ≤ 7
    · have h3 : (s.size : Int) < width := by omega
      clear h
      go_enter Tryd.func10, Tryd.ntmps10
      go_wp2
      go_ret2
      exact ⟨rfl, rfl⟩
    · clear h
      go_enter Tryd.func10, Tryd.ntmps10
      go_wp2
      go_ret2
      exact ⟨rfl, rfl⟩
  · clear h
    go_enter Tryd.func10, Tryd.ntmps10
    go_wp2
    go_ret2
    exact ⟨rfl, rfl⟩

end Go.Proofs.YtciehbedpjfflabDoor
