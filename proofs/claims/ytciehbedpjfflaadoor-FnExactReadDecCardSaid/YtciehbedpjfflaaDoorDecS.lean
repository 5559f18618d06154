/-
  The reference's Dec: the decimal numeral of every int.
-/
import Derived.Test.YtciehbedpjfflaaDoorStr
import Derived.Lib.ItoaNum
import Derived.Lib.ItoaMem
import Derived.Lib.ItoaLen
import Derived.IntWalk
import Derived.Deep.LoopGhost
namespace Go.Proofs.YtciehbedpjfflaaDoor
open Go.RowKit
set_option linter.unusedVariables false

/-- The digits of a number, none for 0. -/
def decT (u : Nat) : List UInt8 := if u = 0 then [] else Lib.decDigits u
theorem decT_step (u : Nat) (h : 0 < u) : decT u = decT (u / 10) ++ [UInt8.ofNat (48 + u % 10)] := by
  unfold decT
  rw [if_neg (by omega)]
  by_cases h1 : u < 10
  · rw [if_pos (Nat.div_eq_of_lt h1), Lib.decDigits_one h1, Nat.mod_eq_of_lt h1]; rfl
  · rw [if_neg (by omega), Lib.decDigits, dif_neg h1]
theorem ret_s {a b : ByteArray} (h : a = b) : Ending.returned (.string a) = .returned (.string b) := by rw [h]
theorem decDigits_size {u : Nat} (h : u < 10000000000000000000) : (Lib.decDigits u).length ≤ 20 := by
  have h1 := Lib.itoa_length_le
  rw [Lib.decDigits_length]
  have : ∀ k u, u < 10 ^ k → Lib.nDigits u ≤ max k 1 := by
    intro k
    induction k with
    | zero => intro u hu; rw [Lib.nDigits, dif_pos (by simp at hu; omega)]; simp
    | succ k ih =>
      intro u hu
      by_cases h1 : u < 10
      · rw [Lib.nDigits, dif_pos h1]; omega
      · rw [Lib.nDigits, dif_neg h1]
        have := ih (u / 10) (by rw [Nat.pow_succ] at hu; omega)
        by_cases hk : k = 0
        · subst hk; simp at hu; omega
        · omega
  exact Nat.le_trans (this 19 u (by simpa using h)) (by decide)
theorem str1d (w : World) (x : Nat) (c : Nat) : (convert 31 9 (.slice (some ⟨w.heap.size, 0, none⟩) 1 c)).run Tryd.prog (w.alloc (.cells #[.int .u8 (48 + (x : Int) % 10)] 5)) = .ok (.string ⟨#[UInt8.ofNat (48 + x % 10)]⟩) (w.alloc (.cells #[.int .u8 (48 + (x : Int) % 10)] 5)) :=
  strOf _ _ _ Tryd.underlying31 Tryd.underlying5 Tryd.underlying9 _ _ 1 c [UInt8.ofNat (48 + x % 10)] rfl fun j hj => by
    have : j = 0 := by simpa using hj
    subst this
    rw [cell_of_row _ _ _ _ _ _ (heap_alloc_new _ _)]
    have : (48 + x % 10) % 256 = 48 + x % 10 := by omega
    simp [this]
set_option maxRecDepth 100000 in
set_option maxHeartbeats 1600000 in
theorem specDec_pos (a : Nat) (h0 : 0 < a) (h1 : (a : Int) ≤ 9223372036854775807) (w : World) :
    Calls Tryd.prog 6 #[.int .i64 (a : Int)] w fun e w' => e = .returned (.string ⟨(Lib.decDigits a).toArray⟩) ∧ Below w.heap.size w w' := by
  have q1 : ¬ (a : Int) = 0 := by omega
  have q2 : ¬ (a : Int) < 0 := by omega
  have H0 := hide h0
  have H1 := hide h1
  clear h0 h1
  go_enter Tryd.func6, Tryd.ntmps6
  go_wp2
  go_loopg [0, 3] (a + 1) (fun gk nn s wr => ∃ (u : Nat) (b : ByteArray) (ds : List UInt8), gk = u + 1 ∧ nn = .int .i64 (u : Int) ∧ s = .string b ∧ b = ⟨ds.toArray⟩ ∧ u ≤ a ∧ decT u ++ ds = Lib.decDigits a ∧ Below w.heap.size w wr)
  case atStart => exact ⟨a, ⟨#[]⟩, [], rfl, rfl, rfl, rfl, Nat.le_refl _, by rw [List.append_nil]; unfold decT; rw [if_neg (by have := H0.out; omega)], Below.refl _ _⟩
  case round =>
    obtain ⟨u, b, ds, hg, rfl, rfl, hb, hu, hd, hB⟩ := hrel
    have HG := hide hg
    have HBB := hide hb
    have HD := hide hd
    have HB := hide hB
    have hub : (u : Int) ≤ 9223372036854775807 := by have := H1.out; omega
    clear hg hb hd hB
    by_cases hz : u = 0
    · have hi : (u : Int) = 0 := by omega
      go_wp2
      go_ret
      refine ⟨ret_s ?_, HB.out⟩
      rw [HBB.out, ← HD.out, hz]
      rfl
    · have hi : ¬ (u : Int) = 0 := by omega
      have hcv := str1d wr u 1
      obtain ⟨dg, hdg⟩ : ∃ dg : UInt8, dg = UInt8.ofNat (48 + u % 10) := ⟨_, rfl⟩
      rw [← hdg] at hcv
      obtain ⟨b', hb'⟩ : ∃ b' : ByteArray, b' = ⟨(dg :: ds).toArray⟩ := ⟨_, rfl⟩
      have hstep := decT_step u (by omega)
      have hd' : decT (u / 10) ++ (dg :: ds) = Lib.decDigits a := by rw [← HD.out, hstep, hdg]; simp
      have hl := decDigits_size (u := a) (by have := H1.out; omega)
      have hl2 : ds.length + 1 ≤ 20 := by rw [← hd'] at hl; simp at hl; omega
      have hadd : ∀ W : World, (Op.stringOp .add ⟨#[dg]⟩ b).run Tryd.prog W = .ok (.string b') W := by
        intro W
        have hsz : b.size = ds.length := by rw [HBB.out]; show ds.toArray.size = _; simp
        rw [run_string_add_sum W _ _ (by rw [hsz]; show 1 + ds.length ≤ _; omega)]
        rw [hb', HBB.out]
        rw [ByteArray.mk_append_mk]
        simp
      have HB' := hide hb'
      have HD' := hide hd'
      clear hb' hd' hstep hl hl2 hdg
      go_wp2
      go_roundg (u / 10 + 1)
      case measure => have := HG.out; omega
      case rel => exact ⟨u / 10, b', _, rfl, by go_num, rfl, HB'.out, by omega, HD'.out, HB.out.alloc HB.out.size _⟩
set_option maxRecDepth 100000 in
set_option maxHeartbeats 1600000 in
theorem specDec_neg (a : Nat) (h0 : 0 < a) (h1 : (a : Int) ≤ 9223372036854775808) (w : World) :
    Calls Tryd.prog 6 #[.int .i64 (-(a : Int))] w fun e w' => e = .returned (.string ⟨(45 :: Lib.decDigits a).toArray⟩) ∧ Below w.heap.size w w' := by
  have q1 : ¬ -(a : Int) = 0 := by omega
  have q2 : -(a : Int) < 0 := by omega
  have H0 := hide h0
  have H1 := hide h1
  clear h0 h1
  go_enter Tryd.func6, Tryd.ntmps6
  go_wp2
  go_loopg [0, 3] (a + 1) (fun gk nn s wr => ∃ (u : Nat) (b : ByteArray) (ds : List UInt8), gk = u + 1 ∧ nn = .int .i64 (-(u : Int)) ∧ s = .string b ∧ b = ⟨ds.toArray⟩ ∧ u ≤ a ∧ decT u ++ ds = Lib.decDigits a ∧ Below w.heap.size w wr)
  case atStart => exact ⟨a, ⟨#[]⟩, [], rfl, rfl, rfl, rfl, Nat.le_refl _, by rw [List.append_nil]; unfold decT; rw [if_neg (by have := H0.out; omega)], Below.refl _ _⟩
  case round =>
    obtain ⟨u, b, ds, hg, rfl, rfl, hb, hu, hd, hB⟩ := hrel
    have HG := hide hg
    have HBB := hide hb
    have HD := hide hd
    have HB := hide hB
    have hub : (u : Int) ≤ 9223372036854775808 := by have := H1.out; omega
    clear hg hb hd hB
    by_cases hz : u = 0
    · have hi : -(u : Int) = 0 := by omega
      have hl := decDigits_size (u := a) (by have := H1.out; omega)
      obtain ⟨b', hb'⟩ : ∃ b' : ByteArray, b' = ⟨(45 :: ds).toArray⟩ := ⟨_, rfl⟩
      have hds : ds = Lib.decDigits a := by rw [← HD.out, hz]; rfl
      have hadd : ∀ W : World, (Op.stringOp .add ⟨#[45]⟩ b).run Tryd.prog W = .ok (.string b') W := by
        intro W
        have hsz : b.size = ds.length := by rw [HBB.out]; show ds.toArray.size = _; simp
        rw [run_string_add_sum W _ _ (by rw [hsz, hds]; show 1 + _ ≤ _; omega)]
        rw [hb', HBB.out]
        rw [ByteArray.mk_append_mk]
        simp
      have HB' := hide hb'
      have HDS := hide hds
      clear hb' hds hl
      go_wp2
      go_ret
      refine ⟨ret_s ?_, HB.out⟩
      rw [HB'.out, ← HDS.out]
    · have hi : ¬ -(u : Int) = 0 := by omega
      have hcv := str1d wr u 1
      obtain ⟨dg, hdg⟩ : ∃ dg : UInt8, dg = UInt8.ofNat (48 + u % 10) := ⟨_, rfl⟩
      rw [← hdg] at hcv
      obtain ⟨b', hb'⟩ : ∃ b' : ByteArray, b' = ⟨(dg :: ds).toArray⟩ := ⟨_, rfl⟩
      have hstep := decT_step u (by omega)
      have hd' : decT (u / 10) ++ (dg :: ds) = Lib.decDigits a := by rw [← HD.out, hstep, hdg]; simp
      have hl := decDigits_size (u := a) (by have := H1.out; omega)
      have hl2 : ds.length + 1 ≤ 20 := by rw [← hd'] at hl; simp at hl; omega
      have hadd : ∀ W : World, (Op.stringOp .add ⟨#[dg]⟩ b).run Tryd.prog W = .ok (.string b') W := by
        intro W
        have hsz : b.size = ds.length := by rw [HBB.out]; show ds.toArray.size = _; simp
        rw [run_string_add_sum W _ _ (by rw [hsz]; show 1 + ds.length ≤ _; omega)]
        rw [hb', HBB.out]
        rw [ByteArray.mk_append_mk]
        simp
      have HB' := hide hb'
      have HD' := hide hd'
      clear hb' hd' hstep hl hl2 hdg
      have hdv : -((u / 10 : Nat) : Int) = -((u : Int) / 10) := by omega
      by_cases hm : u % 10 = 0
      · have hmi : (u : Int) % 10 = 0 := by omega
        rw [hmi] at hcv
        have hcv2 : (convert 31 9 (.slice (some ⟨wr.heap.size, 0, none⟩) 1 1)).run Tryd.prog (wr.alloc (.cells #[.int .u8 48] 5)) = .ok (.string ⟨#[dg]⟩) (wr.alloc (.cells #[.int .u8 48] 5)) := hcv
        clear hcv hm
        go_wp2
        go_roundg (u / 10 + 1)
        case measure => have := HG.out; omega
        case rel => exact ⟨u / 10, b', _, rfl, by rw [hdv], rfl, HB'.out, by omega, HD'.out, HB.out.alloc HB.out.size _⟩
      · have hmi : 0 < (u : Int) % 10 := by omega
        clear hm
        go_wp2
        go_roundg (u / 10 + 1)
        case measure => have := HG.out; omega
        case rel => exact ⟨u / 10, b', _, rfl, by rw [hdv], rfl, HB'.out, by omega, HD'.out, HB.out.alloc HB.out.size _⟩
set_option maxRecDepth 100000 in
set_option maxHeartbeats 400000 in
theorem specDec_any (n : Int) (h0 : -9223372036854775808 ≤ n) (h1 : n ≤ 9223372036854775807) (w : World) :
    Calls Tryd.prog 6 #[.int .i64 n] w fun e w' => e = .returned (.string ⟨(Lib.itoa n).toArray⟩) ∧ Below w.heap.size w w' := by
  by_cases hz : n = 0
  · subst hz
    have : (Lib.itoa 0) = [48] := by simp [Lib.itoa, Lib.decDigits_one]
    rw [this]
    go_enter Tryd.func6, Tryd.ntmps6
    go_wp2
    go_ret
    exact ⟨rfl, Below.refl _ _⟩
  by_cases hn : n < 0
  · obtain ⟨a, rfl⟩ : ∃ a : Nat, n = -(a : Int) := ⟨n.natAbs, by omega⟩
    rw [Lib.itoa_neg a (by omega)]
    exact specDec_neg a (by omega) (by omega) w
  · obtain ⟨a, rfl⟩ : ∃ a : Nat, n = (a : Int) := ⟨n.toNat, by omega⟩
    rw [Lib.itoa_nonneg]
    exact specDec_pos a (by omega) (by omega) w
end Go.Proofs.YtciehbedpjfflaaDoor
