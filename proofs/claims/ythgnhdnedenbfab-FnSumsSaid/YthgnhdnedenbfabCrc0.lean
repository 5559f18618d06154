/-
  Contracts of Crc, of the reference and of the program.
-/
import Derived.Test.YthgnhdnedenbfabMem
import Derived.LoopTactic
import Derived.Deep.LoopGhost
namespace Go.Proofs.Ythgnhdnedenbfab
open Go.RowKit
set_option linter.unusedVariables false

/-- One bit of the sum. -/
def crcBit (c : Nat) : Nat := if c % 2 = 1 then c / 2 ^^^ 2197175160 else c / 2
def crcBits : Nat → Nat → Nat
  | 0, c => c
  | k + 1, c => crcBit (crcBits k c)
def crcByte (c : Nat) (b : UInt8) : Nat := crcBits 8 (c ^^^ b.toNat)
def crcL (c : Nat) (l : List UInt8) : Nat := l.foldl crcByte c
def crcN (l : List UInt8) : Nat := crcL 4294967295 l
theorem crcBit_lt (c : Nat) (h : c < 4294967296) : crcBit c < 4294967296 := by
  unfold crcBit
  split
  · exact Nat.xor_lt_two_pow (n := 32) (by omega) (by decide)
  · omega
theorem crcBits_lt (k c : Nat) (h : c < 4294967296) : crcBits k c < 4294967296 := by
  induction k with
  | zero => exact h
  | succ k ih => exact crcBit_lt _ ih
theorem crcByte_lt (c : Nat) (b : UInt8) (h : c < 4294967296) : crcByte c b < 4294967296 :=
  crcBits_lt _ _ (Nat.xor_lt_two_pow (n := 32) (by omega) (by have := b.toNat_lt; omega))
theorem crcL_lt (l : List UInt8) (c : Nat) (h : c < 4294967296) : crcL c l < 4294967296 := by
  induction l generalizing c with
  | nil => exact h
  | cons b l ih => exact ih _ (crcByte_lt c b h)
theorem crcN_lt (l : List UInt8) : crcN l < 4294967296 := crcL_lt l _ (by decide)
theorem crcL_snoc (c : Nat) (l : List UInt8) (b : UInt8) : crcL c (l ++ [b]) = crcByte (crcL c l) b := by simp [crcL]
theorem take_snocC (s : ByteArray) (k : Nat) (h : k < s.size) : s.data.toList.take (k + 1) = s.data.toList.take k ++ [s[k]] := by
  rw [List.take_succ_eq_append_getElem (by simpa using h)]; rfl

theorem xor_i64 (a b : Nat) (ha : a < 4294967296) (hb : b < 4294967296) : bits .xor .i64 (a : Int) (b : Int) = ((a ^^^ b : Nat) : Int) := by
  have hx : a ^^^ b < 2 ^ 32 := Nat.xor_lt_two_pow (by omega) (by omega)
  show IntKind.i64.wrap ((BitVec.ofInt 64 (a : Int) ^^^ BitVec.ofInt 64 (b : Int)).toNat : Int) = _
  rw [BitVec.toNat_xor, BitVec.ofInt_natCast, BitVec.ofInt_natCast, BitVec.toNat_ofNat, BitVec.toNat_ofNat, Nat.mod_eq_of_lt (by omega), Nat.mod_eq_of_lt (by omega), IntKind.wrap_i64]
  omega
theorem xor_u32 (a b : Nat) (ha : a < 4294967296) (hb : b < 4294967296) : bits .xor .u32 (a : Int) (b : Int) = ((a ^^^ b : Nat) : Int) := by
  have hx : a ^^^ b < 2 ^ 32 := Nat.xor_lt_two_pow (by omega) (by omega)
  show IntKind.u32.wrap ((BitVec.ofInt 32 (a : Int) ^^^ BitVec.ofInt 32 (b : Int)).toNat : Int) = _
  rw [BitVec.toNat_xor, BitVec.ofInt_natCast, BitVec.ofInt_natCast, BitVec.toNat_ofNat, BitVec.toNat_ofNat, Nat.mod_eq_of_lt (by omega), Nat.mod_eq_of_lt (by omega)]
  show ((a ^^^ b : Nat) : Int) % 4294967296 = _
  omega
theorem not_u32 (a : Nat) (ha : a < 4294967296) : bits .xor .u32 IntKind.u32.max (a : Int) = ((4294967295 - a : Nat) : Int) := by
  show IntKind.u32.wrap ((BitVec.ofInt 32 IntKind.u32.max ^^^ BitVec.ofInt 32 (a : Int)).toNat : Int) = _
  have e : BitVec.ofInt 32 IntKind.u32.max = BitVec.allOnes 32 := by decide
  rw [e, BitVec.allOnes_xor, BitVec.toNat_not, BitVec.ofInt_natCast, BitVec.toNat_ofNat, Nat.mod_eq_of_lt (by omega)]
  show ((2 ^ 32 - 1 - a : Nat) : Int) % 4294967296 = _
  omega
theorem and_u32 (a : Nat) (ha : a < 4294967296) : bits .and .u32 (a : Int) 1 = ((a % 2 : Nat) : Int) := by
  show IntKind.u32.wrap ((BitVec.ofInt 32 (a : Int) &&& BitVec.ofInt 32 1).toNat : Int) = _
  have e : (BitVec.ofInt 32 (a : Int) &&& BitVec.ofInt 32 1).toNat = a % 2 := by
    rw [BitVec.toNat_and, BitVec.ofInt_natCast, BitVec.toNat_ofNat, Nat.mod_eq_of_lt (by omega)]
    have : (BitVec.ofInt 32 (1 : Int)).toNat = 1 := by decide
    rw [this, Nat.and_one_is_mod]
  rw [e]
  show ((a % 2 : Nat) : Int) % 4294967296 = _
  omega

set_option maxRecDepth 100000 in
set_option maxHeartbeats 1600000 in
theorem specCrc_any (s : ByteArray) (w : World) (hb : s.size ≤ 9223372036854775807) :
    Calls Try.prog 8 #[.string s] w fun e w' => e = .returned (.int .i64 ((4294967295 - crcN s.data.toList : Nat) : Int)) ∧ w = w' := by
  go_enter Try.func8, Try.ntmps8
  go_wp2
  go_loopg [3, 4] (s.size + 1) (fun g c i wr => w = wr ∧ ∃ k x : Nat, k ≤ s.size ∧ g = s.size + 1 - k ∧ i = .int .i64 k ∧ c = .int .i64 x ∧ x = crcL 4294967295 (s.data.toList.take k))
  case atStart => exact ⟨rfl, 0, 4294967295, Nat.zero_le _, rfl, rfl, rfl, rfl⟩
  case round =>
    obtain ⟨rfl, k, x, hk, hg, rfl, rfl, hx⟩ := hrel
    have hxb : x < 4294967296 := by rw [hx]; exact crcL_lt _ _ (by decide)
    have hxz : (x : Int) ≤ 4294967295 := by omega
    have HX := hide hx
    have HG := hide hg
    have HXB := hide hxb
    clear hx hg hxb
    by_cases hlt : k < s.size
    · have hi : (k : Int) < (s.size : Int) := by omega
      have hyb : (s[k].toNat : Int) ≤ 255 := by have := s[k].toNat_lt; omega
      have e1 : bits .xor .i64 (x : Int) (s[k].toNat : Int) = ((x ^^^ s[k].toNat : Nat) : Int) := xor_i64 x _ HXB.out (by have := s[k].toNat_lt; omega)
      obtain ⟨y, hy⟩ : ∃ y, y = x ^^^ s[k].toNat := ⟨_, rfl⟩
      rw [← hy] at e1
      have hyb2 : y < 4294967296 := by rw [hy]; exact Nat.xor_lt_two_pow (n := 32) (by have := HXB.out; omega) (by have := s[k].toNat_lt; omega)
      have HY := hide hy
      have HYB := hide hyb2
      clear hy hyb2
      go_wp2
      clear e1
      go_loopg [3, 5] 9 (fun g2 c j wr2 => wr2 = w ∧ ∃ t z : Nat, t ≤ 8 ∧ g2 = 9 - t ∧ j = .int .i64 t ∧ c = .int .i64 z ∧ z = crcBits t y)
      case atStart => exact ⟨rfl, 0, y, by omega, rfl, rfl, rfl, rfl⟩
      case round =>
        obtain ⟨rfl, t, z, ht, hg2, rfl, rfl, hz⟩ := hrel
        have hzb : z < 4294967296 := by rw [hz]; exact crcBits_lt _ _ HYB.out
        have hzz : (z : Int) ≤ 4294967295 := by omega
        have HZ := hide hz
        have HG2 := hide hg2
        have HZB := hide hzb
        clear hz hg2 hzb
        by_cases htl : t < 8
        · have hi2 : (t : Int) < 8 := by omega
          have e3 : bits .xor .i64 ((z : Int) / 2) 2197175160 = ((z / 2 ^^^ 2197175160 : Nat) : Int) := by
            have := xor_i64 (z / 2) 2197175160 (by have := HZB.out; omega) (by decide)
            rw [← this]; congr 1
          by_cases hodd : z % 2 = 1
          · have e2 : ((z : Int) % 2 == 1) = true := by rw [beq_iff_eq]; omega
            have hn : crcBits (t + 1) y = z / 2 ^^^ 2197175160 := by show crcBit (crcBits t y) = _; rw [← HZ.out]; unfold crcBit; rw [if_pos hodd]
            have HN := hide hn
            clear hn
            go_wp2
            go_roundg (9 - (t + 1))
            case measure => have := HG2.out; omega
            case rel => exact ⟨rfl, t + 1, _, by omega, rfl, by go_num, by first | rfl | exact congrArg (Value.int .i64) e3, HN.out.symm⟩
          · have e2 : ((z : Int) % 2 == 1) = false := by rw [beq_eq_false_iff_ne]; omega
            have hn : crcBits (t + 1) y = z / 2 := by show crcBit (crcBits t y) = _; rw [← HZ.out]; unfold crcBit; rw [if_neg hodd]
            have HN := hide hn
            clear hn
            go_wp2
            go_roundg (9 - (t + 1))
            case measure => have := HG2.out; omega
            case rel => exact ⟨rfl, t + 1, z / 2, by omega, rfl, by go_num, by simp, HN.out.symm⟩
        · have hi2 : ¬ (t : Int) < 8 := by omega
          have hcb : crcL 4294967295 (s.data.toList.take (k + 1)) = z := by
            rw [take_snocC s k hlt, crcL_snoc, ← HX.out, HZ.out, HY.out]
            have : t = 8 := by omega
            rw [this]; rfl
          have HCB := hide hcb
          clear hcb
          go_wp2
          go_roundg (s.size + 1 - (k + 1))
          case measure => have := HG.out; omega
          case rel => exact ⟨rfl, k + 1, z, by omega, rfl, by go_num, rfl, HCB.out.symm⟩
    · have hi : ¬ (k : Int) < (s.size : Int) := by omega
      have hfin : crcN s.data.toList = x := by
        rw [HX.out, List.take_of_length_le (by simp; omega)]; rfl
      have HF := hide hfin
      clear hfin
      go_wp2
      go_ret
      exact ⟨retI (by rw [HF.out]; have := HXB.out; omega), rfl⟩

set_option maxRecDepth 100000 in
set_option maxHeartbeats 1600000 in
theorem implCrc_any (s : ByteArray) (w : World) (hb : s.size ≤ 9223372036854775807) :
    Calls Try.prog 7 #[.string s] w fun e w' => e = .returned (.int .i64 ((4294967295 - crcN s.data.toList : Nat) : Int)) ∧ w = w' := by
  go_enter Try.func7, Try.ntmps7
  go_wp2
  go_loopg [3, 8] (s.size + 1) (fun g c i wr => w = wr ∧ ∃ k x : Nat, k ≤ s.size ∧ g = s.size + 1 - k ∧ i = .int .i64 k ∧ c = .int .u32 x ∧ x = crcL 4294967295 (s.data.toList.take k))
  case atStart => exact ⟨rfl, 0, 4294967295, Nat.zero_le _, rfl, rfl, rfl, rfl⟩
  case round =>
    obtain ⟨rfl, k, x, hk, hg, rfl, rfl, hx⟩ := hrel
    have hxb : x < 4294967296 := by rw [hx]; exact crcL_lt _ _ (by decide)
    have hxz : (x : Int) ≤ 4294967295 := by omega
    have HX := hide hx
    have HG := hide hg
    have HXB := hide hxb
    clear hx hg hxb
    by_cases hlt : k < s.size
    · have hi : (k : Int) < (s.size : Int) := by omega
      have hyb : (s[k].toNat : Int) ≤ 255 := by have := s[k].toNat_lt; omega
      have e1 : bits .xor .u32 (x : Int) (s[k].toNat : Int) = ((x ^^^ s[k].toNat : Nat) : Int) := xor_u32 x _ HXB.out (by have := s[k].toNat_lt; omega)
      obtain ⟨y, hy⟩ : ∃ y, y = x ^^^ s[k].toNat := ⟨_, rfl⟩
      rw [← hy] at e1
      have hyb2 : y < 4294967296 := by rw [hy]; exact Nat.xor_lt_two_pow (n := 32) (by have := HXB.out; omega) (by have := s[k].toNat_lt; omega)
      have HY := hide hy
      have HYB := hide hyb2
      clear hy hyb2
      go_wp2
      clear e1
      go_loopg [3, 17] 9 (fun g2 c j wr2 => wr2 = w ∧ ∃ t z : Nat, t ≤ 8 ∧ g2 = 9 - t ∧ j = .int .i64 t ∧ c = .int .u32 z ∧ z = crcBits t y)
      case atStart => exact ⟨rfl, 0, y, by omega, rfl, rfl, rfl, rfl⟩
      case round =>
        obtain ⟨rfl, t, z, ht, hg2, rfl, rfl, hz⟩ := hrel
        have hzb : z < 4294967296 := by rw [hz]; exact crcBits_lt _ _ HYB.out
        have hzz : (z : Int) ≤ 4294967295 := by omega
        have HZ := hide hz
        have HG2 := hide hg2
        have HZB := hide hzb
        clear hz hg2 hzb
        by_cases htl : t < 8
        · have hi2 : (t : Int) < 8 := by omega
          have e3 : bits .xor .u32 ((z : Int) / 2) 2197175160 = ((z / 2 ^^^ 2197175160 : Nat) : Int) := by
            have := xor_u32 (z / 2) 2197175160 (by have := HZB.out; omega) (by decide)
            rw [← this]; congr 1
          by_cases hodd : z % 2 = 1
          · have e2 : (bits .and .u32 (z : Int) 1 == 1) = true := by rw [beq_iff_eq]; rw [and_u32 z HZB.out]; omega
            have hn : crcBits (t + 1) y = z / 2 ^^^ 2197175160 := by show crcBit (crcBits t y) = _; rw [← HZ.out]; unfold crcBit; rw [if_pos hodd]
            have HN := hide hn
            clear hn
            go_wp2
            go_roundg (9 - (t + 1))
            case measure => have := HG2.out; omega
            case rel => exact ⟨rfl, t + 1, _, by omega, rfl, by go_num, by first | rfl | exact congrArg (Value.int .u32) e3, HN.out.symm⟩
          · have e2 : (bits .and .u32 (z : Int) 1 == 1) = false := by rw [beq_eq_false_iff_ne]; rw [and_u32 z HZB.out]; omega
            have hn : crcBits (t + 1) y = z / 2 := by show crcBit (crcBits t y) = _; rw [← HZ.out]; unfold crcBit; rw [if_neg hodd]
            have HN := hide hn
            clear hn
            go_wp2
            go_roundg (9 - (t + 1))
            case measure => have := HG2.out; omega
            case rel => exact ⟨rfl, t + 1, z / 2, by omega, rfl, by go_num, by simp, HN.out.symm⟩
        · have hi2 : ¬ (t : Int) < 8 := by omega
          have hcb : crcL 4294967295 (s.data.toList.take (k + 1)) = z := by
            rw [take_snocC s k hlt, crcL_snoc, ← HX.out, HZ.out, HY.out]
            have : t = 8 := by omega
            rw [this]; rfl
          have HCB := hide hcb
          clear hcb
          go_wp2
          go_roundg (s.size + 1 - (k + 1))
          case measure => have := HG.out; omega
          case rel => exact ⟨rfl, k + 1, z, by omega, rfl, by go_num, rfl, HCB.out.symm⟩
    · have hi : ¬ (k : Int) < (s.size : Int) := by omega
      have hfin : crcN s.data.toList = x := by
        rw [HX.out, List.take_of_length_le (by simp; omega)]; rfl
      have HF := hide hfin
      clear hfin
      go_wp2
      go_ret
      exact ⟨retI (by rw [HF.out]; have := HXB.out; rw [not_u32 x HXB.out, IntWalk.wrap64_in _ ⟨by omega, by omega⟩]), rfl⟩

end Go.Proofs.Ythgnhdnedenbfab
