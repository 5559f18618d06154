/-
  Contracts of ReadVar, of the reference and of the program, and the walk of FnExactReadVar.
-/
import Derived.Test.YtciehbedpjfflabDoorVar
import Derived.Test.YtciehbedpjfflabDoorRvM
import Derived.Deep.LoopGhost
import Derived.Deep.RegionHeld3
namespace Go.Proofs.YtciehbedpjfflabDoor
open Go.RowKit
set_option linter.unusedVariables false

theorem take_snocV (s : ByteArray) (k : Nat) (h : k < s.size) : s.data.toList.take (k + 1) = s.data.toList.take k ++ [s[k]] := by
  rw [List.take_succ_eq_append_getElem (by simpa using h)]; rfl
theorem getD_bytes (s : ByteArray) (k : Nat) (h : k < s.size) : s.data.toList.getD k 0 = s[k] := by
  simp [List.getD]
  rw [Array.getElem?_eq_getElem (by simpa using h)]
  rfl
theorem retP {a b c d : Int} (h1 : a = c) (h2 : b = d) : Ending.returned (.tuple #[.int .i64 a, .int .i64 b]) = .returned (.tuple #[.int .i64 c, .int .i64 d]) := by rw [h1, h2]

theorem and127_u8 (b : UInt8) : bits .and .u8 (b.toNat : Int) 127 = ((b.toNat % 128 : Nat) : Int) := by
  have hb := b.toNat_lt
  show IntKind.u8.wrap ((BitVec.ofInt 8 (b.toNat : Int) &&& BitVec.ofInt 8 127).toNat : Int) = _
  have e : (BitVec.ofInt 8 (b.toNat : Int) &&& BitVec.ofInt 8 127).toNat = b.toNat % 128 := by
    rw [BitVec.toNat_and, BitVec.ofInt_natCast, BitVec.toNat_ofNat, Nat.mod_eq_of_lt (by omega)]
    have : (BitVec.ofInt 8 (127 : Int)).toNat = 2 ^ 7 - 1 := by decide
    rw [this, Nat.and_two_pow_sub_one_eq_mod]
  rw [e]
  show ((b.toNat % 128 : Nat) : Int) % 256 = _
  omega
theorem orshift (x k y : Nat) (hk : k < 7) (hx : x < 128 ^ k) (hy : y < 128) : bits .or .i64 (x : Int) (wrap64 (wrap64 (y : Int) * 2 ^ (7 * k))) = ((x + 128 ^ k * y : Nat) : Int) := by
  have hp : (128 : Nat) ^ k = 2 ^ (7 * k) := by rw [show (128 : Nat) = 2 ^ 7 by decide, ← Nat.pow_mul]
  have hpb : 2 ^ (7 * k) ≤ 2 ^ 42 := Nat.pow_le_pow_right (by omega) (by omega)
  have hyb : 2 ^ (7 * k) * y ≤ 2 ^ 42 * 127 := Nat.mul_le_mul hpb (by omega)
  have e1 : wrap64 (y : Int) = (y : Int) := IntWalk.wrap64_in _ ⟨by omega, by omega⟩
  have e2 : (y : Int) * 2 ^ (7 * k) = ((2 ^ (7 * k) * y : Nat) : Int) := by
    rw [Int.natCast_mul, Int.mul_comm]; simp
  rw [e1, e2, IntWalk.wrap64_in _ ⟨by omega, by omega⟩, hp]
  rw [hp] at hx
  generalize hm : 2 ^ (7 * k) * y = m at *
  show IntKind.i64.wrap ((BitVec.ofInt 64 (x : Int) ||| BitVec.ofInt 64 (m : Int)).toNat : Int) = _
  have e : (BitVec.ofInt 64 (x : Int) ||| BitVec.ofInt 64 (m : Int)).toNat = x + m := by
    rw [BitVec.toNat_or, BitVec.ofInt_natCast, BitVec.ofInt_natCast, BitVec.toNat_ofNat, BitVec.toNat_ofNat, Nat.mod_eq_of_lt (by omega), Nat.mod_eq_of_lt (by omega), Nat.or_comm, ← hm, ← Nat.two_pow_add_eq_or_of_lt hx]
    omega
  rw [e, IntKind.wrap_i64]
  omega

set_option maxRecDepth 100000 in
set_option maxHeartbeats 3200000 in
theorem implRv_0 (s : ByteArray) (w : World) (hb : s.size ≤ 9223372036854775807) (hm : (s.size : Int) ≤ 7) :
    Calls Tryd.prog 8 #[.string s] w fun e w' => e = .returned (.tuple #[.int .i64 ((rvR s.data.toList).1 : Int), .int .i64 ((rvR s.data.toList).2 : Int)]) ∧ w = w' := by
  have HM := hide hm
  go_enter Tryd.func8, Tryd.ntmps8
  go_wp2
  clear hm
  go_loopg [4, 9] 8 (fun g n i wr => w = wr ∧ ∃ k x : Nat, k ≤ s.size ∧ g = 8 - k ∧ i = .int .i64 k ∧ n = .int .i64 x ∧ x = rvN (s.data.toList.take k) ∧ AllHi s.data.toList k)
  case atStart => exact ⟨rfl, 0, 0, by omega, rfl, rfl, rfl, rfl, fun i hi => absurd hi (by omega)⟩
  case round =>
    obtain ⟨rfl, k, x, hk, hg, rfl, rfl, hx, hall⟩ := hrel
    have HX := hide hx
    have HG := hide hg
    have HA := hide hall
    clear hx hg hall
    have hlen : s.data.toList.length = s.size := by simp
    have HLEN := hide hlen
    clear hlen
    by_cases hlt : k < s.size
    · have hks : k < s.size := by have := HM.out; omega
      have hk7 : k < 7 := by have := HM.out; omega
      have hi1 : (k : Int) < (s.size : Int) := by omega
      have hyb : (s[k].toNat : Int) ≤ 255 := by have := s[k].toNat_lt; omega
      have hxk : x < 128 ^ k := by
        have := rvN_lt (s.data.toList.take k)
        rw [List.length_take, HLEN.out, Nat.min_eq_left (by omega)] at this
        rw [HX.out]; exact this
      have e1 : bits .or .i64 (x : Int) (wrap64 (wrap64 (bits .and .u8 (s[k].toNat : Int) 127) * 2 ^ (7 * k))) = ((x + 128 ^ k * (s[k].toNat % 128) : Nat) : Int) := by
        rw [and127_u8]; exact orshift x k _ hk7 hxk (by omega)
      have hnx : x + 128 ^ k * (s[k].toNat % 128) = rvN (s.data.toList.take (k + 1)) := by
        rw [take_snocV s k hks, rvN_snoc, List.length_take, HLEN.out, Nat.min_eq_left (by omega), ← HX.out]
      obtain ⟨y, hy⟩ : ∃ y, y = x + 128 ^ k * (s[k].toNat % 128) := ⟨_, rfl⟩
      rw [← hy] at e1 hnx
      have HY := hide hnx
      clear hy hnx hxk
      have hgd := getD_bytes s k hks
      have HGD := hide hgd
      clear hgd
      by_cases h128 : (s[k].toNat : Int) < 128
      · have hrv := rvR_some s.data.toList k hk7 (by have := HLEN.out; omega) HA.out (by rw [HGD.out]; omega)
        by_cases hz : 0 < k ∧ s[k] = 0
        · have e0 : ((s[k].toNat : Int) == 0) = true := by rw [hz.2]; rfl
          have hk0 : (0 : Int) < (k : Int) := by omega
          rw [if_pos ⟨hz.1, by rw [HGD.out]; exact hz.2⟩] at hrv
          have HRV := hide hrv
          clear hrv hz
          go_wp2
          go_ret2
          exact ⟨retP (by rw [HRV.out]; rfl) (by rw [HRV.out]; rfl), rfl⟩
        · rw [if_neg (by rw [HGD.out]; exact hz)] at hrv
          have HRV := hide hrv
          clear hrv
          by_cases hk0 : (0 : Int) < (k : Int)
          · have e0 : ((s[k].toNat : Int) == 0) = false := by
              rw [beq_eq_false_iff_ne]; intro h
              exact hz ⟨by omega, by rw [← UInt8.toNat_inj]; simpa using h⟩
            clear hz
            go_wp2
            go_ret2
            exact ⟨retP (by rw [HRV.out, HY.out]) (by rw [HRV.out]; simp), rfl⟩
          · clear hz
            go_wp2
            go_ret2
            exact ⟨retP (by rw [HRV.out, HY.out]) (by rw [HRV.out]; simp), rfl⟩
      · go_wp2
        go_roundg (8 - (k + 1))
        case measure => have := HG.out; omega
        case rel => exact ⟨rfl, k + 1, y, by omega, rfl, by go_num, by first | rfl | exact congrArg (Value.int .i64) e1, HY.out, fun i hi => by
          by_cases e : i = k
          · subst e; rw [HGD.out]; omega
          · exact HA.out i (by omega)⟩
    · have hi1 : ¬ (k : Int) < (s.size : Int) := by omega
      have hkm : k = s.size := by omega
      have hrv := rvR_none s.data.toList k (by have := HM.out; omega) (by have := HLEN.out; omega) (by have := HM.out; have := HLEN.out; omega) HA.out
      have HRV := hide hrv
      clear hrv hkm
      go_wp2
      go_ret2
      exact ⟨retP (by rw [HRV.out]; rfl) (by rw [HRV.out]; rfl), rfl⟩

set_option maxRecDepth 100000 in
set_option maxHeartbeats 3200000 in
theorem implRv_1 (s : ByteArray) (w : World) (hb : s.size ≤ 9223372036854775807) (hm : (7 : Int) < (s.size : Int)) :
    Calls Tryd.prog 8 #[.string s] w fun e w' => e = .returned (.tuple #[.int .i64 ((rvR s.data.toList).1 : Int), .int .i64 ((rvR s.data.toList).2 : Int)]) ∧ w = w' := by
  have HM := hide hm
  go_enter Tryd.func8, Tryd.ntmps8
  go_wp2
  clear hm
  go_loopg [4, 9] 8 (fun g n i wr => w = wr ∧ ∃ k x : Nat, k ≤ 7 ∧ g = 8 - k ∧ i = .int .i64 k ∧ n = .int .i64 x ∧ x = rvN (s.data.toList.take k) ∧ AllHi s.data.toList k)
  case atStart => exact ⟨rfl, 0, 0, by omega, rfl, rfl, rfl, rfl, fun i hi => absurd hi (by omega)⟩
  case round =>
    obtain ⟨rfl, k, x, hk, hg, rfl, rfl, hx, hall⟩ := hrel
    have HX := hide hx
    have HG := hide hg
    have HA := hide hall
    clear hx hg hall
    have hlen : s.data.toList.length = s.size := by simp
    have HLEN := hide hlen
    clear hlen
    by_cases hlt : k < 7
    · have hks : k < s.size := by have := HM.out; omega
      have hk7 : k < 7 := by have := HM.out; omega
      have hi1 : (k : Int) < 7 := by omega
      have hyb : (s[k].toNat : Int) ≤ 255 := by have := s[k].toNat_lt; omega
      have hxk : x < 128 ^ k := by
        have := rvN_lt (s.data.toList.take k)
        rw [List.length_take, HLEN.out, Nat.min_eq_left (by omega)] at this
        rw [HX.out]; exact this
      have e1 : bits .or .i64 (x : Int) (wrap64 (wrap64 (bits .and .u8 (s[k].toNat : Int) 127) * 2 ^ (7 * k))) = ((x + 128 ^ k * (s[k].toNat % 128) : Nat) : Int) := by
        rw [and127_u8]; exact orshift x k _ hk7 hxk (by omega)
      have hnx : x + 128 ^ k * (s[k].toNat % 128) = rvN (s.data.toList.take (k + 1)) := by
        rw [take_snocV s k hks, rvN_snoc, List.length_take, HLEN.out, Nat.min_eq_left (by omega), ← HX.out]
      obtain ⟨y, hy⟩ : ∃ y, y = x + 128 ^ k * (s[k].toNat % 128) := ⟨_, rfl⟩
      rw [← hy] at e1 hnx
      have HY := hide hnx
      clear hy hnx hxk
      have hgd := getD_bytes s k hks
      have HGD := hide hgd
      clear hgd
      by_cases h128 : (s[k].toNat : Int) < 128
      · have hrv := rvR_some s.data.toList k hk7 (by have := HLEN.out; omega) HA.out (by rw [HGD.out]; omega)
        by_cases hz : 0 < k ∧ s[k] = 0
        · have e0 : ((s[k].toNat : Int) == 0) = true := by rw [hz.2]; rfl
          have hk0 : (0 : Int) < (k : Int) := by omega
          rw [if_pos ⟨hz.1, by rw [HGD.out]; exact hz.2⟩] at hrv
          have HRV := hide hrv
          clear hrv hz
          go_wp2
          go_ret2
          exact ⟨retP (by rw [HRV.out]; rfl) (by rw [HRV.out]; rfl), rfl⟩
        · rw [if_neg (by rw [HGD.out]; exact hz)] at hrv
          have HRV := hide hrv
          clear hrv
          by_cases hk0 : (0 : Int) < (k : Int)
          · have e0 : ((s[k].toNat : Int) == 0) = false := by
              rw [beq_eq_false_iff_ne]; intro h
              exact hz ⟨by omega, by rw [← UInt8.toNat_inj]; simpa using h⟩
            clear hz
            go_wp2
            go_ret2
            exact ⟨retP (by rw [HRV.out, HY.out]) (by rw [HRV.out]; simp), rfl⟩
          · clear hz
            go_wp2
            go_ret2
            exact ⟨retP (by rw [HRV.out, HY.out]) (by rw [HRV.out]; simp), rfl⟩
      · go_wp2
        go_roundg (8 - (k + 1))
        case measure => have := HG.out; omega
        case rel => exact ⟨rfl, k + 1, y, by omega, rfl, by go_num, by first | rfl | exact congrArg (Value.int .i64) e1, HY.out, fun i hi => by
          by_cases e : i = k
          · subst e; rw [HGD.out]; omega
          · exact HA.out i (by omega)⟩
    · have hi1 : ¬ (k : Int) < 7 := by omega
      have hkm : k = 7 := by omega
      have hrv := rvR_none s.data.toList k (by have := HM.out; omega) (by have := HLEN.out; omega) (by have := HM.out; have := HLEN.out; omega) HA.out
      have HRV := hide hrv
      clear hrv hkm
      go_wp2
      go_ret2
      exact ⟨retP (by rw [HRV.out]; rfl) (by rw [HRV.out]; rfl), rfl⟩

theorem implRv_any (s : ByteArray) (w : World) (hb : s.size ≤ 9223372036854775807) :
    Calls Tryd.prog 8 #[.string s] w fun e w' => e = .returned (.tuple #[.int .i64 ((rvR s.data.toList).1 : Int), .int .i64 ((rvR s.data.toList).2 : Int)]) ∧ w = w' := by
  by_cases h : (s.size : Int) ≤ 7
  · exact implRv_0 s w hb h
  · exact implRv_1 s w hb (by omega)

theorem keepV {w w1 w2 : World} (h : Below w.heap.size w w1) (k : Below w1.heap.size w1 w2) : Below w.heap.size w w2 := h.trans (k.mono h.size)
theorem extract_list (s : ByteArray) (k : Nat) : (s.extract 0 k).toList = s.data.toList.take k := by
  rw [ByteArray.toList_eq]
  simp [ByteArray.data_extract]
theorem canon_beq (s : ByteArray) (k : Nat) (hk : k ≤ 7) : ((varS ((rvN (s.data.toList.take k) : Nat) : Int)).toList == (s.extract 0 k).toList) = canon (s.data.toList.take k) := by
  have hb : rvN (s.data.toList.take k) ≤ 562949953421311 := by
    have h2 := rvN_lt (s.data.toList.take k)
    have h3 : (s.data.toList.take k).length ≤ 7 := by rw [List.length_take]; omega
    have h4 : 128 ^ (s.data.toList.take k).length ≤ 128 ^ 7 := Nat.pow_le_pow_right (by omega) h3
    have h5 : (128 : Nat) ^ 7 = 562949953421312 := by decide
    omega
  rw [varS_yes hb, extract_list, ByteArray.toList_mk, Bool.eq_iff_iff, beq_iff_eq]
  exact varB_iff _

end Go.Proofs.YtciehbedpjfflabDoor
