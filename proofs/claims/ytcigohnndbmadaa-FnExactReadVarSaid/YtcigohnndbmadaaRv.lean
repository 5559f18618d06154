/-
  Contracts of ReadVar, of the reference and of the program, and the walk of FnExactReadVar.
-/
import Derived.Test.YtcigohnndbmadaaVar
import Derived.Test.YtcigohnndbmadaaRvM
import Derived.Deep.LoopGhost
import Derived.Deep.RegionHeld3
namespace Go.Proofs.Ytcigohnndbmadaa
open Go.RowKit
set_option linter.unusedVariables false

theorem take_snocV (s : ByteArray) (k : Nat) (h : k < s.size) : s.data.toList.take (k + 1) = s.data.toList.take k ++ [s[k]] := by
  rw [List.take_succ_eq_append_getElem (by simpa using h)]; rfl
theorem getD_bytes (s : ByteArray) (k : Nat) (h : k < s.size) : s.data.toList.getD k 0 = s[k] := by
  simp [List.getD]
  rw [Array.getElem?_eq_getElem (by simpa using h)]
  rfl
theorem retP {a b c d : Int} (h1 : a = c) (h2 : b = d) : Ending.returned (.tuple #[.int .i64 a, .int .i64 b]) = .returned (.tuple #[.int .i64 c, .int .i64 d]) := by rw [h1, h2]

theorem and127_u8 (b : UInt8) : bits .and .u8 (b.toNat : Int) 127 = ((b.toNat % 128 : Nat) : Int) := by
  have hb := b.toNat_lt
  show IntKind.u8.wrap ((BitVec.ofInt 8 (b.toNat : Int) &&& BitVec.ofInt 8 127).toNat : Int) = _
  have e : (BitVec.ofInt 8 (b.toNat : Int) &&& BitVec.ofInt 8 127).toNat = b.toNat % 128 := by
    rw [BitVec.toNat_and, BitVec.ofInt_natCast, BitVec.toNat_ofNat, Nat.mod_eq_of_lt (by omega)]
    have : (BitVec.ofInt 8 (127 : Int)).toNat = 2 ^ 7 - 1 := by decide
    rw [this, Nat.and_two_pow_sub_one_eq_mod]
  rw [e]
  show ((b.toNat % 128 : Nat) : Int) % 256 = _
  omega
theorem orshift (x k y : Nat) (hk : k < 7) (hx : x < 128 ^ k) (hy : y < 128) : bits .or .i64 (x : Int) (wrap64 (wrap64 (y : Int) * 2 ^ (7 * k))) = ((x + 128 ^ k * y : Nat) : Int) := by
  have hp : (128 : Nat) ^ k = 2 ^ (7 * k) := by rw [show (128 : Nat) = 2 ^ 7 by decide, ← Nat.pow_mul]
  have hpb : 2 ^ (7 * k) ≤ 2 ^ 42 := Nat.pow_le_pow_right (by omega) (by omega)
  have hyb : 2 ^ (7 * k) * y ≤ 2 ^ 42 * 127 := Nat.mul_le_mul hpb (by omega)
  have e1 : wrap64 (y : Int) = (y : Int) := IntWalk.wrap64_in _ ⟨by omega, by omega⟩
  have e2 : (y : Int) * 2 ^ (7 * k) = ((2 ^ (7 * k) * y : Nat) : Int) := by
    rw [Int.natCast_mul, Int.mul_comm]; simp
  rw [e1, e2, IntWalk.wrap64_in _ ⟨by omega, by omega⟩, hp]
  rw [hp] at hx
  generalize hm : 2 ^ (7 * k) * y = m at *
  show IntKind.i64.wrap ((BitVec.ofInt 64 (x : Int) ||| BitVec.ofInt 64 (m : Int)).toNat : Int) = _
  have e : (BitVec.ofInt 64 (x : Int) ||| BitVec.ofInt 64 (m : Int)).toNat = x + m := by
    rw [BitVec.toNat_or, BitVec.ofInt_natCast, BitVec.ofInt_natCast, BitVec.toNat_ofNat, BitVec.toNat_ofNat, Nat.mod_eq_of_lt (by omega), Nat.mod_eq_of_lt (by omega), Nat.or_comm, ← hm, ← Nat.two_pow_add_eq_or_of_lt hx]
    omega
  rw [e, IntKind.wrap_i64]
  omega

set_option maxRecDepth 100000 in
set_option maxHeartbeats 3200000 in
theorem implRv_0 (s : ByteArray) (w : World) (hb : s.size ≤ 9223372036854775807) (hm : (s.size : Int) ≤ 7) :
    Calls Try.prog 19 #[.string s] w fun e w' => e = .returned (.tuple #[.int .i64 ((rvR s.data.toList).1 : Int), .int .i64 ((rvR s.data.toList).2 : Int)]) ∧ w = w' := by
  have HM := hide hm
  go_enter Try.func19, Try.ntmps19
  go_wp2
  clear hm
  go_loopg [4, 9] 8 (fun g n i wr => w = wr ∧ ∃ k x : Nat, k ≤ s.size ∧ g = 8 - k ∧ i = .int .i64 k ∧ n = .int .i64 x ∧ x = rvN (s.data.toList.take k) ∧ AllHi s.data.toList k)
  case atStart => exact ⟨rfl, 0, 0, by omega, rfl, rfl, rfl, rfl, fun i hi => absurd hi (by omega)⟩
  case round =>
    obtain ⟨rfl, k, x, hk, hg, rfl, rfl, hx, hall⟩ := hrel
    have HX := hide hx
    have HG := hide hg
    have HA := hide hall
    clear hx hg hall
    have hlen : s.data.toList.length = s.size := by simp
    have HLEN := hide hlen
    clear hlen
    by_cases hlt : k < s.size
    · have hks : k < s.size := by have := HM.out; omega
      have hk7 : k < 7 := by have := HM.out; omega
      have hi1 : (k : Int) < (s.size : Int) := by omega
      have hyb : (s[k].toNat : Int) ≤ 255 := by have := s[k].toNat_lt; omega
      have hxk : x < 128 ^ k := by
        have := rvN_lt (s.data.toList.take k)
        rw [List.length_take, HLEN.out, Nat.min_eq_left (by omega)] at this
        rw [HX.out]; exact this
      have e1 : bits .or .i64 (x : Int) (wrap64 (wrap64 (bits .and .u8 (s[k].toNat : Int) 127) * 2 ^ (7 * k))) = ((x + 128 ^ k * (s[k].toNat % 128) : Nat) : Int) := by
        rw [and127_u8]; exact orshift x k _ hk7 hxk (by omega)
      have hnx : x + 128 ^ k * (s[k].toNat % 128) = rvN (s.data.toList.take (k + 1)) := by
        rw [take_snocV s k hks, rvN_snoc, List.length_take, HLEN.out, Nat.min_eq_left (by omega), ← HX.out]
      obtain ⟨y, hy⟩ : ∃ y, y = x + 128 ^ k * (s[k].toNat % 128) := ⟨_, rfl⟩
      rw [← hy] at e1 hnx
      have HY := hide hnx
      clear hy hnx hxk
      have hgd := getD_bytes s k hks
      have HGD := hide hgd
      clear hgd
      by_cases h128 : (s[k].toNat : Int) < 128
      · have hrv := rvR_some s.data.toList k hk7 (by have := HLEN.out; omega) HA.out (by rw [HGD.out]; omega)
        by_cases hz : 0 < k ∧ s[k] = 0
        · have e0 : ((s[k].toNat : Int) == 0) = true := by rw [hz.2]; rfl
          have hk0 : (0 : Int) < (k : Int) := by omega
          rw [if_pos ⟨hz.1, by rw [HGD.out]; exact hz.2⟩] at hrv
          have HRV := hide hrv
          clear hrv hz
          go_wp2
          go_ret2
          exact ⟨retP (by rw [HRV.out]; rfl) (by rw [HRV.out]; rfl), rfl⟩
        · rw [if_neg (by rw [HGD.out]; exact hz)] at hrv
          have HRV := hide hrv
          clear hrv
          by_cases hk0 : (0 : Int) < (k : Int)
          · have e0 : ((s[k].toNat : Int) == 0) = false := by
              rw [beq_eq_false_iff_ne]; intro h
              exact hz ⟨by omega, by rw [← UInt8.toNat_inj]; simpa using h⟩
            clear hz
            go_wp2
            go_ret2
            exact ⟨retP (by rw [HRV.out, HY.out]) (by rw [HRV.out]; simp), rfl⟩
          · clear hz
            go_wp2
            go_ret2
            exact ⟨retP (by rw [HRV.out, HY.out]) (by rw [HRV.out]; simp), rfl⟩
      · go_wp2
        go_roundg (8 - (k + 1))
        case measure => have := HG.out; omega
        case rel => exact ⟨rfl, k + 1, y, by omega, rfl, by go_num, by first | rfl | exact congrArg (Value.int .i64) e1, HY.out, fun i hi => by
          by_cases e : i = k
          · subst e; rw [HGD.out]; omega
          · exact HA.out i (by omega)⟩
    · have hi1 : ¬ (k : Int) < (s.size : Int) := by omega
      have hkm : k = s.size := by omega
      have hrv := rvR_none s.data.toList k (by have := HM.out; omega) (by have := HLEN.out; omega) (by have := HM.out; have := HLEN.out; omega) HA.out
      have HRV := hide hrv
      clear hrv hkm
      go_wp2
      go_ret2
      exact ⟨retP (by rw [HRV.out]; rfl) (by rw [HRV.out]; rfl), rfl⟩

set_option maxRecDepth 100000 in
set_option maxHeartbeats 3200000 in
theorem implRv_1 (s : ByteArray) (w : World) (hb : s.size ≤ 9223372036854775807) (hm : (7 : Int) < (s.size : Int)) :
    Calls Try.prog 19 #[.string s] w fun e w' => e = .returned (.tuple #[.int .i64 ((rvR s.data.toList).1 : Int), .int .i64 ((rvR s.data.toList).2 : Int)]) ∧ w = w' := by
  have HM := hide hm
  go_enter Try.func19, Try.ntmps19
  go_wp2
  clear hm
  go_loopg [4, 9] 8 (fun g n i wr => w = wr ∧ ∃ k x : Nat, k ≤ 7 ∧ g = 8 - k ∧ i = .int .i64 k ∧ n = .int .i64 x ∧ x = rvN (s.data.toList.take k) ∧ AllHi s.data.toList k)
  case atStart => exact ⟨rfl, 0, 0, by omega, rfl, rfl, rfl, rfl, fun i hi => absurd hi (by omega)⟩
  case round =>
    obtain ⟨rfl, k, x, hk, hg, rfl, rfl, hx, hall⟩ := hrel
    have HX := hide hx
    have HG := hide hg
    have HA := hide hall
    clear hx hg hall
    have hlen : s.data.toList.length = s.size := by simp
    have HLEN := hide hlen
    clear hlen
    by_cases hlt : k < 7
    · have hks : k < s.size := by have := HM.out; omega
      have hk7 : k < 7 := by have := HM.out; omega
      have hi1 : (k : Int) < 7 := by omega
      have hyb : (s[k].toNat : Int) ≤ 255 := by have := s[k].toNat_lt; omega
      have hxk : x < 128 ^ k := by
        have := rvN_lt (s.data.toList.take k)
        rw [List.length_take, HLEN.out, Nat.min_eq_left (by omega)] at this
        rw [HX.out]; exact this
      have e1 : bits .or .i64 (x : Int) (wrap64 (wrap64 (bits .and .u8 (s[k].toNat : Int) 127) * 2 ^ (7 * k))) = ((x + 128 ^ k * (s[k].toNat % 128) : Nat) : Int) := by
        rw [and127_u8]; exact orshift x k _ hk7 hxk (by omega)
      have hnx : x + 128 ^ k * (s[k].toNat % 128) = rvN (s.data.toList.take (k + 1)) := by
        rw [take_snocV s k hks, rvN_snoc, List.length_take, HLEN.out, Nat.min_eq_left (by omega), ← HX.out]
      obtain ⟨y, hy⟩ : ∃ y, y = x + 128 ^ k * (s[k].toNat % 128) := ⟨_, rfl⟩
      rw [← hy] at e1 hnx
      have HY := hide hnx
      clear hy hnx hxk
      have hgd := getD_bytes s k hks
      have HGD := hide hgd
      clear hgd
      by_cases h128 : (s[k].toNat : Int) < 128
      · have hrv := rvR_some s.data.toList k hk7 (by have := HLEN.out; omega) HA.out (by rw [HGD.out]; omega)
        by_cases hz : 0 < k ∧ s[k] = 0
        · have e0 : ((s[k].toNat : Int) == 0) = true := by rw [hz.2]; rfl
          have hk0 : (0 : Int) < (k : Int) := by omega
          rw [if_pos ⟨hz.1, by rw [HGD.out]; exact hz.2⟩] at hrv
          have HRV := hide hrv
          clear hrv hz
          go_wp2
          go_ret2
          exact ⟨retP (by rw [HRV.out]; rfl) (by rw [HRV.out]; rfl), rfl⟩
        · rw [if_neg (by rw [HGD.out]; exact hz)] at hrv
          have HRV := hide hrv
          clear hrv
          by_cases hk0 : (0 : Int) < (k : Int)
          · have e0 : ((s[k].toNat : Int) == 0) = false := by
              rw [beq_eq_false_iff_ne]; intro h
              exact hz ⟨by omega, by rw [← UInt8.toNat_inj]; simpa using h⟩
            clear hz
            go_wp2
            go_ret2
            exact ⟨retP (by rw [HRV.out, HY.out]) (by rw [HRV.out]; simp), rfl⟩
          · clear hz
            go_wp2
            go_ret2
            exact ⟨retP (by rw [HRV.out, HY.out]) (by rw [HRV.out]; simp), rfl⟩
      · go_wp2
        go_roundg (8 - (k + 1))
        case measure => have := HG.out; omega
        case rel => exact ⟨rfl, k + 1, y, by omega, rfl, by go_num, by first | rfl | exact congrArg (Value.int .i64) e1, HY.out, fun i hi => by
          by_cases e : i = k
          · subst e; rw [HGD.out]; omega
          · exact HA.out i (by omega)⟩
    · have hi1 : ¬ (k : Int) < 7 := by omega
      have hkm : k = 7 := by omega
      have hrv := rvR_none s.data.toList k (by have := HM.out; omega) (by have := HLEN.out; omega) (by have := HM.out; have := HLEN.out; omega) HA.out
      have HRV := hide hrv
      clear hrv hkm
      go_wp2
      go_ret2
      exact ⟨retP (by rw [HRV.out]; rfl) (by rw [HRV.out]; rfl), rfl⟩

theorem implRv_any (s : ByteArray) (w : World) (hb : s.size ≤ 9223372036854775807) :
    Calls Try.prog 19 #[.string s] w fun e w' => e = .returned (.tuple #[.int .i64 ((rvR s.data.toList).1 : Int), .int .i64 ((rvR s.data.toList).2 : Int)]) ∧ w = w' := by
  by_cases h : (s.size : Int) ≤ 7
  · exact implRv_0 s w hb h
  · exact implRv_1 s w hb (by omega)

theorem keepV {w w1 w2 : World} (h : Below w.heap.size w w1) (k : Below w1.heap.size w1 w2) : Below w.heap.size w w2 := h.trans (k.mono h.size)
theorem extract_list (s : ByteArray) (k : Nat) : (s.extract 0 k).toList = s.data.toList.take k := by
  rw [ByteArray.toList_eq]
  simp [ByteArray.data_extract]
theorem canon_beq (s : ByteArray) (k : Nat) (hk : k ≤ 7) : ((varS ((rvN (s.data.toList.take k) : Nat) : Int)).toList == (s.extract 0 k).toList) = canon (s.data.toList.take k) := by
  have hb : rvN (s.data.toList.take k) ≤ 562949953421311 := by
    have h2 := rvN_lt (s.data.toList.take k)
    have h3 : (s.data.toList.take k).length ≤ 7 := by rw [List.length_take]; omega
    have h4 : 128 ^ (s.data.toList.take k).length ≤ 128 ^ 7 := Nat.pow_le_pow_right (by omega) h3
    have h5 : (128 : Nat) ^ 7 = 562949953421312 := by decide
    omega
  rw [varS_yes hb, extract_list, ByteArray.toList_mk, Bool.eq_iff_iff, beq_iff_eq]
  exact varB_iff _

set_option maxRecDepth 100000 in
set_option maxHeartbeats 3200000 in
theorem specRv_any (s : ByteArray) (w : World) (hb : s.size ≤ 9223372036854775807) :
    Calls Try.prog 18 #[.string s] w fun e w' => e = .returned (.tuple #[.int .i64 ((rvR s.data.toList).1 : Int), .int .i64 ((rvR s.data.toList).2 : Int)]) ∧ Below w.heap.size w w' := by
  have hlen : s.data.toList.length = s.size := by simp
  have HLEN := hide hlen
  clear hlen
  go_enter Try.func18, Try.ntmps18
  go_wp2
  go_loopg [4, 5, 6] 9 (fun g i _n _j wr => ∃ k : Nat, k ≤ 7 ∧ k ≤ s.size ∧ g = 9 - k ∧ i = .int .i64 ((k : Int) + 1) ∧ Below w.heap.size w wr ∧ ∀ j, j < k → canon (s.data.toList.take (j + 1)) = false)
  case atStart => exact ⟨0, by omega, by omega, rfl, rfl, Below.refl _ _, fun j hj => absurd hj (by omega)⟩
  case round =>
    obtain ⟨k, hk7, hks, hg, rfl, hB, hno⟩ := hrel
    have HG := hide hg
    have HB := hide hB
    have HNO := hide hno
    clear hg hB hno
    by_cases h7 : k < 7
    · have q7 : (k : Int) + 1 ≤ 7 := by omega
      by_cases hs : k < s.size
      · have qs : (k : Int) + 1 ≤ (s.size : Int) := by omega
        go_wp2
        go_loopg [5, 6] (k + 2) (fun g2 n i wr2 => wr2 = wr ∧ ∃ (r x : Nat), r ≤ k + 1 ∧ g2 = r + 1 ∧ i = .int .i64 ((r : Int) - 1) ∧ n = .int .i64 x ∧ x = rvN ((s.data.toList.take (k + 1)).drop r))
        case atStart => exact ⟨rfl, k + 1, 0, by omega, rfl, by go_num, rfl, by rw [List.drop_of_length_le (by rw [List.length_take]; omega)]; rfl⟩
        case round =>
          obtain ⟨rfl, r, x, hr, hg2, rfl, rfl, hx⟩ := hrel
          have hxb : (x : Int) ≤ 562949953421311 := by
            have h2 := rvN_lt ((s.data.toList.take (k + 1)).drop r)
            have h3 : ((s.data.toList.take (k + 1)).drop r).length ≤ 7 := by rw [List.length_drop, List.length_take]; omega
            have h4 : 128 ^ ((s.data.toList.take (k + 1)).drop r).length ≤ 128 ^ 7 := Nat.pow_le_pow_right (by omega) h3
            have h5 : (128 : Nat) ^ 7 = 562949953421312 := by decide
            omega
          have HX := hide hx
          have HG2 := hide hg2
          clear hx hg2
          cases r with
          | zero =>
            have q0 : ¬ (0 : Int) ≤ ((0 : Nat) : Int) - 1 := by omega
            have HX2 : Hid (x = rvN (s.data.toList.take (k + 1))) := hide (by have := HX.out; simpa using this)
            have hbq := canon_beq s (k + 1) (by omega)
            rw [← HX2.out] at hbq
            have q1 : (0 : Int) ≤ (k : Int) + 1 := by omega
            have HBQ := hide hbq
            clear hbq
            go_wp2_with fail
            go_region_held3 (fun w' => Below wr.heap.size wr w')
              (first | (exact (Below.refl _ _).drew) | (exact keepV (by assumption) (by assumption)) | (exact Below.drew (by assumption)) | assumption | (exact Below.refl _ _))
              (first | (go_at_call 12; refine (specVar_any _ _).mono ?_; rintro e w' ⟨rfl, hb⟩))
            have hS := ‹Below wr.heap.size wr _›
            have HB2 := hide (HB.out.trans (hS.mono HB.out.size))
            clear hS
            by_cases hcn : canon (s.data.toList.take (k + 1)) = true
            · have hbq := HBQ.out
              rw [hcn] at hbq
              have hrv := rvR_canon s.data.toList k h7 (by have := HLEN.out; omega) hcn
              have HRV := hide hrv
              clear hrv hcn
              go_wp2
              all_goals first | (rename_i hh; exact absurd (hbq.symm.trans hh) (by decide)) | skip
              go_ret2
              exact ⟨retP (by rw [HRV.out, HX2.out]) (by rw [HRV.out]; simp), HB2.out⟩
            · have hcf : canon (s.data.toList.take (k + 1)) = false := by simpa using hcn
              clear hcn
              have hbq := HBQ.out
              rw [hcf] at hbq
              have HCF := hide hcf
              clear hcf
              go_wp2
              all_goals first | (rename_i hh; exact absurd (hbq.symm.trans hh) (by decide)) | skip
              go_roundg (9 - (k + 1))
              case measure => have := HG.out; omega
              case rel => exact ⟨k + 1, by omega, by omega, rfl, by go_num, HB2.out, fun j hj => by
                by_cases e : j = k
                · subst e; exact HCF.out
                · exact HNO.out j (by omega)⟩
          | succ r =>
            have hrs : r < s.size := by omega
            have hyb : (s[r].toNat : Int) ≤ 255 := by have := s[r].toNat_lt; omega
            have hnx : x * 128 + s[r].toNat % 128 = rvN ((s.data.toList.take (k + 1)).drop r) := by
              have hrl : r < (s.data.toList.take (k + 1)).length := by rw [List.length_take, HLEN.out]; omega
              rw [List.drop_eq_getElem_cons hrl, rvN, ← HX.out, List.getElem_take]
              have : s.data.toList[r]'(by have := HLEN.out; omega) = s[r] := rfl
              rw [this]; omega
            have HNX := hide hnx
            clear hnx
            go_wp2
            go_roundg (r + 1)
            case measure => have := HG2.out; omega
            case rel => exact ⟨rfl, r, x * 128 + s[r].toNat % 128, by omega, rfl, by go_num, by go_num, HNX.out⟩
      · have qs : ¬ (k : Int) + 1 ≤ (s.size : Int) := by omega
        have hks2 : k = s.size := by omega
        have hrv := rvR_nocanon s.data.toList k hk7 (by have := HLEN.out; omega) (by have := HLEN.out; omega) HNO.out
        have HRV := hide hrv
        clear hrv hks2
        go_wp2
        go_ret2
        exact ⟨retP (by rw [HRV.out]; rfl) (by rw [HRV.out]; rfl), HB.out⟩
    · have q7 : ¬ (k : Int) + 1 ≤ 7 := by omega
      have hk2 : k = 7 := by omega
      have hrv := rvR_nocanon s.data.toList k hk7 (by have := HLEN.out; omega) (by have := HLEN.out; omega) HNO.out
      have HRV := hide hrv
      clear hrv hk2
      go_wp2
      go_ret2
      exact ⟨retP (by rw [HRV.out]; rfl) (by rw [HRV.out]; rfl), HB.out⟩

set_option maxHeartbeats 1600000 in
theorem fnExactReadVar_walk (s : ByteArray) (w : World) (hb : s.size ≤ 9223372036854775807) :
    Calls Try.prog 7 #[.string s] w fun e w' => e = .returned (.bool true) ∧ Below w.heap.size w w' := by
  have hbd := rvR_bd s.data.toList
  go_enter Try.func7, Try.ntmps7
  by_cases hbig : (1048576 : Int) < (s.size : Int)
  · go_wp2
    go_ret
    exact ⟨rfl, Below.refl _ _⟩
  go_wp2_with fail
  refine (specRv_any _ _ hb).mono ?_
  rintro e w1 ⟨rfl, hb1⟩
  have HB1 := hide hb1
  clear hb1
  go_wp2_with fail
  refine (implRv_any _ _ hb).mono ?_
  rintro e w2 ⟨rfl, rfl⟩
  go_wp2
  go_ret
  exact ⟨rfl, HB1.out⟩
end Go.Proofs.Ytcigohnndbmadaa
