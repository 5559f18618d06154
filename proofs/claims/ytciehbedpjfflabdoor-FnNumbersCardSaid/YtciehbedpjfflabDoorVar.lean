/-
  Contracts of Var, of the reference and of the program, and the walk of FnExactVar.
-/
import Derived.Test.YtciehbedpjfflabDoorStr
import Derived.Test.YtciehbedpjfflabDoorVarM
import Derived.Test.YtciehbedpjfflabDoorIn
import Derived.LoopTactic
namespace Go.Proofs.YtciehbedpjfflabDoor
open Go.RowKit
set_option linter.unusedVariables false

theorem byteInfo2 : (Tryd.prog.info? 5).map (fun i => (i.zero, i.size, i.bytes)) = some (some (.int .u8 0), 1, 1) := by kernel_rfl

/-- The value of Var: the bytes, or nothing where the number is out of range. -/
def varS (n : Int) : ByteArray := if 0 ≤ n ∧ n ≤ 562949953421311 then ⟨(varB n.toNat).toArray⟩ else ⟨#[]⟩
theorem varS_yes {N : Nat} (h : N ≤ 562949953421311) : varS (N : Int) = ⟨(varB N).toArray⟩ := by unfold varS; rw [if_pos ⟨by omega, by omega⟩]; simp
theorem varS_no {n : Int} (h : ¬ (0 ≤ n ∧ n ≤ 562949953421311)) : varS n = ⟨#[]⟩ := by unfold varS; rw [if_neg h]
theorem retS {a b : ByteArray} (h : a = b) : Ending.returned (.string a) = .returned (.string b) := by rw [h]

theorem i64_or128 (a : Nat) (h : a < 128) : bits .or .i64 (a : Int) 128 = ((a + 128 : Nat) : Int) := by
  show IntKind.i64.wrap ((BitVec.ofInt 64 (a : Int) ||| BitVec.ofInt 64 128).toNat : Int) = _
  have e : (BitVec.ofInt 64 (a : Int) ||| BitVec.ofInt 64 128).toNat = a + 128 := by
    rw [BitVec.toNat_or, BitVec.ofInt_natCast, BitVec.toNat_ofNat, Nat.mod_eq_of_lt (by omega)]
    have : (BitVec.ofInt 64 (128 : Int)).toNat = 128 := by decide
    rw [this, Nat.or_comm]
    have := Nat.two_pow_add_eq_or_of_lt (i := 7) (b := a) (by omega) 1
    simp at this
    omega
  rw [e, IntKind.wrap_i64]
  omega

theorem rd_one {w : World} {v : Value} {T : TypeId} : RdV (w.alloc (.cells #[v] T)) (some ⟨w.heap.size, 0, none⟩) [v] (w.heap.size + 1) := fun j hj => by
  have : j = 0 := by simpa using hj
  subst this
  exact ⟨w.heap.size, 0, rfl, by omega, cell_of_row _ _ _ _ _ _ (heap_alloc_new _ _)⟩

/-- The loop's relation: what has been gathered, and what is left of the number. -/
def VarRel (w wr : World) (N0 : Nat) (v : Value) (N : Nat) : Prop :=
  ∃ (acc : List UInt8) (f : Nat), N ≤ f ∧ acc ++ varL f N = varB N0 ∧ acc.length * 127 + N ≤ N0 ∧ wr.ownsRow w.heap.size 5 1 v acc.length (bvals acc) ∧ Below w.heap.size w wr

set_option maxRecDepth 100000 in
set_option maxHeartbeats 1600000 in
theorem specVar_in (N0 : Nat) (w : World) (hN : N0 ≤ 562949953421311) :
    Calls Tryd.prog 25 #[.int .i64 (N0 : Int)] w fun e w' => e = .returned (.string (varS N0)) ∧ Below w.heap.size w w' := by
  obtain ⟨i0, hi, hz0, hz1, hz2⟩ := info_parts byteInfo2
  have q1 : 0 ≤ (N0 : Int) := by omega
  have q2 : (N0 : Int) ≤ 562949953421311 := by omega
  have HN := hide hN
  clear hN
  have HS : VarRel w (w.alloc (.cells #[] 5)) N0 (.slice (some ⟨w.heap.size, 0, none⟩) 0 0) N0 :=
    ⟨[], N0, Nat.le_refl _, rfl, by simp, World.ownsRow_made w #[] 0 (Nat.le_refl _) (by decide) rfl, (Below.refl _ _).alloc (Nat.le_refl _) _⟩
  have HS' := hide HS
  clear HS
  go_enter Tryd.func25, Tryd.ntmps25
  go_wp2_with (first | (go_at_call 36; refine (l1In_yes _ _ _ _ (by omega) (by omega)).mono ?_; rintro e w' ⟨rfl, rfl⟩))
  go_loopw [0, 3] (fun nn v wr => ∃ N : Nat, nn = .int .i64 N ∧ N ≤ N0 ∧ VarRel w wr N0 v N) (fun nn _ _ => (intOf nn).toNat)
  case atStart => exact ⟨N0, rfl, Nat.le_refl _, HS'.out⟩
  case round =>
    obtain ⟨N, rfl, hNN, acc, f, hf, hacc, hlen, hown, hB⟩ := hrel
    have HA := hide hacc
    have HO := hide hown
    have HB := hide hB
    have HF := hide hf
    have HL := hide hlen
    clear hacc hown hB hf hlen
    have hNb : (N : Int) ≤ 562949953421311 := by omega
    by_cases hlt : N < 128
    · have hi1 : (N : Int) < 128 := by omega
      have hi2 : ¬ (127 : Int) < (N : Int) := by omega
      have hi3 : ¬ (128 : Int) ≤ (N : Int) := by omega
      go_wp2_with (at_builtin; refine wpList_app _ rfl _ _ 22 rfl w.heap.size 5 i0 (.int .u8 0) 1 Tryd.underlying22 hi hz0 hz1 hz2 rfl _ acc.length (bvals acc) rfl (HO.out.alloc _) _ 1 1 [.int .u8 (N : Int)] _ rfl rfl rd_one ?c1 ?c2 ?c3 ?c4 ?_)
      case c1 => first | rfl | (intro u hu; simp at hu; subst hu; rfl)
      case c2 => have := HL.out; unfold maxLen; omega
      case c3 => have := HL.out; omega
      case c4 => have := HB.out.size; simp; omega
      intro v' w1 hown1 hgr _
      have hbs : bvals acc ++ [.int .u8 (N : Int)] = bvals (acc ++ [UInt8.ofNat N]) := by rw [bvals_append]; simp [bvals]; omega
      rw [hbs] at hown1
      have hcv := strOf_row 22 9 5 Tryd.underlying22 Tryd.underlying5 Tryd.underlying9 hown1
      have HB1 := hide ((HB.out.alloc HB.out.size _).grown hgr (by have := HB.out.size; simp; omega) (fun k hk => (HO.out.lt k hk).1))
      have hfin : acc ++ [UInt8.ofNat N] = varB N0 := by rw [← HA.out, varL_lo _ _ hlt]
      rw [hfin] at hcv
      have HX := hide (varS_yes HN.out)
      clear hown1 hgr hbs hfin
      go_wp2
      go_ret
      exact ⟨retS HX.out.symm, HB1.out⟩
    · have hi1 : ¬ (N : Int) < 128 := by omega
      have hi2 : (127 : Int) < (N : Int) := by omega
      have hi3 : (128 : Int) ≤ (N : Int) := by omega
      obtain ⟨f', hf'⟩ : ∃ f', f = f' + 1 := ⟨f - 1, by have := HF.out; omega⟩
      have HF' := hide hf'
      clear hf'

      go_wp2_with (at_builtin; refine wpList_app _ rfl _ _ 22 rfl w.heap.size 5 i0 (.int .u8 0) 1 Tryd.underlying22 hi hz0 hz1 hz2 rfl _ acc.length (bvals acc) rfl (HO.out.alloc _) _ 1 1 [.int .u8 (128 + (N : Int) % 128)] _ rfl rfl rd_one ?d1 ?d2 ?d3 ?d4 ?_)
      case d1 => first | rfl | (intro u hu; simp at hu; subst hu; rfl)
      case d2 => have := HL.out; unfold maxLen; omega
      case d3 => have := HL.out; omega
      case d4 => have := HB.out.size; simp; omega
      intro v' w1 hown1 hgr _
      have hbs : bvals acc ++ [.int .u8 (128 + (N : Int) % 128)] = bvals (acc ++ [UInt8.ofNat (128 + N % 128)]) := by rw [bvals_append]; simp [bvals]; omega
      rw [hbs] at hown1
      have HB1 := hide ((HB.out.alloc HB.out.size _).grown hgr (by have := HB.out.size; simp; omega) (fun k hk => (HO.out.lt k hk).1))
      have HO1 := hide hown1
      clear hown1 hgr hbs
      go_wp2_with fail
      go_roundw
      case rel =>
        refine ⟨N / 128, by simp, by omega, acc ++ [UInt8.ofNat (128 + N % 128)], f', by have := HF'.out; have := HF.out; omega, ?_, ?_, ?_, HB1.out⟩
        · rw [← HA.out, HF'.out, varL_hi _ _ hlt]; simp
        · have := HL.out; simp; omega
        · simpa using HO1.out
      case measure => simp [intOf] <;> omega

set_option maxRecDepth 100000 in
set_option maxHeartbeats 400000 in
theorem specVar_out (n : Int) (w : World) (h : ¬ (0 ≤ n ∧ n ≤ 562949953421311)) :
    Calls Tryd.prog 25 #[.int .i64 n] w fun e w' => e = .returned (.string (varS n)) ∧ Below w.heap.size w w' := by
  have HX := hide (varS_no h)
  by_cases h0 : 0 ≤ n
  · have h1 : ¬ n ≤ 562949953421311 := fun h' => h ⟨h0, h'⟩
    clear h
    go_enter Tryd.func25, Tryd.ntmps25
    go_wp2
    go_ret
    exact ⟨retS HX.out.symm, Below.refl _ _⟩
  · clear h
    go_enter Tryd.func25, Tryd.ntmps25
    go_wp2
    go_ret
    exact ⟨retS HX.out.symm, Below.refl _ _⟩

theorem specVar_any (n : Int) (w : World) : Calls Tryd.prog 25 #[.int .i64 n] w fun e w' => e = .returned (.string (varS n)) ∧ Below w.heap.size w w' := by
  by_cases h : 0 ≤ n ∧ n ≤ 562949953421311
  · obtain ⟨N, rfl⟩ := Int.eq_ofNat_of_zero_le h.1
    exact specVar_in N w (by omega)
  · exact specVar_out n w h

set_option maxRecDepth 100000 in
set_option maxHeartbeats 1600000 in
theorem implVar_in (N0 : Nat) (w : World) (hN : N0 ≤ 562949953421311) :
    Calls Tryd.prog 7 #[.int .i64 (N0 : Int)] w fun e w' => e = .returned (.string (varS N0)) ∧ Below w.heap.size w w' := by
  obtain ⟨i0, hi, hz0, hz1, hz2⟩ := info_parts byteInfo2
  have q1 : 0 ≤ (N0 : Int) := by omega
  have q2 : (N0 : Int) ≤ 562949953421311 := by omega
  have HN := hide hN
  clear hN
  have HS : VarRel w (w.alloc (.cells #[] 5)) N0 (.slice (some ⟨w.heap.size, 0, none⟩) 0 0) N0 :=
    ⟨[], N0, Nat.le_refl _, rfl, by simp, World.ownsRow_made w #[] 0 (Nat.le_refl _) (by decide) rfl, (Below.refl _ _).alloc (Nat.le_refl _) _⟩
  have HS' := hide HS
  clear HS
  go_enter Tryd.func7, Tryd.ntmps7
  go_wp2_with (first | (go_at_call 19; refine (within_yes _ _ _ _ (by omega) (by omega)).mono ?_; rintro e w' ⟨rfl, rfl⟩))
  go_loopw [0, 3] (fun nn v wr => ∃ N : Nat, nn = .int .i64 N ∧ N ≤ N0 ∧ VarRel w wr N0 v N) (fun nn _ _ => (intOf nn).toNat)
  case atStart => exact ⟨N0, rfl, Nat.le_refl _, HS'.out⟩
  case round =>
    obtain ⟨N, rfl, hNN, acc, f, hf, hacc, hlen, hown, hB⟩ := hrel
    have HA := hide hacc
    have HO := hide hown
    have HB := hide hB
    have HF := hide hf
    have HL := hide hlen
    clear hacc hown hB hf hlen
    have hNb : (N : Int) ≤ 562949953421311 := by omega
    by_cases hlt : N < 128
    · have hi1 : (N : Int) < 128 := by omega
      have hi2 : ¬ (127 : Int) < (N : Int) := by omega
      have hi3 : ¬ (128 : Int) ≤ (N : Int) := by omega
      go_wp2_with (at_builtin; refine wpList_app _ rfl _ _ 22 rfl w.heap.size 5 i0 (.int .u8 0) 1 Tryd.underlying22 hi hz0 hz1 hz2 rfl _ acc.length (bvals acc) rfl (HO.out.alloc _) _ 1 1 [.int .u8 (N : Int)] _ rfl rfl rd_one ?c1 ?c2 ?c3 ?c4 ?_)
      case c1 => first | rfl | (intro u hu; simp at hu; subst hu; rfl)
      case c2 => have := HL.out; unfold maxLen; omega
      case c3 => have := HL.out; omega
      case c4 => have := HB.out.size; simp; omega
      intro v' w1 hown1 hgr _
      have hbs : bvals acc ++ [.int .u8 (N : Int)] = bvals (acc ++ [UInt8.ofNat N]) := by rw [bvals_append]; simp [bvals]; omega
      rw [hbs] at hown1
      have hcv := strOf_row 22 9 5 Tryd.underlying22 Tryd.underlying5 Tryd.underlying9 hown1
      have HB1 := hide ((HB.out.alloc HB.out.size _).grown hgr (by have := HB.out.size; simp; omega) (fun k hk => (HO.out.lt k hk).1))
      have hfin : acc ++ [UInt8.ofNat N] = varB N0 := by rw [← HA.out, varL_lo _ _ hlt]
      rw [hfin] at hcv
      have HX := hide (varS_yes HN.out)
      clear hown1 hgr hbs hfin
      go_wp2
      go_ret
      exact ⟨retS HX.out.symm, HB1.out⟩
    · have hi1 : ¬ (N : Int) < 128 := by omega
      have hi2 : (127 : Int) < (N : Int) := by omega
      have hi3 : (128 : Int) ≤ (N : Int) := by omega
      obtain ⟨f', hf'⟩ : ∃ f', f = f' + 1 := ⟨f - 1, by have := HF.out; omega⟩
      have HF' := hide hf'
      clear hf'
      have e1 : bits .or .i64 ((N : Int) % 128) 128 = 128 + (N : Int) % 128 := by
        have h := i64_or128 (N % 128) (by omega)
        rw [show ((N % 128 : Nat) : Int) = (N : Int) % 128 by omega] at h
        rw [h]; omega
      have e2 : bits .and .i64 (N : Int) 127 = (N : Int) % 128 := i64_and127 _
      go_wp2_with (at_builtin; refine wpList_app _ rfl _ _ 22 rfl w.heap.size 5 i0 (.int .u8 0) 1 Tryd.underlying22 hi hz0 hz1 hz2 rfl _ acc.length (bvals acc) rfl (HO.out.alloc _) _ 1 1 [.int .u8 (128 + (N : Int) % 128)] _ rfl rfl rd_one ?d1 ?d2 ?d3 ?d4 ?_)
      case d1 => first | rfl | (intro u hu; simp at hu; subst hu; rfl)
      case d2 => have := HL.out; unfold maxLen; omega
      case d3 => have := HL.out; omega
      case d4 => have := HB.out.size; simp; omega
      intro v' w1 hown1 hgr _
      have hbs : bvals acc ++ [.int .u8 (128 + (N : Int) % 128)] = bvals (acc ++ [UInt8.ofNat (128 + N % 128)]) := by rw [bvals_append]; simp [bvals]; omega
      rw [hbs] at hown1
      have HB1 := hide ((HB.out.alloc HB.out.size _).grown hgr (by have := HB.out.size; simp; omega) (fun k hk => (HO.out.lt k hk).1))
      have HO1 := hide hown1
      clear hown1 hgr hbs
      go_wp2_with fail
      go_roundw
      case rel =>
        refine ⟨N / 128, by simp, by omega, acc ++ [UInt8.ofNat (128 + N % 128)], f', by have := HF'.out; have := HF.out; omega, ?_, ?_, ?_, HB1.out⟩
        · rw [← HA.out, HF'.out, varL_hi _ _ hlt]; simp
        · have := HL.out; simp; omega
        · simpa using HO1.out
      case measure => simp [intOf] <;> omega

set_option maxRecDepth 100000 in
set_option maxHeartbeats 400000 in
theorem implVar_out (n : Int) (w : World) (h : ¬ (0 ≤ n ∧ n ≤ 562949953421311)) :
    Calls Tryd.prog 7 #[.int .i64 n] w fun e w' => e = .returned (.string (varS n)) ∧ Below w.heap.size w w' := by
  have HX := hide (varS_no h)
  by_cases h0 : 0 ≤ n
  · have h1 : ¬ n ≤ 562949953421311 := fun h' => h ⟨h0, h'⟩
    clear h
    go_enter Tryd.func7, Tryd.ntmps7
    go_wp2
    go_ret
    exact ⟨retS HX.out.symm, Below.refl _ _⟩
  · clear h
    go_enter Tryd.func7, Tryd.ntmps7
    go_wp2
    go_ret
    exact ⟨retS HX.out.symm, Below.refl _ _⟩

theorem implVar_any (n : Int) (w : World) : Calls Tryd.prog 7 #[.int .i64 n] w fun e w' => e = .returned (.string (varS n)) ∧ Below w.heap.size w w' := by
  by_cases h : 0 ≤ n ∧ n ≤ 562949953421311
  · obtain ⟨N, rfl⟩ := Int.eq_ofNat_of_zero_le h.1
    exact implVar_in N w (by omega)
  · exact implVar_out n w h

end Go.Proofs.YtciehbedpjfflabDoor
