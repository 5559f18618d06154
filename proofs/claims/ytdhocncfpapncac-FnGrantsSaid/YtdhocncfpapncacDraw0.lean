/-
  Contracts of the reference's cursor over a draw: l1New, l1Byte, l1Below. Each says which numbers may come, and that nothing that was there changes but the cursor.
-/
import Derived.Test.YtdhocncfpapncacMem
import Derived.Deep.QuietTactic
import Derived.BigQuiet
import Derived.OpenShut
namespace Go.Proofs.Ytdhocncfpapncac
open Go.RowKit
set_option linter.unusedVariables false

/-- Block cb is a cursor over some bytes. -/
def Cur (w : World) (cb : Nat) : Prop :=
  ∃ (A : Option Addr) (n c : Nat) (zs : List Int) (i : Nat) (h : Int), w.heap[cb]? = some (.cells #[.slice A n c, .int .i64 i, .int .i64 h] 54 (0, 0)) ∧
    n = zs.length ∧ n ≤ 1048580 ∧ i ≤ n ∧ RdB .u8 w A zs cb

theorem Cur.lt {w : World} {cb : Nat} (h : Cur w cb) : cb < w.heap.size := by
  obtain ⟨A, n, c, zs, i, h, hh, _⟩ := h
  exact (Array.getElem?_eq_some_iff.1 hh).1
theorem Cur.below {w w' : World} {cb B : Nat} (h : Cur w cb) (hb : Below B w w') (hB : cb < B) : Cur w' cb := by
  obtain ⟨A, n, c, zs, i, h, hh, h1, h2, h3, h4⟩ := h
  exact ⟨A, n, c, zs, i, h, (hb.block cb hB).trans hh, h1, h2, h3, h4.keep fun p hp => hb.cell (by omega)⟩
theorem Cur.grown {w w' : World} {cb : Nat} {row : Option Nat} (h : Cur w cb) (hb : w.grownBy w' row) (hr : ∀ g, row = some g → cb < g) : Cur w' cb := by
  have hl := h.lt
  obtain ⟨A, n, c, zs, i, h, hh, h1, h2, h3, h4⟩ := h
  exact ⟨A, n, c, zs, i, h, (hb.block cb hl (fun e => by have := hr _ e.symm; omega)).trans hh, h1, h2, h3, h4.keep fun p hp => World.cell?_of_block (hb.block p.block (by omega) (fun e => by have := hr _ e.symm; omega))⟩

set_option maxRecDepth 100000 in
set_option maxHeartbeats 800000 in
theorem l1New_any (A : Option Addr) (n c : Nat) (zs : List Int) (w : World) (hn : n = zs.length) (hz : n ≤ 1048580) (hr : RdB .u8 w A zs w.heap.size) :
    Calls Try.prog 19 #[.slice A n c] w fun e w' => e = .returned (.pointer (some ⟨w.heap.size, 0, none⟩)) ∧ Cur w' w.heap.size ∧ Below w.heap.size w w' := by
  have HN := hide hn
  clear hn
  have HZ := hide hz
  have hz2 : (n : Int) ≤ 1048580 := by omega
  clear hz
  have fin : ∀ hv : Int, Cur (w.alloc (.cells #[.slice A n c, .int .i64 0, .int .i64 hv] 54)) w.heap.size ∧ Below w.heap.size w (w.alloc (.cells #[.slice A n c, .int .i64 0, .int .i64 hv] 54)) := fun hv =>
    ⟨⟨A, n, c, zs, 0, hv, heap_alloc_new _ _, HN.out, HZ.out, Nat.zero_le _, hr.keep fun p hp => World.cell?_alloc_lt w _ p hp⟩, (Below.refl _ _).alloc (Nat.le_refl _) _⟩
  have HF := hide fin
  clear fin
  have HR := hide hr
  clear hr
  go_enter Try.func19, Try.ntmps19
  go_wp2
  go_loop [3, 4] (fun h i => ∃ (k : Nat) (hv : Int), k ≤ n ∧ i = .int .i64 k ∧ h = .int .i64 hv) (fun _ i => n - (intOf i).toNat)
  case atStart => exact ⟨0, _, Nat.zero_le _, rfl, rfl⟩
  case round =>
    obtain ⟨k, hv, hk, rfl, rfl⟩ := hrel
    by_cases hlt : k < n
    · obtain ⟨b, off, rfl, hb, hc⟩ := HR.out k (by have := HN.out; omega)
      have hi : (k : Int) < (n : Int) := by omega
      by_cases h4 : (k : Int) < 4000
      · go_wp2
        go_round
        case rel => exact ⟨k + 1, _, by omega, by go_num, rfl⟩
        case measure => simp [intOf]; omega
      · go_wp2
        go_ret
        exact ⟨rfl, HF.out _⟩
    · have hi : ¬ (k : Int) < (n : Int) := by omega
      go_wp2
      go_ret
      exact ⟨rfl, HF.out _⟩

theorem and255 (a : Int) : 0 ≤ bits .and .i64 a 255 ∧ bits .and .i64 a 255 ≤ 255 := by
  show 0 ≤ IntKind.i64.wrap ((BitVec.ofInt 64 a &&& BitVec.ofInt 64 255).toNat : Int) ∧ IntKind.i64.wrap ((BitVec.ofInt 64 a &&& BitVec.ofInt 64 255).toNat : Int) ≤ 255
  have h : (BitVec.ofInt 64 a &&& BitVec.ofInt 64 255).toNat ≤ 255 := by
    rw [BitVec.toNat_and]
    exact Nat.le_trans Nat.and_le_right (by decide)
  rw [IntKind.wrap_i64]
  omega

theorem cur_end {w : World} {cb : Nat} {A : Option Addr} {n c : Nat} {zs : List Int} {i : Nat} {h : Int} (hh : w.heap[cb]? = some (.cells #[.slice A n c, .int .i64 i, .int .i64 h] 54 (0, 0)))
    (hn : n = zs.length) (hz : n ≤ 1048580) (hr : RdB .u8 w A zs cb) (j : Nat) (hj : j ≤ n) (h' : Int) (w' : World) (e1 : w'.os = w.os) (e2 : w'.tape = w.tape) (e3 : w'.output = w.output)
    (e4 : w'.heap.size = w.heap.size) (e5 : w'.heap[cb]? = some (.cells #[.slice A n c, .int .i64 j, .int .i64 h'] 54 (0, 0))) (e6 : ∀ k, k ≠ cb → w'.heap[k]? = w.heap[k]?) : Cur w' cb ∧ w.grownBy w' (some cb) :=
  ⟨⟨A, n, c, zs, j, h', e5, hn, hz, hj, hr.keep fun p hp => World.cell?_of_block (e6 _ (by omega))⟩, ⟨e1, e2, e3, by omega, fun k _ hk => e6 k (fun e => hk (by rw [e]))⟩⟩

theorem heap_set2 {w : World} {cb : Nat} {a b d : Value} {T : TypeId} (hh : w.heap[cb]? = some (.cells #[a, b, d] T (0, 0))) (v : Value) : (w.setCell ⟨cb, 2, none⟩ v).heap[cb]? = some (.cells #[a, b, v] T (0, 0)) := by
  simp [World.setCell, Array.getElem?_modify, hh]
theorem heap_set1 {w : World} {cb : Nat} {a b d : Value} {T : TypeId} (hh : w.heap[cb]? = some (.cells #[a, b, d] T (0, 0))) (v : Value) : (w.setCell ⟨cb, 1, none⟩ v).heap[cb]? = some (.cells #[a, v, d] T (0, 0)) := by
  simp [World.setCell, Array.getElem?_modify, hh]

set_option maxRecDepth 100000 in
set_option maxHeartbeats 1600000 in
theorem l1Byte_any (cb : Nat) (w : World) (hcur : Cur w cb) :
    Calls Try.prog 62 #[.pointer (some ⟨cb, 0, none⟩)] w fun e w' => (∃ x : Int, e = .returned (.int .i64 x) ∧ 0 ≤ x ∧ x ≤ 255) ∧ Cur w' cb ∧ w.grownBy w' (some cb) := by
  obtain ⟨A, n, c, zs, i, h, hh, hn, hz, hi, hr⟩ := hcur
  have HN := hide hn
  clear hn
  have c0 : w.cell? ⟨cb, 0, none⟩ = some (.slice A n c) := cell_of_row _ _ _ _ _ _ hh
  have c1 : w.cell? ⟨cb, 1, none⟩ = some (.int .i64 i) := cell_of_row _ _ _ _ _ _ hh
  have c2 : w.cell? ⟨cb, 2, none⟩ = some (.int .i64 h) := cell_of_row _ _ _ _ _ _ hh
  have f1 : w.frozen? ⟨cb, 1, none⟩ = false := by simp [World.frozen?, hh]
  have f2 : w.frozen? ⟨cb, 2, none⟩ = false := by simp [World.frozen?, hh]
  have HH := hide hh
  clear hh
  have HR := hide hr
  clear hr
  have hz2 : (n : Int) ≤ 1048580 := by omega
  have HZ := hide hz
  clear hz
  by_cases hlt : i < n
  · obtain ⟨b, off, rfl, hb, hc⟩ := HR.out i (by have := HN.out; omega)
    have hi1 : (i : Int) < (n : Int) := by omega
    have fin : ∀ (hv : Int) (w' : World), w'.os = w.os → w'.tape = w.tape → w'.output = w.output → w'.heap = ((w.setCell ⟨cb, 2, none⟩ (.int .i64 hv)).setCell ⟨cb, 1, none⟩ (.int .i64 ((i : Int) + 1))).heap → Cur w' cb ∧ w.grownBy w' (some cb) := by
      intro hv w' e1 e2 e3 e4
      refine cur_end HH.out HN.out HZ.out HR.out (i + 1) (by omega) hv w' e1 e2 e3 (by rw [e4]; simp [World.setCell]) ?_ ?_
      · rw [e4, heap_set1 (heap_set2 HH.out _)]; simp
      · intro k hk; rw [e4, Below.heap_setCell _ _ _ _ hk, Below.heap_setCell _ _ _ _ hk]
    have HF := hide fin
    clear fin
    go_enter Try.func62, Try.ntmps62
    go_wp2_with fail
    go_quiet (fail)
    go_wp2_with fail
    go_quiet (fail)
    go_wp2_with fail
    go_quiet (fail)
    go_wp2_with fail
    go_ret
    exact ⟨⟨_, rfl, (and255 _).1, (and255 _).2⟩, HF.out _ _ rfl rfl rfl rfl⟩
  · have hi1 : ¬ (i : Int) < (n : Int) := by omega
    have hi2 : decide ((i : Int) < (n : Int)) = false := by simpa using hi1
    have fin : ∀ (hv : Int) (w' : World), w'.os = w.os → w'.tape = w.tape → w'.output = w.output → w'.heap = (w.setCell ⟨cb, 2, none⟩ (.int .i64 hv)).heap → Cur w' cb ∧ w.grownBy w' (some cb) := by
      intro hv w' e1 e2 e3 e4
      refine cur_end HH.out HN.out HZ.out HR.out i hi hv w' e1 e2 e3 (by rw [e4]; simp [World.setCell]) ?_ ?_
      · rw [e4, heap_set2 HH.out _]
      · intro k hk; rw [e4, Below.heap_setCell _ _ _ _ hk]
    have HF := hide fin
    clear fin
    go_enter Try.func62, Try.ntmps62
    go_wp2_with fail
    go_quiet (fail)
    go_wp2_with fail
    go_quiet (fail)
    go_wp2_with fail
    go_ret
    exact ⟨⟨_, rfl, (and255 _).1, (and255 _).2⟩, HF.out _ _ rfl rfl rfl rfl⟩

set_option maxRecDepth 100000 in
set_option maxHeartbeats 1600000 in
theorem l1Below_any (cb : Nat) (n : Int) (w : World) (hcur : Cur w cb) (hn : n ≤ 1000000000) :
    Calls Try.prog 42 #[.pointer (some ⟨cb, 0, none⟩), .int .i64 n] w fun e w' => (∃ k : Nat, e = .returned (.int .i64 (k : Int)) ∧ ((k : Int) < n ∨ (n ≤ 0 ∧ k = 0))) ∧ Cur w' cb ∧ w.grownBy w' (some cb) := by
  have HC := hide hcur
  clear hcur
  by_cases h0 : n ≤ 0
  · go_enter Try.func42, Try.ntmps42
    go_wp2_with fail
    go_ret
    exact ⟨⟨0, rfl, .inr ⟨h0, rfl⟩⟩, HC.out, grown_refl _ _⟩
  by_cases h1 : n ≤ 256
  · go_enter Try.func42, Try.ntmps42
    go_wp2_with fail
    refine (l1Byte_any _ _ HC.out).mono ?_
    rintro e w1 ⟨⟨x, rfl, hx0, hx1⟩, hc1, hg1⟩
    have HC1 := hide hc1
    have HG1 := hide hg1
    clear hc1 hg1
    go_wp2_with fail
    go_ret
    have hm0 := Int.emod_nonneg x (show n ≠ 0 by omega)
    have hm1 := Int.emod_lt_of_pos x (show 0 < n by omega)
    refine ⟨⟨(x % n).toNat, ?_, .inl (by omega)⟩, HC1.out, HG1.out⟩
    rw [Int.toNat_of_nonneg hm0]; rfl
  · go_enter Try.func42, Try.ntmps42
    go_wp2_with fail
    refine (l1Byte_any _ _ HC.out).mono ?_
    rintro e w1 ⟨⟨x, rfl, hx0, hx1⟩, hc1, hg1⟩
    have HC1 := hide hc1
    have HG1 := hide hg1
    clear hc1 hg1
    go_wp2_with fail
    refine (l1Byte_any _ _ HC1.out).mono ?_
    rintro e w2 ⟨⟨y, rfl, hy0, hy1⟩, hc2, hg2⟩
    have HC2 := hide hc2
    have HG2 := hide hg2
    clear hc2 hg2
    go_wp2_with fail
    refine (l1Byte_any _ _ HC2.out).mono ?_
    rintro e w3 ⟨⟨z, rfl, hz0, hz1⟩, hc3, hg3⟩
    have HC3 := hide hc3
    have HG3 := hide hg3
    clear hc3 hg3
    go_wp2_with fail
    refine (l1Byte_any _ _ HC3.out).mono ?_
    rintro e w4 ⟨⟨u, rfl, hu0, hu1⟩, hc4, hg4⟩
    have HC4 := hide hc4
    have HG4 := hide hg4
    clear hc4 hg4
    go_wp2_with fail
    go_ret
    have hm0 := Int.emod_nonneg (x * 16777216 + y * 65536 + z * 256 + u) (show n ≠ 0 by omega)
    have hm1 := Int.emod_lt_of_pos (x * 16777216 + y * 65536 + z * 256 + u) (show 0 < n by omega)
    refine ⟨⟨((x * 16777216 + y * 65536 + z * 256 + u) % n).toNat, ?_, .inl (by omega)⟩, HC4.out, grown_trans (grown_trans (grown_trans HG1.out HG2.out) HG3.out) HG4.out⟩
    rw [Int.toNat_of_nonneg hm0]; rfl

end Go.Proofs.Ytdhocncfpapncac
