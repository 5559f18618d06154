/-
  Contracts of the reference's cursor over a draw, exact: l1New, l1Byte, l1Below. Each says which number comes: a function of the bytes and of the cursor's state.
-/
import Derived.Test.YtciehbedpjfflabDoorMem
import Derived.Deep.QuietTactic
import Derived.BigQuiet
import Derived.OpenShut
import Derived.Deep.LoopGhost
namespace Go.Proofs.YtciehbedpjfflabDoor
open Go.RowKit
set_option linter.unusedVariables false


/-- Block cb is a cursor over the bytes zs, in the state s (place, mixer). -/
structure CurX (w : World) (cb : Nat) (A : Option Addr) (n c : Nat) (zs : List Int) (s : Nat × Int) : Prop where
  hp : w.heap[cb]? = some (.cells #[.slice A n c, .int .i64 s.1, .int .i64 s.2] 52 (0, 0))
  hn : n = zs.length
  hz : n ≤ 1048580
  hi : s.1 ≤ n
  rd : RdB .u8 w A zs cb

theorem CurX.lt {w : World} {cb : Nat} {A : Option Addr} {n c : Nat} {zs : List Int} {s : Nat × Int} (h : CurX w cb A n c zs s) : cb < w.heap.size := (Array.getElem?_eq_some_iff.1 h.hp).1
theorem CurX.below {w w' : World} {cb B : Nat} {A : Option Addr} {n c : Nat} {zs : List Int} {s : Nat × Int} (h : CurX w cb A n c zs s) (hb : Below B w w') (hB : cb < B) : CurX w' cb A n c zs s :=
  ⟨(hb.block cb hB).trans h.hp, h.hn, h.hz, h.hi, h.rd.keep fun p hp => hb.cell (by omega)⟩
theorem CurX.grown {w w' : World} {cb : Nat} {row : Option Nat} {A : Option Addr} {n c : Nat} {zs : List Int} {s : Nat × Int} (h : CurX w cb A n c zs s) (hb : w.grownBy w' row) (hr : ∀ g, row = some g → cb < g) : CurX w' cb A n c zs s := by
  have hl := h.lt
  exact ⟨(hb.block cb hl (fun e => by have := hr _ e.symm; omega)).trans h.hp, h.hn, h.hz, h.hi, h.rd.keep fun p hp => World.cell?_of_block (hb.block p.block (by omega) (fun e => by have := hr _ e.symm; omega))⟩

/-! one byte -/
def stH (h : Int) : Int := wrap64 (wrap64 (h * 6364136223846793005) + 1442695040888963407)
def rawB (g : Int) : Int := bits .and .i64 (bits .xor .i64 (g / 8589934592) (g / 35184372088832)) 255
def byV (zs : List Int) (s : Nat × Int) : Int := if s.1 < zs.length then bits .and .i64 (wrap64 (rawB (stH s.2) + wrap64 (zs.getD s.1 0))) 255 else rawB (stH s.2)
def byS (zs : List Int) (s : Nat × Int) : Nat × Int := (if s.1 < zs.length then s.1 + 1 else s.1, stH s.2)
theorem and255 (a : Int) : 0 ≤ bits .and .i64 a 255 ∧ bits .and .i64 a 255 ≤ 255 := by
  show 0 ≤ IntKind.i64.wrap ((BitVec.ofInt 64 a &&& BitVec.ofInt 64 255).toNat : Int) ∧ IntKind.i64.wrap ((BitVec.ofInt 64 a &&& BitVec.ofInt 64 255).toNat : Int) ≤ 255
  have h : (BitVec.ofInt 64 a &&& BitVec.ofInt 64 255).toNat ≤ 255 := by
    rw [BitVec.toNat_and]
    exact Nat.le_trans Nat.and_le_right (by decide)
  rw [IntKind.wrap_i64]
  omega


theorem byV_bd (zs : List Int) (s : Nat × Int) : 0 ≤ byV zs s ∧ byV zs s ≤ 255 := by
  unfold byV
  split
  · exact and255 _
  · exact and255 _
theorem curX_end {w : World} {cb : Nat} {A : Option Addr} {n c : Nat} {zs : List Int} {s : Nat × Int} (h : CurX w cb A n c zs s) (j : Nat) (hj : j ≤ n) (h' : Int) (w' : World) (e1 : w'.os = w.os) (e2 : w'.tape = w.tape) (e3 : w'.output = w.output)
    (e4 : w'.heap.size = w.heap.size) (e5 : w'.heap[cb]? = some (.cells #[.slice A n c, .int .i64 j, .int .i64 h'] 52 (0, 0))) (e6 : ∀ k, k ≠ cb → w'.heap[k]? = w.heap[k]?) : CurX w' cb A n c zs (j, h') ∧ w.grownBy w' (some cb) :=
  ⟨⟨e5, h.hn, h.hz, hj, h.rd.keep fun p hp => World.cell?_of_block (e6 _ (by omega))⟩, ⟨e1, e2, e3, by omega, fun k _ hk => e6 k (fun e => hk (by rw [e]))⟩⟩
theorem heap_set2 {w : World} {cb : Nat} {a b d : Value} {T : TypeId} (hh : w.heap[cb]? = some (.cells #[a, b, d] T (0, 0))) (v : Value) : (w.setCell ⟨cb, 2, none⟩ v).heap[cb]? = some (.cells #[a, b, v] T (0, 0)) := by
  simp [World.setCell, Array.getElem?_modify, hh]
theorem heap_set1 {w : World} {cb : Nat} {a b d : Value} {T : TypeId} (hh : w.heap[cb]? = some (.cells #[a, b, d] T (0, 0))) (v : Value) : (w.setCell ⟨cb, 1, none⟩ v).heap[cb]? = some (.cells #[a, v, d] T (0, 0)) := by
  simp [World.setCell, Array.getElem?_modify, hh]


set_option maxRecDepth 100000 in
set_option maxHeartbeats 1600000 in
theorem l1ByteX_in (cb : Nat) (A : Option Addr) (n c : Nat) (zs : List Int) (i : Nat) (h : Int) (w : World) (hcur : CurX w cb A n c zs (i, h)) (hlt : i < n) :
    Calls Tryd.prog 30 #[.pointer (some ⟨cb, 0, none⟩)] w fun e w' => e = .returned (.int .i64 (bits .and .i64 (wrap64 (rawB (stH h) + wrap64 (zs.getD i 0))) 255)) ∧ CurX w' cb A n c zs (i + 1, stH h) ∧ w.grownBy w' (some cb) := by
  have HC := hide hcur
  have hh := hcur.hp
  have c0 : w.cell? ⟨cb, 0, none⟩ = some (.slice A n c) := cell_of_row _ _ _ _ _ _ hh
  have c1 : w.cell? ⟨cb, 1, none⟩ = some (.int .i64 i) := cell_of_row _ _ _ _ _ _ hh
  have c2 : w.cell? ⟨cb, 2, none⟩ = some (.int .i64 h) := cell_of_row _ _ _ _ _ _ hh
  have f1 : w.frozen? ⟨cb, 1, none⟩ = false := by simp [World.frozen?, hh]
  have f2 : w.frozen? ⟨cb, 2, none⟩ = false := by simp [World.frozen?, hh]
  have hz := hcur.hz
  have hz2 : (n : Int) ≤ 1048580 := by omega
  clear hh hcur hz
  obtain ⟨b, off, rfl, hb, hc⟩ := HC.out.rd i (by have := HC.out.hn; omega)
  have hi1 : (i : Int) < (n : Int) := by omega
  generalize zs.getD i 0 = z at hc ⊢
  have fin : ∀ (hv : Int) (w' : World), w'.os = w.os → w'.tape = w.tape → w'.output = w.output → w'.heap = ((w.setCell ⟨cb, 2, none⟩ (.int .i64 hv)).setCell ⟨cb, 1, none⟩ (.int .i64 ((i : Int) + 1))).heap → CurX w' cb (some ⟨b, off, none⟩) n c zs (i + 1, hv) ∧ w.grownBy w' (some cb) := by
    intro hv w' e1 e2 e3 e4
    refine curX_end HC.out (i + 1) (by omega) hv w' e1 e2 e3 (by rw [e4]; simp [World.setCell]) ?_ ?_
    · rw [e4, heap_set1 (heap_set2 HC.out.hp _)]; simp
    · intro k hk; rw [e4, Below.heap_setCell _ _ _ _ hk, Below.heap_setCell _ _ _ _ hk]
  have HF := hide fin
  clear fin
  go_enter Tryd.func30, Tryd.ntmps30
  go_wp2_with fail
  go_quiet (fail)
  go_wp2_with fail
  go_quiet (fail)
  go_wp2_with fail
  go_quiet (fail)
  go_wp2_with fail
  go_ret
  exact ⟨rfl, HF.out _ _ rfl rfl rfl rfl⟩
set_option maxRecDepth 100000 in
set_option maxHeartbeats 1600000 in
theorem l1ByteX_out (cb : Nat) (A : Option Addr) (n c : Nat) (zs : List Int) (i : Nat) (h : Int) (w : World) (hcur : CurX w cb A n c zs (i, h)) (hlt : ¬ i < n) :
    Calls Tryd.prog 30 #[.pointer (some ⟨cb, 0, none⟩)] w fun e w' => e = .returned (.int .i64 (rawB (stH h))) ∧ CurX w' cb A n c zs (i, stH h) ∧ w.grownBy w' (some cb) := by
  have HC := hide hcur
  have hh := hcur.hp
  have c0 : w.cell? ⟨cb, 0, none⟩ = some (.slice A n c) := cell_of_row _ _ _ _ _ _ hh
  have c1 : w.cell? ⟨cb, 1, none⟩ = some (.int .i64 i) := cell_of_row _ _ _ _ _ _ hh
  have c2 : w.cell? ⟨cb, 2, none⟩ = some (.int .i64 h) := cell_of_row _ _ _ _ _ _ hh
  have f1 : w.frozen? ⟨cb, 1, none⟩ = false := by simp [World.frozen?, hh]
  have f2 : w.frozen? ⟨cb, 2, none⟩ = false := by simp [World.frozen?, hh]
  have hz := hcur.hz
  have hz2 : (n : Int) ≤ 1048580 := by omega
  have hi := hcur.hi
  clear hh hcur hz
  have hi1 : ¬ (i : Int) < (n : Int) := by omega
  have hi2 : decide ((i : Int) < (n : Int)) = false := by simpa using hi1
  have fin : ∀ (hv : Int) (w' : World), w'.os = w.os → w'.tape = w.tape → w'.output = w.output → w'.heap = (w.setCell ⟨cb, 2, none⟩ (.int .i64 hv)).heap → CurX w' cb A n c zs (i, hv) ∧ w.grownBy w' (some cb) := by
    intro hv w' e1 e2 e3 e4
    refine curX_end HC.out i hi hv w' e1 e2 e3 (by rw [e4]; simp [World.setCell]) ?_ ?_
    · rw [e4, heap_set2 HC.out.hp _]
    · intro k hk; rw [e4, Below.heap_setCell _ _ _ _ hk]
  have HF := hide fin
  clear fin
  go_enter Tryd.func30, Tryd.ntmps30
  go_wp2_with fail
  go_quiet (fail)
  go_wp2_with fail
  go_quiet (fail)
  go_wp2_with fail
  go_ret
  exact ⟨rfl, HF.out _ _ rfl rfl rfl rfl⟩
/-- One byte. -/
theorem l1ByteX (cb : Nat) (A : Option Addr) (n c : Nat) (zs : List Int) (s : Nat × Int) (w : World) (hcur : CurX w cb A n c zs s) :
    Calls Tryd.prog 30 #[.pointer (some ⟨cb, 0, none⟩)] w fun e w' => e = .returned (.int .i64 (byV zs s)) ∧ CurX w' cb A n c zs (byS zs s) ∧ w.grownBy w' (some cb) := by
  obtain ⟨i, h⟩ := s
  have hn := hcur.hn
  unfold byV byS
  by_cases hlt : i < n
  · have h := l1ByteX_in cb A n c zs i h w hcur hlt
    rw [if_pos (by simp only; omega), if_pos (by simp only; omega)]
    exact h
  · have h := l1ByteX_out cb A n c zs i h w hcur hlt
    rw [if_neg (by simp only; omega), if_neg (by simp only; omega)]
    exact h

/-! a number below another -/
def blV (zs : List Int) (n : Int) (s : Nat × Int) : Nat :=
  if n ≤ 256 then (byV zs s % n).toNat
  else ((byV zs s * 16777216 + byV zs (byS zs s) * 65536 + byV zs (byS zs (byS zs s)) * 256 + byV zs (byS zs (byS zs (byS zs s)))) % n).toNat
def blS (zs : List Int) (n : Int) (s : Nat × Int) : Nat × Int := if n ≤ 256 then byS zs s else byS zs (byS zs (byS zs (byS zs s)))
theorem blV_lt (zs : List Int) {n : Int} (h : 0 < n) (s : Nat × Int) : (blV zs n s : Int) < n := by
  unfold blV
  split
  · have h1 := Int.emod_nonneg (byV zs s) (show n ≠ 0 by omega)
    have h2 := Int.emod_lt_of_pos (byV zs s) h
    omega
  · have h1 := Int.emod_nonneg (byV zs s * 16777216 + byV zs (byS zs s) * 65536 + byV zs (byS zs (byS zs s)) * 256 + byV zs (byS zs (byS zs (byS zs s)))) (show n ≠ 0 by omega)
    have h2 := Int.emod_lt_of_pos (byV zs s * 16777216 + byV zs (byS zs s) * 65536 + byV zs (byS zs (byS zs s)) * 256 + byV zs (byS zs (byS zs (byS zs s)))) h
    omega
set_option maxRecDepth 100000 in
set_option maxHeartbeats 1600000 in
theorem l1BelowX (cb : Nat) (A : Option Addr) (m c : Nat) (zs : List Int) (n : Int) (s : Nat × Int) (w : World) (hcur : CurX w cb A m c zs s) (h0 : 0 < n) (hn : n ≤ 1000000000) :
    Calls Tryd.prog 28 #[.pointer (some ⟨cb, 0, none⟩), .int .i64 n] w fun e w' => e = .returned (.int .i64 (blV zs n s : Int)) ∧ CurX w' cb A m c zs (blS zs n s) ∧ w.grownBy w' (some cb) := by
  have HC := hide hcur
  clear hcur
  by_cases h1 : n ≤ 256
  · have HV : (blV zs n s : Int) = byV zs s % n := by
      unfold blV
      rw [if_pos h1, Int.toNat_of_nonneg (Int.emod_nonneg _ (by omega))]
    have HS : blS zs n s = byS zs s := by unfold blS; rw [if_pos h1]
    rw [HV, HS]
    clear HV HS
    obtain ⟨x, hx⟩ : ∃ x, x = byV zs s := ⟨_, rfl⟩
    obtain ⟨s1, hs1⟩ : ∃ s1, s1 = byS zs s := ⟨_, rfl⟩
    rw [← hs1, ← hx]
    obtain ⟨x0, x1⟩ := byV_bd zs s
    rw [← hx] at x0 x1
    have HB1 : Hid (∀ W, CurX W cb A m c zs s → Calls Tryd.prog 30 #[.pointer (some ⟨cb, 0, none⟩)] W fun e w' => e = .returned (.int .i64 x) ∧ CurX w' cb A m c zs s1 ∧ W.grownBy w' (some cb)) := hide (fun W h => by rw [hx, hs1]; exact l1ByteX _ _ _ _ _ _ _ h)
    clear hx hs1
    go_enter Tryd.func28, Tryd.ntmps28
    go_wp2_with fail
    refine (HB1.out _ HC.out).mono ?_
    rintro e w1 ⟨rfl, hc1, hg1⟩
    have HC1 := hide hc1
    have HG1 := hide hg1
    clear hc1 hg1
    go_wp2_with fail
    go_ret
    exact ⟨rfl, HC1.out, HG1.out⟩
  · have HV : (blV zs n s : Int) = (byV zs s * 16777216 + byV zs (byS zs s) * 65536 + byV zs (byS zs (byS zs s)) * 256 + byV zs (byS zs (byS zs (byS zs s)))) % n := by
      unfold blV
      rw [if_neg h1, Int.toNat_of_nonneg (Int.emod_nonneg _ (by omega))]
    have HS : blS zs n s = byS zs (byS zs (byS zs (byS zs s))) := by unfold blS; rw [if_neg h1]
    rw [HV, HS]
    clear HV HS
    obtain ⟨x, hx⟩ : ∃ x, x = byV zs s := ⟨_, rfl⟩
    obtain ⟨s1, hs1⟩ : ∃ s1, s1 = byS zs s := ⟨_, rfl⟩
    rw [← hs1, ← hx]
    obtain ⟨x0, x1⟩ := byV_bd zs s
    rw [← hx] at x0 x1
    have HB1 : Hid (∀ W, CurX W cb A m c zs s → Calls Tryd.prog 30 #[.pointer (some ⟨cb, 0, none⟩)] W fun e w' => e = .returned (.int .i64 x) ∧ CurX w' cb A m c zs s1 ∧ W.grownBy w' (some cb)) := hide (fun W h => by rw [hx, hs1]; exact l1ByteX _ _ _ _ _ _ _ h)
    clear hx hs1
    obtain ⟨y, hy⟩ : ∃ y, y = byV zs s1 := ⟨_, rfl⟩
    obtain ⟨s2, hs2⟩ : ∃ s2, s2 = byS zs s1 := ⟨_, rfl⟩
    rw [← hs2, ← hy]
    obtain ⟨y0, y1⟩ := byV_bd zs s1
    rw [← hy] at y0 y1
    have HB2 : Hid (∀ W, CurX W cb A m c zs s1 → Calls Tryd.prog 30 #[.pointer (some ⟨cb, 0, none⟩)] W fun e w' => e = .returned (.int .i64 y) ∧ CurX w' cb A m c zs s2 ∧ W.grownBy w' (some cb)) := hide (fun W h => by rw [hy, hs2]; exact l1ByteX _ _ _ _ _ _ _ h)
    clear hy hs2
    obtain ⟨z, hz⟩ : ∃ z, z = byV zs s2 := ⟨_, rfl⟩
    obtain ⟨s3, hs3⟩ : ∃ s3, s3 = byS zs s2 := ⟨_, rfl⟩
    rw [← hs3, ← hz]
    obtain ⟨z0, z1⟩ := byV_bd zs s2
    rw [← hz] at z0 z1
    have HB3 : Hid (∀ W, CurX W cb A m c zs s2 → Calls Tryd.prog 30 #[.pointer (some ⟨cb, 0, none⟩)] W fun e w' => e = .returned (.int .i64 z) ∧ CurX w' cb A m c zs s3 ∧ W.grownBy w' (some cb)) := hide (fun W h => by rw [hz, hs3]; exact l1ByteX _ _ _ _ _ _ _ h)
    clear hz hs3
    obtain ⟨u, hu⟩ : ∃ u, u = byV zs s3 := ⟨_, rfl⟩
    obtain ⟨s4, hs4⟩ : ∃ s4, s4 = byS zs s3 := ⟨_, rfl⟩
    rw [← hs4, ← hu]
    obtain ⟨u0, u1⟩ := byV_bd zs s3
    rw [← hu] at u0 u1
    have HB4 : Hid (∀ W, CurX W cb A m c zs s3 → Calls Tryd.prog 30 #[.pointer (some ⟨cb, 0, none⟩)] W fun e w' => e = .returned (.int .i64 u) ∧ CurX w' cb A m c zs s4 ∧ W.grownBy w' (some cb)) := hide (fun W h => by rw [hu, hs4]; exact l1ByteX _ _ _ _ _ _ _ h)
    clear hu hs4
    go_enter Tryd.func28, Tryd.ntmps28
    go_wp2_with fail
    refine (HB1.out _ HC.out).mono ?_
    rintro e w1 ⟨rfl, hc1, hg1⟩
    have HC1 := hide hc1
    have HG1 := hide hg1
    clear hc1 hg1
    go_wp2_with fail
    refine (HB2.out _ HC1.out).mono ?_
    rintro e w2 ⟨rfl, hc2, hg2⟩
    have HC2 := hide hc2
    have HG2 := hide hg2
    clear hc2 hg2
    go_wp2_with fail
    refine (HB3.out _ HC2.out).mono ?_
    rintro e w3 ⟨rfl, hc3, hg3⟩
    have HC3 := hide hc3
    have HG3 := hide hg3
    clear hc3 hg3
    go_wp2_with fail
    refine (HB4.out _ HC3.out).mono ?_
    rintro e w4 ⟨rfl, hc4, hg4⟩
    have HC4 := hide hc4
    have HG4 := hide hg4
    clear hc4 hg4
    go_wp2_with fail
    go_ret
    exact ⟨rfl, HC4.out, grown_trans (grown_trans (grown_trans HG1.out HG2.out) HG3.out) HG4.out⟩

/-! a new cursor -/
def nwH (zs : List Int) : Nat → Int
  | 0 => 10101 + (zs.length : Int)
  | k + 1 => bits .and .i64 (wrap64 (wrap64 (wrap64 (nwH zs k * 131) + wrap64 (zs.getD k 0)) + 7)) 1073741823
set_option maxRecDepth 100000 in
set_option maxHeartbeats 800000 in
theorem l1NewX (A : Option Addr) (n c : Nat) (zs : List Int) (w : World) (hn : n = zs.length) (hz : n ≤ 1048580) (hr : RdB .u8 w A zs w.heap.size) :
    Calls Tryd.prog 16 #[.slice A n c] w fun e w' => e = .returned (.pointer (some ⟨w.heap.size, 0, none⟩)) ∧ CurX w' w.heap.size A n c zs (0, nwH zs (min n 4000)) ∧ Below w.heap.size w w' := by
  have HN := hide hn
  clear hn
  have HZ := hide hz
  have hz2 : (n : Int) ≤ 1048580 := by omega
  clear hz
  have fin : ∀ hv : Int, CurX (w.alloc (.cells #[.slice A n c, .int .i64 0, .int .i64 hv] 52)) w.heap.size A n c zs (0, hv) ∧ Below w.heap.size w (w.alloc (.cells #[.slice A n c, .int .i64 0, .int .i64 hv] 52)) := fun hv =>
    ⟨⟨heap_alloc_new _ _, HN.out, HZ.out, Nat.zero_le _, hr.keep fun p hp => World.cell?_alloc_lt w _ p hp⟩, (Below.refl _ _).alloc (Nat.le_refl _) _⟩
  have HF := hide fin
  clear fin
  have HR := hide hr
  clear hr
  go_enter Tryd.func16, Tryd.ntmps16
  go_wp2
  go_loop [3, 4] (fun h i => ∃ (k : Nat), k ≤ n ∧ k ≤ 4000 ∧ i = .int .i64 k ∧ h = .int .i64 (nwH zs k)) (fun _ i => n - (intOf i).toNat)
  case atStart => 
    refine ⟨0, Nat.zero_le _, Nat.zero_le _, rfl, ?_⟩
    rw [HN.out]; rfl
  case round =>
    obtain ⟨k, hk, hk4, rfl, rfl⟩ := hrel
    by_cases hlt : k < n
    · obtain ⟨b, off, rfl, hb, hc⟩ := HR.out k (by have := HN.out; omega)
      have hi : (k : Int) < (n : Int) := by omega
      by_cases h4 : (k : Int) < 4000
      · obtain ⟨H, hH⟩ : ∃ H, H = nwH zs (k + 1) := ⟨_, rfl⟩
        have HH := hide hH
        rw [nwH] at hH
        generalize nwH zs k = hv at hH ⊢
        generalize zs.getD k 0 = z at hH hc
        have HE := hide hH
        clear hH
        go_wp2
        go_round
        case rel => 
          refine ⟨k + 1, by omega, by omega, by go_num, ?_⟩
          rw [← HH.out, HE.out]
        case measure => simp [intOf]; omega
      · go_wp2
        go_ret
        have e : min n 4000 = k := by omega
        rw [e]
        exact ⟨rfl, HF.out _⟩
    · have hi : ¬ (k : Int) < (n : Int) := by omega
      go_wp2
      go_ret
      have e : min n 4000 = k := by omega
      rw [e]
      exact ⟨rfl, HF.out _⟩
end Go.Proofs.YtciehbedpjfflabDoor
