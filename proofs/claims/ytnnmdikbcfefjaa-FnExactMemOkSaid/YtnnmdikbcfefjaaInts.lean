/-
  Contracts of the laws' helpers on []int: toIntS (a copy in a new block), eqIntS at equal lists, szIntS, markIntS, heldIntS.
-/
import Derived.Test.YtnnmdikbcfefjaaMem
import Derived.Deep.QuietTactic
import Derived.BigQuiet
import Derived.LoopTactic
namespace Go.Proofs.Ytnnmdikbcfefjaa
open Go.RowKit
set_option linter.unusedVariables false

theorem intInfo : (Try.prog.info? 3).map (fun i => (i.zero, i.size, i.bytes)) = some (some (.int .i64 0), 1, 8) := by kernel_rfl

structure ToInv (w wr : World) (n : Nat) (zs : List Int) (k : Nat) : Prop where
  row : wr.rowIs w.heap.size 3 n (fun j => if j < k then .int .i64 (zs.getD j 0) else .int .i64 0)
  bel : Below w.heap.size w wr

theorem toInv_start (w : World) (n : Nat) (zs : List Int) : ToInv w (w.alloc (.cells (madeCells #[.int .i64 0] n) 3)) n zs 0 :=
  ⟨(World.rowIs_made w _ n _).congr (fun j _ => by simp), (Below.refl _ _).alloc (Nat.le_refl _) _⟩
theorem toInv_step {w wr : World} {n : Nat} {zs : List Int} {k : Nat} (h : ToInv w wr n zs k) {x : Int} (hx : x = zs.getD k 0) : ToInv w (wr.setCell ⟨w.heap.size, k, none⟩ (.int .i64 x)) n zs (k + 1) := by
  refine ⟨(h.row.set k _).congr (fun j _ => ?_), h.bel.setCell (Nat.le_refl _) _⟩
  by_cases e : j = k
  · subst e; simp [hx]
  · rw [if_neg e]
    by_cases hl : j < k
    · rw [if_pos hl, if_pos (by omega)]
    · rw [if_neg hl, if_neg (by omega)]
theorem toInv_own {w wr : World} {n : Nat} {zs : List Int} {k : Nat} (h : ToInv w wr n zs k) (hn : n = zs.length) (hm : n ≤ maxLen) (hk : n ≤ k) : Own 3 wr (.slice (some ⟨w.heap.size, 0, none⟩) n n) (ints zs) [w.heap.size] :=
  ⟨some ⟨w.heap.size, 0, none⟩, n, by rw [ints_length, hn], hm, .inr ⟨_, n, _, rfl, rfl, h.row, by rw [ints_length]; omega, Nat.le_refl _, fun j hj => by
    rw [ints_length] at hj
    rw [if_pos (by omega), ints_get _ _ hj]⟩⟩

set_option maxRecDepth 100000 in
set_option maxHeartbeats 800000 in
theorem toIntS_any (A : Option Addr) (n c : Nat) (zs : List Int) (w : World) (hn : n = zs.length) (hz : n ≤ 1048576) (hr : RdB .i64 w A zs w.heap.size) :
    Calls Try.prog 31 #[.slice A n c] w fun e w' => e = .returned (.slice (some ⟨w.heap.size, 0, none⟩) n n) ∧ Own 3 w' (.slice (some ⟨w.heap.size, 0, none⟩) n n) (ints zs) [w.heap.size] ∧ Below w.heap.size w w' := by
  have HN := hide hn
  have HR := hide hr
  have hz1 : (n : Int) ≤ 1048576 := by omega
  clear hn hr
  have hmk := run_make_row' (P := Try.prog) 22 3 (.int .i64 0) 8 Try.underlying22 intInfo rfl .i64 .i64 n (by omega) (by omega)
  have HZ := hide hz
  clear hz
  go_enter Try.func31, Try.ntmps31
  go_wp2
  clear hmk
  go_loopw [4] (fun i wr => ∃ k : Nat, k ≤ n ∧ i = .int .i64 k ∧ ToInv w wr n zs k) (fun i _ => n - (intOf i).toNat)
  case atStart => exact ⟨0, Nat.zero_le _, rfl, toInv_start w n zs⟩
  case round =>
    obtain ⟨k, hk, rfl, hI⟩ := hrel
    have HI := hide hI
    clear hI
    by_cases hlt : k < n
    · obtain ⟨b, off, rfl, hb, hc⟩ := HR.out k (by have := HN.out; omega)
      have hi : (k : Int) < (n : Int) := by omega
      obtain ⟨x, hx⟩ : ∃ x, x = zs.getD k 0 := ⟨_, rfl⟩
      rw [← hx] at hc
      have HX := hide hx
      clear hx
      have g1 : wr.cell? ⟨b, off + k, none⟩ = some (.int .i64 x) := by rw [HI.out.bel.cell hb]; exact hc
      have g2 : wr.cell? ⟨w.heap.size, k, none⟩ = some (.int .i64 0) := by simpa using HI.out.row.cell hlt
      have g3 : wr.frozen? ⟨w.heap.size, k, none⟩ = false := HI.out.row.frozen k
      clear hc
      go_wp2
      go_roundw
      case rel => exact ⟨k + 1, by omega, by go_num, toInv_step HI.out HX.out⟩
      case measure => simp [intOf]; omega
    · have hi : ¬ (k : Int) < (n : Int) := by omega
      go_wp2
      go_ret
      exact ⟨rfl, toInv_own HI.out HN.out (by have := HZ.out; unfold maxLen; omega) (by omega), HI.out.bel⟩

set_option maxRecDepth 100000 in
set_option maxHeartbeats 800000 in
theorem eqIntS_same (A B : Option Addr) (n c d : Nat) (zs : List Int) (U : Nat) (w : World) (hn : n = zs.length) (hz : n ≤ 2097152) (ha : RdB .i64 w A zs U) (hb : RdB .i64 w B zs U) :
    Calls Try.prog 39 #[.slice A n c, .slice B n d] w fun e w' => e = .returned (.bool true) ∧ Below w.heap.size w w' := by
  have HN := hide hn
  have HA := hide ha
  have HB := hide hb
  have hz1 : (n : Int) ≤ 2097152 := by omega
  clear hn ha hb hz
  go_enter Try.func39, Try.ntmps39
  go_wp2
  go_loopw [5] (fun i wr => ∃ k : Nat, k ≤ n ∧ i = .int .i64 k ∧ ∃ nd, wr = w.drewN nd) (fun i _ => n - (intOf i).toNat)
  case atStart => exact ⟨0, Nat.zero_le _, rfl, 0, rfl⟩
  case round =>
    obtain ⟨k, hk, rfl, nd, rfl⟩ := hrel
    by_cases hlt : k < n
    · obtain ⟨b, off, rfl, hb, hc⟩ := HA.out k (by have := HN.out; omega)
      obtain ⟨b2, off2, rfl, hb2, hc2⟩ := HB.out k (by have := HN.out; omega)
      have hi : (k : Int) < (n : Int) := by omega
      generalize zs.getD k 0 = x at hc hc2
      go_wp2_with fail
      go_quiet (fail)
      go_wp2_with fail
      go_roundw
      case rel => exact ⟨k + 1, by omega, by go_num, _, rfl⟩
      case measure => simp [intOf]; omega
    · have hi : ¬ (k : Int) < (n : Int) := by omega
      go_wp2
      go_ret
      exact ⟨rfl, ⟨rfl, rfl, rfl, Nat.le_refl _, fun _ _ => rfl⟩⟩
end Go.Proofs.Ytnnmdikbcfefjaa
