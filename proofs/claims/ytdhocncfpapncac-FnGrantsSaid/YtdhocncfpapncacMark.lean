/-
  Contracts of markIntS and heldIntS (the laws' helpers that mark a slice of ints and look whether the marks stand), of the program's slices.Clone and the reference's l3Copy.
-/
import Derived.Test.YtdhocncfpapncacApp
import Derived.Deep.QuietTactic
import Derived.BigQuiet
import Derived.LoopTactic
import Derived.Outline
namespace Go.Proofs.Ytdhocncfpapncac
open Go.RowKit
set_option linter.unusedVariables false

/-- The first i of the marks from k on have been written over zs. -/
def half (zs : List Int) (k : Int) (i : Nat) (j : Nat) : Int := if j < i then k + j else zs.getD j 0

structure MarkInv (w wr : World) (g : Nat) (cap : Nat) (zs : List Int) (k : Int) (i : Nat) : Prop where
  row : ∃ f, wr.rowIs g 3 cap f ∧ ∀ j, j < zs.length → f j = .int .i64 (half zs k i j)
  bel : Touch [g] w wr

theorem markInv_step {w wr : World} {g cap : Nat} {zs : List Int} {k : Int} {i : Nat} (h : MarkInv w wr g cap zs k i) : MarkInv w (wr.setCell ⟨g, i, none⟩ (.int .i64 (k + i))) g cap zs k (i + 1) := by
  obtain ⟨⟨f, hr, hf⟩, hb⟩ := h
  refine ⟨⟨_, hr.set i _, fun j hj => ?_⟩, hb.setCell (by simp) _⟩
  by_cases e : j = i
  · subst e; simp [half]
  · rw [if_neg e, hf j hj]
    unfold half
    by_cases hl : j < i
    · rw [if_pos hl, if_pos (by omega)]
    · rw [if_neg hl, if_neg (by omega)]

theorem intInfo2 : (Try.prog.info? 3).map (fun i => (i.zero, i.size, i.bytes)) = some (some (.int .i64 0), 1, 8) := by kernel_rfl

theorem copy_own {w w' : World} {v : Value} {n : Nat} {zs : List Int} (h : w'.ownsRow w.heap.size 3 1 v n (ints zs)) :
    ∃ A' c' F, v = .slice A' n c' ∧ Own 3 w' (.slice A' n c') (ints zs) F ∧ (∀ g, g ∈ F → w.heap.size ≤ g) := by
  obtain ⟨A', c', F, rfl, _, ho, hF⟩ := own_of_row h
  exact ⟨A', c', F, rfl, ho, fun g hg => (hF g hg).1⟩

set_option maxRecDepth 100000 in
set_option maxHeartbeats 800000 in
theorem l3Copy_any (A : Option Addr) (n c : Nat) (zs : List Int) (w : World) (hn : n = zs.length) (hz : n ≤ 2097152) (hr : RdB .i64 w A zs w.heap.size) :
    Calls Try.prog 72 #[.slice A n c] w fun e w' => ∃ A' c' F, e = .returned (.slice A' n c') ∧ Own 3 w' (.slice A' n c') (ints zs) F ∧ (∀ g, g ∈ F → w.heap.size ≤ g) ∧ Below w.heap.size w w' := by
  obtain ⟨i0, hi, hz0, hz1, hz2⟩ := info_parts intInfo2
  have hm : n = (ints zs).length := by rw [ints_length]; exact hn
  have HM := hide hm
  have HR := hide (hr.keep (w' := w.alloc (.cells #[] 3)) fun p hp => World.cell?_alloc_lt w _ p hp).rv
  have HZ := hide hz
  clear hn hr hz hm
  go_enter Try.func72, Try.ntmps72
  go_wp2_with (at_builtin; refine wpList_app _ rfl _ _ 24 rfl w.heap.size 3 i0 (.int .i64 0) 8 Try.underlying24 hi hz0 hz1 hz2 rfl _ 0 [] rfl (World.ownsRow_made w #[] 0 (Nat.le_refl _) (by decide) rfl) A n c (ints zs) _ rfl HM.out HR.out (ints_one zs) ?c1 ?c2 ?c3 ?_)
  case c1 => have := HZ.out; unfold maxLen; omega
  case c2 => have := HZ.out; omega
  case c3 => simp
  intro v' w1 hown hgr _
  obtain ⟨A', c', F, hv, ho, hF⟩ := copy_own hown
  rw [hv]
  clear hv
  have HO := hide ho
  have HF := hide hF
  have HG := hide (((Below.refl w.heap.size w).alloc (Nat.le_refl _) _).grown hgr (by simp) (fun k hk => by simp [Value.ownBlock] at hk; omega))
  clear ho hF hgr hown
  go_wp2
  go_ret
  exact ⟨A', c', F, rfl, HO.out, HF.out, HG.out⟩
end Go.Proofs.Ytdhocncfpapncac
