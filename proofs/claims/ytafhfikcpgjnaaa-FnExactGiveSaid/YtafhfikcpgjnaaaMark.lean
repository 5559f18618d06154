/-
  Contracts of markIntS and heldIntS (the laws' helpers that mark a slice of ints and look whether the marks stand), of the program's slices.Clone and the reference's l3Copy.
-/
import Derived.Test.YtafhfikcpgjnaaaApp
import Derived.Deep.QuietTactic
import Derived.BigQuiet
import Derived.LoopTactic
import Derived.Outline
namespace Go.Proofs.Ytafhfikcpgjnaaa
open Go.RowKit
set_option linter.unusedVariables false

/-- The first i of the marks from k on have been written over zs. -/
def half (zs : List Int) (k : Int) (i : Nat) (j : Nat) : Int := if j < i then k + j else zs.getD j 0

structure MarkInv (w wr : World) (g : Nat) (cap : Nat) (zs : List Int) (k : Int) (i : Nat) : Prop where
  row : ∃ f, wr.rowIs g 3 cap f ∧ ∀ j, j < zs.length → f j = .int .i64 (half zs k i j)
  bel : Touch [g] w wr

theorem markInv_step {w wr : World} {g cap : Nat} {zs : List Int} {k : Int} {i : Nat} (h : MarkInv w wr g cap zs k i) : MarkInv w (wr.setCell ⟨g, i, none⟩ (.int .i64 (k + i))) g cap zs k (i + 1) := by
  obtain ⟨⟨f, hr, hf⟩, hb⟩ := h
  refine ⟨⟨_, hr.set i _, fun j hj => ?_⟩, hb.setCell (by simp) _⟩
  by_cases e : j = i
  · subst e; simp [half]
  · rw [if_neg e, hf j hj]
    unfold half
    by_cases hl : j < i
    · rw [if_pos hl, if_pos (by omega)]
    · rw [if_neg hl, if_neg (by omega)]

set_option maxRecDepth 100000 in
set_option maxHeartbeats 800000 in
theorem markIntS_any (A : Option Addr) (n c : Nat) (zs : List Int) (F : List Nat) (k : Int) (w : World) (ho : Own 3 w (.slice A n c) (ints zs) F) (hz : n ≤ 2097152) (h0 : 0 ≤ k) (h1 : k ≤ 2097152) :
    Calls Try.prog 58 #[.slice A n c, .int .i64 k] w fun e w' => e = .returned (.int .i64 (k + n)) ∧ Own 3 w' (.slice A n c) (ints (marks k n)) F ∧ Touch F w w' := by
  have hz1 : (n : Int) ≤ 2097152 := by omega
  obtain ⟨A', c', e, hc, h⟩ := ho
  injection e with e1 e2 e3
  subst e1 e3
  rw [ints_length] at e2
  rcases h with ⟨hz0, rfl, rfl⟩ | ⟨g, cap, f, rfl, rfl, hr, hl1, hl2, hf⟩
  · have hzs : zs = [] := List.eq_nil_of_length_eq_zero (by have := congrArg List.length hz0; simpa [ints] using this)
    subst hzs
    subst e2
    clear hz hz1
    have fin : Own 3 w (.slice A (List.length ([] : List Int)) 0) (ints (marks k (List.length ([] : List Int)))) [] := ⟨A, 0, rfl, hc, .inl ⟨rfl, rfl, rfl⟩⟩
    have HF := hide fin
    clear fin
    go_enter Try.func58, Try.ntmps58
    go_wp2
    refine wp_loop_rounds 1 ?_
    rw [rounds_succ]
    go_wp2
    go_ret
    exact ⟨retI (by simp), HF.out, Touch.refl _ _⟩
  · rw [ints_length] at hl1 hf
    have H0 : MarkInv w w g cap zs k 0 := ⟨⟨f, hr, fun j hj => by rw [hf j hj, ints_get _ _ hj]; simp [half]⟩, Touch.refl _ _⟩
    have H0' := hide H0
    have HE := hide e2
    have HL1 := hide hl1
    have HL2 := hide hl2
    have HC := hide hc
    clear H0 hr hf e2 hz hl1 hl2 hc
    go_enter Try.func58, Try.ntmps58
    go_wp2
    go_loopw [1, 5] (fun kk i wr => ∃ j : Nat, j ≤ n ∧ i = .int .i64 j ∧ kk = .int .i64 (k + j) ∧ MarkInv w wr g cap zs k j) (fun _ i _ => n - (intOf i).toNat)
    case atStart => exact ⟨0, Nat.zero_le _, rfl, by simp, H0'.out⟩
    case round =>
      obtain ⟨j, hj, rfl, rfl, hI⟩ := hrel
      have HI := hide hI
      clear hI
      by_cases hlt : j < n
      · have hi : (j : Int) < (n : Int) := by omega
        obtain ⟨old, g2⟩ : ∃ v, wr.cell? ⟨g, j, none⟩ = some v := by
          obtain ⟨f', hr', _⟩ := HI.out.row
          exact ⟨_, hr'.cell (by have := HE.out; have := HL1.out; have := HL2.out; omega)⟩
        have g3 : wr.frozen? ⟨g, j, none⟩ = false := by
          obtain ⟨f', hr', _⟩ := HI.out.row
          exact hr'.frozen j
        go_wp2
        go_roundw
        case rel => exact ⟨j + 1, by omega, by go_num, by go_num, markInv_step HI.out⟩
        case measure => simp [intOf]; omega
      · have hi : ¬ (j : Int) < (n : Int) := by omega
        go_wp2
        go_ret
        have hjn : j = n := by omega
        subst hjn
        refine ⟨rfl, ?_, HI.out.bel⟩
        obtain ⟨⟨f', hr', hf'⟩, _⟩ := HI.out
        refine ⟨_, _, by rw [ints_length, marks_length], HC.out, .inr ⟨g, cap, f', rfl, rfl, hr', by rw [ints_length, marks_length]; have := HE.out; have := HL1.out; omega, HL2.out, fun i hi => ?_⟩⟩
        rw [ints_length, marks_length] at hi
        rw [ints_get _ _ (by rw [marks_length]; exact hi), marks_get _ _ _ hi, hf' i (by have := HE.out; omega)]
        simp [half, hi]

set_option maxRecDepth 100000 in
set_option maxHeartbeats 800000 in
theorem heldIntS_same (A : Option Addr) (n c : Nat) (k : Int) (U : Nat) (w : World) (ha : RdB .i64 w A (marks k n) U) (hz : n ≤ 2097152) (h0 : 0 ≤ k) (h1 : k ≤ 2097152) :
    Calls Try.prog 59 #[.slice A n c, .int .i64 k] w fun e w' => e = .returned (.int .i64 (k + n)) ∧ w = w' := by
  have hz1 : (n : Int) ≤ 2097152 := by omega
  have HA := hide ha
  clear hz ha
  go_enter Try.func59, Try.ntmps59
  go_wp2
  go_loop [1, 5] (fun kk i => ∃ j : Nat, j ≤ n ∧ i = .int .i64 j ∧ kk = .int .i64 (k + j)) (fun _ i => n - (intOf i).toNat)
  case atStart => exact ⟨0, Nat.zero_le _, rfl, by simp⟩
  case round =>
    obtain ⟨j, hj, rfl, rfl⟩ := hrel
    by_cases hlt : j < n
    · have hi : (j : Int) < (n : Int) := by omega
      obtain ⟨b, off, rfl, hb, hc⟩ := HA.out j (by rw [marks_length]; exact hlt)
      rw [marks_get _ _ _ hlt] at hc
      go_wp2
      go_round
      case rel => exact ⟨j + 1, by omega, by go_num, by go_num⟩
      case measure => simp [intOf]; omega
    · have hi : ¬ (j : Int) < (n : Int) := by omega
      go_wp2
      go_ret
      have hjn : j = n := by omega
      subst hjn
      exact ⟨rfl, rfl⟩

theorem intInfo2 : (Try.prog.info? 3).map (fun i => (i.zero, i.size, i.bytes)) = some (some (.int .i64 0), 1, 8) := by kernel_rfl

theorem copy_own {w w' : World} {v : Value} {n : Nat} {zs : List Int} (h : w'.ownsRow w.heap.size 3 1 v n (ints zs)) :
    ∃ A' c' F, v = .slice A' n c' ∧ Own 3 w' (.slice A' n c') (ints zs) F ∧ (∀ g, g ∈ F → w.heap.size ≤ g) := by
  obtain ⟨A', c', F, rfl, _, ho, hF⟩ := own_of_row h
  exact ⟨A', c', F, rfl, ho, fun g hg => (hF g hg).1⟩

set_option maxRecDepth 100000 in
set_option maxHeartbeats 800000 in
theorem l3Copy_any (A : Option Addr) (n c : Nat) (zs : List Int) (w : World) (hn : n = zs.length) (hz : n ≤ 2097152) (hr : RdB .i64 w A zs w.heap.size) :
    Calls Try.prog 73 #[.slice A n c] w fun e w' => ∃ A' c' F, e = .returned (.slice A' n c') ∧ Own 3 w' (.slice A' n c') (ints zs) F ∧ (∀ g, g ∈ F → w.heap.size ≤ g) ∧ Below w.heap.size w w' := by
  obtain ⟨i0, hi, hz0, hz1, hz2⟩ := info_parts intInfo2
  have hm : n = (ints zs).length := by rw [ints_length]; exact hn
  have HM := hide hm
  have HR := hide (hr.keep (w' := w.alloc (.cells #[] 3)) fun p hp => World.cell?_alloc_lt w _ p hp).rv
  have HZ := hide hz
  clear hn hr hz hm
  go_enter Try.func73, Try.ntmps73
  go_wp2_with (at_builtin; refine wpList_app _ rfl _ _ 50 rfl w.heap.size 3 i0 (.int .i64 0) 8 Try.underlying50 hi hz0 hz1 hz2 rfl _ 0 [] rfl (World.ownsRow_made w #[] 0 (Nat.le_refl _) (by decide) rfl) A n c (ints zs) _ rfl HM.out HR.out (ints_one zs) ?c1 ?c2 ?c3 ?_)
  case c1 => have := HZ.out; unfold maxLen; omega
  case c2 => have := HZ.out; omega
  case c3 => simp
  intro v' w1 hown hgr _
  obtain ⟨A', c', F, hv, ho, hF⟩ := copy_own hown
  rw [hv]
  clear hv
  have HO := hide ho
  have HF := hide hF
  have HG := hide (((Below.refl w.heap.size w).alloc (Nat.le_refl _) _).grown hgr (by simp) (fun k hk => by simp [Value.ownBlock] at hk; omega))
  clear ho hF hgr hown
  go_wp2
  go_ret
  exact ⟨A', c', F, rfl, HO.out, HF.out, HG.out⟩
end Go.Proofs.Ytafhfikcpgjnaaa
