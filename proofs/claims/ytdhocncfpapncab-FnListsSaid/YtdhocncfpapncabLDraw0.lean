/-
  Draws of lists: new lists as blocks; workers, classes.
-/
import Derived.Test.YtdhocncfpapncabDrawS
import Derived.Test.YtdhocncfpapncabListsNew
import Derived.Test.YtdhocncfpapncabOwnV
namespace Go.Proofs.Ytdhocncfpapncab
open Go.RowKit
set_option linter.unusedVariables false

theorem made_v {w : World} {g n : Nat} (h : w.rowIs g 37 n (fun _ => .slice none 0 0)) (hn : n ≤ maxLen) : OwnV true w (.slice (some ⟨g, 0, none⟩) n n) (List.replicate n (.slice none 0 0)) (List.replicate n []) [g] := by
  have e : ∀ j, j < n → (List.replicate n (Value.slice none 0 0)).getD j undef = .slice none 0 0 := fun j hj => by simp [List.getD, hj]
  have e2 : ∀ j, j < n → (List.replicate n ([] : List Int)).getD j [] = [] := fun j hj => by simp [List.getD, hj]
  refine ⟨⟨some ⟨g, 0, none⟩, n, by simp, by simp, hn, .inr ⟨g, n, _, rfl, h, Nat.le_refl _, fun _ => rfl, fun j hj => (e j (by simpa using hj)).symm⟩⟩, fun b hb => by simp only [Value.ownBlock, Option.some.injEq] at hb; subst hb; simp, ⟨by simp, fun j hj => ?_, fun j hj b hb => ?_, fun i j hi hj hne b hb => ?_⟩⟩
  · have hj' : j < n := by simpa using hj
    rw [e j hj', e2 j hj']
    exact ⟨none, 0, rfl, Nat.le_refl _, Nat.zero_le _, .inl ⟨rfl, rfl⟩⟩
  · rw [e j (by simpa using hj)] at hb; cases hb
  · rw [e i (by simpa using hi)] at hb; cases hb
def NewV (w w' : World) (e : Ending) : Prop := ∃ v, e = .returned v ∧ LV true w' v e3 e9 w.heap.size w'.heap.size ∧ Below w.heap.size w w'
theorem newV_of {w w' : World} {g g' : Nat} (h1 : w'.rowIs g 37 3 (fun _ => .slice none 0 0)) (h2 : w'.rowIs g' 37 9 (fun _ => .slice none 0 0)) (hne : g ≠ g') (hg : w.heap.size ≤ g) (hg' : w.heap.size ≤ g') (hb : Below w.heap.size w w') :
    NewV w w' (.returned (.agg #[.slice (some ⟨g, 0, none⟩) 3 3, .slice (some ⟨g', 0, none⟩) 9 9])) :=
  ⟨_, rfl, ⟨_, 3, _, 9, _, _, [g], [g'], rfl, made_v h1 (by decide), made_v h2 (by decide), fun x hx hx' => by simp only [List.mem_singleton] at hx hx'; omega, fun x hx => by
    simp only [List.cons_append, List.nil_append, List.mem_cons, List.not_mem_nil, or_false] at hx
    rcases hx with rfl | rfl
    · exact ⟨hg, h1.lt⟩
    · exact ⟨hg', h2.lt⟩, Nat.le_refl _⟩, hb⟩
set_option maxRecDepth 100000 in
set_option maxHeartbeats 1600000 in
theorem specListsNew_v (w : World) : Calls Try.prog 48 #[] w fun e w' => NewV w w' e := by
  obtain ⟨n, hn⟩ : ∃ n : Nat, n = 3 := ⟨_, rfl⟩
  obtain ⟨m, hm⟩ : ∃ m : Nat, m = 9 := ⟨_, rfl⟩
  have mk3 := run_mk n (by omega)
  have mk9 := run_mk m (by omega)
  have i3 : (n : Int) = 3 := by omega
  have i9 : (m : Int) = 9 := by omega
  rw [i3] at mk3
  rw [i9] at mk9
  have H3 := hide hn
  have H9 := hide hm
  clear i3 i9 hn hm
  go_enter Try.func48, Try.ntmps48
  go_wp2_with fail
  go_region
  all_goals go_wp2_with fail
  · obtain ⟨h1, h2, hb⟩ := new_rows w (.cells #[.slice (some ⟨w.heap.size + 1, 0, none⟩) n n, .slice (some ⟨w.heap.size + 1 + 1, 0, none⟩) m m] 26) n m
    obtain rfl := H3.out
    obtain rfl := H9.out
    exact bodyPost_ret (v := .agg #[.slice (some ⟨w.heap.size + 1, 0, none⟩) 3 3, .slice (some ⟨w.heap.size + 1 + 1, 0, none⟩) 9 9]) (by simp [results, Try.results48, go_sem]) rfl
      (newV_of (h1.drew) (h2.drew) (by omega) (by omega) (by omega) hb.drew)
  · obtain ⟨h1, h2, hb⟩ := new_rows w (.cells #[.slice (some ⟨w.heap.size + 1 + 1, 0, none⟩) n n, .slice (some ⟨w.heap.size + 1, 0, none⟩) m m] 26) m n
    obtain rfl := H3.out
    obtain rfl := H9.out
    exact bodyPost_ret (v := .agg #[.slice (some ⟨w.heap.size + 1 + 1, 0, none⟩) 3 3, .slice (some ⟨w.heap.size + 1, 0, none⟩) 9 9]) (by simp [results, Try.results48, go_sem]) rfl
      (newV_of (h2.drew) (h1.drew) (by omega) (by omega) (by omega) hb.drew)
theorem LV.grown {full : Bool} {w w' : World} {v : Value} {z y : List (List Int)} {lo hi cb : Nat} (h : LV full w v z y lo hi) (hg : w.grownBy w' (some cb)) (hc : cb < lo ∨ hi ≤ cb) : LV full w' v z y lo hi := by
  obtain ⟨C, k, D, m, us, vs, F, G, e, h1, h2, h3, h4, h5⟩ := h
  exact ⟨C, k, D, m, us, vs, F, G, e, h1.keep fun g hg' hl => hg.block g hl (fun e => by simp only [Option.some.injEq] at e; have := h4 g (List.mem_append_left _ hg'); omega),
    h2.keep fun g hg' hl => hg.block g hl (fun e => by simp only [Option.some.injEq] at e; have := h4 g (List.mem_append_right _ hg'); omega), h3, h4, Nat.le_trans h5 hg.size⟩

set_option maxRecDepth 100000 in
set_option maxHeartbeats 800000 in
theorem l8Who_any (cb : Nat) (w : World) (hcur : Cur w cb) :
    Calls Try.prog 18 #[.pointer (some ⟨cb, 0, none⟩)] w fun e w' => (∃ x : Int, e = .returned (.int .i64 x) ∧ -1 ≤ x ∧ x ≤ 3) ∧ Cur w' cb ∧ w.grownBy w' (some cb) := by
  have HC := hide hcur
  clear hcur
  go_enter Try.func18, Try.ntmps18
  go_wp2_with fail
  refine (l1Once_any _ _ _ HC.out (by omega)).mono ?_
  rintro e w1 ⟨⟨b, rfl⟩, hc1, hg1⟩
  have HC1 := hide hc1
  have HG1 := hide hg1
  clear hc1 hg1
  cases b
  · go_wp2_with fail
    refine (l1Below_any _ _ _ HC1.out (by omega)).mono ?_
    rintro e w2 ⟨⟨j, rfl, hj⟩, hc2, hg2⟩
    have HC2 := hide hc2
    have HG2 := hide hg2
    clear hc2 hg2
    go_wp2_with fail
    go_ret
    exact ⟨⟨_, rfl, by omega, by omega⟩, HC2.out, grown_trans HG1.out HG2.out⟩
  · go_wp2_with fail
    refine (l1PickInt_any cb w1.heap.size [-1, 3] _ _ _ _ (HC1.out.alloc _) (heap_alloc_new _ _) (by have := HC1.out.lt; omega) rfl (by simp) (by simp)).mono ?_
    rintro e w3 ⟨⟨x, rfl, hx⟩, hc3, hg3⟩
    have hb : -1 ≤ x ∧ x ≤ 3 := by
      simp at hx
      omega
    have HC3 := hide hc3
    have HG3 := hide hg3
    clear hc3 hg3 hx
    go_wp2_with fail
    go_ret
    exact ⟨⟨x, rfl, hb.1, hb.2⟩, HC3.out, grown_trans HG1.out (grown_trans (World.grownBy_alloc _ _ _) HG3.out)⟩
set_option maxRecDepth 100000 in
set_option maxHeartbeats 800000 in
theorem l8Cl_any (cb : Nat) (w : World) (hcur : Cur w cb) :
    Calls Try.prog 19 #[.pointer (some ⟨cb, 0, none⟩)] w fun e w' => (∃ x : Int, e = .returned (.int .i64 x) ∧ -1 ≤ x ∧ x ≤ 3) ∧ Cur w' cb ∧ w.grownBy w' (some cb) := by
  have HC := hide hcur
  clear hcur
  go_enter Try.func19, Try.ntmps19
  go_wp2_with fail
  refine (l1Once_any _ _ _ HC.out (by omega)).mono ?_
  rintro e w1 ⟨⟨b, rfl⟩, hc1, hg1⟩
  have HC1 := hide hc1
  have HG1 := hide hg1
  clear hc1 hg1
  cases b
  · go_wp2_with fail
    refine (l1Below_any _ _ _ HC1.out (by omega)).mono ?_
    rintro e w2 ⟨⟨j, rfl, hj⟩, hc2, hg2⟩
    have HC2 := hide hc2
    have HG2 := hide hg2
    clear hc2 hg2
    go_wp2_with fail
    go_ret
    exact ⟨⟨_, rfl, by omega, by omega⟩, HC2.out, grown_trans HG1.out HG2.out⟩
  · go_wp2_with fail
    refine (l1PickInt_any cb w1.heap.size [-1, 3] _ _ _ _ (HC1.out.alloc _) (heap_alloc_new _ _) (by have := HC1.out.lt; omega) rfl (by simp) (by simp)).mono ?_
    rintro e w3 ⟨⟨x, rfl, hx⟩, hc3, hg3⟩
    have hb : -1 ≤ x ∧ x ≤ 3 := by
      simp at hx
      omega
    have HC3 := hide hc3
    have HG3 := hide hg3
    clear hc3 hg3 hx
    go_wp2_with fail
    go_ret
    exact ⟨⟨x, rfl, hb.1, hb.2⟩, HC3.out, grown_trans HG1.out (grown_trans (World.grownBy_alloc _ _ _) HG3.out)⟩
end Go.Proofs.Ytdhocncfpapncab
