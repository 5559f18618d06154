/-
  Lists of slots that a function has made: each row in a block of its own. The words and their lemmas; plain, of no one function.
-/
import Derived.Test.YtdhocncfpapncabLsts
namespace Go.Proofs.Ytdhocncfpapncab
open Go.RowKit
set_option linter.unusedVariables false

/-- A slice of one-cell elements that reads as xs, in a block of its own (full: all of the block) or nil. -/
def Sr (full : Bool) (E : TypeId) (w : World) (v : Value) (xs : List Value) : Prop :=
  ∃ A c, v = .slice A xs.length c ∧ xs.length ≤ c ∧ c ≤ maxLen ∧
    ((A = none ∧ c = 0) ∨ ∃ g cap f, A = some ⟨g, 0, none⟩ ∧ w.rowIs g E cap f ∧ c ≤ cap ∧ (full = true → c = cap) ∧ ∀ j, j < xs.length → f j = xs.getD j undef)
theorem Sr.of_row {E : TypeId} {w : World} {base n : Nat} {v : Value} {xs : List Value} (h : w.ownsRow base E 1 v n xs) : Sr true E w v xs := by
  obtain ⟨hl, ⟨rfl, rfl⟩ | ⟨g, cap, cur, rfl, hg, hh, hnc, hcm, hcs, htk⟩⟩ := h
  · have : xs = [] := List.eq_nil_of_length_eq_zero (by omega)
    subst this
    exact ⟨none, 0, rfl, Nat.le_refl _, Nat.zero_le _, .inl ⟨rfl, rfl⟩⟩
  · have hl' : xs.length = n := by omega
    subst hl'
    refine ⟨_, cap, rfl, hnc, hcm, .inr ⟨g, cap, fun j => cur.getD j undef, rfl, ⟨cur, hh, by omega, fun j hj => ?_⟩, Nat.le_refl _, fun _ => rfl, fun j hj => ?_⟩⟩
    · have hjc : j < cur.size := by omega
      show cur[j]? = some (cur.getD j undef)
      simp [Array.getD, hjc]
    · have : xs[j]? = cur.toList[j]? := by
        have e := congrArg (fun l => l[j]?) htk
        simp only [List.getElem?_take] at e
        rw [if_pos (by omega)] at e
        exact e.symm
      have hjc : j < cur.size := by omega
      show cur.getD j undef = _
      rw [List.getD_eq_getElem?_getD, this]
      simp [Array.getD, hjc]
theorem Sr.row {E : TypeId} {w : World} {v : Value} {xs : List Value} {lo : Nat} (h : Sr true E w v xs) (hlo : ∀ g, v.ownBlock = some g → lo ≤ g) : w.ownsRow lo E 1 v xs.length xs := by
  obtain ⟨A, c, rfl, h1, h2, ⟨rfl, rfl⟩ | ⟨g, cap, f, rfl, hr, h3, h4, h5⟩⟩ := h
  · have hx : xs = [] := List.eq_nil_of_length_eq_zero (by omega)
    subst hx
    exact ⟨by simp, .inl ⟨rfl, rfl⟩⟩
  · have h4 := h4 rfl
    subst h4
    obtain ⟨cur, hb, hs, hc⟩ := hr
    refine ⟨by simp, .inr ⟨g, c, cur, rfl, hlo g rfl, hb, h1, h2, by omega, ?_⟩⟩
    apply List.ext_getElem?
    intro j
    rw [Nat.mul_one, List.getElem?_take]
    by_cases hj : j < xs.length
    · rw [if_pos hj]
      have := hc j (by omega)
      rw [h5 j hj] at this
      simp only [Array.getElem?_toList, this]
      simp [List.getD, hj]
    · rw [if_neg hj]; simp [hj]
theorem Sr.weak {full : Bool} {E : TypeId} {w : World} {v : Value} {xs : List Value} (h : Sr full E w v xs) : Sr false E w v xs := by
  obtain ⟨A, c, e, h1, h2, h | ⟨g, cap, f, hA, hr, h3, _, h5⟩⟩ := h
  · exact ⟨A, c, e, h1, h2, .inl h⟩
  · exact ⟨A, c, e, h1, h2, .inr ⟨g, cap, f, hA, hr, h3, (fun h => by cases h), h5⟩⟩
theorem Sr.lt {full : Bool} {E : TypeId} {w : World} {v : Value} {xs : List Value} (h : Sr full E w v xs) : ∀ g, v.ownBlock = some g → g < w.heap.size := by
  obtain ⟨A, c, rfl, h1, h2, ⟨rfl, rfl⟩ | ⟨g, cap, f, rfl, hr, _⟩⟩ := h
  · intro g hg; cases hg
  · intro g' hg'
    simp only [Value.ownBlock, Option.some.injEq] at hg'
    subst hg'; exact hr.lt
theorem Sr.keep {full : Bool} {E : TypeId} {w w' : World} {v : Value} {xs : List Value} (h : Sr full E w v xs) (hk : ∀ g, v.ownBlock = some g → w'.heap[g]? = w.heap[g]?) : Sr full E w' v xs := by
  obtain ⟨A, c, rfl, h1, h2, h | ⟨g, cap, f, rfl, hr, h3, h4, h5⟩⟩ := h
  · exact ⟨A, c, rfl, h1, h2, .inl h⟩
  · exact ⟨_, c, rfl, h1, h2, .inr ⟨g, cap, f, rfl, hr.of_block (hk g rfl), h3, h4, h5⟩⟩
theorem Sr.touch {full : Bool} {E : TypeId} {w w' : World} {v : Value} {xs : List Value} {F : List Nat} (h : Sr full E w v xs) (ht : Touch F w w') (hF : ∀ g, v.ownBlock = some g → g ∉ F) : Sr full E w' v xs :=
  h.keep fun g hg => ht.block g (h.lt g hg) (hF g hg)
theorem Sr.below {full : Bool} {E : TypeId} {w w' : World} {v : Value} {xs : List Value} (h : Sr full E w v xs) (hb : Below w.heap.size w w') : Sr full E w' v xs :=
  h.keep fun g hg => hb.block g (h.lt g hg)
theorem Sr.grown {full : Bool} {E : TypeId} {w w' : World} {v : Value} {xs : List Value} {row : Option Nat} (h : Sr full E w v xs) (hg : w.grownBy w' row) (hne : ∀ g, v.ownBlock = some g → row ≠ some g) : Sr full E w' v xs :=
  h.keep fun g hg' => hg.block g (h.lt g hg') (fun e => hne g hg' e.symm)
theorem Sr.own {full : Bool} {E : TypeId} {w : World} {v : Value} {xs : List Value} (h : Sr full E w v xs) : ∃ F, Own E w v xs F ∧ (∀ g, g ∈ F ↔ v.ownBlock = some g) := by
  obtain ⟨A, c, rfl, h1, h2, ⟨rfl, rfl⟩ | ⟨g, cap, f, rfl, hr, h3, h4, h5⟩⟩ := h
  · have : xs = [] := List.eq_nil_of_length_eq_zero (by omega)
    subst this
    exact ⟨[], ⟨none, 0, rfl, h2, .inl ⟨rfl, rfl, rfl⟩⟩, fun g => by simp [Value.ownBlock]⟩
  · exact ⟨[g], ⟨_, c, rfl, h2, .inr ⟨g, cap, f, rfl, rfl, hr, h1, h3, h5⟩⟩, fun g' => by simp [Value.ownBlock, eq_comm]⟩
theorem Sr.of_own {E : TypeId} {w : World} {v : Value} {xs : List Value} {F : List Nat} (h : Own E w v xs F) (hF : ∀ g, v.ownBlock = some g → g ∈ F) : Sr false E w v xs := by
  obtain ⟨A, c, rfl, hc, ⟨rfl, rfl, rfl⟩ | ⟨g, cap, f, rfl, rfl, hr, h1, h2, h3⟩⟩ := h
  · cases A with
    | none => exact ⟨none, 0, rfl, Nat.le_refl _, hc, .inl ⟨rfl, rfl⟩⟩
    | some a => have := hF a.block rfl; cases this
  · exact ⟨_, c, rfl, h1, hc, .inr ⟨g, cap, f, rfl, hr, h2, (fun h => by cases h), h3⟩⟩
theorem Sr.shape {full : Bool} {E : TypeId} {w : World} {v : Value} {xs : List Value} (h : Sr full E w v xs) : ∃ A c, v = .slice A xs.length c ∧ xs.length ≤ c ∧ c ≤ maxLen := by
  obtain ⟨A, c, e, h1, h2, _⟩ := h; exact ⟨A, c, e, h1, h2⟩
/-- What it reads at an index. -/
theorem Sr.at {full : Bool} {E : TypeId} {w : World} {A : Option Addr} {n c : Nat} {xs : List Value} (h : Sr full E w (.slice A n c) xs) {j : Nat} (hj : j < xs.length) :
    ∃ g, A = some ⟨g, 0, none⟩ ∧ g < w.heap.size ∧ w.cell? ⟨g, j, none⟩ = some (xs.getD j undef) ∧ w.frozen? ⟨g, j, none⟩ = false := by
  obtain ⟨A', c', e, h1, h2, h⟩ := h
  injection e with e1 e2 e3
  subst e1 e2 e3
  rcases h with ⟨rfl, rfl⟩ | ⟨g, cap, f, rfl, hr, h3, h4, h5⟩
  · omega
  · exact ⟨g, rfl, hr.lt, by rw [hr.cell (by omega), h5 j hj], hr.frozen j⟩
theorem Sr.rdB {full : Bool} {w : World} {A : Option Addr} {n c : Nat} {zs : List Int} (h : Sr full 3 w (.slice A n c) (ints zs)) : RdB .i64 w A zs w.heap.size := fun j hj => by
  obtain ⟨g, e, hl, hc, _⟩ := h.at (j := j) (by rw [ints_length]; exact hj)
  exact ⟨g, 0, e, hl, by rw [Nat.zero_add, hc, ints_get _ _ hj]⟩
/-- A store into it. -/
theorem Sr.set {full : Bool} {E : TypeId} {w : World} {g n c : Nat} {xs : List Value} (h : Sr full E w (.slice (some ⟨g, 0, none⟩) n c) xs) (j : Nat) (u : Value) :
    Sr full E (w.setCell ⟨g, j, none⟩ u) (.slice (some ⟨g, 0, none⟩) n c) (xs.set j u) := by
  obtain ⟨A', c', e, h1, h2, h⟩ := h
  injection e with e1 e2 e3
  subst e1 e2 e3
  rcases h with ⟨h, _⟩ | ⟨g', cap, f, e, hr, h3, h4, h5⟩
  · cases h
  · simp only [Option.some.injEq, Addr.mk.injEq, and_true] at e
    subst e
    refine ⟨_, c, by rw [List.length_set], by rw [List.length_set]; exact h1, h2, .inr ⟨g, cap, _, rfl, hr.set j u, h3, h4, fun i hi => ?_⟩⟩
    rw [List.length_set] at hi
    by_cases e : i = j
    · subst e; simp [List.getD, hi]
    · rw [if_neg e, h5 i hi]
      have e' : ¬ j = i := fun h => e h.symm
      simp [List.getD, e']

/-- The rows' elements: each in a block of its own between lo and hi, no two the same, none the outer one. -/
structure RowsU (full : Bool) (w : World) (us : List Value) (z : List (List Int)) (lo hi : Nat) (vb : Option Nat) : Prop where
  len : us.length = z.length
  el : ∀ j, j < z.length → Sr full 3 w (us.getD j undef) (ints (z.getD j []))
  ins : ∀ j, j < z.length → ∀ b, (us.getD j undef).ownBlock = some b → lo ≤ b ∧ b < hi ∧ vb ≠ some b
  dis : ∀ i j, i < z.length → j < z.length → i ≠ j → ∀ b, (us.getD i undef).ownBlock = some b → (us.getD j undef).ownBlock ≠ some b
structure OwnU (full : Bool) (w : World) (v : Value) (us : List Value) (z : List (List Int)) (lo hi : Nat) : Prop where
  out : Sr full 37 w v us
  ob : ∀ b, v.ownBlock = some b → lo ≤ b ∧ b < hi
  rows : RowsU full w us z lo hi v.ownBlock
def OwnM (full : Bool) (w : World) (v : Value) (z : List (List Int)) (lo hi : Nat) : Prop := ∃ us, OwnU full w v us z lo hi
theorem RowsU.keep {full : Bool} {w w' : World} {us : List Value} {z : List (List Int)} {lo hi : Nat} {vb : Option Nat} (h : RowsU full w us z lo hi vb) (hk : ∀ g, lo ≤ g → g < hi → g < w.heap.size → vb ≠ some g → w'.heap[g]? = w.heap[g]?) : RowsU full w' us z lo hi vb :=
  ⟨h.len, fun j hj => (h.el j hj).keep fun g hg => hk g (h.ins j hj g hg).1 (h.ins j hj g hg).2.1 ((h.el j hj).lt g hg) (h.ins j hj g hg).2.2, h.ins, h.dis⟩
theorem RowsU.weak {full : Bool} {w : World} {us : List Value} {z : List (List Int)} {lo hi : Nat} {vb : Option Nat} (h : RowsU full w us z lo hi vb) : RowsU false w us z lo hi vb :=
  ⟨h.len, fun j hj => (h.el j hj).weak, h.ins, h.dis⟩
theorem OwnU.weak {full : Bool} {w : World} {v : Value} {us : List Value} {z : List (List Int)} {lo hi : Nat} (h : OwnU full w v us z lo hi) : OwnU false w v us z lo hi := ⟨h.out.weak, h.ob, h.rows.weak⟩
theorem OwnM.weak {full : Bool} {w : World} {v : Value} {z : List (List Int)} {lo hi : Nat} (h : OwnM full w v z lo hi) : OwnM false w v z lo hi := by obtain ⟨us, h⟩ := h; exact ⟨us, h.weak⟩
theorem OwnU.keep {full : Bool} {w w' : World} {v : Value} {us : List Value} {z : List (List Int)} {lo hi : Nat} (h : OwnU full w v us z lo hi) (hk : ∀ g, lo ≤ g → g < hi → g < w.heap.size → w'.heap[g]? = w.heap[g]?) : OwnU full w' v us z lo hi :=
  ⟨h.out.keep fun g hg => hk g (h.ob g hg).1 (h.ob g hg).2 (h.out.lt g hg), h.ob, h.rows.keep fun g h1 h2 h3 _ => hk g h1 h2 h3⟩
theorem OwnM.touch {full : Bool} {w w' : World} {v : Value} {z : List (List Int)} {lo hi : Nat} {F : List Nat} (h : OwnM full w v z lo hi) (ht : Touch F w w') (hF : ∀ g, g ∈ F → ¬ (lo ≤ g ∧ g < hi)) : OwnM full w' v z lo hi := by
  obtain ⟨us, h⟩ := h
  exact ⟨us, h.keep fun g h1 h2 h3 => ht.block g h3 fun hm => hF g hm ⟨h1, h2⟩⟩
theorem OwnM.below {full : Bool} {w w' : World} {v : Value} {z : List (List Int)} {lo hi : Nat} (h : OwnM full w v z lo hi) (hb : Below w.heap.size w w') : OwnM full w' v z lo hi := by
  obtain ⟨us, h⟩ := h
  exact ⟨us, h.keep fun g h1 h2 h3 => hb.block g h3⟩
theorem OwnM.more {full : Bool} {w : World} {v : Value} {z : List (List Int)} {lo hi lo' hi' : Nat} (h : OwnM full w v z lo hi) (h1 : lo' ≤ lo) (h2 : hi ≤ hi') : OwnM full w v z lo' hi' := by
  obtain ⟨us, h⟩ := h
  exact ⟨us, h.out, fun b hb => ⟨Nat.le_trans h1 (h.ob b hb).1, Nat.lt_of_lt_of_le (h.ob b hb).2 h2⟩, h.rows.len, h.rows.el, fun j hj b hb => ⟨Nat.le_trans h1 (h.rows.ins j hj b hb).1, Nat.lt_of_lt_of_le (h.rows.ins j hj b hb).2.1 h2, (h.rows.ins j hj b hb).2.2⟩, h.rows.dis⟩
theorem OwnU.cell {full : Bool} {w : World} {A : Option Addr} {n c : Nat} {us : List Value} {z : List (List Int)} {lo hi : Nat} (h : OwnU full w (.slice A n c) us z lo hi) {j : Nat} (hj : j < z.length) :
    ∃ g A2 n2 c2, A = some ⟨g, 0, none⟩ ∧ lo ≤ g ∧ g < hi ∧ g < w.heap.size ∧ us.getD j undef = .slice A2 n2 c2 ∧ w.cell? ⟨g, j, none⟩ = some (.slice A2 n2 c2) ∧ w.frozen? ⟨g, j, none⟩ = false ∧ n2 = (z.getD j []).length ∧ n2 ≤ c2 ∧ c2 ≤ maxLen ∧ RdB .i64 w A2 (z.getD j []) w.heap.size := by
  obtain ⟨g, rfl, hl, hc, hf⟩ := h.out.at (j := j) (by rw [h.rows.len]; exact hj)
  have he := h.rows.el j hj
  obtain ⟨A2, c2, e, h1, h2⟩ := he.shape
  rw [ints_length] at e h1
  rw [e] at he hc
  have hob := h.ob g rfl
  exact ⟨g, A2, _, c2, rfl, hob.1, hob.2, hl, e, hc, hf, rfl, h1, h2, he.rdB⟩
theorem OwnM.rd {full : Bool} {w : World} {A : Option Addr} {n c : Nat} {z : List (List Int)} {lo hi : Nat} (h : OwnM full w (.slice A n c) z lo hi) : n = z.length ∧ n ≤ c ∧ c ≤ maxLen ∧ RdM w A z w.heap.size := by
  obtain ⟨us, h⟩ := h
  obtain ⟨A', c', e, h1, h2⟩ := h.out.shape
  injection e with e1 e2 e3
  subst e1 e3
  have hl := h.rows.len
  refine ⟨by omega, by omega, h2, fun j hj => ?_⟩
  obtain ⟨g, A2, n2, c2, e, _, _, hl, _, hc, _, h4, h5, h6, h7⟩ := h.cell hj
  exact ⟨g, 0, A2, n2, c2, e, hl, by rw [Nat.zero_add]; exact hc, h4, h5, h6, h7⟩
/-- The copies that the laws make. -/
theorem OwnL.ownM {w : World} {g : Nat} {z : List (List Int)} {G : Nat → Nat} {lo hi : Nat} (h : OwnL w g z G) (hg : g < w.heap.size) (h1 : lo ≤ g) (h2 : g < hi) (h3 : ∀ j, j < z.length → G j < hi) (hm : z.length ≤ maxLen) : OwnM false w (.slice (some ⟨g, 0, none⟩) z.length z.length) z lo hi := by
  refine ⟨(List.range z.length).map (fun j => .slice (some ⟨G j, 0, none⟩) (z.getD j []).length (z.getD j []).length), ⟨_, z.length, by simp, by simp, hm, .inr ⟨g, _, _, rfl, h.1, Nat.le_refl _, (fun h => by cases h), fun j hj => ?_⟩⟩, fun b hb => ?_, ⟨by simp, fun j hj => ?_, fun j hj b hb => ?_, fun i j hi hj hne b hb => ?_⟩⟩
  · simp only [List.length_map, List.length_range] at hj
    simp [List.getD, hj]
  · simp only [Value.ownBlock, Option.some.injEq] at hb; omega
  · have e : ((List.range z.length).map (fun j => Value.slice (some ⟨G j, 0, none⟩) (z.getD j []).length (z.getD j []).length)).getD j undef = .slice (some ⟨G j, 0, none⟩) (z.getD j []).length (z.getD j []).length := by simp [List.getD, hj]
    rw [e]
    exact Sr.of_own (h.2.1 j hj).2.2 fun g hg => by simp only [Value.ownBlock, Option.some.injEq] at hg; simp [hg]
  · have e : ((List.range z.length).map (fun j => Value.slice (some ⟨G j, 0, none⟩) (z.getD j []).length (z.getD j []).length)).getD j undef = .slice (some ⟨G j, 0, none⟩) (z.getD j []).length (z.getD j []).length := by simp [List.getD, hj]
    rw [e] at hb
    simp only [Value.ownBlock, Option.some.injEq] at hb
    subst hb
    have := (h.2.1 j hj).1
    have := h3 j hj
    refine ⟨by omega, this, fun e => ?_⟩
    simp only [Value.ownBlock, Option.some.injEq] at e
    omega
  · have e : ((List.range z.length).map (fun j => Value.slice (some ⟨G j, 0, none⟩) (z.getD j []).length (z.getD j []).length)).getD j undef = .slice (some ⟨G j, 0, none⟩) (z.getD j []).length (z.getD j []).length := by simp [List.getD, hj]
    have e' : ((List.range z.length).map (fun j => Value.slice (some ⟨G j, 0, none⟩) (z.getD j []).length (z.getD j []).length)).getD i undef = .slice (some ⟨G i, 0, none⟩) (z.getD i []).length (z.getD i []).length := by simp [List.getD, hi]
    rw [e'] at hb
    rw [e]
    intro hc
    simp only [Value.ownBlock, Option.some.injEq] at hb hc
    exact h.2.2 i j hi hj hne (hb.trans hc.symm)
end Go.Proofs.Ytdhocncfpapncab
