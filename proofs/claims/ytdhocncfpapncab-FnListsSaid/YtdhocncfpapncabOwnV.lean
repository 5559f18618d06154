/-
  Lists that a function has made, told by the blocks themselves: so that a row may grow into a new block. Words, lemmas, marks.
-/
import Derived.Test.YtdhocncfpapncabLOwn
namespace Go.Proofs.Ytdhocncfpapncab
open Go.RowKit
set_option linter.unusedVariables false

structure RowsV (full : Bool) (w : World) (us : List Value) (z : List (List Int)) (H : List Nat) (vb : Option Nat) : Prop where
  len : us.length = z.length
  el : ∀ j, j < z.length → Sr full 3 w (us.getD j undef) (ints (z.getD j []))
  ins : ∀ j, j < z.length → ∀ b, (us.getD j undef).ownBlock = some b → b ∈ H ∧ vb ≠ some b
  dis : ∀ i j, i < z.length → j < z.length → i ≠ j → ∀ b, (us.getD i undef).ownBlock = some b → (us.getD j undef).ownBlock ≠ some b
structure OwnV (full : Bool) (w : World) (v : Value) (us : List Value) (z : List (List Int)) (H : List Nat) : Prop where
  out : Sr full 37 w v us
  ob : ∀ b, v.ownBlock = some b → b ∈ H
  rows : RowsV full w us z H v.ownBlock
theorem OwnU.toV {full : Bool} {w : World} {v : Value} {us : List Value} {z : List (List Int)} {lo hi : Nat} (h : OwnU full w v us z lo hi) : OwnV full w v us z (rg lo hi) :=
  ⟨h.out, fun b hb => mem_rg.2 (h.ob b hb), h.rows.len, h.rows.el, fun j hj b hb => ⟨mem_rg.2 ⟨(h.rows.ins j hj b hb).1, (h.rows.ins j hj b hb).2.1⟩, (h.rows.ins j hj b hb).2.2⟩, h.rows.dis⟩
theorem OwnV.weak {full : Bool} {w : World} {v : Value} {us : List Value} {z : List (List Int)} {H : List Nat} (h : OwnV full w v us z H) : OwnV false w v us z H :=
  ⟨h.out.weak, h.ob, h.rows.len, fun j hj => (h.rows.el j hj).weak, h.rows.ins, h.rows.dis⟩
theorem OwnV.keep {full : Bool} {w w' : World} {v : Value} {us : List Value} {z : List (List Int)} {H : List Nat} (h : OwnV full w v us z H) (hk : ∀ g, g ∈ H → g < w.heap.size → w'.heap[g]? = w.heap[g]?) : OwnV full w' v us z H :=
  ⟨h.out.keep fun g hg => hk g (h.ob g hg) (h.out.lt g hg), h.ob, h.rows.len, fun j hj => (h.rows.el j hj).keep fun g hg => hk g (h.rows.ins j hj g hg).1 ((h.rows.el j hj).lt g hg), h.rows.ins, h.rows.dis⟩
theorem OwnV.touch {full : Bool} {w w' : World} {v : Value} {us : List Value} {z : List (List Int)} {H F : List Nat} (h : OwnV full w v us z H) (ht : Touch F w w') (hF : ∀ g, g ∈ F → g ∉ H) : OwnV full w' v us z H :=
  h.keep fun g h1 h3 => ht.block g h3 fun hm => hF g hm h1
theorem OwnV.below {full : Bool} {w w' : World} {v : Value} {us : List Value} {z : List (List Int)} {H : List Nat} (h : OwnV full w v us z H) (hb : Below w.heap.size w w') : OwnV full w' v us z H := h.keep fun g _ h3 => hb.block g h3
theorem OwnV.cell {full : Bool} {w : World} {A : Option Addr} {n c : Nat} {us : List Value} {z : List (List Int)} {H : List Nat} (h : OwnV full w (.slice A n c) us z H) {j : Nat} (hj : j < z.length) :
    ∃ g A2 n2 c2, A = some ⟨g, 0, none⟩ ∧ g ∈ H ∧ g < w.heap.size ∧ us.getD j undef = .slice A2 n2 c2 ∧ w.cell? ⟨g, j, none⟩ = some (.slice A2 n2 c2) ∧ w.frozen? ⟨g, j, none⟩ = false ∧ n2 = (z.getD j []).length ∧ n2 ≤ c2 ∧ c2 ≤ maxLen ∧ RdB .i64 w A2 (z.getD j []) w.heap.size := by
  obtain ⟨g, rfl, hl, hc, hf⟩ := h.out.at (j := j) (by rw [h.rows.len]; exact hj)
  have he := h.rows.el j hj
  obtain ⟨A2, c2, e, h1, h2⟩ := he.shape
  rw [ints_length] at e h1
  rw [e] at he hc
  exact ⟨g, A2, _, c2, rfl, h.ob g rfl, hl, e, hc, hf, rfl, h1, h2, he.rdB⟩
theorem OwnV.rd {full : Bool} {w : World} {A : Option Addr} {n c : Nat} {us : List Value} {z : List (List Int)} {H : List Nat} (h : OwnV full w (.slice A n c) us z H) : n = z.length ∧ n ≤ c ∧ c ≤ maxLen ∧ RdM w A z w.heap.size := by
  obtain ⟨A', c', e, h1, h2⟩ := h.out.shape
  injection e with e1 e2 e3
  subst e1 e3
  have hl := h.rows.len
  refine ⟨by omega, by omega, h2, fun j hj => ?_⟩
  obtain ⟨g, A2, n2, c2, e, _, hl, _, hc, _, h4, h5, h6, h7⟩ := h.cell hj
  exact ⟨g, 0, A2, n2, c2, e, hl, by rw [Nat.zero_add]; exact hc, h4, h5, h6, h7⟩
theorem OwnV.rd' {full : Bool} {w : World} {A : Option Addr} {n c : Nat} {z : List (List Int)} {H : List Nat} (h : ∃ us, OwnV full w (.slice A n c) us z H) : n = z.length ∧ n ≤ c ∧ c ≤ maxLen ∧ RdM w A z w.heap.size := by
  obtain ⟨us, h⟩ := h; exact h.rd
def addZ (z : List (List Int)) (i : Nat) (s : Int) : List (List Int) := z.set i (z.getD i [] ++ [s])
theorem addZ_length (z : List (List Int)) (i : Nat) (s : Int) : (addZ z i s).length = z.length := by simp [addZ]
theorem addZ_at (z : List (List Int)) {i : Nat} (s : Int) (hi : i < z.length) : (addZ z i s).getD i [] = z.getD i [] ++ [s] := by simp [addZ, List.getD, hi]
theorem addZ_ne (z : List (List Int)) {i j : Nat} (s : Int) (h : j ≠ i) : (addZ z i s).getD j [] = z.getD j [] := by
  have h' : ¬ i = j := fun e => h e.symm
  simp [addZ, List.getD, h']
/-- A row grows by one slot, in its block or in a new one. -/
theorem OwnV.app {w w2 w3 : World} {g n c : Nat} {us : List Value} {z : List (List Int)} {H H' : List Nat} {i : Nat} {v' : Value} {s : Int} (h : OwnV true w (.slice (some ⟨g, 0, none⟩) n c) us z H) (hi : i < z.length) (hb : Below w.heap.size w w2)
    (hown : w3.ownsRow 0 3 1 v' ((z.getD i []).length + 1) (ints (z.getD i []) ++ [.int .i64 s])) (hgr : w2.grownBy w3 (us.getD i undef).ownBlock) (hv : v'.ownBlock = (us.getD i undef).ownBlock ∨ v'.ownBlock = some w2.heap.size) (hH : ∀ x, x ∈ H → x ∈ H') (hH' : ∀ b, v'.ownBlock = some b → b ∈ H') :
    OwnV true (w3.setCell ⟨g, i, none⟩ v') (.slice (some ⟨g, 0, none⟩) n c) (us.set i v') (addZ z i s) H' := by
  have hl := h.rows.len
  have h2 := h.below hb
  have hgl : g < w.heap.size := h.out.lt g rfl
  have s2 := hb.size
  have hset : ∀ j, j ≠ i → (us.set i v').getD j undef = us.getD j undef := fun j hj => by
    have h' : ¬ i = j := fun e => hj e.symm
    simp [List.getD, h']
  have hat : (us.set i v').getD i undef = v' := by simp [List.getD, hl, hi]
  have hne : (us.getD i undef).ownBlock ≠ some g := fun e => (h.rows.ins i hi g e).2 rfl
  have hvg : v'.ownBlock ≠ some g := fun e => by
    rcases hv with hv | hv
    · exact hne (hv.symm.trans e)
    · rw [hv] at e; simp only [Option.some.injEq] at e; omega
  have ht : Touch [g] w3 (w3.setCell ⟨g, i, none⟩ v') := (Touch.refl _ _).setCell (by simp) _
  have hbl : ∀ j, j < z.length → ∀ b, (us.getD j undef).ownBlock = some b → b < w2.heap.size := fun j hj b hb' => by have := (h.rows.el j hj).lt b hb'; omega
  refine ⟨(h2.out.grown hgr (fun x hx e => by simp only [Value.ownBlock, Option.some.injEq] at hx; subst hx; exact hne e)).set i v', fun b hb' => hH _ (h.ob b hb'), ⟨by simp [hl, addZ_length], fun j hj => ?_, fun j hj b hb' => ?_, fun a b ha hb' hab x hx => ?_⟩⟩
  · rw [addZ_length] at hj
    by_cases e : j = i
    · subst e
      rw [hat, addZ_at z s hj]
      have h5 := Sr.of_row hown
      have e2 : ints (z.getD j [] ++ [s]) = ints (z.getD j []) ++ [.int .i64 s] := by simp [ints]
      rw [e2]
      exact h5.touch ht (fun x hx hm => by simp only [List.mem_singleton] at hm; subst hm; exact hvg hx)
    · rw [hset j e, addZ_ne z s e]
      exact ((h2.rows.el j hj).grown hgr (fun x hx e' => h.rows.dis i j hi hj (fun e2 => e e2.symm) x e' hx)).touch ht (fun x hx hm => by simp only [List.mem_singleton] at hm; subst hm; exact (h.rows.ins j hj x hx).2 rfl)
  · rw [addZ_length] at hj
    by_cases e : j = i
    · subst e
      rw [hat] at hb'
      exact ⟨hH' b hb', fun e => hvg (by rw [hb', ← e]; rfl)⟩
    · rw [hset j e] at hb'
      exact ⟨hH _ (h.rows.ins j hj b hb').1, (h.rows.ins j hj b hb').2⟩
  · rw [addZ_length] at ha hb'
    by_cases e : a = i
    · subst e
      rw [hat] at hx
      rw [hset b (fun e => hab e.symm)]
      rcases hv with hv | hv
      · exact h.rows.dis a b ha hb' hab x (hv.symm.trans hx)
      · rw [hv] at hx
        simp only [Option.some.injEq] at hx
        intro e2
        have := hbl b hb' x e2
        omega
    · rw [hset a e] at hx
      by_cases e2 : b = i
      · subst e2
        rw [hat]
        intro e3
        rcases hv with hv | hv
        · exact h.rows.dis a b ha hb' hab x hx (hv.symm.trans e3)
        · rw [hv] at e3
          simp only [Option.some.injEq] at e3
          have := hbl a ha x hx
          omega
      · rw [hset b e2]
        exact h.rows.dis a b ha hb' hab x hx
theorem OwnV.mark {w w' : World} {v : Value} {us : List Value} {z z' : List (List Int)} {i : Nat} {H F : List Nat} {zs : List Int} (h : OwnV false w v us z H) (hi' : i < z.length) (hF : ∀ g, g ∈ F ↔ (us.getD i undef).ownBlock = some g) (ht : Touch F w w')
    (ho : Own 3 w' (us.getD i undef) (ints zs) F) (hl : z'.length = z.length) (hzi : z'.getD i [] = zs) (hzn : ∀ j, j < z.length → j ≠ i → z'.getD j [] = z.getD j []) : OwnV false w' v us z' H := by
  refine ⟨h.out.touch ht fun g hg hm => (h.rows.ins i hi' g ((hF g).1 hm)).2 hg, h.ob, ⟨by rw [hl]; exact h.rows.len, fun j hj => ?_, fun j hj b hb => h.rows.ins j (by omega) b hb, fun a b ha hb hne c hc => h.rows.dis a b (by omega) (by omega) hne c hc⟩⟩
  by_cases e : j = i
  · subst e
    rw [hzi]
    exact Sr.of_own ho fun g hg => (hF g).2 hg
  · rw [hzn j (by omega) e]
    exact (h.rows.el j (by omega)).touch ht fun g hg hm => h.rows.dis i j hi' (by omega) (fun e' => e e'.symm) g ((hF g).1 hm) hg
/-- Both halves, their blocks between lo and hi. -/
def LV (full : Bool) (w : World) (v : Value) (z y : List (List Int)) (lo hi : Nat) : Prop :=
  ∃ C k D m us vs F G, v = .agg #[.slice C z.length k, .slice D y.length m] ∧ OwnV full w (.slice C z.length k) us z F ∧ OwnV full w (.slice D y.length m) vs y G ∧ (∀ g, g ∈ F → g ∉ G) ∧ (∀ g, g ∈ F ++ G → lo ≤ g ∧ g < hi) ∧ hi ≤ w.heap.size
theorem LOwn.lv {full : Bool} {w : World} {v : Value} {z y : List (List Int)} {lo hi : Nat} (h : LOwn full w v z y lo hi) : LV full w v z y lo hi := by
  obtain ⟨C, k, D, m, a, b, c, d, e, ⟨us, h1⟩, ⟨vs, h2⟩, h3, h4, h5, h6, h7, h8⟩ := h
  refine ⟨C, k, D, m, us, vs, _, _, e, h1.toV, h2.toV, fun g hg hg' => ?_, fun g hg => ?_, h8⟩
  · rw [mem_rg] at hg hg'; omega
  · rcases List.mem_append.1 hg with h | h
    · rw [mem_rg] at h; omega
    · rw [mem_rg] at h; omega
theorem LV.weak {full : Bool} {w : World} {v : Value} {z y : List (List Int)} {lo hi : Nat} (h : LV full w v z y lo hi) : LV false w v z y lo hi := by
  obtain ⟨C, k, D, m, us, vs, F, G, e, h1, h2, h3⟩ := h
  exact ⟨C, k, D, m, us, vs, F, G, e, h1.weak, h2.weak, h3⟩
theorem LV.below {full : Bool} {w w' : World} {v : Value} {z y : List (List Int)} {lo hi : Nat} (h : LV full w v z y lo hi) (hb : Below w.heap.size w w') : LV full w' v z y lo hi := by
  obtain ⟨C, k, D, m, us, vs, F, G, e, h1, h2, h3, h4, h5⟩ := h
  exact ⟨C, k, D, m, us, vs, F, G, e, h1.below hb, h2.below hb, h3, h4, Nat.le_trans h5 hb.size⟩
theorem LV.touchF {full : Bool} {w w' : World} {v : Value} {z y : List (List Int)} {lo hi : Nat} {F' : List Nat} (h : LV full w v z y lo hi) (ht : Touch F' w w') (hd : ∀ g, g ∈ F' → ¬ (lo ≤ g ∧ g < hi)) : LV full w' v z y lo hi := by
  obtain ⟨C, k, D, m, us, vs, F, G, e, h1, h2, h3, h4, h5⟩ := h
  exact ⟨C, k, D, m, us, vs, F, G, e, h1.touch ht (fun g hg hm => hd g hg (h4 g (List.mem_append_left _ hm))), h2.touch ht (fun g hg hm => hd g hg (h4 g (List.mem_append_right _ hm))), h3, h4, Nat.le_trans h5 ht.size⟩
theorem LV.touch {full : Bool} {w w' : World} {v : Value} {z y : List (List Int)} {lo hi lo' hi' : Nat} (h : LV full w v z y lo hi) (ht : Touch (rg lo' hi') w w') (hd : hi ≤ lo' ∨ hi' ≤ lo) : LV full w' v z y lo hi :=
  h.touchF ht (fun g hg => by rw [mem_rg] at hg; omega)
theorem LV.more {full : Bool} {w : World} {v : Value} {z y : List (List Int)} {lo hi lo' hi' : Nat} (h : LV full w v z y lo hi) (h1 : lo' ≤ lo) (h2 : hi ≤ hi') (h3 : hi' ≤ w.heap.size) : LV full w v z y lo' hi' := by
  obtain ⟨C, k, D, m, us, vs, F, G, e, g1, g2, g3, g4, g5⟩ := h
  exact ⟨C, k, D, m, us, vs, F, G, e, g1, g2, g3, fun g hg => ⟨Nat.le_trans h1 (g4 g hg).1, Nat.lt_of_lt_of_le (g4 g hg).2 h2⟩, h3⟩
theorem LV.shp {full : Bool} {w : World} {v : Value} {z y : List (List Int)} {lo hi : Nat} (h : LV full w v z y lo hi) : ∃ C k D m, v = .agg #[.slice C z.length k, .slice D y.length m] := by
  obtain ⟨C, k, D, m, us, vs, F, G, e, _⟩ := h; exact ⟨C, k, D, m, e⟩
theorem LV.rd {full : Bool} {w : World} {C D : Option Addr} {n k n' m : Nat} {z y : List (List Int)} {lo hi : Nat} (h : LV full w (.agg #[.slice C n k, .slice D n' m]) z y lo hi) : n = z.length ∧ n ≤ k ∧ n' = y.length ∧ n' ≤ m ∧ RdM w C z w.heap.size ∧ RdM w D y w.heap.size := by
  obtain ⟨C', k', D', m', us, vs, F, G, e, h1, h2, _⟩ := h
  simp only [Value.agg.injEq, Array.mk.injEq, List.cons.injEq, Value.slice.injEq, and_true] at e
  obtain ⟨⟨rfl, rfl, rfl⟩, rfl, rfl, rfl⟩ := e
  exact ⟨h1.rd.1, h1.rd.2.1, h2.rd.1, h2.rd.2.1, h1.rd.2.2.2, h2.rd.2.2.2⟩
end Go.Proofs.Ytdhocncfpapncab
