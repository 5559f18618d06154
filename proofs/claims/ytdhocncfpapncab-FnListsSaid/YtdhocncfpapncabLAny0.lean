/-
  Draws of lists: what each of l8Any's changes leaves. Plain.
-/
import Derived.Test.YtdhocncfpapncabLDraw
namespace Go.Proofs.Ytdhocncfpapncab
open Go.RowKit
set_option linter.unusedVariables false

theorem Cur.touch {w w' : World} {cb : Nat} {F : List Nat} (h : Cur w cb) (ht : Touch F w w') (hF : ∀ g, g ∈ F → cb < g) : Cur w' cb := by
  have hl := h.lt
  obtain ⟨A, n, c, zs, i, x, hh, h1, h2, h3, h4⟩ := h
  exact ⟨A, n, c, zs, i, x, (ht.block cb hl (fun hm => by have := hF cb hm; omega)).trans hh, h1, h2, h3, h4.touch ht (fun g hg => Nat.le_of_lt (hF g hg)) (Nat.le_of_lt hl)⟩
theorem grown_touch {w wr X : World} {row : Option Nat} {F : List Nat} (h : w.grownBy wr row) (ht : Touch F wr X) (hF : ∀ g, g ∈ F → w.heap.size ≤ g) : w.grownBy X row :=
  ⟨ht.os.trans h.os, ht.tape.trans h.tape, ht.output.trans h.output, Nat.le_trans h.size ht.size, fun i hi hn => (ht.block i (Nat.lt_of_lt_of_le hi h.size) (fun hm => by have := hF i hm; omega)).trans (h.block i hi hn)⟩
theorem getD_take {α : Type} (l : List α) (m j : Nat) (d : α) (h : j < m) : (l.take m).getD j d = l.getD j d := by simp [List.getD, h]
theorem OwnV.take {w : World} {C : Option Addr} {n k : Nat} {us : List Value} {z : List (List Int)} {F : List Nat} (h : OwnV true w (.slice C n k) us z F) {m : Nat} (hm : m ≤ n) : OwnV true w (.slice C m k) (us.take m) (z.take m) F := by
  have hob : (Value.slice C m k).ownBlock = (Value.slice C n k).ownBlock := by cases C <;> rfl
  have hl := h.rows.len
  obtain ⟨A, c, e, h1, h2, h3⟩ := h.out
  injection e with e1 e2 e3
  subst e1 e2 e3
  have hlen : (us.take m).length = m := by rw [List.length_take]; omega
  refine ⟨⟨C, k, by rw [hlen], by omega, h2, ?_⟩, fun b hb => h.ob b (hob ▸ hb), ⟨by rw [List.length_take, List.length_take, hl], fun j hj => ?_, fun j hj b hb => ?_, fun i j hi hj hij b hb => ?_⟩⟩
  · rcases h3 with h3 | ⟨g, cap, f, rfl, hr, h4, h5, h6⟩
    · exact .inl h3
    · refine .inr ⟨g, cap, f, rfl, hr, h4, h5, fun j hj => ?_⟩
      rw [getD_take _ _ _ _ (by omega)]
      exact h6 j (by omega)
  · rw [List.length_take] at hj
    rw [getD_take _ _ _ _ (by omega), getD_take _ _ _ _ (by omega)]
    exact h.rows.el j (by omega)
  · rw [List.length_take] at hj
    rw [getD_take _ _ _ _ (by omega)] at hb
    rw [hob]
    exact h.rows.ins j (by omega) b hb
  · rw [List.length_take] at hi hj
    rw [getD_take _ _ _ _ (by omega)] at hb ⊢
    exact h.rows.dis i j (by omega) (by omega) hij b hb
theorem getD_app {α : Type} (l : List α) (x d : α) (j : Nat) (h : j < l.length) : (l ++ [x]).getD j d = l.getD j d := by simp [List.getD, List.getElem?_append, h]
theorem getD_end {α : Type} (l : List α) (x d : α) : (l ++ [x]).getD l.length d = x := by simp [List.getD]
theorem OwnV.push {W w4 : World} {v v' : Value} {us : List Value} {z : List (List Int)} {G : List Nat} (h : OwnV true W v us z G) (hown : w4.ownsRow 0 37 1 v' (us.length + 1) (us ++ [.slice none 0 0])) (hgr : W.grownBy w4 v.ownBlock)
    (hv : v'.ownBlock = v.ownBlock ∨ v'.ownBlock = some W.heap.size) : OwnV true w4 v' (us ++ [.slice none 0 0]) (z ++ [[]]) (W.heap.size :: G) := by
  have hl := h.rows.len
  have hob : ∀ j, j < z.length → ∀ b, (us.getD j undef).ownBlock = some b → b ∈ G ∧ v'.ownBlock ≠ some b := fun j hj b hb => by
    have h1 := h.rows.ins j hj b hb
    refine ⟨h1.1, fun e => ?_⟩
    rcases hv with hv | hv
    · exact h1.2 (hv ▸ e)
    · rw [hv] at e
      have := (h.rows.el j hj).lt b hb
      simp only [Option.some.injEq] at e
      omega
  refine ⟨Sr.of_row hown, fun b hb => ?_, ⟨by simp [hl], fun j hj => ?_, fun j hj b hb => ?_, fun i j hi hj hij b hb => ?_⟩⟩
  · rcases hv with hv | hv
    · exact List.mem_cons_of_mem _ (h.ob b (hv ▸ hb))
    · rw [hv] at hb; simp only [Option.some.injEq] at hb; rw [← hb]; exact List.mem_cons_self
  · simp only [List.length_append, List.length_cons, List.length_nil] at hj
    by_cases e : j = z.length
    · subst e
      rw [getD_end, ← hl, getD_end]
      exact ⟨none, 0, rfl, Nat.le_refl _, Nat.zero_le _, .inl ⟨rfl, rfl⟩⟩
    · rw [getD_app _ _ _ _ (by omega), getD_app _ _ _ _ (by omega)]
      exact (h.rows.el j (by omega)).grown hgr (fun g hg => (h.rows.ins j (by omega) g hg).2)
  · simp only [List.length_append, List.length_cons, List.length_nil] at hj
    by_cases e : j = z.length
    · subst e
      rw [← hl, getD_end] at hb
      cases hb
    · rw [getD_app _ _ _ _ (by omega)] at hb
      exact ⟨List.mem_cons_of_mem _ (hob j (by omega) b hb).1, (hob j (by omega) b hb).2⟩
  · simp only [List.length_append, List.length_cons, List.length_nil] at hi hj
    by_cases e : i = z.length
    · subst e
      rw [← hl, getD_end] at hb
      cases hb
    · rw [getD_app _ _ _ _ (by omega)] at hb
      by_cases e2 : j = z.length
      · subst e2
        rw [← hl, getD_end]
        intro h; cases h
      · rw [getD_app _ _ _ _ (by omega)]
        exact h.rows.dis i j (by omega) (by omega) hij b hb
theorem OwnV.put {W : World} {g n c i : Nat} {us : List Value} {z : List (List Int)} {H H' : List Nat} {v' : Value} {xs : List Int} (h : OwnV true W (.slice (some ⟨g, 0, none⟩) n c) us z H) (hi : i < z.length) (hs : Sr true 3 W v' (ints xs)) (hn : ∀ b, v'.ownBlock = some b → b ∉ H)
    (hH : ∀ x, x ∈ H → x ∈ H') (hH' : ∀ b, v'.ownBlock = some b → b ∈ H') : OwnV true (W.setCell ⟨g, i, none⟩ v') (.slice (some ⟨g, 0, none⟩) n c) (us.set i v') (z.set i xs) H' := by
  have hl := h.rows.len
  have hg := h.ob g rfl
  have ht : Touch [g] W (W.setCell ⟨g, i, none⟩ v') := (Touch.refl _ _).setCell (by simp) _
  have hat : (us.set i v').getD i undef = v' := by simp [List.getD, hl, hi]
  have hat2 : (z.set i xs).getD i [] = xs := by simp [List.getD, hi]
  have hset : ∀ j, j ≠ i → (us.set i v').getD j undef = us.getD j undef := fun j hj => by
    have h' : ¬ i = j := fun e => hj e.symm
    simp [List.getD, h']
  have hset2 : ∀ j, j ≠ i → (z.set i xs).getD j [] = z.getD j [] := fun j hj => by
    have h' : ¬ i = j := fun e => hj e.symm
    simp [List.getD, h']
  refine ⟨h.out.set i v', fun b hb => hH b (h.ob b hb), ⟨by simp [hl], fun j hj => ?_, fun j hj b hb => ?_, fun a j ha hj haj b hb => ?_⟩⟩
  · rw [List.length_set] at hj
    by_cases e : j = i
    · subst e
      rw [hat, hat2]
      exact hs.touch ht (fun x hx hm => by simp only [List.mem_singleton] at hm; subst hm; exact hn x hx hg)
    · rw [hset j e, hset2 j e]
      exact (h.rows.el j hj).touch ht (fun x hx hm => by simp only [List.mem_singleton] at hm; subst hm; exact (h.rows.ins j hj x hx).2 rfl)
  · rw [List.length_set] at hj
    by_cases e : j = i
    · subst e
      rw [hat] at hb
      exact ⟨hH' b hb, fun e => by simp only [Value.ownBlock, Option.some.injEq] at e; exact hn b hb (e ▸ hg)⟩
    · rw [hset j e] at hb
      exact ⟨hH b (h.rows.ins j hj b hb).1, (h.rows.ins j hj b hb).2⟩
  · rw [List.length_set] at ha hj
    by_cases e : a = i
    · subst e
      rw [hat] at hb
      rw [hset j (fun e => haj e.symm)]
      intro e2
      exact hn b hb (h.rows.ins j hj b e2).1
    · rw [hset a e] at hb
      by_cases e2 : j = i
      · subst e2
        rw [hat]
        intro e2
        exact hn b e2 (h.rows.ins a ha b hb).1
      · rw [hset j e2]
        exact h.rows.dis a j ha hj haj b hb
theorem sumL_one (z z' : List (List Int)) (i c : Nat) (h : ∀ j, (z'.getD j []).length ≤ (z.getD j []).length + (if j = i then c else 0)) : ∀ m, sumL z' m ≤ sumL z m + (if i < m then c else 0) := by
  intro m
  induction m with
  | zero => simp [sumL]
  | succ m ih =>
    simp only [sumL]
    have h1 := h m
    by_cases e : m = i
    · subst e
      rw [if_neg (Nat.lt_irrefl _)] at ih
      rw [if_pos rfl] at h1
      rw [if_pos (Nat.lt_succ_self _)]
      omega
    · rw [if_neg e] at h1
      by_cases h : i < m
      · rw [if_pos h] at ih
        rw [if_pos (by omega)]
        omega
      · rw [if_neg h] at ih
        rw [if_neg (by omega)]
        omega
theorem sumL_eq (z z' : List (List Int)) : ∀ m, (∀ j, j < m → (z'.getD j []).length = (z.getD j []).length) → sumL z' m = sumL z m := by
  intro m
  induction m with
  | zero => intro _; rfl
  | succ m ih => intro h; simp only [sumL]; rw [ih (fun j hj => h j (by omega)), h m (by omega)]
/-- Lists in the box at b, behind a change: what is to be returned. -/
structure LF (w X : World) (cb b : Nat) (C D : Option Addr) (n k n' q : Nat) : Prop where
  cur : Cur X cb
  gr : w.grownBy X (some cb)
  cw : cb < w.heap.size
  c0 : X.cell? ⟨b, 0, none⟩ = some (.slice C n k)
  c1 : X.cell? ⟨b, 1, none⟩ = some (.slice D n' q)
  d0 : X.cell? ⟨w.heap.size, 0, none⟩ = some (.slice none 0 0)
  d1 : X.cell? ⟨w.heap.size, 1, none⟩ = some (.slice none 0 0)
  g0 : X.frozen? ⟨w.heap.size, 0, none⟩ = false
  g1 : X.frozen? ⟨w.heap.size, 1, none⟩ = false
  lv : ∃ us vs z y F G, OwnV true X (.slice C n k) us z F ∧ OwnV true X (.slice D n' q) vs y G ∧ (∀ g, g ∈ F ∨ g ∈ G → w.heap.size < g) ∧ n ≤ 3 ∧ n' ≤ 10 ∧ sumL z n + sumL y n' ≤ 20
/-- What l8Any tells. -/
def LAny (w w' : World) (cb : Nat) (e : Ending) : Prop :=
  ∃ C k D q z y, e = .returned (.agg #[.slice C z.length k, .slice D y.length q]) ∧ z.length ≤ k ∧ y.length ≤ q ∧ k ≤ maxLen ∧ q ≤ maxLen ∧ z.length ≤ 3 ∧ y.length ≤ 10 ∧ sumL z z.length + sumL y y.length ≤ 20 ∧ (∀ F X, (∀ g, g ∈ F → g ≤ w.heap.size) → Touch F w' X → RdM X C z X.heap.size ∧ RdM X D y X.heap.size) ∧ Cur w' cb ∧ w.grownBy w' (some cb)
theorem LF.fin {w X : World} {cb b : Nat} {C D : Option Addr} {n k n' q : Nat} (h : LF w X cb b C D n k n' q) :
    LAny w ((X.setCell ⟨w.heap.size, 0, none⟩ (.slice C n k)).setCell ⟨w.heap.size, 1, none⟩ (.slice D n' q)) cb (.returned (.agg #[.slice C n k, .slice D n' q])) := by
  obtain ⟨X', hX'⟩ : ∃ X', X' = (X.setCell ⟨w.heap.size, 0, none⟩ (.slice C n k)).setCell ⟨w.heap.size, 1, none⟩ (.slice D n' q) := ⟨_, rfl⟩
  rw [← hX']
  have ht : Touch [w.heap.size] X X' := by rw [hX']; exact ((Touch.refl _ _).setCell (by simp) _).setCell (by simp) _
  obtain ⟨us, vs, z, y, F, G, h1, h2, h3, h4, h5, h6⟩ := h.lv
  have h1 := h1.touch ht (fun g hg hm => by simp only [List.mem_singleton] at hg; subst hg; exact Nat.lt_irrefl _ (h3 _ (.inl hm)))
  have h2 := h2.touch ht (fun g hg hm => by simp only [List.mem_singleton] at hg; subst hg; exact Nat.lt_irrefl _ (h3 _ (.inr hm)))
  obtain ⟨a1, a2, a3, a4⟩ := h1.rd
  obtain ⟨b1, b2, b3, b4⟩ := h2.rd
  subst a1 b1
  have hcw := h.cw
  exact ⟨C, k, D, q, z, y, rfl, a2, b2, a3, b3, h4, h5, h6, fun F' Y hF ht' => ⟨(h1.touch ht' (fun g hg hm => by have := h3 g (.inl hm); have := hF g hg; omega)).rd.2.2.2, (h2.touch ht' (fun g hg hm => by have := h3 g (.inr hm); have := hF g hg; omega)).rd.2.2.2⟩, h.cur.touch ht (fun g hg => by simp only [List.mem_singleton] at hg; omega), grown_touch h.gr ht (fun g hg => by simp only [List.mem_singleton] at hg; omega)⟩
theorem LL.two {w wr : World} {C D : Option Addr} {n k n' q cb b r : Nat} {z y : List (List Int)} (h : LL w wr cb b C D n k n' q z y r) :
    ∃ us vs F G, OwnV true wr (.slice C n k) us z F ∧ OwnV true wr (.slice D n' q) vs y G ∧ (∀ g, g ∈ F → g ∉ G) ∧ (∀ g, g ∈ F ∨ g ∈ G → w.heap.size < g ∧ g ≠ b ∧ g < wr.heap.size) ∧ n = 3 ∧ n' = 9 ∧ sumL z n + sumL y n' ≤ r := by
  obtain ⟨lo, hi, ⟨C', k', D', q', us, vs, F, G, e, h1, h2, h3, h4, h5⟩, hl, hd⟩ := h.lv
  simp only [Value.agg.injEq, Array.mk.injEq, List.cons.injEq, Value.slice.injEq, and_true] at e
  obtain ⟨⟨rfl, rfl, rfl⟩, rfl, rfl, rfl⟩ := e
  refine ⟨us, vs, F, G, h1, h2, h3, fun g hg => ?_, h.lz, h.ly, h.sz⟩
  have := h4 g (List.mem_append.2 hg)
  omega
/-- The builder: what a change that touches only blocks made behind the result's box keeps. -/
theorem LL.build {w wr X : World} {C D C' D' : Option Addr} {n k n' q cb b r m k' m' q' : Nat} {z y : List (List Int)} (h : LL w wr cb b C D n k n' q z y r) {F : List Nat} (ht : Touch F wr X) (hF : ∀ g, g ∈ F → w.heap.size < g)
    (c0 : X.cell? ⟨b, 0, none⟩ = some (.slice C' m k')) (c1 : X.cell? ⟨b, 1, none⟩ = some (.slice D' m' q'))
    (hv : ∃ us vs z y F G, OwnV true X (.slice C' m k') us z F ∧ OwnV true X (.slice D' m' q') vs y G ∧ (∀ g, g ∈ F ∨ g ∈ G → w.heap.size < g) ∧ m ≤ 3 ∧ m' ≤ 10 ∧ sumL z m + sumL y m' ≤ 20) : LF w X cb b C' D' m k' m' q' := by
  have hcw := h.cw
  have hb := h.hb
  have hlt := h.lt
  have hW := ht.block w.heap.size (by omega) (fun hm => by have := hF _ hm; omega)
  exact ⟨h.cur.touch ht (fun g hg => by have := hF g hg; omega), grown_touch h.gr ht (fun g hg => Nat.le_of_lt (hF g hg)), hcw, c0, c1, (World.cell?_of_block hW).trans h.d0, (World.cell?_of_block hW).trans h.d1, (World.frozen?_of_block hW).trans h.g0, (World.frozen?_of_block hW).trans h.g1, hv⟩
theorem LL.same {w wr : World} {C D : Option Addr} {n k n' q cb b r : Nat} {z y : List (List Int)} (h : LL w wr cb b C D n k n' q z y r) (hr : r ≤ 13) : LF w wr cb b C D n k n' q := by
  obtain ⟨us, vs, F, G, h1, h2, h3, h4, h5, h6, h7⟩ := h.two
  exact h.build (Touch.refl [] _) (by simp) h.c0 h.c1 ⟨us, vs, z, y, F, G, h1, h2, fun g hg => by have := h4 g hg; omega, by omega, by omega, by omega⟩
theorem LL.cut {w wr : World} {C D : Option Addr} {n k n' q cb b r : Nat} {z y : List (List Int)} (h : LL w wr cb b C D n k n' q z y r) (hr : r ≤ 13) : LF w (wr.setCell ⟨b, 0, none⟩ (.slice C 2 k)) cb b C D 2 k n' q := by
  obtain ⟨us, vs, F, G, h1, h2, h3, h4, h5, h6, h7⟩ := h.two
  have ht : Touch [b] wr (wr.setCell ⟨b, 0, none⟩ (.slice C 2 k)) := (Touch.refl _ _).setCell (by simp) _
  have x0 := h.c0
  have x1 := h.c1
  refine h.build ht (fun g hg => by simp only [List.mem_singleton] at hg; have := h.hb; omega) (by go_simp) (by go_simp) ⟨_, vs, _, y, F, G, (h1.take (m := 2) (by omega)).touch ht (fun g hg hm => by simp only [List.mem_singleton] at hg; exact (h4 g (.inl hm)).2.1 hg), h2.touch ht (fun g hg hm => by simp only [List.mem_singleton] at hg; exact (h4 g (.inr hm)).2.1 hg), fun g hg => by have := h4 g hg; omega, by omega, by omega, ?_⟩
  have e := sumL_eq z (z.take 2) 2 (fun j hj => by rw [getD_take _ _ _ _ hj])
  have e2 := sumL_le z (i := 2) (j := n) (by omega)
  omega
theorem LL.ne {w wr : World} {C D : Option Addr} {n k n' q cb b r : Nat} {z y : List (List Int)} (h : LL w wr cb b C D n k n' q z y r) {g : Nat} (hg : w.heap.size < g) : g ≠ cb := by have := h.cw; omega
theorem LL.push {w wr : World} {C D : Option Addr} {n k n' q cb b r : Nat} {z y : List (List Int)} (h : LL w wr cb b C D n k n' q z y r) (hr : r ≤ 13) :
    ∃ vs : List Value, vs.length = n' ∧ wr.ownsRow 0 37 1 (.slice D n' q) n' vs ∧ ∀ (W w4 : World) (v' : Value), Below wr.heap.size wr W → w4.ownsRow 0 37 1 v' (n' + 1) (vs ++ [.slice none 0 0]) → W.grownBy w4 (Value.slice D n' q).ownBlock →
      (v'.ownBlock = (Value.slice D n' q).ownBlock ∨ v'.ownBlock = some W.heap.size) →
      ∃ D' q', v' = .slice D' (n' + 1) q' ∧ w4.cell? ⟨b, 0, none⟩ = some (.slice C n k) ∧ w4.cell? ⟨b, 1, none⟩ = some (.slice D n' q) ∧ w4.frozen? ⟨b, 0, none⟩ = false ∧ w4.frozen? ⟨b, 1, none⟩ = false ∧
        w4.cell? ⟨w.heap.size, 0, none⟩ = some (.slice none 0 0) ∧ LF w (w4.setCell ⟨b, 1, none⟩ (.slice D' (n' + 1) q')) cb b C D' n k (n' + 1) q' := by
  obtain ⟨us, vs, F, G, h1, h2, h3, h4, h5, h6, h7⟩ := h.two
  have hvl : vs.length = n' := h2.rows.len.trans (h.ly.trans h6.symm)
  have hrow := h2.out.row (lo := 0) (fun _ _ => Nat.zero_le _)
  rw [hvl] at hrow
  refine ⟨vs, hvl, hrow, fun W w4 v' hW hown hgr hv => ?_⟩
  obtain ⟨D', q', ev, _, _⟩ := (Sr.of_row hown).shape
  rw [List.length_append, List.length_cons, List.length_nil, hvl] at ev
  subst ev
  have hb := h.hb
  have hlt := h.lt
  have hcw := h.cw
  have s1 := hW.size
  have s2 := hgr.size
  have hDn : ∀ g, (Value.slice D n' q).ownBlock = some g → w.heap.size < g ∧ g ≠ b ∧ g < wr.heap.size := fun g hg => h4 g (.inr (h2.ob g hg))
  have hkb : w4.heap[b]? = wr.heap[b]? := (hgr.block b (by omega) (fun e => (hDn b e.symm).2.1 rfl)).trans (hW.block b hlt)
  have hT : Touch [b] w4 (w4.setCell ⟨b, 1, none⟩ (.slice D' (n' + 1) q')) := (Touch.refl _ _).setCell (by simp) _
  have ht : Touch (b :: G) wr (w4.setCell ⟨b, 1, none⟩ (.slice D' (n' + 1) q')) :=
    ((Touch.of_below hW).trans (touch_grown hgr (fun g hg => List.mem_cons_of_mem _ (h2.ob g hg)))).trans (hT.mono (fun g hg => by simp only [List.mem_singleton] at hg; subst hg; exact List.mem_cons_self))
  have x0 := (World.cell?_of_block hkb).trans h.c0
  have x1 := (World.cell?_of_block hkb).trans h.c1
  have x2 := (World.frozen?_of_block hkb).trans h.f0
  have x3 := (World.frozen?_of_block hkb).trans h.f1
  have hkw : w4.heap[w.heap.size]? = wr.heap[w.heap.size]? := (hgr.block _ (by omega) (fun e => by have := (hDn _ e.symm).1; omega)).trans (hW.block _ (by omega))
  refine ⟨D', q', rfl, x0, x1, x2, x3, (World.cell?_of_block hkw).trans h.d0, h.build ht (fun g hg => ?_) (by go_simp) (by go_simp) ?_⟩
  · rcases List.mem_cons.1 hg with e | hg
    · omega
    · exact (h4 g (.inr hg)).1
  · have h2' := (h2.below hW).push (by rw [hvl]; exact hown) hgr hv
    have h1' : OwnV true w4 (.slice C n k) us z F := (h1.below hW).keep fun g hg hgl => hgr.block g hgl (fun e => h3 g hg (h2.ob g e.symm))
    refine ⟨us, _, z, _, F, _, h1'.touch hT (fun g hg hm => by simp only [List.mem_singleton] at hg; exact (h4 g (.inl hm)).2.1 hg), h2'.touch hT (fun g hg hm => ?_), fun g hg => ?_, by omega, by omega, ?_⟩
    · simp only [List.mem_singleton] at hg
      rcases List.mem_cons.1 hm with e | hm
      · omega
      · exact (h4 g (.inr hm)).2.1 hg
    · rcases hg with hg | hg
      · have := h4 g (.inl hg); omega
      · rcases List.mem_cons.1 hg with e | hg
        · omega
        · have := h4 g (.inr hg); omega
    · have hyl : y.length = n' := h.ly.trans h6.symm
      have e : sumL (y ++ [[]]) (n' + 1) = sumL y n' := by
        simp only [sumL]
        rw [sumL_eq y (y ++ [[]]) n' (fun j hj => by rw [getD_app _ _ _ _ (by omega)]), ← hyl, getD_end]
        rfl
      omega
theorem LL.put {w wr : World} {C D : Option Addr} {n k n' q cb b r i : Nat} {z y : List (List Int)} (h : LL w wr cb b C D n k n' q z y r) (hr : r ≤ 13) (hi : i < 9) :
    ∃ g u, D = some ⟨g, 0, none⟩ ∧ w.heap.size < g ∧ g < wr.heap.size ∧ g ≠ b ∧ wr.cell? ⟨g, i, none⟩ = some u ∧ wr.frozen? ⟨g, i, none⟩ = false ∧
      ∀ (W : World) (x : Nat), RL cb wr W → Sr true 3 W (.slice (some ⟨x, 0, none⟩) 3 3) (ints [1, 2, 3]) → wr.heap.size ≤ x → LF w (W.setCell ⟨g, i, none⟩ (.slice (some ⟨x, 0, none⟩) 3 3)) cb b C D n k n' q := by
  obtain ⟨us, vs, F, G, h1, h2, h3, h4, h5, h6, h7⟩ := h.two
  have hy := h.ly
  obtain ⟨g, A2, n2, c2, rfl, q1, q3, he, q4, q5, q6, q7, q8, q9⟩ := h2.cell (j := i) (by omega)
  have hg := h4 g (.inr q1)
  refine ⟨g, _, rfl, hg.1, q3, hg.2.1, q4, q5, fun W x hR hs hx => ?_⟩
  have hcw := h.cw
  have hb := h.hb
  have hlt := h.lt
  have hk : ∀ a, w.heap.size < a → a < wr.heap.size → W.heap[a]? = wr.heap[a]? := fun a h8 h9 => hR.2.block a h9 (by simp only [ne_eq, Option.some.injEq]; omega)
  have hT : Touch [g] W (W.setCell ⟨g, i, none⟩ (.slice (some ⟨x, 0, none⟩) 3 3)) := (Touch.refl _ _).setCell (by simp) _
  have h1' : OwnV true W (.slice C n k) us z F := h1.keep fun a ha hal => hk a (h4 a (.inl ha)).1 hal
  have h2' : OwnV true W (.slice (some ⟨g, 0, none⟩) n' q) vs y G := h2.keep fun a ha hal => hk a (h4 a (.inr ha)).1 hal
  have h2p := h2'.put (H' := x :: G) (i := i) (by omega) hs (fun a ha hm => by simp only [Value.ownBlock, Option.some.injEq] at ha; subst ha; have := (h4 _ (.inr hm)).2.2; omega) (fun a ha => List.mem_cons_of_mem _ ha) (fun a ha => by simp only [Value.ownBlock, Option.some.injEq] at ha; subst ha; exact List.mem_cons_self)
  have hkb := hk b hb hlt
  have x0 := (World.cell?_of_block hkb).trans h.c0
  have x1 := (World.cell?_of_block hkb).trans h.c1
  have hW := hR.2.block w.heap.size (by omega) (by simp only [ne_eq, Option.some.injEq]; omega)
  have y0 := (World.cell?_of_block hW).trans h.d0
  have y1 := (World.cell?_of_block hW).trans h.d1
  have y2 := (World.frozen?_of_block hW).trans h.g0
  have y3 := (World.frozen?_of_block hW).trans h.g1
  have n1 : g ≠ b := hg.2.1
  have n2 : g ≠ w.heap.size := by omega
  have hX := hT.block w.heap.size (Nat.lt_of_lt_of_le (by omega) hR.2.size) (by simp only [List.mem_singleton]; omega)
  have hXb := hT.block b (Nat.lt_of_lt_of_le hlt hR.2.size) (by simp only [List.mem_singleton]; omega)
  refine ⟨hR.1.touch hT (fun a ha => by simp only [List.mem_singleton] at ha; omega), grown_touch (grown_trans h.gr hR.2) hT (fun a ha => by simp only [List.mem_singleton] at ha; omega), hcw, (World.cell?_of_block hXb).trans x0, (World.cell?_of_block hXb).trans x1,
    (World.cell?_of_block hX).trans y0, (World.cell?_of_block hX).trans y1, (World.frozen?_of_block hX).trans y2, (World.frozen?_of_block hX).trans y3, us, _, z, _, F, _, h1'.touch hT (fun a ha hm => by simp only [List.mem_singleton] at ha; subst ha; exact h3 _ hm q1), h2p, fun a ha => ?_, by omega, by omega, ?_⟩
  · rcases ha with ha | ha
    · have := h4 a (.inl ha); omega
    · rcases List.mem_cons.1 ha with e | ha
      · omega
      · have := h4 a (.inr ha); omega
  · have e := sumL_one y (y.set i [1, 2, 3]) i 3 (fun j => ?_) n'
    · split at e <;> omega
    · by_cases e : j = i
      · subst e
        rw [if_pos rfl]
        have : (y.set j [1, 2, 3]).getD j [] = [1, 2, 3] := by simp [List.getD, show j < y.length by omega]
        rw [this]; simp
      · rw [if_neg e]
        have h' : ¬ i = j := fun e2 => e e2.symm
        simp [List.getD, h']
theorem LL.app {w wr : World} {C D : Option Addr} {n k n' q cb b r i : Nat} {z y : List (List Int)} (h : LL w wr cb b C D n k n' q z y r) (hr : r ≤ 13) (hi : i < 3) :
    ∃ g A2 n2 c2 xs, C = some ⟨g, 0, none⟩ ∧ w.heap.size < g ∧ g < wr.heap.size ∧ g ≠ b ∧ wr.cell? ⟨g, i, none⟩ = some (.slice A2 n2 c2) ∧ wr.frozen? ⟨g, i, none⟩ = false ∧ n2 ≤ 13 ∧ n2 ≤ c2 ∧ (∀ W, RL cb wr W → W.ownsRow 0 3 1 (.slice A2 n2 c2) n2 (ints xs)) ∧ xs.length = n2 ∧
      (∀ a, (Value.slice A2 n2 c2).ownBlock = some a → w.heap.size < a ∧ a < wr.heap.size ∧ a ≠ b ∧ a ≠ g) ∧
      ∀ (W W2 w4 : World) (v' : Value) (s : Int), RL cb wr W → Below W.heap.size W W2 → w4.ownsRow 0 3 1 v' (n2 + 1) (ints xs ++ [.int .i64 s]) → W2.grownBy w4 (Value.slice A2 n2 c2).ownBlock → (v'.ownBlock = (Value.slice A2 n2 c2).ownBlock ∨ v'.ownBlock = some W2.heap.size) →
        LF w (w4.setCell ⟨g, i, none⟩ v') cb b C D n k n' q := by
  obtain ⟨us, vs, F, G, h1, h2, h3, h4, h5, h6, h7⟩ := h.two
  have hz := h.lz
  obtain ⟨g, A2, n2, c2, rfl, q1, q3, he, q4, q5, q6, q7, q8, q9⟩ := h1.cell (j := i) (by omega)
  have hg := h4 g (.inl q1)
  have hblk : ∀ a, (Value.slice A2 n2 c2).ownBlock = some a → a ∈ F ∧ a ≠ g := fun a ha => by
    rw [← he] at ha
    have h6 := h1.rows.ins i (by omega) a ha
    exact ⟨h6.1, fun e => h6.2 (by rw [e]; rfl)⟩
  have hk : ∀ W, RL cb wr W → ∀ a, w.heap.size < a → a < wr.heap.size → W.heap[a]? = wr.heap[a]? := fun W hR a h8 h9 => hR.2.block a h9 (by have := h.cw; simp only [ne_eq, Option.some.injEq]; omega)
  have hn2 : n2 ≤ 13 := by
    have := len_le z n i (by omega)
    omega
  refine ⟨g, A2, n2, c2, z.getD i [], rfl, hg.1, q3, hg.2.1, q4, q5, hn2, q7, fun W hR => ?_, q6.symm, fun a ha => ?_, fun W W2 w4 v' s hR hB hown hgr hv => ?_⟩
  · have h8 : Sr true 3 W (us.getD i undef) (ints (z.getD i [])) := (h1.rows.el i (by omega)).keep fun a ha => by
      have h9 := h4 a (.inl (hblk a (by rw [← he]; exact ha)).1)
      exact hk W hR a h9.1 h9.2.2
    have hrow := h8.row (lo := 0) (fun _ _ => Nat.zero_le _)
    rw [he, ints_length, ← q6] at hrow
    exact hrow
  · have h9 := h4 a (.inl (hblk a ha).1)
    exact ⟨h9.1, h9.2.2, h9.2.1, (hblk a ha).2⟩
  · have hcw := h.cw
    have hb := h.hb
    have hlt := h.lt
    have sR := hR.2.size
    have sB := hB.size
    have sG := hgr.size
    have hlt4 := hown.lt
    have h1' : OwnV true W (.slice (some ⟨g, 0, none⟩) n k) us z F := h1.keep fun a ha hal => hk W hR a (h4 a (.inl ha)).1 hal
    have h2' : OwnV true W (.slice D n' q) vs y G := h2.keep fun a ha hal => hk W hR a (h4 a (.inr ha)).1 hal
    have hT : Touch [g] w4 (w4.setCell ⟨g, i, none⟩ v') := (Touch.refl _ _).setCell (by simp) _
    have ht4 : Touch F W w4 := (Touch.of_below hB).trans (touch_grown hgr (fun a ha => (hblk a ha).1))
    have ht : Touch F W (w4.setCell ⟨g, i, none⟩ v') := ht4.trans (hT.mono (fun a ha => by simp only [List.mem_singleton] at ha; subst ha; exact q1))
    rw [q6] at hown
    rw [← he] at hgr hv
    have hH' : ∀ a, v'.ownBlock = some a → a ∈ W2.heap.size :: F := fun a ha => by
      rcases hv with hv | hv
      · exact List.mem_cons_of_mem _ (hblk a (by rw [← he, ← hv]; exact ha)).1
      · rw [hv] at ha; simp only [Option.some.injEq] at ha; rw [← ha]; exact List.mem_cons_self
    have hnew := h1'.app (H' := W2.heap.size :: F) (i := i) (by omega) hB hown hgr hv (fun a ha => List.mem_cons_of_mem _ ha) hH'
    have hW := ht.block w.heap.size (by omega) (fun hm => by have := h4 _ (.inl hm); omega)
    have hXb := ht.block b (by omega) (fun hm => by have := h4 _ (.inl hm); omega)
    have hWR := hR.2.block w.heap.size (by omega) (by simp only [ne_eq, Option.some.injEq]; omega)
    have hbR := hR.2.block b (by omega) (by simp only [ne_eq, Option.some.injEq]; omega)
    have eW := hW.trans hWR
    have eb := hXb.trans hbR
    refine ⟨hR.1.touch ht (fun a ha => by have := h4 a (.inl ha); omega), grown_touch (grown_trans h.gr hR.2) ht (fun a ha => by have := h4 a (.inl ha); omega), hcw, (World.cell?_of_block eb).trans h.c0, (World.cell?_of_block eb).trans h.c1,
      (World.cell?_of_block eW).trans h.d0, (World.cell?_of_block eW).trans h.d1, (World.frozen?_of_block eW).trans h.g0, (World.frozen?_of_block eW).trans h.g1, _, vs, _, y, _, G, hnew, h2'.touch ht (fun a ha hm => h3 a ha hm), fun a ha => ?_, by omega, by omega, ?_⟩
    · rcases ha with ha | ha
      · rcases List.mem_cons.1 ha with e | ha
        · omega
        · have := h4 a (.inl ha); omega
      · have := h4 a (.inr ha); omega
    · have e := sumL_addZ z i s n
      split at e <;> omega
/-- The same, with all that the step needs and leaves. -/
theorem LL.app2 {w wr : World} {C D : Option Addr} {n k n' q cb b r i : Nat} {z y : List (List Int)} (h : LL w wr cb b C D n k n' q z y r) (hr : r ≤ 13) (hi : i < 3) :
    ∃ g A2 n2 c2 xs, C = some ⟨g, 0, none⟩ ∧ g < wr.heap.size ∧ wr.cell? ⟨g, i, none⟩ = some (.slice A2 n2 c2) ∧ n2 ≤ 13 ∧
      (∀ W s, RL cb wr W → (W.alloc (.cells #[.int .i64 s] 3)).ownsRow 0 3 1 (.slice A2 n2 c2) n2 (ints xs)) ∧
      (∀ W, RL cb wr W → W.cell? ⟨g, i, none⟩ = some (.slice A2 n2 c2) ∧ g < W.heap.size ∧ W.cell? ⟨b, 0, none⟩ = some (.slice C n k) ∧ W.cell? ⟨b, 1, none⟩ = some (.slice D n' q) ∧ b < W.heap.size) ∧
      ∀ (W w4 : World) (v' : Value) (s : Int), RL cb wr W → w4.ownsRow 0 3 1 v' (n2 + 1) (ints xs ++ [.int .i64 s]) → (W.alloc (.cells #[.int .i64 s] 3)).grownBy w4 (Value.slice A2 n2 c2).ownBlock → (v'.ownBlock = (Value.slice A2 n2 c2).ownBlock ∨ v'.ownBlock = some (W.alloc (.cells #[.int .i64 s] 3)).heap.size) →
        ∃ E' kd, v' = .slice E' (n2 + 1) kd ∧ w4.cell? ⟨g, i, none⟩ = some (.slice A2 n2 c2) ∧ w4.frozen? ⟨g, i, none⟩ = false ∧ w4.cell? ⟨b, 0, none⟩ = some (.slice C n k) ∧ w4.cell? ⟨b, 1, none⟩ = some (.slice D n' q) ∧ Hid (LF w (w4.setCell ⟨g, i, none⟩ (.slice E' (n2 + 1) kd)) cb b C D n k n' q) := by
  obtain ⟨g, A2, n2, c2, xs, rfl, p1, p2, p3, p4, p5, p6, p7, p8, p9, p10, p11⟩ := h.app hr hi
  have hcw := h.cw
  have hb := h.hb
  have hlt := h.lt
  have hk : ∀ W, RL cb wr W → ∀ a, w.heap.size < a → a < wr.heap.size → W.heap[a]? = wr.heap[a]? := fun W hR a h8 h9 => hR.2.block a h9 (by simp only [ne_eq, Option.some.injEq]; omega)
  refine ⟨g, A2, n2, c2, xs, rfl, p2, p4, p6, fun W s hR => (p8 W hR).alloc _, fun W hR => ?_, fun W w4 v' s hR hown hgr hv => ?_⟩
  · have h1 := hk W hR g p1 p2
    have h2 := hk W hR b hb hlt
    exact ⟨(World.cell?_of_block h1).trans p4, Nat.lt_of_lt_of_le p2 hR.2.size, (World.cell?_of_block h2).trans h.c0, (World.cell?_of_block h2).trans h.c1, Nat.lt_of_lt_of_le hlt hR.2.size⟩
  · obtain ⟨E', kd, ev, -, -⟩ := (Sr.of_row hown).shape
    have ev2 : v' = .slice E' (n2 + 1) kd := by rw [ev]; simp [ints_length, p9]
    clear ev
    subst ev2
    have hbl : Below W.heap.size W (W.alloc (.cells #[.int .i64 s] 3)) := (Below.refl _ _).alloc (Nat.le_refl _) _
    have hF := p11 W _ w4 _ s hR hbl hown hgr hv
    have sR := hR.2.size
    have sB := hbl.size
    have k4 : ∀ a, w.heap.size < a → a < wr.heap.size → (Value.slice A2 n2 c2).ownBlock ≠ some a → w4.heap[a]? = wr.heap[a]? := fun a h8 h9 h10 =>
      (hgr.block a (by omega) (Ne.symm h10)).trans ((hbl.block a (by omega)).trans (hk W hR a h8 h9))
    have h1 := k4 g p1 p2 (fun e => (p10 _ e).2.2.2 rfl)
    have h2 := k4 b hb hlt (fun e => (p10 _ e).2.2.1 rfl)
    exact ⟨E', kd, rfl, (World.cell?_of_block h1).trans p4, (World.frozen?_of_block h1).trans p5, (World.cell?_of_block h2).trans h.c0, (World.cell?_of_block h2).trans h.c1, hide hF⟩
theorem rd1 (W : World) (s : Int) : RdV (W.alloc (.cells #[.int .i64 s] 3)) (some ⟨W.heap.size, 0, none⟩) [.int .i64 s] (W.heap.size + 1) := rdV_one (by go_simp)
theorem LL.start2 {w w1 w2 w3 : World} {C D : Option Addr} {n k n' q cb : Nat} {z y : List (List Int)} {t : TypeId} (h1 : w1 = w.alloc (.cells #[.slice none 0 0, .slice none 0 0] t)) (hv : LV true w2 (.agg #[.slice C n k, .slice D n' q]) z y w1.heap.size w2.heap.size) (hc2 : Cur w2 cb) (hg : w1.grownBy w2 (some cb))
    (h3 : w3 = w2.alloc (.cells #[.slice C n k, .slice D n' q] t)) (hc : Cur w cb) (hz : z.length = 3) (hy : y.length = 9) (hr : tot z y ≤ 13) : LL w w3 cb w2.heap.size C D n k n' q z y 13 := by
  have hl := hc.lt
  have s1 : w1.heap.size = w.heap.size + 1 := by rw [h1]; simp
  have s2 := hg.size
  have s3 : w3.heap.size = w2.heap.size + 1 := by rw [h3]; simp
  have hb01 : Below w.heap.size w w1 := by rw [h1]; exact (Below.refl _ _).alloc (Nat.le_refl _) _
  have hb23 : Below w2.heap.size w2 w3 := by rw [h3]; exact (Below.refl _ _).alloc (Nat.le_refl _) _
  have hg13 := grown_trans hg (grown_below hb23 (some cb))
  have a0 : w1.cell? ⟨w.heap.size, 0, none⟩ = some (.slice none 0 0) := by rw [h1]; go_simp
  have a1 : w1.cell? ⟨w.heap.size, 1, none⟩ = some (.slice none 0 0) := by rw [h1]; go_simp
  have a2 : w1.frozen? ⟨w.heap.size, 0, none⟩ = false := by rw [h1]; go_simp
  have a3 : w1.frozen? ⟨w.heap.size, 1, none⟩ = false := by rw [h1]; go_simp
  have b0 : w3.cell? ⟨w2.heap.size, 0, none⟩ = some (.slice C n k) := by rw [h3]; go_simp
  have b1 : w3.cell? ⟨w2.heap.size, 1, none⟩ = some (.slice D n' q) := by rw [h3]; go_simp
  have b2 : w3.frozen? ⟨w2.heap.size, 0, none⟩ = false := by rw [h3]; go_simp
  have b3 : w3.frozen? ⟨w2.heap.size, 1, none⟩ = false := by rw [h3]; go_simp
  have hW := hg13.block w.heap.size (by omega) (by simp only [ne_eq, Option.some.injEq]; omega)
  have hg03 := grown_trans (grown_below hb01 (some cb)) hg13
  exact ⟨hc2.below hb23 (by omega), hg03, hl, by omega, by omega, b0, b1, b2, b3, (World.cell?_of_block hW).trans a0, (World.cell?_of_block hW).trans a1, (World.frozen?_of_block hW).trans a2, (World.frozen?_of_block hW).trans a3,
    ⟨_, _, hv.below hb23, by omega, .inl (Nat.le_refl _)⟩, hz, hy, hr⟩
end Go.Proofs.Ytdhocncfpapncab
