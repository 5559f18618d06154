/-
  Draws of heaps: what is held between the steps. Plain.
-/
import Derived.Test.YtdhocncfpapncacDrawS
import Derived.Test.YtdhocncfpapncacHeapNew
import Derived.Test.YtdhocncfpapncacGrantS
namespace Go.Proofs.Ytdhocncfpapncac
open Go.RowKit
set_option linter.unusedVariables false

/-- A heap whose two rows stand in own blocks between lo and hi. -/
def HV (w : World) (v : Value) (lo hi : Nat) : Prop :=
  ∃ B d F B' d' F' x y, v = .agg #[.slice B 384 d, .slice B' 6 d'] ∧ Own 3 w (.slice B 384 d) (ints x) F ∧ Own 3 w (.slice B' 6 d') (ints y) F' ∧ (∀ g, g ∈ F → g ∉ F') ∧ (∀ g, g ∈ F ++ F' → lo ≤ g ∧ g < hi) ∧ hi ≤ w.heap.size
theorem HV.of_copy {w w' : World} {x y : List Int} {B : Option Addr} {d : Nat} {F : List Nat} {B' : Option Addr} {d' : Nat} {F' : List Nat} (h : CopyH w w' 384 6 x y B d F B' d' F') : HV w' (.agg #[.slice B 384 d, .slice B' 6 d']) w.heap.size w'.heap.size :=
  ⟨B, d, F, B', d', F', x, y, rfl, h.1, h.2.1, h.2.2.2.1, fun g hg => ⟨h.2.2.1 g hg, (List.mem_append.1 hg).elim (h.1.lt g) (h.2.1.lt g)⟩, Nat.le_refl _⟩
theorem touch_grown {F : List Nat} {W W' : World} {row : Option Nat} (h : W.grownBy W' row) (hr : ∀ g, row = some g → g ∈ F) : Touch F W W' :=
  ⟨h.os, h.tape, h.output, h.size, fun k hk hn => h.block k hk (fun e => hn (hr k e.symm))⟩
theorem HV.touch {w w' : World} {v : Value} {lo hi : Nat} {G : List Nat} (h : HV w v lo hi) (ht : Touch G w w') (hG : ∀ g, g ∈ G → g < lo ∨ hi ≤ g) : HV w' v lo hi := by
  obtain ⟨B, d, F, B', d', F', x, y, e, h1, h2, h3, h4, h5⟩ := h
  exact ⟨B, d, F, B', d', F', x, y, e, h1.touch ht (fun g hg hm => by have := hG g hm; have := h4 g (List.mem_append_left _ hg); omega), h2.touch ht (fun g hg hm => by have := hG g hm; have := h4 g (List.mem_append_right _ hg); omega), h3, h4, Nat.le_trans h5 ht.size⟩
theorem HV.below {w w' : World} {v : Value} {lo hi : Nat} (h : HV w v lo hi) (hb : Below w.heap.size w w') : HV w' v lo hi := h.touch (Touch.of_below (F := []) hb) (by simp)
theorem HV.grown {w w' : World} {v : Value} {lo hi cb : Nat} (h : HV w v lo hi) (hg : w.grownBy w' (some cb)) (hc : cb < lo ∨ hi ≤ cb) : HV w' v lo hi :=
  h.touch (touch_grown (F := [cb]) hg (fun g hg => by simp only [Option.some.injEq] at hg; simp [hg])) (fun g hg => by simp only [List.mem_singleton] at hg; omega)
theorem HV.hi {w : World} {v : Value} {lo hi : Nat} (h : HV w v lo hi) : hi ≤ w.heap.size := by
  obtain ⟨B, d, F, B', d', F', x, y, e, h1, h2, h3, h4, h5⟩ := h
  exact h5
theorem HV.shp {w : World} {v : Value} {lo hi : Nat} (h : HV w v lo hi) : ∃ B d B' d', v = .agg #[.slice B 384 d, .slice B' 6 d'] := by
  obtain ⟨B, d, F, B', d', F', x, y, e, _⟩ := h
  exact ⟨B, d, B', d', e⟩
theorem HV.more {w : World} {v : Value} {lo hi lo' hi' : Nat} (h : HV w v lo hi) (h1 : lo' ≤ lo) (h2 : hi ≤ hi') (h3 : hi' ≤ w.heap.size) : HV w v lo' hi' := by
  obtain ⟨B, d, F, B', d', F', x, y, e, a1, a2, a3, a4, a5⟩ := h
  exact ⟨B, d, F, B', d', F', x, y, e, a1, a2, a3, fun g hg => by have := a4 g hg; omega, h3⟩
theorem HV.open {w : World} {B B' : Option Addr} {d d' lo hi : Nat} (h : HV w (.agg #[.slice B 384 d, .slice B' 6 d']) lo hi) : ∃ F F' x y, Own 3 w (.slice B 384 d) (ints x) F ∧ Own 3 w (.slice B' 6 d') (ints y) F' ∧ (∀ g, g ∈ F → g ∉ F') ∧ (∀ g, g ∈ F ++ F' → lo ≤ g ∧ g < hi) := by
  obtain ⟨B2, d2, F, B2', d2', F', x, y, e, a1, a2, a3, a4, a5⟩ := h
  simp only [Value.agg.injEq, Array.mk.injEq, List.cons.injEq, Value.slice.injEq, and_true, true_and] at e
  obtain ⟨⟨rfl, rfl⟩, rfl, rfl⟩ := e
  exact ⟨F, F', x, y, a1, a2, a3, a4⟩
/-- A row of at most four numbers in an own block above lo. -/
def SL (w : World) (S : Option Addr) (n cs lo : Nat) : Prop := ∃ sl G, n = sl.length ∧ n ≤ 4 ∧ Own 3 w (.slice S n cs) (ints sl) G ∧ ∀ g, g ∈ G → lo ≤ g
theorem SL.touch {w w' : World} {S : Option Addr} {n cs lo : Nat} {G : List Nat} (h : SL w S n cs lo) (ht : Touch G w w') (hG : ∀ g, g ∈ G → g < lo ∨ w.heap.size ≤ g) : SL w' S n cs lo := by
  obtain ⟨sl, F, h1, h2, h3, h4⟩ := h
  exact ⟨sl, F, h1, h2, h3.touch ht (fun g hg hm => by have := hG g hm; have := h4 g hg; have := h3.lt g hg; omega), h4⟩
theorem SL.below {w w' : World} {S : Option Addr} {n cs lo : Nat} (h : SL w S n cs lo) (hb : Below w.heap.size w w') : SL w' S n cs lo := h.touch (Touch.of_below (F := []) hb) (by simp)
theorem SL.less {w : World} {S : Option Addr} {n cs lo lo' : Nat} (h : SL w S n cs lo) (hl : lo' ≤ lo) : SL w S n cs lo' := by
  obtain ⟨sl, F, h1, h2, h3, h4⟩ := h
  exact ⟨sl, F, h1, h2, h3, fun g hg => Nat.le_trans hl (h4 g hg)⟩
theorem SL.at {w : World} {S : Option Addr} {n cs lo : Nat} (h : SL w S n cs lo) {j : Nat} (hj : j < n) : ∃ g x, S = some ⟨g, 0, none⟩ ∧ lo ≤ g ∧ g < w.heap.size ∧ w.cell? ⟨g, j, none⟩ = some (.int .i64 x) := by
  obtain ⟨sl, F, h1, h2, h3, h4⟩ := h
  obtain ⟨g, rfl, rfl⟩ := own_at h3 (by omega)
  exact ⟨g, _, rfl, h4 g (by simp), h3.lt g (by simp), (own_cell h3 j (by omega)).1⟩
/-- What l7Heap holds between its steps: the cursor, the heap in the box at b, the result's box. -/
structure GL (w wr : World) (cb b : Nat) (C D : Option Addr) (k q : Nat) : Prop where
  cur : Cur wr cb
  gr : w.grownBy wr (some cb)
  cw : cb < w.heap.size
  hb : w.heap.size < b
  lt : b < wr.heap.size
  c0 : wr.cell? ⟨b, 0, none⟩ = some (.slice C 384 k)
  c1 : wr.cell? ⟨b, 1, none⟩ = some (.slice D 6 q)
  f0 : wr.frozen? ⟨b, 0, none⟩ = false
  f1 : wr.frozen? ⟨b, 1, none⟩ = false
  d0 : wr.cell? ⟨w.heap.size, 0, none⟩ = some (.slice none 0 0)
  d1 : wr.cell? ⟨w.heap.size, 1, none⟩ = some (.slice none 0 0)
  g0 : wr.frozen? ⟨w.heap.size, 0, none⟩ = false
  g1 : wr.frozen? ⟨w.heap.size, 1, none⟩ = false
  lv : ∃ lo hi, HV wr (.agg #[.slice C 384 k, .slice D 6 q]) lo hi ∧ w.heap.size < lo ∧ (hi ≤ b ∨ b < lo)
def RL (cb : Nat) (wK W : World) : Prop := Cur W cb ∧ wK.grownBy W (some cb)
theorem RL.of_below {cb : Nat} {wK W W' : World} (h : RL cb wK W) (hb : Below W.heap.size W W') : RL cb wK W' := ⟨h.1.below hb h.1.lt, grown_trans h.2 (grown_below hb _)⟩
theorem RL.draw {cb : Nat} {wK W W' : World} (h : RL cb wK W) (hc : Cur W' cb) (hg : W.grownBy W' (some cb)) : RL cb wK W' := ⟨hc, grown_trans h.2 hg⟩
theorem RL.set {cb : Nat} {wK W : World} (h : RL cb wK W) {p : Addr} (hp : wK.heap.size ≤ p.block) (hc : cb < wK.heap.size) (u : Value) : RL cb wK (W.setCell p u) := by
  refine ⟨?_, ⟨h.2.os, h.2.tape, h.2.output, by simpa [World.setCell] using h.2.size, fun i hi hn => (Below.heap_setCell _ _ _ _ (by omega)).trans (h.2.block i hi hn)⟩⟩
  have ht : Touch [p.block] W (W.setCell p u) := (Touch.refl _ _).setCell (by simp) _
  obtain ⟨A, n, c, zs, i, x, hh, h1, h2, h3, h4⟩ := h.1
  have hl := h.1.lt
  exact ⟨A, n, c, zs, i, x, (ht.block cb hl (by simp; omega)).trans hh, h1, h2, h3, h4.touch ht (fun g hg => by simp only [List.mem_singleton] at hg; omega) (Nat.le_of_lt hl)⟩
theorem Cur.touch {w w' : World} {cb : Nat} {F : List Nat} (h : Cur w cb) (ht : Touch F w w') (hF : ∀ g, g ∈ F → cb < g) : Cur w' cb := by
  have hl := h.lt
  obtain ⟨A, n, c, zs, i, x, hh, h1, h2, h3, h4⟩ := h
  exact ⟨A, n, c, zs, i, x, (ht.block cb hl (fun hm => by have := hF cb hm; omega)).trans hh, h1, h2, h3, h4.touch ht (fun g hg => Nat.le_of_lt (hF g hg)) (Nat.le_of_lt hl)⟩
theorem grown_touch {w wr X : World} {row : Option Nat} {F : List Nat} (h : w.grownBy wr row) (ht : Touch F wr X) (hF : ∀ g, g ∈ F → w.heap.size ≤ g) : w.grownBy X row :=
  ⟨ht.os.trans h.os, ht.tape.trans h.tape, ht.output.trans h.output, Nat.le_trans h.size ht.size, fun i hi hn => (ht.block i (Nat.lt_of_lt_of_le hi h.size) (fun hm => by have := hF i hm; omega)).trans (h.block i hi hn)⟩
theorem GL.keep {w wr w' : World} {cb b : Nat} {C D : Option Addr} {k q : Nat} (h : GL w wr cb b C D k q) (hr : RL cb wr w') : GL w w' cb b C D k q := by
  have h1 := h.cw
  have h2 := h.hb
  have h3 := h.lt
  have hB := hr.2.block b h3 (by simp; omega)
  have hW := hr.2.block w.heap.size (by omega) (by simp; omega)
  obtain ⟨lo, hi, hv, hl, hd⟩ := h.lv
  exact ⟨hr.1, grown_trans h.gr hr.2, h1, h2, Nat.lt_of_lt_of_le h3 hr.2.size, (World.cell?_of_block hB).trans h.c0, (World.cell?_of_block hB).trans h.c1, (World.frozen?_of_block hB).trans h.f0, (World.frozen?_of_block hB).trans h.f1,
    (World.cell?_of_block hW).trans h.d0, (World.cell?_of_block hW).trans h.d1, (World.frozen?_of_block hW).trans h.g0, (World.frozen?_of_block hW).trans h.g1, ⟨lo, hi, hv.grown hr.2 (.inl (by omega)), hl, hd⟩⟩
/-- What holds at each world of a round: the box's cells, the cursor. -/
def SB (b cb : Nat) (u0 u1 : Value) (wr W : World) : Prop := W.frozen? ⟨b, 0, none⟩ = false ∧ W.frozen? ⟨b, 1, none⟩ = false ∧ RL cb wr W ∧ b < wr.heap.size ∧ b ≠ cb ∧ cb < wr.heap.size
theorem keepLL {wr W W' : World} {cb b : Nat} {u0 u1 : Value} (hc : Cur W' cb) (hg : W.grownBy W' (some cb)) (h : (W.cell? ⟨b, 0, none⟩ = some u0 ∧ W.cell? ⟨b, 1, none⟩ = some u1) ∧ SB b cb u0 u1 wr W) :
    (W'.cell? ⟨b, 0, none⟩ = some u0 ∧ W'.cell? ⟨b, 1, none⟩ = some u1) ∧ SB b cb u0 u1 wr W' := by
  obtain ⟨⟨h0, h1⟩, h2, h3, h4, h5, h6, h7⟩ := h
  have hB := hg.block b (Nat.lt_of_lt_of_le h5 h4.2.size) (by simp; omega)
  exact ⟨⟨(World.cell?_of_block hB).trans h0, (World.cell?_of_block hB).trans h1⟩, (World.frozen?_of_block hB).trans h2, (World.frozen?_of_block hB).trans h3, h4.draw hc hg, h5, h6, h7⟩
theorem keepLB {wr W W' : World} {cb b : Nat} {u0 u1 : Value} (hB : Below W.heap.size W W') (h : (W.cell? ⟨b, 0, none⟩ = some u0 ∧ W.cell? ⟨b, 1, none⟩ = some u1) ∧ SB b cb u0 u1 wr W) :
    (W'.cell? ⟨b, 0, none⟩ = some u0 ∧ W'.cell? ⟨b, 1, none⟩ = some u1) ∧ SB b cb u0 u1 wr W' := by
  obtain ⟨⟨h0, h1⟩, h2, h3, h4, h5, h6, h7⟩ := h
  have hB' := hB.block b (Nat.lt_of_lt_of_le h5 h4.2.size)
  exact ⟨⟨(World.cell?_of_block hB').trans h0, (World.cell?_of_block hB').trans h1⟩, (World.frozen?_of_block hB').trans h2, (World.frozen?_of_block hB').trans h3, h4.of_below hB, h5, h6, h7⟩
theorem keepLA {wr W : World} {cb b : Nat} {u0 u1 : Value} (h : (W.cell? ⟨b, 0, none⟩ = some u0 ∧ W.cell? ⟨b, 1, none⟩ = some u1) ∧ SB b cb u0 u1 wr W) (o : Obj) :
    ((W.alloc o).cell? ⟨b, 0, none⟩ = some u0 ∧ (W.alloc o).cell? ⟨b, 1, none⟩ = some u1) ∧ SB b cb u0 u1 wr (W.alloc o) := keepLB ((Below.refl _ _).alloc (Nat.le_refl _) _) h
theorem keepLS {wr W : World} {cb b : Nat} {u0 u1 : Value} (h : (W.cell? ⟨b, 0, none⟩ = some u0 ∧ W.cell? ⟨b, 1, none⟩ = some u1) ∧ SB b cb u0 u1 wr W) {p : Addr} (hp : wr.heap.size ≤ p.block) (u : Value) :
    ((W.setCell p u).cell? ⟨b, 0, none⟩ = some u0 ∧ (W.setCell p u).cell? ⟨b, 1, none⟩ = some u1) ∧ SB b cb u0 u1 wr (W.setCell p u) := by
  obtain ⟨⟨h0, h1⟩, h2, h3, h4, h5, h6, h7⟩ := h
  have hB : (W.setCell p u).heap[b]? = W.heap[b]? := Below.heap_setCell _ _ _ _ (by omega)
  exact ⟨⟨(World.cell?_of_block hB).trans h0, (World.cell?_of_block hB).trans h1⟩, (World.frozen?_of_block hB).trans h2, (World.frozen?_of_block hB).trans h3, h4.set hp h7 u, h5, h6, h7⟩
theorem curS {wr W : World} {cb b : Nat} {u0 u1 : Value} (h : (W.cell? ⟨b, 0, none⟩ = some u0 ∧ W.cell? ⟨b, 1, none⟩ = some u1) ∧ SB b cb u0 u1 wr W) : Cur W cb := h.2.2.2.1.1
theorem sizeS {wr W : World} {cb b : Nat} {u0 u1 : Value} (h : (W.cell? ⟨b, 0, none⟩ = some u0 ∧ W.cell? ⟨b, 1, none⟩ = some u1) ∧ SB b cb u0 u1 wr W) : wr.heap.size ≤ W.heap.size := h.2.2.2.1.2.size
theorem keepLD {wr W : World} {cb b : Nat} {u0 u1 : Value} (h : (W.cell? ⟨b, 0, none⟩ = some u0 ∧ W.cell? ⟨b, 1, none⟩ = some u1) ∧ SB b cb u0 u1 wr W) :
    ((W.drew).cell? ⟨b, 0, none⟩ = some u0 ∧ (W.drew).cell? ⟨b, 1, none⟩ = some u1) ∧ SB b cb u0 u1 wr W.drew := keepLB (Below.refl _ _).drew h
/-- A box that a round has made, still empty. -/
structure NB (wr W : World) (g : Nat) : Prop where
  ge : wr.heap.size ≤ g
  lt : g < W.heap.size
  c0 : W.cell? ⟨g, 0, none⟩ = some (.slice none 0 0)
  c1 : W.cell? ⟨g, 1, none⟩ = some (.slice none 0 0)
  f0 : W.frozen? ⟨g, 0, none⟩ = false
  f1 : W.frozen? ⟨g, 1, none⟩ = false
theorem NB.new {wr W : World} {cb b : Nat} {u0 u1 : Value} {t : TypeId} (h : (W.cell? ⟨b, 0, none⟩ = some u0 ∧ W.cell? ⟨b, 1, none⟩ = some u1) ∧ SB b cb u0 u1 wr W) : NB wr (W.alloc (.cells #[.slice none 0 0, .slice none 0 0] t)) W.heap.size :=
  ⟨sizeS h, by simp, by go_simp, by go_simp, by go_simp, by go_simp⟩
theorem NB.newD {wr W : World} {cb b : Nat} {u0 u1 : Value} {t : TypeId} (h : (W.cell? ⟨b, 0, none⟩ = some u0 ∧ W.cell? ⟨b, 1, none⟩ = some u1) ∧ SB b cb u0 u1 wr W) : NB wr (W.drew.alloc (.cells #[.slice none 0 0, .slice none 0 0] t)) W.heap.size :=
  ⟨sizeS h, by simp, by go_simp, by go_simp, by go_simp, by go_simp⟩
theorem NB.kept {wr W W' : World} {g : Nat} (h : NB wr W g) (hB : W'.heap[g]? = W.heap[g]?) (hs : W.heap.size ≤ W'.heap.size) : NB wr W' g :=
  ⟨h.ge, Nat.lt_of_lt_of_le h.lt hs, (World.cell?_of_block hB).trans h.c0, (World.cell?_of_block hB).trans h.c1, (World.frozen?_of_block hB).trans h.f0, (World.frozen?_of_block hB).trans h.f1⟩
theorem NB.grown {wr W W' : World} {g cb : Nat} (hc : cb < wr.heap.size) (hg : W.grownBy W' (some cb)) (h : NB wr W g) : NB wr W' g := h.kept (hg.block g h.lt (by have := h.ge; simp; omega)) hg.size
theorem NB.below {wr W W' : World} {g : Nat} (hB : Below W.heap.size W W') (h : NB wr W g) : NB wr W' g := h.kept (hB.block g h.lt) hB.size
theorem sizeB {wr W W' : World} {cb b : Nat} {u0 u1 : Value} (hb : Below W.heap.size W W') (h : (W.cell? ⟨b, 0, none⟩ = some u0 ∧ W.cell? ⟨b, 1, none⟩ = some u1) ∧ SB b cb u0 u1 wr W) : wr.heap.size ≤ W.heap.size := sizeS h
theorem HV.nb {wr W W' : World} {g : Nat} {v : Value} (h : NB wr W g) (hL : HV W' v W.heap.size W'.heap.size) (u u' : Value) : HV ((W'.setCell ⟨g, 0, none⟩ u).setCell ⟨g, 1, none⟩ u') v W.heap.size W'.heap.size := by
  have ht : Touch [g] W' ((W'.setCell ⟨g, 0, none⟩ u).setCell ⟨g, 1, none⟩ u') := ((Touch.refl _ _).setCell (by simp) _).setCell (by simp) _
  exact hL.touch ht (fun x hx => by simp only [List.mem_singleton] at hx; have := h.lt; omega)
theorem SL.nb {wr W W' : World} {g : Nat} {S : Option Addr} {n cs : Nat} (h : NB wr W g) (hL : SL W' S n cs W.heap.size) (u u' : Value) : SL ((W'.setCell ⟨g, 0, none⟩ u).setCell ⟨g, 1, none⟩ u') S n cs W.heap.size := by
  have ht : Touch [g] W' ((W'.setCell ⟨g, 0, none⟩ u).setCell ⟨g, 1, none⟩ u') := ((Touch.refl _ _).setCell (by simp) _).setCell (by simp) _
  exact hL.touch ht (fun x hx => by simp only [List.mem_singleton] at hx; have := h.lt; omega)
/-- What a round's drawn statement leaves: the new heap in a new box. -/
structure ND (wr X : World) (b cb g : Nat) (u0 u1 c0 c1 : Value) : Prop where
  s : (X.cell? ⟨b, 0, none⟩ = some u0 ∧ X.cell? ⟨b, 1, none⟩ = some u1) ∧ SB b cb u0 u1 wr X
  e0 : X.cell? ⟨g, 0, none⟩ = some c0
  e1 : X.cell? ⟨g, 1, none⟩ = some c1
  l : ∃ lo hi, HV X (.agg #[c0, c1]) lo hi ∧ wr.heap.size ≤ lo
theorem ND.ofA {wr W w' : World} {cb b : Nat} {u0 u1 c0 c1 : Value} (hl : wr.heap.size ≤ W.heap.size) (hS : (w'.cell? ⟨b, 0, none⟩ = some u0 ∧ w'.cell? ⟨b, 1, none⟩ = some u1) ∧ SB b cb u0 u1 wr w')
    (hL : HV w' (.agg #[c0, c1]) W.heap.size w'.heap.size) : ∃ X, X = w'.alloc (.cells #[c0, c1] 26) ∧ ND wr X b cb w'.heap.size u0 u1 c0 c1 :=
  ⟨_, rfl, keepLA hS _, by go_simp, by go_simp, _, _, hL.below ((Below.refl _ _).alloc (Nat.le_refl _) _), hl⟩
theorem ND.ofB {wr W w' : World} {cb b g : Nat} {u0 u1 c0 c1 : Value} (hl : wr.heap.size ≤ W.heap.size) (hS : (w'.cell? ⟨b, 0, none⟩ = some u0 ∧ w'.cell? ⟨b, 1, none⟩ = some u1) ∧ SB b cb u0 u1 wr w')
    (hL : HV w' (.agg #[c0, c1]) W.heap.size w'.heap.size) (hW : NB wr W g) (hX : NB wr w' g) : ∃ X, X = (w'.setCell ⟨g, 0, none⟩ c0).setCell ⟨g, 1, none⟩ c1 ∧ ND wr X b cb g u0 u1 c0 c1 := by
  have y0 := hX.c0
  have y1 := hX.c1
  have y2 := hX.f0
  have y3 := hX.f1
  exact ⟨_, rfl, keepLS (keepLS hS hX.ge _) hX.ge _, by go_simp, by go_simp, _, _, HV.nb hW hL _ _, hl⟩
theorem NE.ofA {wr W w' : World} {cb b : Nat} {u0 u1 c0 c1 : Value} {S : Option Addr} {n cs : Nat} (hl : wr.heap.size ≤ W.heap.size) (hS : (w'.cell? ⟨b, 0, none⟩ = some u0 ∧ w'.cell? ⟨b, 1, none⟩ = some u1) ∧ SB b cb u0 u1 wr w')
    (hL : HV w' (.agg #[c0, c1]) W.heap.size w'.heap.size) (hs : SL w' S n cs W.heap.size) : ∃ X, X = w'.alloc (.cells #[c0, c1] 26) ∧ ND wr X b cb w'.heap.size u0 u1 c0 c1 ∧ SL X S n cs wr.heap.size := by
  obtain ⟨X, e, h⟩ := ND.ofA hl hS hL
  exact ⟨X, e, h, by rw [e]; exact (hs.below ((Below.refl _ _).alloc (Nat.le_refl _) _)).less hl⟩
theorem NE.ofB {wr W w' : World} {cb b g : Nat} {u0 u1 c0 c1 : Value} {S : Option Addr} {n cs : Nat} (hl : wr.heap.size ≤ W.heap.size) (hS : (w'.cell? ⟨b, 0, none⟩ = some u0 ∧ w'.cell? ⟨b, 1, none⟩ = some u1) ∧ SB b cb u0 u1 wr w')
    (hL : HV w' (.agg #[c0, c1]) W.heap.size w'.heap.size) (hs : SL w' S n cs W.heap.size) (hW : NB wr W g) (hX : NB wr w' g) : ∃ X, X = (w'.setCell ⟨g, 0, none⟩ c0).setCell ⟨g, 1, none⟩ c1 ∧ ND wr X b cb g u0 u1 c0 c1 ∧ SL X S n cs wr.heap.size := by
  obtain ⟨X, e, h⟩ := ND.ofB hl hS hL hW hX
  exact ⟨X, e, h, by rw [e]; exact (SL.nb hW hs _ _).less hl⟩
/-- The round's end: the new heap lies in the box. -/
theorem GL.next {w wr X : World} {C D C' D' : Option Addr} {k q k' q' cb b lo hi : Nat} {u0 u1 : Value} (h : GL w wr cb b C D k q) (hS : (X.cell? ⟨b, 0, none⟩ = some u0 ∧ X.cell? ⟨b, 1, none⟩ = some u1) ∧ SB b cb u0 u1 wr X)
    (hL : HV X (.agg #[.slice C' 384 k', .slice D' 6 q']) lo hi) (hlo : wr.heap.size ≤ lo) : GL w ((X.setCell ⟨b, 0, none⟩ (.slice C' 384 k')).setCell ⟨b, 1, none⟩ (.slice D' 6 q')) cb b C' D' k' q' := by
  obtain ⟨⟨h0, h1⟩, h2, h3, h4, h5, h6, h7⟩ := hS
  have hX := h.keep h4
  obtain ⟨X', hX'⟩ : ∃ X', X' = (X.setCell ⟨b, 0, none⟩ (.slice C' 384 k')).setCell ⟨b, 1, none⟩ (.slice D' 6 q') := ⟨_, rfl⟩
  rw [← hX']
  have ht : Touch [b] X X' := by rw [hX']; exact ((Touch.refl _ _).setCell (by simp) _).setCell (by simp) _
  have c0 : X'.cell? ⟨b, 0, none⟩ = some (.slice C' 384 k') := by rw [hX']; go_simp
  have c1 : X'.cell? ⟨b, 1, none⟩ = some (.slice D' 6 q') := by rw [hX']; go_simp
  have f0 : X'.frozen? ⟨b, 0, none⟩ = false := by rw [hX']; go_simp
  have f1 : X'.frozen? ⟨b, 1, none⟩ = false := by rw [hX']; go_simp
  have hW : X'.heap[w.heap.size]? = X.heap[w.heap.size]? := ht.block _ (by have := hX.hb; have := hX.lt; omega) (by simp; have := hX.hb; omega)
  have hb := h.hb
  have hcw := h.cw
  have hcur : Cur X' cb := hX.cur.touch ht (fun g hg => by simp only [List.mem_singleton] at hg; omega)
  have hgr : w.grownBy X' (some cb) := grown_touch hX.gr ht (fun g hg => by simp only [List.mem_singleton] at hg; omega)
  exact ⟨hcur, hgr, hcw, hb, Nat.lt_of_lt_of_le hX.lt ht.size, c0, c1, f0, f1, (World.cell?_of_block hW).trans hX.d0, (World.cell?_of_block hW).trans hX.d1, (World.frozen?_of_block hW).trans hX.g0, (World.frozen?_of_block hW).trans hX.g1,
    ⟨lo, hi, hL.touch ht (fun g hg => by simp only [List.mem_singleton] at hg; omega), by omega, .inr (by omega)⟩⟩
theorem SL.next {X : World} {S : Option Addr} {n cs b lo : Nat} (h : SL X S n cs lo) (hb : b < lo) (u u' : Value) : SL ((X.setCell ⟨b, 0, none⟩ u).setCell ⟨b, 1, none⟩ u') S n cs lo := by
  have ht : Touch [b] X ((X.setCell ⟨b, 0, none⟩ u).setCell ⟨b, 1, none⟩ u') := ((Touch.refl _ _).setCell (by simp) _).setCell (by simp) _
  exact h.touch ht (fun g hg => by simp only [List.mem_singleton] at hg; omega)
theorem SL.grown {wr W : World} {S : Option Addr} {n cs cb lo : Nat} (h : SL wr S n cs lo) (hg : wr.grownBy W (some cb)) (hc : cb < lo) : SL W S n cs lo :=
  h.touch (touch_grown (F := [cb]) hg (fun g hg => by simp only [Option.some.injEq] at hg; simp [hg])) (fun g hg => by simp only [List.mem_singleton] at hg; omega)
theorem GL.start {w w1 w2 w3 : World} {C D : Option Addr} {k q cb : Nat} {t : TypeId} (h1 : w1 = w.alloc (.cells #[.slice none 0 0, .slice none 0 0] t)) (hv : HV w2 (.agg #[.slice C 384 k, .slice D 6 q]) w1.heap.size w2.heap.size) (hc2 : Cur w2 cb) (hg : w1.grownBy w2 (some cb))
    (h3 : w3 = w2.alloc (.cells #[.slice C 384 k, .slice D 6 q] t)) (hc : Cur w cb) : GL w w3 cb w2.heap.size C D k q := by
  have hl := hc.lt
  have s1 : w1.heap.size = w.heap.size + 1 := by rw [h1]; simp
  have s2 := hg.size
  have s3 : w3.heap.size = w2.heap.size + 1 := by rw [h3]; simp
  have hb01 : Below w.heap.size w w1 := by rw [h1]; exact (Below.refl _ _).alloc (Nat.le_refl _) _
  have hb23 : Below w2.heap.size w2 w3 := by rw [h3]; exact (Below.refl _ _).alloc (Nat.le_refl _) _
  have hg13 := grown_trans hg (grown_below hb23 (some cb))
  have a0 : w1.cell? ⟨w.heap.size, 0, none⟩ = some (.slice none 0 0) := by rw [h1]; go_simp
  have a1 : w1.cell? ⟨w.heap.size, 1, none⟩ = some (.slice none 0 0) := by rw [h1]; go_simp
  have a2 : w1.frozen? ⟨w.heap.size, 0, none⟩ = false := by rw [h1]; go_simp
  have a3 : w1.frozen? ⟨w.heap.size, 1, none⟩ = false := by rw [h1]; go_simp
  have b0 : w3.cell? ⟨w2.heap.size, 0, none⟩ = some (.slice C 384 k) := by rw [h3]; go_simp
  have b1 : w3.cell? ⟨w2.heap.size, 1, none⟩ = some (.slice D 6 q) := by rw [h3]; go_simp
  have b2 : w3.frozen? ⟨w2.heap.size, 0, none⟩ = false := by rw [h3]; go_simp
  have b3 : w3.frozen? ⟨w2.heap.size, 1, none⟩ = false := by rw [h3]; go_simp
  have hW := hg13.block w.heap.size (by omega) (by simp only [ne_eq, Option.some.injEq]; omega)
  have hg03 := grown_trans (grown_below hb01 (some cb)) hg13
  exact ⟨hc2.below hb23 (by omega), hg03, hl, by omega, by omega, b0, b1, b2, b3, (World.cell?_of_block hW).trans a0, (World.cell?_of_block hW).trans a1, (World.frozen?_of_block hW).trans a2, (World.frozen?_of_block hW).trans a3,
    ⟨_, _, hv.below hb23, by omega, .inl (Nat.le_refl _)⟩⟩
theorem GL.fin {w wr : World} {C D : Option Addr} {k q cb b : Nat} (h : GL w wr cb b C D k q) :
    HV ((wr.setCell ⟨w.heap.size, 0, none⟩ (.slice C 384 k)).setCell ⟨w.heap.size, 1, none⟩ (.slice D 6 q)) (.agg #[.slice C 384 k, .slice D 6 q]) w.heap.size ((wr.setCell ⟨w.heap.size, 0, none⟩ (.slice C 384 k)).setCell ⟨w.heap.size, 1, none⟩ (.slice D 6 q)).heap.size ∧
      Cur ((wr.setCell ⟨w.heap.size, 0, none⟩ (.slice C 384 k)).setCell ⟨w.heap.size, 1, none⟩ (.slice D 6 q)) cb ∧ w.grownBy ((wr.setCell ⟨w.heap.size, 0, none⟩ (.slice C 384 k)).setCell ⟨w.heap.size, 1, none⟩ (.slice D 6 q)) (some cb) := by
  obtain ⟨X', hX'⟩ : ∃ X', X' = (wr.setCell ⟨w.heap.size, 0, none⟩ (.slice C 384 k)).setCell ⟨w.heap.size, 1, none⟩ (.slice D 6 q) := ⟨_, rfl⟩
  rw [← hX']
  have ht : Touch [w.heap.size] wr X' := by rw [hX']; exact ((Touch.refl _ _).setCell (by simp) _).setCell (by simp) _
  have hcw := h.cw
  obtain ⟨lo, hi, hv, hl, hd⟩ := h.lv
  have hv2 := hv.touch ht (fun g hg => by simp only [List.mem_singleton] at hg; omega)
  exact ⟨hv2.more (by omega) hv2.hi (Nat.le_refl _), h.cur.touch ht (fun g hg => by simp only [List.mem_singleton] at hg; omega), grown_touch h.gr ht (fun g hg => by simp only [List.mem_singleton] at hg; omega)⟩
/-- Grant and SetGen upon the box's heap, from any world of the round. -/
def GrantV (W w' : World) (e : Ending) : Prop := ∃ C' k' D' q' S n cs, e = .returned (.tuple #[.agg #[.slice C' 384 k', .slice D' 6 q'], .slice S n cs]) ∧ HV w' (.agg #[.slice C' 384 k', .slice D' 6 q']) W.heap.size w'.heap.size ∧ SL w' S n cs W.heap.size ∧ Below W.heap.size W w'
def SetV (W w' : World) (e : Ending) : Prop := ∃ C' k' D' q' bb, e = .returned (.tuple #[.agg #[.slice C' 384 k', .slice D' 6 q'], .bool bb]) ∧ HV w' (.agg #[.slice C' 384 k', .slice D' 6 q']) W.heap.size w'.heap.size ∧ Below W.heap.size W w'
theorem gS_le (x y : List Int) (c : Int) : (gS x y c).length ≤ 4 := by
  unfold gS grS
  split
  · rename_i h
    split
    · rw [gsN_length]
      have h2 : clsOk c = true := by
        unfold gOk at h
        rw [Bool.and_eq_true] at h
        exact h.2
      have h3 : 0 ≤ c ∧ c ≤ 2 := by simpa [clsOk] using h2
      have h4 : c = 0 ∨ c = 1 ∨ c = 2 := by omega
      rcases h4 with rfl | rfl | rfl <;> decide
    · simp
  · simp
theorem GL.grant {w wK : World} {C D : Option Addr} {k q cb b : Nat} (h : GL w wK cb b C D k q) (v : Int) (W : World) (hR : RL cb wK W) :
    Calls Try.prog 59 #[.agg #[.slice C 384 k, .slice D 6 q], .int .i64 v] W fun e w' => GrantV W w' e := by
  obtain ⟨lo, hi, hv, _⟩ := (h.keep hR).lv
  obtain ⟨F, F', x, y, h1, h2, h3, h4⟩ := hv.open
  have r1 := h1.rd
  have r2 := h2.rd
  obtain ⟨_, c1, c2, _⟩ := h1.read
  refine (specGrant_any C D 384 k 6 q x y v W r1.1 r2.1 (by omega) (by omega) c1 c2 r1.2 r2.2).mono ?_
  rintro e w' ⟨B, d, F2, B', d', F2', S, cs, G, rfl, hC, hO, hG⟩
  exact ⟨B, d, B', d', S, _, cs, rfl, HV.of_copy hC, ⟨_, G, rfl, gS_le _ _ _, hO, fun g hg => (hG g hg).1⟩, hC.2.2.2.2⟩
theorem GL.set {w wK : World} {C D : Option Addr} {k q cb b : Nat} (h : GL w wK cb b C D k q) (i v : Int) (W : World) (hR : RL cb wK W) :
    Calls Try.prog 61 #[.agg #[.slice C 384 k, .slice D 6 q], .int .i64 i, .int .i64 v] W fun e w' => SetV W w' e := by
  obtain ⟨lo, hi, hv, _⟩ := (h.keep hR).lv
  obtain ⟨F, F', x, y, h1, h2, h3, h4⟩ := hv.open
  have r1 := h1.rd
  have r2 := h2.rd
  obtain ⟨_, c1, c2, _⟩ := h1.read
  refine (specSetGen_any C D 384 k 6 q x y i v W r1.1 r2.1 (by omega) (by omega) c1 c2 r1.2 r2.2).mono ?_
  rintro e w' ⟨B, d, F2, B', d', F2', rfl, hC⟩
  exact ⟨B, d, B', d', _, rfl, HV.of_copy hC, hC.2.2.2.2⟩
end Go.Proofs.Ytdhocncfpapncac
