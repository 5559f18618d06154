/-
  Draws of lists: l8Lists.
-/
import Derived.Test.YtdhocncfpapncabGive
import Derived.Test.YtdhocncfpapncabLDraw0
import Derived.Deep.RegionHeld3
namespace Go.Proofs.Ytdhocncfpapncab
open Go.RowKit
set_option linter.unusedVariables false

theorem addZ_le (z : List (List Int)) (i : Nat) (s : Int) (m : Nat) : ((addZ z i s).getD m []).length ≤ (z.getD m []).length + (if m = i then 1 else 0) := by
  by_cases e : m = i
  · subst e
    rw [if_pos rfl]
    by_cases hm : m < z.length
    · rw [addZ_at z s hm]; simp
    · have h1 : (addZ z m s).getD m [] = [] := by simp [List.getD, addZ_length, hm]
      rw [h1]; simp
  · rw [if_neg e, addZ_ne z s e]; exact Nat.le_refl _
theorem sumL_addZ (z : List (List Int)) (i : Nat) (s : Int) : ∀ m, sumL (addZ z i s) m ≤ sumL z m + (if i < m then 1 else 0) := by
  intro m
  induction m with
  | zero => simp [sumL]
  | succ m ih =>
    simp only [sumL]
    have h1 := addZ_le z i s m
    by_cases e : m = i
    · subst e
      rw [if_neg (Nat.lt_irrefl _)] at ih
      rw [if_pos rfl] at h1
      rw [if_pos (Nat.lt_succ_self _)]
      omega
    · rw [if_neg e] at h1
      by_cases h : i < m
      · rw [if_pos h] at ih
        rw [if_pos (by omega)]
        omega
      · rw [if_neg h] at ih
        rw [if_neg (by omega)]
        omega
/-- How many slots stand on the lists. -/
def tot (z y : List (List Int)) : Nat := sumL z z.length + sumL y y.length
theorem give_tot (z y : List (List Int)) (a c s : Int) : (giveZ z y a c s).length = z.length ∧ (giveY z y a c s).length = y.length ∧ tot (giveZ z y a c s) (giveY z y a c s) ≤ tot z y + 1 := by
  unfold giveZ giveY tot
  by_cases h : okGive z y a c s = true
  · rw [if_pos h, if_pos h]
    unfold givZ givY
    by_cases h2 : (y.getD (a * 3 + c).toNat []).length < 2
    · rw [if_pos h2, if_pos h2]
      have h3 := sumL_addZ y (a * 3 + c).toNat s y.length
      refine ⟨rfl, addZ_length _ _ _, ?_⟩
      rw [addZ_length]
      split at h3 <;> omega
    · rw [if_neg h2, if_neg h2]
      have h3 := sumL_addZ z c.toNat s z.length
      refine ⟨addZ_length _ _ _, rfl, ?_⟩
      rw [addZ_length]
      split at h3 <;> omega
  · rw [if_neg h, if_neg h]; exact ⟨rfl, rfl, Nat.le_succ _⟩
/-- What l8Lists holds between its steps: the cursor, the lists in the box at b, the result's box. -/
structure LL (w wr : World) (cb b : Nat) (C D : Option Addr) (n k n' q : Nat) (z y : List (List Int)) (r : Nat) : Prop where
  cur : Cur wr cb
  gr : w.grownBy wr (some cb)
  cw : cb < w.heap.size
  hb : w.heap.size < b
  lt : b < wr.heap.size
  c0 : wr.cell? ⟨b, 0, none⟩ = some (.slice C n k)
  c1 : wr.cell? ⟨b, 1, none⟩ = some (.slice D n' q)
  f0 : wr.frozen? ⟨b, 0, none⟩ = false
  f1 : wr.frozen? ⟨b, 1, none⟩ = false
  d0 : wr.cell? ⟨w.heap.size, 0, none⟩ = some (.slice none 0 0)
  d1 : wr.cell? ⟨w.heap.size, 1, none⟩ = some (.slice none 0 0)
  g0 : wr.frozen? ⟨w.heap.size, 0, none⟩ = false
  g1 : wr.frozen? ⟨w.heap.size, 1, none⟩ = false
  lv : ∃ lo hi, LV true wr (.agg #[.slice C n k, .slice D n' q]) z y lo hi ∧ w.heap.size < lo ∧ (hi ≤ b ∨ b < lo)
  lz : z.length = 3
  ly : y.length = 9
  sz : tot z y ≤ r
def RL (cb : Nat) (wK W : World) : Prop := Cur W cb ∧ wK.grownBy W (some cb)
theorem RL.of_below {cb : Nat} {wK W W' : World} (h : RL cb wK W) (hb : Below W.heap.size W W') : RL cb wK W' := ⟨h.1.below hb h.1.lt, grown_trans h.2 (grown_below hb _)⟩
theorem RL.draw {cb : Nat} {wK W W' : World} (h : RL cb wK W) (hc : Cur W' cb) (hg : W.grownBy W' (some cb)) : RL cb wK W' := ⟨hc, grown_trans h.2 hg⟩
theorem RL.set {cb : Nat} {wK W : World} (h : RL cb wK W) {p : Addr} (hp : wK.heap.size ≤ p.block) (hc : cb < wK.heap.size) (u : Value) : RL cb wK (W.setCell p u) := by
  refine ⟨?_, ⟨h.2.os, h.2.tape, h.2.output, by simpa [World.setCell] using h.2.size, fun i hi hn => (Below.heap_setCell _ _ _ _ (by omega)).trans (h.2.block i hi hn)⟩⟩
  have ht : Touch [p.block] W (W.setCell p u) := (Touch.refl _ _).setCell (by simp) _
  obtain ⟨A, n, c, zs, i, x, hh, h1, h2, h3, h4⟩ := h.1
  have hl := h.1.lt
  exact ⟨A, n, c, zs, i, x, (ht.block cb hl (by simp; omega)).trans hh, h1, h2, h3, h4.touch ht (fun g hg => by simp only [List.mem_singleton] at hg; omega) (Nat.le_of_lt hl)⟩
theorem LL.keep {w wr w' : World} {cb b : Nat} {C D : Option Addr} {n k n' q : Nat} {z y : List (List Int)} {r : Nat} (h : LL w wr cb b C D n k n' q z y r) (hr : RL cb wr w') : LL w w' cb b C D n k n' q z y r := by
  have h1 := h.cw
  have h2 := h.hb
  have h3 := h.lt
  have hB := hr.2.block b h3 (by simp; omega)
  have hW := hr.2.block w.heap.size (by omega) (by simp; omega)
  obtain ⟨lo, hi, hv, hl, hd⟩ := h.lv
  exact ⟨hr.1, grown_trans h.gr hr.2, h1, h2, Nat.lt_of_lt_of_le h3 hr.2.size, (World.cell?_of_block hB).trans h.c0, (World.cell?_of_block hB).trans h.c1, (World.frozen?_of_block hB).trans h.f0, (World.frozen?_of_block hB).trans h.f1,
    (World.cell?_of_block hW).trans h.d0, (World.cell?_of_block hW).trans h.d1, (World.frozen?_of_block hW).trans h.g0, (World.frozen?_of_block hW).trans h.g1, ⟨lo, hi, hv.grown hr.2 (.inl (by omega)), hl, hd⟩, h.lz, h.ly, h.sz⟩
/-- What holds at each world of a round: the box's cells, the cursor. -/
def SB (b cb : Nat) (u0 u1 : Value) (wr W : World) : Prop := W.frozen? ⟨b, 0, none⟩ = false ∧ W.frozen? ⟨b, 1, none⟩ = false ∧ RL cb wr W ∧ b < wr.heap.size ∧ b ≠ cb ∧ cb < wr.heap.size
theorem keepLL {wr W W' : World} {cb b : Nat} {u0 u1 : Value} (hc : Cur W' cb) (hg : W.grownBy W' (some cb)) (h : (W.cell? ⟨b, 0, none⟩ = some u0 ∧ W.cell? ⟨b, 1, none⟩ = some u1) ∧ SB b cb u0 u1 wr W) :
    (W'.cell? ⟨b, 0, none⟩ = some u0 ∧ W'.cell? ⟨b, 1, none⟩ = some u1) ∧ SB b cb u0 u1 wr W' := by
  obtain ⟨⟨h0, h1⟩, h2, h3, h4, h5, h6, h7⟩ := h
  have hB := hg.block b (Nat.lt_of_lt_of_le h5 h4.2.size) (by simp; omega)
  exact ⟨⟨(World.cell?_of_block hB).trans h0, (World.cell?_of_block hB).trans h1⟩, (World.frozen?_of_block hB).trans h2, (World.frozen?_of_block hB).trans h3, h4.draw hc hg, h5, h6, h7⟩
theorem keepLB {wr W W' : World} {cb b : Nat} {u0 u1 : Value} (hB : Below W.heap.size W W') (h : (W.cell? ⟨b, 0, none⟩ = some u0 ∧ W.cell? ⟨b, 1, none⟩ = some u1) ∧ SB b cb u0 u1 wr W) :
    (W'.cell? ⟨b, 0, none⟩ = some u0 ∧ W'.cell? ⟨b, 1, none⟩ = some u1) ∧ SB b cb u0 u1 wr W' := by
  obtain ⟨⟨h0, h1⟩, h2, h3, h4, h5, h6, h7⟩ := h
  have hB' := hB.block b (Nat.lt_of_lt_of_le h5 h4.2.size)
  exact ⟨⟨(World.cell?_of_block hB').trans h0, (World.cell?_of_block hB').trans h1⟩, (World.frozen?_of_block hB').trans h2, (World.frozen?_of_block hB').trans h3, h4.of_below hB, h5, h6, h7⟩
theorem keepLA {wr W : World} {cb b : Nat} {u0 u1 : Value} (h : (W.cell? ⟨b, 0, none⟩ = some u0 ∧ W.cell? ⟨b, 1, none⟩ = some u1) ∧ SB b cb u0 u1 wr W) (o : Obj) :
    ((W.alloc o).cell? ⟨b, 0, none⟩ = some u0 ∧ (W.alloc o).cell? ⟨b, 1, none⟩ = some u1) ∧ SB b cb u0 u1 wr (W.alloc o) := keepLB ((Below.refl _ _).alloc (Nat.le_refl _) _) h
theorem keepLS {wr W : World} {cb b : Nat} {u0 u1 : Value} (h : (W.cell? ⟨b, 0, none⟩ = some u0 ∧ W.cell? ⟨b, 1, none⟩ = some u1) ∧ SB b cb u0 u1 wr W) {p : Addr} (hp : wr.heap.size ≤ p.block) (u : Value) :
    ((W.setCell p u).cell? ⟨b, 0, none⟩ = some u0 ∧ (W.setCell p u).cell? ⟨b, 1, none⟩ = some u1) ∧ SB b cb u0 u1 wr (W.setCell p u) := by
  obtain ⟨⟨h0, h1⟩, h2, h3, h4, h5, h6, h7⟩ := h
  have hB : (W.setCell p u).heap[b]? = W.heap[b]? := Below.heap_setCell _ _ _ _ (by omega)
  exact ⟨⟨(World.cell?_of_block hB).trans h0, (World.cell?_of_block hB).trans h1⟩, (World.frozen?_of_block hB).trans h2, (World.frozen?_of_block hB).trans h3, h4.set hp h7 u, h5, h6, h7⟩
theorem curS {wr W : World} {cb b : Nat} {u0 u1 : Value} (h : (W.cell? ⟨b, 0, none⟩ = some u0 ∧ W.cell? ⟨b, 1, none⟩ = some u1) ∧ SB b cb u0 u1 wr W) : Cur W cb := h.2.2.2.1.1
theorem sizeS {wr W : World} {cb b : Nat} {u0 u1 : Value} (h : (W.cell? ⟨b, 0, none⟩ = some u0 ∧ W.cell? ⟨b, 1, none⟩ = some u1) ∧ SB b cb u0 u1 wr W) : wr.heap.size ≤ W.heap.size := h.2.2.2.1.2.size
theorem keepLD {wr W : World} {cb b : Nat} {u0 u1 : Value} (h : (W.cell? ⟨b, 0, none⟩ = some u0 ∧ W.cell? ⟨b, 1, none⟩ = some u1) ∧ SB b cb u0 u1 wr W) :
    ((W.drew).cell? ⟨b, 0, none⟩ = some u0 ∧ (W.drew).cell? ⟨b, 1, none⟩ = some u1) ∧ SB b cb u0 u1 wr W.drew := keepLB (Below.refl _ _).drew h
/-- A box that a round has made, still empty. -/
structure NB (wr W : World) (g : Nat) : Prop where
  ge : wr.heap.size ≤ g
  lt : g < W.heap.size
  c0 : W.cell? ⟨g, 0, none⟩ = some (.slice none 0 0)
  c1 : W.cell? ⟨g, 1, none⟩ = some (.slice none 0 0)
  f0 : W.frozen? ⟨g, 0, none⟩ = false
  f1 : W.frozen? ⟨g, 1, none⟩ = false
theorem NB.new {wr W : World} {cb b : Nat} {u0 u1 : Value} {t : TypeId} (h : (W.cell? ⟨b, 0, none⟩ = some u0 ∧ W.cell? ⟨b, 1, none⟩ = some u1) ∧ SB b cb u0 u1 wr W) : NB wr (W.alloc (.cells #[.slice none 0 0, .slice none 0 0] t)) W.heap.size :=
  ⟨sizeS h, by simp, by go_simp, by go_simp, by go_simp, by go_simp⟩
theorem NB.newD {wr W : World} {cb b : Nat} {u0 u1 : Value} {t : TypeId} (h : (W.cell? ⟨b, 0, none⟩ = some u0 ∧ W.cell? ⟨b, 1, none⟩ = some u1) ∧ SB b cb u0 u1 wr W) : NB wr (W.drew.alloc (.cells #[.slice none 0 0, .slice none 0 0] t)) W.heap.size :=
  ⟨sizeS h, by simp, by go_simp, by go_simp, by go_simp, by go_simp⟩
theorem NB.kept {wr W W' : World} {g : Nat} (h : NB wr W g) (hB : W'.heap[g]? = W.heap[g]?) (hs : W.heap.size ≤ W'.heap.size) : NB wr W' g :=
  ⟨h.ge, Nat.lt_of_lt_of_le h.lt hs, (World.cell?_of_block hB).trans h.c0, (World.cell?_of_block hB).trans h.c1, (World.frozen?_of_block hB).trans h.f0, (World.frozen?_of_block hB).trans h.f1⟩
theorem NB.grown {wr W W' : World} {g cb : Nat} (hc : cb < wr.heap.size) (hg : W.grownBy W' (some cb)) (h : NB wr W g) : NB wr W' g := h.kept (hg.block g h.lt (by have := h.ge; simp; omega)) hg.size
theorem NB.below {wr W W' : World} {g : Nat} (hB : Below W.heap.size W W') (h : NB wr W g) : NB wr W' g := h.kept (hB.block g h.lt) hB.size
theorem LV.nb {wr W W' : World} {g : Nat} {v : Value} {z y : List (List Int)} (h : NB wr W g) (hL : LV true W' v z y W.heap.size W'.heap.size) (u u' : Value) : LV true ((W'.setCell ⟨g, 0, none⟩ u).setCell ⟨g, 1, none⟩ u') v z y W.heap.size W'.heap.size := by
  have ht : Touch [g] W' ((W'.setCell ⟨g, 0, none⟩ u).setCell ⟨g, 1, none⟩ u') := ((Touch.refl _ _).setCell (by simp) _).setCell (by simp) _
  exact hL.touchF ht (fun x hx => by simp only [List.mem_singleton] at hx; have := h.lt; omega)
theorem LV.na {W W' : World} {v : Value} {z y : List (List Int)} (hL : LV true W' v z y W.heap.size W'.heap.size) (o : Obj) : LV true (W'.alloc o) v z y W.heap.size W'.heap.size := hL.below ((Below.refl _ _).alloc (Nat.le_refl _) _)
theorem sizeB {wr W W' : World} {cb b : Nat} {u0 u1 : Value} (hb : Below W.heap.size W W') (h : (W.cell? ⟨b, 0, none⟩ = some u0 ∧ W.cell? ⟨b, 1, none⟩ = some u1) ∧ SB b cb u0 u1 wr W) : wr.heap.size ≤ W.heap.size := sizeS h
/-- What a round's drawn statement leaves: the new lists in a new box. -/
structure ND (wr X : World) (b cb g : Nat) (u0 u1 c0 c1 : Value) (z y : List (List Int)) : Prop where
  s : (X.cell? ⟨b, 0, none⟩ = some u0 ∧ X.cell? ⟨b, 1, none⟩ = some u1) ∧ SB b cb u0 u1 wr X
  e0 : X.cell? ⟨g, 0, none⟩ = some c0
  e1 : X.cell? ⟨g, 1, none⟩ = some c1
  l : ∃ lo hi, LV true X (.agg #[c0, c1]) z y lo hi ∧ wr.heap.size ≤ lo
theorem ND.ofA {wr W w' : World} {cb b : Nat} {u0 u1 c0 c1 : Value} {z y : List (List Int)} (hl : wr.heap.size ≤ W.heap.size) (hS : (w'.cell? ⟨b, 0, none⟩ = some u0 ∧ w'.cell? ⟨b, 1, none⟩ = some u1) ∧ SB b cb u0 u1 wr w')
    (hL : LV true w' (.agg #[c0, c1]) z y W.heap.size w'.heap.size) : ∃ X, X = w'.alloc (.cells #[c0, c1] 26) ∧ ND wr X b cb w'.heap.size u0 u1 c0 c1 z y :=
  ⟨_, rfl, keepLA hS _, by go_simp, by go_simp, _, _, hL.na _, hl⟩
theorem ND.ofB {wr W w' : World} {cb b g : Nat} {u0 u1 c0 c1 : Value} {z y : List (List Int)} (hl : wr.heap.size ≤ W.heap.size) (hS : (w'.cell? ⟨b, 0, none⟩ = some u0 ∧ w'.cell? ⟨b, 1, none⟩ = some u1) ∧ SB b cb u0 u1 wr w')
    (hL : LV true w' (.agg #[c0, c1]) z y W.heap.size w'.heap.size) (hW : NB wr W g) (hX : NB wr w' g) : ∃ X, X = (w'.setCell ⟨g, 0, none⟩ c0).setCell ⟨g, 1, none⟩ c1 ∧ ND wr X b cb g u0 u1 c0 c1 z y := by
  have y0 := hX.c0
  have y1 := hX.c1
  have y2 := hX.f0
  have y3 := hX.f1
  exact ⟨_, rfl, keepLS (keepLS hS hX.ge _) hX.ge _, by go_simp, by go_simp, _, _, LV.nb hW hL _ _, hl⟩
/-- The round's end: the new lists lie in the box. -/
theorem LL.next {w wr X : World} {C D C' D' : Option Addr} {n k n' q k' q' cb b r r' lo hi : Nat} {z y z' y' : List (List Int)} {u0 u1 : Value} (h : LL w wr cb b C D n k n' q z y r) (hS : (X.cell? ⟨b, 0, none⟩ = some u0 ∧ X.cell? ⟨b, 1, none⟩ = some u1) ∧ SB b cb u0 u1 wr X)
    (hL : LV true X (.agg #[.slice C' n k', .slice D' n' q']) z' y' lo hi) (hlo : wr.heap.size ≤ lo) (hz : z'.length = 3) (hy : y'.length = 9) (hr : tot z' y' ≤ r') :
    LL w ((X.setCell ⟨b, 0, none⟩ (.slice C' n k')).setCell ⟨b, 1, none⟩ (.slice D' n' q')) cb b C' D' n k' n' q' z' y' r' := by
  obtain ⟨⟨h0, h1⟩, h2, h3, h4, h5, h6, h7⟩ := hS
  have hX := h.keep h4
  obtain ⟨X', hX'⟩ : ∃ X', X' = (X.setCell ⟨b, 0, none⟩ (.slice C' n k')).setCell ⟨b, 1, none⟩ (.slice D' n' q') := ⟨_, rfl⟩
  rw [← hX']
  have ht : Touch [b] X X' := by rw [hX']; exact ((Touch.refl _ _).setCell (by simp) _).setCell (by simp) _
  have c0 : X'.cell? ⟨b, 0, none⟩ = some (.slice C' n k') := by rw [hX']; go_simp
  have c1 : X'.cell? ⟨b, 1, none⟩ = some (.slice D' n' q') := by rw [hX']; go_simp
  have f0 : X'.frozen? ⟨b, 0, none⟩ = false := by rw [hX']; go_simp
  have f1 : X'.frozen? ⟨b, 1, none⟩ = false := by rw [hX']; go_simp
  have hW : X'.heap[w.heap.size]? = X.heap[w.heap.size]? := ht.block _ (by have := hX.hb; have := hX.lt; omega) (by simp; have := hX.hb; omega)
  have hb := h.hb
  have hcw := h.cw
  have hcur : Cur X' cb := by
    obtain ⟨A, n, c, zs, i, x, hh, h1, h2, h3, h4⟩ := hX.cur
    exact ⟨A, n, c, zs, i, x, (ht.block cb hX.cur.lt (by simp; omega)).trans hh, h1, h2, h3, h4.touch ht (fun g hg => by simp only [List.mem_singleton] at hg; omega) (Nat.le_of_lt hX.cur.lt)⟩
  have hgr : w.grownBy X' (some cb) := ⟨ht.os.trans hX.gr.os, ht.tape.trans hX.gr.tape, ht.output.trans hX.gr.output, Nat.le_trans hX.gr.size ht.size, fun i hi hn => (ht.block i (Nat.lt_of_lt_of_le hi hX.gr.size) (by simp; omega)).trans (hX.gr.block i hi hn)⟩
  exact ⟨hcur, hgr, hcw, hb, Nat.lt_of_lt_of_le hX.lt ht.size, c0, c1, f0, f1, (World.cell?_of_block hW).trans hX.d0, (World.cell?_of_block hW).trans hX.d1, (World.frozen?_of_block hW).trans hX.g0, (World.frozen?_of_block hW).trans hX.g1,
    ⟨lo, hi, hL.touchF ht (fun g hg => by simp only [List.mem_singleton] at hg; omega), by omega, .inr (by omega)⟩, hz, hy, hr⟩
theorem LV.hi {full : Bool} {w : World} {v : Value} {z y : List (List Int)} {lo hi : Nat} (h : LV full w v z y lo hi) : hi ≤ w.heap.size := by
  obtain ⟨C, k, D, m, us, vs, F, G, e, h1, h2, h3, h4, h5⟩ := h
  exact h5
theorem LL.fin {w wr : World} {C D : Option Addr} {n k n' q cb b r : Nat} {z y : List (List Int)} (h : LL w wr cb b C D n k n' q z y (13 - r)) :
    LV true ((wr.setCell ⟨w.heap.size, 0, none⟩ (.slice C n k)).setCell ⟨w.heap.size, 1, none⟩ (.slice D n' q)) (.agg #[.slice C n k, .slice D n' q]) z y w.heap.size ((wr.setCell ⟨w.heap.size, 0, none⟩ (.slice C n k)).setCell ⟨w.heap.size, 1, none⟩ (.slice D n' q)).heap.size ∧
      z.length = 3 ∧ y.length = 9 ∧ tot z y ≤ 13 ∧ Cur ((wr.setCell ⟨w.heap.size, 0, none⟩ (.slice C n k)).setCell ⟨w.heap.size, 1, none⟩ (.slice D n' q)) cb ∧ w.grownBy ((wr.setCell ⟨w.heap.size, 0, none⟩ (.slice C n k)).setCell ⟨w.heap.size, 1, none⟩ (.slice D n' q)) (some cb) := by
  obtain ⟨X', hX'⟩ : ∃ X', X' = (wr.setCell ⟨w.heap.size, 0, none⟩ (.slice C n k)).setCell ⟨w.heap.size, 1, none⟩ (.slice D n' q) := ⟨_, rfl⟩
  rw [← hX']
  have ht : Touch [w.heap.size] wr X' := by rw [hX']; exact ((Touch.refl _ _).setCell (by simp) _).setCell (by simp) _
  have hb := h.hb
  have hcw := h.cw
  have hlt := h.lt
  have hcur : Cur X' cb := by
    obtain ⟨A, n, c, zs, i, x, hh, h1, h2, h3, h4⟩ := h.cur
    exact ⟨A, n, c, zs, i, x, (ht.block cb h.cur.lt (by simp; omega)).trans hh, h1, h2, h3, h4.touch ht (fun g hg => by simp only [List.mem_singleton] at hg; omega) (Nat.le_of_lt h.cur.lt)⟩
  have hgr : w.grownBy X' (some cb) := ⟨ht.os.trans h.gr.os, ht.tape.trans h.gr.tape, ht.output.trans h.gr.output, Nat.le_trans h.gr.size ht.size, fun i hi hn => (ht.block i (Nat.lt_of_lt_of_le hi h.gr.size) (by simp; omega)).trans (h.gr.block i hi hn)⟩
  obtain ⟨lo, hi, hv, hl, hd⟩ := h.lv
  have hv2 := hv.touchF ht (fun g hg => by simp only [List.mem_singleton] at hg; omega)
  exact ⟨hv2.more (by omega) hv2.hi (Nat.le_refl _), h.lz, h.ly, Nat.le_trans h.sz (by omega), hcur, hgr⟩
theorem LL.start {w w1 w2 w3 : World} {C D : Option Addr} {n k n' q cb r : Nat} {z y : List (List Int)} {t : TypeId} (h1 : w1 = w.alloc (.cells #[.slice none 0 0, .slice none 0 0] t)) (hv : LV true w2 (.agg #[.slice C n k, .slice D n' q]) z y w1.heap.size w2.heap.size) (hb : Below w1.heap.size w1 w2)
    (h3 : w3 = w2.alloc (.cells #[.slice C n k, .slice D n' q] t)) (hc : Cur w cb) (hz : z.length = 3) (hy : y.length = 9) (hr : tot z y ≤ r) : LL w w3 cb w2.heap.size C D n k n' q z y r := by
  have hl := hc.lt
  have s1 : w1.heap.size = w.heap.size + 1 := by rw [h1]; simp
  have s2 := hb.size
  have s3 : w3.heap.size = w2.heap.size + 1 := by rw [h3]; simp
  have hb01 : Below w.heap.size w w1 := by rw [h1]; exact (Below.refl _ _).alloc (Nat.le_refl _) _
  have hb02 := below_go hb01 hb
  have hb23 : Below w2.heap.size w2 w3 := by rw [h3]; exact (Below.refl _ _).alloc (Nat.le_refl _) _
  have hb13 := below_go hb hb23
  have a0 : w1.cell? ⟨w.heap.size, 0, none⟩ = some (.slice none 0 0) := by rw [h1]; go_simp
  have a1 : w1.cell? ⟨w.heap.size, 1, none⟩ = some (.slice none 0 0) := by rw [h1]; go_simp
  have a2 : w1.frozen? ⟨w.heap.size, 0, none⟩ = false := by rw [h1]; go_simp
  have a3 : w1.frozen? ⟨w.heap.size, 1, none⟩ = false := by rw [h1]; go_simp
  have b0 : w3.cell? ⟨w2.heap.size, 0, none⟩ = some (.slice C n k) := by rw [h3]; go_simp
  have b1 : w3.cell? ⟨w2.heap.size, 1, none⟩ = some (.slice D n' q) := by rw [h3]; go_simp
  have b2 : w3.frozen? ⟨w2.heap.size, 0, none⟩ = false := by rw [h3]; go_simp
  have b3 : w3.frozen? ⟨w2.heap.size, 1, none⟩ = false := by rw [h3]; go_simp
  have hW := hb13.block w.heap.size (by omega)
  have hb03 := below_go hb02 hb23
  exact ⟨hc.below hb03 hl, grown_below hb03 _, hl, by omega, by omega, b0, b1, b2, b3, (World.cell?_of_block hW).trans a0, (World.cell?_of_block hW).trans a1, (World.frozen?_of_block hW).trans a2, (World.frozen?_of_block hW).trans a3,
    ⟨_, _, hv.below hb23, by omega, .inl (Nat.le_refl _)⟩, hz, hy, hr⟩
theorem LL.give {w wK : World} {C D : Option Addr} {n k n' q cb b r : Nat} {z y : List (List Int)} (h : LL w wK cb b C D n k n' q z y r) (hr : r ≤ 100) (k1 k2 k3 : Int) (W : World) (hS : (W.cell? ⟨b, 0, none⟩ = some (.slice C n k) ∧ W.cell? ⟨b, 1, none⟩ = some (.slice D n' q)) ∧ SB b cb (.slice C n k) (.slice D n' q) wK W) :
    Calls Try.prog 7 #[.agg #[.slice C n k, .slice D n' q], .int .i64 k1, .int .i64 k2, .int .i64 k3] W fun e w' => ∃ C' k' D' q' z' y' bb, e = .returned (.tuple #[.agg #[.slice C' n k', .slice D' n' q'], .bool bb]) ∧
      LV true w' (.agg #[.slice C' n k', .slice D' n' q']) z' y' W.heap.size w'.heap.size ∧ Below W.heap.size W w' ∧ z'.length = 3 ∧ y'.length = 9 ∧ tot z' y' ≤ r + 1 := by
  have hW := h.keep hS.2.2.2.1
  obtain ⟨lo, hi, hv, _⟩ := hW.lv
  obtain ⟨hn, _, hn', _, h5, h6⟩ := hv.rd
  obtain ⟨t1, t2, t3⟩ := give_tot z y k1 k2 k3
  have hz := h.lz
  have hy := h.ly
  have hs := h.sz
  have hs' := hs
  unfold tot at hs'
  refine (specGive_any C D n k n' q z y k1 k2 k3 W hn hn' (by rw [hn, hn']; omega) h5 h6).mono ?_
  rintro e w' ⟨v, rfl, hL, hb⟩
  obtain ⟨C', k', D', q', rfl⟩ := hL.shp
  rw [t1, t2, ← hn, ← hn'] at hL ⊢
  exact ⟨C', k', D', q', _, _, _, rfl, hL, hb, t1.trans hz, t2.trans hy, by omega⟩
set_option maxRecDepth 100000 in
set_option maxHeartbeats 3200000 in
theorem l8Lists_any (cb : Nat) (w : World) (hcur : Cur w cb) :
    Calls Try.prog 36 #[.pointer (some ⟨cb, 0, none⟩)] w fun e w' => ∃ v z y, e = .returned v ∧ LV true w' v z y w.heap.size w'.heap.size ∧ z.length = 3 ∧ y.length = 9 ∧ tot z y ≤ 13 ∧ Cur w' cb ∧ w.grownBy w' (some cb) := by
  have HC := hide hcur
  clear hcur
  go_enter Try.func36, Try.ntmps36
  go_wp2_with fail
  obtain ⟨w1, h1⟩ : ∃ W : World, W = w.alloc (.cells #[.slice none 0 0, .slice none 0 0] 26) := ⟨_, rfl⟩
  rw [← h1]
  have H1 := hide h1
  clear h1
  refine (specListsNew_v w1).mono ?_
  rintro e w2 ⟨v, rfl, hv, hb⟩
  obtain ⟨C, k, D, q, rfl⟩ := hv.shp
  obtain ⟨n, hn⟩ : ∃ n, n = e3.length := ⟨_, rfl⟩
  obtain ⟨n', hn'⟩ : ∃ n, n = e9.length := ⟨_, rfl⟩
  rw [← hn, ← hn'] at hv ⊢
  have HN := hide hn
  have HN' := hide hn'
  have HV := hide hv
  have HB := hide hb
  clear hn hn' hv hb
  go_wp2_with fail
  obtain ⟨w3, h3⟩ : ∃ W : World, W = w2.alloc (.cells #[.slice C n k, .slice D n' q] 26) := ⟨_, rfl⟩
  rw [← h3]
  have HL3 := hide (LL.start H1.out HV.out HB.out h3 HC.out (by decide) (by decide) (r := 0) (by decide))
  clear h3
  obtain ⟨b, hb⟩ : ∃ b, b = w2.heap.size := ⟨_, rfl⟩
  rw [← hb] at HL3 ⊢
  clear hb HV HB H1
  refine (l1Below_any _ _ _ HL3.out.cur (by omega)).mono ?_
  rintro e w4 ⟨⟨m, rfl, hm⟩, hc, hg⟩
  have hm1 : m ≤ 13 := by omega
  have HL4 := hide (HL3.out.keep ⟨hc, hg⟩)
  clear hc hg hm HL3
  go_wp2
  go_loopg [4] (m + 1) (fun g i wo => ∃ wr : World, wr = wo ∧ ∃ j C D k q z y, j ≤ 13 ∧ g = j + 1 ∧ i = .int .i64 (j : Int) ∧ LL w wr cb b C D n k n' q z y (13 - j))
  case atStart => exact ⟨_, rfl, m, C, D, k, q, e3, e9, hm1, rfl, rfl, by have h := HL4.out; exact ⟨h.cur, h.gr, h.cw, h.hb, h.lt, h.c0, h.c1, h.f0, h.f1, h.d0, h.d1, h.g0, h.g1, h.lv, h.lz, h.ly, Nat.le_trans h.sz (Nat.zero_le _)⟩⟩
  case round =>
    clear HL4 HN HN'
    obtain ⟨wr, rfl, j, C, D, k, q, z, y, hj, hg, rfl, hL⟩ := hrel
    have HG := hide hg
    have HL := hide hL
    have x0 := hL.c0
    have x1 := hL.c1
    have x2 := hL.f0
    have x3 := hL.f1
    have x4 := hL.d0
    have x5 := hL.d1
    have x6 := hL.g0
    have x7 := hL.g1
    clear hg hL
    by_cases h0 : 0 < j
    · have hi : (0 : Int) < (j : Int) := by omega
      have lb := HL.out.lt
      have hne : b ≠ cb := by have := HL.out.hb; have := HL.out.cw; omega
      have lcb : cb < wr.heap.size := by have := HL.out.hb; have := HL.out.cw; omega
      have HK : Hid (∀ (k1 k2 k3 : Int) (W : World), ((W.cell? ⟨b, 0, none⟩ = some (.slice C n k) ∧ W.cell? ⟨b, 1, none⟩ = some (.slice D n' q)) ∧ SB b cb (.slice C n k) (.slice D n' q) wr W) → Calls Try.prog 7 #[.agg #[.slice C n k, .slice D n' q], .int .i64 k1, .int .i64 k2, .int .i64 k3] W fun e w' => ∃ C' k' D' q' z' y' bb, e = .returned (.tuple #[.agg #[.slice C' n k', .slice D' n' q'], .bool bb]) ∧
          LV true w' (.agg #[.slice C' n k', .slice D' n' q']) z' y' W.heap.size w'.heap.size ∧ Below W.heap.size W w' ∧ z'.length = 3 ∧ y'.length = 9 ∧ tot z' y' ≤ (13 - j) + 1) := hide (fun k1 k2 k3 W hS => HL.out.give (by omega) k1 k2 k3 W hS)
      have h00 : (wr.cell? ⟨b, 0, none⟩ = some (.slice C n k) ∧ wr.cell? ⟨b, 1, none⟩ = some (.slice D n' q)) ∧ SB b cb (.slice C n k) (.slice D n' q) wr wr := ⟨⟨x0, x1⟩, x2, x3, ⟨HL.out.cur, grown_refl _ _⟩, lb, hne, lcb⟩
      have H00 := hide h00
      clear h00
      go_wp2_with fail
      go_region_held3 (fun w' => (w'.cell? ⟨b, 0, none⟩ = some (.slice C n k) ∧ w'.cell? ⟨b, 1, none⟩ = some (.slice D n' q)) ∧ SB b cb (.slice C n k) (.slice D n' q) wr w')
        (first
          | exact H00.out
          | exact keepLD H00.out
          | assumption
          | exact keepLA H00.out _
          | exact keepLA (keepLD H00.out) _
          | exact keepLA (by assumption) _
          | exact keepLS (keepLS (by assumption) (NB.ge (by assumption)) _) (NB.ge (by assumption)) _)
        (first
          | (go_at_call 37; (with_reducible refine (l1Below_any cb 3 _ (by first | exact curS H00.out | exact curS (keepLD H00.out) | exact curS (by assumption)) (by omega)).mono ?_); rintro e w' ⟨⟨k3, rfl, hk⟩, hc, hg⟩; have hSk := keepLL hc hg (by first | exact H00.out | exact keepLD H00.out | assumption); (first | (have hX := NB.grown lcb hg (by first | exact NB.new H00.out | exact NB.newD H00.out | exact NB.new (by assumption) | assumption); have y0 := hX.c0; have y1 := hX.c1; have y2 := hX.f0; have y3 := hX.f1) | skip))
          | (go_at_call 37; (with_reducible refine (l1Below_any cb 24 _ (by first | exact curS H00.out | exact curS (keepLD H00.out) | exact curS (by assumption)) (by omega)).mono ?_); rintro e w' ⟨⟨k3, rfl, hk⟩, hc, hg⟩; have hSk := keepLL hc hg (by first | exact H00.out | exact keepLD H00.out | assumption); (first | (have hX := NB.grown lcb hg (by first | exact NB.new H00.out | exact NB.newD H00.out | exact NB.new (by assumption) | assumption); have y0 := hX.c0; have y1 := hX.c1; have y2 := hX.f0; have y3 := hX.f1) | skip))
          | (go_at_call 7; refine (HK.out _ _ _ _ (by assumption)).mono ?_; rintro e w' ⟨C', k', D', q', z', y', bb, rfl, hL', hb', hz', hy', ht'⟩; have hlo := sizeB hb' (by assumption); have hSg := keepLB hb' (by assumption);
              (first | (have hX := NB.below hb' (by first | exact NB.new (by assumption) | assumption); have hN := ND.ofB hlo hSg hL' (by first | exact NB.new (by assumption) | assumption) hX; have y0 := hX.c0; have y1 := hX.c1; have y2 := hX.f0; have y3 := hX.f1) | (have hN := ND.ofA hlo hSg hL'))))
      all_goals
        obtain ⟨X, hXe, hN⟩ := hN
        rw [← hXe]
        have HN := hide hN
        have HZ := hide (And.intro hz' (And.intro hy' ht'))
        have z0 := hN.s.1.1
        have z1 := hN.s.1.2
        have z2 := hN.s.2.1
        have z3 := hN.s.2.2.1
        have z4 := hN.e0
        have z5 := hN.e1
        clear hXe hN hz' hy' ht'
        go_wp2_with fail
        go_roundg (j - 1 + 1)
        case measure => have := HG.out; omega
        case rel =>
          obtain ⟨lo, hi', hl, hlo'⟩ := HN.out.l
          exact ⟨_, rfl, j - 1, C', D', k', q', z', y', by omega, by rfl, by go_num, LL.next HL.out HN.out.s hl hlo' HZ.out.1 HZ.out.2.1 (by have := HZ.out.2.2; omega)⟩
    · have hi : ¬ (0 : Int) < (j : Int) := by omega
      go_wp2_with fail
      exact bodyPost_ret (v := .agg #[.slice C n k, .slice D n' q]) (by simp [results, Try.results36, go_sem, x4, x5]) rfl ⟨_, rfl, z, y, HL.out.fin⟩
end Go.Proofs.Ytdhocncfpapncab
