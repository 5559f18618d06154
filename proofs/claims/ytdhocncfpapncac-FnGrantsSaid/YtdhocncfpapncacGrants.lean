/-
  The law FnGrants: its walk.
-/
import Derived.Test.YtdhocncfpapncacGPlain
import Derived.Test.YtdhocncfpapncacGDrawG
import Derived.Test.YtdhocncfpapncacGrantI
import Derived.Test.YtdhocncfpapncacSetGenI
import Derived.Test.YtdhocncfpapncacSameHeap
import Derived.IntWalk
namespace Go.Proofs.Ytdhocncfpapncac
open Go.RowKit
set_option linter.unusedVariables false

structure BH (W : World) (A A' : Option Addr) (n k m q : Nat) (x y : List Int) : Prop where
  en : n = x.length
  em : m = y.length
  hz : n ≤ 1048576
  hz' : m ≤ 1048576
  hk : n ≤ k
  hkm : k ≤ maxLen
  r0 : RdB .i64 W A x W.heap.size
  r1 : RdB .i64 W A' y W.heap.size
theorem BH.below {W W' : World} {A A' : Option Addr} {n k m q : Nat} {x y : List Int} (h : BH W A A' n k m q x y) (hb : Below W.heap.size W W') : BH W' A A' n k m q x y :=
  ⟨h.en, h.em, h.hz, h.hz', h.hk, h.hkm, rdB_at h.r0 hb, rdB_at h.r1 hb⟩
def Bx (W : World) (p : Nat) (u0 u1 : Value) : Prop := W.cell? ⟨p, 0, none⟩ = some u0 ∧ W.cell? ⟨p, 1, none⟩ = some u1 ∧ p < W.heap.size
theorem Bx.below {W W' : World} {p : Nat} {u0 u1 : Value} (h : Bx W p u0 u1) (hb : Below W.heap.size W W') : Bx W' p u0 u1 :=
  ⟨by rw [hb.cell h.2.2]; exact h.1, by rw [hb.cell h.2.2]; exact h.2.1, Nat.lt_of_lt_of_le h.2.2 hb.size⟩
theorem Bx.new {W : World} {u0 u1 : Value} {t : TypeId} : Bx (W.alloc (.cells #[u0, u1] t)) W.heap.size u0 u1 := ⟨by go_simp, by go_simp, by simp⟩
theorem below_drewN (W : World) (n : Nat) : Below W.heap.size W (W.drewN n) := ⟨rfl, rfl, rfl, Nat.le_refl _, fun _ _ => rfl⟩
theorem below_new {W : World} (o : Obj) : Below W.heap.size W (W.alloc o) := (Below.refl _ _).alloc (Nat.le_refl _) _
theorem GRes.bh {w w' : World} {e : Ending} {n n' : Nat} {x y sl : List Int} (h : GRes w w' e n n' x y sl) (hn : n ≤ 1048576) (hn' : n' ≤ 1048576) :
    ∃ B d B' d' S cs, e = .returned (.tuple #[.agg #[.slice B n d, .slice B' n' d'], .slice S sl.length cs]) ∧ BH w' B B' n d n' d' x y ∧ RdB .i64 w' S sl w'.heap.size ∧ Below w.heap.size w w' ∧ (0 < n → ∃ g, B = some ⟨g, 0, none⟩) ∧ (0 < n' → ∃ g, B' = some ⟨g, 0, none⟩) ∧ (0 < sl.length → ∃ g, S = some ⟨g, 0, none⟩) := by
  obtain ⟨B, d, F, B', d', F', S, cs, G, rfl, hC, hO, hG⟩ := h
  have r1 := hC.1.rd
  have r2 := hC.2.1.rd
  obtain ⟨_, c1, c2, _⟩ := hC.1.read
  exact ⟨B, d, B', d', S, cs, rfl, ⟨r1.1, r2.1, hn, hn', c1, c2, r1.2, r2.2⟩, hO.rd.2, hC.2.2.2.2, fun h0 => (own_at hC.1 (by omega)).imp fun g h => h.1, fun h0 => (own_at hC.2.1 (by omega)).imp fun g h => h.1, fun h0 => (own_at hO h0).imp fun g h => h.1⟩
theorem HRes.bh {w w' : World} {e : Ending} {n n' : Nat} {x y : List Int} {ok : Bool} (h : HRes w w' e n n' x y ok) (hn : n ≤ 1048576) (hn' : n' ≤ 1048576) :
    ∃ B d B' d', e = .returned (.tuple #[.agg #[.slice B n d, .slice B' n' d'], .bool ok]) ∧ BH w' B B' n d n' d' x y ∧ Below w.heap.size w w' := by
  obtain ⟨B, d, F, B', d', F', rfl, hC⟩ := h
  have r1 := hC.1.rd
  have r2 := hC.2.1.rd
  obtain ⟨_, c1, c2, _⟩ := hC.1.read
  exact ⟨B, d, B', d', rfl, ⟨r1.1, r2.1, hn, hn', c1, c2, r1.2, r2.2⟩, hC.2.2.2.2⟩
theorem rd_cell {W : World} {g : Nat} {sl : List Int} {U : Nat} (h : RdB .i64 W (some ⟨g, 0, none⟩) sl U) {j : Nat} (hj : j < sl.length) : W.cell? ⟨g, j, none⟩ = some (.int .i64 (sl.getD j 0)) ∧ g < U := by
  obtain ⟨b, off, e, hb, hc⟩ := h j hj
  simp only [Option.some.injEq, Addr.mk.injEq, and_true] at e
  obtain ⟨rfl, rfl⟩ := e
  rw [Nat.zero_add] at hc
  exact ⟨hc, hb⟩
theorem keep5 {wK W W' : World} {p q r s t : Addr} {u0 u1 u2 u3 u4 : Value} (hp : p.block < wK.heap.size) (hq : q.block < wK.heap.size) (hr : r.block < wK.heap.size) (hs : s.block < wK.heap.size) (ht : t.block < wK.heap.size)
    (hb : Below W.heap.size W W') (h : (W.cell? p = some u0 ∧ W.cell? q = some u1 ∧ W.cell? r = some u2 ∧ W.cell? s = some u3 ∧ W.cell? t = some u4) ∧ Below wK.heap.size wK W) :
    (W'.cell? p = some u0 ∧ W'.cell? q = some u1 ∧ W'.cell? r = some u2 ∧ W'.cell? s = some u3 ∧ W'.cell? t = some u4) ∧ Below wK.heap.size wK W' := by
  have hz := h.2.size
  obtain ⟨⟨h0, h1, h2, h3, h4⟩, hB⟩ := h
  exact ⟨⟨by rw [hb.cell (by omega)]; exact h0, by rw [hb.cell (by omega)]; exact h1, by rw [hb.cell (by omega)]; exact h2, by rw [hb.cell (by omega)]; exact h3, by rw [hb.cell (by omega)]; exact h4⟩, hB.trans (hb.mono hz)⟩
theorem keep3 {wK W W' : World} {p q r : Addr} {u0 u1 u2 : Value} (hp : p.block < wK.heap.size) (hq : q.block < wK.heap.size) (hr : r.block < wK.heap.size)
    (hb : Below W.heap.size W W') (h : (W.cell? p = some u0 ∧ W.cell? q = some u1 ∧ W.cell? r = some u2) ∧ Below wK.heap.size wK W) :
    (W'.cell? p = some u0 ∧ W'.cell? q = some u1 ∧ W'.cell? r = some u2) ∧ Below wK.heap.size wK W' := by
  have hz := h.2.size
  obtain ⟨⟨h0, h1, h2⟩, hB⟩ := h
  exact ⟨⟨by rw [hb.cell (by omega)]; exact h0, by rw [hb.cell (by omega)]; exact h1, by rw [hb.cell (by omega)]; exact h2⟩, hB.trans (hb.mono hz)⟩
theorem keep3S {wK W : World} {p q r : Addr} {u0 u1 u2 : Value} (hp : p.block < wK.heap.size) (hq : q.block < wK.heap.size) (hr : r.block < wK.heap.size)
    (h : (W.cell? p = some u0 ∧ W.cell? q = some u1 ∧ W.cell? r = some u2) ∧ Below wK.heap.size wK W) {t : Addr} (ht : wK.heap.size ≤ t.block) (u : Value) :
    ((W.setCell t u).cell? p = some u0 ∧ (W.setCell t u).cell? q = some u1 ∧ (W.setCell t u).cell? r = some u2) ∧ Below wK.heap.size wK (W.setCell t u) := by
  have hk : ∀ b, b < wK.heap.size → (W.setCell t u).heap[b]? = W.heap[b]? := fun b hb => Below.heap_setCell _ _ _ _ (by omega)
  exact ⟨⟨(World.cell?_of_block (hk _ hp)).trans h.1.1, (World.cell?_of_block (hk _ hq)).trans h.1.2.1, (World.cell?_of_block (hk _ hr)).trans h.1.2.2⟩, h.2.setCell ht _⟩
theorem NB.newW {wr W : World} {t : TypeId} (h : Below wr.heap.size wr W) : NB wr (W.alloc (.cells #[.slice none 0 0, .slice none 0 0] t)) W.heap.size :=
  ⟨h.size, by simp, by go_simp, by go_simp, by go_simp, by go_simp⟩
theorem NB.newWD {wr W : World} {t : TypeId} (h : Below wr.heap.size wr W) : NB wr (W.drew.alloc (.cells #[.slice none 0 0, .slice none 0 0] t)) W.heap.size :=
  ⟨h.size, by simp, by go_simp, by go_simp, by go_simp, by go_simp⟩
theorem YB.ofA {wr W w' : World} {x y : List Int} {B : Option Addr} {d : Nat} {F : List Nat} {B' : Option Addr} {d' : Nat} {F' : List Nat} (hW : Below wr.heap.size wr W) (hC : CopyH W w' 384 6 x y B d F B' d' F') :
    ∃ X g, X = w'.alloc (.cells #[.slice B 384 d, .slice B' 6 d'] 26) ∧ g = w'.heap.size ∧ Below wr.heap.size wr X ∧ Bx X g (.slice B 384 d) (.slice B' 6 d') ∧ BH X B B' 384 d 6 d' x y := by
  have r1 := hC.1.rd
  have r2 := hC.2.1.rd
  obtain ⟨_, c1, c2, _⟩ := hC.1.read
  exact ⟨_, _, rfl, rfl, (hW.trans (hC.2.2.2.2.mono hW.size)).trans ((below_new _).mono (Nat.le_trans hW.size hC.2.2.2.2.size)), Bx.new, BH.below ⟨r1.1, r2.1, by omega, by omega, c1, c2, r1.2, r2.2⟩ (below_new _)⟩
theorem YB.ofB {wr W w' : World} {x y : List Int} {B : Option Addr} {d : Nat} {F : List Nat} {B' : Option Addr} {d' : Nat} {F' : List Nat} {g : Nat} (hW : Below wr.heap.size wr W) (hC : CopyH W w' 384 6 x y B d F B' d' F') (h1 : NB wr W g) (h2 : NB wr w' g) :
    ∃ X g', X = (w'.setCell ⟨g, 0, none⟩ (.slice B 384 d)).setCell ⟨g, 1, none⟩ (.slice B' 6 d') ∧ g' = g ∧ Below wr.heap.size wr X ∧ Bx X g' (.slice B 384 d) (.slice B' 6 d') ∧ BH X B B' 384 d 6 d' x y := by
  have hg := h1.lt
  have hge := h1.ge
  have hlt := h2.lt
  have ht : Touch [g] w' ((w'.setCell ⟨g, 0, none⟩ (.slice B 384 d)).setCell ⟨g, 1, none⟩ (.slice B' 6 d')) := ((Touch.refl _ _).setCell (by simp) _).setCell (by simp) _
  have o1 := hC.1.touch ht (fun b hb hm => by have := hC.2.2.1 b (List.mem_append_left _ hb); simp only [List.mem_singleton] at hm; omega)
  have o2 := hC.2.1.touch ht (fun b hb hm => by have := hC.2.2.1 b (List.mem_append_right _ hb); simp only [List.mem_singleton] at hm; omega)
  have r1 := o1.rd
  have r2 := o2.rd
  obtain ⟨_, c1, c2, _⟩ := o1.read
  have y0 := h2.c0
  have y1 := h2.c1
  have y2 := h2.f0
  have y3 := h2.f1
  exact ⟨_, _, rfl, rfl, ((hW.trans (hC.2.2.2.2.mono hW.size)).setCell hge _).setCell hge _, ⟨by go_simp, by go_simp, Nat.lt_of_lt_of_le hlt ht.size⟩, ⟨r1.1, r2.1, by omega, by omega, c1, c2, r1.2, r2.2⟩⟩
set_option maxRecDepth 100000 in
set_option maxHeartbeats 6400000 in
theorem fnGrants_core (A : Option Addr) (n c : Nat) (zs : List Int) (w : World) (hn : n = zs.length) (hz : n ≤ 1048576) (hr : RdB .u8 w A zs w.heap.size) :
    Calls Try.prog 3 #[.slice A n c] w fun e w' => e = .returned (.bool true) ∧ Below w.heap.size w w' := by
  have HN := hide hn
  have hzi : ¬ (1048576 : Int) < (n : Int) := by omega
  have HZ := hide hz
  have HR := hide hr
  clear hn hr hz
  go_enter Try.func3, Try.ntmps3
  go_wp2_with (first | (go_at_call 4; go_in))
  refine (drawGrant_any A n c zs w HN.out (by have := HZ.out; omega) HR.out).mono ?_
  rintro e w1 ⟨a, k, a', q, x, y, v, rfl, i1, i2, i3, i4, i5, i6, i7, i8, hb1⟩
  obtain ⟨n0, hn0⟩ : ∃ n0, n0 = x.length := ⟨_, rfl⟩
  obtain ⟨m0, hm0⟩ : ∃ m0, m0 = y.length := ⟨_, rfl⟩
  have L1 := hide (BH.mk (W := w1) (k := k) (q := q) hn0 hm0 (by omega) (by omega) (by omega) i4 i5 i6)
  have HB1 := hide hb1
  rw [← hn0, ← hm0]
  have hm07 : m0 ≤ 7 := by omega
  clear i1 i2 i3 i4 i5 i6 hb1 hn0 hm0 HR HZ HN hzi
  go_wp2_with fail
  obtain ⟨w2, h2⟩ : ∃ W : World, W = w1.alloc (.cells #[.slice (some a) n0 k, .slice (some a') m0 q] 26) := ⟨_, rfl⟩
  rw [← h2]
  have hb : Below w1.heap.size w1 w2 := by rw [h2]; exact below_new _
  have X3 := hide (show Bx w2 w1.heap.size (.slice (some a) n0 k) (.slice (some a') m0 q) by rw [h2]; exact Bx.new)
  obtain ⟨p3, hp3⟩ : ∃ p, p = w1.heap.size := ⟨_, rfl⟩
  rw [← hp3] at X3 ⊢
  have L2 := hide (L1.out.below hb)
  have HB2 := hide (HB1.out.trans (hb.mono HB1.out.size))
  clear hb h2 hp3 L1 HB1
  have x0 := X3.out.1
  have x1 := X3.out.2.1
  go_wp2_with fail
  refine (implGrant_any a a' n0 k m0 q x y v w2 L2.out.en L2.out.em L2.out.hz L2.out.hz' L2.out.hk L2.out.hkm L2.out.r0 L2.out.r1).mono ?_
  rintro e w3 hG
  obtain ⟨B, d, B', d', S, cs, rfl, hg, hS, hb, sB, sB', sS⟩ := hG.bh L2.out.hz L2.out.hz'
  obtain ⟨sl, hsl⟩ : ∃ sl, sl = gS x y v := ⟨_, rfl⟩
  obtain ⟨X, hX⟩ : ∃ X, X = gX x y v := ⟨_, rfl⟩
  obtain ⟨Y, hY⟩ : ∃ Y, Y = gY x y v := ⟨_, rfl⟩
  have hle : sl.length ≤ 4 := by rw [hsl]; exact gS_le _ _ _
  rw [← hsl] at hS sS ⊢
  rw [← hX, ← hY] at hg
  obtain ⟨ls, hls⟩ : ∃ ls, ls = sl.length := ⟨_, rfl⟩
  rw [← hls] at hle sS ⊢
  have HSL := hide (And.intro hsl (And.intro hX (And.intro hY hls)))
  have SB := hide (And.intro sB (And.intro sB' sS))
  have L3 := hide (L2.out.below hb)
  have G3 := hide hg
  have R3 := hide hS
  have X33 := hide (X3.out.below hb)
  have HB3 := hide (HB2.out.trans (hb.mono HB2.out.size))
  clear hb hG hg hS sB sB' sS x0 x1 X3 L2 HB2 hsl hX hY hls
  have x0 := X33.out.1
  have x1 := X33.out.2.1
  have x2 := X33.out.2.2
  go_wp2_with fail
  obtain ⟨w4, h4⟩ : ∃ W : World, W = w3.alloc (.cells #[.slice B n0 d, .slice B' m0 d'] 26) := ⟨_, rfl⟩
  rw [← h4]
  have hb : Below w3.heap.size w3 w4 := by rw [h4]; exact below_new _
  have X5 := hide (show Bx w4 w3.heap.size (.slice B n0 d) (.slice B' m0 d') by rw [h4]; exact Bx.new)
  obtain ⟨p5, hp5⟩ : ∃ p, p = w3.heap.size := ⟨_, rfl⟩
  rw [← hp5] at X5 ⊢
  have X3 := hide (X33.out.below hb)
  have L4 := hide (L3.out.below hb)
  have G4 := hide (G3.out.below hb)
  have R4 := hide (rdB_at R3.out hb)
  have HB4 := hide (HB3.out.trans (hb.mono HB3.out.size))
  clear hb h4 hp5 X33 L3 G3 R3 HB3 x0 x1 x2
  refine (specHeapOk_any (some a) (some a') n0 k m0 q x y w4 L4.out.en L4.out.em L4.out.hz L4.out.hz' L4.out.hk L4.out.hkm L4.out.r0 L4.out.r1).mono ?_
  rintro e w5 ⟨rfl, hb⟩
  have X31 := hide (X3.out.below hb)
  have X51 := hide (X5.out.below hb)
  have L5 := hide (L4.out.below hb)
  have G5 := hide (G4.out.below hb)
  have R5 := hide (rdB_at R4.out hb)
  have HB5 := hide (HB4.out.trans (hb.mono HB4.out.size))
  clear hb X3 X5 L4 G4 R4 HB4
  cases hok : hokR x y
  · -- the heap is not right
    have hno := grant_no (x := x) (y := y) (c := v) (.inl hok)
    have hls0 : ls = 0 := by rw [HSL.out.2.2.2, HSL.out.1, hno.2.2]; rfl
    have eX : X = x := HSL.out.2.1.trans hno.1
    have eY : Y = y := HSL.out.2.2.1.trans hno.2.1
    subst hls0 eX eY
    have x0 := X31.out.1
    have x1 := X31.out.2.1
    have x2 := X51.out.1
    have x3 := X51.out.2.1
    clear hno
    go_wp2_with fail
    refine (specSameHeap_any B (some a) B' (some a') n0 d n0 k m0 d' m0 q X Y X Y w5 G5.out.en G5.out.em L5.out.en L5.out.em (by have := L5.out.hz; omega) (by omega) (by have := L5.out.hz; omega) (by omega) G5.out.r0 G5.out.r1 L5.out.r0 L5.out.r1).mono ?_
    rintro e w6 ⟨rfl, hb⟩
    have HBz := hide (HB5.out.trans (hb.mono HB5.out.size))
    clear hb
    go_wp2_with fail
    go_ret
    exact ⟨retB (by simp), HBz.out⟩
  · have HOK := hide hok
    have hy6 : m0 = 6 := by have := (shape_parts (hok_parts hok).1).2.1; have := L5.out.em; omega
    have hx384 : n0 = 384 := by have := (shape_parts (hok_parts hok).1).1; have := L5.out.en; omega
    subst hy6 hx384
    clear hok hm07
    have x0 := X31.out.1
    have x1 := X31.out.2.1
    by_cases hv0 : v < 0
    · clear x0 x1
      have hno := grant_no (x := x) (y := y) (c := v) (.inr (.inl (by omega)))
      have hls0 : ls = 0 := by rw [HSL.out.2.2.2, HSL.out.1, hno.2.2]; rfl
      have eX : X = x := HSL.out.2.1.trans hno.1
      have eY : Y = y := HSL.out.2.2.1.trans hno.2.1
      subst hls0 eX eY
      have x0 := X31.out.1
      have x1 := X31.out.2.1
      have x2 := X51.out.1
      have x3 := X51.out.2.1
      clear hno
      go_wp2_with fail
      refine (specSameHeap_any B (some a) B' (some a') 384 d 384 k 6 d' 6 q X Y X Y w5 G5.out.en G5.out.em L5.out.en L5.out.em (by have := L5.out.hz; omega) (by omega) (by have := L5.out.hz; omega) (by omega) G5.out.r0 G5.out.r1 L5.out.r0 L5.out.r1).mono ?_
      rintro e w6 ⟨rfl, hb⟩
      have HBz := hide (HB5.out.trans (hb.mono HB5.out.size))
      clear hb
      go_wp2_with fail
      go_ret
      exact ⟨retB (by simp), HBz.out⟩
    by_cases hv3 : 3 ≤ v
    · clear x0 x1
      have hno := grant_no (x := x) (y := y) (c := v) (.inr (.inl (by omega)))
      have hls0 : ls = 0 := by rw [HSL.out.2.2.2, HSL.out.1, hno.2.2]; rfl
      have eX : X = x := HSL.out.2.1.trans hno.1
      have eY : Y = y := HSL.out.2.2.1.trans hno.2.1
      subst hls0 eX eY
      have x0 := X31.out.1
      have x1 := X31.out.2.1
      have x2 := X51.out.1
      have x3 := X51.out.2.1
      clear hno
      go_wp2_with fail
      refine (specSameHeap_any B (some a) B' (some a') 384 d 384 k 6 d' 6 q X Y X Y w5 G5.out.en G5.out.em L5.out.en L5.out.em (by have := L5.out.hz; omega) (by omega) (by have := L5.out.hz; omega) (by omega) G5.out.r0 G5.out.r1 L5.out.r0 L5.out.r1).mono ?_
      rintro e w6 ⟨rfl, hb⟩
      have HBz := hide (HB5.out.trans (hb.mono HB5.out.size))
      clear hb
      go_wp2_with fail
      go_ret
      exact ⟨retB (by simp), HBz.out⟩
    go_wp2_with fail
    refine (specUngr_any (some a) (some a') 384 k 6 q y w5 L5.out.em L5.out.hz' L5.out.r1).mono ?_
    rintro e w6 ⟨rfl, hb⟩
    have X32 := hide (X31.out.below hb)
    have X52 := hide (X51.out.below hb)
    have L6 := hide (L5.out.below hb)
    have G6 := hide (G5.out.below hb)
    have R6 := hide (rdB_at R5.out hb)
    have HB6 := hide (HB5.out.trans (hb.mono HB5.out.size))
    clear hb X31 X51 L5 G5 R5 HB5 x0 x1
    obtain ⟨u, hu⟩ : ∃ u, u = cntN y 6 := ⟨_, rfl⟩
    rw [← hu]
    have hu6 : u ≤ 6 := by rw [hu]; exact cntN_le y 6
    by_cases hu0 : u = 0
    · have hfr : frst y 6 = none := cnt_zero (by omega)
      subst hu0
      clear hu hu6
      have hno := grant_no (x := x) (y := y) (c := v) (.inr (.inr hfr))
      have hls0 : ls = 0 := by rw [HSL.out.2.2.2, HSL.out.1, hno.2.2]; rfl
      have eX : X = x := HSL.out.2.1.trans hno.1
      have eY : Y = y := HSL.out.2.2.1.trans hno.2.1
      subst hls0 eX eY
      have x0 := X32.out.1
      have x1 := X32.out.2.1
      have x2 := X52.out.1
      have x3 := X52.out.2.1
      clear hno
      go_wp2_with fail
      refine (specSameHeap_any B (some a) B' (some a') 384 d 384 k 6 d' 6 q X Y X Y w6 G6.out.en G6.out.em L6.out.en L6.out.em (by have := L6.out.hz; omega) (by omega) (by have := L6.out.hz; omega) (by omega) G6.out.r0 G6.out.r1 L6.out.r0 L6.out.r1).mono ?_
      rintro e w7 ⟨rfl, hb⟩
      have HBz := hide (HB6.out.trans (hb.mono HB6.out.size))
      clear hb
      go_wp2_with fail
      go_ret
      exact ⟨retB (by simp), HBz.out⟩
    obtain ⟨p, hp, hf, hyp⟩ := cnt_pos (y := y) (k := 6) (by omega)
    have go : GO x y v p := ⟨HOK.out, by omega, by omega, hp, hyp⟩
    have HGO := hide go
    have hgr := go.grant hf
    have eX : X = GX x v p := HSL.out.2.1.trans hgr.1
    have eY : Y = y.set p v := HSL.out.2.2.1.trans hgr.2.1
    have eS : sl = gsN p (perC v).toNat := HSL.out.1.trans hgr.2.2
    have els : (ls : Int) = perC v := by rw [HSL.out.2.2.2, eS, gsN_length]; exact go.per.2.2
    have hl1 : 1 ≤ ls := by have := go.per.1; rw [HSL.out.2.2.2, eS, gsN_length]; exact this
    have EQ := hide (And.intro eX (And.intro eY (And.intro eS els)))
    have hcn := go.cnt
    obtain ⟨f, hf0⟩ : ∃ f : Int, f = (cntN (y.set p v) 6 : Nat) := ⟨_, rfl⟩
    obtain ⟨U, hU⟩ : ∃ U : Int, U = f + 1 := ⟨_, rfl⟩
    have hfu : (u : Int) = U := by omega
    have hfb : 0 ≤ f ∧ f ≤ 6 := by omega
    have hwr : IntKind.i64.wrap (U - 1) = f := by rw [IntKind.wrap_i64]; omega
    obtain ⟨N1, hN1⟩ : ∃ N1, N1 = (carvR x y).length := ⟨_, rfl⟩
    obtain ⟨N2, hN2⟩ : ∃ N2, N2 = (carvR X Y).length := ⟨_, rfl⟩
    have hN12 : N2 = N1 + ls := by
      have h1 := go.carv
      have h2 : ls = (perC v).toNat := by omega
      rw [hN2, hN1, eX, eY, h1, h2]
    have hN24 : N1 ≤ 24 := by rw [hN1]; exact carvS_le x y 24
    have hwc : IntKind.i64.wrap ((N1 : Int) + (ls : Int)) = (N2 : Int) := by rw [IntKind.wrap_i64]; omega
    have HC1 : Hid (∀ W : World, Calls Try.prog 10 #[.int .i64 v] W fun e w' => e = .returned (.int .i64 (ls : Int)) ∧ Below W.heap.size W w') := hide (fun W => by
      rw [els]
      exact (specPerPage_any v W).mono fun e w' h => ⟨h.1, by rw [← h.2]; exact Below.refl _ _⟩)
    have HC2 : Hid (∀ W, Below w6.heap.size w6 W → Calls Try.prog 7 #[.agg #[.slice B 384 d, .slice B' 6 d']] W fun e w' => e = .returned (.bool true) ∧ Below W.heap.size W w') := hide (fun W hb => by
      have g := G6.out.below hb
      have h := specHeapOk_any B B' 384 d 6 d' X Y W g.en g.em g.hz g.hz' g.hk g.hkm g.r0 g.r1
      rw [eX, eY, go.hok] at h
      exact h)
    have HC3 : Hid (∀ W, Below w6.heap.size w6 W → Calls Try.prog 11 #[.agg #[.slice B 384 d, .slice B' 6 d']] W fun e w' => e = .returned (.int .i64 f) ∧ Below W.heap.size W w') := hide (fun W hb => by
      have g := G6.out.below hb
      have h := implUngr_any B B' 384 d 6 d' Y W g.em g.hz' g.r1
      rw [eY, ← hf0] at h
      exact h)
    have HC4 : Hid (∀ W, Below w6.heap.size w6 W → Calls Try.prog 8 #[.agg #[.slice (some a) 384 k, .slice (some a') 6 q]] W fun e w' => e = .returned (.int .i64 U) ∧ Below W.heap.size W w') := hide (fun W hb => by
      have g := L6.out.below hb
      have h := specUngr_any (some a) (some a') 384 k 6 q y W g.em g.hz' g.r1
      rw [← hu, hfu] at h
      exact h)
    have HC5 : Hid (∀ W, Below w6.heap.size w6 W → Calls Try.prog 12 #[.agg #[.slice B 384 d, .slice B' 6 d']] W fun e w' => (∃ A2 c2, e = .returned (.slice A2 N2 c2)) ∧ Below W.heap.size W w') := hide (fun W hb => by
      have g := G6.out.below hb
      refine (implCarved_any B B' 384 d 6 d' X Y W g.en g.em g.hz g.hz' g.r0 g.r1).mono fun e w' h => ?_
      obtain ⟨A2, c2, F, h1, _, _, h4⟩ := h
      exact ⟨⟨A2, c2, by rw [hN2]; exact h1⟩, h4⟩)
    have HC6 : Hid (∀ W, Below w6.heap.size w6 W → Calls Try.prog 13 #[.agg #[.slice (some a) 384 k, .slice (some a') 6 q]] W fun e w' => (∃ A2 c2, e = .returned (.slice A2 N1 c2)) ∧ Below W.heap.size W w') := hide (fun W hb => by
      have g := L6.out.below hb
      refine (specCarved_any (some a) (some a') 384 k 6 q x y W g.en g.em g.hz g.hz' g.r0 g.r1).mono fun e w' h => ?_
      obtain ⟨A2, c2, F, h1, _, _, h4⟩ := h
      exact ⟨⟨A2, c2, by rw [hN1]; exact h1⟩, h4⟩)
    have hu0i : ¬ (u : Int) = 0 := by omega
    have hbu : ((u : Int) == 0) = false := beq_eq_false_iff_ne.2 hu0i
    have x0 := X32.out.1
    have x1 := X32.out.2.1
    have x2 := X52.out.1
    have x3 := X52.out.2.1
    have l3 := X32.out.2.2
    have l5 := X52.out.2.2
    clear hU hcn hf0 hfu hN1 hN2 hN12 hu eX eY eS els hgr hf hyp go hp
    go_wp2_with fail
    go_region_held3 (fun w' => (w'.cell? ⟨p3, 0, none⟩ = some (.slice (some a) 384 k) ∧ w'.cell? ⟨p3, 1, none⟩ = some (.slice (some a') 6 q) ∧ w'.cell? ⟨p5, 0, none⟩ = some (.slice B 384 d) ∧ w'.cell? ⟨p5, 1, none⟩ = some (.slice B' 6 d')) ∧ Below w6.heap.size w6 w')
      (first | (exact keep22 l3 l3 l5 l5 (by assumption) (by assumption)) | (exact ⟨⟨x0, x1, x2, x3⟩, (Below.refl _ _).drew⟩))
      (first
        | (go_at_call 10; refine (HC1.out _).mono ?_; rintro e w' ⟨rfl, hb⟩)
        | (go_at_call 7; refine (HC2.out _ (And.right (by assumption))).mono ?_; rintro e w' ⟨rfl, hb⟩)
        | (go_at_call 11; refine (HC3.out _ (And.right (by assumption))).mono ?_; rintro e w' ⟨rfl, hb⟩)
        | (go_at_call 8; refine (HC4.out _ (And.right (by assumption))).mono ?_; rintro e w' ⟨rfl, hb⟩)
        | (go_at_call 12; refine (HC5.out _ (And.right (by assumption))).mono ?_; rintro e w' ⟨⟨A2, c2, rfl⟩, hb⟩)
        | (go_at_call 13; refine (HC6.out _ (And.right (by assumption))).mono ?_; rintro e w' ⟨⟨A3, c3, rfl⟩, hb⟩))
    have hS := ‹(_ ∧ _) ∧ Below w6.heap.size w6 _›
    obtain ⟨w7, rfl, -, hb⟩ := named (C := fun W => (W.cell? ⟨p3, 0, none⟩ = some (.slice (some a) 384 k) ∧ W.cell? ⟨p3, 1, none⟩ = some (.slice (some a') 6 q) ∧ W.cell? ⟨p5, 0, none⟩ = some (.slice B 384 d) ∧ W.cell? ⟨p5, 1, none⟩ = some (.slice B' 6 d'))) hS
    clear hS
    have X31 := hide (X32.out.below hb)
    have X51 := hide (X52.out.below hb)
    have L7 := hide (L6.out.below hb)
    have G7 := hide (G6.out.below hb)
    have R7 := hide (rdB_at R6.out hb)
    have HB7 := hide (HB6.out.trans (hb.mono HB6.out.size))
    clear hb X32 X52 L6 G6 R6 HB6 x0 x1 x2 x3 l3 l5 HC1 HC2 HC3 HC4 HC5 HC6 hwr hwc
    obtain ⟨gs, eS⟩ := SB.out.2.2 (by omega)
    obtain ⟨gx, eB⟩ := SB.out.1 (by omega)
    obtain ⟨gy, eB'⟩ := SB.out.2.1 (by omega)
    subst eS eB eB'
    have HCELL : Hid (∀ j, j < ls → ∀ W, Below w7.heap.size w7 W → W.cell? ⟨gs, j, none⟩ = some (.int .i64 ((p * 4 + j : Nat) : Int)) ∧ gs < W.heap.size) := hide (fun j hj W hb => by
      have h1 : j < sl.length := by have := HSL.out.2.2.2; omega
      have h2 := rd_cell (rdB_at R7.out hb) h1
      have h3 : sl.getD j 0 = ((p * 4 + j : Nat) : Int) := by
        rw [EQ.out.2.2.1]
        exact gs_get p _ j (by have := EQ.out.2.2.2; omega)
      rw [h3] at h2
      exact h2)
    obtain ⟨s0, hs0⟩ : ∃ s0 : Int, s0 = ((p * 4 + 0 : Nat) : Int) := ⟨_, rfl⟩
    have hc0 := (HCELL.out 0 (by omega) w7 (Below.refl _ _)).1
    rw [← hs0] at hc0
    have hpg : pgR s0 = (p : Int) := by rw [hs0]; exact pg_at HGO.out.hp (by omega)
    have HS0 := hide hs0
    have HS1 := hide (show s0 = ((p * 4 : Nat) : Int) from hs0)
    have hlsI : (0 : Int) < (ls : Int) := by omega
    clear hs0
    go_wp2_with fail
    refine (specPageOf_any s0 w7).mono ?_
    rintro e w8 ⟨rfl, rfl⟩
    rw [hpg]
    clear hpg
    go_wp2
    go_loopg [8] (ls + 1) (fun g i wo => ∃ wr : World, wr = wo ∧ ∃ t : Nat, t ≤ ls ∧ g = ls - t + 1 ∧ i = .int .i64 (t : Int) ∧ Below w7.heap.size w7 wr)
    case atStart => exact ⟨_, rfl, 0, by omega, by omega, rfl, Below.refl _ _⟩
    case round =>
      obtain ⟨wr, rfl, t, ht, hg, rfl, hbr⟩ := hrel
      have HG := hide hg
      have HBr := hide hbr
      clear hg hbr
      by_cases hlt : t < ls
      · have hti : (t : Int) < (ls : Int) := by omega
        obtain ⟨s, hs⟩ : ∃ s : Int, s = ((p * 4 + t : Nat) : Int) := ⟨_, rfl⟩
        have hper : t < (perC v).toNat := by have := EQ.out.2.2.2; omega
        have hcl := HCELL.out t hlt wr HBr.out
        rw [← hs] at hcl
        have x4 := hcl.1
        have l4 := hcl.2
        have X3r := X31.out.below HBr.out
        have X5r := X51.out.below HBr.out
        have x0 := X3r.1
        have x1 := X3r.2.1
        have x2 := X5r.1
        have x3 := X5r.2.1
        have l3 := X3r.2.2
        have l5 := X5r.2.2
        have HC1 : Hid (∀ W : World, Calls Try.prog 14 #[.int .i64 s] W fun e w' => e = .returned (.int .i64 (p : Int)) ∧ Below W.heap.size W w') := hide (fun W => by
          have h1 := specPageOf_any s W
          rw [hs, pg_at HGO.out.hp (by omega)] at h1
          rw [hs]
          exact h1.mono fun e w' h => ⟨h.1, by rw [← h.2]; exact Below.refl _ _⟩)
        have HC2 : Hid (∀ W, Below wr.heap.size wr W → Calls Try.prog 15 #[.agg #[.slice (some ⟨gx, 0, none⟩) 384 d, .slice (some ⟨gy, 0, none⟩) 6 d'], .int .i64 s] W fun e w' => e = .returned (.int .i64 v) ∧ Below W.heap.size W w') := hide (fun W hb => by
          have g := (G7.out.below HBr.out).below hb
          have h := implClassAt_any (some ⟨gx, 0, none⟩) (some ⟨gy, 0, none⟩) 384 d 6 d' X Y s W g.en g.em g.hz g.hz' g.r0 g.r1
          rw [EQ.out.1, EQ.out.2.1, hs, HGO.out.cls hper] at h
          rw [hs]
          exact h)
        have HC3 : Hid (∀ W, Below wr.heap.size wr W → Calls Try.prog 16 #[.agg #[.slice (some ⟨gx, 0, none⟩) 384 d, .slice (some ⟨gy, 0, none⟩) 6 d'], .int .i64 s] W fun e w' => e = .returned (.int .i64 1) ∧ Below W.heap.size W w') := hide (fun W hb => by
          have g := (G7.out.below HBr.out).below hb
          have h := implGenIn_any (some ⟨gx, 0, none⟩) (some ⟨gy, 0, none⟩) 384 d 6 d' X Y s W g.en g.em g.hz g.hz' g.hk g.hkm g.r0 g.r1
          rw [EQ.out.1, EQ.out.2.1, hs, HGO.out.gen hper] at h
          rw [hs]
          exact h)
        have HC4 : Hid (∀ W, Below wr.heap.size wr W → Calls Try.prog 17 #[.agg #[.slice (some a) 384 k, .slice (some a') 6 q], .int .i64 s] W fun e w' => e = .returned (.int .i64 (-1)) ∧ Below W.heap.size W w') := hide (fun W hb => by
          have g := (L7.out.below HBr.out).below hb
          have h := specClassAt_any (some a) (some a') 384 k 6 q x y s W g.en g.em g.hz g.hz' g.r0 g.r1
          rw [hs, HGO.out.old (by omega)] at h
          rw [hs]
          exact h)
        clear hs hcl X3r X5r
        go_wp2_with fail
        go_region_held3 (fun w' => (w'.cell? ⟨p3, 0, none⟩ = some (.slice (some a) 384 k) ∧ w'.cell? ⟨p3, 1, none⟩ = some (.slice (some a') 6 q) ∧ w'.cell? ⟨p5, 0, none⟩ = some (.slice (some ⟨gx, 0, none⟩) 384 d) ∧ w'.cell? ⟨p5, 1, none⟩ = some (.slice (some ⟨gy, 0, none⟩) 6 d') ∧ w'.cell? ⟨gs, t, none⟩ = some (.int .i64 s)) ∧ Below wr.heap.size wr w')
          (first | (exact keep5 l3 l3 l5 l5 l4 (by assumption) (by assumption)) | (exact ⟨⟨x0, x1, x2, x3, x4⟩, (Below.refl _ _).drew⟩))
          (first
            | (go_at_call 14; refine (HC1.out _).mono ?_; rintro e w' ⟨rfl, hb⟩)
            | (go_at_call 15; refine (HC2.out _ (And.right (by assumption))).mono ?_; rintro e w' ⟨rfl, hb⟩)
            | (go_at_call 16; refine (HC3.out _ (And.right (by assumption))).mono ?_; rintro e w' ⟨rfl, hb⟩)
            | (go_at_call 17; refine (HC4.out _ (And.right (by assumption))).mono ?_; rintro e w' ⟨rfl, hb⟩))
        have hS := ‹(_ ∧ _) ∧ Below wr.heap.size wr _›
        obtain ⟨w9, rfl, -, hb⟩ := named (C := fun W => (W.cell? ⟨p3, 0, none⟩ = some (.slice (some a) 384 k) ∧ W.cell? ⟨p3, 1, none⟩ = some (.slice (some a') 6 q) ∧ W.cell? ⟨p5, 0, none⟩ = some (.slice (some ⟨gx, 0, none⟩) 384 d) ∧ W.cell? ⟨p5, 1, none⟩ = some (.slice (some ⟨gy, 0, none⟩) 6 d') ∧ W.cell? ⟨gs, t, none⟩ = some (.int .i64 s))) hS
        have HB9 := hide (HBr.out.trans (hb.mono HBr.out.size))
        clear hS hb x0 x1 x2 x3 x4 l3 l4 l5 HC1 HC2 HC3 HC4
        go_wp2
        go_roundg (ls - (t + 1) + 1)
        case measure => have := HG.out; omega
        case rel => exact ⟨_, rfl, t + 1, by omega, by omega, by go_num, HB9.out⟩
      · have hti : ¬ (t : Int) < (ls : Int) := by omega
        clear hc0
        go_wp2
        go_loopg [9] 385 (fun g i wo => ∃ wz : World, wz = wo ∧ ∃ j : Nat, j ≤ 384 ∧ g = 385 - j ∧ i = .int .i64 (j : Int) ∧ Below w7.heap.size w7 wz)
        case atStart => exact ⟨_, rfl, 0, by omega, by omega, rfl, HBr.out⟩
        case round =>
          clear HBr HG
          obtain ⟨wz, rfl, j, hj, hg, rfl, hbz⟩ := hrel
          have HG := hide hg
          have HBz := hide hbz
          clear hg hbz
          have X3r := X31.out.below HBz.out
          have X5r := X51.out.below HBz.out
          have x0 := X3r.1
          have x1 := X3r.2.1
          have x2 := X5r.1
          have x3 := X5r.2.1
          have l3 := X3r.2.2
          have l5 := X5r.2.2
          have Lz := hide (L7.out.below HBz.out)
          have Gz := hide (G7.out.below HBz.out)
          clear X3r X5r
          by_cases hj2 : j < 384
          · have hji : (j : Int) < 384 := by omega
            have hj0 : (0 : Int) ≤ (j : Int) := by omega
            by_cases e : j / 64 = p
            · have ei : (j : Int) / 64 = (p : Int) := by omega
              have eb : ((j : Int) / 64 == (p : Int)) = true := by rw [ei]; simp
              have ed : decide ((j : Int) / 64 = (p : Int)) = true := decide_eq_true ei
              have en : ((j : Int) / 64 != (p : Int)) = false := by rw [ei]; simp
              go_wp2_with fail
              go_quiet (fail)
              rename_i nq
              have HBq := hide (HBz.out.trans ((below_drewN wz nq).mono HBz.out.size))
              go_wp2
              go_roundg (385 - (j + 1))
              case measure => have := HG.out; omega
              case rel => exact ⟨_, rfl, j + 1, by omega, rfl, by go_num, HBq.out⟩
            · have ei : ¬ (j : Int) / 64 = (p : Int) := by omega
              have eb : ((j : Int) / 64 == (p : Int)) = false := beq_eq_false_iff_ne.2 ei
              have ed : decide ((j : Int) / 64 = (p : Int)) = false := decide_eq_false ei
              have en : ((j : Int) / 64 != (p : Int)) = true := bne_iff_ne.2 ei
              have hXx : X.getD j 0 = x.getD j 0 := by rw [EQ.out.1]; exact HGO.out.out (by omega)
              obtain ⟨val, hval⟩ : ∃ val, val = x.getD j 0 := ⟨_, rfl⟩
              have hcx := (rd_cell Gz.out.r0 (j := j) (by have := Gz.out.en; omega)).1
              have hlx := (rd_cell Gz.out.r0 (j := j) (by have := Gz.out.en; omega)).2
              obtain ⟨ba, oa, ea, hla, hca⟩ := Lz.out.r0 j (by have := Lz.out.en; omega)
              simp only [Option.some.injEq] at ea
              rw [hXx, ← hval] at hcx
              rw [← hval] at hca
              subst ea
              clear hXx hval
              go_wp2_with fail
              go_quiet (fail)
              rename_i nq
              have HBq := hide (HBz.out.trans ((below_drewN wz nq).mono HBz.out.size))
              go_wp2
              go_roundg (385 - (j + 1))
              case measure => have := HG.out; omega
              case rel => exact ⟨_, rfl, j + 1, by omega, rfl, by go_num, HBq.out⟩
          · have hji : ¬ (j : Int) < 384 := by omega
            obtain ⟨ea, eg⟩ := HGO.out.set
            have HK : Hid (∀ W, Below wz.heap.size wz W → Calls Try.prog 18 #[.agg #[.slice (some ⟨gx, 0, none⟩) 384 d, .slice (some ⟨gy, 0, none⟩) 6 d'], .int .i64 s0, .int .i64 3] W fun e w' => ∃ B2 d2 B2' d2' F2 F2', e = .returned (.tuple #[.agg #[.slice B2 384 d2, .slice B2' 6 d2'], .bool true]) ∧ CopyH W w' 384 6 (ZX x v p) Y B2 d2 F2 B2' d2' F2') := hide (fun W hb => by
              have g := Gz.out.below hb
              have h := implSetGen_any ⟨gx, 0, none⟩ ⟨gy, 0, none⟩ 384 d 6 d' X Y s0 3 W g.en g.em g.hz g.hz' g.hk g.hkm g.r0 g.r1
              refine h.mono fun e w' h => ?_
              obtain ⟨B2, d2, F2, B2', d2', F2', h1, h2⟩ := h
              have e1 : setOk X Y s0 3 = true := by rw [EQ.out.1, EQ.out.2.1, HS0.out]; exact ea
              have e2 : setR X Y s0 3 = ZX x v p := by rw [EQ.out.1, EQ.out.2.1, HS0.out]; exact eg
              rw [e1] at h1
              rw [e2] at h2
              exact ⟨B2, d2, B2', d2', F2, F2', h1, h2⟩)
            have hc0z := HCELL.out 0 (by omega) wz HBz.out
            rw [← HS0.out] at hc0z
            have x4 := hc0z.1
            have l4 := hc0z.2
            have h00 : (wz.cell? ⟨p5, 0, none⟩ = some (.slice (some ⟨gx, 0, none⟩) 384 d) ∧ wz.cell? ⟨p5, 1, none⟩ = some (.slice (some ⟨gy, 0, none⟩) 6 d') ∧ wz.cell? ⟨gs, 0, none⟩ = some (.int .i64 s0)) ∧ Below wz.heap.size wz wz := ⟨⟨x2, x3, x4⟩, Below.refl _ _⟩
            have H00 := hide h00
            have hl0 : 0 < ls := by omega
            have hlsI : (0 : Int) < (ls : Int) := by omega
            clear h00 hc0z ea eg x0 x1 l3
            go_wp2_with fail
            go_region_held3 (fun w' => (w'.cell? ⟨p5, 0, none⟩ = some (.slice (some ⟨gx, 0, none⟩) 384 d) ∧ w'.cell? ⟨p5, 1, none⟩ = some (.slice (some ⟨gy, 0, none⟩) 6 d') ∧ w'.cell? ⟨gs, 0, none⟩ = some (.int .i64 s0)) ∧ Below wz.heap.size wz w')
              (first
                | exact H00.out
                | exact keep3 l5 l5 l4 (Below.refl _ _).drew H00.out
                | assumption
                | exact keep3 l5 l5 l4 (below_new _) H00.out
                | exact keep3 l5 l5 l4 (below_new _) (keep3 l5 l5 l4 (Below.refl _ _).drew H00.out)
                | exact keep3 l5 l5 l4 (below_new _) (by assumption)
                | exact keep3S l5 l5 l4 (keep3S l5 l5 l4 (by assumption) (NB.ge (by assumption)) _) (NB.ge (by assumption)) _)
              (first
                | (go_at_call 18; refine (HK.out _ (And.right (by assumption))).mono ?_; rintro e w' ⟨B2, d2, B2', d2', F2, F2', rfl, hC⟩; have hb' := hC.2.2.2.2; have hSg := keep3 l5 l5 l4 hb' (by assumption);
                    (first | (have hW := NB.newWD (t := 26) (Below.refl wz.heap.size wz); have hX := NB.below hb' hW; have hN := YB.ofB (And.right (by assumption)) hC hW hX; have y0 := hX.c0; have y1 := hX.c1; have y2 := hX.f0; have y3 := hX.f1) | (have hN := YB.ofA (And.right (by assumption)) hC))))
            all_goals
              obtain ⟨V, g2, hVe, hge, hbV, hBx, hBH⟩ := hN
              rw [← hVe, ← hge]
              have HBx := hide hBx
              have HBH := hide hBH
              have HBV := hide (HB7.out.trans ((HBz.out.trans (hbV.mono HBz.out.size)).mono HB7.out.size))
              have hc0V := HCELL.out 0 (by omega) V (HBz.out.trans (hbV.mono HBz.out.size))
              rw [← HS0.out] at hc0V
              have HD1 : Hid (∀ W, Below V.heap.size V W → Calls Try.prog 16 #[.agg #[.slice B2 384 d2, .slice B2' 6 d2'], .int .i64 s0] W fun e w' => e = .returned (.int .i64 3) ∧ Below W.heap.size W w') := hide (fun W hb => by
                have g := HBH.out.below hb
                have h := implGenIn_any B2 B2' 384 d2 6 d2' (ZX x v p) Y s0 W g.en g.em g.hz g.hz' g.hk g.hkm g.r0 g.r1
                rw [EQ.out.2.1, HS1.out, HGO.out.zgen] at h
                rw [HS1.out]
                exact h)
              have HD2 : Hid (∀ W, Below V.heap.size V W → Calls Try.prog 7 #[.agg #[.slice B2 384 d2, .slice B2' 6 d2']] W fun e w' => e = .returned (.bool true) ∧ Below W.heap.size W w') := hide (fun W hb => by
                have g := HBH.out.below hb
                have h := specHeapOk_any B2 B2' 384 d2 6 d2' (ZX x v p) Y W g.en g.em g.hz g.hz' g.hk g.hkm g.r0 g.r1
                rw [EQ.out.2.1, HGO.out.zhok] at h
                exact h)
              have v0 := HBx.out.1
              have v1 := HBx.out.2.1
              have v2 := hc0V.1
              have m0 := HBx.out.2.2
              have m2 := hc0V.2
              clear hVe hge hbV hBx hBH hc0V x2 x3 x4 l4 l5 H00 HK
              go_wp2_with fail
              go_region_held3 (fun w' => (w'.cell? ⟨g2, 0, none⟩ = some (.slice B2 384 d2) ∧ w'.cell? ⟨g2, 1, none⟩ = some (.slice B2' 6 d2') ∧ w'.cell? ⟨gs, 0, none⟩ = some (.int .i64 s0)) ∧ Below V.heap.size V w')
                (first | (exact keep3 m0 m0 m2 (by assumption) (by assumption)) | (exact ⟨⟨v0, v1, v2⟩, (Below.refl _ _).drew⟩))
                (first
                  | (go_at_call 16; refine (HD1.out _ (And.right (by assumption))).mono ?_; rintro e w' ⟨rfl, hb⟩)
                  | (go_at_call 7; refine (HD2.out _ (And.right (by assumption))).mono ?_; rintro e w' ⟨rfl, hb⟩))
              have hS := ‹(_ ∧ _) ∧ Below V.heap.size V _›
              have HBE := hide (HBV.out.trans (hS.2.mono HBV.out.size))
              clear hS
              go_wp2
              go_ret
              exact ⟨rfl, HBE.out⟩
set_option maxRecDepth 100000 in
theorem fnGrants_walk (A : Option Addr) (n c : Nat) (zs : List Int) (w : World) (h : Sl .u8 w A n c zs) : Calls Try.prog 3 #[.slice A n c] w fun e w' => e = .returned (.bool true) ∧ Below w.heap.size w w' := by
  obtain ⟨hn, _, hm, hr, hwf⟩ := h
  by_cases hz : n ≤ 1048576
  · exact fnGrants_core A n c zs w hn hz hr
  · have hz1 : (1048576 : Int) < (n : Int) := by omega
    clear hn hr hz hwf
    go_enter Try.func3, Try.ntmps3
    go_wp2
    go_ret
    exact ⟨rfl, Below.refl _ _⟩
end Go.Proofs.Ytdhocncfpapncac
