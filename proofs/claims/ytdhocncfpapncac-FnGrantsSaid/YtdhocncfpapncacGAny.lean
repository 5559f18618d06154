/-
  Draws of heaps: l7Any.
-/
import Derived.Test.YtdhocncfpapncacGAny0
namespace Go.Proofs.Ytdhocncfpapncac
open Go.RowKit
set_option linter.unusedVariables false

/-- The box's cells, wherever the region stands. -/
def S2 (wr W : World) : Prop := wr.heap.size ≤ W.heap.size
theorem k2B {wr W W' : World} {b : Nat} {u0 u1 : Value} (lb : b < wr.heap.size) (hB : Below W.heap.size W W') (h : (W.cell? ⟨b, 0, none⟩ = some u0 ∧ W.cell? ⟨b, 1, none⟩ = some u1) ∧ S2 wr W) : (W'.cell? ⟨b, 0, none⟩ = some u0 ∧ W'.cell? ⟨b, 1, none⟩ = some u1) ∧ S2 wr W' := by
  obtain ⟨⟨h0, h1⟩, h2⟩ := h
  have hk := hB.block b (Nat.lt_of_lt_of_le lb h2)
  exact ⟨⟨(World.cell?_of_block hk).trans h0, (World.cell?_of_block hk).trans h1⟩, Nat.le_trans h2 hB.size⟩
theorem k2G {wr W W' : World} {b : Nat} {row : Option Nat} {u0 u1 : Value} (lb : b < wr.heap.size) (hne : row ≠ some b) (hg : W.grownBy W' row) (h : (W.cell? ⟨b, 0, none⟩ = some u0 ∧ W.cell? ⟨b, 1, none⟩ = some u1) ∧ S2 wr W) : (W'.cell? ⟨b, 0, none⟩ = some u0 ∧ W'.cell? ⟨b, 1, none⟩ = some u1) ∧ S2 wr W' := by
  obtain ⟨⟨h0, h1⟩, h2⟩ := h
  have hk := hg.block b (Nat.lt_of_lt_of_le lb h2) (Ne.symm hne)
  exact ⟨⟨(World.cell?_of_block hk).trans h0, (World.cell?_of_block hk).trans h1⟩, Nat.le_trans h2 hg.size⟩
theorem k2S {wr W : World} {b g i : Nat} {u0 u1 : Value} (hgb : g ≠ b) (u : Value) (h : (W.cell? ⟨b, 0, none⟩ = some u0 ∧ W.cell? ⟨b, 1, none⟩ = some u1) ∧ S2 wr W) : ((W.setCell ⟨g, i, none⟩ u).cell? ⟨b, 0, none⟩ = some u0 ∧ (W.setCell ⟨g, i, none⟩ u).cell? ⟨b, 1, none⟩ = some u1) ∧ S2 wr (W.setCell ⟨g, i, none⟩ u) := by
  obtain ⟨⟨h0, h1⟩, h2⟩ := h
  have hk : (W.setCell ⟨g, i, none⟩ u).heap[b]? = W.heap[b]? := Below.heap_setCell _ _ _ _ (by show b ≠ g; omega)
  exact ⟨⟨(World.cell?_of_block hk).trans h0, (World.cell?_of_block hk).trans h1⟩, Nat.le_trans h2 (by simp [World.setCell])⟩
theorem k2A {wr W : World} {b : Nat} {u0 u1 : Value} (lb : b < wr.heap.size) (h : (W.cell? ⟨b, 0, none⟩ = some u0 ∧ W.cell? ⟨b, 1, none⟩ = some u1) ∧ S2 wr W) (o : Obj) : ((W.alloc o).cell? ⟨b, 0, none⟩ = some u0 ∧ (W.alloc o).cell? ⟨b, 1, none⟩ = some u1) ∧ S2 wr (W.alloc o) :=
  k2B lb ((Below.refl _ _).alloc (Nat.le_refl _) o) h
theorem k2D {wr W : World} {b : Nat} {u0 u1 : Value} (lb : b < wr.heap.size) (h : (W.cell? ⟨b, 0, none⟩ = some u0 ∧ W.cell? ⟨b, 1, none⟩ = some u1) ∧ S2 wr W) : (W.drew.cell? ⟨b, 0, none⟩ = some u0 ∧ W.drew.cell? ⟨b, 1, none⟩ = some u1) ∧ S2 wr W.drew :=
  k2B lb (Below.refl _ _).drew h
theorem RL.start {cb : Nat} {wr : World} (h : Cur wr cb) : RL cb wr wr := ⟨h, grown_refl _ _⟩
theorem sum_case (j1 j2 : Nat) (h1 : (j1 : Int) < 6) (h2 : (j2 : Int) < 12) : ∃ i : Nat, i < 384 ∧ (i : Int) < 384 ∧ IntKind.i64.wrap ((j1 : Int) * 64) = (j1 : Int) * 64 ∧ IntKind.i64.wrap ((j1 : Int) * 64 + (j2 : Int)) = (i : Int) :=
  ⟨j1 * 64 + j2, by omega, by omega, by rw [IntKind.wrap_i64]; omega, by rw [IntKind.wrap_i64]; omega⟩
/-- The row of four numbers that a pick chooses from. -/
def Row4 (W : World) (g : Nat) (a b c d : Int) : Prop := W.heap[g]? = some (.cells #[.int .i64 a, .int .i64 b, .int .i64 c, .int .i64 d] 3 (0, 0))
theorem pick4_any (cb g : Nat) (p r s t : Int) (w : World) (hc : Cur w cb) (h : Row4 w g p r s t) (hne : g ≠ cb) :
    Calls Try.prog 43 #[.pointer (some ⟨cb, 0, none⟩), .slice (some ⟨g, 0, none⟩) 4 4] w fun e w' => (∃ x : Int, e = .returned (.int .i64 x)) ∧ Cur w' cb ∧ w.grownBy w' (some cb) :=
  (l1PickInt_any cb g [p, r, s, t] 4 4 3 w hc h hne rfl (by simp) (by simp)).mono fun e w' h => ⟨by obtain ⟨x, h, _⟩ := h.1; exact ⟨x, h⟩, h.2⟩
theorem Row4.new (W : World) (a b c d : Int) : Row4 (W.alloc (.cells #[.int .i64 a, .int .i64 b, .int .i64 c, .int .i64 d] 3)) W.heap.size a b c d := heap_alloc_new W _
theorem Row4.grown {W W' : World} {g cb : Nat} {a b c d : Int} (h : Row4 W g a b c d) (hg : W.grownBy W' (some cb)) (hne : g ≠ cb) : Row4 W' g a b c d :=
  (hg.block g (Array.getElem?_eq_some_iff.1 h).1 (by simp only [ne_eq, Option.some.injEq]; exact hne)).trans h

set_option maxRecDepth 100000 in
set_option maxHeartbeats 6400000 in
theorem l7Any_any (cb : Nat) (w : World) (hcur : Cur w cb) :
    Calls Try.prog 20 #[.pointer (some ⟨cb, 0, none⟩)] w fun e w' => HAny w w' cb e := by
  have HC := hide hcur
  clear hcur
  go_enter Try.func20, Try.ntmps20
  go_wp2_with fail
  obtain ⟨w1, h1⟩ : ∃ W : World, W = w.alloc (.cells #[.slice none 0 0, .slice none 0 0] 26) := ⟨_, rfl⟩
  rw [← h1]
  have H1 := hide h1
  have hc1 : Cur w1 cb := by rw [h1]; exact HC.out.alloc _
  clear h1
  refine (l7Heap_any cb w1 hc1).mono ?_
  rintro e w2 ⟨v, rfl, hv, hc, hg⟩
  obtain ⟨C, k, D, q, rfl⟩ := hv.shp
  have HV2 := hide (And.intro hv (And.intro hc hg))
  clear hv hc hg hc1
  go_wp2_with fail
  obtain ⟨w3, h3⟩ : ∃ W : World, W = w2.alloc (.cells #[.slice C 384 k, .slice D 6 q] 26) := ⟨_, rfl⟩
  rw [← h3]
  have HL3 := hide (GL.start H1.out HV2.out.1 HV2.out.2.1 HV2.out.2.2 h3 HC.out)
  clear h3
  obtain ⟨b, hb⟩ : ∃ b, b = w2.heap.size := ⟨_, rfl⟩
  rw [← hb] at HL3 ⊢
  clear hb HV2 H1
  refine (l1Below_any _ _ _ HL3.out.cur (by omega)).mono ?_
  rintro e wr ⟨⟨m, rfl, hm⟩, hc, hg⟩
  have HL := hide (HL3.out.keep ⟨hc, hg⟩)
  obtain ⟨x, hx⟩ : ∃ x : Int, x = (m : Int) := ⟨_, rfl⟩
  rw [← hx]
  clear hc hg hm HL3 hx
  obtain ⟨gx, gy, _, _, rfl, rfl, -⟩ := HL.out.two
  have x0 := HL.out.c0
  have x1 := HL.out.c1
  have x2 := HL.out.f0
  have x3 := HL.out.f1
  have x4 := HL.out.d0
  have x5 := HL.out.d1
  have x6 := HL.out.g0
  have x7 := HL.out.g1
  have lb := HL.out.lt
  have lcb : cb < wr.heap.size := HL.out.cur.lt
  have hne : b ≠ cb := by have := HL.out.cw; have := HL.out.hb; omega
  have h00 : (wr.cell? ⟨b, 0, none⟩ = some (.slice (some ⟨gx, 0, none⟩) 384 k) ∧ wr.cell? ⟨b, 1, none⟩ = some (.slice (some ⟨gy, 0, none⟩) 6 q)) ∧ S2 wr wr := ⟨⟨x0, x1⟩, Nat.le_refl _⟩
  have H00 := hide h00
  clear h00
  by_cases e0 : x = 0
  · subst e0
    obtain ⟨hk, _⟩ : 384 ≤ k ∧ k ≤ maxLen := by
      obtain ⟨gx2, gy2, x, y, e1, e2, _, _, h1, h2, _⟩ := HL.out.two
      exact ⟨h1.read.2.1, h1.read.2.2.1⟩
    have HK := hide hk
    clear hk H00
    go_wp2_with fail
    go_region_law (first
        | (go_simp; go_at_call 42; (with_reducible refine (l1Below_any cb 384 _ (by first | exact HL.out.cur | exact HL.out.cur.below (Below.refl _ _).drew lcb) (by omega)).mono ?_); rintro e w' ⟨⟨j, rfl, hj⟩, hc, hg⟩; have hL2 := hide (HL.out.keep (RL.draw (by first | exact RL.start HL.out.cur | exact (RL.start HL.out.cur).of_below (Below.refl _ _).drew) hc hg)); have y0 := hL2.out.c0; have y1 := hL2.out.c1; have y2 := hL2.out.f0; have y3 := hL2.out.f1; have hj384 : j < 384 := (by omega); have hjk : (j : Int) ≤ (k : Int) := (by have := HK.out; omega); have hN := hide (hL2.out.cut (Nat.le_of_lt hj384)); clear hc hg hj; dsimp only)
        | fail)
    all_goals
      obtain ⟨X, hXe⟩ : ∃ X : World, X = w'.setCell ⟨b, 0, none⟩ (.slice (some ⟨gx, 0, none⟩) j k) := ⟨_, rfl⟩
      have HF := hide hN.out
      rw [← hXe] at HF ⊢
      have z0 := HF.out.c0
      have z1 := HF.out.c1
      have z2 := HF.out.d0
      have z3 := HF.out.d1
      have z4 := HF.out.g0
      have z5 := HF.out.g1
      clear hXe hN hL2 y0 y1 y2 y3
      go_wp2_with fail
      exact bodyPost_ret (v := .agg #[.slice (some ⟨gx, 0, none⟩) j k, .slice (some ⟨gy, 0, none⟩) 6 q]) (by simp [results, Try.results20, go_sem, z2, z3]) rfl HF.out.fin
  by_cases e1 : x = 1
  · subst e1
    obtain ⟨i0, hinf, hz0, hz1, hz2⟩ := info_parts intInfo2
    obtain ⟨gy2, y, eD, ho, hpush⟩ := HL.out.push
    simp only [Option.some.injEq, Addr.mk.injEq, and_true] at eD
    subst eD
    have HO := hide ho
    have HPUSH := hide hpush
    clear ho hpush HL
    go_wp2_with (at_builtin; refine wpList_app_o _ rfl _ _ 24 rfl 3 i0 (.int .i64 0) 8 Try.underlying24 hinf hz0 hz1 hz2 rfl gy 6 q y _ rfl (HO.out.below ((Below.refl _ _).alloc (Nat.le_refl _) _)) (by omega) _ 0 rfl (by go_simp) (by unfold maxLen; omega) (by omega) ?_)
    intro ad c' F' w4 hown hgr hF'
    obtain ⟨a0, a1, a2, a3, a4, hF⟩ := HPUSH.out _ _ _ _ _ _ ((Below.refl _ _).alloc (Nat.le_refl _) _) hown hgr (fun u hu => (hF' u hu).imp id (fun e => by simpa using e))
    have HF := hide hF
    have y0 := hF.c0
    have y1 := hF.c1
    have y2 := hF.d0
    have y3 := hF.d1
    have y4 := hF.g0
    have y5 := hF.g1
    clear hown hgr hF' hF HPUSH HO
    go_wp2_with fail
    exact bodyPost_ret (v := .agg #[.slice (some ⟨gx, 0, none⟩) 384 k, .slice (some ad) 7 c']) (by simp [results, Try.results20, go_sem, y2, y3]) rfl HF.out.fin
  by_cases e2 : x = 2
  · subst e2
    go_wp2_with fail
    go_region_held3 (fun w' => (w'.cell? ⟨b, 0, none⟩ = some (.slice (some ⟨gx, 0, none⟩) 384 k) ∧ w'.cell? ⟨b, 1, none⟩ = some (.slice (some ⟨gy, 0, none⟩) 6 q)) ∧ S2 wr w')
      (first
        | exact H00.out
        | exact k2D lb H00.out
        | assumption
        | exact k2A lb H00.out _
        | exact k2A lb (k2D lb H00.out) _
        | exact k2A lb (by assumption) _
        | exact k2S (by assumption) _ (by assumption))
      (first
        | (go_at_call 42; (with_reducible refine (l1Below_any cb 6 _ (by first | exact HL.out.cur | exact HL.out.cur.below (Below.refl _ _).drew lcb | exact HL.out.cur.below ((Below.refl _ _).drew.alloc (Nat.le_refl _) _) lcb | exact HL.out.cur.below ((Below.refl _ _).alloc (Nat.le_refl _) _) lcb) (by omega)).mono ?_); rintro e w' ⟨⟨j, rfl, hj⟩, hc, hg⟩; have hS := k2G lb (by simp only [ne_eq, Option.some.injEq]; exact Ne.symm hne) hg (by first | exact H00.out | exact k2D lb H00.out | exact k2A lb (k2D lb H00.out) _ | exact k2A lb H00.out _);
            have hR : RL cb wr w' := RL.draw (by first | exact RL.start HL.out.cur | exact (RL.start HL.out.cur).of_below (Below.refl _ _).drew | exact (RL.start HL.out.cur).of_below ((Below.refl _ _).drew.alloc (Nat.le_refl _) _) | exact (RL.start HL.out.cur).of_below ((Below.refl _ _).alloc (Nat.le_refl _) _)) hc hg; have hjn : j < 6 := (by omega); have hjm : (j : Int) < 6 := (by omega); clear hj; (first | (have hrow : Row4 w' wr.heap.size (-2) 3 0 (-1) := Row4.grown (Row4.new wr.drew _ _ _ _) hg (by omega)) | (have hrow : Row4 w' wr.heap.size (-2) 3 0 (-1) := Row4.grown (Row4.new wr _ _ _ _) hg (by omega)) | skip))
        | (go_at_call 43; (first | (refine (pick4_any cb _ _ _ _ _ _ hc hrow (by omega)).mono ?_; rintro e w2 ⟨⟨xv, rfl⟩, hc2, hg2⟩; have hS2 := k2G lb (by simp only [ne_eq, Option.some.injEq]; exact Ne.symm hne) hg2 hS; have hR2 : RL cb wr w2 := RL.draw hR hc2 hg2) | (refine (pick4_any cb _ _ _ _ _ _ (hc.alloc _) (Row4.new _ _ _ _ _) (by have := hc.lt; omega)).mono ?_; rintro e w2 ⟨⟨xv, rfl⟩, hc2, hg2⟩; have hS2 := k2G lb (by simp only [ne_eq, Option.some.injEq]; exact Ne.symm hne) hg2 (k2A lb hS _); have hR2 : RL cb wr w2 := RL.draw (hR.of_below ((Below.refl _ _).alloc (Nat.le_refl _) _)) hc2 hg2));
            obtain ⟨g0, u0, eD, p1, p2, p3, p4, p5⟩ := HL.out.put false j (by simpa using hjn); (simp only [Bool.false_eq_true, if_false, Option.some.injEq, Addr.mk.injEq, and_true] at eD); subst eD; obtain ⟨y0, y1, y2⟩ := p4 _ hR2; have hN := hide (p5 _ xv hR2); clear p4 p5))
    all_goals
      obtain ⟨X, hXe⟩ : ∃ X : World, X = w2.setCell ⟨gy, j, none⟩ (.int .i64 xv) := ⟨_, rfl⟩
      have HF := hide hN.out
      rw [← hXe] at HF ⊢
      have y0 := HF.out.c0
      have y1 := HF.out.c1
      have y2 := HF.out.d0
      have y3 := HF.out.d1
      have y4 := HF.out.g0
      have y5 := HF.out.g1
      clear hXe hN
      go_wp2_with fail
      exact bodyPost_ret (v := .agg #[.slice (some ⟨gx, 0, none⟩) 384 k, .slice (some ⟨gy, 0, none⟩) 6 q]) (by simp [results, Try.results20, go_sem, y2, y3]) rfl HF.out.fin
  by_cases e3 : x = 3
  · subst e3
    go_wp2_with fail
    go_region_held3 (fun w' => (w'.cell? ⟨b, 0, none⟩ = some (.slice (some ⟨gx, 0, none⟩) 384 k) ∧ w'.cell? ⟨b, 1, none⟩ = some (.slice (some ⟨gy, 0, none⟩) 6 q)) ∧ S2 wr w')
      (first
        | exact H00.out
        | exact k2D lb H00.out
        | assumption
        | exact k2A lb H00.out _
        | exact k2A lb (k2D lb H00.out) _
        | exact k2A lb (by assumption) _
        | exact k2S (by assumption) _ (by assumption))
      (first
        | (go_at_call 42; (with_reducible refine (l1Below_any cb 384 _ (by first | exact HL.out.cur | exact HL.out.cur.below (Below.refl _ _).drew lcb | exact HL.out.cur.below ((Below.refl _ _).drew.alloc (Nat.le_refl _) _) lcb | exact HL.out.cur.below ((Below.refl _ _).alloc (Nat.le_refl _) _) lcb) (by omega)).mono ?_); rintro e w' ⟨⟨j, rfl, hj⟩, hc, hg⟩; have hS := k2G lb (by simp only [ne_eq, Option.some.injEq]; exact Ne.symm hne) hg (by first | exact H00.out | exact k2D lb H00.out | exact k2A lb (k2D lb H00.out) _ | exact k2A lb H00.out _);
            have hR : RL cb wr w' := RL.draw (by first | exact RL.start HL.out.cur | exact (RL.start HL.out.cur).of_below (Below.refl _ _).drew | exact (RL.start HL.out.cur).of_below ((Below.refl _ _).drew.alloc (Nat.le_refl _) _) | exact (RL.start HL.out.cur).of_below ((Below.refl _ _).alloc (Nat.le_refl _) _)) hc hg; have hjn : j < 384 := (by omega); have hjm : (j : Int) < 384 := (by omega); clear hj; (first | (have hrow : Row4 w' wr.heap.size (-1) 256 171 1 := Row4.grown (Row4.new wr.drew _ _ _ _) hg (by omega)) | (have hrow : Row4 w' wr.heap.size (-1) 256 171 1 := Row4.grown (Row4.new wr _ _ _ _) hg (by omega)) | skip))
        | (go_at_call 43; (first | (refine (pick4_any cb _ _ _ _ _ _ hc hrow (by omega)).mono ?_; rintro e w2 ⟨⟨xv, rfl⟩, hc2, hg2⟩; have hS2 := k2G lb (by simp only [ne_eq, Option.some.injEq]; exact Ne.symm hne) hg2 hS; have hR2 : RL cb wr w2 := RL.draw hR hc2 hg2) | (refine (pick4_any cb _ _ _ _ _ _ (hc.alloc _) (Row4.new _ _ _ _ _) (by have := hc.lt; omega)).mono ?_; rintro e w2 ⟨⟨xv, rfl⟩, hc2, hg2⟩; have hS2 := k2G lb (by simp only [ne_eq, Option.some.injEq]; exact Ne.symm hne) hg2 (k2A lb hS _); have hR2 : RL cb wr w2 := RL.draw (hR.of_below ((Below.refl _ _).alloc (Nat.le_refl _) _)) hc2 hg2));
            obtain ⟨g0, u0, eD, p1, p2, p3, p4, p5⟩ := HL.out.put true j (by simpa using hjn); (simp only [if_true, Option.some.injEq, Addr.mk.injEq, and_true] at eD); subst eD; obtain ⟨y0, y1, y2⟩ := p4 _ hR2; have hN := hide (p5 _ xv hR2); clear p4 p5))
    all_goals
      obtain ⟨X, hXe⟩ : ∃ X : World, X = w2.setCell ⟨gx, j, none⟩ (.int .i64 xv) := ⟨_, rfl⟩
      have HF := hide hN.out
      rw [← hXe] at HF ⊢
      have y0 := HF.out.c0
      have y1 := HF.out.c1
      have y2 := HF.out.d0
      have y3 := HF.out.d1
      have y4 := HF.out.g0
      have y5 := HF.out.g1
      clear hXe hN
      go_wp2_with fail
      exact bodyPost_ret (v := .agg #[.slice (some ⟨gx, 0, none⟩) 384 k, .slice (some ⟨gy, 0, none⟩) 6 q]) (by simp [results, Try.results20, go_sem, y2, y3]) rfl HF.out.fin
  by_cases e4 : x = 4
  · subst e4
    go_wp2_with fail
    go_region_held3 (fun w' => (w'.cell? ⟨b, 0, none⟩ = some (.slice (some ⟨gx, 0, none⟩) 384 k) ∧ w'.cell? ⟨b, 1, none⟩ = some (.slice (some ⟨gy, 0, none⟩) 6 q)) ∧ S2 wr w')
      (first
        | exact H00.out
        | exact k2D lb H00.out
        | assumption
        | exact k2S (by assumption) _ (by assumption))
      (first
        | (go_at_call 42; (with_reducible refine (l1Below_any cb 6 _ (by first | exact HL.out.cur | exact HL.out.cur.below (Below.refl _ _).drew lcb) (by omega)).mono ?_); rintro e w5 ⟨⟨j1, rfl, hj1⟩, hc5, hg5⟩; have hS5 := k2G lb (by simp only [ne_eq, Option.some.injEq]; exact Ne.symm hne) hg5 (by first | exact H00.out | exact k2D lb H00.out); have hR5 : RL cb wr w5 := RL.draw (by first | exact RL.start HL.out.cur | exact (RL.start HL.out.cur).of_below (Below.refl _ _).drew) hc5 hg5; have hj1n : (j1 : Int) < 6 := (by omega); clear hj1)
        | (go_at_call 42; (with_reducible refine (l1Below_any cb 12 _ hc5 (by omega)).mono ?_); rintro e w6 ⟨⟨j2, rfl, hj2⟩, hc6, hg6⟩; have hS6 := k2G lb (by simp only [ne_eq, Option.some.injEq]; exact Ne.symm hne) hg6 hS5; have hR6 : RL cb wr w6 := RL.draw hR5 hc6 hg6; have hj2n : (j2 : Int) < 12 := (by omega); clear hj2; obtain ⟨i, hi384, hii, hw1, hw2⟩ := sum_case j1 j2 hj1n hj2n)
        | (go_at_call 42; (with_reducible refine (l1Below_any cb 9 _ hc6 (by omega)).mono ?_); rintro e w7 ⟨⟨j3, rfl, hj3⟩, hc7, hg7⟩; have hS7 := k2G lb (by simp only [ne_eq, Option.some.injEq]; exact Ne.symm hne) hg7 hS6; have hR7 : RL cb wr w7 := RL.draw hR6 hc7 hg7;
            obtain ⟨g0, u0, eD, p1, p2, p3, p4, p5⟩ := HL.out.put true i (by simpa using hi384); (simp only [if_true, Option.some.injEq, Addr.mk.injEq, and_true] at eD); subst eD; obtain ⟨y0, y1, y2⟩ := p4 _ hR7; have hN := hide (p5 _ (j3 : Int) hR7); clear p4 p5))
    all_goals
      obtain ⟨X, hXe⟩ : ∃ X : World, X = w7.setCell ⟨gx, i, none⟩ (.int .i64 (j3 : Int)) := ⟨_, rfl⟩
      have HF := hide hN.out
      rw [← hXe] at HF ⊢
      have y0 := HF.out.c0
      have y1 := HF.out.c1
      have y2 := HF.out.d0
      have y3 := HF.out.d1
      have y4 := HF.out.g0
      have y5 := HF.out.g1
      clear hXe hN
      go_wp2_with fail
      exact bodyPost_ret (v := .agg #[.slice (some ⟨gx, 0, none⟩) 384 k, .slice (some ⟨gy, 0, none⟩) 6 q]) (by simp [results, Try.results20, go_sem, y2, y3]) rfl HF.out.fin
  · have HF := hide HL.out.same
    clear HL H00
    go_wp2_with fail
    exact bodyPost_ret (v := .agg #[.slice (some ⟨gx, 0, none⟩) 384 k, .slice (some ⟨gy, 0, none⟩) 6 q]) (by simp [results, Try.results20, go_sem, x4, x5]) rfl HF.out.fin
end Go.Proofs.Ytdhocncfpapncac
