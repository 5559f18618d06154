/-
  Draws of lists: l8Any.
-/
import Derived.Test.YtdhocncfpapncabLAny0
namespace Go.Proofs.Ytdhocncfpapncab
open Go.RowKit
set_option linter.unusedVariables false

theorem slistInfo2 : ∃ i, Try.prog.info? 37 = some i ∧ i.zero = some (.agg #[.slice none 0 0]) ∧ i.size = 1 ∧ i.bytes = 24 := by
  refine ⟨_, by rfl, by rfl, by rfl, by rfl⟩
theorem sr_row (W : World) (xs : List Int) (h : xs.length ≤ maxLen) : Sr true 3 (W.alloc (.cells (ints xs).toArray 3)) (.slice (some ⟨W.heap.size, 0, none⟩) xs.length xs.length) (ints xs) := by
  have hr := World.rowIs_alloc W (ints xs).toArray 3 (fun j => (ints xs).getD j undef) (fun i hi => by
    have hi' : i < (ints xs).length := by simpa using hi
    simp [List.getD, hi'])
  have e : (ints xs).toArray.size = xs.length := by simp [ints_length]
  rw [e] at hr
  exact ⟨_, xs.length, by rw [ints_length], by rw [ints_length]; exact Nat.le_refl _, h, .inr ⟨W.heap.size, xs.length, _, rfl, hr, Nat.le_refl _, fun _ => rfl, fun j hj => rfl⟩⟩
theorem pick4_any (cb : Nat) (w : World) (hc : Cur w cb) :
    Calls Try.prog 38 #[.pointer (some ⟨cb, 0, none⟩), .slice (some ⟨w.heap.size, 0, none⟩) 4 4] ((w.alloc (.cells #[.int .i64 (-1), .int .i64 24, .int .i64 5, .int .i64 6] 3)).drew) fun e w' =>
      (∃ x : Int, e = .returned (.int .i64 x)) ∧ Cur w' cb ∧ ((w.alloc (.cells #[.int .i64 (-1), .int .i64 24, .int .i64 5, .int .i64 6] 3)).drew).grownBy w' (some cb) :=
  (l1PickInt_any cb w.heap.size [-1, 24, 5, 6] 4 4 3 ((w.alloc (.cells #[.int .i64 (-1), .int .i64 24, .int .i64 5, .int .i64 6] 3)).drew) (hc.below (((Below.refl _ _).alloc (Nat.le_refl _) _).drew) hc.lt) (heap_alloc_new w _) (by have := hc.lt; omega) rfl (by simp) (by simp)).mono
    fun e w' h => ⟨by obtain ⟨x, h, _⟩ := h.1; exact ⟨x, h⟩, h.2⟩
/-- The box's cells, wherever the region stands. -/
def S2 (wr W : World) : Prop := wr.heap.size ≤ W.heap.size
theorem k2B {wr W W' : World} {b : Nat} {u0 u1 : Value} (lb : b < wr.heap.size) (hB : Below W.heap.size W W') (h : (W.cell? ⟨b, 0, none⟩ = some u0 ∧ W.cell? ⟨b, 1, none⟩ = some u1) ∧ S2 wr W) : (W'.cell? ⟨b, 0, none⟩ = some u0 ∧ W'.cell? ⟨b, 1, none⟩ = some u1) ∧ S2 wr W' := by
  obtain ⟨⟨h0, h1⟩, h2⟩ := h
  have hk := hB.block b (Nat.lt_of_lt_of_le lb h2)
  exact ⟨⟨(World.cell?_of_block hk).trans h0, (World.cell?_of_block hk).trans h1⟩, Nat.le_trans h2 hB.size⟩
theorem k2G {wr W W' : World} {b : Nat} {row : Option Nat} {u0 u1 : Value} (lb : b < wr.heap.size) (hne : row ≠ some b) (hg : W.grownBy W' row) (h : (W.cell? ⟨b, 0, none⟩ = some u0 ∧ W.cell? ⟨b, 1, none⟩ = some u1) ∧ S2 wr W) : (W'.cell? ⟨b, 0, none⟩ = some u0 ∧ W'.cell? ⟨b, 1, none⟩ = some u1) ∧ S2 wr W' := by
  obtain ⟨⟨h0, h1⟩, h2⟩ := h
  have hk := hg.block b (Nat.lt_of_lt_of_le lb h2) (Ne.symm hne)
  exact ⟨⟨(World.cell?_of_block hk).trans h0, (World.cell?_of_block hk).trans h1⟩, Nat.le_trans h2 hg.size⟩
theorem k2S {wr W : World} {b g i : Nat} {u0 u1 : Value} (hgb : g ≠ b) (u : Value) (h : (W.cell? ⟨b, 0, none⟩ = some u0 ∧ W.cell? ⟨b, 1, none⟩ = some u1) ∧ S2 wr W) : ((W.setCell ⟨g, i, none⟩ u).cell? ⟨b, 0, none⟩ = some u0 ∧ (W.setCell ⟨g, i, none⟩ u).cell? ⟨b, 1, none⟩ = some u1) ∧ S2 wr (W.setCell ⟨g, i, none⟩ u) := by
  obtain ⟨⟨h0, h1⟩, h2⟩ := h
  have hk : (W.setCell ⟨g, i, none⟩ u).heap[b]? = W.heap[b]? := Below.heap_setCell _ _ _ _ (by show b ≠ g; omega)
  exact ⟨⟨(World.cell?_of_block hk).trans h0, (World.cell?_of_block hk).trans h1⟩, Nat.le_trans h2 (by simp [World.setCell])⟩
theorem k2A {wr W : World} {b : Nat} {u0 u1 : Value} (lb : b < wr.heap.size) (h : (W.cell? ⟨b, 0, none⟩ = some u0 ∧ W.cell? ⟨b, 1, none⟩ = some u1) ∧ S2 wr W) (o : Obj) : ((W.alloc o).cell? ⟨b, 0, none⟩ = some u0 ∧ (W.alloc o).cell? ⟨b, 1, none⟩ = some u1) ∧ S2 wr (W.alloc o) :=
  k2B lb ((Below.refl _ _).alloc (Nat.le_refl _) o) h
theorem k2D {wr W : World} {b : Nat} {u0 u1 : Value} (lb : b < wr.heap.size) (h : (W.cell? ⟨b, 0, none⟩ = some u0 ∧ W.cell? ⟨b, 1, none⟩ = some u1) ∧ S2 wr W) : (W.drew.cell? ⟨b, 0, none⟩ = some u0 ∧ W.drew.cell? ⟨b, 1, none⟩ = some u1) ∧ S2 wr W.drew :=
  k2B lb (Below.refl _ _).drew h
theorem RL.start {cb : Nat} {wr : World} (h : Cur wr cb) : RL cb wr wr := ⟨h, grown_refl _ _⟩
/-- Three numbers in a new row, put into the list. -/
theorem putA {w wr w' : World} {cb b g i n k n' q : Nat} {C D : Option Addr} (h : ∀ (W : World) (x : Nat), RL cb wr W → Sr true 3 W (.slice (some ⟨x, 0, none⟩) 3 3) (ints [1, 2, 3]) → wr.heap.size ≤ x → LF w (W.setCell ⟨g, i, none⟩ (.slice (some ⟨x, 0, none⟩) 3 3)) cb b C D n k n' q)
    (hR : RL cb wr w') (hl : g < w'.heap.size) : ∃ X, X = (w'.setCell ⟨g, i, none⟩ (.slice (some ⟨w'.heap.size, 0, none⟩) 3 3)).alloc (.cells #[.int .i64 1, .int .i64 2, .int .i64 3] 3) ∧ LF w X cb b C D n k n' q :=
  ⟨_, (by go_simp; rfl), h _ _ (hR.of_below ((Below.refl _ _).alloc (Nat.le_refl _) _)) (sr_row w' [1, 2, 3] (by decide)) hR.2.size⟩
theorem putB {w wr w' : World} {cb b g i n k n' q : Nat} {C D : Option Addr} (hc : cb < wr.heap.size) (h : ∀ (W : World) (x : Nat), RL cb wr W → Sr true 3 W (.slice (some ⟨x, 0, none⟩) 3 3) (ints [1, 2, 3]) → wr.heap.size ≤ x → LF w (W.setCell ⟨g, i, none⟩ (.slice (some ⟨x, 0, none⟩) 3 3)) cb b C D n k n' q)
    (hR : RL cb wr w') (hg : (wr.drew.alloc (.cells #[.int .i64 1, .int .i64 2, .int .i64 3] 3)).grownBy w' (some cb)) : ∃ X, X = w'.setCell ⟨g, i, none⟩ (.slice (some ⟨wr.heap.size, 0, none⟩) 3 3) ∧ LF w X cb b C D n k n' q :=
  ⟨_, rfl, h _ _ hR ((sr_row wr.drew [1, 2, 3] (by decide)).grown hg (fun a ha => by simp only [Value.ownBlock, Option.some.injEq] at ha; have e : a = wr.heap.size := ha.symm; simp only [ne_eq, Option.some.injEq]; omega)) (Nat.le_refl _)⟩
set_option maxRecDepth 100000 in
set_option maxHeartbeats 3200000 in
theorem l8Any_any (cb : Nat) (w : World) (hcur : Cur w cb) :
    Calls Try.prog 17 #[.pointer (some ⟨cb, 0, none⟩)] w fun e w' => LAny w w' cb e := by
  have HC := hide hcur
  clear hcur
  go_enter Try.func17, Try.ntmps17
  go_wp2_with fail
  obtain ⟨w1, h1⟩ : ∃ W : World, W = w.alloc (.cells #[.slice none 0 0, .slice none 0 0] 26) := ⟨_, rfl⟩
  rw [← h1]
  have H1 := hide h1
  have hc1 : Cur w1 cb := by rw [h1]; exact HC.out.alloc _
  clear h1
  refine (l8Lists_any cb w1 hc1).mono ?_
  rintro e w2 ⟨v, z, y, rfl, hv, hz, hy, hr, hc, hg⟩
  obtain ⟨C, k, D, q, rfl⟩ := hv.shp
  obtain ⟨n, hn⟩ : ∃ n, n = z.length := ⟨_, rfl⟩
  obtain ⟨n', hn'⟩ : ∃ n, n = y.length := ⟨_, rfl⟩
  rw [← hn, ← hn'] at hv ⊢
  have HV := hide (And.intro hv (And.intro hz (And.intro hy (And.intro hr (And.intro hc hg)))))
  clear hn hn' hv hz hy hr hc hg hc1
  go_wp2_with fail
  obtain ⟨w3, h3⟩ : ∃ W : World, W = w2.alloc (.cells #[.slice C n k, .slice D n' q] 26) := ⟨_, rfl⟩
  rw [← h3]
  have HL3 := hide (LL.start2 H1.out HV.out.1 HV.out.2.2.2.2.1 HV.out.2.2.2.2.2 h3 HC.out HV.out.2.1 HV.out.2.2.1 HV.out.2.2.2.1)
  clear h3
  obtain ⟨b, hb⟩ : ∃ b, b = w2.heap.size := ⟨_, rfl⟩
  rw [← hb] at HL3 ⊢
  clear hb HV H1
  refine (l1Below_any _ _ _ HL3.out.cur (by omega)).mono ?_
  rintro e wr ⟨⟨m, rfl, hm⟩, hc, hg⟩
  have HL := hide (HL3.out.keep ⟨hc, hg⟩)
  obtain ⟨x, hx⟩ : ∃ x : Int, x = (m : Int) := ⟨_, rfl⟩
  rw [← hx]
  clear hc hg hm HL3 hx
  have x0 := HL.out.c0
  have x1 := HL.out.c1
  have x2 := HL.out.f0
  have x3 := HL.out.f1
  have x4 := HL.out.d0
  have x5 := HL.out.d1
  have x6 := HL.out.g0
  have x7 := HL.out.g1
  by_cases e0 : x = 0
  · subst e0
    obtain ⟨us, vs, F, G, h1, h2, h3, h4, h5, h6, h7⟩ := HL.out.two
    have hk : n ≤ k := h1.rd.2.1
    have hk2 : (2 : Int) ≤ (k : Int) := by omega
    obtain ⟨g, hC, _⟩ := h1.out.at (j := 0) (by have := h1.rows.len; have := HL.out.lz; omega)
    have HF := hide (HL.out.cut (Nat.le_refl _))
    subst hC
    have y0 := HF.out.c0
    have y1 := HF.out.c1
    have y2 := HF.out.d0
    have y3 := HF.out.d1
    have y4 := HF.out.g0
    have y5 := HF.out.g1
    clear h1 h2 h3 h4 h5 h6 h7 HL hk
    go_wp2_with fail
    exact bodyPost_ret (v := .agg #[.slice (some ⟨g, 0, none⟩) 2 k, .slice D n' q]) (by simp [results, Try.results17, go_sem, y2, y3]) rfl HF.out.fin
  by_cases e1 : x = 1
  · subst e1
    obtain ⟨i0, hinf, hz0, hz1, hz2⟩ := slistInfo2
    obtain ⟨vs, hvl, hrow, hpush⟩ := HL.out.push (Nat.le_refl _)
    have HROW := hide hrow
    have HPUSH := hide hpush
    have hn' : n' = 9 := by obtain ⟨us, vs, F, G, h1, h2, h3, h4, h5, h6, h7⟩ := HL.out.two; exact h6
    have HN := hide hn'
    clear hrow hpush HL hn'
    have HRDV : Hid (RdV (wr.alloc (.cells #[.slice none 0 0] 37)) (some ⟨wr.heap.size, 0, none⟩) [.slice none 0 0] (wr.heap.size + 1)) := hide (rdV_one (by go_simp))
    have hz3 : (Value.agg #[.slice none 0 0]).cells.size = 1 := by simp [Value.cells]
    go_wp2_with (at_builtin; refine wpList_app _ rfl _ _ 24 rfl 0 37 i0 (.agg #[.slice none 0 0]) 24 Try.underlying24 hinf hz0 hz1 hz2 hz3 (.slice D n' q) n' vs rfl (HROW.out.alloc _) _ 1 1 [.slice none 0 0] _ rfl rfl HRDV.out (by simp [Value.oneCell']) ?c2 ?c3 ?c4 ?_)
    case c2 => have := HN.out; unfold maxLen; omega
    case c3 => have := HN.out; omega
    case c4 => exact Nat.zero_le _
    intro v' w4 hown hgr hv'
    obtain ⟨D', q', rfl, a0, a1, a2, a3, a4, hF⟩ := HPUSH.out _ _ _ ((Below.refl _ _).alloc (Nat.le_refl _) _) hown hgr (hv'.imp id (fun e => by simpa using e))
    have HF := hide hF
    have y0 := hF.c0
    have y1 := hF.c1
    have y2 := hF.d0
    have y3 := hF.d1
    have y4 := hF.g0
    have y5 := hF.g1
    clear hown hgr hv' hF HPUSH HROW
    go_wp2_with fail
    exact bodyPost_ret (v := .agg #[.slice C n k, .slice D' (n' + 1) q']) (by simp [results, Try.results17, go_sem, y2, y3]) rfl HF.out.fin
  by_cases e2 : x = 2
  · subst e2
    have hn' : n' = 9 := by obtain ⟨us, vs, F, G, h1, h2, h3, h4, h5, h6, h7⟩ := HL.out.two; exact h6
    have HN := hide hn'
    obtain ⟨g0, u0, eD, -⟩ := HL.out.put (i := 0) (Nat.le_refl _) (by omega)
    subst eD
    have lb := HL.out.lt
    have lcb : cb < wr.heap.size := by have := HL.out.cw; have := HL.out.hb; omega
    have hne : b ≠ cb := by have := HL.out.cw; have := HL.out.hb; omega
    have h00 : (wr.cell? ⟨b, 0, none⟩ = some (.slice C n k) ∧ wr.cell? ⟨b, 1, none⟩ = some (.slice (some ⟨g0, 0, none⟩) n' q)) ∧ S2 wr wr := ⟨⟨x0, x1⟩, Nat.le_refl _⟩
    have H00 := hide h00
    clear hn' h00
    go_wp2_with fail
    go_region_held3 (fun w' => (w'.cell? ⟨b, 0, none⟩ = some (.slice C n k) ∧ w'.cell? ⟨b, 1, none⟩ = some (.slice (some ⟨g0, 0, none⟩) n' q)) ∧ S2 wr w')
      (first
        | exact H00.out
        | exact k2D lb H00.out
        | assumption
        | exact k2A lb H00.out _
        | exact k2A lb (k2D lb H00.out) _
        | exact k2A lb (by assumption) _
        | exact k2S (by assumption) _ (by assumption)
        | exact k2A lb (k2S (by assumption) _ (by assumption)) _
        | exact k2S (by assumption) _ (k2A lb (by assumption) _))
      (first
        | (go_at_call 37; (with_reducible refine (l1Below_any _ _ _ (by first | exact HL.out.cur | exact HL.out.cur.below (Below.refl _ _).drew lcb | exact HL.out.cur.below ((Below.refl _ _).drew.alloc (Nat.le_refl _) _) lcb) (by have := HN.out; omega)).mono ?_); rintro e w' ⟨⟨j, rfl, hj⟩, hc, hg⟩; have hn9 := HN.out; have hS := k2G lb (by simp only [ne_eq, Option.some.injEq]; exact Ne.symm hne) hg (by first | exact H00.out | exact k2D lb H00.out | exact k2A lb (k2D lb H00.out) _);
            have hR := RL.draw (by first | exact (RL.start HL.out.cur).of_below (Below.refl _ _).drew | exact (RL.start HL.out.cur).of_below ((Below.refl _ _).drew.alloc (Nat.le_refl _) _)) hc hg; have hjn : (j : Int) < (n' : Int) := (by omega); have hj9 : j < n' := (by omega); have hj99 : j < 9 := (by omega); clear hn9; obtain ⟨g, u, eD, p1, p2, p3, p4, p5, hF⟩ := HL.out.put (i := j) (Nat.le_refl _) hj99; (simp only [Option.some.injEq, Addr.mk.injEq, and_true] at eD); subst eD; clear hj hj99; have hkg := hR.2.block g0 p2 (by simp only [ne_eq, Option.some.injEq]; exact HL.out.ne p1); have y0 := (World.cell?_of_block hkg).trans p4; have y1 := (World.frozen?_of_block hkg).trans p5; have y2 : g0 < w'.heap.size := Nat.lt_of_lt_of_le p2 hR.2.size; (first | (have hN := putB lcb hF hR hg) | (have hN := putA hF hR y2))))
    all_goals
      obtain ⟨X, hXe, hF⟩ := hN
      rw [← hXe]
      have HF := hide hF
      have y0 := hF.c0
      have y1 := hF.c1
      have y2 := hF.d0
      have y3 := hF.d1
      have y4 := hF.g0
      have y5 := hF.g1
      clear hF hXe
      go_wp2_with fail
      exact bodyPost_ret (v := .agg #[.slice C n k, .slice (some ⟨g0, 0, none⟩) n' q]) (by simp [results, Try.results17, go_sem, y2, y3]) rfl HF.out.fin
  by_cases e3 : x = 3
  · subst e3
    have hn : n = 3 := by obtain ⟨us, vs, F, G, h1, h2, h3, h4, h5, h6, h7⟩ := HL.out.two; exact h5
    obtain ⟨i0, hinf, hz0, hz1, hz2⟩ := info_parts intInfo2
    clear x0 x1 x2 x3 x4 x5 x6 x7
    go_wp2_with fail
    refine (l1Below_any _ _ _ HL.out.cur (by omega)).mono ?_
    rintro e wr2 ⟨⟨i, rfl, hi⟩, hc, hg⟩
    have HL2 := hide (HL.out.keep ⟨hc, hg⟩)
    have hi3 : i < 3 := by omega
    have hin : (i : Int) < (n : Int) := by omega
    have hin2 : i < n := by omega
    clear hc hg hi HL
    obtain ⟨g, A2, n2, c2, xs, eC, p2, p4, p6, p8, p9, p10⟩ := HL2.out.app2 (Nat.le_refl _) hi3
    subst eC
    have x0 := HL2.out.c0
    have x1 := HL2.out.c1
    have lb := HL2.out.lt
    have HCU := hide HL2.out.cur
    have HROW := hide p8
    have HREAD := hide p9
    have HAPP := hide p10
    have HRL : Hid (∀ w' : World, Cur w' cb → ((wr2.alloc (.cells #[.int .i64 (-1), .int .i64 24, .int .i64 5, .int .i64 6] 3)).drew).grownBy w' (some cb) → RL cb wr2 w') := hide fun w' hc hg => RL.draw ((RL.start HCU.out).of_below (((Below.refl _ _).alloc (Nat.le_refl _) _).drew)) hc hg
    have hm1 : n2 + 1 ≤ maxLen := by unfold maxLen; omega
    have hm2 : (n2 + 1) * 8 ≤ 140737488355328 := by omega
    have HM1 := hide hm1
    have HM2 := hide hm2
    clear p6 p8 p9 p10 hn hm1 hm2 hi3 HL2
    go_wp2_with fail
    go_region_law (first
        | (refine step_app _ (by rfl) (.tmp 47) (.tmp 51) 35 (by rfl) 0 3 i0 (.int .i64 0) 8 Try.underlying35 hinf hz0 hz1 hz2 rfl (.slice A2 n2 c2) n2 (ints xs) (by rfl) (HROW.out _ _ hR.out) _ 1 1 [.int .i64 xv] _ (by rfl) rfl (rd1 w' xv) (by simp [Value.oneCell']) HM1.out HM2.out (Nat.zero_le _) ?_; intro v' w4 hown hgr hv'; obtain ⟨E', kd, rfl, z0, z1, z2, z3, hF⟩ := HAPP.out _ _ _ _ hR.out hown hgr hv'; clear hown hgr hv')
        | (go_simp; go_at_call 38; (with_reducible refine (pick4_any _ _ HCU.out).mono ?_); rintro e w' ⟨⟨xv, rfl⟩, hc, hg⟩; have hR := hide (HRL.out _ hc hg); clear hc hg; obtain ⟨y0, y2, y3, y4, y5⟩ := HREAD.out _ hR.out; dsimp only))
    all_goals
      obtain ⟨X, hXe⟩ : ∃ X : World, X = w4.setCell ⟨g, i, none⟩ (.slice E' (n2 + 1) kd) := ⟨_, rfl⟩
      have HF := hide hF.out
      rw [← hXe] at HF ⊢
      have y0 := HF.out.c0
      have y1 := HF.out.c1
      have y2 := HF.out.d0
      have y3 := HF.out.d1
      have y4 := HF.out.g0
      have y5 := HF.out.g1
      clear hF hXe z0 z1 z2 z3 p4 x0 x1
      go_wp2_with fail
      exact bodyPost_ret (v := .agg #[.slice (some ⟨g, 0, none⟩) n k, .slice D n' q]) (by simp [results, Try.results17, go_sem, y2, y3]) rfl HF.out.fin
  · have HF := hide (HL.out.same (Nat.le_refl _))
    clear HL
    go_wp2_with fail
    exact bodyPost_ret (v := .agg #[.slice C n k, .slice D n' q]) (by simp [results, Try.results17, go_sem, x4, x5]) rfl HF.out.fin
end Go.Proofs.Ytdhocncfpapncab
