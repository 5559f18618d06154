/-
  Draws of heaps: append onto a row of one's own, whatever its room; what each of l7Any's changes leaves. Plain.
-/
import Derived.Test.YtdhocncfpapncacGDraw
namespace Go.Proofs.Ytdhocncfpapncac
open Go.RowKit
set_option linter.unusedVariables false

section
variable {P : Program} (w : World)
theorem run_app_o (t ty e : TypeId) (i : TypeInfo) (z : Value) (bytes : Nat) (ht : P.underlying t = some (.slice e)) (hi : P.info? e = some i) (hz : i.zero = some z)
    (hsize : i.size = 1) (hby : i.bytes = bytes) (hzs : z.cells.size = 1) (g n c : Nat) (zs : List Int) (F : List Nat) (hown : Own e w (.slice (some ⟨g, 0, none⟩) n c) (ints zs) F) (hp : 0 < n)
    (s : Nat) (p : Int) (hc : w.cell? ⟨s, 0, none⟩ = some (.int .i64 p)) (h63 : n + 1 ≤ maxLen) (hbytes : (n + 1) * bytes ≤ 140737488355328) :
    ∃ a c' F' w', (Builtin.append_ #[t, t] ty #[.slice (some ⟨g, 0, none⟩) n c, .slice (some ⟨s, 0, none⟩) 1 1]).run P w = .ok (.slice (some a) (n + 1) c') w' ∧ Own e w' (.slice (some a) (n + 1) c') (ints (zs ++ [p])) F' ∧ w.grownBy w' (some g) ∧ ∀ x, x ∈ F' → x = g ∨ x = w.heap.size := by
  subst hby
  have hrd := hown.rd
  have hn : n = zs.length := hrd.1
  obtain ⟨_, hcc, hcm, hcells⟩ := hown.read
  have hnews : ∀ j u, [Value.int .i64 p][j]? = some u → w.cell? ((⟨s, 0, none⟩ : Addr).add j) = some u := by
    intro j u hu
    match j, hu with
    | 0, hu =>
      simp only [List.getElem?_cons_zero, Option.some.injEq] at hu
      subst hu
      exact hc
  have happ : ints (zs ++ [p]) = ints zs ++ [.int .i64 p] := by simp [ints]
  obtain ⟨A, c2, e1, hc2, h | ⟨g2, cap, f, hA, rfl, hr, k1, k2, k3⟩⟩ := hown
  · have : (ints zs).length = 0 := by rw [h.1]; rfl
    rw [ints_length] at this
    omega
  injection e1 with e1 e2 e3
  subst e1 e3
  simp only [Option.some.injEq, Addr.mk.injEq, and_true] at hA
  subst hA
  obtain ⟨cur, hb, hs, hcur⟩ := hr
  by_cases hroom : n + 1 ≤ c
  · have hfit : n * i.size + [Value.int .i64 p].length ≤ cur.size := by rw [hsize]; simp only [List.length_cons, List.length_nil]; omega
    have hrun := run_append_room (P := P) w t ty e i ht hi g n c cur hb ⟨s, 0, none⟩ 1 1 [.int .i64 p] (by rw [hsize]; rfl) hnews (by intro u hu; simp only [List.mem_singleton] at hu; subst hu; rfl) hroom hfit
    refine ⟨_, _, [g], _, hrun, ⟨_, c, by rw [happ, List.length_append, ints_length, ← hn]; rfl, hc2, .inr ⟨g, cap, fun j => if j = n then .int .i64 p else f j, rfl, rfl, ⟨_, setRow_heap w g cur _ e _ hb, ?_, ?_⟩, ?_, k2, ?_⟩⟩, ⟨rfl, rfl, rfl, by simp, fun k _ hk => setRow_other w g k _ (fun e => hk (by simp [e]))⟩, fun x hx => by simp only [List.mem_singleton] at hx; exact .inl hx⟩
    · simp only [hsize, Nat.mul_one, List.size_toArray, List.length_append, List.length_take, List.length_drop, Array.length_toList, List.length_cons, List.length_nil]
      omega
    · intro j hj
      have hj' : j < cur.size := by omega
      have hcj := hcur j hj
      simp only [hsize, Nat.mul_one, List.length_cons, List.length_nil, List.append_assoc, List.getElem?_toArray]
      by_cases e : j = n
      · subst e
        rw [if_pos rfl, List.getElem?_append_right (by rw [List.length_take, Array.length_toList]; omega)]
        simp only [List.length_take, Array.length_toList, Nat.min_eq_left (Nat.le_of_lt hj'), Nat.sub_self, List.cons_append, List.getElem?_cons_zero]
      · rw [if_neg e]
        by_cases hlt : j < n
        · rw [List.getElem?_append_left (by rw [List.length_take, Array.length_toList]; omega), List.getElem?_take, if_pos hlt]
          simpa using hcj
        · rw [List.getElem?_append_right (by rw [List.length_take, Array.length_toList]; omega)]
          have hm : min n cur.size = n := by omega
          rw [List.length_take, Array.length_toList, hm, List.cons_append, List.nil_append]
          obtain ⟨q, hq⟩ : ∃ q, j - n = q + 1 := ⟨j - n - 1, by omega⟩
          rw [hq, List.getElem?_cons_succ, List.getElem?_drop]
          have : n + (0 + 1) + q = j := by omega
          rw [this]
          simpa using hcj
    · rw [happ, List.length_append, ints_length, ← hn]; exact hroom
    · intro j hj
      rw [happ, List.length_append, ints_length] at hj
      simp only [List.length_cons, List.length_nil] at hj
      rw [happ]
      dsimp only
      by_cases e : j = n
      · subst e
        rw [if_pos rfl, List.getD_eq_getElem?_getD, List.getElem?_append_right (by rw [ints_length]; omega), ints_length]
        have : j - zs.length = 0 := by omega
        rw [this]
        rfl
      · rw [if_neg e, k3 j (by rw [ints_length]; omega), List.getD_eq_getElem?_getD, List.getD_eq_getElem?_getD, List.getElem?_append_left (by rw [ints_length]; omega)]
  · have holds : ∀ j u, (ints zs)[j]? = some u → w.cell? ((⟨g, 0, none⟩ : Addr).add j) = some u := by
      intro j u hu
      obtain ⟨hj, e⟩ := List.getElem?_eq_some_iff.1 hu
      obtain ⟨g3, e3, _, _, e4, _⟩ := hcells j hj
      simp only [Option.some.injEq, Addr.mk.injEq, and_true] at e3
      subst e3
      have ha : (⟨g, 0, none⟩ : Addr).add j = ⟨g, j, none⟩ := by
        have : (⟨g, 0, none⟩ : Addr).add j = ⟨g, 0 + j, none⟩ := by unfold Addr.add; split <;> simp_all
        rw [this, Nat.zero_add]
      rw [ha, e4, List.getD_eq_getElem?_getD, hu]
      rfl
    have hlt : c < n + 1 := by omega
    have hrun := run_append_grow (P := P) w t ty e i z ht hi hz ⟨g, 0, none⟩ n c (ints zs) (by rw [ints_length, hsize]; omega) holds ⟨s, 0, none⟩ 1 1 [.int .i64 p] (by rw [hsize]; rfl) hnews hlt (by unfold maxLen at h63; omega) (growslice_fits hlt hbytes)
    have hge := grownCap_ge w (n + 1) c e
    have hcm2 : grownCap w (n + 1) c e ≤ maxLen := grownCap_le_maxLen w (n + 1) c e h63
    have hlen : (ints zs ++ [Value.int .i64 p]).length = (n + 1) * 1 := by rw [List.length_append, ints_length]; simp; omega
    have how : (w.drew.alloc (.cells ((ints zs).toArray ++ [Value.int .i64 p].toArray ++ Builtin.zeroCells z.cells (grownCap w (n + 1) c e - (n + 1))) e)).ownsRow w.heap.size e 1
        (.slice (some ⟨w.heap.size, 0, none⟩) (n + 1) (grownCap w (n + 1) c e)) (n + 1) (ints zs ++ [.int .i64 p]) := by
      refine ⟨hlen, .inr ⟨w.heap.size, _, _, rfl, Nat.le_refl _, heap_alloc_new w.drew _, hge, hcm2, ?_, ?_⟩⟩
      · simp only [Array.size_append, List.size_toArray, size_zeroCells, hzs, ints_length, List.length_cons, List.length_nil]
        omega
      · simp only [Array.toList_append, List.append_assoc]
        rw [← List.append_assoc, ← hlen]
        exact List.take_left
    obtain ⟨A3, c3, F3, e3, h3, h4, h5⟩ := own_of_row how
    injection e3 with e3 _ e5
    subst e3 e5
    rw [← happ] at h4
    exact ⟨_, _, F3, _, hrun, h4, ⟨rfl, rfl, rfl, by simp, fun k hk _ => heap_alloc_old w.drew _ hk⟩, fun x hx => by
      have := (h5 x hx).2
      simp only [Value.ownBlock, Option.some.injEq] at this
      exact .inr this⟩
theorem wpList_app_o {ops : Array Oper} {rest : List Oper} {o : Oper} {a : Act} {Q : Exit → Act → World → Prop} (hgd : o.guard = none) (s x : Operand) (t : TypeId)
    (ho : o.op = .call { callee := .builtin .append, args := #[s, x], argTypes := #[t, t] })
    (e : TypeId) (i : TypeInfo) (z : Value) (bytes : Nat) (ht : P.underlying t = some (.slice e)) (hi : P.info? e = some i) (hz : i.zero = some z)
    (hsize : i.size = 1) (hby : i.bytes = bytes) (hzs : z.cells.size = 1) (g n c : Nat) (zs : List Int) (F : List Nat) (hs : a.eval s = .slice (some ⟨g, 0, none⟩) n c) (hown : Own e w (.slice (some ⟨g, 0, none⟩) n c) (ints zs) F) (hp : 0 < n)
    (sb : Nat) (p : Int) (hx : a.eval x = .slice (some ⟨sb, 0, none⟩) 1 1) (hc : w.cell? ⟨sb, 0, none⟩ = some (.int .i64 p)) (h63 : n + 1 ≤ maxLen) (hbytes : (n + 1) * bytes ≤ 140737488355328)
    (h : ∀ ad c' F' w', Own e w' (.slice (some ad) (n + 1) c') (ints (zs ++ [p])) F' → w.grownBy w' (some g) → (∀ x, x ∈ F' → x = g ∨ x = w.heap.size) → wpList P ops Q rest (a.put o.dst (.slice (some ad) (n + 1) c')) w') : wpList P ops Q (o :: rest) a w :=
  wpList_plain hgd fun K hK => by
    obtain ⟨ad, c', F', w', hrun, h2, h3, h4⟩ := run_app_o (P := P) w t o.type e i z bytes ht hi hz hsize hby hzs g n c zs F hown hp sb p hc h63 hbytes
    unfold Oper.wp execOp
    simp only [ho, resolve, invoke, builtin, Sem.run_bind, Sem.run_pure, Result.andThen_ok, List.map_toArray, List.map_cons, List.map_nil, hs, hx, hrun]
    exact hK _ _ (h ad c' F' w' h2 h3 h4)
end
theorem own_take {w : World} {E : TypeId} {A : Option Addr} {n c : Nat} {x : List Int} {F : List Nat} (h : Own E w (.slice A n c) (ints x) F) {m : Nat} (hm : m ≤ n) : Own E w (.slice A m c) (ints (x.take m)) F := by
  have hn := h.rd.1
  have hl : (ints (x.take m)).length = m := by rw [ints_length, List.length_take]; omega
  obtain ⟨A2, c2, e, hc, h | ⟨g, cap, f, hA, rfl, hr, h1, h2, h3⟩⟩ := h
  · injection e with e1 e2 e3
    subst e1 e3
    refine ⟨A, c, by rw [hl], hc, .inl ⟨?_, h.2.1, h.2.2⟩⟩
    have : (ints x).length = 0 := by rw [h.1]; rfl
    rw [ints_length] at this
    exact List.eq_nil_of_length_eq_zero (by rw [hl]; omega)
  · injection e with e1 e2 e3
    subst e1 e3
    rw [ints_length] at h1
    refine ⟨A, c, by rw [hl], hc, .inr ⟨g, cap, f, hA, rfl, hr, by rw [hl]; omega, h2, fun j hj => ?_⟩⟩
    rw [hl] at hj
    rw [h3 j (by rw [ints_length]; omega), ints_get _ _ (by omega), ints_get _ _ (by rw [List.length_take]; omega)]
    simp [List.getD, hj]
/-- A heap in the box at b, behind a change: what is to be returned. -/
structure GF (w X : World) (cb b : Nat) (C D : Option Addr) (n k n' q : Nat) : Prop where
  cur : Cur X cb
  gr : w.grownBy X (some cb)
  cw : cb < w.heap.size
  c0 : X.cell? ⟨b, 0, none⟩ = some (.slice C n k)
  c1 : X.cell? ⟨b, 1, none⟩ = some (.slice D n' q)
  d0 : X.cell? ⟨w.heap.size, 0, none⟩ = some (.slice none 0 0)
  d1 : X.cell? ⟨w.heap.size, 1, none⟩ = some (.slice none 0 0)
  g0 : X.frozen? ⟨w.heap.size, 0, none⟩ = false
  g1 : X.frozen? ⟨w.heap.size, 1, none⟩ = false
  lv : ∃ x y F G a a', C = some a ∧ D = some a' ∧ Own 3 X (.slice C n k) (ints x) F ∧ Own 3 X (.slice D n' q) (ints y) G ∧ (∀ g, g ∈ F ∨ g ∈ G → w.heap.size < g) ∧ n ≤ 384 ∧ n' ≤ 7
/-- What l7Any tells. -/
def HAny (w w' : World) (cb : Nat) (e : Ending) : Prop :=
  ∃ a k a' q x y, e = .returned (.agg #[.slice (some a) x.length k, .slice (some a') y.length q]) ∧ x.length ≤ 384 ∧ y.length ≤ 7 ∧ x.length ≤ k ∧ k ≤ maxLen ∧ (∀ F X, (∀ g, g ∈ F → g ≤ w.heap.size) → Touch F w' X → RdB .i64 X (some a) x X.heap.size ∧ RdB .i64 X (some a') y X.heap.size) ∧ Cur w' cb ∧ w.grownBy w' (some cb)
theorem GF.fin {w X : World} {cb b : Nat} {C D : Option Addr} {n k n' q : Nat} (h : GF w X cb b C D n k n' q) :
    HAny w ((X.setCell ⟨w.heap.size, 0, none⟩ (.slice C n k)).setCell ⟨w.heap.size, 1, none⟩ (.slice D n' q)) cb (.returned (.agg #[.slice C n k, .slice D n' q])) := by
  obtain ⟨X', hX'⟩ : ∃ X', X' = (X.setCell ⟨w.heap.size, 0, none⟩ (.slice C n k)).setCell ⟨w.heap.size, 1, none⟩ (.slice D n' q) := ⟨_, rfl⟩
  rw [← hX']
  have ht : Touch [w.heap.size] X X' := by rw [hX']; exact ((Touch.refl _ _).setCell (by simp) _).setCell (by simp) _
  obtain ⟨x, y, F, G, a, a', rfl, rfl, h1, h2, h3, h4, h5⟩ := h.lv
  have h1 := h1.touch ht (fun g hg hm => by simp only [List.mem_singleton] at hm; subst hm; exact Nat.lt_irrefl _ (h3 _ (.inl hg)))
  have h2 := h2.touch ht (fun g hg hm => by simp only [List.mem_singleton] at hm; subst hm; exact Nat.lt_irrefl _ (h3 _ (.inr hg)))
  obtain ⟨a1, -⟩ := h1.rd
  obtain ⟨b1, -⟩ := h2.rd
  obtain ⟨_, p1, p2, _⟩ := h1.read
  subst a1 b1
  have hcw := h.cw
  exact ⟨a, k, a', q, x, y, rfl, h4, h5, p1, p2, fun F' Y hF ht' => ⟨(h1.touch ht' (fun g hg hm => by have := h3 g (.inl hg); have := hF g hm; omega)).rd.2, (h2.touch ht' (fun g hg hm => by have := h3 g (.inr hg); have := hF g hm; omega)).rd.2⟩, h.cur.touch ht (fun g hg => by simp only [List.mem_singleton] at hg; omega), grown_touch h.gr ht (fun g hg => by simp only [List.mem_singleton] at hg; omega)⟩
theorem GL.two {w wr : World} {C D : Option Addr} {k q cb b : Nat} (h : GL w wr cb b C D k q) :
    ∃ gx gy x y, C = some ⟨gx, 0, none⟩ ∧ D = some ⟨gy, 0, none⟩ ∧ 384 = x.length ∧ 6 = y.length ∧ Own 3 wr (.slice C 384 k) (ints x) [gx] ∧ Own 3 wr (.slice D 6 q) (ints y) [gy] ∧ gx ≠ gy ∧ (w.heap.size < gx ∧ gx ≠ b ∧ gx < wr.heap.size) ∧ (w.heap.size < gy ∧ gy ≠ b ∧ gy < wr.heap.size) := by
  obtain ⟨lo, hi, hv, hl, hd⟩ := h.lv
  obtain ⟨F, F', x, y, h1, h2, h3, h4⟩ := hv.open
  have e1 := h1.rd.1
  have e2 := h2.rd.1
  obtain ⟨gx, rfl, rfl⟩ := own_at h1 (by omega)
  obtain ⟨gy, rfl, rfl⟩ := own_at h2 (by omega)
  have a1 := h4 gx (by simp)
  have a2 := h4 gy (by simp)
  have a3 := h1.lt gx (by simp)
  have a4 := h2.lt gy (by simp)
  exact ⟨gx, gy, x, y, rfl, rfl, e1, e2, h1, h2, fun e => h3 gx (by simp) (by simp [e]), ⟨by omega, by omega, a3⟩, ⟨by omega, by omega, a4⟩⟩
theorem GL.build {w wr X : World} {C D C' D' : Option Addr} {k q cb b m k' m' q' : Nat} (h : GL w wr cb b C D k q) {F : List Nat} (ht : Touch F wr X) (hF : ∀ g, g ∈ F → w.heap.size < g)
    (c0 : X.cell? ⟨b, 0, none⟩ = some (.slice C' m k')) (c1 : X.cell? ⟨b, 1, none⟩ = some (.slice D' m' q'))
    (hv : ∃ x y F G a a', C' = some a ∧ D' = some a' ∧ Own 3 X (.slice C' m k') (ints x) F ∧ Own 3 X (.slice D' m' q') (ints y) G ∧ (∀ g, g ∈ F ∨ g ∈ G → w.heap.size < g) ∧ m ≤ 384 ∧ m' ≤ 7) : GF w X cb b C' D' m k' m' q' := by
  have hcw := h.cw
  have hb := h.hb
  have hlt := h.lt
  have hW := ht.block w.heap.size (by omega) (fun hm => by have := hF _ hm; omega)
  exact ⟨h.cur.touch ht (fun g hg => by have := hF g hg; omega), grown_touch h.gr ht (fun g hg => Nat.le_of_lt (hF g hg)), hcw, c0, c1, (World.cell?_of_block hW).trans h.d0, (World.cell?_of_block hW).trans h.d1, (World.frozen?_of_block hW).trans h.g0, (World.frozen?_of_block hW).trans h.g1, hv⟩
theorem GL.same {w wr : World} {C D : Option Addr} {k q cb b : Nat} (h : GL w wr cb b C D k q) : GF w wr cb b C D 384 k 6 q := by
  obtain ⟨gx, gy, x, y, rfl, rfl, e1, e2, h1, h2, h3, h4, h5⟩ := h.two
  exact h.build (Touch.refl [] _) (by simp) h.c0 h.c1 ⟨x, y, _, _, _, _, rfl, rfl, h1, h2, fun g hg => by simp only [List.mem_singleton] at hg; omega, by omega, by omega⟩
theorem GL.cut {w wr : World} {C D : Option Addr} {k q cb b m : Nat} (h : GL w wr cb b C D k q) (hm : m ≤ 384) : GF w (wr.setCell ⟨b, 0, none⟩ (.slice C m k)) cb b C D m k 6 q := by
  obtain ⟨gx, gy, x, y, rfl, rfl, e1, e2, h1, h2, h3, h4, h5⟩ := h.two
  have ht : Touch [b] wr (wr.setCell ⟨b, 0, none⟩ (.slice (some ⟨gx, 0, none⟩) m k)) := (Touch.refl _ _).setCell (by simp) _
  have x0 := h.c0
  have x1 := h.c1
  exact h.build ht (fun g hg => by simp only [List.mem_singleton] at hg; have := h.hb; omega) (by go_simp) (by go_simp) ⟨_, y, _, _, _, _, rfl, rfl, (own_take h1 hm).touch ht (fun g hg hm => by simp only [List.mem_singleton] at hg hm; omega), h2.touch ht (fun g hg hm => by simp only [List.mem_singleton] at hg hm; omega), fun g hg => by simp only [List.mem_singleton] at hg; omega, hm, by omega⟩
/-- A number put into one of the two rows, from any world of the round. -/
theorem GL.put {w wr : World} {C D : Option Addr} {k q cb b : Nat} (h : GL w wr cb b C D k q) (s : Bool) (i : Nat) (hi : i < if s then 384 else 6) :
    ∃ g u, (if s then C else D) = some ⟨g, 0, none⟩ ∧ w.heap.size < g ∧ g < wr.heap.size ∧ g ≠ b ∧ (∀ W, RL cb wr W → W.cell? ⟨g, i, none⟩ = some u ∧ W.frozen? ⟨g, i, none⟩ = false ∧ g < W.heap.size) ∧
      ∀ (W : World) (v : Int), RL cb wr W → GF w (W.setCell ⟨g, i, none⟩ (.int .i64 v)) cb b C D 384 k 6 q := by
  obtain ⟨gx, gy, x, y, rfl, rfl, e1, e2, h1, h2, h3, h4, h5⟩ := h.two
  have hcw := h.cw
  have hb := h.hb
  have hlt := h.lt
  have hk : ∀ W, RL cb wr W → ∀ a, w.heap.size < a → a < wr.heap.size → W.heap[a]? = wr.heap[a]? := fun W hR a h8 h9 => hR.2.block a h9 (by simp only [ne_eq, Option.some.injEq]; omega)
  have keepO : ∀ W, RL cb wr W → Own 3 W (.slice (some ⟨gx, 0, none⟩) 384 k) (ints x) [gx] ∧ Own 3 W (.slice (some ⟨gy, 0, none⟩) 6 q) (ints y) [gy] := fun W hR => by
    have hT := touch_grown (F := [cb]) hR.2 (fun g hg => by simp only [Option.some.injEq] at hg; simp [hg])
    exact ⟨h1.touch hT (fun g hg hm => by simp only [List.mem_singleton] at hg hm; omega), h2.touch hT (fun g hg hm => by simp only [List.mem_singleton] at hg hm; omega)⟩
  cases s
  · simp only [Bool.false_eq_true, if_false] at hi ⊢
    refine ⟨gy, .int .i64 (y.getD i 0), rfl, h5.1, h5.2.2, h5.2.1, fun W hR => ?_, fun W v hR => ?_⟩
    · have ho := (keepO W hR).2
      exact ⟨(own_cell ho i (by omega)).1, (own_cell ho i (by omega)).2, ho.lt gy (by simp)⟩
    · have hX := h.keep hR
      have ht : Touch [gy] W (W.setCell ⟨gy, i, none⟩ (.int .i64 v)) := (Touch.refl _ _).setCell (by simp) _
      have x0 := hX.c0
      have x1 := hX.c1
      have hne := h5.2.1
      have hXb := ht.block b hX.lt (by simp only [List.mem_singleton]; omega)
      exact hX.build ht (fun g hg => by simp only [List.mem_singleton] at hg; omega) ((World.cell?_of_block hXb).trans x0) ((World.cell?_of_block hXb).trans x1) ⟨x, _, _, _, _, _, rfl, rfl, (keepO W hR).1.touch ht (fun g hg hm => by simp only [List.mem_singleton] at hg hm; omega), own_set (keepO W hR).2 i (by omega) v, fun g hg => by simp only [List.mem_singleton] at hg; omega, by omega, by omega⟩
  · simp only [if_true] at hi ⊢
    refine ⟨gx, .int .i64 (x.getD i 0), rfl, h4.1, h4.2.2, h4.2.1, fun W hR => ?_, fun W v hR => ?_⟩
    · have ho := (keepO W hR).1
      exact ⟨(own_cell ho i (by omega)).1, (own_cell ho i (by omega)).2, ho.lt gx (by simp)⟩
    · have hX := h.keep hR
      have ht : Touch [gx] W (W.setCell ⟨gx, i, none⟩ (.int .i64 v)) := (Touch.refl _ _).setCell (by simp) _
      have x0 := hX.c0
      have x1 := hX.c1
      have hne := h4.2.1
      have hXb := ht.block b hX.lt (by simp only [List.mem_singleton]; omega)
      exact hX.build ht (fun g hg => by simp only [List.mem_singleton] at hg; omega) ((World.cell?_of_block hXb).trans x0) ((World.cell?_of_block hXb).trans x1) ⟨_, y, _, _, _, _, rfl, rfl, own_set (keepO W hR).1 i (by omega) v, (keepO W hR).2.touch ht (fun g hg hm => by simp only [List.mem_singleton] at hg hm; omega), fun g hg => by simp only [List.mem_singleton] at hg; omega, by omega, by omega⟩
/-- A page more. -/
theorem GL.push {w wr : World} {C D : Option Addr} {k q cb b : Nat} (h : GL w wr cb b C D k q) :
    ∃ gy y, D = some ⟨gy, 0, none⟩ ∧ Own 3 wr (.slice D 6 q) (ints y) [gy] ∧ ∀ (W w4 : World) (a : Addr) (c' : Nat) (F' : List Nat) (p : Int), Below wr.heap.size wr W → Own 3 w4 (.slice (some a) 7 c') (ints (y ++ [p])) F' → W.grownBy w4 (some gy) → (∀ x, x ∈ F' → x = gy ∨ x = W.heap.size) →
      w4.cell? ⟨b, 0, none⟩ = some (.slice C 384 k) ∧ w4.cell? ⟨b, 1, none⟩ = some (.slice D 6 q) ∧ w4.frozen? ⟨b, 0, none⟩ = false ∧ w4.frozen? ⟨b, 1, none⟩ = false ∧ w4.cell? ⟨w.heap.size, 0, none⟩ = some (.slice none 0 0) ∧ GF w (w4.setCell ⟨b, 1, none⟩ (.slice (some a) 7 c')) cb b C (some a) 384 k 7 c' := by
  obtain ⟨gx, gy, x, y, rfl, rfl, e1, e2, h1, h2, h3, h4, h5⟩ := h.two
  refine ⟨gy, y, rfl, h2, fun W w4 a c' F' p hW ho hgr hF => ?_⟩
  have hcw := h.cw
  have hb := h.hb
  have hlt := h.lt
  have sW := hW.size
  have sG := hgr.size
  have hT4 : Touch [gy] wr w4 := (Touch.of_below hW).trans (touch_grown hgr (fun g hg => by simp only [Option.some.injEq] at hg; simp [hg]))
  have hkb := hT4.block b hlt (by simp only [List.mem_singleton]; omega)
  have hkw := hT4.block w.heap.size (by omega) (by simp only [List.mem_singleton]; omega)
  have x0 := (World.cell?_of_block hkb).trans h.c0
  have x1 := (World.cell?_of_block hkb).trans h.c1
  have x2 := (World.frozen?_of_block hkb).trans h.f0
  have x3 := (World.frozen?_of_block hkb).trans h.f1
  have hT : Touch [b] w4 (w4.setCell ⟨b, 1, none⟩ (.slice (some a) 7 c')) := (Touch.refl _ _).setCell (by simp) _
  have ht : Touch [gy, b] wr (w4.setCell ⟨b, 1, none⟩ (.slice (some a) 7 c')) := (hT4.mono (by simp)).trans (hT.mono (by simp))
  have hnF : ∀ g, g ∈ F' → w.heap.size < g ∧ g ≠ b := fun g hg => by rcases hF g hg with e | e <;> omega
  refine ⟨x0, x1, x2, x3, (World.cell?_of_block hkw).trans h.d0, h.build ht (fun g hg => by simp only [List.mem_cons, List.not_mem_nil, or_false] at hg; omega) (by go_simp) (by go_simp) ⟨x, _, _, _, _, _, rfl, rfl, (h1.touch hT4 (fun g hg hm => by simp only [List.mem_singleton] at hg hm; omega)).touch hT (fun g hg hm => by simp only [List.mem_singleton] at hg hm; omega), ho.touch hT (fun g hg hm => by simp only [List.mem_singleton] at hm; exact (hnF g hg).2 hm), fun g hg => ?_, by omega, by omega⟩⟩
  rcases hg with hg | hg
  · simp only [List.mem_singleton] at hg; omega
  · exact (hnF g hg).1
end Go.Proofs.Ytdhocncfpapncac
