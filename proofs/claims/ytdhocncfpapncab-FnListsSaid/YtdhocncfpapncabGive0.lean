/-
  A slot given: lists that a function has made, a row of which grows; the reference's l8Give.
-/
import Derived.Test.YtdhocncfpapncabOwnV
import Derived.Test.YtdhocncfpapncabListsOkW
import Derived.Test.YtdhocncfpapncabPlace
import Derived.Test.YtdhocncfpapncabOwnI
import Derived.Deep.RegionLaw
namespace Go.Proofs.Ytdhocncfpapncab
open Go.RowKit
set_option linter.unusedVariables false

/-- A row of the second half grows by one slot. -/
theorem LV.app1 {wr : World} {C D : Option Addr} {k m n n' : Nat} {z y : List (List Int)} {lo hi i : Nat} (h : LV true wr (.agg #[.slice C n k, .slice D n' m]) z y lo hi) (hi' : i < y.length) :
    ∃ g A2 n2 c2, D = some ⟨g, 0, none⟩ ∧ lo ≤ g ∧ g < hi ∧ hi ≤ wr.heap.size ∧ wr.cell? ⟨g, i, none⟩ = some (.slice A2 n2 c2) ∧ wr.frozen? ⟨g, i, none⟩ = false ∧ n2 = (y.getD i []).length ∧ n2 ≤ c2 ∧ c2 ≤ maxLen ∧ wr.ownsRow 0 3 1 (.slice A2 n2 c2) n2 (ints (y.getD i [])) ∧
      (∀ b, (Value.slice A2 n2 c2).ownBlock = some b → lo ≤ b ∧ b < hi ∧ b ≠ g) ∧
      ∀ w2 w3 v' s, Below wr.heap.size wr w2 → w3.ownsRow 0 3 1 v' (n2 + 1) (ints (y.getD i []) ++ [.int .i64 s]) → w2.grownBy w3 (Value.slice A2 n2 c2).ownBlock → (v'.ownBlock = (Value.slice A2 n2 c2).ownBlock ∨ v'.ownBlock = some w2.heap.size) →
        ∀ Fx wf, Touch Fx (w3.setCell ⟨g, i, none⟩ v') wf → (∀ x, x ∈ Fx → ¬ (lo ≤ x ∧ x < hi) ∧ x < w2.heap.size) → LV true wf (.agg #[.slice C n k, .slice D n' m]) z (addZ y i s) lo wf.heap.size := by
  obtain ⟨C', k', D', m', us, vs, F, G, e, h1, h2, h3, h4, h5⟩ := h
  simp only [Value.agg.injEq, Array.mk.injEq, List.cons.injEq, Value.slice.injEq, and_true] at e
  obtain ⟨⟨rfl, rfl, rfl⟩, rfl, rfl, rfl⟩ := e
  obtain ⟨g, A2, n2, c2, rfl, q1, q3, he, q4, q5, q6, q7, q8, q9⟩ := h2.cell hi'
  have hrow := (h2.rows.el i hi').row (lo := 0) (fun _ _ => Nat.zero_le _)
  rw [he, ints_length, ← q6] at hrow
  have hgb := h4 g (List.mem_append_right _ q1)
  have hblk : ∀ b, (Value.slice A2 n2 c2).ownBlock = some b → b ∈ G ∧ b ≠ g := fun b hb => by
    rw [← he] at hb
    have h6 := h2.rows.ins i hi' b hb
    exact ⟨h6.1, fun e => h6.2 (by rw [e]; rfl)⟩
  refine ⟨g, A2, n2, c2, rfl, hgb.1, hgb.2, h5, q4, q5, q6, q7, q8, hrow, fun b hb => ⟨(h4 b (List.mem_append_right _ (hblk b hb).1)).1, (h4 b (List.mem_append_right _ (hblk b hb).1)).2, (hblk b hb).2⟩, fun w2 w3 v' s hb2 hown hgr hv Fx wf htf hFx => ?_⟩
  have s2 := hb2.size
  have s3 := hgr.size
  have hlt := hown.lt
  rw [← he] at hgr hv
  rw [q6] at hown
  have hset : w3.heap.size ≤ wf.heap.size := Nat.le_trans (by simp [World.setCell]) htf.size
  have hF0 : ∀ x, x ∈ Fx → x ∉ F := fun x hx hm => (hFx x hx).1 (h4 x (List.mem_append_left _ hm))
  have hG0 : ∀ x, x ∈ Fx → x ∉ G := fun x hx hm => (hFx x hx).1 (h4 x (List.mem_append_right _ hm))
  have hoth : OwnV true (w3.setCell ⟨g, i, none⟩ v') _ us z F := h1.keep fun x hx hxl => by
    have hxg : x ≠ g := fun e => h3 x hx (e ▸ q1)
    rw [Below.heap_setCell _ _ _ _ (by show x ≠ g; exact hxg)]
    rw [hgr.block x (by omega) (fun e => by
      have h6 := (hblk x (by rw [← he]; exact e.symm)).1
      exact h3 x hx h6)]
    exact hb2.block x hxl
  have hoth := hoth.touch htf hF0
  rcases hv with hv | hv
  · have hnew := h2.app (H' := G) hi' hb2 hown hgr (.inl hv) (fun x hx => hx) (fun b hb => (hblk b (by rw [← he]; exact hv ▸ hb)).1)
    exact ⟨_, k, _, m, _, _, F, G, by rw [addZ_length], hoth, by rw [addZ_length]; exact hnew.touch htf hG0, h3, fun x hx => ⟨(h4 x hx).1, by have := (h4 x hx).2; omega⟩, Nat.le_refl _⟩
  · have hx2 : w2.heap.size < w3.heap.size := (hlt _ hv).2
    have hnew := h2.app (H' := w2.heap.size :: G) hi' hb2 hown hgr (.inr hv) (fun x hx => List.mem_cons_of_mem _ hx) (fun b hb => by rw [hv] at hb; simp only [Option.some.injEq] at hb; rw [← hb]; exact List.mem_cons_self)
    refine ⟨_, k, _, m, _, _, F, w2.heap.size :: G, by rw [addZ_length], hoth, by rw [addZ_length]; exact hnew.touch htf (fun x hx hm => by
      rcases List.mem_cons.1 hm with e | hm
      · have := (hFx x hx).2; omega
      · exact hG0 x hx hm), ?_, ?_, Nat.le_refl _⟩
    · intro x hx hm
      rcases List.mem_cons.1 hm with e | hm
      · have := (h4 x (List.mem_append_left _ hx)).2; omega
      · exact h3 x hx hm
    · intro x hx
      rcases List.mem_append.1 hx with hx | hx
      · have := h4 x (List.mem_append_left _ hx); omega
      · rcases List.mem_cons.1 hx with e | hx
        · subst e; omega
        · have := h4 x (List.mem_append_right _ hx); omega
/-- A row of the first half grows by one slot. -/
theorem LV.app0 {wr : World} {C D : Option Addr} {k m n n' : Nat} {z y : List (List Int)} {lo hi i : Nat} (h : LV true wr (.agg #[.slice C n k, .slice D n' m]) z y lo hi) (hi' : i < z.length) :
    ∃ g A2 n2 c2, C = some ⟨g, 0, none⟩ ∧ lo ≤ g ∧ g < hi ∧ hi ≤ wr.heap.size ∧ wr.cell? ⟨g, i, none⟩ = some (.slice A2 n2 c2) ∧ wr.frozen? ⟨g, i, none⟩ = false ∧ n2 = (z.getD i []).length ∧ n2 ≤ c2 ∧ c2 ≤ maxLen ∧ wr.ownsRow 0 3 1 (.slice A2 n2 c2) n2 (ints (z.getD i [])) ∧
      (∀ b, (Value.slice A2 n2 c2).ownBlock = some b → lo ≤ b ∧ b < hi ∧ b ≠ g) ∧
      ∀ w2 w3 v' s, Below wr.heap.size wr w2 → w3.ownsRow 0 3 1 v' (n2 + 1) (ints (z.getD i []) ++ [.int .i64 s]) → w2.grownBy w3 (Value.slice A2 n2 c2).ownBlock → (v'.ownBlock = (Value.slice A2 n2 c2).ownBlock ∨ v'.ownBlock = some w2.heap.size) →
        ∀ Fx wf, Touch Fx (w3.setCell ⟨g, i, none⟩ v') wf → (∀ x, x ∈ Fx → ¬ (lo ≤ x ∧ x < hi) ∧ x < w2.heap.size) → LV true wf (.agg #[.slice C n k, .slice D n' m]) (addZ z i s) y lo wf.heap.size := by
  obtain ⟨C', k', D', m', us, vs, F, G, e, h1, h2, h3, h4, h5⟩ := h
  simp only [Value.agg.injEq, Array.mk.injEq, List.cons.injEq, Value.slice.injEq, and_true] at e
  obtain ⟨⟨rfl, rfl, rfl⟩, rfl, rfl, rfl⟩ := e
  obtain ⟨g, A2, n2, c2, rfl, q1, q3, he, q4, q5, q6, q7, q8, q9⟩ := h1.cell hi'
  have hrow := (h1.rows.el i hi').row (lo := 0) (fun _ _ => Nat.zero_le _)
  rw [he, ints_length, ← q6] at hrow
  have hgb := h4 g (List.mem_append_left _ q1)
  have hblk : ∀ b, (Value.slice A2 n2 c2).ownBlock = some b → b ∈ F ∧ b ≠ g := fun b hb => by
    rw [← he] at hb
    have h6 := h1.rows.ins i hi' b hb
    exact ⟨h6.1, fun e => h6.2 (by rw [e]; rfl)⟩
  refine ⟨g, A2, n2, c2, rfl, hgb.1, hgb.2, h5, q4, q5, q6, q7, q8, hrow, fun b hb => ⟨(h4 b (List.mem_append_left _ (hblk b hb).1)).1, (h4 b (List.mem_append_left _ (hblk b hb).1)).2, (hblk b hb).2⟩, fun w2 w3 v' s hb2 hown hgr hv Fx wf htf hFx => ?_⟩
  have s2 := hb2.size
  have s3 := hgr.size
  have hlt := hown.lt
  rw [← he] at hgr hv
  rw [q6] at hown
  have hset : w3.heap.size ≤ wf.heap.size := Nat.le_trans (by simp [World.setCell]) htf.size
  have hF0 : ∀ x, x ∈ Fx → x ∉ F := fun x hx hm => (hFx x hx).1 (h4 x (List.mem_append_left _ hm))
  have hG0 : ∀ x, x ∈ Fx → x ∉ G := fun x hx hm => (hFx x hx).1 (h4 x (List.mem_append_right _ hm))
  have hoth : OwnV true (w3.setCell ⟨g, i, none⟩ v') _ vs y G := h2.keep fun x hx hxl => by
    have hxg : x ≠ g := fun e => h3 g q1 (e ▸ hx)
    rw [Below.heap_setCell _ _ _ _ (by show x ≠ g; exact hxg)]
    rw [hgr.block x (by omega) (fun e => by
      have h6 := (hblk x (by rw [← he]; exact e.symm)).1
      exact h3 x h6 hx)]
    exact hb2.block x hxl
  have hoth := hoth.touch htf hG0
  rcases hv with hv | hv
  · have hnew := h1.app (H' := F) hi' hb2 hown hgr (.inl hv) (fun x hx => hx) (fun b hb => (hblk b (by rw [← he]; exact hv ▸ hb)).1)
    exact ⟨_, k, _, m, _, _, F, G, by rw [addZ_length], by rw [addZ_length]; exact hnew.touch htf hF0, hoth, h3, fun x hx => ⟨(h4 x hx).1, by have := (h4 x hx).2; omega⟩, Nat.le_refl _⟩
  · have hx2 : w2.heap.size < w3.heap.size := (hlt _ hv).2
    have hnew := h1.app (H' := w2.heap.size :: F) hi' hb2 hown hgr (.inr hv) (fun x hx => List.mem_cons_of_mem _ hx) (fun b hb => by rw [hv] at hb; simp only [Option.some.injEq] at hb; rw [← hb]; exact List.mem_cons_self)
    refine ⟨_, k, _, m, _, _, w2.heap.size :: F, G, by rw [addZ_length], by rw [addZ_length]; exact hnew.touch htf (fun x hx hm => by
      rcases List.mem_cons.1 hm with e | hm
      · have := (hFx x hx).2; omega
      · exact hF0 x hx hm), hoth, ?_, ?_, Nat.le_refl _⟩
    · intro x hx hm
      rcases List.mem_cons.1 hx with e | hx
      · have := (h4 x (List.mem_append_right _ hm)).2; omega
      · exact h3 x hx hm
    · intro x hx
      rcases List.mem_append.1 hx with hx | hx
      · rcases List.mem_cons.1 hx with e | hx
        · subst e; omega
        · have := h4 x (List.mem_append_left _ hx); omega
      · have := h4 x (List.mem_append_right _ hx); omega
theorem Touch.setNew {F : List Nat} {a b : World} (h : Touch F a b) {p : Addr} (hp : a.heap.size ≤ p.block) (u : Value) : Touch F a (b.setCell p u) :=
  ⟨h.os, h.tape, h.output, Nat.le_trans h.size (by simp [World.setCell]), fun k hk hn => (Below.heap_setCell _ _ _ _ (by omega)).trans (h.block k hk hn)⟩
theorem touch_grown {F : List Nat} {W W' : World} {row : Option Nat} (h : W.grownBy W' row) (hr : ∀ g, row = some g → g ∈ F) : Touch F W W' :=
  ⟨h.os, h.tape, h.output, h.size, fun k hk hn => h.block k hk (fun e => hn (hr k e.symm))⟩
/-- What both sides give: onto a worker's list, or onto the global one. -/
def givZ (z y : List (List Int)) (q j : Nat) (s : Int) : List (List Int) := if (y.getD q []).length < 2 then z else addZ z j s
def givY (z y : List (List Int)) (q j : Nat) (s : Int) : List (List Int) := if (y.getD q []).length < 2 then addZ y q s else y
set_option maxRecDepth 100000 in
set_option maxHeartbeats 3200000 in
theorem l8Give_any (C D : Option Addr) (n k n' m : Nat) (z y : List (List Int)) (lo hi : Nat) (i j : Nat) (s : Int) (w : World) (hi3 : i < 3) (hj3 : j < 3) (hz : z.length = 3) (hy : y.length = 9) (hlz : (z.getD j []).length ≤ 1048576) (h : LV true w (.agg #[.slice C n k, .slice D n' m]) z y lo hi) :
    Calls Try.prog 29 #[.agg #[.slice C n k, .slice D n' m], .int .i64 (i : Int), .int .i64 (j : Int), .int .i64 s] w fun e w' => e = .returned (.agg #[.slice C n k, .slice D n' m]) ∧ LV true w' (.agg #[.slice C n k, .slice D n' m]) (givZ z y (i * 3 + j) j s) (givY z y (i * 3 + j) j s) lo w'.heap.size ∧ Touch (rg lo hi) w w' := by
  obtain ⟨i0, hinf, hz0, hz1, hz2⟩ := info_parts intInfo2
  obtain ⟨hn, hnk, hn', hnm, -, -⟩ := h.rd
  obtain ⟨q, hq⟩ : ∃ q : Nat, q = i * 3 + j := ⟨_, rfl⟩
  have hq9 : q < 9 := by omega
  have HOA : Hid (∀ W : World, Calls Try.prog 13 #[.int .i64 (i : Int), .int .i64 (j : Int)] W fun e w' => e = .returned (.int .i64 (q : Int)) ∧ W = w') := hide (fun W => by rw [hq, ← ownR_nat hi3 hj3]; exact specOwnAt_any i j W)
  have hb0 : Below w.heap.size w ((w.alloc (.cells #[.slice C n k, .slice D n' m] 26)).alloc (.cells #[.slice none 0 0, .slice none 0 0] 26)) := ((Below.refl _ _).alloc (Nat.le_refl _) _).alloc (by simp) _
  obtain ⟨w1, hW⟩ : ∃ W : World, W = (w.alloc (.cells #[.slice C n k, .slice D n' m] 26)).alloc (.cells #[.slice none 0 0, .slice none 0 0] 26) := ⟨_, rfl⟩
  rw [← hW] at hb0
  have h1 := h.below hb0
  obtain ⟨g, A2, n2, c2, eD, a1, a2, a3, a4, a5, a6, a7, a8, a9, a10, a11⟩ := h1.app1 (i := q) (by omega)
  obtain ⟨g', A3, n3, c3, eC, d1, d2, d3, d4, d5, d6, d7, d8, d9, d10, d11⟩ := h1.app0 (i := j) (by omega)
  subst eD eC
  rw [← hq]
  have hW2 := hide hW
  have b0 : w1.cell? ⟨w.heap.size, 0, none⟩ = some (.slice (some ⟨g', 0, none⟩) n k) := by rw [hW]; go_simp
  have b1 : w1.cell? ⟨w.heap.size, 1, none⟩ = some (.slice (some ⟨g, 0, none⟩) n' m) := by rw [hW]; go_simp
  have r0 : w1.cell? ⟨w.heap.size + 1, 0, none⟩ = some (.slice none 0 0) := by rw [hW]; go_simp
  have r1 : w1.cell? ⟨w.heap.size + 1, 1, none⟩ = some (.slice none 0 0) := by rw [hW]; go_simp
  have f0 : w1.frozen? ⟨w.heap.size + 1, 0, none⟩ = false := by rw [hW]; go_simp
  have f1 : w1.frozen? ⟨w.heap.size + 1, 1, none⟩ = false := by rw [hW]; go_simp
  have t1 : w.heap.size + 1 < w1.heap.size := by rw [hW]; simp <;> omega
  have hhi : hi ≤ w.heap.size := by obtain ⟨_, _, _, _, _, _, _, _, _, _, _, _, _, h⟩ := h; exact h
  have t0 : w.heap.size < w1.heap.size := by omega
  have HN := hide hn
  have HN' := hide hn'
  have HZ := hide hz
  have HY := hide hy
  have HA6 := hide a6
  have HA9 := hide a9
  have HA10 := hide a10
  have HA11 := hide a11
  have HD6 := hide d6
  have HD9 := hide d9
  have HD10 := hide d10
  have HD11 := hide d11
  have HB0 := hide hb0
  have H1 := hide h1
  have hqm : q < m := by omega
  have hqn : (q : Int) < (n' : Int) := by omega
  have hjk : j < k := by omega
  have hjn : (j : Int) < (n : Int) := by omega
  have hqn2 : q < n' := by omega
  have hjn2 : j < n := by omega
  clear hn hn' hz hy a6 a9 a10 a11 d6 d9 d10 d11 hb0 h1 h hW hq
  go_enter Try.func29, Try.ntmps29
  go_wp2_with fail
  rw [← hW2.out]
  refine (HOA.out _).mono ?_
  rintro e wq ⟨rfl, rfl⟩
  have hn2b : (n2 : Int) ≤ 9223372036854775807 := by unfold maxLen at a8; omega
  by_cases h2 : n2 < 2
  · have h2i : (n2 : Int) < 2 := by omega
    have hrg : (Value.slice A2 n2 c2).ownBlock ≠ some g := fun e => (HA10.out _ e).2.2 rfl
    have hr0 : (Value.slice A2 n2 c2).ownBlock ≠ some w.heap.size := fun e => by have := (HA10.out _ e).2.1; omega
    have hr1 : (Value.slice A2 n2 c2).ownBlock ≠ some (w.heap.size + 1) := fun e => by have := (HA10.out _ e).2.1; omega
    have hg1 : g < w1.heap.size := by omega
    have hgw : w.heap.size ≠ g := by omega
    have hgw1 : w.heap.size + 1 ≠ g := by omega
    go_wp2_with fail
    go_region_law (first
      | (refine step_app _ (by rfl) (.tmp 29) (.tmp 31) 35 (by rfl) 0 3 i0 (.int .i64 0) 8 Try.underlying35 hinf hz0 hz1 hz2 rfl (.slice A2 n2 c2) n2 (ints (y.getD q [])) (by rfl) (by first | exact HA9.out.alloc _ | exact (HA9.out.alloc _).drew) _ 1 1 [.int .i64 s] _ (by rfl) rfl (rdV_one (by go_simp)) (by simp [Value.oneCell']) (by unfold maxLen; omega) (by omega) (Nat.zero_le _) ?_; intro v' w4 hown hgr hv'; obtain ⟨E', kd, ev, -, -⟩ := (Sr.of_row hown).shape; (have ev2 : v' = .slice E' (n2 + 1) kd := (by rw [ev]; simp [ints_length, HA6.out])); clear ev; subst ev2; have x0 := hgr.cell (a := ⟨g, q, none⟩) (v := .slice A2 n2 c2) (by go_simp) (Ne.symm hrg); have x1 : w4.frozen? ⟨g, q, none⟩ = false := (World.frozen?_of_block (hgr.block g (by simp <;> omega) (Ne.symm hrg))).trans (by go_simp); have x2 := hgr.cell (a := ⟨w.heap.size, 0, none⟩) (v := .slice (some ⟨g', 0, none⟩) n k) (by go_simp) (Ne.symm hr0); have x3 := hgr.cell (a := ⟨w.heap.size, 1, none⟩) (v := .slice (some ⟨g, 0, none⟩) n' m) (by go_simp) (Ne.symm hr0); have x4 := hgr.cell (a := ⟨w.heap.size + 1, 0, none⟩) (v := .slice none 0 0) (by go_simp) (Ne.symm hr1); have x5 := hgr.cell (a := ⟨w.heap.size + 1, 1, none⟩) (v := .slice none 0 0) (by go_simp) (Ne.symm hr1); have x6 : w4.frozen? ⟨w.heap.size + 1, 0, none⟩ = false := (World.frozen?_of_block (hgr.block (w.heap.size + 1) (by simp <;> omega) (Ne.symm hr1))).trans (by go_simp); have x7 : w4.frozen? ⟨w.heap.size + 1, 1, none⟩ = false := (World.frozen?_of_block (hgr.block (w.heap.size + 1) (by simp <;> omega) (Ne.symm hr1))).trans (by go_simp)))
    all_goals
      have hbw : Below w1.heap.size w1 (w1.alloc (.cells #[.int .i64 s] 3)).drew := ((Below.refl _ _).alloc (Nat.le_refl _) _).drew
      have hT0 : Touch (rg lo hi) w w4 := ((Touch.of_below HB0.out).trans (Touch.of_below hbw)).trans (touch_grown hgr (fun x hx => mem_rg.2 ⟨(HA10.out x hx).1, (HA10.out x hx).2.1⟩))
      have hT1 := ((hT0.setCell (p := ⟨g, q, none⟩) (mem_rg.2 ⟨by assumption, by assumption⟩) (.slice E' (n2 + 1) kd)).setNew (p := ⟨w.heap.size + 1, 0, none⟩) (Nat.le_succ _) (.slice (some ⟨g', 0, none⟩) n k)).setNew (p := ⟨w.heap.size + 1, 1, none⟩) (Nat.le_succ _) (.slice (some ⟨g, 0, none⟩) n' m)
      have hL := HA11.out _ _ _ s hbw hown hgr hv' [w.heap.size + 1] _ (((Touch.refl _ (w4.setCell ⟨g, q, none⟩ (.slice E' (n2 + 1) kd))).setCell (p := ⟨w.heap.size + 1, 0, none⟩) (by simp) (.slice (some ⟨g', 0, none⟩) n k)).setCell (p := ⟨w.heap.size + 1, 1, none⟩) (by simp) (.slice (some ⟨g, 0, none⟩) n' m)) (fun x hx => by simp only [List.mem_singleton] at hx; subst hx; exact ⟨by omega, by show w.heap.size + 1 < (w1.alloc (.cells #[.int .i64 s] 3)).heap.size; simp; omega⟩)
      have HFIN := hide hL
      have HT1 := hide hT1
      have HGZ : Hid (givZ z y q j s = z) := hide (by unfold givZ; rw [if_pos (by rw [← HA6.out]; exact h2)])
      have HGY : Hid (givY z y q j s = addZ y q s) := hide (by unfold givY; rw [if_pos (by rw [← HA6.out]; exact h2)])
      clear hbw hT0 hT1 hL hown hgr hv' a4 a5 d4 d5 b0 b1 r0 r1 f0 f1
      go_wp2
      exact bodyPost_ret (v := .agg #[.slice (some ⟨g', 0, none⟩) n k, .slice (some ⟨g, 0, none⟩) n' m]) (by simp [results, Try.results29, go_sem, x4, x5]) rfl ⟨rfl, by rw [HGZ.out, HGY.out]; exact HFIN.out, HT1.out⟩
  · have h2i : ¬ (n2 : Int) < 2 := by omega
    have hn3 : n3 ≤ 1048576 := by have := HD6.out; omega
    have hrg : (Value.slice A3 n3 c3).ownBlock ≠ some g' := fun e => (HD10.out _ e).2.2 rfl
    have hr0 : (Value.slice A3 n3 c3).ownBlock ≠ some w.heap.size := fun e => by have := (HD10.out _ e).2.1; omega
    have hr1 : (Value.slice A3 n3 c3).ownBlock ≠ some (w.heap.size + 1) := fun e => by have := (HD10.out _ e).2.1; omega
    have hg1 : g' < w1.heap.size := by omega
    have hgw : w.heap.size ≠ g' := by omega
    have hgw1 : w.heap.size + 1 ≠ g' := by omega
    go_wp2_with fail
    go_region_law (first
      | (refine step_app _ (by rfl) (.tmp 43) (.tmp 45) 35 (by rfl) 0 3 i0 (.int .i64 0) 8 Try.underlying35 hinf hz0 hz1 hz2 rfl (.slice A3 n3 c3) n3 (ints (z.getD j [])) (by rfl) (by first | exact HD9.out.alloc _ | exact (HD9.out.alloc _).drew) _ 1 1 [.int .i64 s] _ (by rfl) rfl (rdV_one (by go_simp)) (by simp [Value.oneCell']) (by unfold maxLen; omega) (by omega) (Nat.zero_le _) ?_; intro v' w4 hown hgr hv'; obtain ⟨E', kd, ev, -, -⟩ := (Sr.of_row hown).shape; (have ev2 : v' = .slice E' (n3 + 1) kd := (by rw [ev]; simp [ints_length, HD6.out])); clear ev; subst ev2; have x0 := hgr.cell (a := ⟨g', j, none⟩) (v := .slice A3 n3 c3) (by go_simp) (Ne.symm hrg); have x1 : w4.frozen? ⟨g', j, none⟩ = false := (World.frozen?_of_block (hgr.block g' (by simp <;> omega) (Ne.symm hrg))).trans (by go_simp); have x2 := hgr.cell (a := ⟨w.heap.size, 0, none⟩) (v := .slice (some ⟨g', 0, none⟩) n k) (by go_simp) (Ne.symm hr0); have x3 := hgr.cell (a := ⟨w.heap.size, 1, none⟩) (v := .slice (some ⟨g, 0, none⟩) n' m) (by go_simp) (Ne.symm hr0); have x4 := hgr.cell (a := ⟨w.heap.size + 1, 0, none⟩) (v := .slice none 0 0) (by go_simp) (Ne.symm hr1); have x5 := hgr.cell (a := ⟨w.heap.size + 1, 1, none⟩) (v := .slice none 0 0) (by go_simp) (Ne.symm hr1); have x6 : w4.frozen? ⟨w.heap.size + 1, 0, none⟩ = false := (World.frozen?_of_block (hgr.block (w.heap.size + 1) (by simp <;> omega) (Ne.symm hr1))).trans (by go_simp); have x7 : w4.frozen? ⟨w.heap.size + 1, 1, none⟩ = false := (World.frozen?_of_block (hgr.block (w.heap.size + 1) (by simp <;> omega) (Ne.symm hr1))).trans (by go_simp)))
    all_goals
      have hbw : Below w1.heap.size w1 (w1.alloc (.cells #[.int .i64 s] 3)).drew := ((Below.refl _ _).alloc (Nat.le_refl _) _).drew
      have hT0 : Touch (rg lo hi) w w4 := ((Touch.of_below HB0.out).trans (Touch.of_below hbw)).trans (touch_grown hgr (fun x hx => mem_rg.2 ⟨(HD10.out x hx).1, (HD10.out x hx).2.1⟩))
      have hT1 := ((hT0.setCell (p := ⟨g', j, none⟩) (mem_rg.2 ⟨by assumption, by assumption⟩) (.slice E' (n3 + 1) kd)).setNew (p := ⟨w.heap.size + 1, 0, none⟩) (Nat.le_succ _) (.slice (some ⟨g', 0, none⟩) n k)).setNew (p := ⟨w.heap.size + 1, 1, none⟩) (Nat.le_succ _) (.slice (some ⟨g, 0, none⟩) n' m)
      have hL := HD11.out _ _ _ s hbw hown hgr hv' [w.heap.size + 1] _ (((Touch.refl _ (w4.setCell ⟨g', j, none⟩ (.slice E' (n3 + 1) kd))).setCell (p := ⟨w.heap.size + 1, 0, none⟩) (by simp) (.slice (some ⟨g', 0, none⟩) n k)).setCell (p := ⟨w.heap.size + 1, 1, none⟩) (by simp) (.slice (some ⟨g, 0, none⟩) n' m)) (fun x hx => by simp only [List.mem_singleton] at hx; subst hx; exact ⟨by omega, by show w.heap.size + 1 < (w1.alloc (.cells #[.int .i64 s] 3)).heap.size; simp; omega⟩)
      have HFIN := hide hL
      have HT1 := hide hT1
      have HGZ : Hid (givZ z y q j s = addZ z j s) := hide (by unfold givZ; rw [if_neg (by rw [← HA6.out]; exact h2)])
      have HGY : Hid (givY z y q j s = y) := hide (by unfold givY; rw [if_neg (by rw [← HA6.out]; exact h2)])
      clear hbw hT0 hT1 hL hown hgr hv' a4 a5 d4 d5 b0 b1 r0 r1 f0 f1
      go_wp2
      exact bodyPost_ret (v := .agg #[.slice (some ⟨g', 0, none⟩) n k, .slice (some ⟨g, 0, none⟩) n' m]) (by simp [results, Try.results29, go_sem, x4, x5]) rfl ⟨rfl, by rw [HGZ.out, HGY.out]; exact HFIN.out, HT1.out⟩
end Go.Proofs.Ytdhocncfpapncab
