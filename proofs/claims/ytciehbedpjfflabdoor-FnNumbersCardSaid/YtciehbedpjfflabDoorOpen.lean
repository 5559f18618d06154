/-
  From the reading of an argument to what the walks are told of it: slices of numbers, heaps, lists, memories. Plain lemmas over whatever program.
-/
import Derived.Test.YtciehbedpjfflabDoorMem
import Derived.ProofKit
import Derived.OpenShut
import Derived.Lib.SmallJoins
import Derived.Deep.Slices
namespace Go.Proofs.YtciehbedpjfflabDoor
open Go.ChangeShapes Go.WideShapes Go.ChangeAt Go.RowKit Go.Deep
set_option linter.unusedVariables false

section
variable {H : Type} {enc : TypeId × Value → H} {P : Program} {w : World} {spare : Nat → Bool} {held : Bool}

theorem addr_at {x : Addr} {w : World} {v : Value} (h : w.cell? x = some v) : x = ⟨x.block, x.off, none⟩ := by
  obtain ⟨b, off, spot⟩ := x
  have : spot = none := by simpa using World.cell?_spot h
  subst this
  rfl
theorem add_none (b off j : Nat) : (⟨b, off, none⟩ : Addr).add j = ⟨b, off + j, none⟩ := by
  unfold Addr.add
  split
  · rename_i h; simp_all
  · rfl

theorem sl_of_trod {t e : TypeId} {k : IntKind} {fuel : Nat} {cs : List Value} {x : DataW H × List MemPlace} (ht : P.underlying t = some (.slice e)) (he : P.underlying e = some (.int k)) (hc : P.cellsOf e = 1)
    (h : DataW.trod enc P w 0 (fun _ => true) held fuel t cs = some x) : ∃ A n c zs, cs = [.slice A n c] ∧ Sl k w A n c zs := by
  rcases open_ints ht he hc h with ⟨hcs, _⟩ | ⟨a, l, c, zs, hcs, _, hl, hm, hz, _, hcell, hwz⟩
  · exact ⟨none, 0, 0, [], hcs, rfl, Nat.le_refl _, Nat.zero_le _, RdB.nil, fun x hx => by cases hx⟩
  · have hz' : zs.length = c := by simpa using hz
    refine ⟨some a, l, c, zs.take l, hcs, by rw [List.length_take]; omega, hl, hm, fun j hj => ?_, fun x hx => hwz x (List.mem_of_mem_take hx)⟩
    rw [List.length_take] at hj
    have h0 := hcell 0 (by omega)
    have hj' := hcell j (by omega)
    have e0 : a = ⟨a.block, a.off, none⟩ := by
      have : a.add 0 = a := by unfold Addr.add; simp
      rw [this] at h0
      exact addr_at h0
    rw [e0, add_none] at hj'
    refine ⟨a.block, a.off, by rw [← e0], (show (⟨a.block, a.off + j, none⟩ : Addr).block < w.heap.size from World.block_lt_of_cell? _ _ hj'), ?_⟩
    rw [hj']
    simp only [List.getD_eq_getElem?_getD, List.getElem?_take]
    rw [if_pos (by omega)]

theorem reads_of_trod {t e : TypeId} {k : IntKind} {A : Option Addr} {n c : Nat} {d : DataW H} {p : List MemPlace} (ht : P.underlying t = some (.slice e)) (he : P.underlying e = some (.int k)) (hc : P.cellsOf e = 1)
    (h : DataW.Trod enc P w 0 (fun _ => true) held t (.slice A n c) d p) : ∃ zs, Sl k w A n c zs := by
  obtain ⟨fuel, hf⟩ := h
  obtain ⟨A', n', c', zs, e, hs⟩ := sl_of_trod ht he hc hf
  simp [Value.cells] at e
  obtain ⟨rfl, rfl, rfl⟩ := e
  exact ⟨zs, hs⟩

theorem heap_of_trod {r : Reach} {b0 : Nat} {t te : TypeId} {f0 f1 : Field} {v : Value} {d : DataW H} {p : List MemPlace} (hs : P.underlying t = some (.struct #[f0, f1])) (h0 : P.underlying f0.type = some (.slice te)) (h1 : P.underlying f1.type = some (.slice te)) (he : P.underlying te = some (.int .i64)) (hone : oneCellFields P #[f0, f1] = true) (hC : P.cellsOf t = 2) (hc : P.cellsOf te = 1)
    (hv : Value.okWide P w r b0 t v) (h : DataW.Trod enc P w 0 (fun _ => true) held t v d p) : ∃ v0 v1, v = .agg #[v0, v1] ∧ HeapArg w v0 v1 := by
  obtain ⟨v0, v1, y0, y1, m, rfl, _, _, hy0, hy1⟩ := Go.Joins.open_agg2 hs hone hC hv h
  obtain ⟨A, n, c, zs, e, hs0⟩ := sl_of_trod h0 he hc hy0
  obtain ⟨A', n', c', zs', e', hs1⟩ := sl_of_trod h1 he hc hy1
  simp only [List.cons.injEq, and_true] at e e'
  subst e e'
  exact ⟨_, _, rfl, A, n, c, zs, A', n', c', zs', rfl, rfl, hs0, hs1⟩

theorem slL_of_trod {t e q : TypeId} {g0 : Field} {fuel : Nat} {cs : List Value} {x : DataW H × List MemPlace} (ht : P.underlying t = some (.slice e)) (hs : P.underlying e = some (.struct #[g0])) (h1 : P.underlying g0.type = some (.slice q)) (hq : P.underlying q = some (.int .i64)) (hone : oneCellFields P #[g0] = true) (hce : P.cellsOf e = 1) (hcq : P.cellsOf q = 1)
    (h : DataW.trod enc P w 0 (fun _ => true) held fuel t cs = some x) : ∃ v zss, cs = [v] ∧ SlL w v zss := by
  rcases open_slice1 ht hce h with ⟨hcs, _⟩ | ⟨a, len, cap, m, n, V, D, Pl, hcs, _, hl, hm, hmm, _, hx⟩
  · exact ⟨_, [], hcs, none, 0, 0, rfl, rfl, Nat.le_refl _, Nat.zero_le _, fun j hj => absurd hj (Nat.not_lt_zero _)⟩
  · have hmc : m = cap := by simpa using hmm
    have hrow : ∀ i, i < len → ∃ zs : List Int, ∃ A' n' c', w.cell? (a.add i) = some (.slice A' n' c') ∧ Sl .i64 w A' n' c' zs := fun i hi => by
      obtain ⟨hc, ht1⟩ := hx i (by omega)
      obtain ⟨y0, n', _, _, hy⟩ := trod_struct1 hs ht1
      obtain ⟨o0, k0⟩ := hone_of hone 0 g0 rfl
      rw [o0, k0] at hy
      obtain ⟨A', n'', c', zs, e1, hsl⟩ := sl_of_trod h1 hq hcq (by simpa using hy)
      simp only [List.cons.injEq, and_true] at e1
      exact ⟨zs, A', n'', c', by rw [hc, e1], hsl⟩
    obtain ⟨f, hf⟩ := choose_lt hrow
    refine ⟨_, (List.range len).map f, hcs, some a, len, cap, rfl, by simp, hl, hm, fun j hj => ?_⟩
    have hj' : j < len := by simpa using hj
    obtain ⟨A0, n0, c0, hcell0, _⟩ := hf 0 (by omega)
    obtain ⟨A', n', c', hcell, h2, h3, h4, h5, h6⟩ := hf j hj'
    have e0 : a = ⟨a.block, a.off, none⟩ := by
      have : a.add 0 = a := by unfold Addr.add; simp
      rw [this] at hcell0
      exact addr_at hcell0
    rw [e0, add_none] at hcell
    have hg : ((List.range len).map f).getD j [] = f j := by simp [List.getD, hj']
    rw [hg]
    exact ⟨a.block, a.off, A', n', c', by rw [← e0], (show (⟨a.block, a.off + j, none⟩ : Addr).block < w.heap.size from World.block_lt_of_cell? _ _ hcell), hcell, h2, h3, h4, h5, h6⟩
theorem lists_of_trod {r : Reach} {b0 : Nat} {t e q : TypeId} {f0 f1 g0 : Field} {v : Value} {d : DataW H} {p : List MemPlace} (hs : P.underlying t = some (.struct #[f0, f1])) (h0 : P.underlying f0.type = some (.slice e)) (h1 : P.underlying f1.type = some (.slice e)) (he : P.underlying e = some (.struct #[g0])) (hq : P.underlying g0.type = some (.slice q)) (hi : P.underlying q = some (.int .i64))
    (hone : oneCellFields P #[f0, f1] = true) (hC : P.cellsOf t = 2) (hone1 : oneCellFields P #[g0] = true) (hce : P.cellsOf e = 1) (hcq : P.cellsOf q = 1)
    (hv : Value.okWide P w r b0 t v) (h : DataW.Trod enc P w 0 (fun _ => true) held t v d p) : ∃ v0 v1, v = .agg #[v0, v1] ∧ ListsArg w v0 v1 := by
  obtain ⟨v0, v1, y0, y1, m, rfl, _, _, hy0, hy1⟩ := Go.Joins.open_agg2 hs hone hC hv h
  obtain ⟨u0, z0, e0, hs0⟩ := slL_of_trod h0 he hq hi hone1 hce hcq hy0
  obtain ⟨u1, z1, e1, hs1⟩ := slL_of_trod h1 he hq hi hone1 hce hcq hy1
  simp only [List.cons.injEq, and_true] at e0 e1
  subst e0 e1
  exact ⟨_, _, rfl, z0, z1, hs0, hs1⟩
theorem heap_cs {t te : TypeId} {f0 f1 : Field} {c0 c1 : Value} {fuel : Nat} {x : DataW H × List MemPlace} (hs : P.underlying t = some (.struct #[f0, f1])) (h0 : P.underlying f0.type = some (.slice te)) (h1 : P.underlying f1.type = some (.slice te)) (he : P.underlying te = some (.int .i64)) (hone : oneCellFields P #[f0, f1] = true) (hc : P.cellsOf te = 1)
    (h : DataW.trod enc P w 0 (fun _ => true) held fuel t [c0, c1] = some x) : HeapArg w c0 c1 := by
  obtain ⟨y0, y1, m, _, _, hy0, hy1⟩ := trod_struct2 hs h
  obtain ⟨o0, k0⟩ := hone_of hone 0 f0 rfl
  obtain ⟨o1, k1⟩ := hone_of hone 1 f1 rfl
  obtain ⟨A, n, c, zs, e, hs0⟩ := sl_of_trod h0 he hc (show DataW.trod enc P w 0 (fun _ => true) held m f0.type [c0] = some y0 by simpa [o0, k0] using hy0)
  obtain ⟨A', n', c', zs', e', hs1⟩ := sl_of_trod h1 he hc (show DataW.trod enc P w 0 (fun _ => true) held m f1.type [c1] = some y1 by simpa [o1, k1] using hy1)
  simp only [List.cons.injEq, and_true] at e e'
  subst e e'
  exact ⟨A, n, c, zs, A', n', c', zs', rfl, rfl, hs0, hs1⟩
theorem lists_cs {t e q : TypeId} {f0 f1 g0 : Field} {c0 c1 : Value} {fuel : Nat} {x : DataW H × List MemPlace} (hs : P.underlying t = some (.struct #[f0, f1])) (h0 : P.underlying f0.type = some (.slice e)) (h1 : P.underlying f1.type = some (.slice e)) (he : P.underlying e = some (.struct #[g0])) (hq : P.underlying g0.type = some (.slice q)) (hi : P.underlying q = some (.int .i64))
    (hone : oneCellFields P #[f0, f1] = true) (hone1 : oneCellFields P #[g0] = true) (hce : P.cellsOf e = 1) (hcq : P.cellsOf q = 1)
    (h : DataW.trod enc P w 0 (fun _ => true) held fuel t [c0, c1] = some x) : ListsArg w c0 c1 := by
  obtain ⟨y0, y1, m, _, _, hy0, hy1⟩ := trod_struct2 hs h
  obtain ⟨o0, k0⟩ := hone_of hone 0 f0 rfl
  obtain ⟨o1, k1⟩ := hone_of hone 1 f1 rfl
  obtain ⟨u0, z0, e0, hs0⟩ := slL_of_trod h0 he hq hi hone1 hce hcq (show DataW.trod enc P w 0 (fun _ => true) held m f0.type [c0] = some y0 by simpa [o0, k0] using hy0)
  obtain ⟨u1, z1, e1, hs1⟩ := slL_of_trod h1 he hq hi hone1 hce hcq (show DataW.trod enc P w 0 (fun _ => true) held m f1.type [c1] = some y1 by simpa [o1, k1] using hy1)
  simp only [List.cons.injEq, and_true] at e0 e1
  subst e0 e1
  exact ⟨z0, z1, hs0, hs1⟩
theorem mem_of_trod {r : Reach} {b0 : Nat} {t te e : TypeId} {F0 F1 f0 f1 l0 l1 g0 : Field} {v : Value} {d : DataW H} {p : List MemPlace} (hs : P.underlying t = some (.struct #[F0, F1])) (hH : P.underlying F0.type = some (.struct #[f0, f1])) (hL : P.underlying F1.type = some (.struct #[l0, l1]))
    (h0 : P.underlying f0.type = some (.slice te)) (h1 : P.underlying f1.type = some (.slice te)) (i0 : P.underlying l0.type = some (.slice e)) (i1 : P.underlying l1.type = some (.slice e)) (he : P.underlying e = some (.struct #[g0])) (hg : P.underlying g0.type = some (.slice te)) (hi : P.underlying te = some (.int .i64))
    (p0 : F0.offset = 0) (p1 : P.cellsOf F0.type = 2) (p2 : F1.offset = 2) (p3 : P.cellsOf F1.type = 2) (hC : P.cellsOf t = 4) (q0 : oneCellFields P #[f0, f1] = true) (q1 : oneCellFields P #[l0, l1] = true) (q2 : oneCellFields P #[g0] = true) (q3 : P.cellsOf e = 1) (q4 : P.cellsOf te = 1)
    (hv : Value.okWide P w r b0 t v) (h : DataW.Trod enc P w 0 (fun _ => true) held t v d p) : ∃ v0 v1 v2 v3, v = .agg #[v0, v1, v2, v3] ∧ HeapArg w v0 v1 ∧ ListsArg w v2 v3 := by
  obtain ⟨cs, rfl, hsz⟩ := okWide_struct hs hv
  obtain ⟨c0, c1, c2, c3, rfl⟩ := Go.Joins.array4 (hsz.trans hC)
  obtain ⟨fuel, hf⟩ := h
  obtain ⟨y0, y1, m, _, _, hy0, hy1⟩ := trod_struct2 hs hf
  have a0 : DataW.trod enc P w 0 (fun _ => true) held m F0.type [c0, c1] = some y0 := by simpa [Value.cells, p0, p1] using hy0
  have a1 : DataW.trod enc P w 0 (fun _ => true) held m F1.type [c2, c3] = some y1 := by simpa [Value.cells, p2, p3] using hy1
  exact ⟨c0, c1, c2, c3, rfl, heap_cs hH h0 h1 hi q0 q4 a0, lists_cs hL i0 i1 he hg hi q1 q2 q3 q4 a1⟩
end
end Go.Proofs.YtciehbedpjfflabDoor
