/-
  From the reading of an argument to what the walks are told of it: slices of numbers, heaps, lists, memories. Plain lemmas over whatever program.
-/
import Derived.Test.YtjjfblejccfplaaMem
import Derived.ProofKit
import Derived.OpenShut
import Derived.Lib.SmallJoins
import Derived.Deep.Slices
namespace Go.Proofs.Ytjjfblejccfplaa
open Go.ChangeShapes Go.WideShapes Go.ChangeAt Go.RowKit Go.Deep
set_option linter.unusedVariables false

section
variable {H : Type} {enc : TypeId × Value → H} {P : Program} {w : World} {spare : Nat → Bool} {held : Bool}

theorem addr_at {x : Addr} {w : World} {v : Value} (h : w.cell? x = some v) : x = ⟨x.block, x.off, none⟩ := by
  obtain ⟨b, off, spot⟩ := x
  have : spot = none := by simpa using World.cell?_spot h
  subst this
  rfl
theorem add_none (b off j : Nat) : (⟨b, off, none⟩ : Addr).add j = ⟨b, off + j, none⟩ := by
  unfold Addr.add
  split
  · rename_i h; simp_all
  · rfl

theorem sl_of_trod {t e : TypeId} {k : IntKind} {fuel : Nat} {cs : List Value} {x : DataW H × List MemPlace} (ht : P.underlying t = some (.slice e)) (he : P.underlying e = some (.int k)) (hc : P.cellsOf e = 1)
    (h : DataW.trod enc P w 0 (fun _ => true) held fuel t cs = some x) : ∃ A n c zs, cs = [.slice A n c] ∧ Sl k w A n c zs := by
  rcases open_ints ht he hc h with ⟨hcs, _⟩ | ⟨a, l, c, zs, hcs, _, hl, hm, hz, _, hcell, hwz⟩
  · exact ⟨none, 0, 0, [], hcs, rfl, Nat.le_refl _, Nat.zero_le _, RdB.nil, fun x hx => by cases hx⟩
  · have hz' : zs.length = c := by simpa using hz
    refine ⟨some a, l, c, zs.take l, hcs, by rw [List.length_take]; omega, hl, hm, fun j hj => ?_, fun x hx => hwz x (List.mem_of_mem_take hx)⟩
    rw [List.length_take] at hj
    have h0 := hcell 0 (by omega)
    have hj' := hcell j (by omega)
    have e0 : a = ⟨a.block, a.off, none⟩ := by
      have : a.add 0 = a := by unfold Addr.add; simp
      rw [this] at h0
      exact addr_at h0
    rw [e0, add_none] at hj'
    refine ⟨a.block, a.off, by rw [← e0], (show (⟨a.block, a.off + j, none⟩ : Addr).block < w.heap.size from World.block_lt_of_cell? _ _ hj'), ?_⟩
    rw [hj']
    simp only [List.getD_eq_getElem?_getD, List.getElem?_take]
    rw [if_pos (by omega)]

theorem reads_of_trod {t e : TypeId} {k : IntKind} {A : Option Addr} {n c : Nat} {d : DataW H} {p : List MemPlace} (ht : P.underlying t = some (.slice e)) (he : P.underlying e = some (.int k)) (hc : P.cellsOf e = 1)
    (h : DataW.Trod enc P w 0 (fun _ => true) held t (.slice A n c) d p) : ∃ zs, Sl k w A n c zs := by
  obtain ⟨fuel, hf⟩ := h
  obtain ⟨A', n', c', zs, e, hs⟩ := sl_of_trod ht he hc hf
  simp [Value.cells] at e
  obtain ⟨rfl, rfl, rfl⟩ := e
  exact ⟨zs, hs⟩

theorem heap_of_trod {r : Reach} {b0 : Nat} {t te : TypeId} {f0 f1 : Field} {v : Value} {d : DataW H} {p : List MemPlace} (hs : P.underlying t = some (.struct #[f0, f1])) (h0 : P.underlying f0.type = some (.slice te)) (h1 : P.underlying f1.type = some (.slice te)) (he : P.underlying te = some (.int .i64)) (hone : oneCellFields P #[f0, f1] = true) (hC : P.cellsOf t = 2) (hc : P.cellsOf te = 1)
    (hv : Value.okWide P w r b0 t v) (h : DataW.Trod enc P w 0 (fun _ => true) held t v d p) : ∃ v0 v1, v = .agg #[v0, v1] ∧ HeapArg w v0 v1 := by
  obtain ⟨v0, v1, y0, y1, m, rfl, _, _, hy0, hy1⟩ := Go.Joins.open_agg2 hs hone hC hv h
  obtain ⟨A, n, c, zs, e, hs0⟩ := sl_of_trod h0 he hc hy0
  obtain ⟨A', n', c', zs', e', hs1⟩ := sl_of_trod h1 he hc hy1
  simp only [List.cons.injEq, and_true] at e e'
  subst e e'
  exact ⟨_, _, rfl, A, n, c, zs, A', n', c', zs', rfl, rfl, hs0, hs1⟩
end
end Go.Proofs.Ytjjfblejccfplaa
