/-
  The laws' words over heaps (two slices of ints): sizes, copies, comparison, marks.
-/
import Derived.Test.YtdhocncfpapncacInts
import Derived.Test.YtdhocncfpapncacMark
import Derived.Deep.RegionHeld3
import Derived.Deep.LoopGhost
namespace Go.Proofs.Ytdhocncfpapncac
open Go.RowKit
set_option linter.unusedVariables false

/-- Two slices of ints, each in a block of its own. -/
def OwnH (w : World) (A : Option Addr) (n c : Nat) (A' : Option Addr) (n' c' : Nat) (z z' : List Int) (F F' : List Nat) : Prop :=
  Own 3 w (.slice A n c) (ints z) F ∧ Own 3 w (.slice A' n' c') (ints z') F' ∧ ∀ g, g ∈ F → g ∉ F'

/-! a drawn region beside boxes: what is kept -/

def Cells4 (p q r s : Addr) (u0 u1 u2 u3 : Value) (W : World) : Prop := W.cell? p = some u0 ∧ W.cell? q = some u1 ∧ W.cell? r = some u2 ∧ W.cell? s = some u3
theorem keep22 {wK W W' : World} {p q r s : Addr} {u0 u1 u2 u3 : Value} (hp : p.block < wK.heap.size) (hq : q.block < wK.heap.size) (hr : r.block < wK.heap.size) (hs : s.block < wK.heap.size)
    (hb : Below W.heap.size W W') (h : (W.cell? p = some u0 ∧ W.cell? q = some u1 ∧ W.cell? r = some u2 ∧ W.cell? s = some u3) ∧ Below wK.heap.size wK W) :
    (W'.cell? p = some u0 ∧ W'.cell? q = some u1 ∧ W'.cell? r = some u2 ∧ W'.cell? s = some u3) ∧ Below wK.heap.size wK W' := by
  have hz := h.2.size
  obtain ⟨⟨h0, h1, h2, h3⟩, hB⟩ := h
  exact ⟨⟨by rw [hb.cell (by omega)]; exact h0, by rw [hb.cell (by omega)]; exact h1, by rw [hb.cell (by omega)]; exact h2, by rw [hb.cell (by omega)]; exact h3⟩, hB.trans (hb.mono hz)⟩
theorem rdS {k : IntKind} {w wK W : World} {A : Option Addr} {z : List Int} {C : Prop} (hr : RdB k w A z w.heap.size) (hB : Below w.heap.size w wK) (h : C ∧ Below wK.heap.size wK W) : RdB k W A z W.heap.size := by
  have h2 := hB.trans (h.2.mono hB.size)
  exact (hr.below h2 (Nat.le_refl _)).more h2.size
theorem ownS {wK W : World} {A : Option Addr} {n c : Nat} {z : List Int} {F : List Nat} {C : Prop} (ho : Own 3 wK (.slice A n c) (ints z) F) (h : C ∧ Below wK.heap.size wK W) : RdB .i64 W A z W.heap.size := ((ho.below h.2).rd).2
theorem ownR {W : World} {A : Option Addr} {n c : Nat} {z : List Int} {F : List Nat} (ho : Own 3 W (.slice A n c) (ints z) F) : RdB .i64 W A z W.heap.size := (ho.rd).2
theorem named {C : World → Prop} {wK W : World} (h : C W ∧ Below wK.heap.size wK W) : ∃ V, V = W ∧ C V ∧ Below wK.heap.size wK V := ⟨W, rfl, h.1, h.2⟩
theorem nottrue_of {a b : Int} (h : ¬ a ≤ b) : b < a := by omega

end Go.Proofs.Ytdhocncfpapncac
