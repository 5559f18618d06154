/-
  A heap copied: both lists anew. The contracts of the reference's and of the program's copy.
-/
import Derived.Test.YtnnmdikbcfefjaaStoreH
namespace Go.Proofs.Ytnnmdikbcfefjaa
open Go.RowKit
set_option linter.unusedVariables false

/-- What a copy of a heap leaves. -/
def CopyH (w w' : World) (n n' : Nat) (z z' : List Int) (A : Option Addr) (c : Nat) (F : List Nat) (A' : Option Addr) (c' : Nat) (F' : List Nat) : Prop :=
  Own 3 w' (.slice A n c) (ints z) F ∧ Own 3 w' (.slice A' n' c') (ints z') F' ∧ (∀ g, g ∈ F ++ F' → w.heap.size ≤ g) ∧ (∀ g, g ∈ F → g ∉ F') ∧ Below w.heap.size w w'

/-- the boxes beside a drawn region: two cells read, two written behind -/
def BoxS (W : World) (b r : Nat) (u0 u1 r0 r1 : Value) : Prop :=
  (W.cell? ⟨b, 0, none⟩ = some u0 ∧ W.cell? ⟨b, 1, none⟩ = some u1 ∧ W.cell? ⟨r, 0, none⟩ = some r0 ∧ W.cell? ⟨r, 1, none⟩ = some r1) ∧ W.frozen? ⟨r, 0, none⟩ = false ∧ W.frozen? ⟨r, 1, none⟩ = false
theorem below_of {w0 w1 w2 : World} (h : Below w0.heap.size w0 w1) (k : Below w1.heap.size w1 w2) : Below w0.heap.size w0 w2 := h.trans (k.mono h.size)
theorem rdB_at {k : IntKind} {w W : World} {A : Option Addr} {z : List Int} (h : RdB k w A z w.heap.size) (hb : Below w.heap.size w W) : RdB k W A z W.heap.size := (h.below hb (Nat.le_refl _)).more hb.size
theorem boxS_below {wK W W' : World} {b r : Nat} {u0 u1 r0 r1 : Value} (hb0 : b < wK.heap.size) (hr0 : r < wK.heap.size) (hb : Below W.heap.size W W')
    (h : ((W.cell? ⟨b, 0, none⟩ = some u0 ∧ W.cell? ⟨b, 1, none⟩ = some u1 ∧ W.cell? ⟨r, 0, none⟩ = some r0 ∧ W.cell? ⟨r, 1, none⟩ = some r1) ∧ W.frozen? ⟨r, 0, none⟩ = false ∧ W.frozen? ⟨r, 1, none⟩ = false) ∧ Below wK.heap.size wK W) :
    ((W'.cell? ⟨b, 0, none⟩ = some u0 ∧ W'.cell? ⟨b, 1, none⟩ = some u1 ∧ W'.cell? ⟨r, 0, none⟩ = some r0 ∧ W'.cell? ⟨r, 1, none⟩ = some r1) ∧ W'.frozen? ⟨r, 0, none⟩ = false ∧ W'.frozen? ⟨r, 1, none⟩ = false) ∧ Below wK.heap.size wK W' := by
  have hz := h.2.size
  have hb1 : b < W.heap.size := by omega
  have hr1 : r < W.heap.size := by omega
  obtain ⟨⟨⟨h0, h1, h2, h3⟩, h4, h5⟩, hB⟩ := h
  exact ⟨⟨⟨by rw [hb.cell hb1]; exact h0, by rw [hb.cell hb1]; exact h1, by rw [hb.cell hr1]; exact h2, by rw [hb.cell hr1]; exact h3⟩, by rw [hb.frozen hr1]; exact h4, by rw [hb.frozen hr1]; exact h5⟩, hB.trans (hb.mono hz)⟩

end Go.Proofs.Ytnnmdikbcfefjaa
