/-
  The laws' words over Lists: copies, comparison.
-/
import Derived.Test.YtdhocncfpapncabLst
namespace Go.Proofs.Ytdhocncfpapncab
open Go.RowKit
set_option linter.unusedVariables false

theorem len_le (z : List (List Int)) (n j : Nat) (h : j < n) : (z.getD j []).length ≤ sumL z n := by
  have := sumL_le z (show j + 1 ≤ n by omega)
  simp only [sumL] at this
  omega
theorem ret_agg {a b : Value} (h : a = b) : Ending.returned a = .returned b := by rw [h]
def TwoRes (w w' : World) (e : Ending) (z z' : List (List Int)) : Prop :=
  ∃ g g' G G', e = .returned (.agg #[.slice (some ⟨g, 0, none⟩) z.length z.length, .slice (some ⟨g', 0, none⟩) z'.length z'.length]) ∧ OwnL w' g z G ∧ OwnL w' g' z' G' ∧ w.heap.size ≤ g ∧ g < g' ∧ (∀ j, j < z.length → G j < g') ∧ g' < w'.heap.size ∧ Below w.heap.size w w'
/-! a drawn region beside boxes: what is kept -/
theorem keep22 {wK W W' : World} {p q r s : Addr} {u0 u1 u2 u3 : Value} (hp : p.block < wK.heap.size) (hq : q.block < wK.heap.size) (hr : r.block < wK.heap.size) (hs : s.block < wK.heap.size)
    (hb : Below W.heap.size W W') (h : (W.cell? p = some u0 ∧ W.cell? q = some u1 ∧ W.cell? r = some u2 ∧ W.cell? s = some u3) ∧ Below wK.heap.size wK W) :
    (W'.cell? p = some u0 ∧ W'.cell? q = some u1 ∧ W'.cell? r = some u2 ∧ W'.cell? s = some u3) ∧ Below wK.heap.size wK W' := by
  have hz := h.2.size
  obtain ⟨⟨h0, h1, h2, h3⟩, hB⟩ := h
  exact ⟨⟨by rw [hb.cell (by omega)]; exact h0, by rw [hb.cell (by omega)]; exact h1, by rw [hb.cell (by omega)]; exact h2, by rw [hb.cell (by omega)]; exact h3⟩, hB.trans (hb.mono hz)⟩
theorem rdLS {w wK W : World} {A : Option Addr} {z : List (List Int)} {C : Prop} (hr : RdL w A z w.heap.size) (hB : Below w.heap.size w wK) (h : C ∧ Below wK.heap.size wK W) : RdL W A z W.heap.size :=
  rdL_at hr (hB.trans (h.2.mono hB.size))
theorem rdMS {wK W : World} {A : Option Addr} {z : List (List Int)} {C : Prop} (ho : RdM wK A z wK.heap.size) (h : C ∧ Below wK.heap.size wK W) : RdM W A z W.heap.size := rdM_at ho h.2
theorem named {C : World → Prop} {wK W : World} (h : C W ∧ Below wK.heap.size wK W) : ∃ V, V = W ∧ C V ∧ Below wK.heap.size wK V := ⟨W, rfl, h.1, h.2⟩
end Go.Proofs.Ytdhocncfpapncab
