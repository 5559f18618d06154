/-
  Lists that a function has made, with the blocks that they lie in told: what a law does with them (copies, comparison, marks).
-/
import Derived.Test.YtdhocncfpapncabOwnL
import Derived.Test.YtdhocncfpapncabOwnK
namespace Go.Proofs.Ytdhocncfpapncab
open Go.RowKit
set_option linter.unusedVariables false

def LOwn (full : Bool) (w : World) (v : Value) (z y : List (List Int)) (lo hi : Nat) : Prop :=
  ∃ C k D m a b c d, v = .agg #[.slice C z.length k, .slice D y.length m] ∧ OwnM full w (.slice C z.length k) z a b ∧ OwnM full w (.slice D y.length m) y c d ∧
    lo ≤ a ∧ b ≤ hi ∧ lo ≤ c ∧ d ≤ hi ∧ (b ≤ c ∨ d ≤ a) ∧ hi ≤ w.heap.size
theorem LOwn.of {full : Bool} {w wr : World} {v : Value} {z y : List (List Int)} (h : LRes full w wr v z y) : LOwn full wr v z y w.heap.size wr.heap.size := by
  obtain ⟨C, k, D, m, a, b, c, d, e, h1, h2, h3, h4, h5, h6, h7, h8⟩ := h
  exact ⟨C, k, D, m, a, b, c, d, e, h1, h2, h3, h4, h5, h6, h7, Nat.le_refl _⟩
theorem LRes.bel {full : Bool} {w wr : World} {v : Value} {z y : List (List Int)} (h : LRes full w wr v z y) : Below w.heap.size w wr := by
  obtain ⟨C, k, D, m, a, b, c, d, e, h1, h2, h3, h4, h5, h6, h7, h8⟩ := h; exact h8
theorem LRes.shp {full : Bool} {w0 wr : World} {v : Value} {z y : List (List Int)} (h : LRes full w0 wr v z y) : ∃ C k D m, v = .agg #[.slice C z.length k, .slice D y.length m] := by
  obtain ⟨C, k, D, m, a, b, c, d, e, _⟩ := h; exact ⟨C, k, D, m, e⟩
theorem LOwn.below {full : Bool} {w w' : World} {v : Value} {z y : List (List Int)} {lo hi : Nat} (h : LOwn full w v z y lo hi) (hb : Below w.heap.size w w') : LOwn full w' v z y lo hi := by
  obtain ⟨C, k, D, m, a, b, c, d, e, h1, h2, h3, h4, h5, h6, h7, h8⟩ := h
  exact ⟨C, k, D, m, a, b, c, d, e, h1.below hb, h2.below hb, h3, h4, h5, h6, h7, Nat.le_trans h8 hb.size⟩
theorem LOwn.touch {full : Bool} {w w' : World} {v : Value} {z y : List (List Int)} {lo hi lo' hi' : Nat} (h : LOwn full w v z y lo hi) (ht : Touch (rg lo' hi') w w') (hd : hi ≤ lo' ∨ hi' ≤ lo) : LOwn full w' v z y lo hi := by
  obtain ⟨C, k, D, m, a, b, c, d, e, h1, h2, h3, h4, h5, h6, h7, h8⟩ := h
  exact ⟨C, k, D, m, a, b, c, d, e, h1.touch ht (fun g hg => by rw [mem_rg] at hg; omega), h2.touch ht (fun g hg => by rw [mem_rg] at hg; omega), h3, h4, h5, h6, h7, Nat.le_trans h8 ht.size⟩
theorem LOwn.rd {full : Bool} {w : World} {C D : Option Addr} {n k n' m : Nat} {z y : List (List Int)} {lo hi : Nat} (h : LOwn full w (.agg #[.slice C n k, .slice D n' m]) z y lo hi) : n = z.length ∧ n ≤ k ∧ n' = y.length ∧ n' ≤ m ∧ RdM w C z w.heap.size ∧ RdM w D y w.heap.size := by
  obtain ⟨C', k', D', m', a, b, c, d, e, h1, h2, _⟩ := h
  simp only [Value.agg.injEq, Array.mk.injEq, List.cons.injEq, Value.slice.injEq, and_true] at e
  obtain ⟨⟨rfl, rfl, rfl⟩, rfl, rfl, rfl⟩ := e
  exact ⟨h1.rd.1, h1.rd.2.1, h2.rd.1, h2.rd.2.1, h1.rd.2.2.2, h2.rd.2.2.2⟩
/-- Lists with sizes that a law allows, told of a result. -/
structure Sz (z y : List (List Int)) (n n' : Nat) : Prop where
  n0 : n = z.length
  n1 : n' = y.length
  m0 : n + n' ≤ 1048576
  s0 : ∀ j, j < z.length → (z.getD j []).length ≤ 1048576
  s1 : ∀ j, j < y.length → (y.getD j []).length ≤ 1048576
  t0 : 1 + (sumL z n : Int) + sumL y n' ≤ 2097152
theorem Sz.of {z y : List (List Int)} {n n' : Nat} (hn : n = z.length) (hn' : n' = y.length) (hm : n + sumL z n + n' + sumL y n' ≤ 1048576) : Sz z y n n' :=
  ⟨hn, hn', by omega, fun j hj => by have := len_le z n j (by omega); omega, fun j hj => by have := len_le y n' j (by omega); omega, by omega⟩
end Go.Proofs.Ytdhocncfpapncab
