/-
  Lists that a function has made, with the blocks that they lie in told: what a law does with them (copies, comparison, marks).
-/
import Derived.Test.YtafhfikcpgjnaaaOwnL
import Derived.Test.YtafhfikcpgjnaaaOwnK
namespace Go.Proofs.Ytafhfikcpgjnaaa
open Go.RowKit
set_option linter.unusedVariables false

def LOwn (full : Bool) (w : World) (v : Value) (z y : List (List Int)) (lo hi : Nat) : Prop :=
  ∃ C k D m a b c d, v = .agg #[.slice C z.length k, .slice D y.length m] ∧ OwnM full w (.slice C z.length k) z a b ∧ OwnM full w (.slice D y.length m) y c d ∧
    lo ≤ a ∧ b ≤ hi ∧ lo ≤ c ∧ d ≤ hi ∧ (b ≤ c ∨ d ≤ a) ∧ hi ≤ w.heap.size
theorem LOwn.of {full : Bool} {w wr : World} {v : Value} {z y : List (List Int)} (h : LRes full w wr v z y) : LOwn full wr v z y w.heap.size wr.heap.size := by
  obtain ⟨C, k, D, m, a, b, c, d, e, h1, h2, h3, h4, h5, h6, h7, h8⟩ := h
  exact ⟨C, k, D, m, a, b, c, d, e, h1, h2, h3, h4, h5, h6, h7, Nat.le_refl _⟩
theorem LRes.bel {full : Bool} {w wr : World} {v : Value} {z y : List (List Int)} (h : LRes full w wr v z y) : Below w.heap.size w wr := by
  obtain ⟨C, k, D, m, a, b, c, d, e, h1, h2, h3, h4, h5, h6, h7, h8⟩ := h; exact h8
theorem LRes.shp {full : Bool} {w0 wr : World} {v : Value} {z y : List (List Int)} (h : LRes full w0 wr v z y) : ∃ C k D m, v = .agg #[.slice C z.length k, .slice D y.length m] := by
  obtain ⟨C, k, D, m, a, b, c, d, e, _⟩ := h; exact ⟨C, k, D, m, e⟩
theorem LOwn.below {full : Bool} {w w' : World} {v : Value} {z y : List (List Int)} {lo hi : Nat} (h : LOwn full w v z y lo hi) (hb : Below w.heap.size w w') : LOwn full w' v z y lo hi := by
  obtain ⟨C, k, D, m, a, b, c, d, e, h1, h2, h3, h4, h5, h6, h7, h8⟩ := h
  exact ⟨C, k, D, m, a, b, c, d, e, h1.below hb, h2.below hb, h3, h4, h5, h6, h7, Nat.le_trans h8 hb.size⟩
theorem LOwn.touch {full : Bool} {w w' : World} {v : Value} {z y : List (List Int)} {lo hi lo' hi' : Nat} (h : LOwn full w v z y lo hi) (ht : Touch (rg lo' hi') w w') (hd : hi ≤ lo' ∨ hi' ≤ lo) : LOwn full w' v z y lo hi := by
  obtain ⟨C, k, D, m, a, b, c, d, e, h1, h2, h3, h4, h5, h6, h7, h8⟩ := h
  exact ⟨C, k, D, m, a, b, c, d, e, h1.touch ht (fun g hg => by rw [mem_rg] at hg; omega), h2.touch ht (fun g hg => by rw [mem_rg] at hg; omega), h3, h4, h5, h6, h7, Nat.le_trans h8 ht.size⟩
theorem LOwn.rd {full : Bool} {w : World} {C D : Option Addr} {n k n' m : Nat} {z y : List (List Int)} {lo hi : Nat} (h : LOwn full w (.agg #[.slice C n k, .slice D n' m]) z y lo hi) : n = z.length ∧ n ≤ k ∧ n' = y.length ∧ n' ≤ m ∧ RdM w C z w.heap.size ∧ RdM w D y w.heap.size := by
  obtain ⟨C', k', D', m', a, b, c, d, e, h1, h2, _⟩ := h
  simp only [Value.agg.injEq, Array.mk.injEq, List.cons.injEq, Value.slice.injEq, and_true] at e
  obtain ⟨⟨rfl, rfl, rfl⟩, rfl, rfl, rfl⟩ := e
  exact ⟨h1.rd.1, h1.rd.2.1, h2.rd.1, h2.rd.2.1, h1.rd.2.2.2, h2.rd.2.2.2⟩
theorem toLists_lo (A A' : Option Addr) (n c n' c' : Nat) (z z' : List (List Int)) (w : World) (hn : n = z.length) (hn' : n' = z'.length) (hm : n + sumL z n + n' + sumL z' n' ≤ 1048576)
    (ha : RdL w A z w.heap.size) (ha' : RdL w A' z' w.heap.size) :
    Calls Try.prog 18 #[.agg #[.slice A n c, .slice A' n' c']] w fun e w' => ∃ g g', e = .returned (.agg #[.slice (some ⟨g, 0, none⟩) n n, .slice (some ⟨g', 0, none⟩) n' n']) ∧ LOwn false w' (.agg #[.slice (some ⟨g, 0, none⟩) n n, .slice (some ⟨g', 0, none⟩) n' n']) z z' w.heap.size w'.heap.size ∧ Below w.heap.size w w' := by
  subst hn hn'
  have hs : ∀ j, j < z.length → (z.getD j []).length ≤ 1048576 := fun j hj => by have := len_le z _ j hj; omega
  have hs' : ∀ j, j < z'.length → (z'.getD j []).length ≤ 1048576 := fun j hj => by have := len_le z' _ j hj; omega
  refine (toLists_own A A' _ c _ c' z z' w rfl rfl (by omega) (by omega) hs hs' ha ha').mono ?_
  rintro e w' ⟨g, g', G, G', rfl, ho, ho', h1, h2, h3, h4, h5⟩
  exact ⟨g, g', rfl, ⟨_, _, _, _, w.heap.size, g', g', w'.heap.size, rfl, ho.ownM (by omega) h1 (by omega) (fun j hj => h3 j hj) (by unfold maxLen; omega), ho'.ownM h4 (Nat.le_refl _) h4 (fun j hj => (ho'.2.1 j hj).2.1) (by unfold maxLen; omega), Nat.le_refl _, by omega, by omega, Nat.le_refl _, .inl (Nat.le_refl _), Nat.le_refl _⟩, h5⟩
theorem markLists_lo {full : Bool} (C D : Option Addr) (n k n' m : Nat) (z y : List (List Int)) (lo hi : Nat) (k0 : Int) (w : World) (h : LOwn full w (.agg #[.slice C n k, .slice D n' m]) z y lo hi) (hm : n + n' ≤ 1048576) (h0 : 0 ≤ k0) (h1 : k0 + sumL z n + sumL y n' ≤ 2097152) :
    Calls Try.prog 14 #[.agg #[.slice C n k, .slice D n' m], .int .i64 k0] w fun e w' => e = .returned (.int .i64 (k0 + sumL z n + sumL y n')) ∧ LOwn false w' (.agg #[.slice C n k, .slice D n' m]) (mkL z k0 n) (mkL y (k0 + sumL z n) n') lo hi ∧ Touch (rg lo hi) w w' := by
  obtain ⟨C', k', D', m', a, b, c, d, e, g1, g2, g3, g4, g5, g6, g7, g8⟩ := h
  simp only [Value.agg.injEq, Array.mk.injEq, List.cons.injEq, Value.slice.injEq, and_true] at e
  obtain ⟨⟨rfl, rfl, rfl⟩, rfl, rfl, rfl⟩ := e
  refine (markLists_any C D _ k _ m z y a b c d k0 w g1.weak g2.weak g7 (by omega) (by omega) hm h0 h1).mono ?_
  rintro e w' ⟨rfl, h1, h2, ht⟩
  have ht' := ht.mono (G := rg lo hi) (fun g hg => by
    rcases List.mem_append.1 hg with h | h
    · rw [mem_rg] at h ⊢; omega
    · rw [mem_rg] at h ⊢; omega)
  exact ⟨rfl, ⟨C, k, D, m, a, b, c, d, by rw [mkL_length, mkL_length], by rw [mkL_length]; exact h1, by rw [mkL_length]; exact h2, g3, g4, g5, g6, g7, Nat.le_trans g8 ht.size⟩, ht'⟩
theorem heldLists_lo {full : Bool} (C D : Option Addr) (n k n' m : Nat) (z y : List (List Int)) (lo hi : Nat) (k0 : Int) (w : World) (hn : n = z.length) (hn' : n' = y.length) (h : LOwn full w (.agg #[.slice C n k, .slice D n' m]) (mkL z k0 n) (mkL y (k0 + sumL z n) n') lo hi) (hm : n + n' ≤ 1048576) (h0 : 0 ≤ k0) (h1 : k0 + sumL z n + sumL y n' ≤ 2097152) :
    Calls Try.prog 15 #[.agg #[.slice C n k, .slice D n' m], .int .i64 k0] w fun e w' => e = .returned (.int .i64 (k0 + sumL z n + sumL y n')) ∧ Below w.heap.size w w' := by
  obtain ⟨_, h2, _, h3, h4, h5⟩ := h.rd
  exact heldLists_any C D n k n' m z y k0 w hn hn' h2 h3 h4 h5 hm h0 h1
set_option maxRecDepth 100000 in
set_option maxHeartbeats 1600000 in
theorem eqLists_len (A B A' B' : Option Addr) (n c d n' c' d' : Nat) (z z' : List (List Int)) (w : World) (hn : n = z.length) (hn' : n' = z'.length) (hm : n ≤ 1048576) (hm' : n' ≤ 1048576) (hs : ∀ j, j < z.length → (z.getD j []).length ≤ 1048576) (hs' : ∀ j, j < z'.length → (z'.getD j []).length ≤ 1048576)
    (ha : RdM w A z w.heap.size) (hb : RdM w B z w.heap.size) (ha' : RdM w A' z' w.heap.size) (hb' : RdM w B' z' w.heap.size) :
    Calls Try.prog 13 #[.agg #[.slice A n c, .slice A' n' c'], .agg #[.slice B n d, .slice B' n' d']] w fun e w' => e = .returned (.bool true) ∧ Below w.heap.size w w' := by
  have HS := hide hs
  have HS' := hide hs'
  have HN := hide hn
  have HN' := hide hn'
  have HA := hide ha
  have HB := hide hb
  have HA' := hide ha'
  have HB' := hide hb'
  clear hn hn' ha hb ha' hb' hs hs'
  go_enter Try.func13, Try.ntmps13
  go_wp2_with fail
  have hb0 : Below w.heap.size w ((w.alloc (.cells #[.slice A n c, .slice A' n' c'] 24)).alloc (.cells #[.slice B n d, .slice B' n' d'] 24)) := ((Below.refl _ _).alloc (Nat.le_refl _) _).alloc (by simp) _
  refine (eqSListS_same _ _ _ _ _ z _ HN.out hm HS.out (rdM_at HA.out hb0) (rdM_at HB.out hb0)).mono ?_
  rintro e w1 ⟨rfl, hb1⟩
  have k1 : w1.cell? ⟨w.heap.size, 1, none⟩ = some (.slice A' n' c') := by rw [hb1.cell (by simp <;> omega)]; go_simp
  have k2 : w1.cell? ⟨w.heap.size + 1, 1, none⟩ = some (.slice B' n' d') := by rw [hb1.cell (by simp <;> omega)]; go_simp
  have HB1 := hide (hb0.trans (hb1.mono hb0.size))
  clear hb0 hb1
  go_wp2_with fail
  refine (eqSListS_same _ _ _ _ _ z' _ HN'.out hm' HS'.out (rdM_at HA'.out HB1.out) (rdM_at HB'.out HB1.out)).mono ?_
  rintro e w2 ⟨rfl, hb2⟩
  have HB2 := hide (HB1.out.trans (hb2.mono HB1.out.size))
  clear hb2
  go_wp2
  go_ret
  exact ⟨rfl, HB2.out⟩
/-- Lists with sizes that a law allows, told of a result. -/
structure Sz (z y : List (List Int)) (n n' : Nat) : Prop where
  n0 : n = z.length
  n1 : n' = y.length
  m0 : n + n' ≤ 1048576
  s0 : ∀ j, j < z.length → (z.getD j []).length ≤ 1048576
  s1 : ∀ j, j < y.length → (y.getD j []).length ≤ 1048576
  t0 : 1 + (sumL z n : Int) + sumL y n' ≤ 2097152
theorem eqLists_lo {f1 f2 : Bool} (A B A' B' : Option Addr) (n c d n' c' d' : Nat) (z z' : List (List Int)) (a b p q : Nat) (w : World) (hz : Sz z z' n n') (h : LOwn f1 w (.agg #[.slice A n c, .slice A' n' c']) z z' a b) (h' : LOwn f2 w (.agg #[.slice B n d, .slice B' n' d']) z z' p q) :
    Calls Try.prog 13 #[.agg #[.slice A n c, .slice A' n' c'], .agg #[.slice B n d, .slice B' n' d']] w fun e w' => e = .returned (.bool true) ∧ Below w.heap.size w w' :=
  eqLists_len A B A' B' n c d n' c' d' z z' w hz.n0 hz.n1 (by have := hz.m0; omega) (by have := hz.m0; omega) hz.s0 hz.s1 h.rd.2.2.2.2.1 h'.rd.2.2.2.2.1 h.rd.2.2.2.2.2 h'.rd.2.2.2.2.2
theorem Sz.of {z y : List (List Int)} {n n' : Nat} (hn : n = z.length) (hn' : n' = y.length) (hm : n + sumL z n + n' + sumL y n' ≤ 1048576) : Sz z y n n' :=
  ⟨hn, hn', by omega, fun j hj => by have := len_le z n j (by omega); omega, fun j hj => by have := len_le y n' j (by omega); omega, by omega⟩
end Go.Proofs.Ytafhfikcpgjnaaa
