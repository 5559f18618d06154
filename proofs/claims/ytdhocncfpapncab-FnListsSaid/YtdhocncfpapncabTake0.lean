/-
  The last slot of a list taken: plain lemmas on lists that a function has made, and the contracts of l8Pop (reference) and pop (program).
-/
import Derived.Test.YtdhocncfpapncabOwnI
import Derived.Test.YtdhocncfpapncabListsOkW
import Derived.Test.YtdhocncfpapncabPlace
import Derived.IntWalk
import Derived.StillTailTactics
namespace Go.Proofs.Ytdhocncfpapncab
open Go.RowKit
set_option linter.unusedVariables false

def lastR (l : List Int) : Int := if l.length = 0 then -1 else l.getD (l.length - 1) 0
def dropL (l : List Int) : List Int := l.take (l.length - 1)
def takeZ (z : List (List Int)) (i : Nat) : List (List Int) := z.set i (dropL (z.getD i []))
theorem takeZ_length (z : List (List Int)) (i : Nat) : (takeZ z i).length = z.length := by simp [takeZ]
theorem takeZ_at (z : List (List Int)) {i : Nat} (hi : i < z.length) : (takeZ z i).getD i [] = dropL (z.getD i []) := by simp [takeZ, List.getD, hi]
theorem takeZ_ne (z : List (List Int)) {i j : Nat} (h : j ≠ i) : (takeZ z i).getD j [] = z.getD j [] := by
  have h' : ¬ i = j := fun e => h e.symm
  simp [takeZ, List.getD, h']
theorem takeZ_nil (z : List (List Int)) {i : Nat} (h : (z.getD i []).length = 0) : takeZ z i = z := by
  have e : z.getD i [] = [] := List.eq_nil_of_length_eq_zero h
  unfold takeZ
  rw [e]
  by_cases hi : i < z.length
  · have e2 : z[i] = [] := by simpa [List.getD, hi] using e
    show z.set i [] = z
    rw [← e2, List.set_getElem_self]
  · rw [List.set_eq_of_length_le (by omega)]
theorem dropL_length (l : List Int) : (dropL l).length = l.length - 1 := by unfold dropL; rw [List.length_take]; omega
theorem dropL_get (l : List Int) {k : Nat} (hk : k < l.length - 1) : (dropL l).getD k 0 = l.getD k 0 := by
  unfold dropL
  rw [List.getD_eq_getElem?_getD, List.getD_eq_getElem?_getD, List.getElem?_take, if_pos hk]
theorem OwnU.put {full : Bool} {w : World} {g n c : Nat} {us : List Value} {z : List (List Int)} {lo hi i : Nat} {A2 : Option Addr} {n2 c2 : Nat} (h : OwnU full w (.slice (some ⟨g, 0, none⟩) n c) us z lo hi) (hi' : i < z.length) (he : us.getD i undef = .slice A2 n2 c2) {c' : Nat} (h1 : n2 - 1 ≤ c') (h2 : c' ≤ c2) :
    OwnU false (w.setCell ⟨g, i, none⟩ (.slice A2 (n2 - 1) c')) (.slice (some ⟨g, 0, none⟩) n c) (us.set i (.slice A2 (n2 - 1) c')) (takeZ z i) lo hi := by
  have hl := h.rows.len
  have hset : ∀ j, j ≠ i → (us.set i (.slice A2 (n2 - 1) c')).getD j undef = us.getD j undef := fun j hj => by
    have h' : ¬ i = j := fun e => hj e.symm
    simp [List.getD, h']
  have hat : (us.set i (.slice A2 (n2 - 1) c')).getD i undef = .slice A2 (n2 - 1) c' := by simp [List.getD, hl, hi']
  have hob : (Value.slice A2 (n2 - 1) c').ownBlock = (us.getD i undef).ownBlock := by rw [he]; cases A2 <;> rfl
  have hobj : ∀ j, ((us.set i (.slice A2 (n2 - 1) c')).getD j undef).ownBlock = (us.getD j undef).ownBlock := fun j => by
    by_cases e : j = i
    · subst e; rw [hat, hob]
    · rw [hset j e]
  have ht : Touch [g] w (w.setCell ⟨g, i, none⟩ (.slice A2 (n2 - 1) c')) := (Touch.refl _ _).setCell (by simp) _
  refine ⟨(h.out.set i _).weak, h.ob, ⟨by simp [hl, takeZ_length], fun j hj => ?_, fun j hj b hb => ?_, fun a b ha hb hne x hx => ?_⟩⟩
  · rw [takeZ_length] at hj
    have hj' := h.rows.el j hj
    have hk : ∀ x, (us.getD j undef).ownBlock = some x → x ∉ [g] := fun x hx hm => by
      have := (h.rows.ins j hj x hx).2.2
      simp only [List.mem_singleton] at hm
      exact this (by rw [hm]; rfl)
    by_cases e : j = i
    · subst e
      rw [hat, takeZ_at z hj]
      have h5 := hj'.touch ht hk
      rw [he] at h5
      obtain ⟨A, c0, e, h6, h7, h8⟩ := h5
      injection e with e1 e2 e3
      subst e1 e3
      rw [ints_length] at e2 h6
      subst e2
      refine ⟨A2, c', by rw [ints_length, dropL_length], by rw [ints_length, dropL_length]; exact h1, by omega, ?_⟩
      rcases h8 with ⟨rfl, h9⟩ | ⟨g2, cap, f, rfl, hr, h9, _, h10⟩
      · exact .inl ⟨rfl, by omega⟩
      · refine .inr ⟨g2, cap, f, rfl, hr, by omega, (fun h => by cases h), fun k hk => ?_⟩
        rw [ints_length, dropL_length] at hk
        rw [h10 k (by rw [ints_length]; omega), ints_get _ _ (by omega), ints_get _ _ (by rw [dropL_length]; exact hk)]
        rw [dropL_get _ hk]
    · rw [hset j e, takeZ_ne z e]
      exact (hj'.touch ht hk).weak
  · rw [takeZ_length] at hj
    rw [hobj] at hb
    exact h.rows.ins j hj b hb
  · rw [takeZ_length] at ha hb
    rw [hobj] at hx
    rw [hobj]
    exact h.rows.dis a b ha hb hne x hx
theorem LRes.below {full : Bool} {w wr w' : World} {v : Value} {z y : List (List Int)} (h : LRes full w wr v z y) (hb : Below wr.heap.size wr w') : LRes full w w' v z y := by
  obtain ⟨C, k, D, m, a, b, c, d, e, h1, h2, h3, h4, h5, h6, h7, h8⟩ := h
  exact ⟨C, k, D, m, a, b, c, d, e, h1.below hb, h2.below hb, h3, Nat.le_trans h4 hb.size, h5, Nat.le_trans h6 hb.size, h7, below_go h8 hb⟩
theorem LRes.weak {full : Bool} {w wr : World} {v : Value} {z y : List (List Int)} (h : LRes full w wr v z y) : LRes false w wr v z y := by
  obtain ⟨C, k, D, m, a, b, c, d, e, h1, h2, h3⟩ := h
  exact ⟨C, k, D, m, a, b, c, d, e, h1.weak, h2.weak, h3⟩
theorem LRes.from {full : Bool} {w w0 wr : World} {v : Value} {z y : List (List Int)} (h : LRes full w0 wr v z y) (hb : Below w.heap.size w w0) : LRes full w wr v z y := by
  obtain ⟨C, k, D, m, a, b, c, d, e, h1, h2, h3, h4, h5, h6, h7, h8⟩ := h
  exact ⟨C, k, D, m, a, b, c, d, e, h1, h2, Nat.le_trans hb.size h3, h4, Nat.le_trans hb.size h5, h6, h7, below_go hb h8⟩
/-- A result stored in a block between the two worlds. -/
theorem LRes.touch {full : Bool} {w w0 wr w' : World} {v : Value} {z y : List (List Int)} {p : Nat} (h : LRes full w0 wr v z y) (hb : Below w.heap.size w w0) (ht : Touch [p] wr w') (h1 : w.heap.size ≤ p) (h2 : p < w0.heap.size) : LRes full w w' v z y := by
  obtain ⟨C, k, D, m, a, b, c, d, e, g1, g2, g3, g4, g5, g6, g7, g8⟩ := h
  have s0 := hb.size
  have g9 := below_go hb g8
  exact ⟨C, k, D, m, a, b, c, d, e, g1.touch ht (fun g hg => by simp at hg; omega), g2.touch ht (fun g hg => by simp at hg; omega), by omega, Nat.le_trans g4 ht.size, by omega, Nat.le_trans g6 ht.size, g7, Below.touch g9 ht (by simp; omega) g9.size⟩
/-- A row of the second half: what it holds, and what is left when its last slot is dropped. -/
theorem LRes.put1 {full : Bool} {w0 wr : World} {C D : Option Addr} {k m n n' : Nat} {z y : List (List Int)} {i : Nat} (h : LRes full w0 wr (.agg #[.slice C n k, .slice D n' m]) z y) (hi : i < y.length) :
    ∃ g A2 n2 c2, D = some ⟨g, 0, none⟩ ∧ w0.heap.size ≤ g ∧ g < wr.heap.size ∧ wr.cell? ⟨g, i, none⟩ = some (.slice A2 n2 c2) ∧ wr.frozen? ⟨g, i, none⟩ = false ∧ n2 = (y.getD i []).length ∧ n2 ≤ c2 ∧ c2 ≤ maxLen ∧ RdB .i64 wr A2 (y.getD i []) wr.heap.size ∧
      ∀ w2, Below wr.heap.size wr w2 → ∀ c', n2 - 1 ≤ c' → c' ≤ c2 → LRes false w0 (w2.setCell ⟨g, i, none⟩ (.slice A2 (n2 - 1) c')) (.agg #[.slice C n k, .slice D n' m]) z (takeZ y i) := by
  obtain ⟨C', k', D', m', a, b, c, d, e, h1, ⟨us, h2⟩, h3, h4, h5, h6, h7, h8⟩ := h
  simp only [Value.agg.injEq, Array.mk.injEq, List.cons.injEq, Value.slice.injEq, and_true] at e
  obtain ⟨⟨rfl, rfl, rfl⟩, rfl, rfl, rfl⟩ := e
  obtain ⟨g, A2, n2, c2, rfl, q1, q2, q3, he, q4, q5, q6, q7, q8, q9⟩ := h2.cell hi
  refine ⟨g, A2, n2, c2, rfl, by omega, q3, q4, q5, q6, q7, q8, q9, fun w2 hb2 c' hc1 hc2 => ?_⟩
  have h2' : OwnU full w2 _ us y c d := h2.keep fun g h1 h2 h3 => hb2.block g h3
  have ht : Touch [g] w2 (w2.setCell ⟨g, i, none⟩ (.slice A2 (n2 - 1) c')) := (Touch.refl _ _).setCell (by simp) _
  have hb3 := below_go h8 hb2
  refine ⟨C, k, _, m, a, b, c, d, by rw [takeZ_length], (h1.below hb2).weak.touch ht (fun x hx => by simp at hx; omega), ?_, h3, Nat.le_trans (Nat.le_trans h4 hb2.size) ht.size, h5, Nat.le_trans (Nat.le_trans h6 hb2.size) ht.size, h7, Below.touch hb3 ht (by simp; omega) hb3.size⟩
  rw [takeZ_length]
  exact ⟨_, h2'.put hi he hc1 hc2⟩
/-- The same of the first half. -/
theorem LRes.put0 {full : Bool} {w0 wr : World} {C D : Option Addr} {k m n n' : Nat} {z y : List (List Int)} {i : Nat} (h : LRes full w0 wr (.agg #[.slice C n k, .slice D n' m]) z y) (hi : i < z.length) :
    ∃ g A2 n2 c2, C = some ⟨g, 0, none⟩ ∧ w0.heap.size ≤ g ∧ g < wr.heap.size ∧ wr.cell? ⟨g, i, none⟩ = some (.slice A2 n2 c2) ∧ wr.frozen? ⟨g, i, none⟩ = false ∧ n2 = (z.getD i []).length ∧ n2 ≤ c2 ∧ c2 ≤ maxLen ∧ RdB .i64 wr A2 (z.getD i []) wr.heap.size ∧
      ∀ w2, Below wr.heap.size wr w2 → ∀ c', n2 - 1 ≤ c' → c' ≤ c2 → LRes false w0 (w2.setCell ⟨g, i, none⟩ (.slice A2 (n2 - 1) c')) (.agg #[.slice C n k, .slice D n' m]) (takeZ z i) y := by
  obtain ⟨C', k', D', m', a, b, c, d, e, ⟨us, h1⟩, h2, h3, h4, h5, h6, h7, h8⟩ := h
  simp only [Value.agg.injEq, Array.mk.injEq, List.cons.injEq, Value.slice.injEq, and_true] at e
  obtain ⟨⟨rfl, rfl, rfl⟩, rfl, rfl, rfl⟩ := e
  obtain ⟨g, A2, n2, c2, rfl, q1, q2, q3, he, q4, q5, q6, q7, q8, q9⟩ := h1.cell hi
  refine ⟨g, A2, n2, c2, rfl, by omega, q3, q4, q5, q6, q7, q8, q9, fun w2 hb2 c' hc1 hc2 => ?_⟩
  have h1' : OwnU full w2 _ us z a b := h1.keep fun g h1 h2 h3 => hb2.block g h3
  have ht : Touch [g] w2 (w2.setCell ⟨g, i, none⟩ (.slice A2 (n2 - 1) c')) := (Touch.refl _ _).setCell (by simp) _
  have hb3 := below_go h8 hb2
  refine ⟨_, k, D, m, a, b, c, d, by rw [takeZ_length], ?_, (h2.below hb2).weak.touch ht (fun x hx => by simp at hx; omega), h3, Nat.le_trans (Nat.le_trans h4 hb2.size) ht.size, h5, Nat.le_trans (Nat.le_trans h6 hb2.size) ht.size, h7, Below.touch hb3 ht (by simp; omega) hb3.size⟩
  rw [takeZ_length]
  exact ⟨_, h1'.put hi he hc1 hc2⟩
theorem LRes.shape {full : Bool} {w0 wr : World} {v : Value} {z y : List (List Int)} (h : LRes full w0 wr v z y) : ∃ C k D m, v = .agg #[.slice C z.length k, .slice D y.length m] := by
  obtain ⟨C, k, D, m, a, b, c, d, e, _⟩ := h; exact ⟨C, k, D, m, e⟩
theorem LRes.lens {full : Bool} {w0 wr : World} {C D : Option Addr} {k m n n' : Nat} {z y : List (List Int)} (h : LRes full w0 wr (.agg #[.slice C n k, .slice D n' m]) z y) : n = z.length ∧ n ≤ k ∧ k ≤ maxLen ∧ n' = y.length ∧ n' ≤ m ∧ m ≤ maxLen ∧ RdM wr C z wr.heap.size ∧ RdM wr D y wr.heap.size := by
  obtain ⟨C', k', D', m', a, b, c, d, e, h1, h2, _⟩ := h
  simp only [Value.agg.injEq, Array.mk.injEq, List.cons.injEq, Value.slice.injEq, and_true] at e
  obtain ⟨⟨rfl, rfl, rfl⟩, rfl, rfl, rfl⟩ := e
  exact ⟨h1.rd.1, h1.rd.2.1, h1.rd.2.2.1, h2.rd.1, h2.rd.2.1, h2.rd.2.2.1, h1.rd.2.2.2, h2.rd.2.2.2⟩
/-- The cell at g, k holds a list; its last slot goes. -/
def PopR (w w' : World) (g k : Nat) (A : Option Addr) (n : Nat) : Prop := n = 0 ∧ w' = w ∨ w' = w.setCell ⟨g, k, none⟩ (.slice A (n - 1) (n - 1))
set_option maxRecDepth 100000 in
set_option maxHeartbeats 1600000 in
theorem pop_any (g k : Nat) (A : Option Addr) (n c : Nat) (l : List Int) (w : World) (hcell : w.cell? ⟨g, k, none⟩ = some (.slice A n c)) (hfz : w.frozen? ⟨g, k, none⟩ = false) (hn : n = l.length) (hc : n ≤ c) (hcm : c ≤ maxLen) (hr : RdB .i64 w A l w.heap.size) :
    Calls Try.prog 35 #[.pointer (some ⟨g, k, none⟩)] w fun e w' => e = .returned (.int .i64 (lastR l)) ∧ PopR w w' g k A n := by
  have HN := hide hn
  have HR := hide hr
  have hcm2 : (c : Int) ≤ 9223372036854775807 := by unfold maxLen at hcm; omega
  clear hn hr
  by_cases h0 : n = 0
  · subst h0
    have HX : Hid (lastR l = -1) := hide (by unfold lastR; rw [if_pos HN.out.symm])
    go_enter Try.func35, Try.ntmps35
    go_wp2
    go_ret
    exact ⟨retI HX.out.symm, .inl ⟨rfl, rfl⟩⟩
  · obtain ⟨b, off, rfl, hb, hx0⟩ := HR.out (n - 1) (by have := HN.out; omega)
    obtain ⟨x, hx⟩ : ∃ x, x = l.getD (n - 1) 0 := ⟨_, rfl⟩
    rw [← hx] at hx0
    have HX : Hid (lastR l = x) := hide (by unfold lastR; rw [if_neg (by have := HN.out; omega), hx, ← HN.out])
    obtain ⟨q, hq⟩ : ∃ q, q = n - 1 := ⟨_, rfl⟩
    rw [← hq] at hx0
    obtain rfl : n = q + 1 := by omega
    clear hx hq h0
    have hq0 : ¬ (q : Int) < 0 := by omega
    have hqc : (q : Int) ≤ (c : Int) := by omega
    have hqi : (q : Int) < (q : Int) + 1 := by omega
    go_enter Try.func35, Try.ntmps35
    go_wp2
    go_ret
    exact ⟨retI HX.out.symm, .inr rfl⟩
end Go.Proofs.Ytdhocncfpapncab
