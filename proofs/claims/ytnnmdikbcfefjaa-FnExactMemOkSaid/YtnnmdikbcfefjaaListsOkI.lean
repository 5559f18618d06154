/-
  ListsOk: the program's answer: its rows in one slice, the slots met in an array of 24.
-/
import Derived.Test.YtnnmdikbcfefjaaListsOk
import Derived.Deep.Slices
namespace Go.Proofs.Ytnnmdikbcfefjaa
open Go.RowKit
set_option linter.unusedVariables false

/-! the program's answer -/
theorem allN_append (a b : List (List Int)) : allN (a ++ b) (a ++ b).length = allN a a.length ++ allN b b.length := by
  have h1 : ∀ k, k ≤ a.length → allN (a ++ b) k = allN a k := by
    intro k
    induction k with
    | zero => intro _; rfl
    | succ k ih =>
      intro h
      have e : (a ++ b).getD k [] = a.getD k [] := by simp [List.getD, List.getElem?_append, show k < a.length by omega]
      simp only [allN]
      rw [ih (by omega), e]
  have h2 : ∀ k, allN (a ++ b) (a.length + k) = allN a a.length ++ allN b k := by
    intro k
    induction k with
    | zero => simp [allN, h1]
    | succ k ih =>
      have e : (a ++ b).getD (a.length + k) [] = b.getD k [] := by simp [List.getD, List.getElem?_append, show ¬ a.length + k < a.length by omega]
      rw [← Nat.add_assoc]
      simp only [allN]
      rw [ih, e, List.append_assoc]
  rw [List.length_append]
  exact h2 b.length
theorem allN_at (z : List (List Int)) {k j : Nat} (hj : j < (z.getD k []).length) : ∀ K, k < K → (allN z K).getD (sumL z k + j) 0 = (z.getD k []).getD j 0 := by
  intro K
  induction K with
  | zero => intro h; omega
  | succ K ih =>
    intro h
    simp only [allN]
    by_cases e : k = K
    · subst e
      have hA : (allN z k).length = sumL z k := allN_length z k
      rw [List.getD_eq_getElem?_getD, List.getElem?_append_right (by omega), hA, Nat.add_sub_cancel_left, ← List.getD_eq_getElem?_getD]
    · have h1 := ih (by omega)
      have h2 := sumL_le z (show k + 1 ≤ K by omega)
      simp only [sumL] at h2
      rw [← h1]
      simp [List.getD, List.getElem?_append, allN_length, show sumL z k + j < sumL z K by omega]
def RowV (w : World) (U : Nat) (v : Value) (l : List Int) : Prop := ∃ A n c, v = .slice A n c ∧ n = l.length ∧ n ≤ c ∧ c ≤ maxLen ∧ RdB .i64 w A l U
theorem rdM_vals {w : World} {A : Option Addr} {z : List (List Int)} {B : Nat} (h : RdM w A z B) : ∃ vs : List Value, vs.length = z.length ∧ RdV w A vs B ∧ ∀ j, j < z.length → RowV w B (vs.getD j undef) (z.getD j []) := by
  have h2 : ∀ j, j < z.length → ∃ v : Value, (∃ b off, A = some ⟨b, off, none⟩ ∧ b < B ∧ w.cell? ⟨b, off + j, none⟩ = some v) ∧ RowV w B v (z.getD j []) := fun j hj => by
    obtain ⟨b, off, A', n', c', e, hb, hc, h1, h2, h3, h4⟩ := h j hj
    exact ⟨_, ⟨b, off, e, hb, hc⟩, A', n', c', rfl, h1, h2, h3, h4⟩
  haveI : Inhabited Value := ⟨undef⟩
  obtain ⟨f, hf⟩ := Go.Deep.choose_lt h2
  refine ⟨(List.range z.length).map f, by simp, fun j hj => ?_, fun j hj => ?_⟩
  · have hj' : j < z.length := by simpa using hj
    have e : ((List.range z.length).map f).getD j undef = f j := by simp [List.getD, hj']
    rw [e]; exact (hf j hj').1
  · have e : ((List.range z.length).map f).getD j undef = f j := by simp [List.getD, hj]
    rw [e]; exact (hf j hj).2
theorem rowV_one {w : World} {U : Nat} {vs : List Value} {z : List (List Int)} (hl : vs.length = z.length) (h : ∀ j, j < z.length → RowV w U (vs.getD j undef) (z.getD j [])) : ∀ u, u ∈ vs → u.oneCell' = true := fun u hu => by
  obtain ⟨j, hj, rfl⟩ := List.getElem_of_mem hu
  obtain ⟨A, n, c, e, _⟩ := h j (by omega)
  have e2 : vs.getD j undef = vs[j] := by simp [List.getD, hj]
  rw [← e2, e]
  rfl
/-- The joined rows: in a block that is not m, the lists' blocks below U. -/
def CatR (w : World) (m U : Nat) (C : Option Addr) (cc : List (List Int)) : Prop :=
  ∀ j, j < cc.length → ∃ b A n c, C = some ⟨b, 0, none⟩ ∧ m < b ∧ b < w.heap.size ∧ w.cell? ⟨b, j, none⟩ = some (.slice A n c) ∧ n = (cc.getD j []).length ∧ n ≤ c ∧ c ≤ maxLen ∧ RdB .i64 w A (cc.getD j []) U
theorem CatR.touch {w w' : World} {m U : Nat} {C : Option Addr} {cc : List (List Int)} (h : CatR w m U C cc) (ht : Touch [m] w w') (hU : U ≤ m) (hm : m ≤ w.heap.size) : CatR w' m U C cc := fun j hj => by
  obtain ⟨b, A, n, c, e, h1, h2, h3, h4, h5, h6, h7⟩ := h j hj
  exact ⟨b, A, n, c, e, h1, Nat.lt_of_lt_of_le h2 ht.size, (World.cell?_of_block (ht.block b h2 (by simp; omega))).trans h3, h4, h5, h6, h7.touch ht (by simp; omega) (by omega)⟩
structure LOk (w2 wr : World) (w0 m : Nat) (u0 u1 : Value) (T : List Int) (p : Nat) : Prop where
  row : wr.rowIs m 63 24 (fun j => .bool (has1 (j : Int) (T.take p)))
  good : goodP T p
  b0 : wr.cell? ⟨w0, 0, none⟩ = some u0
  b1 : wr.cell? ⟨w0, 1, none⟩ = some u1
  ne : w0 < m
  tch : Touch [m] w2 wr
theorem LOk.below {w2 wr w' : World} {w0 m : Nat} {u0 u1 : Value} {T : List Int} {p : Nat} (h : LOk w2 wr w0 m u0 u1 T p) (hb : Below wr.heap.size wr w') : LOk w2 w' w0 m u0 u1 T p :=
  ⟨rowIs_below h.row hb h.row.lt, h.good, (hb.cell (Nat.lt_trans h.ne h.row.lt)).trans h.b0, (hb.cell (Nat.lt_trans h.ne h.row.lt)).trans h.b1, h.ne, h.tch.trans (.of_below hb)⟩
theorem LOk.step {w2 wr : World} {w0 m : Nat} {u0 u1 : Value} {T : List Int} {p t : Nat} (h : LOk w2 wr w0 m u0 u1 T p) (hp : p < T.length) (ht : T.getD p 0 = (t : Int)) (h1 : in23 (T.getD p 0) = true) (h2 : has1 (T.getD p 0) (T.take p) = false) : LOk w2 (wr.setCell ⟨m, t, none⟩ (.bool true)) w0 m u0 u1 T (p + 1) := by
  refine ⟨(h.row.set t (.bool true)).congr fun j _ => ?_, goodP_step h.good h1 h2, ?_, ?_, h.ne, h.tch.setCell (by simp) _⟩
  · have e : T.take (p + 1) = T.take p ++ [T.getD p 0] := by rw [getD_at hp, List.take_succ_eq_append_getElem hp]
    rw [e, ht]
    by_cases hj : j = t
    · subst hj; simp [has1]
    · have : ¬ ((t : Int) = (j : Int)) := by omega
      simp [has1, hj, this]
  · rw [World.cell?_setCell_other _ _ _ _ (by have := h.ne; simp <;> omega)]; exact h.b0
  · rw [World.cell?_setCell_other _ _ _ _ (by have := h.ne; simp <;> omega)]; exact h.b1

theorem rowIs_lit (w : World) (c : Array Value) (t : TypeId) (z : Value) (n : Nat) (h : c = Array.replicate n z) : (w.alloc (.cells c t)).rowIs w.heap.size t n (fun _ => z) := by
  subst h
  have := World.rowIs_alloc w (Array.replicate n z) t (fun _ => z) (fun i hi => by simp at hi; simp [hi])
  simpa using this
theorem catR_of {w wa w2 : World} {C : Option Addr} {m U : Nat} {vs us : List Value} {z y : List (List Int)} (hm : m < wa.heap.size) (hU : U ≤ w.heap.size) (hb : Below w.heap.size w w2)
    (hv : vs.length = y.length) (hu : us.length = z.length) (rv : ∀ j, j < y.length → RowV w U (vs.getD j undef) (y.getD j [])) (ru : ∀ j, j < z.length → RowV w U (us.getD j undef) (z.getD j []))
    (hc : ∀ j, j < (vs ++ us).length → ∃ b, C = some ⟨b, 0, none⟩ ∧ wa.heap.size ≤ b ∧ b < w2.heap.size ∧ w2.cell? ⟨b, j, none⟩ = some ((vs ++ us).getD j undef)) : CatR w2 m U C (y ++ z) := fun j hj => by
  rw [List.length_append] at hj
  obtain ⟨b, e, h1, h2, h3⟩ := hc j (by rw [List.length_append]; omega)
  have hr : RowV w U ((vs ++ us).getD j undef) ((y ++ z).getD j []) := by
    by_cases hl : j < y.length
    · have e1 : (vs ++ us).getD j undef = vs.getD j undef := by simp [List.getD, List.getElem?_append, show j < vs.length by omega]
      have e2 : (y ++ z).getD j [] = y.getD j [] := by simp [List.getD, List.getElem?_append, hl]
      rw [e1, e2]; exact rv j hl
    · have e1 : (vs ++ us).getD j undef = us.getD (j - y.length) undef := by simp [List.getD, List.getElem?_append, hl, hv]
      have e2 : (y ++ z).getD j [] = z.getD (j - y.length) [] := by simp [List.getD, List.getElem?_append, hl]
      rw [e1, e2]; exact ru _ (by omega)
  obtain ⟨A, n, c, ev, h4, h5, h6, h7⟩ := hr
  rw [ev] at h3
  exact ⟨b, A, n, c, e, by omega, h2, h3, h4, h5, h6, h7.below hb hU⟩
theorem LOk.start {w w1 wa w2 : World} {u0 u1 : Value} {v2 : Array Value} {T : List Int} {t2 t3 : TypeId} {fs : Array Value} (e1 : w1 = w.alloc (.cells #[u0, u1] t3)) (hfs : fs = Array.replicate 24 (.bool false)) (ea : wa = (w1.alloc (.cells fs 63)).alloc (.cells v2 t2)) (hb : Below wa.heap.size wa w2) : LOk w2 w2 w.heap.size (w.heap.size + 1) u0 u1 T 0 ∧ Below w.heap.size w w2 := by
  have s1 : w1.heap.size = w.heap.size + 1 := by rw [e1]; simp
  have sa : wa.heap.size = w.heap.size + 3 := by rw [ea]; simp [s1]
  have b0 : wa.cell? ⟨w.heap.size, 0, none⟩ = some u0 := by
    rw [ea, World.cell?_alloc_lt _ _ _ (by simp [s1] <;> omega), World.cell?_alloc_lt _ _ _ (by simp [s1]), e1]; go_simp
  have b1 : wa.cell? ⟨w.heap.size, 1, none⟩ = some u1 := by
    rw [ea, World.cell?_alloc_lt _ _ _ (by simp [s1] <;> omega), World.cell?_alloc_lt _ _ _ (by simp [s1]), e1]; go_simp
  have hr : wa.rowIs (w.heap.size + 1) 63 24 (fun _ => .bool false) := by
    rw [ea, ← s1]; exact (rowIs_lit w1 fs _ _ 24 hfs).alloc _
  refine ⟨⟨(rowIs_below hr hb hr.lt).congr fun j _ => ?_, fun j hj => absurd hj (Nat.not_lt_zero _), ?_, ?_, Nat.lt_succ_self _, Touch.refl _ _⟩, ?_⟩
  · simp [has1]
  · rw [hb.cell (by show w.heap.size < _; omega)]; exact b0
  · rw [hb.cell (by show w.heap.size < _; omega)]; exact b1
  · have h1 : Below w.heap.size w wa := by rw [ea, e1]; exact (((Below.refl _ _).alloc (Nat.le_refl _) _).alloc (by simp) _).alloc (by simp <;> omega) _
    exact below_go h1 hb
/-- The rows behind which no two slots are the same, so far. -/
structure ROk (w w2 wr : World) (z y : List (List Int)) (C : Option Addr) (u0 u1 : Value) (p : Nat) : Prop where
  lok : LOk w2 wr w.heap.size (w.heap.size + 1) u0 u1 (allN (y ++ z) 12) p
  cat : CatR wr (w.heap.size + 1) w.heap.size C (y ++ z)
  bel : Below w.heap.size w wr
theorem ROk.below {w w2 wr w' : World} {z y : List (List Int)} {C : Option Addr} {u0 u1 : Value} {p : Nat} (h : ROk w w2 wr z y C u0 u1 p) (hb : Below wr.heap.size wr w') : ROk w w2 w' z y C u0 u1 p :=
  ⟨h.lok.below hb, h.cat.touch (.of_below hb) (Nat.le_succ _) (Nat.le_of_lt h.lok.row.lt), below_go h.bel hb⟩
theorem ROk.step {w w2 wr : World} {z y : List (List Int)} {C : Option Addr} {u0 u1 : Value} {p t : Nat} (h : ROk w w2 wr z y C u0 u1 p) (hp : p < (allN (y ++ z) 12).length) (ht : (allN (y ++ z) 12).getD p 0 = (t : Int)) (h1 : in23 ((allN (y ++ z) 12).getD p 0) = true) (h2 : has1 ((allN (y ++ z) 12).getD p 0) ((allN (y ++ z) 12).take p) = false) : ROk w w2 (wr.setCell ⟨w.heap.size + 1, t, none⟩ (.bool true)) z y C u0 u1 (p + 1) :=
  ⟨h.lok.step hp ht h1 h2, h.cat.touch ((Touch.refl _ _).setCell (by simp) _) (Nat.le_succ _) (Nat.le_of_lt h.lok.row.lt), h.bel.setCell (Nat.le_succ _) _⟩

end Go.Proofs.Ytnnmdikbcfefjaa
