/-
  StoreNum, CasNum and Fill: what they lay into a copy. Plain words and the contracts.
-/
import Derived.Test.YtnnmdikbcfefjaaGenIn
import Derived.Test.YtnnmdikbcfefjaaFixI
import Derived.Lib.SliceRun
namespace Go.Proofs.Ytnnmdikbcfefjaa
open Go.RowKit
set_option linter.unusedVariables false

/-- The list with the places lo..hi-1 laid anew. -/
def upd (zs : List Int) (lo hi : Nat) (f : Nat → Int) : List Int := (List.range zs.length).map fun i => if lo ≤ i ∧ i < hi then f i else zs.getD i 0
theorem upd_length (zs : List Int) (lo hi : Nat) (f : Nat → Int) : (upd zs lo hi f).length = zs.length := by simp [upd]
theorem upd_get (zs : List Int) (lo hi : Nat) (f : Nat → Int) (i : Nat) (h : i < zs.length) : (upd zs lo hi f).getD i 0 = if lo ≤ i ∧ i < hi then f i else zs.getD i 0 := by
  have : i < (upd zs lo hi f).length := by rw [upd_length]; exact h
  rw [List.getD_eq_getElem?_getD, List.getElem?_eq_getElem this]
  simp [upd]
theorem upd_none (zs : List Int) (lo hi : Nat) (f : Nat → Int) (h : hi ≤ lo) : upd zs lo hi f = zs := by
  refine list_eq_of (upd_length _ _ _ _) fun j hj => ?_
  rw [upd_length] at hj
  rw [upd_get _ _ _ _ _ hj, if_neg (by omega)]
theorem set_get (zs : List Int) (k j : Nat) (x : Int) (hk : k < zs.length) (hj : j < zs.length) : (zs.set k x).getD j 0 = if j = k then x else zs.getD j 0 := by
  simp only [List.getD_eq_getElem?_getD, List.getElem?_set]
  by_cases e : k = j
  · subst e; simp [hk]
  · rw [if_neg e, if_neg (fun h => e h.symm)]
theorem upd_up (zs : List Int) (lo k : Nat) (f : Nat → Int) (h : k < zs.length) (hl : lo ≤ k) : (upd zs lo k f).set k (f k) = upd zs lo (k + 1) f := by
  refine list_eq_of (by simp [upd_length]) fun j hj => ?_
  rw [List.length_set, upd_length] at hj
  rw [set_get _ _ _ _ (by rw [upd_length]; exact h) (by rw [upd_length]; exact hj), upd_get _ _ _ _ _ hj, upd_get _ _ _ _ _ hj]
  by_cases e : j = k
  · subst e; rw [if_pos rfl, if_pos (by omega)]
  · rw [if_neg e]
    by_cases h2 : lo ≤ j ∧ j < k
    · rw [if_pos h2, if_pos (by omega)]
    · rw [if_neg h2, if_neg (by omega)]
theorem upd_down (zs : List Int) (k hi : Nat) (f : Nat → Int) (h : k < zs.length) (hl : k < hi) : (upd zs (k + 1) hi f).set k (f k) = upd zs k hi f := by
  refine list_eq_of (by simp [upd_length]) fun j hj => ?_
  rw [List.length_set, upd_length] at hj
  rw [set_get _ _ _ _ (by rw [upd_length]; exact h) (by rw [upd_length]; exact hj), upd_get _ _ _ _ _ hj, upd_get _ _ _ _ _ hj]
  by_cases e : j = k
  · subst e; rw [if_pos rfl, if_pos (by omega)]
  · rw [if_neg e]
    by_cases h2 : k + 1 ≤ j ∧ j < hi
    · rw [if_pos h2, if_pos (by omega)]
    · rw [if_neg h2, if_neg (by omega)]
theorem upd_congr (zs : List Int) (lo hi : Nat) (f g : Nat → Int) (h : ∀ i, lo ≤ i → i < hi → f i = g i) : upd zs lo hi f = upd zs lo hi g := by
  unfold upd
  apply List.map_congr_left
  intro i _
  by_cases e : lo ≤ i ∧ i < hi
  · rw [if_pos e, if_pos e, h i e.1 e.2]
  · rw [if_neg e, if_neg e]

theorem ints_set (zs : List Int) (k : Nat) (x : Int) : (ints zs).set k (.int .i64 x) = ints (zs.set k x) := by simp [ints, List.map_set]
/-- One cell of an own slice laid anew. -/
theorem own_set {E : TypeId} {w : World} {g c n : Nat} {zs : List Int} {F : List Nat} (h : Own E w (.slice (some ⟨g, 0, none⟩) n c) (ints zs) F) (k : Nat) (hk : k < zs.length) (x : Int) :
    Own E (w.setCell ⟨g, k, none⟩ (.int .i64 x)) (.slice (some ⟨g, 0, none⟩) n c) (ints (zs.set k x)) F := by
  obtain ⟨A', c', e, hc, h⟩ := h
  injection e with e1 e2 e3
  subst e1 e3
  refine ⟨some ⟨g, 0, none⟩, c, by rw [e2, ints_length, ints_length, List.length_set], hc, ?_⟩
  rcases h with ⟨h0, _, _⟩ | ⟨g', cap, f, hA, hF, hr, h1, h2, h3⟩
  · exact absurd (congrArg List.length h0) (by rw [ints_length]; simp; intro e; rw [e] at hk; simp at hk)
  · injection hA with hA
    injection hA with hA
    subst hA
    refine .inr ⟨g, cap, _, rfl, hF, hr.set k _, by rw [ints_length, List.length_set, ← ints_length zs]; exact h1, h2, fun j hj => ?_⟩
    rw [ints_length, List.length_set] at hj
    rw [ints_get _ _ (by rw [List.length_set]; exact hj), set_get _ _ _ _ hk hj]
    by_cases e : j = k
    · subst e; simp
    · rw [if_neg e, if_neg e, h3 j (by rw [ints_length]; exact hj), ints_get _ _ hj]
theorem own_at {E : TypeId} {w : World} {A : Option Addr} {n c : Nat} {zs : List Int} {F : List Nat} (h : Own E w (.slice A n c) (ints zs) F) (hp : 0 < zs.length) : ∃ g, A = some ⟨g, 0, none⟩ ∧ F = [g] := by
  obtain ⟨g, h1, h2, _⟩ := h.read.2.2.2 0 (by rw [ints_length]; exact hp)
  exact ⟨g, h1, h2⟩
theorem own_cell {E : TypeId} {w : World} {g n c : Nat} {zs : List Int} {F : List Nat} (h : Own E w (.slice (some ⟨g, 0, none⟩) n c) (ints zs) F) (k : Nat) (hk : k < zs.length) : w.cell? ⟨g, k, none⟩ = some (.int .i64 (zs.getD k 0)) ∧ w.frozen? ⟨g, k, none⟩ = false := by
  obtain ⟨g', h1, _, _, h2, h3⟩ := h.read.2.2.2 k (by rw [ints_length]; exact hk)
  injection h1 with h1
  injection h1 with h1
  subst h1
  rw [ints_get _ _ hk] at h2
  exact ⟨h2, h3⟩

/-! copies -/

/-! stores -/

def dgt (m off N : Nat) (i : Nat) : Int := ((N / pw (m - 1 - (i - off)) % 256 : Nat) : Int)

end Go.Proofs.Ytnnmdikbcfefjaa
