/-
  What is given is on a list, and is what is taken next: plain facts about lists.
-/
import Derived.Test.YtdhocncfpapncabLDraw
import Derived.Test.YtdhocncfpapncabTake
import Derived.Test.YtdhocncfpapncabFreeOf
import Derived.Test.YtdhocncfpapncabSameLists
namespace Go.Proofs.Ytdhocncfpapncab
open Go.RowKit
set_option linter.unusedVariables false

theorem allN_add (z : List (List Int)) (i : Nat) (s : Int) (hi : i < z.length) : ∀ n, (allN (addZ z i s) n).Perm (allN z n ++ (if i < n then [s] else [])) := by
  intro n
  induction n with
  | zero => simp [allN]
  | succ n ih =>
    simp only [allN]
    by_cases e : n = i
    · subst e
      rw [if_neg (Nat.lt_irrefl _), List.append_nil] at ih
      rw [if_pos (Nat.lt_succ_self _), addZ_at z s hi, ← List.append_assoc]
      exact (ih.append_right _).append_right _
    · rw [addZ_ne z s e]
      by_cases h : i < n
      · rw [if_pos h] at ih
        rw [if_pos (by omega)]
        refine (ih.append_right _).trans ?_
        rw [List.append_assoc, List.append_assoc]
        exact List.Perm.append_left _ List.perm_append_comm
      · rw [if_neg h, List.append_nil] at ih
        rw [if_neg (by omega), List.append_nil]
        exact ih.append_right _
theorem allR_addZ (z y : List (List Int)) (i : Nat) (s : Int) (hi : i < z.length) : (allR (addZ z i s) y).Perm (allR z y ++ [s]) := by
  unfold allR
  rw [addZ_length]
  have h := allN_add z i s hi z.length
  rw [if_pos hi] at h
  refine (h.append_right _).trans ?_
  rw [List.append_assoc, List.append_assoc]
  exact List.Perm.append_left _ List.perm_append_comm
theorem allR_addY (z y : List (List Int)) (i : Nat) (s : Int) (hi : i < y.length) : (allR z (addZ y i s)).Perm (allR z y ++ [s]) := by
  unfold allR
  rw [addZ_length, List.append_assoc]
  have h := allN_add y i s hi y.length
  rw [if_pos hi] at h
  exact List.Perm.append_left _ h
theorem hasR_mem (z y : List (List Int)) (s : Int) : hasR z y s = true ↔ s ∈ allR z y := by
  rw [← allR_has, List.any_eq_true]
  constructor
  · rintro ⟨x, hx, e⟩; exact of_decide_eq_true e ▸ hx
  · intro h; exact ⟨s, h, decide_eq_true rfl⟩
theorem goodL_perm {L L' : List Int} (h : L.Perm L') : goodL L' = true → goodL L = true := by
  unfold goodL
  rw [Bool.and_eq_true, Bool.and_eq_true]
  rintro ⟨h1, h2⟩
  refine ⟨List.all_eq_true.2 fun x hx => List.all_eq_true.1 h1 x (h.mem_iff.1 hx), decide_eq_true (h.nodup_iff.2 (of_decide_eq_true h2))⟩
theorem goodL_add {L : List Int} {s : Int} (h : goodL L = true) (h1 : in23 s = true) (h2 : s ∉ L) : goodL (L ++ [s]) = true := by
  unfold goodL at h ⊢
  rw [Bool.and_eq_true] at h ⊢
  refine ⟨by rw [List.all_append, h.1]; simp [h1], decide_eq_true ?_⟩
  rw [List.nodup_append]
  exact ⟨of_decide_eq_true h.2, by simp, fun a ha b hb e => by simp only [List.mem_singleton] at hb; subst hb; subst e; exact h2 ha⟩
/-- What okGive says. -/
structure OG (z y : List (List Int)) (a c s : Int) (i j : Nat) : Prop where
  ea : a = (i : Int)
  ec : c = (j : Int)
  hi : i < 3
  hj : j < 3
  lz : z.length = 3
  ly : y.length = 9
  sh : shortL y = true
  gd : goodL (allR z y) = true
  hs : in23 s = true
  nm : s ∉ allR z y
theorem okGive_og {z y : List (List Int)} {a c s : Int} (h : okGive z y a c s = true) : ∃ i j : Nat, OG z y a c s i j := by
  unfold okGive at h
  simp only [Bool.and_eq_true, Bool.not_eq_true'] at h
  obtain ⟨⟨h1, h2, h3⟩, h4, h5⟩ := h
  obtain ⟨i, ea, hi⟩ := in02_nat h2
  obtain ⟨j, ec, hj⟩ := in02_nat h3
  unfold okR at h1
  simp only [Bool.and_eq_true, decide_eq_true_eq] at h1
  exact ⟨i, j, ea, ec, hi, hj, h1.1.1, h1.1.2, h1.2.1, h1.2.2, h4, fun hm => by rw [(hasR_mem z y s).2 hm] at h5; cases h5⟩
theorem mem_allN (z : List (List Int)) (j : Nat) (x : Int) (hx : x ∈ z.getD j []) : ∀ n, j < n → x ∈ allN z n := by
  intro n
  induction n with
  | zero => intro h; omega
  | succ n ih =>
    intro h
    simp only [allN]
    by_cases e : j = n
    · subst e; exact List.mem_append_right _ hx
    · exact List.mem_append_left _ (ih (by omega))
theorem lastR_mem (l : List Int) : lastR l = -1 ∨ lastR l ∈ l := by
  unfold lastR
  by_cases h : l.length = 0
  · rw [if_pos h]; exact .inl rfl
  · rw [if_neg h]
    refine .inr ?_
    rw [getD_at (by omega)]
    exact List.getElem_mem _
theorem lastR_app (l : List Int) (s : Int) : lastR (l ++ [s]) = s := by
  unfold lastR
  rw [if_neg (by simp)]
  simp [List.getD]
theorem dropL_app (l : List Int) (s : Int) : dropL (l ++ [s]) = l := by
  unfold dropL
  simp
theorem takeZ_addZ (z : List (List Int)) (i : Nat) (s : Int) (hi : i < z.length) : takeZ (addZ z i s) i = z := by
  unfold takeZ
  rw [addZ_at z s hi, dropL_app]
  unfold addZ
  rw [List.set_set]
  have e : z.getD i [] = z[i] := by simp [List.getD, hi]
  rw [e]
  exact List.set_getElem_self hi
theorem shortL_le {y : List (List Int)} (h : shortL y = true) (j : Nat) : (y.getD j []).length ≤ 2 := by
  by_cases hj : j < y.length
  · have e : y.getD j [] = y[j] := by simp [List.getD, hj]
    rw [e]
    exact of_decide_eq_true (List.all_eq_true.1 h _ (List.getElem_mem _))
  · have e : y.getD j [] = [] := by simp [List.getD, hj]
    rw [e]; exact Nat.zero_le _
theorem OG.q {z y : List (List Int)} {a c s : Int} {i j : Nat} (h : OG z y a c s i j) : (a * 3 + c).toNat = i * 3 + j ∧ c.toNat = j := by
  have := h.ea; have := h.ec; omega
theorem OG.in1 {z y : List (List Int)} {a c s : Int} {i j : Nat} (h : OG z y a c s i j) : in02 a = true ∧ in02 c = true := ⟨h.ea ▸ nat_in02 h.hi, h.ec ▸ nat_in02 h.hj⟩
theorem OG.okOld {z y : List (List Int)} {a c s : Int} {i j : Nat} (h : OG z y a c s i j) : okR z y = true := by
  unfold okR
  simp only [Bool.and_eq_true, decide_eq_true_eq]
  exact ⟨⟨h.lz, h.ly⟩, h.sh, h.gd⟩
theorem OG.perm {z y : List (List Int)} {a c s : Int} {i j : Nat} (h : OG z y a c s i j) : (allR (givZ z y (i * 3 + j) j s) (givY z y (i * 3 + j) j s)).Perm (allR z y ++ [s]) := by
  have := h.hi; have := h.hj; have := h.lz; have := h.ly
  unfold givZ givY
  split
  · exact allR_addY z y _ s (by omega)
  · exact allR_addZ z y _ s (by omega)
theorem OG.okNew {z y : List (List Int)} {a c s : Int} {i j : Nat} (h : OG z y a c s i j) : okR (givZ z y (i * 3 + j) j s) (givY z y (i * 3 + j) j s) = true := by
  have hi := h.hi; have hj := h.hj; have lz := h.lz; have ly := h.ly
  unfold okR
  simp only [Bool.and_eq_true, decide_eq_true_eq]
  refine ⟨⟨?_, ?_⟩, ?_, goodL_perm h.perm (goodL_add h.gd h.hs h.nm)⟩
  · unfold givZ; split
    · exact lz
    · rw [addZ_length]; exact lz
  · unfold givY; split
    · rw [addZ_length]; exact ly
    · exact ly
  · unfold givY
    split
    · rename_i h2
      refine shortP_yes fun k hk => ?_
      have h3 := addZ_le y (i * 3 + j) s k
      have h4 := shortL_le h.sh k
      by_cases e : k = i * 3 + j
      · subst e; rw [if_pos rfl] at h3; omega
      · rw [if_neg e] at h3; omega
    · exact h.sh
theorem OG.has {z y : List (List Int)} {a c s : Int} {i j : Nat} (h : OG z y a c s i j) : hasR (givZ z y (i * 3 + j) j s) (givY z y (i * 3 + j) j s) s = true :=
  (hasR_mem _ _ _).2 (h.perm.mem_iff.2 (by simp))
theorem OG.free {z y : List (List Int)} {a c s : Int} {i j : Nat} (h : OG z y a c s i j) : freeR (givZ z y (i * 3 + j) j s) (givY z y (i * 3 + j) j s) c = freeR z y c + 1 := by
  have hi := h.hi; have hj := h.hj; have lz := h.lz; have ly := h.ly
  have hq := h.q.2
  unfold freeR
  rw [if_pos ⟨h.okNew, h.in1.2⟩, if_pos ⟨h.okOld, h.in1.2⟩, hq]
  unfold givZ givY
  by_cases h2 : (y.getD (i * 3 + j) []).length < 2
  · rw [if_pos h2, if_pos h2]
    have hc : cntY (addZ y (i * 3 + j) s) j 3 = cntY y j 3 + 1 := by
      simp only [cntY]
      have e : ∀ k, ((addZ y (i * 3 + j) s).getD (k * 3 + j) []).length = (y.getD (k * 3 + j) []).length + (if k = i then 1 else 0) := fun k => by
        by_cases e : k = i
        · subst e; rw [addZ_at y s (by omega), if_pos rfl]; simp
        · rw [addZ_ne y s (by omega), if_neg e]; rfl
      rw [e, e, e]
      have : i = 0 ∨ i = 1 ∨ i = 2 := by omega
      rcases this with rfl | rfl | rfl <;> simp <;> omega
    rw [hc]; omega
  · rw [if_neg h2, if_neg h2, addZ_at z s (by omega)]
    simp only [List.length_append, List.length_cons, List.length_nil]
    omega
theorem OG.ne_last {z y : List (List Int)} {a c s : Int} {i j : Nat} (h : OG z y a c s i j) (l : List Int) (hl : ∀ x, x ∈ l → x ∈ allR z y) : ¬ lastR l = s := by
  have hs := of_decide_eq_true h.hs
  intro e
  rcases lastR_mem l with h1 | h1
  · omega
  · exact h.nm (hl _ (e ▸ h1))
/-- Onto the worker's own list. -/
theorem OG.own {z y : List (List Int)} {a c s : Int} {i j : Nat} (h : OG z y a c s i j) (h2 : (y.getD (i * 3 + j) []).length < 2) (z' y' : List (List Int)) (ez : z' = givZ z y (i * 3 + j) j s) (ey : y' = givY z y (i * 3 + j) j s) :
    z' = z ∧ ownY z' y' a c = y ∧ ownS z' y' a c = s ∧ ¬ globS z' y' c = s := by
  have hi := h.hi; have hj := h.hj; have lz := h.lz; have ly := h.ly
  have ok := h.okNew
  rw [← ez, ← ey] at ok
  have ez2 : z' = z := by rw [ez]; unfold givZ; rw [if_pos h2]
  have ey2 : y' = addZ y (i * 3 + j) s := by rw [ey]; unfold givY; rw [if_pos h2]
  obtain ⟨hq1, hq2⟩ := h.q
  have hok : okOwn z' y' a c = true := by unfold okOwn; rw [ok, h.in1.1, h.in1.2]; rfl
  have hog : okGlob z' y' c = true := by unfold okGlob; rw [ok, h.in1.2]; rfl
  refine ⟨ez2, ?_, ?_, ?_⟩
  · unfold ownY; rw [if_pos hok, hq1, ey2]; exact takeZ_addZ y _ s (by omega)
  · unfold ownS; rw [if_pos hok, hq1, ey2, addZ_at y s (by omega)]; exact lastR_app _ _
  · unfold globS; rw [if_pos hog, hq2, ez2]
    exact h.ne_last _ fun x hx => List.mem_append_left _ (mem_allN z j x hx _ (by omega))
/-- Onto the global list. -/
theorem OG.glob {z y : List (List Int)} {a c s : Int} {i j : Nat} (h : OG z y a c s i j) (h2 : ¬ (y.getD (i * 3 + j) []).length < 2) (z' y' : List (List Int)) (ez : z' = givZ z y (i * 3 + j) j s) (ey : y' = givY z y (i * 3 + j) j s) :
    y' = y ∧ globZ z' y' c = z ∧ globS z' y' c = s ∧ ¬ ownS z' y' a c = s := by
  have hi := h.hi; have hj := h.hj; have lz := h.lz; have ly := h.ly
  have ok := h.okNew
  rw [← ez, ← ey] at ok
  have ey2 : y' = y := by rw [ey]; unfold givY; rw [if_neg h2]
  have ez2 : z' = addZ z j s := by rw [ez]; unfold givZ; rw [if_neg h2]
  obtain ⟨hq1, hq2⟩ := h.q
  have hok : okOwn z' y' a c = true := by unfold okOwn; rw [ok, h.in1.1, h.in1.2]; rfl
  have hog : okGlob z' y' c = true := by unfold okGlob; rw [ok, h.in1.2]; rfl
  refine ⟨ey2, ?_, ?_, ?_⟩
  · unfold globZ; rw [if_pos hog, hq2, ez2]; exact takeZ_addZ z _ s (by omega)
  · unfold globS; rw [if_pos hog, hq2, ez2, addZ_at z s (by omega)]; exact lastR_app _ _
  · unfold ownS; rw [if_pos hok, hq1, ey2]
    exact h.ne_last _ fun x hx => List.mem_append_right _ (mem_allN y _ x hx _ (by omega))
theorem sameR_refl (z y : List (List Int)) : sameR z y z y = true := by simp [sameR, sameL]
end Go.Proofs.Ytdhocncfpapncab
