/-
  What a granted page is: the plain facts behind the law FnGrants.
-/
import Derived.Test.YtdhocncfpapncacGrantS
import Derived.Test.YtdhocncfpapncacGenIn
import Derived.Test.YtdhocncfpapncacCarved
import Derived.Test.YtdhocncfpapncacUngr
import Derived.Test.YtdhocncfpapncacSetGen
import Derived.Test.YtdhocncfpapncacHeapOk
namespace Go.Proofs.Ytdhocncfpapncac
open Go.RowKit
set_option linter.unusedVariables false

theorem getD_set (l : List Int) (i j : Nat) (v : Int) (hi : i < l.length) : (l.set i v).getD j 0 = if i = j then v else l.getD j 0 := by
  by_cases e : i = j
  · subst e
    rw [if_pos rfl]
    simp [List.getD, hi]
  · rw [if_neg e]
    simp [List.getD, e]
theorem ldR_congr {a b : List Int} {off m : Nat} (h : ∀ j, off ≤ j → j < off + m → a.getD j 0 = b.getD j 0) : ldR a off m = ldR b off m := by
  induction m with
  | zero => rfl
  | succ m ih =>
    unfold ldR
    rw [ih (fun j h1 h2 => h j h1 (by omega)), h (off + m) (by omega) (by omega)]
theorem zrR_congr {a b : List Int} {off m : Nat} (h : ∀ j, off ≤ j → j < off + m → a.getD j 0 = b.getD j 0) : zrR a off m = zrR b off m := by
  induction m with
  | zero => rfl
  | succ m ih =>
    unfold zrR
    rw [ih (fun j h1 h2 => h j h1 (by omega)), h (off + m) (by omega) (by omega)]
theorem zrR_at {x : List Int} {off m : Nat} (h : zrR x off m = true) (k : Nat) (hk : k < m) : x.getD (off + k) 0 = 0 := by
  by_cases e : x.getD (off + k) 0 = 0
  · exact e
  · rw [zrR_bad hk e] at h; cases h
theorem zrR_all {x : List Int} {off m : Nat} (h : ∀ k, k < m → x.getD (off + k) 0 = 0) : zrR x off m = true := by
  induction m with
  | zero => rfl
  | succ m ih =>
    unfold zrR
    rw [ih (fun k hk => h k (by omega)), h m (by omega)]
    rfl
theorem gnR_all {x : List Int} {off s m : Nat} (h : ∀ k, k < m → vOk (ldR x (off + k * s) 4) = true) : gnR x off s m = true := by
  induction m with
  | zero => rfl
  | succ m ih =>
    unfold gnR
    rw [ih (fun k hk => h k (by omega)), h m (by omega)]
    rfl
theorem gnR_at {x : List Int} {off s m : Nat} (h : gnR x off s m = true) (k : Nat) (hk : k < m) : vOk (ldR x (off + k * s) 4) = true := by
  cases e : vOk (ldR x (off + k * s) 4)
  · rw [gnR_bad hk e] at h; cases h
  · rfl
/-- The page's slots lie in it. -/
theorem room {c : Int} {k : Nat} (hk : k < (perC c).toNat) : 8 + k * (strideC c).toNat + 4 ≤ 64 ∧ 4 ≤ (strideC c).toNat ∧ k < 4 ∧ 0 ≤ c ∧ c ≤ 2 := by
  rcases class_cases c with rfl | rfl | rfl | h | h
  · have : k < 4 := hk
    refine ⟨?_, by decide, this, by decide, by decide⟩
    show 8 + k * 12 + 4 ≤ 64
    omega
  · have : k < 2 := hk
    refine ⟨?_, by decide, by omega, by decide, by decide⟩
    show 8 + k * 20 + 4 ≤ 64
    omega
  · have : k < 1 := hk
    refine ⟨?_, by decide, by omega, by decide, by decide⟩
    show 8 + k * 44 + 4 ≤ 64
    omega
  · rw [perC_out (.inl h)] at hk; simp at hk
  · rw [perC_out (.inr h)] at hk; simp at hk
theorem pageC_congr {a b : List Int} {t : Nat} {c : Int} (h : ∀ j, t ≤ j → j < t + 64 → a.getD j 0 = b.getD j 0) : pageC a t c = pageC b t c := by
  unfold pageC
  rw [zrR_congr h, h t (by omega) (by omega), h (t + 1) (by omega) (by omega), h (t + 2) (by omega) (by omega), zrR_congr (a := a) (b := b) (off := t + 3) (m := 5) (fun j h1 h2 => h j (by omega) (by omega))]
  have e : ∀ m, m ≤ (perC c).toNat → gnR a (t + 8) (strideC c).toNat m = gnR b (t + 8) (strideC c).toNat m := by
    intro m
    induction m with
    | zero => intro _; rfl
    | succ m ih =>
      intro hm
      unfold gnR
      have hr := room (c := c) (k := m) (by omega)
      rw [ih (by omega), ldR_congr (a := a) (b := b) (fun j h1 h2 => h j (by omega) (by omega))]
  rw [e _ (Nat.le_refl _)]
theorem dgt0 (o v : Nat) (hv : v < 256) (r : Nat) (hr : r < 3) : dgt 4 o v (o + r) = 0 := by
  unfold dgt
  have h1 : o + r - o = r := by omega
  rw [h1]
  have h3 : 256 ≤ pw (4 - 1 - r) := by
    rcases (show r = 0 ∨ r = 1 ∨ r = 2 by omega) with rfl | rfl | rfl <;> decide
  rw [Nat.div_eq_of_lt (by omega)]
  rfl
theorem dgt3 (o v : Nat) (hv : v < 256) : dgt 4 o v (o + 3) = (v : Int) := by
  unfold dgt
  have h1 : o + 3 - o = 3 := by omega
  rw [h1]
  show ((v / 1 % 256 : Nat) : Int) = _
  rw [Nat.div_one, Nat.mod_eq_of_lt hv]
theorem dgt_bd (m o v i : Nat) : 0 ≤ dgt m o v i ∧ dgt m o v i ≤ 255 := by
  unfold dgt
  have := Nat.mod_lt (v / pw (m - 1 - (i - o))) (show 0 < 256 by decide)
  omega
theorem ldR_upd (x : List Int) (o v : Nat) (hv : v < 256) (ho : o + 4 ≤ x.length) : ldR (upd x o (o + 4) (dgt 4 o v)) o 4 = (v : Int) := by
  have g : ∀ r, r < 4 → (upd x o (o + 4) (dgt 4 o v)).getD (o + r) 0 = dgt 4 o v (o + r) := fun r hr => by
    rw [upd_get _ _ _ _ _ (by omega), if_pos (by omega)]
  simp only [ldR]
  rw [g 0 (by omega), g 1 (by omega), g 2 (by omega), g 3 (by omega), dgt0 o v hv 0 (by omega), dgt0 o v hv 1 (by omega), dgt0 o v hv 2 (by omega), dgt3 o v hv]
  omega
theorem upd_out (x : List Int) (lo hi : Nat) (f : Nat → Int) (j : Nat) (h : j < lo ∨ hi ≤ j) : (upd x lo hi f).getD j 0 = x.getD j 0 := by
  by_cases hj : j < x.length
  · rw [upd_get _ _ _ _ _ hj, if_neg (by omega)]
  · have h2 : ¬ j < (upd x lo hi f).length := by rw [upd_length]; exact hj
    simp [List.getD, hj, h2]
theorem hdR_get {x : List Int} {t : Nat} {c : Int} (ht : t + 64 ≤ x.length) (j : Nat) : (hdR x t c).getD j 0 = if t + 2 = j then perC c else if t + 1 = j then c else if t = j then 171 else x.getD j 0 := by
  unfold hdR
  rw [getD_set _ _ _ _ (by simp; omega), getD_set _ _ _ _ (by simp; omega), getD_set _ _ _ _ (by omega)]
theorem gbN_length2 (x : List Int) (t : Nat) (c : Int) (k : Nat) : (gbN x t c k).length = x.length := gbN_length x t c k
/-- Behind the head and outside the page nothing changes but the generations. -/
theorem gbN_out {x : List Int} {t : Nat} {c : Int} {k : Nat} (hk : k ≤ (perC c).toNat) {j : Nat} (hj : j < t + 8 ∨ t + 64 ≤ j) : (gbN x t c k).getD j 0 = (hdR x t c).getD j 0 := by
  induction k with
  | zero => rfl
  | succ k ih =>
    have hr := room (c := c) (k := k) (by omega)
    unfold gbN
    rw [upd_out _ _ _ _ _ (by omega)]
    exact ih (by omega)
theorem gbN_gen {x : List Int} {t : Nat} {c : Int} {k : Nat} (hk : k ≤ (perC c).toNat) (ht : t + 64 ≤ x.length) : ∀ i, i < k → ldR (gbN x t c k) (t + 8 + i * (strideC c).toNat) 4 = 1 := by
  induction k with
  | zero => intro i hi; omega
  | succ k ih =>
    intro i hi
    have hr := room (c := c) (k := k) (by omega)
    unfold gbN
    by_cases e : i = k
    · subst e
      exact ldR_upd _ _ 1 (by decide) (by rw [gbN_length]; omega)
    · have hm : (i + 1) * (strideC c).toNat ≤ k * (strideC c).toNat := Nat.mul_le_mul_right _ (by omega)
      rw [Nat.add_mul, Nat.one_mul] at hm
      rw [ldR_congr (b := gbN x t c k) (fun j h1 h2 => upd_out _ _ _ _ _ (by omega))]
      exact ih (by omega) i (by omega)
theorem bok_of {x : List Int} (hl : x.length = 384) (h : ∀ j, j < x.length → 0 ≤ x.getD j 0 ∧ x.getD j 0 ≤ 255) : bokR x = true := by
  unfold bokR
  rw [bok_good h, hl]
  decide
theorem bok_upd {x : List Int} (hl : x.length = 384) (h : bokR x = true) (lo hi m o v : Nat) : bokR (upd x lo hi (dgt m o v)) = true :=
  bok_of (by rw [upd_length]; exact hl) fun j hj => by
    rw [upd_length] at hj
    rw [upd_get _ _ _ _ _ hj]
    split
    · exact dgt_bd _ _ _ _
    · exact bok_byte h j hj
theorem bok_gb {x : List Int} (hl : x.length = 384) (h : bokR x = true) {t : Nat} {c : Int} (ht : t + 64 ≤ 384) (hc : 0 ≤ c ∧ c ≤ 2) (k : Nat) : bokR (gbN x t c k) = true := by
  induction k with
  | zero =>
    have hlen : (hdR x t c).length = 384 := by simp [hdR, hl]
    refine bok_of hlen fun j hj => ?_
    have hj : j < (hdR x t c).length := hj
    have hp := perC_bd c
    show 0 ≤ (hdR x t c).getD j 0 ∧ (hdR x t c).getD j 0 ≤ 255
    rw [hdR_get (by omega)]
    split
    · omega
    · split
      · omega
      · split
        · omega
        · exact bok_byte h j (by rw [hlen] at hj; omega)
  | succ k ih =>
    unfold gbN
    exact bok_upd (by rw [gbN_length]; exact hl) ih _ _ _ _ _
theorem all_cl {y : List Int} (h : ∀ j, j < y.length → -1 ≤ y.getD j 0 ∧ y.getD j 0 ≤ 2) : y.all isCl = true := by
  rw [List.all_eq_true]
  intro v hv
  obtain ⟨j, hj, rfl⟩ := List.getElem_of_mem hv
  have := h j hj
  have e : y.getD j 0 = y[j] := by simp [List.getD, hj]
  rw [e] at this
  unfold isCl
  exact decide_eq_true this
theorem shape_of {x y : List Int} (h1 : x.length = 384) (h2 : y.length = 6) (h3 : bokR x = true) (h4 : y.all isCl = true) : shapeR x y = true := by
  unfold shapeR
  simp [h1, h2, h3, h4]
theorem pgsR_all {x y : List Int} {m : Nat} (h : ∀ k, k < m → pageC x (k * 64) (y.getD k 0) = true) : pgsR x y m = true := by
  induction m with
  | zero => rfl
  | succ m ih =>
    unfold pgsR
    rw [ih (fun k hk => h k (by omega)), h m (by omega)]
    rfl
theorem pgsR_at {x y : List Int} {m : Nat} (h : pgsR x y m = true) (k : Nat) (hk : k < m) : pageC x (k * 64) (y.getD k 0) = true := by
  cases e : pageC x (k * 64) (y.getD k 0)
  · rw [pgsR_bad hk e] at h; cases h
  · rfl
theorem hok_parts {x y : List Int} (h : hokR x y = true) : shapeR x y = true ∧ ∀ k, k < 6 → pageC x (k * 64) (y.getD k 0) = true := by
  unfold hokR at h
  rw [Bool.and_eq_true] at h
  exact ⟨h.1, fun k hk => pgsR_at h.2 k hk⟩
/-- What is known of a heap that grants. -/
structure GO (x y : List Int) (c : Int) (p : Nat) : Prop where
  ok : hokR x y = true
  c0 : 0 ≤ c
  c2 : c ≤ 2
  hp : p < 6
  yp : y.getD p 0 = -1
theorem GO.lx {x y : List Int} {c : Int} {p : Nat} (h : GO x y c p) : x.length = 384 ∧ y.length = 6 ∧ bokR x = true ∧ y.all isCl = true := shape_parts (hok_parts h.ok).1
def GX (x : List Int) (c : Int) (p : Nat) : List Int := gbN x (p * 64) c (perC c).toNat
theorem GO.yget {x y : List Int} {c : Int} {p : Nat} (h : GO x y c p) (j : Nat) : (y.set p c).getD j 0 = if p = j then c else y.getD j 0 := getD_set _ _ _ _ (by rw [h.lx.2.1]; exact h.hp)
theorem GO.out {x y : List Int} {c : Int} {p : Nat} (h : GO x y c p) {j : Nat} (hj : j < p * 64 ∨ p * 64 + 64 ≤ j) : (GX x c p).getD j 0 = x.getD j 0 := by
  have hp := h.hp
  unfold GX
  rw [gbN_out (Nat.le_refl _) (by omega), hdR_get (by rw [h.lx.1]; omega), if_neg (by omega), if_neg (by omega), if_neg (by omega)]
theorem GO.shape {x y : List Int} {c : Int} {p : Nat} (h : GO x y c p) : shapeR (GX x c p) (y.set p c) = true := by
  obtain ⟨h1, h2, h3, h4⟩ := h.lx
  have hp := h.hp
  refine shape_of (by unfold GX; rw [gbN_length]; exact h1) (by simp [h2]) (bok_gb h1 h3 (by omega) ⟨h.c0, h.c2⟩ _) (all_cl fun j hj => ?_)
  rw [h.yget]
  have hc0 := h.c0
  have hc2 := h.c2
  split
  · omega
  · exact isCl_at h4 j (by simpa using hj)
theorem GO.per {x y : List Int} {c : Int} {p : Nat} (h : GO x y c p) : 1 ≤ (perC c).toNat ∧ (perC c).toNat ≤ 4 ∧ ((perC c).toNat : Int) = perC c := by
  have h0 := h.c0
  have h2 := h.c2
  rcases (show c = 0 ∨ c = 1 ∨ c = 2 by omega) with rfl | rfl | rfl <;> decide
theorem GO.page {x y : List Int} {c : Int} {p : Nat} (h : GO x y c p) : pageC (GX x c p) (p * 64) c = true := by
  obtain ⟨h1, h2, h3, h4⟩ := h.lx
  have hp := h.hp
  have hold := (hok_parts h.ok).2 p h.hp
  rw [h.yp] at hold
  unfold pageC at hold
  rw [if_pos (by decide)] at hold
  have hc0 := h.c0
  have g : ∀ j, j < p * 64 + 8 → (GX x c p).getD j 0 = if p * 64 + 2 = j then perC c else if p * 64 + 1 = j then c else if p * 64 = j then 171 else x.getD j 0 := fun j hj => by
    unfold GX
    rw [gbN_out (Nat.le_refl _) (by omega), hdR_get (by rw [h1]; omega)]
  unfold pageC
  rw [if_neg (by omega), g _ (by omega), g (p * 64 + 1) (by omega), g (p * 64 + 2) (by omega), if_neg (by omega), if_neg (by omega), if_pos rfl, if_neg (by omega), if_pos rfl, if_pos rfl, zrR_all (fun k hk => ?_), gnR_all (fun k hk => ?_)]
  · simp
  · unfold GX
    rw [gbN_gen (Nat.le_refl _) (by rw [h1]; omega) k hk]
    decide
  · rw [g _ (by omega), if_neg (by omega), if_neg (by omega), if_neg (by omega)]
    have := zrR_at hold (3 + k) (by omega)
    rw [← this]
    congr 1
    omega
theorem GO.hok {x y : List Int} {c : Int} {p : Nat} (h : GO x y c p) : hokR (GX x c p) (y.set p c) = true := by
  unfold hokR
  rw [h.shape, pgsR_all (fun k hk => ?_)]
  · rfl
  · rw [h.yget]
    by_cases e : p = k
    · subst e
      rw [if_pos rfl]
      exact h.page
    · rw [if_neg e, pageC_congr (b := x) (fun j h1 h2 => h.out (by omega))]
      exact (hok_parts h.ok).2 k hk
theorem cnt_set (y : List Int) (p : Nat) (c : Int) (hp : p < y.length) (hy : y.getD p 0 = -1) (hc : c ≠ -1) : ∀ k, cntN (y.set p c) k + (if p < k then 1 else 0) = cntN y k := by
  intro k
  induction k with
  | zero => simp [cntN]
  | succ k ih =>
    unfold cntN
    rw [getD_set _ _ _ _ hp]
    by_cases e : p = k
    · subst e
      rw [if_neg (by omega)] at ih
      rw [if_pos rfl, if_neg hc, hy, if_pos rfl, if_pos (by omega)]
      omega
    · rw [if_neg e]
      by_cases h : p < k
      · have a1 : (if p < k then 1 else 0) = 1 := if_pos h
        have a2 : (if p < k + 1 then 1 else 0) = 1 := if_pos (by omega)
        rw [a1] at ih
        rw [a2]
        omega
      · have a1 : (if p < k then 1 else 0) = 0 := if_neg h
        have a2 : (if p < k + 1 then 1 else 0) = 0 := if_neg (by omega)
        rw [a1] at ih
        rw [a2]
        omega
theorem cnt_zero {y : List Int} : ∀ {k : Nat}, cntN y k = 0 → frst y k = none := by
  intro k
  induction k with
  | zero => intro _; rfl
  | succ k ih =>
    intro h
    unfold cntN at h
    unfold frst
    split at h
    · omega
    · rename_i h2
      rw [ih (by omega), if_neg h2]
theorem cnt_pos {y : List Int} : ∀ {k : Nat}, 0 < cntN y k → ∃ p, p < k ∧ frst y k = some p ∧ y.getD p 0 = -1 := by
  intro k
  induction k with
  | zero => intro h; simp [cntN] at h
  | succ k ih =>
    intro h
    by_cases h0 : 0 < cntN y k
    · obtain ⟨p, h1, h2, h3⟩ := ih h0
      exact ⟨p, by omega, by unfold frst; rw [h2], h3⟩
    · unfold cntN at h
      split at h
      · rename_i h2
        exact ⟨k, by omega, by unfold frst; rw [cnt_zero (by omega), if_pos h2], h2⟩
      · omega
/-- How many slots of a page of a class are carved. -/
def perS (y : List Int) : Nat → Nat
  | 0 => 0
  | q + 1 => perS y q + (perC (y.getD q 0)).toNat
theorem cl_pos (y : List Int) (q r : Nat) (hq : q < 6) (hr : r < 4) : (0 ≤ clR y ((q * 4 + r : Nat) : Int)) ↔ (r : Int) < perC (y.getD q 0) := by
  have e1 : ((q * 4 + r : Nat) : Int) % 4 = r := by omega
  have e2 : (((q * 4 + r : Nat) : Int) / 4).toNat = q := by omega
  unfold clR
  rw [e1, e2]
  by_cases h : (r : Int) < perC (y.getD q 0)
  · rw [if_pos ⟨by omega, by omega, h⟩]
    refine ⟨fun _ => h, fun _ => ?_⟩
    rcases class_cases (y.getD q 0) with e | e | e | e | e
    · omega
    · omega
    · omega
    · rw [perC_out (.inl e)] at h; omega
    · omega
  · rw [if_neg (fun k => h k.2.2)]
    exact ⟨fun k => by omega, fun k => absurd k h⟩
theorem carv_page (y : List Int) (q : Nat) (hq : q < 6) : (carvN y (q * 4 + 4)).length = (carvN y (q * 4)).length + (perC (y.getD q 0)).toNat := by
  have st : ∀ r, r < 4 → (carvN y (q * 4 + r + 1)).length = (carvN y (q * 4 + r)).length + if (r : Int) < perC (y.getD q 0) then 1 else 0 := fun r hr => by
    show (carvN y (q * 4 + r) ++ if 0 ≤ clR y ((q * 4 + r : Nat) : Int) then [((q * 4 + r : Nat) : Int)] else []).length = _
    rw [List.length_append]
    by_cases h : (r : Int) < perC (y.getD q 0)
    · rw [if_pos h, if_pos ((cl_pos y q r hq hr).2 h)]; rfl
    · rw [if_neg h, if_neg (fun k => h ((cl_pos y q r hq hr).1 k))]; rfl
  have s0 := st 0 (by omega)
  have s1 := st 1 (by omega)
  have s2 := st 2 (by omega)
  have s3 := st 3 (by omega)
  have e4 : q * 4 + 4 = q * 4 + 3 + 1 := rfl
  have e0 : q * 4 + 0 = q * 4 := rfl
  rw [e4, s3]
  have t2 : (carvN y (q * 4 + 3)).length = _ := s2
  have t1 : (carvN y (q * 4 + 2)).length = _ := s1
  have t0 : (carvN y (q * 4 + 1)).length = _ := s0
  rw [t2, t1, t0]
  rcases class_cases (y.getD q 0) with e | e | e | e | e
  · rw [e]; rfl
  · rw [e]; rfl
  · rw [e]; rfl
  · rw [perC_out (.inl e)]; simp
  · rw [perC_out (.inr e)]; simp
theorem carv_len (y : List Int) : ∀ q, q ≤ 6 → (carvN y (q * 4)).length = perS y q := by
  intro q
  induction q with
  | zero => intro _; rfl
  | succ q ih =>
    intro h
    have e : (q + 1) * 4 = q * 4 + 4 := by omega
    rw [e, carv_page y q (by omega), ih (by omega)]
    rfl
theorem perS_set (y : List Int) (p : Nat) (c : Int) (hp : p < y.length) (hy : y.getD p 0 = -1) : ∀ k, perS (y.set p c) k = perS y k + if p < k then (perC c).toNat else 0 := by
  intro k
  induction k with
  | zero => simp [perS]
  | succ k ih =>
    simp only [perS]
    rw [getD_set _ _ _ _ hp, ih]
    by_cases e : p = k
    · subst e
      rw [if_pos rfl, hy, if_neg (by omega), if_pos (by omega), perC_out (c := -1) (.inl (by decide))]
      simp
    · rw [if_neg e]
      by_cases h : p < k
      · rw [if_pos h, if_pos (by omega)]; omega
      · rw [if_neg h, if_neg (by omega)]; rfl
theorem GO.carv {x y : List Int} {c : Int} {p : Nat} (h : GO x y c p) : (carvR (GX x c p) (y.set p c)).length = (carvR x y).length + (perC c).toNat := by
  obtain ⟨h1, h2, h3, h4⟩ := h.lx
  unfold carvR carvS
  rw [h.shape, (hok_parts h.ok).1, if_pos rfl, if_pos rfl]
  have a := carv_len (y.set p c) 6 (Nat.le_refl _)
  have b := carv_len y 6 (Nat.le_refl _)
  have d := perS_set y p c (by rw [h2]; exact h.hp) h.yp 6
  rw [if_pos h.hp] at d
  show (carvN (y.set p c) (6 * 4)).length = (carvN y (6 * 4)).length + _
  rw [a, b, d]
theorem GO.cnt {x y : List Int} {c : Int} {p : Nat} (h : GO x y c p) : cntN (y.set p c) 6 + 1 = cntN y 6 := by
  have := cnt_set y p c (by rw [h.lx.2.1]; exact h.hp) h.yp (by have := h.c0; omega) 6
  rw [if_pos h.hp] at this
  exact this
theorem pg_at {p i : Nat} (hp : p < 6) (hi : i < 4) : pgR ((p * 4 + i : Nat) : Int) = (p : Int) := by
  unfold pgR
  rw [if_pos (by omega)]
  omega
theorem GO.cls {x y : List Int} {c : Int} {p : Nat} (h : GO x y c p) {i : Nat} (hi : i < (perC c).toNat) : classAtR (GX x c p) (y.set p c) ((p * 4 + i : Nat) : Int) = c := by
  have hp := h.hp
  have hr := room hi
  have e1 : ((p * 4 + i : Nat) : Int) % 4 = i := by omega
  have e2 : (((p * 4 + i : Nat) : Int) / 4).toNat = p := by omega
  unfold classAtR clR
  rw [h.shape, if_pos rfl, e1, e2, h.yget, if_pos rfl, if_pos ⟨by omega, by omega, by omega⟩]
theorem GO.old {x y : List Int} {c : Int} {p : Nat} (h : GO x y c p) {i : Nat} (hi : i < 4) : classAtR x y ((p * 4 + i : Nat) : Int) = -1 := by
  have hp := h.hp
  have e1 : ((p * 4 + i : Nat) : Int) % 4 = i := by omega
  have e2 : (((p * 4 + i : Nat) : Int) / 4).toNat = p := by omega
  have e3 : perC (-1) = 0 := perC_out (.inl (by decide))
  unfold classAtR clR
  rw [(hok_parts h.ok).1, if_pos rfl, e1, e2, h.yp, e3, if_neg (by omega)]
theorem GO.gen {x y : List Int} {c : Int} {p : Nat} (h : GO x y c p) {i : Nat} (hi : i < (perC c).toNat) : genInR (GX x c p) (y.set p c) ((p * 4 + i : Nat) : Int) = 1 := by
  have hp := h.hp
  have hc0 := h.c0
  unfold genInR
  rw [h.cls hi, if_neg (by omega), (gen_at h.hp hi).1, Int.toNat_natCast]
  exact gbN_gen (Nat.le_refl _) (by rw [h.lx.1]; omega) i hi
/-- The first slot's generation set to three. -/
def ZX (x : List Int) (c : Int) (p : Nat) : List Int := upd (GX x c p) (p * 64 + 8) (p * 64 + 8 + 4) (dgt 4 (p * 64 + 8) 3)
theorem GO.set {x y : List Int} {c : Int} {p : Nat} (h : GO x y c p) : setOk (GX x c p) (y.set p c) ((p * 4 : Nat) : Int) 3 = true ∧ setR (GX x c p) (y.set p c) ((p * 4 : Nat) : Int) 3 = ZX x c p := by
  have hc0 := h.c0
  have hq := h.cls (i := 0) h.per.1
  have hg := (gen_at (c := c) h.hp (show 0 < (perC c).toNat from h.per.1)).1
  rw [Nat.zero_mul, Nat.add_zero, Nat.add_zero] at hg
  rw [Nat.add_zero] at hq
  have h1 : setOk (GX x c p) (y.set p c) ((p * 4 : Nat) : Int) 3 = true := by
    unfold setOk
    rw [hq]
    have : (decide (¬ c < 0)) = true := decide_eq_true (by omega)
    rw [this]
    rfl
  refine ⟨h1, ?_⟩
  unfold setR
  rw [if_pos h1, hq, hg, Int.toNat_natCast]
  rfl
theorem GO.zget {x y : List Int} {c : Int} {p : Nat} (h : GO x y c p) {j : Nat} (hj : j < p * 64 + 8 ∨ p * 64 + 12 ≤ j) : (ZX x c p).getD j 0 = (GX x c p).getD j 0 := by
  unfold ZX
  exact upd_out _ _ _ _ _ (by omega)
theorem GO.zlen {x y : List Int} {c : Int} {p : Nat} (h : GO x y c p) : (ZX x c p).length = 384 := by
  unfold ZX GX
  rw [upd_length, gbN_length]
  exact h.lx.1
theorem GO.zshape {x y : List Int} {c : Int} {p : Nat} (h : GO x y c p) : shapeR (ZX x c p) (y.set p c) = true := by
  obtain ⟨h1, h2, h3, h4⟩ := shape_parts h.shape
  exact shape_of h.zlen h2 (bok_upd h1 h3 _ _ _ _ _) h4
theorem GO.zld {x y : List Int} {c : Int} {p : Nat} (h : GO x y c p) : ldR (ZX x c p) (p * 64 + 8) 4 = 3 := by
  have hp := h.hp
  exact ldR_upd _ _ 3 (by decide) (by unfold GX; rw [gbN_length, h.lx.1]; omega)
theorem GO.zgen {x y : List Int} {c : Int} {p : Nat} (h : GO x y c p) : genInR (ZX x c p) (y.set p c) ((p * 4 : Nat) : Int) = 3 := by
  have hc0 := h.c0
  have hp := h.hp
  have hq : classAtR (ZX x c p) (y.set p c) ((p * 4 : Nat) : Int) = c := by
    have := h.cls (i := 0) h.per.1
    rw [Nat.add_zero] at this
    unfold classAtR at this ⊢
    rw [h.zshape]
    rw [h.shape] at this
    exact this
  have hg := (gen_at (c := c) h.hp (show 0 < (perC c).toNat from h.per.1)).1
  rw [Nat.zero_mul, Nat.add_zero, Nat.add_zero] at hg
  unfold genInR
  rw [hq, if_neg (by omega), hg, Int.toNat_natCast]
  exact h.zld
theorem GO.zhok {x y : List Int} {c : Int} {p : Nat} (h : GO x y c p) : hokR (ZX x c p) (y.set p c) = true := by
  have hp := h.hp
  have hc0 := h.c0
  unfold hokR
  rw [h.zshape, pgsR_all (fun k hk => ?_)]
  · rfl
  · have hold := (hok_parts h.hok).2 k hk
    by_cases e : p = k
    · subst e
      rw [h.yget, if_pos rfl] at hold ⊢
      unfold pageC at hold ⊢
      rw [if_neg (by omega)] at hold ⊢
      rw [h.zget (j := p * 64) (by omega), h.zget (j := p * 64 + 1) (by omega), h.zget (j := p * 64 + 2) (by omega), zrR_congr (b := GX x c p) (fun j h1 h2 => h.zget (by omega))]
      rw [Bool.and_eq_true] at hold ⊢
      refine ⟨hold.1, gnR_all fun i hi => ?_⟩
      by_cases e0 : i = 0
      · subst e0
        rw [Nat.zero_mul, Nat.add_zero, h.zld]
        decide
      · have hr := room hi
        have hm : 1 * (strideC c).toNat ≤ i * (strideC c).toNat := Nat.mul_le_mul_right _ (by omega)
        rw [Nat.one_mul] at hm
        rw [ldR_congr (b := GX x c p) (fun j h1 h2 => h.zget (by omega))]
        exact gnR_at hold.2 i hi
    · rw [pageC_congr (b := GX x c p) (fun j h1 h2 => h.zget (by omega))]
      exact hold
theorem gs_get (p : Nat) : ∀ k j, j < k → (gsN p k).getD j 0 = ((p * 4 + j : Nat) : Int) := by
  intro k
  induction k with
  | zero => intro j hj; omega
  | succ k ih =>
    intro j hj
    unfold gsN
    by_cases e : j = k
    · subst e
      rw [List.getD_eq_getElem?_getD, List.getElem?_append_right (by rw [gsN_length]; exact Nat.le_refl _), gsN_length, Nat.sub_self]
      rfl
    · rw [List.getD_eq_getElem?_getD, List.getElem?_append_left (by rw [gsN_length]; omega), ← List.getD_eq_getElem?_getD]
      exact ih j (by omega)
/-- The grant, told. -/
theorem GO.grant {x y : List Int} {c : Int} {p : Nat} (h : GO x y c p) (hf : frst y 6 = some p) : gX x y c = GX x c p ∧ gY x y c = y.set p c ∧ gS x y c = gsN p (perC c).toNat := by
  have hk : gOk x y c = true := by
    unfold gOk clsOk
    rw [h.ok]
    have : decide (0 ≤ c ∧ c ≤ 2) = true := decide_eq_true ⟨h.c0, h.c2⟩
    rw [this]
    rfl
  unfold gX gY gS grX grY grS
  rw [if_pos hk, if_pos hk, if_pos hk, hf]
  exact ⟨rfl, rfl, rfl⟩
theorem grant_no {x y : List Int} {c : Int} (h : hokR x y = false ∨ ¬ (0 ≤ c ∧ c ≤ 2) ∨ frst y 6 = none) : gX x y c = x ∧ gY x y c = y ∧ gS x y c = [] := by
  unfold gX gY gS
  by_cases hk : gOk x y c = true
  · rw [if_pos hk, if_pos hk, if_pos hk]
    unfold gOk clsOk at hk
    rw [Bool.and_eq_true, decide_eq_true_eq] at hk
    rcases h with h | h | h
    · rw [hk.1] at h; cases h
    · exact absurd hk.2 h
    · unfold grX grY grS
      rw [h]
      exact ⟨rfl, rfl, rfl⟩
  · rw [if_neg hk, if_neg hk, if_neg hk]
    exact ⟨rfl, rfl, rfl⟩
end Go.Proofs.Ytdhocncfpapncac
