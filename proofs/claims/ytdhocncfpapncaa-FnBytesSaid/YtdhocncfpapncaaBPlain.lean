/-
  What is stored is loaded, and nothing else changes: plain facts about rows of bytes.
-/
import Derived.Test.YtdhocncfpapncaaFill
namespace Go.Proofs.Ytdhocncfpapncaa
open Go.RowKit
set_option linter.unusedVariables false

theorem ldR_upd (zs : List Int) (off m N : Nat) (hN : N < pw m) (hom : off + m ≤ zs.length) : ∀ k, k ≤ m → ldR (upd zs off (off + m) (dgt m off N)) off k = ((N / pw (m - k) : Nat) : Int) := by
  intro k
  induction k with
  | zero => intro _; rw [Nat.sub_zero, Nat.div_eq_of_lt hN]; rfl
  | succ k ih =>
    intro hk
    simp only [ldR]
    rw [ih (by omega), upd_get _ _ _ _ _ (by omega), if_pos (by omega)]
    unfold dgt
    have e1 : m - 1 - (off + k - off) = m - (k + 1) := by omega
    have e2 : m - k = (m - (k + 1)) + 1 := by omega
    rw [e1, e2, ← div_pw' N (m - (k + 1))]
    omega
/-- What a store that went through says. -/
structure OS (zs : List Int) (x y v : Int) (i m N : Nat) : Prop where
  ex : x = (i : Int)
  ey : y = (m : Int)
  ev : v = (N : Int)
  bk : bokR zs = true
  h1 : 1 ≤ m
  h7 : m ≤ 7
  hm : i + m ≤ zs.length
  hN : N < pw m
theorem okS_os {zs : List Int} {x y v : Int} (h : okS zs x y v = true) : ∃ i m N : Nat, OS zs x y v i m N := by
  unfold okS at h
  rw [Bool.and_eq_true] at h
  obtain ⟨h1, h2⟩ := h
  obtain ⟨a1, a2, a3, a4, a5, a6⟩ := okL_parts rfl h1
  obtain ⟨b1, b2, b3, b4⟩ := of_decide_eq_true h2
  exact ⟨x.toNat, y.toNat, v.toNat, by omega, by omega, by omega, a1, by omega, by omega, by omega, by omega⟩
theorem OS.st {zs : List Int} {x y v : Int} {i m N : Nat} (h : OS zs x y v i m N) (hk : okS zs x y v = true) : storeR zs x y v = upd zs i (i + m) (dgt m i N) := by
  have := h.ex; have := h.ey; have := h.ev
  have e1 : x.toNat = i := by omega
  have e2 : y.toNat = m := by omega
  have e3 : v.toNat = N := by omega
  unfold storeR
  rw [if_pos hk, e1, e2, e3]
theorem okL_of {zs : List Int} {i m : Nat} (hb : bokR zs = true) (h1 : 1 ≤ m) (h7 : m ≤ 7) (hm : i + m ≤ zs.length) : okL zs (i : Int) (m : Int) = true := by
  unfold okL wdR inR
  simp only [Bool.and_eq_true, decide_eq_true_eq]
  exact ⟨⟨hb, by omega, by omega⟩, by omega, by omega, by omega⟩
theorem OS.bk2 {zs : List Int} {x y v : Int} {i m N : Nat} (h : OS zs x y v i m N) : bokR (upd zs i (i + m) (dgt m i N)) = true := by
  have hb := h.bk
  have hl : zs.length ≤ 1000 := by
    have h2 := hb
    unfold bokR at h2
    rw [Bool.and_eq_true] at h2
    exact of_decide_eq_true h2.2
  unfold bokR
  rw [Bool.and_eq_true]
  refine ⟨bok_good fun j hj => ?_, decide_eq_true (by rw [upd_length]; exact hl)⟩
  rw [upd_length] at hj
  rw [upd_get _ _ _ _ _ hj]
  split
  · unfold dgt
    omega
  · exact bok_byte hb j hj
theorem OS.okl {zs : List Int} {x y v : Int} {i m N : Nat} (h : OS zs x y v i m N) : okL zs x y = true := by
  rw [h.ex, h.ey]; exact okL_of h.bk h.h1 h.h7 h.hm
theorem OS.load {zs : List Int} {x y v : Int} {i m N : Nat} (h : OS zs x y v i m N) (hk : okS zs x y v = true) : okL (storeR zs x y v) x y = true ∧ loadR (storeR zs x y v) x y = v := by
  have ok : okL (storeR zs x y v) x y = true := by
    rw [h.st hk, h.ex, h.ey]
    exact okL_of h.bk2 h.h1 h.h7 (by rw [upd_length]; exact h.hm)
  refine ⟨ok, ?_⟩
  unfold loadR
  rw [if_pos ok, h.st hk]
  have := h.ex; have := h.ey
  have e1 : x.toNat = i := by omega
  have e2 : y.toNat = m := by omega
  rw [e1, e2, ldR_upd zs i m N h.hN h.hm m (Nat.le_refl _), Nat.sub_self, h.ev]
  simp [pw]
theorem OS.out {zs : List Int} {x y v : Int} {i m N : Nat} (h : OS zs x y v i m N) (hk : okS zs x y v = true) {j : Nat} (hj : j < zs.length) (ho : ¬ (i ≤ j ∧ j < i + m)) : (storeR zs x y v).getD j 0 = zs.getD j 0 := by
  rw [h.st hk, upd_get _ _ _ _ _ hj, if_neg ho]
theorem OS.cas {zs : List Int} {x y v : Int} {i m N : Nat} (h : OS zs x y v i m N) (hk : okS zs x y v = true) : casR zs x y (loadR zs x y) v = storeR zs x y v ∧ okC zs x y (loadR zs x y) v = true ∧ casR zs x y (loadR zs x y + 1) v = zs ∧ okC zs x y (loadR zs x y + 1) v = false := by
  have h1 : hitC zs x y (loadR zs x y) = true := by unfold hitC; rw [h.okl]; simp
  have h2 : hitC zs x y (loadR zs x y + 1) = false := by
    unfold hitC
    rw [h.okl, Bool.true_and]
    exact decide_eq_false (by omega)
  refine ⟨?_, ?_, ?_, ?_⟩
  · unfold casR; rw [if_pos h1]
  · unfold okC; rw [h1, hk]; rfl
  · unfold casR; rw [h2]; rfl
  · unfold okC; rw [h2]; rfl
theorem OS.lb {zs : List Int} {x y v : Int} {i m N : Nat} (h : OS zs x y v i m N) : 0 ≤ loadR zs x y ∧ loadR zs x y < 72057594037927936 := by
  have := h.ex; have := h.ey
  have e1 : x.toNat = i := by omega
  have e2 : y.toNat = m := by omega
  unfold loadR
  rw [if_pos h.okl, e1, e2]
  have h1 := ldR_bd h.bk i m h.hm
  have h2 : (256 : Int) ^ m ≤ 72057594037927936 := by
    have h1 := h.h1; have h7 := h.h7
    have : m = 1 ∨ m = 2 ∨ m = 3 ∨ m = 4 ∨ m = 5 ∨ m = 6 ∨ m = 7 := by omega
    rcases this with rfl | rfl | rfl | rfl | rfl | rfl | rfl <;> decide
  omega
end Go.Proofs.Ytdhocncfpapncaa
