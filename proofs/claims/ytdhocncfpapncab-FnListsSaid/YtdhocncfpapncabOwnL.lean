/-
  Copies of lists: the reference's l8Copy (both sides' rows).
-/
import Derived.Test.YtdhocncfpapncabOwnC
namespace Go.Proofs.Ytdhocncfpapncab
open Go.RowKit
set_option linter.unusedVariables false

/-- Lists that a function has made: two slices of rows, in blocks that the world w did not have, apart from each other. -/
def LRes (full : Bool) (w w' : World) (v : Value) (z y : List (List Int)) : Prop :=
  ∃ C k D m a b c d, v = .agg #[.slice C z.length k, .slice D y.length m] ∧ OwnM full w' (.slice C z.length k) z a b ∧ OwnM full w' (.slice D y.length m) y c d ∧
    w.heap.size ≤ a ∧ b ≤ w'.heap.size ∧ w.heap.size ≤ c ∧ d ≤ w'.heap.size ∧ (b ≤ c ∨ d ≤ a) ∧ Below w.heap.size w w'
theorem bel_of {w0 w1 w2 : World} (h : Below w0.heap.size w0 w1) (k : Below w1.heap.size w1 w2) : Below w0.heap.size w0 w2 := h.trans (k.mono h.size)
set_option maxRecDepth 100000 in
set_option maxHeartbeats 3200000 in
theorem l8Copy_any (A A' : Option Addr) (n c n' c' : Nat) (z y : List (List Int)) (w : World) (hn : n = z.length) (hn' : n' = y.length) (hm : n + sumL z n + n' + sumL y n' ≤ 1048576) (ha : RdM w A z w.heap.size) (ha' : RdM w A' y w.heap.size) :
    Calls Try.prog 25 #[.agg #[.slice A n c, .slice A' n' c']] w fun e w' => ∃ v, e = .returned v ∧ LRes true w w' v z y := by
  have HN := hide hn
  have HN' := hide hn'
  have HA := hide ha
  have HA' := hide ha'
  have HS : Hid (∀ j, j < z.length → (z.getD j []).length ≤ 1048576) := hide (fun j hj => by have := len_le z n j (by omega); omega)
  have HS' : Hid (∀ j, j < y.length → (y.getD j []).length ≤ 1048576) := hide (fun j hj => by have := len_le y n' j (by omega); omega)
  have hm1 : n ≤ 1048576 := by omega
  have hm2 : n' ≤ 1048576 := by omega
  clear hn hn' ha ha' hm
  go_enter Try.func25, Try.ntmps25
  go_wp2_with fail
  obtain ⟨w1, hW⟩ : ∃ W : World, W = (w.alloc (.cells #[.slice A n c, .slice A' n' c'] 26)).alloc (.cells #[.slice none 0 0, .slice none 0 0] 26) := ⟨_, rfl⟩
  rw [← hW]
  have HB1 : Hid (Below w.heap.size w w1) := hide (by rw [hW]; exact ((Below.refl _ _).alloc (Nat.le_refl _) _).alloc (by simp) _)
  have b0 : w1.cell? ⟨w.heap.size, 0, none⟩ = some (.slice A n c) := by rw [hW]; go_simp
  have b1 : w1.cell? ⟨w.heap.size, 1, none⟩ = some (.slice A' n' c') := by rw [hW]; go_simp
  have r0 : w1.cell? ⟨w.heap.size + 1, 0, none⟩ = some (.slice none 0 0) := by rw [hW]; go_simp
  have r1 : w1.cell? ⟨w.heap.size + 1, 1, none⟩ = some (.slice none 0 0) := by rw [hW]; go_simp
  have f0 : w1.frozen? ⟨w.heap.size + 1, 0, none⟩ = false := by rw [hW]; go_simp
  have f1 : w1.frozen? ⟨w.heap.size + 1, 1, none⟩ = false := by rw [hW]; go_simp
  have t0 : w.heap.size < w1.heap.size := by rw [hW]; simp <;> omega
  have t1 : w.heap.size + 1 < w1.heap.size := by rw [hW]; simp <;> omega
  clear hW
  have HA1 := hide (rdM_at HA.out HB1.out)
  have HA1' := hide (rdM_at HA'.out HB1.out)
  go_region_with (go_at_call 44; refine (l8Rows_any _ _ _ _ _ (by first | exact HN.out | exact HN'.out) (by omega) (by first | exact HS.out | exact HS'.out) (by first | exact rdM_at HA1.out (by first | assumption | exact (Below.refl _ _).drew | exact Below.refl _ _) | exact rdM_at HA1'.out (by first | assumption | exact (Below.refl _ _).drew | exact Below.refl _ _))).mono ?_; rintro e w' ⟨B, d, rfl, ho, hb⟩; have hc := bel_of (show Below w1.heap.size w1 _ by first | assumption | exact (Below.refl _ _).drew | exact Below.refl _ _) hb; have c0 : w'.cell? ⟨w.heap.size, 0, none⟩ = some (.slice A n c) := (hc.cell t0).trans b0; have c1 : w'.cell? ⟨w.heap.size, 1, none⟩ = some (.slice A' n' c') := (hc.cell t0).trans b1; have c2 : w'.cell? ⟨w.heap.size + 1, 0, none⟩ = some (.slice none 0 0) := (hc.cell t1).trans r0; have c3 : w'.cell? ⟨w.heap.size + 1, 1, none⟩ = some (.slice none 0 0) := (hc.cell t1).trans r1; have c4 : w'.frozen? ⟨w.heap.size + 1, 0, none⟩ = false := (hc.frozen t1).trans f0; have c5 : w'.frozen? ⟨w.heap.size + 1, 1, none⟩ = false := (hc.frozen t1).trans f1)
  all_goals
    rename_i w2 B1 d1 ho1 hb1 hc1 e0 e1 e2 e3 e4 e5
    have hd1 : w1.drew.heap.size = w1.heap.size := rfl
    have hO1 := ho1.below hb
    have z1 := hb1.size
    have z2 := hb.size
    have hd2 : w2.drew.heap.size = w2.heap.size := rfl
    have ht : Touch [w.heap.size + 1] w' ((w'.setCell ⟨w.heap.size + 1, 0, none⟩ (.slice B1 z.length d1)).setCell ⟨w.heap.size + 1, 1, none⟩ (.slice B y.length d)) := ((Touch.refl _ _).setCell (by simp) _).setCell (by simp) _
    have hfin : LRes true w ((w'.setCell ⟨w.heap.size + 1, 0, none⟩ (.slice B1 z.length d1)).setCell ⟨w.heap.size + 1, 1, none⟩ (.slice B y.length d)) (.agg #[.slice B1 z.length d1, .slice B y.length d]) z y := by
      refine ⟨B1, d1, B, d, _, _, _, _, rfl, hO1.touch ht (fun g hg hg' => ?_), ho.touch ht (fun g hg hg' => ?_), ?_, Nat.le_trans z2 ht.size, ?_, ht.size, .inl (Nat.le_refl _), Below.touch (HB1.out.trans (hc.mono HB1.out.size)) ht (by simp <;> omega) (HB1.out.trans (hc.mono HB1.out.size)).size⟩
      · simp at hg; omega
      · simp at hg; omega
      · omega
      · omega
    have HFIN := hide hfin
    clear hfin ht hO1 hd1 ho1 ho hb1 hb z1 z2 hd2
    go_wp2
    exact bodyPost_ret (v := .agg #[.slice B1 z.length d1, .slice B y.length d]) (by simp [results, Try.results25, go_sem, c2, c3]) rfl ⟨_, rfl, HFIN.out⟩
end Go.Proofs.Ytdhocncfpapncab
