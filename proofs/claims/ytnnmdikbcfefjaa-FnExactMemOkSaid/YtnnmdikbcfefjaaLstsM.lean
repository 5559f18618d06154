/-
  The laws' words over Lists: copies, comparison.
-/
import Derived.Test.YtnnmdikbcfefjaaLstM
namespace Go.Proofs.Ytnnmdikbcfefjaa
open Go.RowKit
set_option linter.unusedVariables false

theorem len_le (z : List (List Int)) (n j : Nat) (h : j < n) : (z.getD j []).length ≤ sumL z n := by
  have := sumL_le z (show j + 1 ≤ n by omega)
  simp only [sumL] at this
  omega
theorem ret_agg {a b : Value} (h : a = b) : Ending.returned a = .returned b := by rw [h]
def TwoRes (w w' : World) (e : Ending) (z z' : List (List Int)) : Prop :=
  ∃ g g' G G', e = .returned (.agg #[.slice (some ⟨g, 0, none⟩) z.length z.length, .slice (some ⟨g', 0, none⟩) z'.length z'.length]) ∧ OwnL w' g z G ∧ OwnL w' g' z' G' ∧ w.heap.size ≤ g ∧ g < g' ∧ (∀ j, j < z.length → G j < g') ∧ g' < w'.heap.size ∧ Below w.heap.size w w'
set_option maxRecDepth 100000 in
set_option maxHeartbeats 1600000 in
theorem toLists_own (A A' : Option Addr) (n c n' c' : Nat) (z z' : List (List Int)) (w : World) (hn : n = z.length) (hn' : n' = z'.length) (hm : n ≤ 1048576) (hm' : n' ≤ 1048576) (hs : ∀ j, j < z.length → (z.getD j []).length ≤ 1048576) (hs' : ∀ j, j < z'.length → (z'.getD j []).length ≤ 1048576)
    (ha : RdL w A z w.heap.size) (ha' : RdL w A' z' w.heap.size) :
    Calls Try.prog 16 #[.agg #[.slice A n c, .slice A' n' c']] w fun e w' => TwoRes w w' e z z' := by
  have HN := hide hn
  have HN' := hide hn'
  have HM := hide hm
  have HM' := hide hm'
  have HS := hide hs
  have HS' := hide hs'
  have HA := hide ha
  have HA' := hide ha'
  clear hn hn' ha ha' hm hm' hs hs'
  have HC1 : Hid (∀ W : World, RdL W A z W.heap.size → Calls Try.prog 32 #[.slice A n c] W fun e w' => ToRes W w' e z) := hide (fun W h => by rw [HN.out]; exact toSListS_any A c z W (by rw [← HN.out]; exact HM.out) HS.out h)
  have HC2 : Hid (∀ W : World, RdL W A' z' W.heap.size → Calls Try.prog 32 #[.slice A' n' c'] W fun e w' => ToRes W w' e z') := hide (fun W h => by rw [HN'.out]; exact toSListS_any A' c' z' W (by rw [← HN'.out]; exact HM'.out) HS'.out h)
  go_enter Try.func16, Try.ntmps16
  go_wp2_with fail
  have hb0 : Below w.heap.size w (((w.alloc (.cells #[.slice A n c, .slice A' n' c'] 27)).alloc (.cells #[.slice none 0 0, .slice none 0 0] 35)).alloc (.cells #[.slice none 0 0, .slice none 0 0] 35)) := (((Below.refl _ _).alloc (Nat.le_refl _) _).alloc (by simp) _).alloc (by simp <;> omega) _
  refine (HC1.out _ (rdL_at HA.out hb0)).mono ?_
  rintro e w1 ⟨g, G, rfl, ho, hg, hg1, hb1⟩
  have k1 : w1.cell? ⟨w.heap.size, 1, none⟩ = some (.slice A' n' c') := by rw [hb1.cell (by simp <;> omega)]; go_simp
  have k2 : w1.cell? ⟨w.heap.size + 1 + 1, 0, none⟩ = some (.slice none 0 0) := by rw [hb1.cell (by simp <;> omega)]; go_simp
  have k3 : w1.cell? ⟨w.heap.size + 1 + 1, 1, none⟩ = some (.slice none 0 0) := by rw [hb1.cell (by simp <;> omega)]; go_simp
  have k4 : w1.cell? ⟨w.heap.size + 1, 0, none⟩ = some (.slice none 0 0) := by rw [hb1.cell (by simp <;> omega)]; go_simp
  have k5 : w1.cell? ⟨w.heap.size + 1, 1, none⟩ = some (.slice none 0 0) := by rw [hb1.cell (by simp <;> omega)]; go_simp
  have f2 : w1.frozen? ⟨w.heap.size + 1 + 1, 0, none⟩ = false := by rw [hb1.frozen (by simp <;> omega)]; go_simp
  have f3 : w1.frozen? ⟨w.heap.size + 1 + 1, 1, none⟩ = false := by rw [hb1.frozen (by simp <;> omega)]; go_simp
  have f4 : w1.frozen? ⟨w.heap.size + 1, 0, none⟩ = false := by rw [hb1.frozen (by simp <;> omega)]; go_simp
  have f5 : w1.frozen? ⟨w.heap.size + 1, 1, none⟩ = false := by rw [hb1.frozen (by simp <;> omega)]; go_simp
  have hs1 : w.heap.size + 3 ≤ g := by simp at hg; omega
  have HB1 := hide (hb0.trans (hb1.mono hb0.size))
  have HO := hide ho
  clear hb0 hb1 hg ho
  go_wp2_with fail
  have hb1 : Below w.heap.size w (w1.setCell ⟨w.heap.size + 1 + 1, 0, none⟩ (.slice (some ⟨g, 0, none⟩) z.length z.length)) := HB1.out.setCell (by simp <;> omega) _
  have ht1 : Touch [w.heap.size + 1 + 1] w1 (w1.setCell ⟨w.heap.size + 1 + 1, 0, none⟩ (.slice (some ⟨g, 0, none⟩) z.length z.length)) := (Touch.refl _ _).setCell (by simp) _
  refine (HC2.out _ (rdL_at HA'.out hb1)).mono ?_
  rintro e w2 ⟨g', G', rfl, ho', hg', hg1', hb2⟩
  have hsz : w1.heap.size ≤ g' := by simp [World.setCell] at hg'; exact hg'
  have l2 : w2.cell? ⟨w.heap.size + 1 + 1, 0, none⟩ = some (.slice (some ⟨g, 0, none⟩) z.length z.length) := by rw [hb2.cell (by simp [World.setCell]; omega)]; go_simp
  have l3 : w2.cell? ⟨w.heap.size + 1 + 1, 1, none⟩ = some (.slice none 0 0) := by rw [hb2.cell (by simp [World.setCell]; omega)]; go_simp
  have l4 : w2.cell? ⟨w.heap.size + 1, 0, none⟩ = some (.slice none 0 0) := by rw [hb2.cell (by simp [World.setCell]; omega)]; go_simp
  have l5 : w2.cell? ⟨w.heap.size + 1, 1, none⟩ = some (.slice none 0 0) := by rw [hb2.cell (by simp [World.setCell]; omega)]; go_simp
  have m3 : w2.frozen? ⟨w.heap.size + 1 + 1, 1, none⟩ = false := by rw [hb2.frozen (by simp [World.setCell]; omega)]; go_simp
  have m4 : w2.frozen? ⟨w.heap.size + 1, 0, none⟩ = false := by rw [hb2.frozen (by simp [World.setCell]; omega)]; go_simp
  have m5 : w2.frozen? ⟨w.heap.size + 1, 1, none⟩ = false := by rw [hb2.frozen (by simp [World.setCell]; omega)]; go_simp
  have hG : ∀ j, j < z.length → g < G j ∧ G j < w1.heap.size := fun j hj => ⟨(HO.out.2.1 j hj).1, (HO.out.2.1 j hj).2.1⟩
  have hG' : ∀ j, j < z'.length → g' < G' j := fun j hj => (ho'.2.1 j hj).1
  have HG := hide hG
  have HG' := hide hG'
  have HO2 := hide ((HO.out.touch ht1 (by simp; omega) (fun j hj => by have := hG j hj; simp; omega)).below (Nat.lt_of_lt_of_le hg1 ht1.size) hb2)
  have HO' := hide ho'
  have HB2 := hide (hb1.trans (hb2.mono hb1.size))
  clear hb1 hb2 ht1 ho' hg' k1 k2 k3 k4 k5 f2 f3 f4 f5 hG hG'
  go_wp2
  have ht : Touch [w.heap.size + 1, w.heap.size + 1 + 1] w2 (((w2.setCell ⟨w.heap.size + 1 + 1, 1, none⟩ (.slice (some ⟨g', 0, none⟩) z'.length z'.length)).setCell ⟨w.heap.size + 1, 0, none⟩ (.slice (some ⟨g, 0, none⟩) z.length z.length)).setCell ⟨w.heap.size + 1, 1, none⟩ (.slice (some ⟨g', 0, none⟩) z'.length z'.length)) := (((Touch.refl _ _).setCell (by simp) _).setCell (by simp) _).setCell (by simp) _
  exact bodyPost_ret (v := .agg #[.slice (some ⟨g, 0, none⟩) z.length z.length, .slice (some ⟨g', 0, none⟩) z'.length z'.length]) (by simp [results, Try.results16, go_sem, l4, l5]) rfl
    ⟨g, g', G, G', rfl, HO2.out.touch ht (by simp <;> omega) (fun j hj => by have := HG.out j hj; simp; omega), HO'.out.touch ht (by simp <;> omega) (fun j hj => by have := HG'.out j hj; simp; omega), by omega, by omega, fun j hj => by have := HG.out j hj; omega, Nat.lt_of_lt_of_le hg1' ht.size, Below.touch HB2.out ht (by simp <;> omega) HB2.out.size⟩
theorem toLists_any (A A' : Option Addr) (n c n' c' : Nat) (z z' : List (List Int)) (w : World) (hn : n = z.length) (hn' : n' = z'.length) (hm : n + sumL z n + n' + sumL z' n' ≤ 1048576)
    (ha : RdL w A z w.heap.size) (ha' : RdL w A' z' w.heap.size) :
    Calls Try.prog 16 #[.agg #[.slice A n c, .slice A' n' c']] w fun e w' => ∃ g g', e = .returned (.agg #[.slice (some ⟨g, 0, none⟩) n n, .slice (some ⟨g', 0, none⟩) n' n']) ∧ RdM w' (some ⟨g, 0, none⟩) z w'.heap.size ∧ RdM w' (some ⟨g', 0, none⟩) z' w'.heap.size ∧ Below w.heap.size w w' := by
  subst hn hn'
  have hs : ∀ j, j < z.length → (z.getD j []).length ≤ 1048576 := fun j hj => by have := len_le z _ j hj; omega
  have hs' : ∀ j, j < z'.length → (z'.getD j []).length ≤ 1048576 := fun j hj => by have := len_le z' _ j hj; omega
  refine (toLists_own A A' _ c _ c' z z' w rfl rfl (by omega) (by omega) hs hs' ha ha').mono ?_
  rintro e w' ⟨g, g', G, G', rfl, ho, ho', h1, h2, h3, h4, h5⟩
  exact ⟨g, g', rfl, ho.rd (by omega) hs, ho'.rd h4 hs', h5⟩
set_option maxRecDepth 100000 in
set_option maxHeartbeats 1600000 in
theorem eqLists_same (A B A' B' : Option Addr) (n c d n' c' d' : Nat) (z z' : List (List Int)) (w : World) (hn : n = z.length) (hn' : n' = z'.length) (hm : n + sumL z n + n' + sumL z' n' ≤ 1048576)
    (ha : RdM w A z w.heap.size) (hb : RdM w B z w.heap.size) (ha' : RdM w A' z' w.heap.size) (hb' : RdM w B' z' w.heap.size) :
    Calls Try.prog 21 #[.agg #[.slice A n c, .slice A' n' c'], .agg #[.slice B n d, .slice B' n' d']] w fun e w' => e = .returned (.bool true) ∧ Below w.heap.size w w' := by
  have HS : Hid (∀ j, j < z.length → (z.getD j []).length ≤ 1048576) := hide (fun j hj => by have := len_le z n j (by omega); omega)
  have HS' : Hid (∀ j, j < z'.length → (z'.getD j []).length ≤ 1048576) := hide (fun j hj => by have := len_le z' n' j (by omega); omega)
  have hm1 : n ≤ 1048576 := by omega
  have hm2 : n' ≤ 1048576 := by omega
  have HN := hide hn
  have HN' := hide hn'
  have HA := hide ha
  have HB := hide hb
  have HA' := hide ha'
  have HB' := hide hb'
  clear hn hn' ha hb ha' hb' hm
  go_enter Try.func21, Try.ntmps21
  go_wp2_with fail
  have hb0 : Below w.heap.size w ((w.alloc (.cells #[.slice A n c, .slice A' n' c'] 35)).alloc (.cells #[.slice B n d, .slice B' n' d'] 35)) := ((Below.refl _ _).alloc (Nat.le_refl _) _).alloc (by simp) _
  refine (eqSListS_same _ _ _ _ _ z _ HN.out hm1 HS.out (rdM_at HA.out hb0) (rdM_at HB.out hb0)).mono ?_
  rintro e w1 ⟨rfl, hb1⟩
  have k1 : w1.cell? ⟨w.heap.size, 1, none⟩ = some (.slice A' n' c') := by rw [hb1.cell (by simp <;> omega)]; go_simp
  have k2 : w1.cell? ⟨w.heap.size + 1, 1, none⟩ = some (.slice B' n' d') := by rw [hb1.cell (by simp <;> omega)]; go_simp
  have HB1 := hide (hb0.trans (hb1.mono hb0.size))
  clear hb0 hb1
  go_wp2_with fail
  refine (eqSListS_same _ _ _ _ _ z' _ HN'.out hm2 HS'.out (rdM_at HA'.out HB1.out) (rdM_at HB'.out HB1.out)).mono ?_
  rintro e w2 ⟨rfl, hb2⟩
  have HB2 := hide (HB1.out.trans (hb2.mono HB1.out.size))
  clear hb2
  go_wp2
  go_ret
  exact ⟨rfl, HB2.out⟩

/-! a drawn region beside boxes: what is kept -/
theorem rdLS {w wK W : World} {A : Option Addr} {z : List (List Int)} {C : Prop} (hr : RdL w A z w.heap.size) (hB : Below w.heap.size w wK) (h : C ∧ Below wK.heap.size wK W) : RdL W A z W.heap.size :=
  rdL_at hr (hB.trans (h.2.mono hB.size))
theorem rdMS {wK W : World} {A : Option Addr} {z : List (List Int)} {C : Prop} (ho : RdM wK A z wK.heap.size) (h : C ∧ Below wK.heap.size wK W) : RdM W A z W.heap.size := rdM_at ho h.2
end Go.Proofs.Ytnnmdikbcfefjaa
