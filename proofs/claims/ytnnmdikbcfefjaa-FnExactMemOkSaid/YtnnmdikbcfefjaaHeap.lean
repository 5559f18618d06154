/-
  The laws' words over heaps (two slices of ints): sizes, copies, comparison, marks.
-/
import Derived.Test.YtnnmdikbcfefjaaInts
import Derived.Test.YtnnmdikbcfefjaaMark
import Derived.Deep.RegionHeld3
import Derived.Deep.LoopGhost
namespace Go.Proofs.Ytnnmdikbcfefjaa
open Go.RowKit
set_option linter.unusedVariables false

theorem szIntS_yes (A : Option Addr) (n c : Nat) (k : Int) (w : World) (h0 : 0 ≤ k) (h1 : k ≤ 2097152) (h : (n : Int) ≤ k) :
    Calls Try.prog 22 #[.slice A n c, .int .i64 k] w fun e w' => e = .returned (.int .i64 (k - n)) ∧ w = w' := by
  have h2 : ¬ k - (n : Int) < 0 := by omega
  go_enter Try.func22, Try.ntmps22
  go_wp2
  go_ret
  exact ⟨rfl, rfl⟩
theorem szIntS_no (A : Option Addr) (n c : Nat) (k : Int) (w : World) (h0 : 0 ≤ k) (h1 : k ≤ 2097152) (hc : n ≤ c) (hcm : c ≤ maxLen) (h : ¬ (n : Int) ≤ k) :
    Calls Try.prog 22 #[.slice A n c, .int .i64 k] w fun e w' => e = .returned (.int .i64 (-1)) ∧ w = w' := by
  have h2 : k - (n : Int) < 0 := by omega
  have h3 : (n : Int) ≤ 9223372036854775807 := by unfold maxLen at hcm; omega
  go_enter Try.func22, Try.ntmps22
  go_wp2
  go_ret
  exact ⟨rfl, rfl⟩

set_option maxRecDepth 100000 in
set_option maxHeartbeats 800000 in
theorem szHeap_yes (A A' : Option Addr) (n c n' c' : Nat) (k : Int) (w : World) (h0 : 0 ≤ k) (h1 : k ≤ 2097152) (h : (n : Int) + n' ≤ k) :
    Calls Try.prog 9 #[.agg #[.slice A n c, .slice A' n' c'], .int .i64 k] w fun e w' => e = .returned (.int .i64 (k - n - n')) ∧ Below w.heap.size w w' := by
  have h2 : ¬ k - (n : Int) < 0 := by omega
  have h3 : ¬ k - (n : Int) - (n' : Int) < 0 := by omega
  go_enter Try.func9, Try.ntmps9
  go_wp2_with fail
  refine (szIntS_yes _ _ _ _ _ h0 h1 (by omega)).mono ?_
  rintro e w1 ⟨rfl, rfl⟩
  go_wp2_with fail
  refine (szIntS_yes _ _ _ _ _ (by omega) (by omega) (by omega)).mono ?_
  rintro e w1 ⟨rfl, rfl⟩
  go_wp2
  go_ret
  exact ⟨rfl, (Below.refl _ _).alloc (Nat.le_refl _) _⟩
set_option maxRecDepth 100000 in
set_option maxHeartbeats 800000 in
theorem szHeap_no (A A' : Option Addr) (n c n' c' : Nat) (k : Int) (w : World) (h0 : 0 ≤ k) (h1 : k ≤ 2097152) (hc : n ≤ c) (hcm : c ≤ maxLen) (hc' : n' ≤ c') (hcm' : c' ≤ maxLen) (h : ¬ (n : Int) + n' ≤ k) :
    Calls Try.prog 9 #[.agg #[.slice A n c, .slice A' n' c'], .int .i64 k] w fun e w' => e = .returned (.int .i64 (-1)) ∧ Below w.heap.size w w' := by
  by_cases hn : (n : Int) ≤ k
  · have h2 : ¬ k - (n : Int) < 0 := by omega
    go_enter Try.func9, Try.ntmps9
    go_wp2_with fail
    refine (szIntS_yes _ _ _ _ _ h0 h1 hn).mono ?_
    rintro e w1 ⟨rfl, rfl⟩
    go_wp2_with fail
    refine (szIntS_no _ _ _ _ _ (by omega) (by omega) hc' hcm' (by omega)).mono ?_
    rintro e w1 ⟨rfl, rfl⟩
    go_wp2
    go_ret
    exact ⟨rfl, (Below.refl _ _).alloc (Nat.le_refl _) _⟩
  · go_enter Try.func9, Try.ntmps9
    go_wp2_with fail
    refine (szIntS_no _ _ _ _ _ h0 h1 hc hcm (by omega)).mono ?_
    rintro e w1 ⟨rfl, rfl⟩
    go_wp2
    go_ret
    exact ⟨rfl, (Below.refl _ _).alloc (Nat.le_refl _) _⟩

set_option maxRecDepth 100000 in
set_option maxHeartbeats 1600000 in
theorem eqHeap_same (A B A' B' : Option Addr) (n c d n' c' d' : Nat) (z z' : List Int) (U : Nat) (w : World) (hn : n = z.length) (hz : n ≤ 2097152) (hn' : n' = z'.length) (hz' : n' ≤ 2097152) (hU : U ≤ w.heap.size)
    (ha : RdB .i64 w A z U) (hb : RdB .i64 w B z U) (ha' : RdB .i64 w A' z' U) (hb' : RdB .i64 w B' z' U) :
    Calls Try.prog 20 #[.agg #[.slice A n c, .slice A' n' c'], .agg #[.slice B n d, .slice B' n' d']] w fun e w' => e = .returned (.bool true) ∧ Below w.heap.size w w' := by
  have HN := hide hn
  have HN' := hide hn'
  have HA := hide ha
  have HB := hide hb
  have HA' := hide ha'
  have HB' := hide hb'
  clear hn hn' ha hb ha' hb'
  go_enter Try.func20, Try.ntmps20
  go_wp2_with fail
  have hb0 : Below w.heap.size w ((w.alloc (.cells #[.slice A n c, .slice A' n' c'] 32)).alloc (.cells #[.slice B n d, .slice B' n' d'] 32)) := ((Below.refl _ _).alloc (Nat.le_refl _) _).alloc (by simp) _
  refine (eqIntS_same _ _ _ _ _ z U _ HN.out hz (HA.out.below hb0 hU) (HB.out.below hb0 hU)).mono ?_
  rintro e w1 ⟨rfl, hb1⟩
  have k1 : w1.cell? ⟨w.heap.size, 1, none⟩ = some (.slice A' n' c') := by rw [hb1.cell (by simp <;> omega)]; go_simp
  have k2 : w1.cell? ⟨w.heap.size + 1, 1, none⟩ = some (.slice B' n' d') := by rw [hb1.cell (by simp <;> omega)]; go_simp
  have hs0 : w.heap.size + 2 ≤ w1.heap.size := by have := hb1.size; simp at this; omega
  have HB1 := hide (hb0.trans (hb1.mono hb0.size))
  clear hb0 hb1
  go_wp2_with fail
  refine (eqIntS_same _ _ _ _ _ z' U _ HN'.out hz' (HA'.out.below HB1.out hU) (HB'.out.below HB1.out hU)).mono ?_
  rintro e w2 ⟨rfl, hb2⟩
  have HB2 := hide (HB1.out.trans (hb2.mono HB1.out.size))
  clear hb2
  go_wp2
  go_ret
  exact ⟨rfl, HB2.out⟩

/-- Two slices of ints, each in a block of its own. -/
def OwnH (w : World) (A : Option Addr) (n c : Nat) (A' : Option Addr) (n' c' : Nat) (z z' : List Int) (F F' : List Nat) : Prop :=
  Own 3 w (.slice A n c) (ints z) F ∧ Own 3 w (.slice A' n' c') (ints z') F' ∧ ∀ g, g ∈ F → g ∉ F'

theorem toIntS_ex (A : Option Addr) (n c : Nat) (zs : List Int) (w : World) (hn : n = zs.length) (hz : n ≤ 1048576) (hr : RdB .i64 w A zs w.heap.size) :
    Calls Try.prog 31 #[.slice A n c] w fun e w' => ∃ g, e = .returned (.slice (some ⟨g, 0, none⟩) n n) ∧ Own 3 w' (.slice (some ⟨g, 0, none⟩) n n) (ints zs) [g] ∧ w.heap.size ≤ g ∧ g < w'.heap.size ∧ Below w.heap.size w w' :=
  (toIntS_any A n c zs w hn hz hr).mono fun e w' h => ⟨w.heap.size, h.1, h.2.1, Nat.le_refl _, h.2.1.lt _ (by simp), h.2.2⟩

set_option maxRecDepth 100000 in
set_option maxHeartbeats 1600000 in
theorem toHeap_any (A A' : Option Addr) (n c n' c' : Nat) (z z' : List Int) (w : World) (hn : n = z.length) (hz : n ≤ 1048576) (hn' : n' = z'.length) (hz' : n' ≤ 1048576)
    (ha : RdB .i64 w A z w.heap.size) (ha' : RdB .i64 w A' z' w.heap.size) :
    Calls Try.prog 15 #[.agg #[.slice A n c, .slice A' n' c']] w fun e w' => ∃ g g', e = .returned (.agg #[.slice (some ⟨g, 0, none⟩) n n, .slice (some ⟨g', 0, none⟩) n' n']) ∧
      Own 3 w' (.slice (some ⟨g, 0, none⟩) n n) (ints z) [g] ∧ Own 3 w' (.slice (some ⟨g', 0, none⟩) n' n') (ints z') [g'] ∧ w.heap.size ≤ g ∧ g < g' ∧ g' < w'.heap.size ∧ Below w.heap.size w w' := by
  have HN := hide hn
  have HN' := hide hn'
  have HA := hide ha
  have HA' := hide ha'
  clear hn hn' ha ha'
  go_enter Try.func15, Try.ntmps15
  go_wp2_with fail
  have hb0 : Below w.heap.size w (((w.alloc (.cells #[.slice A n c, .slice A' n' c'] 24)).alloc (.cells #[.slice none 0 0, .slice none 0 0] 32)).alloc (.cells #[.slice none 0 0, .slice none 0 0] 32)) := (((Below.refl _ _).alloc (Nat.le_refl _) _).alloc (by simp) _).alloc (by simp <;> omega) _
  refine (toIntS_ex A n c z _ HN.out hz ((HA.out.below hb0 (Nat.le_refl _)).more hb0.size)).mono ?_
  rintro e w1 ⟨g, rfl, ho, hg, hg1, hb1⟩
  have k1 : w1.cell? ⟨w.heap.size, 1, none⟩ = some (.slice A' n' c') := by rw [hb1.cell (by simp <;> omega)]; go_simp
  have k2 : w1.cell? ⟨w.heap.size + 1 + 1, 0, none⟩ = some (.slice none 0 0) := by rw [hb1.cell (by simp <;> omega)]; go_simp
  have k3 : w1.cell? ⟨w.heap.size + 1 + 1, 1, none⟩ = some (.slice none 0 0) := by rw [hb1.cell (by simp <;> omega)]; go_simp
  have k4 : w1.cell? ⟨w.heap.size + 1, 0, none⟩ = some (.slice none 0 0) := by rw [hb1.cell (by simp <;> omega)]; go_simp
  have k5 : w1.cell? ⟨w.heap.size + 1, 1, none⟩ = some (.slice none 0 0) := by rw [hb1.cell (by simp <;> omega)]; go_simp
  have f2 : w1.frozen? ⟨w.heap.size + 1 + 1, 0, none⟩ = false := by rw [hb1.frozen (by simp <;> omega)]; go_simp
  have f3 : w1.frozen? ⟨w.heap.size + 1 + 1, 1, none⟩ = false := by rw [hb1.frozen (by simp <;> omega)]; go_simp
  have f4 : w1.frozen? ⟨w.heap.size + 1, 0, none⟩ = false := by rw [hb1.frozen (by simp <;> omega)]; go_simp
  have f5 : w1.frozen? ⟨w.heap.size + 1, 1, none⟩ = false := by rw [hb1.frozen (by simp <;> omega)]; go_simp
  have hs1 : w.heap.size + 3 ≤ g := by simp at hg; omega
  have HB1 := hide (hb0.trans (hb1.mono hb0.size))
  have HO := hide ho
  clear hb0 hb1 hg ho
  go_wp2_with fail
  have hb1 : Below w.heap.size w (w1.setCell ⟨w.heap.size + 1 + 1, 0, none⟩ (.slice (some ⟨g, 0, none⟩) n n)) := HB1.out.setCell (by simp <;> omega) _
  have ht1 : Touch [w.heap.size + 1 + 1] w1 (w1.setCell ⟨w.heap.size + 1 + 1, 0, none⟩ (.slice (some ⟨g, 0, none⟩) n n)) := (Touch.refl _ _).setCell (by simp) _
  refine (toIntS_ex A' n' c' z' _ HN'.out hz' ((HA'.out.below hb1 (Nat.le_refl _)).more hb1.size)).mono ?_
  rintro e w2 ⟨g', rfl, ho', hg', hg1', hb2⟩
  have hsz : w1.heap.size ≤ g' := by simp [World.setCell] at hg'; exact hg'
  have l2 : w2.cell? ⟨w.heap.size + 1 + 1, 0, none⟩ = some (.slice (some ⟨g, 0, none⟩) n n) := by rw [hb2.cell (by simp [World.setCell]; omega)]; go_simp
  have l3 : w2.cell? ⟨w.heap.size + 1 + 1, 1, none⟩ = some (.slice none 0 0) := by rw [hb2.cell (by simp [World.setCell]; omega)]; go_simp
  have l4 : w2.cell? ⟨w.heap.size + 1, 0, none⟩ = some (.slice none 0 0) := by rw [hb2.cell (by simp [World.setCell]; omega)]; go_simp
  have l5 : w2.cell? ⟨w.heap.size + 1, 1, none⟩ = some (.slice none 0 0) := by rw [hb2.cell (by simp [World.setCell]; omega)]; go_simp
  have m3 : w2.frozen? ⟨w.heap.size + 1 + 1, 1, none⟩ = false := by rw [hb2.frozen (by simp [World.setCell]; omega)]; go_simp
  have m4 : w2.frozen? ⟨w.heap.size + 1, 0, none⟩ = false := by rw [hb2.frozen (by simp [World.setCell]; omega)]; go_simp
  have m5 : w2.frozen? ⟨w.heap.size + 1, 1, none⟩ = false := by rw [hb2.frozen (by simp [World.setCell]; omega)]; go_simp
  have HO2 := hide ((HO.out.touch ht1 (by simp <;> omega)).below hb2)
  have HO' := hide ho'
  have HB2 := hide (hb1.trans (hb2.mono hb1.size))
  clear hb1 hb2 ht1 ho' hg' k1 k2 k3 k4 k5 f2 f3 f4 f5
  go_wp2
  have ht : Touch [w.heap.size + 1, w.heap.size + 1 + 1] w2 (((w2.setCell ⟨w.heap.size + 1 + 1, 1, none⟩ (.slice (some ⟨g', 0, none⟩) n' n')).setCell ⟨w.heap.size + 1, 0, none⟩ (.slice (some ⟨g, 0, none⟩) n n)).setCell ⟨w.heap.size + 1, 1, none⟩ (.slice (some ⟨g', 0, none⟩) n' n')) := (((Touch.refl _ _).setCell (by simp) _).setCell (by simp) _).setCell (by simp) _
  exact bodyPost_ret (v := .agg #[.slice (some ⟨g, 0, none⟩) n n, .slice (some ⟨g', 0, none⟩) n' n']) (by simp [results, Try.results15, go_sem, l4, l5]) rfl
    ⟨g, g', rfl, HO2.out.touch ht (by simp <;> omega), HO'.out.touch ht (by simp <;> omega), by omega, by omega, Nat.lt_of_lt_of_le hg1' ht.size, Below.touch HB2.out ht (by simp <;> omega) HB2.out.size⟩

/-! a drawn region beside boxes: what is kept -/

def Cells4 (p q r s : Addr) (u0 u1 u2 u3 : Value) (W : World) : Prop := W.cell? p = some u0 ∧ W.cell? q = some u1 ∧ W.cell? r = some u2 ∧ W.cell? s = some u3
theorem keep22 {wK W W' : World} {p q r s : Addr} {u0 u1 u2 u3 : Value} (hp : p.block < wK.heap.size) (hq : q.block < wK.heap.size) (hr : r.block < wK.heap.size) (hs : s.block < wK.heap.size)
    (hb : Below W.heap.size W W') (h : (W.cell? p = some u0 ∧ W.cell? q = some u1 ∧ W.cell? r = some u2 ∧ W.cell? s = some u3) ∧ Below wK.heap.size wK W) :
    (W'.cell? p = some u0 ∧ W'.cell? q = some u1 ∧ W'.cell? r = some u2 ∧ W'.cell? s = some u3) ∧ Below wK.heap.size wK W' := by
  have hz := h.2.size
  obtain ⟨⟨h0, h1, h2, h3⟩, hB⟩ := h
  exact ⟨⟨by rw [hb.cell (by omega)]; exact h0, by rw [hb.cell (by omega)]; exact h1, by rw [hb.cell (by omega)]; exact h2, by rw [hb.cell (by omega)]; exact h3⟩, hB.trans (hb.mono hz)⟩
theorem rdS {k : IntKind} {w wK W : World} {A : Option Addr} {z : List Int} {C : Prop} (hr : RdB k w A z w.heap.size) (hB : Below w.heap.size w wK) (h : C ∧ Below wK.heap.size wK W) : RdB k W A z W.heap.size := by
  have h2 := hB.trans (h.2.mono hB.size)
  exact (hr.below h2 (Nat.le_refl _)).more h2.size
theorem ownS {wK W : World} {A : Option Addr} {n c : Nat} {z : List Int} {F : List Nat} {C : Prop} (ho : Own 3 wK (.slice A n c) (ints z) F) (h : C ∧ Below wK.heap.size wK W) : RdB .i64 W A z W.heap.size := ((ho.below h.2).rd).2
theorem ownR {W : World} {A : Option Addr} {n c : Nat} {z : List Int} {F : List Nat} (ho : Own 3 W (.slice A n c) (ints z) F) : RdB .i64 W A z W.heap.size := (ho.rd).2
theorem named {C : World → Prop} {wK W : World} (h : C W ∧ Below wK.heap.size wK W) : ∃ V, V = W ∧ C V ∧ Below wK.heap.size wK V := ⟨W, rfl, h.1, h.2⟩
theorem nottrue_of {a b : Int} (h : ¬ a ≤ b) : b < a := by omega

end Go.Proofs.Ytnnmdikbcfefjaa
