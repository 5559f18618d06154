/-
  A heap copied: both lists anew. The contracts of the reference's and of the program's copy.
-/
import Derived.Test.YtdhocncfpapncacStoreH
namespace Go.Proofs.Ytdhocncfpapncac
open Go.RowKit
set_option linter.unusedVariables false

/-- What a copy of a heap leaves. -/
def CopyH (w w' : World) (n n' : Nat) (z z' : List Int) (A : Option Addr) (c : Nat) (F : List Nat) (A' : Option Addr) (c' : Nat) (F' : List Nat) : Prop :=
  Own 3 w' (.slice A n c) (ints z) F ∧ Own 3 w' (.slice A' n' c') (ints z') F' ∧ (∀ g, g ∈ F ++ F' → w.heap.size ≤ g) ∧ (∀ g, g ∈ F → g ∉ F') ∧ Below w.heap.size w w'

/-- the boxes beside a drawn region: two cells read, two written behind -/
def BoxS (W : World) (b r : Nat) (u0 u1 r0 r1 : Value) : Prop :=
  (W.cell? ⟨b, 0, none⟩ = some u0 ∧ W.cell? ⟨b, 1, none⟩ = some u1 ∧ W.cell? ⟨r, 0, none⟩ = some r0 ∧ W.cell? ⟨r, 1, none⟩ = some r1) ∧ W.frozen? ⟨r, 0, none⟩ = false ∧ W.frozen? ⟨r, 1, none⟩ = false
theorem below_of {w0 w1 w2 : World} (h : Below w0.heap.size w0 w1) (k : Below w1.heap.size w1 w2) : Below w0.heap.size w0 w2 := h.trans (k.mono h.size)
theorem rdB_at {k : IntKind} {w W : World} {A : Option Addr} {z : List Int} (h : RdB k w A z w.heap.size) (hb : Below w.heap.size w W) : RdB k W A z W.heap.size := (h.below hb (Nat.le_refl _)).more hb.size
theorem boxS_below {wK W W' : World} {b r : Nat} {u0 u1 r0 r1 : Value} (hb0 : b < wK.heap.size) (hr0 : r < wK.heap.size) (hb : Below W.heap.size W W')
    (h : ((W.cell? ⟨b, 0, none⟩ = some u0 ∧ W.cell? ⟨b, 1, none⟩ = some u1 ∧ W.cell? ⟨r, 0, none⟩ = some r0 ∧ W.cell? ⟨r, 1, none⟩ = some r1) ∧ W.frozen? ⟨r, 0, none⟩ = false ∧ W.frozen? ⟨r, 1, none⟩ = false) ∧ Below wK.heap.size wK W) :
    ((W'.cell? ⟨b, 0, none⟩ = some u0 ∧ W'.cell? ⟨b, 1, none⟩ = some u1 ∧ W'.cell? ⟨r, 0, none⟩ = some r0 ∧ W'.cell? ⟨r, 1, none⟩ = some r1) ∧ W'.frozen? ⟨r, 0, none⟩ = false ∧ W'.frozen? ⟨r, 1, none⟩ = false) ∧ Below wK.heap.size wK W' := by
  have hz := h.2.size
  have hb1 : b < W.heap.size := by omega
  have hr1 : r < W.heap.size := by omega
  obtain ⟨⟨⟨h0, h1, h2, h3⟩, h4, h5⟩, hB⟩ := h
  exact ⟨⟨⟨by rw [hb.cell hb1]; exact h0, by rw [hb.cell hb1]; exact h1, by rw [hb.cell hr1]; exact h2, by rw [hb.cell hr1]; exact h3⟩, by rw [hb.frozen hr1]; exact h4, by rw [hb.frozen hr1]; exact h5⟩, hB.trans (hb.mono hz)⟩

set_option maxRecDepth 100000 in
set_option maxHeartbeats 3200000 in
theorem l7Copy_any (A A' : Option Addr) (n c n' c' : Nat) (x y : List Int) (w : World) (hn : n = x.length) (hn' : n' = y.length) (hz : n ≤ 1048576) (hz' : n' ≤ 1048576) (ha : RdB .i64 w A x w.heap.size) (ha' : RdB .i64 w A' y w.heap.size) :
    Calls Try.prog 68 #[.agg #[.slice A n c, .slice A' n' c']] w fun e w' => ∃ B d F B' d' F', e = .returned (.agg #[.slice B n d, .slice B' n' d']) ∧ CopyH w w' n n' x y B d F B' d' F' := by
  have HN := hide hn
  have HN' := hide hn'
  have HA := hide ha
  have HA' := hide ha'
  clear hn hn' ha ha'
  go_enter Try.func68, Try.ntmps68
  go_wp2_with fail
  obtain ⟨w1, hW⟩ : ∃ W : World, W = (w.alloc (.cells #[.slice A n c, .slice A' n' c'] 26)).alloc (.cells #[.slice none 0 0, .slice none 0 0] 26) := ⟨_, rfl⟩
  rw [← hW]
  have HB1 : Hid (Below w.heap.size w w1) := hide (by rw [hW]; exact ((Below.refl _ _).alloc (Nat.le_refl _) _).alloc (by simp) _)
  have b0 : w1.cell? ⟨w.heap.size, 0, none⟩ = some (.slice A n c) := by rw [hW]; go_simp
  have b1 : w1.cell? ⟨w.heap.size, 1, none⟩ = some (.slice A' n' c') := by rw [hW]; go_simp
  have r0 : w1.cell? ⟨w.heap.size + 1, 0, none⟩ = some (.slice none 0 0) := by rw [hW]; go_simp
  have r1 : w1.cell? ⟨w.heap.size + 1, 1, none⟩ = some (.slice none 0 0) := by rw [hW]; go_simp
  have f0 : w1.frozen? ⟨w.heap.size + 1, 0, none⟩ = false := by rw [hW]; go_simp
  have f1 : w1.frozen? ⟨w.heap.size + 1, 1, none⟩ = false := by rw [hW]; go_simp
  have t0 : w.heap.size < w1.heap.size := by rw [hW]; simp <;> omega
  have t1 : w.heap.size + 1 < w1.heap.size := by rw [hW]; simp <;> omega
  clear hW
  have HA1 := hide ((HA.out.below HB1.out (Nat.le_refl _)).more HB1.out.size)
  have HA1' := hide ((HA'.out.below HB1.out (Nat.le_refl _)).more HB1.out.size)
  go_region_with (go_at_call 72; refine (l3Copy_any _ _ _ _ _ (by first | exact HN.out | exact HN'.out) (by omega) (by first | exact rdB_at HA1.out (by first | assumption | exact (Below.refl _ _).drew | exact Below.refl _ _) | exact rdB_at HA1'.out (by first | assumption | exact (Below.refl _ _).drew | exact Below.refl _ _))).mono ?_; rintro e w' ⟨B, d, F, rfl, ho, hF, hb⟩; have hc := below_of (show Below w1.heap.size w1 _ by first | assumption | exact (Below.refl _ _).drew | exact Below.refl _ _) hb; have c0 : w'.cell? ⟨w.heap.size, 0, none⟩ = some (.slice A n c) := (hc.cell t0).trans b0; have c1 : w'.cell? ⟨w.heap.size, 1, none⟩ = some (.slice A' n' c') := (hc.cell t0).trans b1; have c2 : w'.cell? ⟨w.heap.size + 1, 0, none⟩ = some (.slice none 0 0) := (hc.cell t1).trans r0; have c3 : w'.cell? ⟨w.heap.size + 1, 1, none⟩ = some (.slice none 0 0) := (hc.cell t1).trans r1; have c4 : w'.frozen? ⟨w.heap.size + 1, 0, none⟩ = false := (hc.frozen t1).trans f0; have c5 : w'.frozen? ⟨w.heap.size + 1, 1, none⟩ = false := (hc.frozen t1).trans f1)
  all_goals
    rename_i w2 B1 d1 F1 ho1 hF1 hb1 hc1 e0 e1 e2 e3 e4 e5
    have hd1 : w1.drew.heap.size = w1.heap.size := rfl
    have hg1 : ∀ g, g ∈ F1 → w1.heap.size ≤ g := hF1
    have hl1 := ho1.lt
    have hz1 := hc1.size
    have hO1 := ho1.below hb
    have ht : Touch [w.heap.size + 1] w' ((w'.setCell ⟨w.heap.size + 1, 0, none⟩ (.slice B1 n d1)).setCell ⟨w.heap.size + 1, 1, none⟩ (.slice B n' d)) := ((Touch.refl _ _).setCell (by simp) _).setCell (by simp) _
    have hfin : CopyH w ((w'.setCell ⟨w.heap.size + 1, 0, none⟩ (.slice B1 n d1)).setCell ⟨w.heap.size + 1, 1, none⟩ (.slice B n' d)) n n' x y B1 d1 F1 B d F := by
      refine ⟨hO1.touch ht (fun g hg hg' => ?_), ho.touch ht (fun g hg hg' => ?_), fun g hg => ?_, fun g hg hg' => ?_, Below.touch (HB1.out.trans (hc.mono HB1.out.size)) ht (by simp <;> omega) (HB1.out.trans (hc.mono HB1.out.size)).size⟩
      · have := hg1 g hg; simp at hg'; omega
      · have := hF g hg; simp at hg'; omega
      · rcases List.mem_append.1 hg with h | h
        · have := hg1 g h; omega
        · have := hF g h; omega
      · have := hl1 g hg; have := hF g hg'; omega
    have HFIN := hide hfin
    clear hfin ht hO1 hg1 hl1 hz1 hd1 ho1 ho hF1 hF hb1 hb
    go_wp2
    exact bodyPost_ret (v := .agg #[.slice B1 n d1, .slice B n' d]) (by simp [results, Try.results68, go_sem, c2, c3]) rfl ⟨B1, d1, F1, B, d, F, rfl, HFIN.out⟩

set_option maxRecDepth 100000 in
set_option maxHeartbeats 3200000 in
theorem copyHeap_any (a a' : Addr) (n c n' c' : Nat) (x y : List Int) (w : World) (hn : n = x.length) (hn' : n' = y.length) (hz : n ≤ 1048576) (hz' : n' ≤ 1048576) (ha : RdB .i64 w (some a) x w.heap.size) (ha' : RdB .i64 w (some a') y w.heap.size) :
    Calls Try.prog 22 #[.agg #[.slice (some a) n c, .slice (some a') n' c']] w fun e w' => ∃ B d F B' d' F', e = .returned (.agg #[.slice B n d, .slice B' n' d']) ∧ CopyH w w' n n' x y B d F B' d' F' := by
  have HN := hide hn
  have HN' := hide hn'
  have HA := hide ha
  have HA' := hide ha'
  clear hn hn' ha ha'
  go_enter Try.func22, Try.ntmps22
  go_wp2_with fail
  obtain ⟨w1, hW⟩ : ∃ W : World, W = (w.alloc (.cells #[.slice (some a) n c, .slice (some a') n' c'] 26)).alloc (.cells #[.slice none 0 0, .slice none 0 0] 26) := ⟨_, rfl⟩
  rw [← hW]
  have HB1 : Hid (Below w.heap.size w w1) := hide (by rw [hW]; exact ((Below.refl _ _).alloc (Nat.le_refl _) _).alloc (by simp) _)
  have b0 : w1.cell? ⟨w.heap.size, 0, none⟩ = some (.slice (some a) n c) := by rw [hW]; go_simp
  have b1 : w1.cell? ⟨w.heap.size, 1, none⟩ = some (.slice (some a') n' c') := by rw [hW]; go_simp
  have r0 : w1.cell? ⟨w.heap.size + 1, 0, none⟩ = some (.slice none 0 0) := by rw [hW]; go_simp
  have r1 : w1.cell? ⟨w.heap.size + 1, 1, none⟩ = some (.slice none 0 0) := by rw [hW]; go_simp
  have f0 : w1.frozen? ⟨w.heap.size + 1, 0, none⟩ = false := by rw [hW]; go_simp
  have f1 : w1.frozen? ⟨w.heap.size + 1, 1, none⟩ = false := by rw [hW]; go_simp
  have t0 : w.heap.size < w1.heap.size := by rw [hW]; simp <;> omega
  have t1 : w.heap.size + 1 < w1.heap.size := by rw [hW]; simp <;> omega
  clear hW
  have HA1 := hide ((HA.out.below HB1.out (Nat.le_refl _)).more HB1.out.size)
  have HA1' := hide ((HA'.out.below HB1.out (Nat.le_refl _)).more HB1.out.size)
  go_region_with (go_at_call 44; refine (clone_any _ _ _ _ _ (by first | exact HN.out | exact HN'.out) (by omega) (by first | exact rdB_at HA1.out (by first | assumption | exact (Below.refl _ _).drew | exact Below.refl _ _) | exact rdB_at HA1'.out (by first | assumption | exact (Below.refl _ _).drew | exact Below.refl _ _))).mono ?_; rintro e w' ⟨B, d, F, rfl, ho, hF, hb⟩; have hc := below_of (show Below w1.heap.size w1 _ by first | assumption | exact (Below.refl _ _).drew | exact Below.refl _ _) hb; have c0 : w'.cell? ⟨w.heap.size, 0, none⟩ = some (.slice (some a) n c) := (hc.cell t0).trans b0; have c1 : w'.cell? ⟨w.heap.size, 1, none⟩ = some (.slice (some a') n' c') := (hc.cell t0).trans b1; have c2 : w'.cell? ⟨w.heap.size + 1, 0, none⟩ = some (.slice none 0 0) := (hc.cell t1).trans r0; have c3 : w'.cell? ⟨w.heap.size + 1, 1, none⟩ = some (.slice none 0 0) := (hc.cell t1).trans r1; have c4 : w'.frozen? ⟨w.heap.size + 1, 0, none⟩ = false := (hc.frozen t1).trans f0; have c5 : w'.frozen? ⟨w.heap.size + 1, 1, none⟩ = false := (hc.frozen t1).trans f1)
  all_goals
    rename_i w2 B1 d1 F1 ho1 hF1 hb1 hc1 e0 e1 e2 e3 e4 e5
    have hd1 : w1.drew.heap.size = w1.heap.size := rfl
    have hg1 : ∀ g, g ∈ F1 → w1.heap.size ≤ g := hF1
    have hl1 := ho1.lt
    have hz1 := hc1.size
    have hO1 := ho1.below hb
    have ht : Touch [w.heap.size + 1] w' ((w'.setCell ⟨w.heap.size + 1, 0, none⟩ (.slice B1 n d1)).setCell ⟨w.heap.size + 1, 1, none⟩ (.slice B n' d)) := ((Touch.refl _ _).setCell (by simp) _).setCell (by simp) _
    have hfin : CopyH w ((w'.setCell ⟨w.heap.size + 1, 0, none⟩ (.slice B1 n d1)).setCell ⟨w.heap.size + 1, 1, none⟩ (.slice B n' d)) n n' x y B1 d1 F1 B d F := by
      refine ⟨hO1.touch ht (fun g hg hg' => ?_), ho.touch ht (fun g hg hg' => ?_), fun g hg => ?_, fun g hg hg' => ?_, Below.touch (HB1.out.trans (hc.mono HB1.out.size)) ht (by simp <;> omega) (HB1.out.trans (hc.mono HB1.out.size)).size⟩
      · have := hg1 g hg; simp at hg'; omega
      · have := hF g hg; simp at hg'; omega
      · rcases List.mem_append.1 hg with h | h
        · have := hg1 g h; omega
        · have := hF g h; omega
      · have := hl1 g hg; have := hF g hg'; omega
    have HFIN := hide hfin
    clear hfin ht hO1 hg1 hl1 hz1 hd1 ho1 ho hF1 hF hb1 hb
    go_wp2
    exact bodyPost_ret (v := .agg #[.slice B1 n d1, .slice B n' d]) (by simp [results, Try.results22, go_sem, c2, c3]) rfl ⟨B1, d1, F1, B, d, F, rfl, HFIN.out⟩
end Go.Proofs.Ytdhocncfpapncac
