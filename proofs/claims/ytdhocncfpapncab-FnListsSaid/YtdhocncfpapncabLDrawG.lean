/-
  Draws of lists: DrawGive.
-/
import Derived.Test.YtdhocncfpapncabLAny
namespace Go.Proofs.Ytdhocncfpapncab
open Go.RowKit
set_option linter.unusedVariables false

/-- What DrawGive tells. -/
def LGive (w w' : World) (e : Ending) : Prop :=
  ∃ (C : Option Addr) (k : Nat) (D : Option Addr) (q : Nat) (z y : List (List Int)) (a c s : Int), e = .returned (.tuple #[.agg #[.slice C z.length k, .slice D y.length q], .int .i64 a, .int .i64 c, .int .i64 s]) ∧ z.length ≤ k ∧ y.length ≤ q ∧ k ≤ maxLen ∧ q ≤ maxLen ∧ z.length ≤ 3 ∧ y.length ≤ 10 ∧ sumL z z.length + sumL y y.length ≤ 20 ∧
    RdM w' C z w'.heap.size ∧ RdM w' D y w'.heap.size ∧ Below w.heap.size w w'
/-- What holds at each world of the last statement. -/
def S3 (wr W : World) (d : Nat) : Prop := W.cell? ⟨d, 0, none⟩ = some (.slice none 0 0) ∧ W.cell? ⟨d, 1, none⟩ = some (.slice none 0 0)
theorem k3G {wr W W' : World} {cb d : Nat} (hd : d < wr.heap.size) (hne : d ≠ cb) (hs : wr.heap.size ≤ W.heap.size) (hg : W.grownBy W' (some cb)) {u0 u1 : Value} (h : W.cell? ⟨d, 0, none⟩ = some u0 ∧ W.cell? ⟨d, 1, none⟩ = some u1 ∧ W.frozen? ⟨d, 0, none⟩ = false ∧ W.frozen? ⟨d, 1, none⟩ = false) :
    W'.cell? ⟨d, 0, none⟩ = some u0 ∧ W'.cell? ⟨d, 1, none⟩ = some u1 ∧ W'.frozen? ⟨d, 0, none⟩ = false ∧ W'.frozen? ⟨d, 1, none⟩ = false := by
  have hk := hg.block d (Nat.lt_of_lt_of_le hd hs) (by simp only [ne_eq, Option.some.injEq]; exact hne)
  exact ⟨(World.cell?_of_block hk).trans h.1, (World.cell?_of_block hk).trans h.2.1, (World.frozen?_of_block hk).trans h.2.2.1, (World.frozen?_of_block hk).trans h.2.2.2⟩
set_option maxRecDepth 100000 in
set_option maxHeartbeats 3200000 in
theorem drawGive_any (A : Option Addr) (n c : Nat) (zs : List Int) (w : World) (hn : n = zs.length) (hz : n ≤ 1048580) (hr : RdB .u8 w A zs w.heap.size) :
    Calls Try.prog 5 #[.slice A n c] w fun e w' => LGive w w' e := by
  have HN := hide hn
  have HZ := hide hz
  have HR := hide hr
  clear hn hz hr
  go_enter Try.func5, Try.ntmps5
  go_wp2_with fail
  obtain ⟨w1, h1⟩ : ∃ W : World, W = w.alloc (.cells #[.slice none 0 0, .slice none 0 0] 26) := ⟨_, rfl⟩
  rw [← h1]
  have hb1 : Below w.heap.size w w1 := by rw [h1]; exact (Below.refl _ _).alloc (Nat.le_refl _) _
  have s1 : w1.heap.size = w.heap.size + 1 := by rw [h1]; simp
  have d1 : w1.cell? ⟨w.heap.size, 0, none⟩ = some (.slice none 0 0) ∧ w1.cell? ⟨w.heap.size, 1, none⟩ = some (.slice none 0 0) ∧ w1.frozen? ⟨w.heap.size, 0, none⟩ = false ∧ w1.frozen? ⟨w.heap.size, 1, none⟩ = false := by rw [h1]; exact ⟨by go_simp, by go_simp, by go_simp, by go_simp⟩
  have hrd : RdB .u8 w1 A zs w1.heap.size := (HR.out.below hb1 (Nat.le_refl _)).more hb1.size
  have HS1 := hide s1
  clear h1 s1
  refine (l1New_any A n c zs w1 HN.out HZ.out hrd).mono ?_
  rintro e w2 ⟨rfl, hc2, hb2⟩
  obtain ⟨cb, hcb⟩ : ∃ cb, cb = w1.heap.size := ⟨_, rfl⟩
  rw [← hcb] at hc2 ⊢
  have hk2 := hb2.block w.heap.size (by have := HS1.out; omega)
  have hdcb : w.heap.size ≠ cb := by have := HS1.out; omega
  have hdc2 : w.heap.size < cb := by have := HS1.out; omega
  clear hcb
  have D2 := hide (And.intro ((World.cell?_of_block hk2).trans d1.1) (And.intro ((World.cell?_of_block hk2).trans d1.2.1) (And.intro ((World.frozen?_of_block hk2).trans d1.2.2.1) ((World.frozen?_of_block hk2).trans d1.2.2.2))))
  have HB2 := hide (below_go hb1 hb2)
  have s2 := hc2.lt
  have HC2 := hide hc2
  clear hrd hk2 d1 hb1 hb2 hc2
  go_wp2_with fail
  refine (l8Any_any cb w2 HC2.out).mono ?_
  rintro e w3 ⟨C, k, D, q, z, y, rfl, i1, i2, i3, i4, i5, i6, i7, i8, hc3, hg3⟩
  have D3 := hide (k3G (wr := w2) (d := w.heap.size) (by omega) hdcb (Nat.le_refl _) hg3 D2.out)
  have HI := hide (And.intro i1 (And.intro i2 (And.intro i3 (And.intro i4 (And.intro i5 (And.intro i6 i7))))))
  have HI8 := hide i8
  have HC3 := hide hc3
  have HG3 := hide hg3
  have s3 := hg3.size
  obtain ⟨n0, hn0⟩ : ∃ n0, n0 = z.length := ⟨_, rfl⟩
  obtain ⟨m0, hm0⟩ : ∃ m0, m0 = y.length := ⟨_, rfl⟩
  rw [← hn0, ← hm0]
  have HN0 := hide hn0
  have HM0 := hide hm0
  clear i1 i2 i3 i4 i5 i6 i7 i8 hc3 hg3 hn0 hm0
  go_wp2_with fail
  obtain ⟨w4, h4⟩ : ∃ W : World, W = w3.alloc (.cells #[.slice C n0 k, .slice D m0 q] 26) := ⟨_, rfl⟩
  rw [← h4]
  have hb4 : Below w3.heap.size w3 w4 := by rw [h4]; exact (Below.refl _ _).alloc (Nat.le_refl _) _
  obtain ⟨b, hb⟩ : ∃ b, b = w3.heap.size := ⟨_, rfl⟩
  have x0 : w4.cell? ⟨b, 0, none⟩ = some (.slice C n0 k) := by rw [h4, hb]; go_simp
  have x1 : w4.cell? ⟨b, 1, none⟩ = some (.slice D m0 q) := by rw [h4, hb]; go_simp
  have s4 : w4.heap.size = w3.heap.size + 1 := by rw [h4]; simp
  have lb : b < w4.heap.size := by omega
  have hbd : w.heap.size ≠ b := by omega
  have hbcb : b ≠ cb := by omega
  have hdw : w.heap.size < w4.heap.size := by omega
  have hc4 := HC3.out.below hb4 (by omega)
  have hk4 := hb4.block w.heap.size (by omega)
  have hcw4 : cb < w4.heap.size := by omega
  have D4 := hide (And.intro ((World.cell?_of_block hk4).trans D3.out.1) (And.intro ((World.cell?_of_block hk4).trans D3.out.2.1) (And.intro ((World.frozen?_of_block hk4).trans D3.out.2.2.1) ((World.frozen?_of_block hk4).trans D3.out.2.2.2))))
  rw [← hb]
  clear hb s4
  have HC4 := hide hc4
  have HB4 := hide hb4
  have h00 : (w4.cell? ⟨b, 0, none⟩ = some (.slice C n0 k) ∧ w4.cell? ⟨b, 1, none⟩ = some (.slice D m0 q)) ∧ S2 w4 w4 := ⟨⟨x0, x1⟩, Nat.le_refl _⟩
  have H00 := hide h00
  clear h4 hc4 hk4 hb4 h00 D2 D3 HC2 HC3
  go_wp2_with fail
  go_region_held3 (fun w' => (w'.cell? ⟨b, 0, none⟩ = some (.slice C n0 k) ∧ w'.cell? ⟨b, 1, none⟩ = some (.slice D m0 q)) ∧ S2 w4 w')
    (first
      | exact H00.out
      | exact k2D lb H00.out
      | assumption
      | exact k2S hbd _ (k2S hbd _ (by assumption)))
    (first
      | (go_at_call 18; (with_reducible refine (l8Who_any _ _ (HC4.out.below (Below.refl _ _).drew hcw4)).mono ?_); rintro e w5 ⟨⟨va, rfl, hva⟩, hc5, hg5⟩; have hS5 := k2G lb (by simp only [ne_eq, Option.some.injEq]; exact Ne.symm hbcb) hg5 (k2D lb H00.out))
      | (go_at_call 19; (with_reducible refine (l8Cl_any _ _ hc5).mono ?_); rintro e w6 ⟨⟨vc, rfl, hvc⟩, hc6, hg6⟩; have hS6 := k2G lb (by simp only [ne_eq, Option.some.injEq]; exact Ne.symm hbcb) hg6 hS5)
      | (go_at_call 20; (with_reducible refine (l5Slot_any _ _ hc6).mono ?_); rintro e w7 ⟨⟨vs, rfl, hvs⟩, hc7, hg7⟩; have hS7 := k2G lb (by simp only [ne_eq, Option.some.injEq]; exact Ne.symm hbcb) hg7 hS6; have hG := grown_trans (grown_below (Below.refl w4.heap.size w4).drew _) (grown_trans hg5 (grown_trans hg6 hg7)); obtain ⟨v0, v1, v2, v3⟩ := k3G (d := w.heap.size) hdw hdcb (Nat.le_refl _) hG D4.out))
  have hT : Touch [w.heap.size, cb] w3 ((w7.setCell ⟨w.heap.size, 0, none⟩ (.slice C n0 k)).setCell ⟨w.heap.size, 1, none⟩ (.slice D m0 q)) :=
    (((Touch.of_below HB4.out).trans (touch_grown hG (fun g hg => by simp only [Option.some.injEq] at hg; simp [hg]))).setCell (p := ⟨w.heap.size, 0, none⟩) (by simp) _).setCell (p := ⟨w.heap.size, 1, none⟩) (by simp) _
  have hT2 := (touch_grown (F := [w.heap.size, cb]) HG3.out (fun g hg => by simp only [Option.some.injEq] at hg; simp [hg])).trans hT
  have HF := hide (And.intro (HI8.out _ _ (fun g hg => by simp only [List.mem_cons, List.not_mem_nil, or_false] at hg; omega) hT) (Below.touch HB2.out hT2 (fun g hg => by simp only [List.mem_cons, List.not_mem_nil, or_false] at hg; omega) HB2.out.size))
  clear hT hT2 hS7 hS6 hS5 hc7 hc6 hc5 hg5 hg6 hg7 hG
  go_wp2_with fail
  refine bodyPost_ret (v := .tuple #[.agg #[.slice C n0 k, .slice D m0 q], .int .i64 va, .int .i64 vc, .int .i64 vs]) (by simp [results, Try.results5, go_sem, v0, v1]) rfl ?_
  obtain rfl := HN0.out
  obtain rfl := HM0.out
  obtain ⟨i1, i2, i3, i4, i5, i6, i7⟩ := HI.out
  exact ⟨C, k, D, q, z, y, va, vc, vs, rfl, i1, i2, i3, i4, i5, i6, i7, HF.out.1.1, HF.out.1.2, HF.out.2⟩
end Go.Proofs.Ytdhocncfpapncab
