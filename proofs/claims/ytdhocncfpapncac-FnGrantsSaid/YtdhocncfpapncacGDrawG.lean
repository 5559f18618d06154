/-
  Draws of heaps: DrawGrant.
-/
import Derived.Test.YtdhocncfpapncacGAny
namespace Go.Proofs.Ytdhocncfpapncac
open Go.RowKit
set_option linter.unusedVariables false

set_option maxRecDepth 100000 in
set_option maxHeartbeats 800000 in
theorem l4Class_any (cb : Nat) (w : World) (hcur : Cur w cb) :
    Calls Try.prog 21 #[.pointer (some ⟨cb, 0, none⟩)] w fun e w' => (∃ x : Int, e = .returned (.int .i64 x) ∧ -1 ≤ x ∧ x ≤ 4) ∧ Cur w' cb ∧ w.grownBy w' (some cb) := by
  have HC := hide hcur
  clear hcur
  go_enter Try.func21, Try.ntmps21
  go_wp2_with fail
  refine (l1Below_any _ _ _ HC.out (by omega)).mono ?_
  rintro e w2 ⟨⟨j, rfl, hj⟩, hc2, hg2⟩
  have HC2 := hide hc2
  have HG2 := hide hg2
  clear hc2 hg2
  go_wp2_with fail
  go_ret
  exact ⟨⟨_, rfl, by omega, by omega⟩, HC2.out, HG2.out⟩
/-- What DrawGrant tells. -/
def HGrant (w w' : World) (e : Ending) : Prop :=
  ∃ a k a' q x y v, e = .returned (.tuple #[.agg #[.slice (some a) x.length k, .slice (some a') y.length q], .int .i64 v]) ∧ x.length ≤ 384 ∧ y.length ≤ 7 ∧ x.length ≤ k ∧ k ≤ maxLen ∧ RdB .i64 w' (some a) x w'.heap.size ∧ RdB .i64 w' (some a') y w'.heap.size ∧ -1 ≤ v ∧ v ≤ 4 ∧ Below w.heap.size w w'
theorem k3G {wr W W' : World} {cb d : Nat} (hd : d < wr.heap.size) (hne : d ≠ cb) (hs : wr.heap.size ≤ W.heap.size) (hg : W.grownBy W' (some cb)) {u0 u1 : Value} (h : W.cell? ⟨d, 0, none⟩ = some u0 ∧ W.cell? ⟨d, 1, none⟩ = some u1 ∧ W.frozen? ⟨d, 0, none⟩ = false ∧ W.frozen? ⟨d, 1, none⟩ = false) :
    W'.cell? ⟨d, 0, none⟩ = some u0 ∧ W'.cell? ⟨d, 1, none⟩ = some u1 ∧ W'.frozen? ⟨d, 0, none⟩ = false ∧ W'.frozen? ⟨d, 1, none⟩ = false := by
  have hk := hg.block d (Nat.lt_of_lt_of_le hd hs) (by simp only [ne_eq, Option.some.injEq]; exact hne)
  exact ⟨(World.cell?_of_block hk).trans h.1, (World.cell?_of_block hk).trans h.2.1, (World.frozen?_of_block hk).trans h.2.2.1, (World.frozen?_of_block hk).trans h.2.2.2⟩
set_option maxRecDepth 100000 in
set_option maxHeartbeats 3200000 in
theorem drawGrant_any (A : Option Addr) (n c : Nat) (zs : List Int) (w : World) (hn : n = zs.length) (hz : n ≤ 1048580) (hr : RdB .u8 w A zs w.heap.size) :
    Calls Try.prog 5 #[.slice A n c] w fun e w' => HGrant w w' e := by
  have HN := hide hn
  have HZ := hide hz
  have HR := hide hr
  clear hn hz hr
  go_enter Try.func5, Try.ntmps5
  go_wp2_with fail
  obtain ⟨w1, h1⟩ : ∃ W : World, W = w.alloc (.cells #[.slice none 0 0, .slice none 0 0] 26) := ⟨_, rfl⟩
  rw [← h1]
  have hb1 : Below w.heap.size w w1 := by rw [h1]; exact (Below.refl _ _).alloc (Nat.le_refl _) _
  have s1 : w1.heap.size = w.heap.size + 1 := by rw [h1]; simp
  have d1 : w1.cell? ⟨w.heap.size, 0, none⟩ = some (.slice none 0 0) ∧ w1.cell? ⟨w.heap.size, 1, none⟩ = some (.slice none 0 0) ∧ w1.frozen? ⟨w.heap.size, 0, none⟩ = false ∧ w1.frozen? ⟨w.heap.size, 1, none⟩ = false := by rw [h1]; exact ⟨by go_simp, by go_simp, by go_simp, by go_simp⟩
  have hrd : RdB .u8 w1 A zs w1.heap.size := (HR.out.below hb1 (Nat.le_refl _)).more hb1.size
  have HS1 := hide s1
  clear h1 s1
  refine (l1New_any A n c zs w1 HN.out HZ.out hrd).mono ?_
  rintro e w2 ⟨rfl, hc2, hb2⟩
  obtain ⟨cb, hcb⟩ : ∃ cb, cb = w1.heap.size := ⟨_, rfl⟩
  rw [← hcb] at hc2 ⊢
  have hk2 := hb2.block w.heap.size (by have := HS1.out; omega)
  have hdcb : w.heap.size ≠ cb := by have := HS1.out; omega
  have hdc2 : w.heap.size < cb := by have := HS1.out; omega
  clear hcb
  have D2 := hide (And.intro ((World.cell?_of_block hk2).trans d1.1) (And.intro ((World.cell?_of_block hk2).trans d1.2.1) (And.intro ((World.frozen?_of_block hk2).trans d1.2.2.1) ((World.frozen?_of_block hk2).trans d1.2.2.2))))
  have HB2 := hide (below_of hb1 hb2)
  have s2 := hc2.lt
  have HC2 := hide hc2
  clear hrd hk2 d1 hb1 hb2 hc2
  go_wp2_with fail
  refine (l7Any_any cb w2 HC2.out).mono ?_
  rintro e w3 ⟨a, k, a', q, z, y, rfl, i1, i2, i3, i4, i8, hc3, hg3⟩
  have D3 := hide (k3G (wr := w2) (d := w.heap.size) (by omega) hdcb (Nat.le_refl _) hg3 D2.out)
  have HI := hide (And.intro i1 (And.intro i2 (And.intro i3 i4)))
  have HI8 := hide i8
  have HC3 := hide hc3
  have HG3 := hide hg3
  have s3 := hg3.size
  obtain ⟨n0, hn0⟩ : ∃ n0, n0 = z.length := ⟨_, rfl⟩
  obtain ⟨m0, hm0⟩ : ∃ m0, m0 = y.length := ⟨_, rfl⟩
  rw [← hn0, ← hm0]
  have HN0 := hide hn0
  have HM0 := hide hm0
  clear i1 i2 i3 i4 i8 hc3 hg3 hn0 hm0
  go_wp2_with fail
  obtain ⟨w4, h4⟩ : ∃ W : World, W = w3.alloc (.cells #[.slice (some a) n0 k, .slice (some a') m0 q] 26) := ⟨_, rfl⟩
  rw [← h4]
  have hb4 : Below w3.heap.size w3 w4 := by rw [h4]; exact (Below.refl _ _).alloc (Nat.le_refl _) _
  obtain ⟨b, hb⟩ : ∃ b, b = w3.heap.size := ⟨_, rfl⟩
  have x0 : w4.cell? ⟨b, 0, none⟩ = some (.slice (some a) n0 k) := by rw [h4, hb]; go_simp
  have x1 : w4.cell? ⟨b, 1, none⟩ = some (.slice (some a') m0 q) := by rw [h4, hb]; go_simp
  have s4 : w4.heap.size = w3.heap.size + 1 := by rw [h4]; simp
  have lb : b < w4.heap.size := by omega
  have hbd : w.heap.size ≠ b := by omega
  have hbcb : b ≠ cb := by omega
  have hdw : w.heap.size < w4.heap.size := by omega
  have hc4 := HC3.out.below hb4 (by omega)
  have hk4 := hb4.block w.heap.size (by omega)
  have hcw4 : cb < w4.heap.size := by omega
  have D4 := hide (And.intro ((World.cell?_of_block hk4).trans D3.out.1) (And.intro ((World.cell?_of_block hk4).trans D3.out.2.1) (And.intro ((World.frozen?_of_block hk4).trans D3.out.2.2.1) ((World.frozen?_of_block hk4).trans D3.out.2.2.2))))
  rw [← hb]
  clear hb s4
  have HC4 := hide hc4
  have HB4 := hide hb4
  have h00 : (w4.cell? ⟨b, 0, none⟩ = some (.slice (some a) n0 k) ∧ w4.cell? ⟨b, 1, none⟩ = some (.slice (some a') m0 q)) ∧ S2 w4 w4 := ⟨⟨x0, x1⟩, Nat.le_refl _⟩
  have H00 := hide h00
  clear h4 hc4 hk4 hb4 h00 D2 D3 HC2 HC3
  go_wp2_with fail
  go_region_held3 (fun w' => (w'.cell? ⟨b, 0, none⟩ = some (.slice (some a) n0 k) ∧ w'.cell? ⟨b, 1, none⟩ = some (.slice (some a') m0 q)) ∧ S2 w4 w')
    (first
      | exact H00.out
      | exact k2D lb H00.out
      | assumption
      | exact k2S hbd _ (k2S hbd _ (by assumption)))
    (first
      | (go_at_call 21; (with_reducible refine (l4Class_any _ _ (by first | exact HC4.out | exact HC4.out.below (Below.refl _ _).drew hcw4)).mono ?_); rintro e w7 ⟨⟨va, rfl, hva⟩, hc7, hg7⟩; have hS7 := k2G lb (by simp only [ne_eq, Option.some.injEq]; exact Ne.symm hbcb) hg7 (by first | exact H00.out | exact k2D lb H00.out); have hG : w4.grownBy w7 (some cb) := (by first | exact hg7 | exact grown_trans (grown_below (Below.refl w4.heap.size w4).drew _) hg7); obtain ⟨v0, v1, v2, v3⟩ := k3G (d := w.heap.size) hdw hdcb (Nat.le_refl _) hG D4.out))
  have hT : Touch [w.heap.size, cb] w3 ((w7.setCell ⟨w.heap.size, 0, none⟩ (.slice (some a) n0 k)).setCell ⟨w.heap.size, 1, none⟩ (.slice (some a') m0 q)) :=
    (((Touch.of_below HB4.out).trans (touch_grown hG (fun g hg => by simp only [Option.some.injEq] at hg; simp [hg]))).setCell (p := ⟨w.heap.size, 0, none⟩) (by simp) _).setCell (p := ⟨w.heap.size, 1, none⟩) (by simp) _
  have hT2 := (touch_grown (F := [w.heap.size, cb]) HG3.out (fun g hg => by simp only [Option.some.injEq] at hg; simp [hg])).trans hT
  have HF := hide (And.intro (HI8.out _ _ (fun g hg => by simp only [List.mem_cons, List.not_mem_nil, or_false] at hg; omega) hT) (Below.touch HB2.out hT2 (fun g hg => by simp only [List.mem_cons, List.not_mem_nil, or_false] at hg; omega) HB2.out.size))
  clear hT hT2 hS7 hc7 hg7 hG
  go_wp2_with fail
  refine bodyPost_ret (v := .tuple #[.agg #[.slice (some a) n0 k, .slice (some a') m0 q], .int .i64 va]) (by simp [results, Try.results5, go_sem, v0, v1]) rfl ?_
  obtain rfl := HN0.out
  obtain rfl := HM0.out
  obtain ⟨i1, i2, i3, i4⟩ := HI.out
  exact ⟨a, k, a', q, z, y, va, rfl, i1, i2, i3, i4, HF.out.1.1, HF.out.1.2, hva.1, hva.2, HF.out.2⟩
end Go.Proofs.Ytdhocncfpapncac
