/-
  Grant: the reference's contract.
-/
import Derived.Test.YtdhocncfpapncacGrant
namespace Go.Proofs.Ytdhocncfpapncac
open Go.RowKit
set_option linter.unusedVariables false

def clsOk (c : Int) : Bool := decide (0 ≤ c ∧ c ≤ 2)
def gOk (x y : List Int) (c : Int) : Bool := hokR x y && clsOk c
def gX (x y : List Int) (c : Int) : List Int := if gOk x y c then grX x y c else x
def gY (x y : List Int) (c : Int) : List Int := if gOk x y c then grY y c else y
def gS (x y : List Int) (c : Int) : List Int := if gOk x y c then grS y c else []
theorem grX_length (x y : List Int) (c : Int) : (grX x y c).length = x.length := by
  unfold grX
  split
  · exact gbN_length _ _ _ _
  · rfl
theorem grY_length (y : List Int) (c : Int) : (grY y c).length = y.length := by
  unfold grY
  split
  · simp
  · rfl
theorem gX_length (x y : List Int) (c : Int) : (gX x y c).length = x.length := by unfold gX; split <;> simp [grX_length]
theorem gY_length (x y : List Int) (c : Int) : (gY x y c).length = y.length := by unfold gY; split <;> simp [grY_length]
theorem l1InC_any (v : Int) (w : World) : Calls Try.prog 34 #[.int .i64 v, .int .i64 0, .int .i64 2] w fun e w' => e = .returned (.bool (clsOk v)) ∧ w = w' := by
  by_cases h : 0 ≤ v ∧ v ≤ 2
  · have HT : clsOk v = true := by simpa [clsOk] using h
    rw [HT]; exact l1In_yes _ _ _ _ h.1 h.2
  · have HT : clsOk v = false := by simpa [clsOk] using h
    rw [HT]; exact l1In_no _ _ _ _ h
/-- The result's cells laid over the copy, no slot granted: the end. -/
theorem St.finN {w W : World} {b r t : Nat} {u0 u1 : Value} {B : Option Addr} {n d : Nat} {B' : Option Addr} {n' d' : Nat} {F F' : List Nat} {x y : List Int} (h : St w W b r t u0 u1 B n d B' n' d' F F' x y) (v0 v1 : Value) (A : Option Addr) :
    CopyH w (((W.setCell ⟨r, 0, none⟩ v0).setCell ⟨r, 1, none⟩ v1).alloc (.cells #[] 3)) n n' x y B d F B' d' F' ∧ Own 3 (((W.setCell ⟨r, 0, none⟩ v0).setCell ⟨r, 1, none⟩ v1).alloc (.cells #[] 3)) (.slice A 0 0) (ints []) [] := by
  obtain ⟨h1, h2, h3, h4, h5⟩ := h.fin v0 v1
  have ha := (Below.refl ((W.setCell ⟨r, 0, none⟩ v0).setCell ⟨r, 1, none⟩ v1).heap.size ((W.setCell ⟨r, 0, none⟩ v0).setCell ⟨r, 1, none⟩ v1)).alloc (Nat.le_refl _) (.cells #[] 3)
  exact ⟨⟨h1.below ha, h2.below ha, h3, h4, h5.trans (ha.mono h5.size)⟩, own_nil _⟩
set_option maxRecDepth 100000 in
set_option maxHeartbeats 3200000 in
theorem specGrant_any (A A' : Option Addr) (n c n' c' : Nat) (x y : List Int) (v : Int) (w : World) (hn : n = x.length) (hn' : n' = y.length) (hz : n ≤ 1048576) (hz' : n' ≤ 1048576) (hc : n ≤ c) (hcm : c ≤ maxLen) (ha : RdB .i64 w A x w.heap.size) (ha' : RdB .i64 w A' y w.heap.size) :
    Calls Try.prog 59 #[.agg #[.slice A n c, .slice A' n' c'], .int .i64 v] w fun e w' => GRes w w' e n n' (gX x y v) (gY x y v) (gS x y v) := by
  have HN := hide hn
  have HN' := hide hn'
  have HA := hide ha
  have HA' := hide ha'
  clear hn hn' ha ha'
  go_enter Try.func59, Try.ntmps59
  go_wp2_with fail
  obtain ⟨w1, hW⟩ : ∃ W : World, W = (w.alloc (.cells #[.slice A n c, .slice A' n' c'] 26)).alloc (.cells #[.slice none 0 0, .slice none 0 0] 26) := ⟨_, rfl⟩
  rw [← hW]
  have HB1 : Hid (Below w.heap.size w w1) := hide (by rw [hW]; exact ((Below.refl _ _).alloc (Nat.le_refl _) _).alloc (by simp) _)
  have b0 : w1.cell? ⟨w.heap.size, 0, none⟩ = some (.slice A n c) := by rw [hW]; go_simp
  have b1 : w1.cell? ⟨w.heap.size, 1, none⟩ = some (.slice A' n' c') := by rw [hW]; go_simp
  have r0 : w1.cell? ⟨w.heap.size + 1, 0, none⟩ = some (.slice none 0 0) := by rw [hW]; go_simp
  have r1 : w1.cell? ⟨w.heap.size + 1, 1, none⟩ = some (.slice none 0 0) := by rw [hW]; go_simp
  have f0 : w1.frozen? ⟨w.heap.size + 1, 0, none⟩ = false := by rw [hW]; go_simp
  have f1 : w1.frozen? ⟨w.heap.size + 1, 1, none⟩ = false := by rw [hW]; go_simp
  have t0 : w.heap.size < w1.heap.size := by rw [hW]; simp <;> omega
  have t1 : w.heap.size + 1 < w1.heap.size := by rw [hW]; simp <;> omega
  clear hW
  refine (l7Copy_any A A' n c n' c' x y w1 HN.out HN'.out hz hz' ((HA.out.below HB1.out (Nat.le_refl _)).more HB1.out.size) ((HA'.out.below HB1.out (Nat.le_refl _)).more HB1.out.size)).mono ?_
  rintro e w2 ⟨B, d, F, B', d', F', rfl, hC⟩
  have k0 : w2.cell? ⟨w.heap.size, 0, none⟩ = some (.slice A n c) := (hC.2.2.2.2.cell t0).trans b0
  have k1 : w2.cell? ⟨w.heap.size, 1, none⟩ = some (.slice A' n' c') := (hC.2.2.2.2.cell t0).trans b1
  have HST := hide (St.of_copy hC HB1.out t0 t1 (by omega) b0 b1 r0 r1 f0 f1)
  have tz2 := hC.2.2.2.2.size
  have t2 : w.heap.size < w2.heap.size := by omega
  clear hC b0 b1 r0 r1 f0 f1
  go_wp2_with fail
  obtain ⟨w3, hW⟩ : ∃ W : World, W = w2.alloc (.cells #[.slice B n d, .slice B' n' d'] 26) := ⟨_, rfl⟩
  rw [← hW] at HST ⊢
  clear hW k0 k1
  have hbw3 := HST.out.bel
  refine (specHeapOk_any _ _ _ _ _ _ x y _ HN.out HN'.out hz hz' hc hcm (rdB_at HA.out hbw3) (rdB_at HA'.out hbw3)).mono ?_
  rintro e w4 ⟨rfl, hb⟩
  have HS4 := hide (HST.out.below hb)
  clear hb hbw3 HST
  have s0 := HS4.out.s0
  have s1 := HS4.out.s1
  have r0 := HS4.out.r0
  have r1 := HS4.out.r1
  have f0 := HS4.out.f0
  have f1 := HS4.out.f1
  have lr := HS4.out.lr
  cases hh : hokR x y
  · have HX : Hid (gOk x y v = false) := hide (by unfold gOk; rw [hh]; rfl)
    clear hh
    go_wp2
    obtain ⟨h1, h2⟩ := HS4.out.finN (.slice B n d) (.slice B' n' d') (some ⟨w4.heap.size, 0, none⟩)
    exact bodyPost_ret (v := .tuple #[.agg #[.slice B n d, .slice B' n' d'], .slice (some ⟨w4.heap.size, 0, none⟩) 0 0]) (by simp [results, Try.results59, go_sem, r0, r1, lr]) rfl
      ⟨B, d, F, B', d', F', _, _, [], by unfold gS; rw [HX.out]; rfl, by unfold gX gY; rw [HX.out]; exact h1, by unfold gS; rw [HX.out]; exact h2, fun g hg => by cases hg⟩
  go_wp2_with fail
  refine (l1InC_any _ _).mono ?_
  rintro e w5 ⟨rfl, rfl⟩
  cases hv : clsOk v
  · have HX : Hid (gOk x y v = false) := hide (by unfold gOk; rw [hv]; simp)
    clear hv
    go_wp2
    obtain ⟨h1, h2⟩ := HS4.out.finN (.slice B n d) (.slice B' n' d') (some ⟨w4.heap.size, 0, none⟩)
    exact bodyPost_ret (v := .tuple #[.agg #[.slice B n d, .slice B' n' d'], .slice (some ⟨w4.heap.size, 0, none⟩) 0 0]) (by simp [results, Try.results59, go_sem, r0, r1, lr]) rfl
      ⟨B, d, F, B', d', F', _, _, [], by unfold gS; rw [HX.out]; rfl, by unfold gX gY; rw [HX.out]; exact h1, by unfold gS; rw [HX.out]; exact h2, fun g hg => by cases hg⟩
  have HX : Hid (gOk x y v = true) := hide (by unfold gOk; rw [hh, hv]; rfl)
  have hv2 : 0 ≤ v ∧ v ≤ 2 := by simpa [clsOk] using hv
  have hs : shapeR x y = true := by
    unfold hokR at hh
    rw [Bool.and_eq_true] at hh
    exact hh.1
  obtain ⟨p1, p2, -, -⟩ := shape_parts hs
  have e384 : n = 384 := by have := HN.out; omega
  have e6 : n' = 6 := by have := HN'.out; omega
  subst e384 e6
  clear hh hv hs p1 p2
  go_wp2_with fail
  refine (l7Grant_any w w4 B B' d d' F F' x y v hv2.1 hv2.2 HN.out HN'.out HS4.out.own HS4.out.own' HS4.out.ff HS4.out.lo HS4.out.bel).mono ?_
  rintro e w6 ⟨S, cs, G, rfl, hC, hO, hG, ht⟩
  have hnr : ∀ k j, k < w4.heap.size → k ∉ F ++ F' → w6.cell? ⟨k, j, none⟩ = w4.cell? ⟨k, j, none⟩ := fun k j hk hn => World.cell?_of_block (ht.block k hk hn)
  have hnf : ∀ k j, k < w4.heap.size → k ∉ F ++ F' → w6.frozen? ⟨k, j, none⟩ = w4.frozen? ⟨k, j, none⟩ := fun k j hk hn => World.frozen?_of_block (ht.block k hk hn)
  have hrF : w.heap.size + 1 ∉ F ++ F' := fun hm => (List.mem_append.1 hm).elim HS4.out.nr HS4.out.nr'
  have q0 := (hnr _ 0 lr hrF).trans r0
  have q1 := (hnr _ 1 lr hrF).trans r1
  have q2 := (hnf _ 0 lr hrF).trans f0
  have q3 := (hnf _ 1 lr hrF).trans f1
  have lr6 : w.heap.size + 1 < w6.heap.size := Nat.lt_of_lt_of_le lr ht.size
  have HC := hide hC
  have HO := hide hO
  have HG := hide hG
  have hGl := hO.lt
  have HGL := hide hGl
  clear hC hO hG ht hnr hnf s0 s1 r0 r1 f0 f1 hGl
  go_wp2
  have hne : ∀ g, g ∈ F ++ F' → g ≠ w.heap.size + 1 := fun g hg he => hrF (by rw [← he]; exact hg)
  have hneG : ∀ g, g ∈ G → g ≠ w.heap.size + 1 := fun g hg he => by have := (HG.out g hg).1; omega
  obtain ⟨h1, h2, h3, h4, h5⟩ := HC.out
  have ht : Touch [w.heap.size + 1] w6 ((w6.setCell ⟨w.heap.size + 1, 0, none⟩ (.slice B 384 d)).setCell ⟨w.heap.size + 1, 1, none⟩ (.slice B' 6 d')) := ((Touch.refl _ _).setCell (by simp) _).setCell (by simp) _
  have hz := ht.size
  have ha := (Below.refl ((w6.setCell ⟨w.heap.size + 1, 0, none⟩ (.slice B 384 d)).setCell ⟨w.heap.size + 1, 1, none⟩ (.slice B' 6 d')).heap.size ((w6.setCell ⟨w.heap.size + 1, 0, none⟩ (.slice B 384 d)).setCell ⟨w.heap.size + 1, 1, none⟩ (.slice B' 6 d'))).alloc (Nat.le_refl _) (.cells #[.slice B 384 d, .slice B' 6 d'] 26)
  have hb6 := Below.touch h5 ht (by simp) h5.size
  have ex : gX x y v = grX x y v := by unfold gX; rw [HX.out]; rfl
  have ey : gY x y v = grY y v := by unfold gY; rw [HX.out]; rfl
  have es : gS x y v = grS y v := by unfold gS; rw [HX.out]; rfl
  have hw4 : w.heap.size ≤ w4.heap.size := HS4.out.bel.size
  exact bodyPost_ret (v := .tuple #[.agg #[.slice B 384 d, .slice B' 6 d'], .slice S (grS y v).length cs]) (by simp [results, Try.results59, go_sem, q0, q1, lr6]) rfl
    ⟨B, d, F, B', d', F', S, cs, G, by rw [es], by
      rw [ex, ey]
      exact ⟨(h1.touch ht (fun g hg => by simpa using hne g (List.mem_append_left _ hg))).below ha, (h2.touch ht (fun g hg => by simpa using hne g (List.mem_append_right _ hg))).below ha, h3, h4, hb6.trans (ha.mono hb6.size)⟩, by
      rw [es]
      exact (HO.out.touch ht (fun g hg => by simpa using hneG g hg)).below ha, fun g hg => ⟨Nat.le_trans hw4 (HG.out g hg).1, (HG.out g hg).2⟩⟩
end Go.Proofs.Ytdhocncfpapncac
