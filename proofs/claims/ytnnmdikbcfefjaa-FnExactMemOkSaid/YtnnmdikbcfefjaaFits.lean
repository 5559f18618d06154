/-
  Do the slots of a list fit a class? l9Listed of the reference, listFits of the program.
-/
import Derived.Test.YtnnmdikbcfefjaaHeapOk
import Derived.Test.YtnnmdikbcfefjaaGenIn
import Derived.Deep.LoopGhost
import Derived.Deep.RegionLaw
namespace Go.Proofs.Ytnnmdikbcfefjaa
open Go.RowKit
set_option linter.unusedVariables false

def okSl (x y : List Int) (c s : Int) : Bool := decide (clR y s = c) && decide (genInR x y s ≤ 6)
def listR (x y : List Int) (c : Int) (zs : List Int) : Bool := zs.all (okSl x y c)
theorem listR_bad {x y : List Int} {c : Int} {zs : List Int} {k : Nat} (hk : k < zs.length) (h : okSl x y c (zs.getD k 0) = false) : listR x y c zs = false := by
  unfold listR
  rw [List.all_eq_false]
  have e : zs.getD k 0 = zs[k] := by simp [List.getD, hk]
  exact ⟨zs[k], List.getElem_mem _, by rw [← e, h]; simp⟩
theorem listR_good {x y : List Int} {c : Int} {zs : List Int} (h : ∀ j, j < zs.length → okSl x y c (zs.getD j 0) = true) : listR x y c zs = true := by
  unfold listR
  rw [List.all_eq_true]
  intro s hs
  obtain ⟨j, hj, rfl⟩ := List.getElem_of_mem hs
  have e : zs.getD j 0 = zs[j] := by simp [List.getD, hj]
  rw [← e]
  exact h j hj
/-- A heap of the right shape that can be read. -/
structure HR (w : World) (A A' : Option Addr) (c c' : Nat) (x y : List Int) : Prop where
  sh : shapeR x y = true
  hc : 384 ≤ c
  hcm : c ≤ maxLen
  ra : RdB .i64 w A x w.heap.size
  ra' : RdB .i64 w A' y w.heap.size
theorem HR.below {w w' : World} {A A' : Option Addr} {c c' : Nat} {x y : List Int} (h : HR w A A' c c' x y) (hb : Below w.heap.size w w') : HR w' A A' c c' x y :=
  ⟨h.sh, h.hc, h.hcm, (h.ra.below hb (Nat.le_refl _)).more hb.size, (h.ra'.below hb (Nat.le_refl _)).more hb.size⟩
theorem HR.len {w : World} {A A' : Option Addr} {c c' : Nat} {x y : List Int} (h : HR w A A' c c' x y) : 384 = x.length ∧ 6 = y.length := by
  have := shape_parts h.sh; exact ⟨this.1.symm, this.2.1.symm⟩
theorem HR.cl {w : World} {A A' : Option Addr} {c c' : Nat} {x y : List Int} (h : HR w A A' c c' x y) (s : Int) : classAtR x y s = clR y s := by unfold classAtR; rw [if_pos h.sh]
/-- The contracts of a slot's class and generation, over a heap of the right shape. -/
theorem HR.sclass {w : World} {A A' : Option Addr} {c c' : Nat} {x y : List Int} (h : HR w A A' c c' x y) (s : Int) : Calls Try.prog 29 #[.agg #[.slice A 384 c, .slice A' 6 c'], .int .i64 s] w fun e w' => e = .returned (.int .i64 (clR y s)) ∧ Below w.heap.size w w' :=
  specClass_any A A' 384 c c' y s w h.len.2 h.ra'
theorem HR.iclass {w : World} {A A' : Option Addr} {c c' : Nat} {x y : List Int} (h : HR w A A' c c' x y) (s : Int) : Calls Try.prog 37 #[.agg #[.slice A 384 c, .slice A' 6 c'], .int .i64 s] w fun e w' => e = .returned (.int .i64 (clR y s)) ∧ Below w.heap.size w w' :=
  implClass_any A A' 384 c c' y s w h.len.2 h.ra'
theorem HR.sgen {w : World} {A A' : Option Addr} {c c' : Nat} {x y : List Int} (h : HR w A A' c c' x y) (s : Int) (h0 : 0 ≤ clR y s) : Calls Try.prog 30 #[.agg #[.slice A 384 c, .slice A' 6 c'], .int .i64 s] w fun e w' => e = .returned (.int .i64 (genInR x y s)) ∧ Below w.heap.size w w' := by
  obtain ⟨hbk, h384, h6, hcl, r, hg, hr⟩ := genIn_parts (h.cl s) h0
  have hx : genInR x y s = ldR x r 4 := by unfold genInR; rw [h.cl s, if_neg (by omega), hg]; simp
  rw [hx]
  exact specGen_any A A' c c' x y s _ r w h384 h6 hbk hcl hg hr h.hc h.hcm h.ra h.ra'
theorem HR.igen {w : World} {A A' : Option Addr} {c c' : Nat} {x y : List Int} (h : HR w A A' c c' x y) (s : Int) : Calls Try.prog 38 #[.agg #[.slice A 384 c, .slice A' 6 c'], .int .i64 s] w fun e w' => e = .returned (.int .i64 (genInR x y s)) ∧ Below w.heap.size w w' :=
  implGenIn_any A A' 384 c 6 c' x y s w h.len.1 h.len.2 (by omega) (by omega) h.hc h.hcm h.ra h.ra'
theorem keep31 {wK W W' : World} {p q r : Addr} {u0 u1 u2 : Value} (hp : p.block < wK.heap.size) (hq : q.block < wK.heap.size) (hr : r.block < wK.heap.size)
    (hb : Below W.heap.size W W') (h : (W.cell? p = some u0 ∧ W.cell? q = some u1 ∧ W.cell? r = some u2) ∧ Below wK.heap.size wK W) :
    (W'.cell? p = some u0 ∧ W'.cell? q = some u1 ∧ W'.cell? r = some u2) ∧ Below wK.heap.size wK W' := by
  have hz := h.2.size
  obtain ⟨⟨h0, h1, h2⟩, hB⟩ := h
  exact ⟨⟨by rw [hb.cell (by omega)]; exact h0, by rw [hb.cell (by omega)]; exact h1, by rw [hb.cell (by omega)]; exact h2⟩, hB.trans (hb.mono hz)⟩
theorem named3 {C : World → Prop} {wK W : World} (h : C W ∧ Below wK.heap.size wK W) : ∃ V, V = W ∧ C V ∧ Below wK.heap.size wK V := ⟨W, rfl, h.1, h.2⟩
set_option maxRecDepth 100000 in
set_option maxHeartbeats 3200000 in
theorem l9Listed_any (A A' L : Option Addr) (c c' n d : Nat) (x y zs : List Int) (k0 : Int) (w : World) (h : HR w A A' c c' x y) (hk0 : 0 ≤ k0) (hn : n = zs.length) (hz : n ≤ 1048576) (hr : RdB .i64 w L zs w.heap.size) :
    Calls Try.prog 13 #[.agg #[.slice A 384 c, .slice A' 6 c'], .slice L n d, .int .i64 k0] w fun e w' => e = .returned (.bool (listR x y k0 zs)) ∧ Below w.heap.size w w' := by
  have HN := hide hn
  have hzi : (n : Int) ≤ 1048576 := by omega
  have H0 := hide h
  have HRD := hide hr
  clear hn hz h hr
  go_enter Try.func13, Try.ntmps13
  go_wp2_with fail
  obtain ⟨w1, hW⟩ : ∃ W : World, W = w.alloc (.cells #[.slice A 384 c, .slice A' 6 c'] 32) := ⟨_, rfl⟩
  rw [← hW]
  have HB1 : Hid (Below w.heap.size w w1) := hide (by rw [hW]; exact (Below.refl _ _).alloc (Nat.le_refl _) _)
  have b0 : w1.cell? ⟨w.heap.size, 0, none⟩ = some (.slice A 384 c) := by rw [hW]; go_simp
  have b1 : w1.cell? ⟨w.heap.size, 1, none⟩ = some (.slice A' 6 c') := by rw [hW]; go_simp
  have t0 : w.heap.size < w1.heap.size := by rw [hW]; simp
  have HBX := hide (And.intro b0 (And.intro b1 t0))
  clear hW b0 b1 t0
  go_wp2
  go_loopg [7] (n + 1) (fun gk i wo => ∃ wr : World, wr = wo ∧ ∃ k : Nat, k ≤ n ∧ gk = n + 1 - k ∧ i = .int .i64 (k : Int) ∧ Below w1.heap.size w1 wr ∧ ∀ j, j < k → okSl x y k0 (zs.getD j 0) = true)
  case atStart => exact ⟨_, rfl, 0, Nat.zero_le _, rfl, rfl, Below.refl _ _, fun j hj => absurd hj (by omega)⟩
  case round =>
    obtain ⟨wr, rfl, k, hk, hg, rfl, hB, hall⟩ := hrel
    have HG := hide hg
    have HB := hide hB
    have HALL := hide hall
    clear hg hB hall
    by_cases hlt : k < n
    · have hi : (k : Int) < (n : Int) := by omega
      have HBW := hide (HB1.out.trans (HB.out.mono HB1.out.size))
      have HH := hide (H0.out.below HBW.out)
      obtain ⟨b, off, rfl, hb, hc⟩ := ((HRD.out.below HBW.out (Nat.le_refl _)).more HBW.out.size) k (by have := HN.out; omega)
      obtain ⟨s, hs⟩ : ∃ s, s = zs.getD k 0 := ⟨_, rfl⟩
      rw [← hs] at hc
      have HS := hide hs
      have k0' : wr.cell? ⟨w.heap.size, 0, none⟩ = some (.slice A 384 c) := by rw [HB.out.cell HBX.out.2.2]; exact HBX.out.1
      have k1' : wr.cell? ⟨w.heap.size, 1, none⟩ = some (.slice A' 6 c') := by rw [HB.out.cell HBX.out.2.2]; exact HBX.out.2.1
      have t0 : w.heap.size < wr.heap.size := Nat.lt_of_lt_of_le HBX.out.2.2 HB.out.size
      have HCL : Hid (∀ W, Below wr.heap.size wr W → Calls Try.prog 29 #[.agg #[.slice A 384 c, .slice A' 6 c'], .int .i64 s] W fun e w' => e = .returned (.int .i64 (clR y s)) ∧ Below W.heap.size W w') := hide fun W hb => (HH.out.below hb).sclass s
      clear hs
      obtain ⟨v, hv⟩ : ∃ v, v = clR y s := ⟨_, rfl⟩
      rw [← hv] at HCL
      have HV := hide hv
      clear hv
      by_cases hvk : v = k0
      · subst hvk
        have HGN : Hid (∀ W, Below wr.heap.size wr W → Calls Try.prog 30 #[.agg #[.slice A 384 c, .slice A' 6 c'], .int .i64 s] W fun e w' => e = .returned (.int .i64 (genInR x y s)) ∧ Below W.heap.size W w') := hide fun W hb => (HH.out.below hb).sgen s (by rw [← HV.out]; exact hk0)
        obtain ⟨gv, hgv⟩ : ∃ gv, gv = genInR x y s := ⟨_, rfl⟩
        rw [← hgv] at HGN
        have HGV := hide hgv
        clear hgv
        go_wp2_with fail
        go_region_held3 (fun w' => (w'.cell? ⟨w.heap.size, 0, none⟩ = some (.slice A 384 c) ∧ w'.cell? ⟨w.heap.size, 1, none⟩ = some (.slice A' 6 c') ∧ w'.cell? ⟨b, off + k, none⟩ = some (.int .i64 s)) ∧ Below wr.heap.size wr w')
          (first | assumption | (exact keep31 t0 t0 hb (by assumption) (by assumption)) | (exact ⟨⟨k0', k1', hc⟩, (Below.refl _ _).drew⟩))
          (first
            | (go_at_call 29; refine (HCL.out _ (And.right (by assumption))).mono ?_; rintro e w' ⟨rfl, hb2⟩)
            | (go_at_call 30; refine (HGN.out _ (And.right (by assumption))).mono ?_; rintro e w' ⟨rfl, hb2⟩))
        have hS := ‹(_ ∧ _) ∧ Below wr.heap.size wr _›
        obtain ⟨w2, rfl, -, hb3⟩ := named3 (C := fun W => (W.cell? ⟨w.heap.size, 0, none⟩ = some (.slice A 384 c) ∧ W.cell? ⟨w.heap.size, 1, none⟩ = some (.slice A' 6 c') ∧ W.cell? ⟨b, off + k, none⟩ = some (.int .i64 s))) hS
        clear hS
        have HB2 := hide (HB.out.trans (hb3.mono HB.out.size))
        clear hb3 hc k0' k1' HCL HGN
        by_cases h6 : (6 : Int) < gv
        · have HX := hide (listR_bad (x := x) (y := y) (c := v) (zs := zs) (k := k) (by have := HN.out; omega) (by
            have hd : decide (genInR x y s ≤ 6) = false := decide_eq_false (by rw [← HGV.out]; omega)
            unfold okSl; rw [← HS.out, hd, Bool.and_false]))
          have HBW2 := hide (HB1.out.trans (HB2.out.mono HB1.out.size))
          go_wp2
          go_ret
          exact ⟨retB HX.out.symm, HBW2.out⟩
        · have HX : Hid (okSl x y v s = true) := hide (by
            have hd : decide (genInR x y s ≤ 6) = true := decide_eq_true (by rw [← HGV.out]; omega)
            unfold okSl; rw [decide_eq_true HV.out.symm, hd]; rfl)
          go_wp2
          go_roundg (n + 1 - (k + 1))
          case measure => have := HG.out; omega
          case rel => exact ⟨_, rfl, k + 1, by omega, rfl, by go_num, HB2.out, fun j hj => by
            by_cases e : j = k
            · subst e; rw [← HS.out]; exact HX.out
            · exact HALL.out j (by omega)⟩
      · have hvb : (v != k0) = true := by rw [bne_iff_ne]; exact hvk
        have HX := hide (listR_bad (x := x) (y := y) (c := k0) (zs := zs) (k := k) (by have := HN.out; omega) (by
          unfold okSl; rw [← HS.out, decide_eq_false (fun e => hvk (HV.out.trans e)), Bool.false_and]))
        clear hvk
        go_wp2_with fail
        first
          | (go_region_law (go_simp; go_at_call 29; refine (HCL.out _ (Below.refl _ _).drew).mono ?_; rintro e w' ⟨rfl, hb2⟩; dsimp only))
          | fail
        all_goals
          have HBW2 := hide (HB1.out.trans ((HB.out.trans (Below.trans (Below.refl _ _).drew hb2 |>.mono HB.out.size)).mono HB1.out.size))
          clear hb2
          go_wp2
          go_ret
          exact ⟨retB HX.out.symm, HBW2.out⟩
    · have hi : ¬ (k : Int) < (n : Int) := by omega
      have HT := hide (listR_good (x := x) (y := y) (c := k0) (zs := zs) (fun j hj => HALL.out j (by have := HN.out; omega)))
      have HBW := hide (HB1.out.trans (HB.out.mono HB1.out.size))
      go_wp2
      go_ret
      exact ⟨retB HT.out.symm, HBW.out⟩
set_option maxRecDepth 100000 in
set_option maxHeartbeats 3200000 in
theorem listFits_any (A A' L : Option Addr) (c c' n d : Nat) (x y zs : List Int) (k0 : Int) (w : World) (h : HR w A A' c c' x y) (hk0 : 0 ≤ k0) (hn : n = zs.length) (hz : n ≤ 1048576) (hr : RdB .i64 w L zs w.heap.size) :
    Calls Try.prog 19 #[.agg #[.slice A 384 c, .slice A' 6 c'], .agg #[.slice L n d], .int .i64 k0] w fun e w' => e = .returned (.bool (listR x y k0 zs)) ∧ Below w.heap.size w w' := by
  have HN := hide hn
  have hzi : (n : Int) ≤ 1048576 := by omega
  have H0 := hide h
  have HRD := hide hr
  clear hn hz h hr
  go_enter Try.func19, Try.ntmps19
  go_wp2_with fail
  obtain ⟨w1, hW⟩ : ∃ W : World, W = (w.alloc (.cells #[.slice A 384 c, .slice A' 6 c'] 32)).alloc (.cells #[.slice L n d] 47) := ⟨_, rfl⟩
  rw [← hW]
  have HB1 : Hid (Below w.heap.size w w1) := hide (by rw [hW]; exact ((Below.refl _ _).alloc (Nat.le_refl _) _).alloc (by simp) _)
  have b0 : w1.cell? ⟨w.heap.size, 0, none⟩ = some (.slice A 384 c) := by rw [hW]; go_simp
  have b1 : w1.cell? ⟨w.heap.size, 1, none⟩ = some (.slice A' 6 c') := by rw [hW]; go_simp
  have t0 : w.heap.size < w1.heap.size := by rw [hW]; simp <;> omega
  have HBX := hide (And.intro b0 (And.intro b1 t0))
  clear hW b0 b1 t0
  go_loopg [12] (n + 1) (fun gk i wo => ∃ wr : World, wr = wo ∧ ∃ k : Nat, k ≤ n ∧ gk = n + 1 - k ∧ i = .int .i64 (k : Int) ∧ Below w1.heap.size w1 wr ∧ ∀ j, j < k → okSl x y k0 (zs.getD j 0) = true)
  case atStart => exact ⟨_, rfl, 0, Nat.zero_le _, rfl, rfl, Below.refl _ _, fun j hj => absurd hj (by omega)⟩
  case round =>
    obtain ⟨wr, rfl, k, hk, hg, rfl, hB, hall⟩ := hrel
    have HG := hide hg
    have HB := hide hB
    have HALL := hide hall
    clear hg hB hall
    by_cases hlt : k < n
    · have hi : (k : Int) < (n : Int) := by omega
      have HBW := hide (HB1.out.trans (HB.out.mono HB1.out.size))
      have HH := hide (H0.out.below HBW.out)
      obtain ⟨b, off, rfl, hb, hc⟩ := ((HRD.out.below HBW.out (Nat.le_refl _)).more HBW.out.size) k (by have := HN.out; omega)
      obtain ⟨s, hs⟩ : ∃ s, s = zs.getD k 0 := ⟨_, rfl⟩
      rw [← hs] at hc
      have HS := hide hs
      have k0' : wr.cell? ⟨w.heap.size, 0, none⟩ = some (.slice A 384 c) := by rw [HB.out.cell HBX.out.2.2]; exact HBX.out.1
      have k1' : wr.cell? ⟨w.heap.size, 1, none⟩ = some (.slice A' 6 c') := by rw [HB.out.cell HBX.out.2.2]; exact HBX.out.2.1
      have t0 : w.heap.size < wr.heap.size := Nat.lt_of_lt_of_le HBX.out.2.2 HB.out.size
      clear hs
      obtain ⟨v, hv⟩ : ∃ v, v = clR y s := ⟨_, rfl⟩
      have HV := hide hv
      clear hv
      go_wp2_with fail
      refine (HH.out.iclass s).mono ?_
      rintro e w2 ⟨rfl, hb2⟩
      rw [← HV.out]
      have y0 : w2.cell? ⟨w.heap.size, 0, none⟩ = some (.slice A 384 c) := by rw [hb2.cell t0]; exact k0'
      have y1 : w2.cell? ⟨w.heap.size, 1, none⟩ = some (.slice A' 6 c') := by rw [hb2.cell t0]; exact k1'
      have HB2 := hide (HB.out.trans (hb2.mono HB.out.size))
      have HH2 := hide (HH.out.below hb2)
      clear hb2 k0' k1' hc
      by_cases hvk : v = k0
      · subst hvk
        obtain ⟨gv, hgv⟩ : ∃ gv, gv = genInR x y s := ⟨_, rfl⟩
        have HGV := hide hgv
        clear hgv
        go_wp2_with fail
        refine (HH2.out.igen s).mono ?_
        rintro e w3 ⟨rfl, hb3⟩
        rw [← HGV.out]
        have HB3 := hide (HB2.out.trans (hb3.mono HB2.out.size))
        clear hb3 y0 y1
        by_cases h6 : (6 : Int) < gv
        · have HX := hide (listR_bad (x := x) (y := y) (c := v) (zs := zs) (k := k) (by have := HN.out; omega) (by
            have hd : decide (genInR x y s ≤ 6) = false := decide_eq_false (by rw [← HGV.out]; omega)
            unfold okSl; rw [← HS.out, hd, Bool.and_false]))
          have HBW2 := hide (HB1.out.trans (HB3.out.mono HB1.out.size))
          go_wp2
          go_ret
          exact ⟨retB HX.out.symm, HBW2.out⟩
        · have HX : Hid (okSl x y v s = true) := hide (by
            have hd : decide (genInR x y s ≤ 6) = true := decide_eq_true (by rw [← HGV.out]; omega)
            unfold okSl; rw [decide_eq_true HV.out.symm, hd]; rfl)
          go_wp2
          go_roundg (n + 1 - (k + 1))
          case measure => have := HG.out; omega
          case rel => exact ⟨_, rfl, k + 1, by omega, rfl, by go_num, HB3.out, fun j hj => by
            by_cases e : j = k
            · subst e; rw [← HS.out]; exact HX.out
            · exact HALL.out j (by omega)⟩
      · have hvb : (v != k0) = true := by rw [bne_iff_ne]; exact hvk
        have HX := hide (listR_bad (x := x) (y := y) (c := k0) (zs := zs) (k := k) (by have := HN.out; omega) (by
          unfold okSl; rw [← HS.out, decide_eq_false (fun e => hvk (HV.out.trans e)), Bool.false_and]))
        have HBW2 := hide (HB1.out.trans (HB2.out.mono HB1.out.size))
        clear hvk
        go_wp2
        go_ret
        exact ⟨retB HX.out.symm, HBW2.out⟩
    · have hi : ¬ (k : Int) < (n : Int) := by omega
      have HT := hide (listR_good (x := x) (y := y) (c := k0) (zs := zs) (fun j hj => HALL.out j (by have := HN.out; omega)))
      have HBW := hide (HB1.out.trans (HB.out.mono HB1.out.size))
      go_wp2
      go_ret
      exact ⟨retB HT.out.symm, HBW.out⟩
end Go.Proofs.Ytnnmdikbcfefjaa
