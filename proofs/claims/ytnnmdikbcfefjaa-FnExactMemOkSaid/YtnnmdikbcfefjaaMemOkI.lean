/-
  MemOk: the program's side.
-/
import Derived.Test.YtnnmdikbcfefjaaMemOk
namespace Go.Proofs.Ytnnmdikbcfefjaa
open Go.RowKit
set_option linter.unusedVariables false

theorem below_alloc (W : World) (o : Obj) : Below W.heap.size W (W.alloc o) := (Below.refl _ _).alloc (Nat.le_refl _) _
set_option maxRecDepth 100000 in
set_option maxHeartbeats 6400000 in
theorem implMemOk_any (A A' L L' : Option Addr) (n n' m m' c c' d d' : Nat) (x x' : List Int) (z z' : List (List Int)) (w : World) (h : MR w A A' L L' n n' m m' x x' z z') (hc : n ≤ c) (hcm : c ≤ maxLen) :
    Calls Try.prog 7 #[.agg #[.slice A n c, .slice A' n' c', .slice L m d, .slice L' m' d']] w fun e w' => e = .returned (.bool (memOkR x x' z z')) ∧ Below w.heap.size w w' := by
  have H0 := hide h
  clear h
  go_enter Try.func7, Try.ntmps7
  go_wp2_with fail
  obtain ⟨w1, hW⟩ : ∃ W : World, W = w.alloc (.cells #[.slice A n c, .slice A' n' c', .slice L m d, .slice L' m' d'] 37) := ⟨_, rfl⟩
  rw [← hW]
  have B1 := hide (show MB w w1 A A' L L' n n' m m' c c' d d' x x' z z' by rw [hW]; exact MB.start H0.out)
  clear hW
  refine (implHeapOk_any A A' n c n' c' x x' w1 B1.out.mr.hn B1.out.mr.hn' (by have := B1.out.mr.q; omega) (by have := B1.out.mr.q; omega) hc hcm B1.out.mr.a B1.out.mr.a').mono ?_
  rintro e w2 ⟨rfl, hb⟩
  have B2 := hide (B1.out.up hb)
  clear hb B1
  cases hok : hokR x x'
  · have HX : Hid (memOkR x x' z z' = false) := hide (by unfold memOkR; rw [hok]; rfl)
    clear hok
    go_wp2
    go_ret
    exact ⟨retB HX.out.symm, B2.out.bel⟩
  have HOK := hide hok
  have hsh : shapeR x x' = true := by unfold hokR at hok; rw [Bool.and_eq_true] at hok; exact hok.1
  have HSH := hide hsh
  have x0 := B2.out.b2
  have x1 := B2.out.b3
  clear hok hsh
  go_wp2_with fail
  refine (implListsOk_any L L' m d m' d' z z' w2 B2.out.mr.hm B2.out.mr.hm' (by have := B2.out.mr.q; omega) B2.out.mr.l B2.out.mr.l').mono ?_
  rintro e w3 ⟨rfl, hb⟩
  have B3 := hide (B2.out.up hb)
  clear hb B2 x0 x1
  cases hlk : okR z z'
  · have HX : Hid (memOkR x x' z z' = false) := hide (by unfold memOkR; rw [HOK.out, hlk]; rfl)
    clear hlk
    go_wp2
    go_ret
    exact ⟨retB HX.out.symm, B3.out.bel⟩
  have HFX : Hid (memOkR x x' z z' = (fitG x x' z && fitO x x' z')) := hide (by unfold memOkR; rw [HOK.out, hlk]; rfl)
  obtain ⟨l3, l9⟩ : z.length = 3 ∧ z'.length = 9 := by
    unfold okR at hlk
    simp only [Bool.and_eq_true, decide_eq_true_eq] at hlk
    exact hlk.1
  have hm3 := hide (show m = 3 by rw [B3.out.mr.hm]; exact l3)
  have hm9 := hide (show m' = 9 by rw [B3.out.mr.hm']; exact l9)
  have HL3 := hide (And.intro l3 l9)
  have x2 := B3.out.b2
  clear hlk l3 l9
  go_wp2
  go_loopg [21] 4 (fun gk i wo => ∃ wr : World, wr = wo ∧ ∃ j : Nat, j ≤ 3 ∧ gk = 4 - j ∧ i = .int .i64 (j : Int) ∧ MB w wr A A' L L' n n' m m' c c' d d' x x' z z' ∧ ∀ a : Nat, a < j → listR x x' (a : Int) (z.getD a []) = true)
  case atStart => exact ⟨_, rfl, 0, by omega, rfl, rfl, B3.out, fun a ha => absurd ha (by omega)⟩
  case round =>
    clear B3 x2
    obtain ⟨wr, rfl, j, hj, hg, rfl, hB, hall⟩ := hrel
    have HG := hide hg
    have BR := hide hB
    have HALL := hide hall
    clear hg hB hall
    by_cases hj3 : j < 3
    · have hjm : (j : Int) < (m : Int) := by have := hm3.out; omega
      obtain ⟨bL, oL, A2, n2, c2, eL, d1, d2, d3, d4, d5, d6⟩ := BR.out.mr.l j (by rw [HL3.out.1]; exact hj3)
      subst eL
      have x0 := BR.out.b0
      have x1 := BR.out.b1
      have t0 := BR.out.lt
      have hq := BR.out.mr.q
      have hq2 := len_le z m j (by have := hm3.out; omega)
      have HCL : Hid (∀ W, Below wr.heap.size wr W → Calls Try.prog 19 #[.agg #[.slice A n c, .slice A' n' c'], .agg #[.slice A2 n2 c2], .int .i64 (j : Int)] W fun e w' => e = .returned (.bool (listR x x' (j : Int) (z.getD j []))) ∧ Below W.heap.size W w') := hide fun W hb => by
        have hr := (BR.out.up hb).hr HSH.out hc hcm
        have e1 : n = 384 := by rw [BR.out.mr.hn]; exact hr.len.1.symm
        have e2 : n' = 6 := by rw [BR.out.mr.hn']; exact hr.len.2.symm
        subst e1 e2
        exact listFits_any A A' A2 c c' n2 c2 x x' (z.getD j []) (j : Int) W hr (by omega) d3 (by omega) ((d6.below hb (Nat.le_refl _)).more hb.size)
      obtain ⟨r, hr⟩ : ∃ r, r = listR x x' (j : Int) (z.getD j []) := ⟨_, rfl⟩
      rw [← hr] at HCL
      have HR := hide hr
      clear d3 d4 d5 d6 hq hq2 hr
      go_wp2_with fail
      refine (HCL.out _ (below_alloc _ _)).mono ?_
      rintro e w4 ⟨rfl, hb⟩
      have B4 := hide ((BR.out.up (below_alloc _ _)).up hb)
      clear hb BR HCL x0 x1 d1 d2 t0
      cases r
      · have HX : Hid (memOkR x x' z z' = false) := hide (by rw [HFX.out, fitG_bad hj3 HR.out.symm]; rfl)
        go_wp2
        go_ret
        exact ⟨retB HX.out.symm, B4.out.bel⟩
      · go_wp2
        go_roundg (4 - (j + 1))
        case measure => have := HG.out; omega
        case rel => exact ⟨_, rfl, j + 1, by omega, rfl, by go_num, B4.out, fun a ha => by
          by_cases e : a = j
          · subst e; exact HR.out.symm
          · exact HALL.out a (by omega)⟩
    · have hjm : ¬ (j : Int) < (m : Int) := by have := hm3.out; omega
      have HFG : Hid (fitG x x' z = true) := hide (fitG_good (fun a ha => HALL.out a (by omega)))
      have x3 := BR.out.b3
      go_wp2
      go_loopg [37] 10 (fun gk2 i wo => ∃ wq : World, wq = wo ∧ ∃ k : Nat, k ≤ 9 ∧ gk2 = 10 - k ∧ i = .int .i64 (k : Int) ∧ MB w wq A A' L L' n n' m m' c c' d d' x x' z z' ∧ ∀ a : Nat, a < k → listR x x' ((a % 3 : Nat) : Int) (z'.getD a []) = true)
      case atStart => exact ⟨_, rfl, 0, by omega, rfl, rfl, BR.out, fun a ha => absurd ha (by omega)⟩
      case round =>
        clear BR x3
        obtain ⟨wq, rfl, k, hk, hg2, rfl, hB, hall2⟩ := hrel
        have HG2 := hide hg2
        have BR := hide hB
        have HALL2 := hide hall2
        clear hg2 hB hall2
        by_cases hk9 : k < 9
        · have hki : (k : Int) < (m' : Int) := by have := hm9.out; omega
          obtain ⟨bO, oO, A3, n3, c3, eO, d1, d2, d3, d4, d5, d6⟩ := BR.out.mr.l' k (by rw [HL3.out.2]; exact hk9)
          subst eO
          have x0 := BR.out.b0
          have x1 := BR.out.b1
          have t0 := BR.out.lt
          have hq := BR.out.mr.q
          have hq2 := len_le z' m' k (by have := hm9.out; omega)
          have hkm : ((k % 3 : Nat) : Int) = (k : Int) % 3 := by omega
          have HCL : Hid (∀ W, Below wq.heap.size wq W → Calls Try.prog 19 #[.agg #[.slice A n c, .slice A' n' c'], .agg #[.slice A3 n3 c3], .int .i64 ((k : Int) % 3)] W fun e w' => e = .returned (.bool (listR x x' ((k % 3 : Nat) : Int) (z'.getD k []))) ∧ Below W.heap.size W w') := hide fun W hb => by
            have hr := (BR.out.up hb).hr HSH.out hc hcm
            have e1 : n = 384 := by rw [BR.out.mr.hn]; exact hr.len.1.symm
            have e2 : n' = 6 := by rw [BR.out.mr.hn']; exact hr.len.2.symm
            subst e1 e2
            rw [hkm]
            exact listFits_any A A' A3 c c' n3 c3 x x' (z'.getD k []) ((k : Int) % 3) W hr (by omega) d3 (by omega) ((d6.below hb (Nat.le_refl _)).more hb.size)
          obtain ⟨r, hr⟩ : ∃ r, r = listR x x' ((k % 3 : Nat) : Int) (z'.getD k []) := ⟨_, rfl⟩
          rw [← hr] at HCL
          have HR := hide hr
          clear d3 d4 d5 d6 hq hq2 hr hkm
          go_wp2_with fail
          refine (HCL.out _ (below_alloc _ _)).mono ?_
          rintro e w4 ⟨rfl, hb⟩
          have B4 := hide ((BR.out.up (below_alloc _ _)).up hb)
          clear hb BR HCL x0 x1 d1 d2 t0
          cases r
          · have HX : Hid (memOkR x x' z z' = false) := hide (by rw [HFX.out, fitO_bad hk9 HR.out.symm, Bool.and_false])
            go_wp2
            go_ret
            exact ⟨retB HX.out.symm, B4.out.bel⟩
          · go_wp2
            go_roundg (10 - (k + 1))
            case measure => have := HG2.out; omega
            case rel => exact ⟨_, rfl, k + 1, by omega, rfl, by go_num, B4.out, fun a ha => by
              by_cases e : a = k
              · subst e; exact HR.out.symm
              · exact HALL2.out a (by omega)⟩
        · have hki : ¬ (k : Int) < (m' : Int) := by have := hm9.out; omega
          have HX : Hid (memOkR x x' z z' = true) := hide (by rw [HFX.out, HFG.out, fitO_good (fun a ha => HALL2.out a (by omega))]; rfl)
          go_wp2
          go_ret
          exact ⟨retB HX.out.symm, BR.out.bel⟩
end Go.Proofs.Ytnnmdikbcfefjaa
