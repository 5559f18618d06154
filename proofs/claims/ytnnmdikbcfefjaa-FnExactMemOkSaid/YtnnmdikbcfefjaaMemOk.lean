/-
  MemOk: is a memory right? The contracts of both sides.
-/
import Derived.Test.YtnnmdikbcfefjaaFits
import Derived.Test.YtnnmdikbcfefjaaSameMem
import Derived.Test.YtnnmdikbcfefjaaListsOkW
import Derived.Test.YtnnmdikbcfefjaaPlace
namespace Go.Proofs.Ytnnmdikbcfefjaa
open Go.RowKit
set_option linter.unusedVariables false

def fitG (x y : List Int) (z : List (List Int)) : Bool := (List.range 3).all fun (j : Nat) => listR x y (j : Int) (z.getD j [])
def fitO (x y : List Int) (t : List (List Int)) : Bool := (List.range 9).all fun (k : Nat) => listR x y ((k % 3 : Nat) : Int) (t.getD k [])
def memOkR (x y : List Int) (z t : List (List Int)) : Bool := (hokR x y && okR z t) && (fitG x y z && fitO x y t)
theorem fitG_bad {x y : List Int} {z : List (List Int)} {j : Nat} (hj : j < 3) (h : listR x y (j : Int) (z.getD j []) = false) : fitG x y z = false := by
  unfold fitG
  rw [List.all_eq_false]
  exact ⟨j, List.mem_range.2 hj, by rw [h]; simp⟩
theorem fitO_bad {x y : List Int} {t : List (List Int)} {k : Nat} (hk : k < 9) (h : listR x y ((k % 3 : Nat) : Int) (t.getD k []) = false) : fitO x y t = false := by
  unfold fitO
  rw [List.all_eq_false]
  exact ⟨k, List.mem_range.2 hk, by rw [h]; simp⟩
theorem fitG_good {x y : List Int} {z : List (List Int)} (h : ∀ j : Nat, j < 3 → listR x y (j : Int) (z.getD j []) = true) : fitG x y z = true := by
  unfold fitG
  rw [List.all_eq_true]
  exact fun j hj => h j (List.mem_range.1 hj)
theorem fitO_good {x y : List Int} {t : List (List Int)} (h : ∀ k : Nat, k < 9 → listR x y ((k % 3 : Nat) : Int) (t.getD k []) = true) : fitO x y t = true := by
  unfold fitO
  rw [List.all_eq_true]
  exact fun j hj => h j (List.mem_range.1 hj)
/-- The box of a memory, and the memory that it holds, at a later world. -/
structure MB (w W : World) (A A' L L' : Option Addr) (n n' m m' c c' d d' : Nat) (x x' : List Int) (z z' : List (List Int)) : Prop where
  bel : Below w.heap.size w W
  b0 : W.cell? ⟨w.heap.size, 0, none⟩ = some (.slice A n c)
  b1 : W.cell? ⟨w.heap.size, 1, none⟩ = some (.slice A' n' c')
  b2 : W.cell? ⟨w.heap.size, 2, none⟩ = some (.slice L m d)
  b3 : W.cell? ⟨w.heap.size, 3, none⟩ = some (.slice L' m' d')
  lt : w.heap.size < W.heap.size
  mr : MR W A A' L L' n n' m m' x x' z z'
theorem MB.up {w W W' : World} {A A' L L' : Option Addr} {n n' m m' c c' d d' : Nat} {x x' : List Int} {z z' : List (List Int)} (h : MB w W A A' L L' n n' m m' c c' d d' x x' z z') (hb : Below W.heap.size W W') : MB w W' A A' L L' n n' m m' c c' d d' x x' z z' :=
  ⟨h.bel.trans (hb.mono h.bel.size), (hb.cell h.lt).trans h.b0, (hb.cell h.lt).trans h.b1, (hb.cell h.lt).trans h.b2, (hb.cell h.lt).trans h.b3, Nat.lt_of_lt_of_le h.lt hb.size, h.mr.up hb⟩
theorem MB.start {w : World} {A A' L L' : Option Addr} {n n' m m' c c' d d' : Nat} {x x' : List Int} {z z' : List (List Int)} {T : TypeId} (h : MR w A A' L L' n n' m m' x x' z z') : MB w (w.alloc (.cells #[.slice A n c, .slice A' n' c', .slice L m d, .slice L' m' d'] T)) A A' L L' n n' m m' c c' d d' x x' z z' :=
  ⟨(Below.refl _ _).alloc (Nat.le_refl _) _, by go_simp, by go_simp, by go_simp, by go_simp, by simp, h.up ((Below.refl _ _).alloc (Nat.le_refl _) _)⟩
theorem MB.hr {w W : World} {A A' L L' : Option Addr} {n n' m m' c c' d d' : Nat} {x x' : List Int} {z z' : List (List Int)} (h : MB w W A A' L L' n n' m m' c c' d d' x x' z z') (hs : shapeR x x' = true) (hc : n ≤ c) (hcm : c ≤ maxLen) : HR W A A' c c' x x' := by
  have := shape_parts hs
  have hn := h.mr.hn
  exact ⟨hs, by omega, hcm, h.mr.a, h.mr.a'⟩
theorem keep41 {wK W W' : World} {p q r s : Addr} {u0 u1 u2 u3 : Value} (hp : p.block < wK.heap.size) (hq : q.block < wK.heap.size) (hr : r.block < wK.heap.size) (hs : s.block < wK.heap.size)
    (hb : Below W.heap.size W W') (h : (W.cell? p = some u0 ∧ W.cell? q = some u1 ∧ W.cell? r = some u2 ∧ W.cell? s = some u3) ∧ Below wK.heap.size wK W) :
    (W'.cell? p = some u0 ∧ W'.cell? q = some u1 ∧ W'.cell? r = some u2 ∧ W'.cell? s = some u3) ∧ Below wK.heap.size wK W' := by
  have hz := h.2.size
  obtain ⟨⟨h0, h1, h2, h3⟩, hB⟩ := h
  exact ⟨⟨by rw [hb.cell (by omega)]; exact h0, by rw [hb.cell (by omega)]; exact h1, by rw [hb.cell (by omega)]; exact h2, by rw [hb.cell (by omega)]; exact h3⟩, hB.trans (hb.mono hz)⟩
set_option maxRecDepth 100000 in
set_option maxHeartbeats 6400000 in
theorem specMemOk_any (A A' L L' : Option Addr) (n n' m m' c c' d d' : Nat) (x x' : List Int) (z z' : List (List Int)) (w : World) (h : MR w A A' L L' n n' m m' x x' z z') (hc : n ≤ c) (hcm : c ≤ maxLen) :
    Calls Try.prog 5 #[.agg #[.slice A n c, .slice A' n' c', .slice L m d, .slice L' m' d']] w fun e w' => e = .returned (.bool (memOkR x x' z z')) ∧ Below w.heap.size w w' := by
  have H0 := hide h
  clear h
  go_enter Try.func5, Try.ntmps5
  go_wp2_with fail
  obtain ⟨w1, hW⟩ : ∃ W : World, W = w.alloc (.cells #[.slice A n c, .slice A' n' c', .slice L m d, .slice L' m' d'] 37) := ⟨_, rfl⟩
  rw [← hW]
  have B1 := hide (show MB w w1 A A' L L' n n' m m' c c' d d' x x' z z' by rw [hW]; exact MB.start H0.out)
  clear hW
  refine (specHeapOk_any A A' n c n' c' x x' w1 B1.out.mr.hn B1.out.mr.hn' (by have := B1.out.mr.q; omega) (by have := B1.out.mr.q; omega) hc hcm B1.out.mr.a B1.out.mr.a').mono ?_
  rintro e w2 ⟨rfl, hb⟩
  have B2 := hide (B1.out.up hb)
  clear hb B1
  cases hok : hokR x x'
  · have HX : Hid (memOkR x x' z z' = false) := hide (by unfold memOkR; rw [hok]; rfl)
    clear hok
    go_wp2
    go_ret
    exact ⟨retB HX.out.symm, B2.out.bel⟩
  have HOK := hide hok
  have hsh : shapeR x x' = true := by unfold hokR at hok; rw [Bool.and_eq_true] at hok; exact hok.1
  have HSH := hide hsh
  have x0 := B2.out.b2
  have x1 := B2.out.b3
  clear hok hsh
  go_wp2_with fail
  refine (specListsOk_any L L' m d m' d' z z' w2 B2.out.mr.hm B2.out.mr.hm' (by have := B2.out.mr.q; omega) B2.out.mr.l B2.out.mr.l').mono ?_
  rintro e w3 ⟨rfl, hb⟩
  have B3 := hide (B2.out.up hb)
  clear hb B2 x0 x1
  cases hlk : okR z z'
  · have HX : Hid (memOkR x x' z z' = false) := hide (by unfold memOkR; rw [HOK.out, hlk]; rfl)
    clear hlk
    go_wp2
    go_ret
    exact ⟨retB HX.out.symm, B3.out.bel⟩
  have HLK := hide hlk
  have HFX : Hid (memOkR x x' z z' = (fitG x x' z && fitO x x' z')) := hide (by unfold memOkR; rw [HOK.out, hlk]; rfl)
  obtain ⟨l3, l9⟩ : z.length = 3 ∧ z'.length = 9 := by
    unfold okR at hlk
    simp only [Bool.and_eq_true, decide_eq_true_eq] at hlk
    exact hlk.1
  have hm3 : m = 3 := by rw [B3.out.mr.hm]; exact l3
  have hm9 : m' = 9 := by rw [B3.out.mr.hm']; exact l9
  have HL3 := hide (And.intro l3 l9)
  clear hlk l3 l9
  go_wp2
  go_loopg [3] 4 (fun gk i wo => ∃ wr : World, wr = wo ∧ ∃ j : Nat, j ≤ 3 ∧ gk = 4 - j ∧ i = .int .i64 (j : Int) ∧ MB w wr A A' L L' n n' m m' c c' d d' x x' z z' ∧ ∀ a, a < j → listR x x' (a : Int) (z.getD a []) = true ∧ ∀ b, b < 3 → listR x x' (a : Int) (z'.getD (b * 3 + a) []) = true)
  case atStart => exact ⟨_, rfl, 0, by omega, rfl, rfl, B3.out, fun a ha => absurd ha (by omega)⟩
  case round =>
    clear B3
    obtain ⟨wr, rfl, j, hj, hg, rfl, hB, hall⟩ := hrel
    have HG := hide hg
    have BR := hide hB
    have HALL := hide hall
    clear hg hB hall
    by_cases hj3 : j < 3
    · have hji : (j : Int) < 3 := by omega
      have hjm : (j : Int) < (m : Int) := by omega
      obtain ⟨bL, oL, A2, n2, c2, eL, d1, d2, d3, d4, d5, d6⟩ := BR.out.mr.l j (by rw [HL3.out.1]; exact hj3)
      have x0 := BR.out.b0
      have x1 := BR.out.b1
      have x2 := BR.out.b2
      have t0 := BR.out.lt
      have hq := BR.out.mr.q
      have hq2 := len_le z m j (by omega)
      have HCL : Hid (∀ W, Below wr.heap.size wr W → Calls Try.prog 13 #[.agg #[.slice A n c, .slice A' n' c'], .slice A2 n2 c2, .int .i64 (j : Int)] W fun e w' => e = .returned (.bool (listR x x' (j : Int) (z.getD j []))) ∧ Below W.heap.size W w') := hide fun W hb => by
        have hr := (BR.out.up hb).hr HSH.out hc hcm
        have e1 : n = 384 := by rw [BR.out.mr.hn]; exact hr.len.1.symm
        have e2 : n' = 6 := by rw [BR.out.mr.hn']; exact hr.len.2.symm
        subst e1 e2
        exact l9Listed_any A A' A2 c c' n2 c2 x x' (z.getD j []) (j : Int) W hr (by omega) d3 (by omega) ((d6.below hb (Nat.le_refl _)).more hb.size)
      subst eL
      have HD3 := hide d3
      obtain ⟨r, hr⟩ : ∃ r, r = listR x x' (j : Int) (z.getD j []) := ⟨_, rfl⟩
      rw [← hr] at HCL
      have HR := hide hr
      clear d3 d4 d5 d6 hq hq2 hr
      go_wp2_with fail
      go_region_held3 (fun w' => (w'.cell? ⟨w.heap.size, 0, none⟩ = some (.slice A n c) ∧ w'.cell? ⟨w.heap.size, 1, none⟩ = some (.slice A' n' c') ∧ w'.cell? ⟨w.heap.size, 2, none⟩ = some (.slice (some ⟨bL, oL, none⟩) m d) ∧ w'.cell? ⟨bL, oL + j, none⟩ = some (.slice A2 n2 c2)) ∧ Below wr.heap.size wr w')
        (first | assumption | (exact keep41 t0 t0 t0 d1 (by assumption) (by assumption)) | (exact ⟨⟨x0, x1, x2, d2⟩, (Below.refl _ _).drew⟩))
        (first
          | (go_at_call 13; refine (HCL.out _ (And.right (by assumption))).mono ?_; rintro e w' ⟨rfl, hb2⟩))
      have hS := ‹(_ ∧ _) ∧ Below wr.heap.size wr _›
      obtain ⟨w4, rfl, -, hb3⟩ := named3 (C := fun W => (W.cell? ⟨w.heap.size, 0, none⟩ = some (.slice A n c) ∧ W.cell? ⟨w.heap.size, 1, none⟩ = some (.slice A' n' c') ∧ W.cell? ⟨w.heap.size, 2, none⟩ = some (.slice (some ⟨bL, oL, none⟩) m d) ∧ W.cell? ⟨bL, oL + j, none⟩ = some (.slice A2 n2 c2))) hS
      clear hS
      have B4 := hide (BR.out.up hb3)
      clear hb3 BR HCL x0 x1 x2 d1 d2 t0
      cases r
      · have HX : Hid (memOkR x x' z z' = false) := hide (by rw [HFX.out, fitG_bad hj3 HR.out.symm]; rfl)
        go_wp2
        go_ret
        exact ⟨retB HX.out.symm, B4.out.bel⟩
      · have hfit := hide HR.out.symm
        clear HR
        go_wp2
        go_loopg [4] 4 (fun gk2 i wo => ∃ wq : World, wq = wo ∧ ∃ k : Nat, k ≤ 3 ∧ gk2 = 4 - k ∧ i = .int .i64 (k : Int) ∧ MB w wq A A' (some ⟨bL, oL, none⟩) L' n n' m m' c c' d d' x x' z z' ∧ ∀ b, b < k → listR x x' (j : Int) (z'.getD (b * 3 + j) []) = true)
        case atStart => exact ⟨_, rfl, 0, by omega, rfl, rfl, B4.out, fun a ha => absurd ha (by omega)⟩
        case round =>
          clear B4
          obtain ⟨wq, rfl, k, hk, hg2, rfl, hB, hall2⟩ := hrel
          have HG2 := hide hg2
          have BR := hide hB
          have HALL2 := hide hall2
          clear hg2 hB hall2
          by_cases hk3 : k < 3
          · have hki : (k : Int) < 3 := by omega
            obtain ⟨q, hq⟩ : ∃ q, q = k * 3 + j := ⟨_, rfl⟩
            have hqm : (q : Int) < (m' : Int) := by omega
            have hq9 : (q : Int) < 9 := by omega
            have HOA : Hid (∀ W : World, Calls Try.prog 14 #[.int .i64 (k : Int), .int .i64 (j : Int)] W fun e w' => e = .returned (.int .i64 (q : Int)) ∧ W = w') := hide (fun W => by rw [hq, ← ownPR_nat hk3 hj3]; exact specOwnAt_any k j W)
            obtain ⟨bO, oO, A3, n3, c3, eO, d1, d2, d3, d4, d5, d6⟩ := BR.out.mr.l' q (by rw [HL3.out.2]; omega)
            have x0 := BR.out.b0
            have x1 := BR.out.b1
            have x3 := BR.out.b3
            have t0 := BR.out.lt
            have hq1 := BR.out.mr.q
            have hq2 := len_le z' m' q (by omega)
            have HCL : Hid (∀ W, Below wq.heap.size wq W → Calls Try.prog 13 #[.agg #[.slice A n c, .slice A' n' c'], .slice A3 n3 c3, .int .i64 (j : Int)] W fun e w' => e = .returned (.bool (listR x x' (j : Int) (z'.getD q []))) ∧ Below W.heap.size W w') := hide fun W hb => by
              have hr := (BR.out.up hb).hr HSH.out hc hcm
              have e1 : n = 384 := by rw [BR.out.mr.hn]; exact hr.len.1.symm
              have e2 : n' = 6 := by rw [BR.out.mr.hn']; exact hr.len.2.symm
              subst e1 e2
              exact l9Listed_any A A' A3 c c' n3 c3 x x' (z'.getD q []) (j : Int) W hr (by omega) d3 (by omega) ((d6.below hb (Nat.le_refl _)).more hb.size)
            subst eO
            obtain ⟨r, hr⟩ : ∃ r, r = listR x x' (j : Int) (z'.getD q []) := ⟨_, rfl⟩
            rw [← hr] at HCL
            have HR := hide hr
            have HQ := hide hq
            clear d3 d4 d5 d6 hq1 hq2 hr hq
            go_wp2_with fail
            go_region_held3 (fun w' => (w'.cell? ⟨w.heap.size, 0, none⟩ = some (.slice A n c) ∧ w'.cell? ⟨w.heap.size, 1, none⟩ = some (.slice A' n' c') ∧ w'.cell? ⟨w.heap.size, 3, none⟩ = some (.slice (some ⟨bO, oO, none⟩) m' d') ∧ w'.cell? ⟨bO, oO + q, none⟩ = some (.slice A3 n3 c3)) ∧ Below wq.heap.size wq w')
              (first | assumption | (exact keep41 t0 t0 t0 d1 (by assumption) (by assumption)) | (exact ⟨⟨x0, x1, x3, d2⟩, (Below.refl _ _).drew⟩))
              (first
                | (go_at_call 14; refine (HOA.out _).mono ?_; rintro e w' ⟨rfl, rfl⟩)
                | (go_at_call 13; refine (HCL.out _ (And.right (by assumption))).mono ?_; rintro e w' ⟨rfl, hb2⟩))
            have hS := ‹(_ ∧ _) ∧ Below wq.heap.size wq _›
            obtain ⟨w5, rfl, -, hb3⟩ := named3 (C := fun W => (W.cell? ⟨w.heap.size, 0, none⟩ = some (.slice A n c) ∧ W.cell? ⟨w.heap.size, 1, none⟩ = some (.slice A' n' c') ∧ W.cell? ⟨w.heap.size, 3, none⟩ = some (.slice (some ⟨bO, oO, none⟩) m' d') ∧ W.cell? ⟨bO, oO + q, none⟩ = some (.slice A3 n3 c3))) hS
            clear hS
            have B5 := hide (BR.out.up hb3)
            clear hb3 BR HCL x0 x1 x3 d1 d2 t0 HOA
            cases r
            · have HX : Hid (memOkR x x' z z' = false) := hide (by
                have hm : ((q % 3 : Nat) : Int) = (j : Int) := by have := HQ.out; omega
                rw [HFX.out, fitO_bad (k := q) (by have := HQ.out; omega) (by rw [hm]; exact HR.out.symm), Bool.and_false])
              go_wp2
              go_ret
              exact ⟨retB HX.out.symm, B5.out.bel⟩
            · go_wp2
              go_roundg (4 - (k + 1))
              case measure => have := HG2.out; omega
              case rel => exact ⟨_, rfl, k + 1, by omega, rfl, by go_num, B5.out, fun b hb => by
                by_cases e : b = k
                · subst e; rw [← HQ.out]; exact HR.out.symm
                · exact HALL2.out b (by omega)⟩
          · have hki : ¬ (k : Int) < 3 := by omega
            go_wp2
            go_roundg (4 - (j + 1))
            case measure => have := HG.out; omega
            case rel => exact ⟨_, rfl, j + 1, by omega, rfl, by go_num, BR.out, fun a ha => by
              by_cases e : a = j
              · subst e; exact ⟨hfit.out, fun b hb => HALL2.out b (by omega)⟩
              · exact HALL.out a (by omega)⟩
    · have hji : ¬ (j : Int) < 3 := by omega
      have HX : Hid (memOkR x x' z z' = true) := hide (by
        rw [HFX.out, fitG_good (fun a ha => (HALL.out a (by omega)).1), fitO_good (fun k hk => by
          have h := (HALL.out (k % 3) (by omega)).2 (k / 3) (by omega)
          rw [show k / 3 * 3 + k % 3 = k by omega] at h
          exact h)]; rfl)
      go_wp2
      go_ret
      exact ⟨retB HX.out.symm, BR.out.bel⟩
end Go.Proofs.Ytnnmdikbcfefjaa
