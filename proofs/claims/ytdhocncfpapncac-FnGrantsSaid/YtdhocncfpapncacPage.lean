/-
  A page of a heap: its head and its generations. The contracts of the reference and of the program.
-/
import Derived.Test.YtdhocncfpapncacSetGen
namespace Go.Proofs.Ytdhocncfpapncac
open Go.RowKit
set_option linter.unusedVariables false

def zrR (x : List Int) (off : Nat) : Nat → Bool
  | 0 => true
  | m + 1 => zrR x off m && decide (x.getD (off + m) 0 = 0)
def gnR (x : List Int) (off s : Nat) : Nat → Bool
  | 0 => true
  | k + 1 => gnR x off s k && vOk (ldR x (off + k * s) 4)
def pageC (x : List Int) (t : Nat) (c : Int) : Bool :=
  if c < 0 then zrR x t 64 else decide (x.getD t 0 = 171) && decide (x.getD (t + 1) 0 = c) && decide (x.getD (t + 2) 0 = perC c) && zrR x (t + 3) 5 && gnR x (t + 8) (strideC c).toNat (perC c).toNat
def pgsR (x y : List Int) : Nat → Bool
  | 0 => true
  | p + 1 => pgsR x y p && pageC x (p * 64) (y.getD p 0)
def hokR (x y : List Int) : Bool := shapeR x y && pgsR x y 6
theorem zrR_bad {x : List Int} {off k m : Nat} (h : k < m) (hx : ¬ x.getD (off + k) 0 = 0) : zrR x off m = false := by
  induction m with
  | zero => omega
  | succ m ih =>
    unfold zrR
    by_cases e : k = m
    · subst e; rw [decide_eq_false hx, Bool.and_false]
    · rw [ih (by omega), Bool.false_and]
theorem gnR_bad {x : List Int} {off s k m : Nat} (h : k < m) (hx : vOk (ldR x (off + k * s) 4) = false) : gnR x off s m = false := by
  induction m with
  | zero => omega
  | succ m ih =>
    unfold gnR
    by_cases e : k = m
    · subst e; rw [hx, Bool.and_false]
    · rw [ih (by omega), Bool.false_and]
theorem pgsR_bad {x y : List Int} {k m : Nat} (h : k < m) (hx : pageC x (k * 64) (y.getD k 0) = false) : pgsR x y m = false := by
  induction m with
  | zero => omega
  | succ m ih =>
    unfold pgsR
    by_cases e : k = m
    · subst e; rw [hx, Bool.and_false]
    · rw [ih (by omega), Bool.false_and]
theorem isCl_at {y : List Int} (h : y.all isCl = true) (p : Nat) (hp : p < y.length) : -1 ≤ y.getD p 0 ∧ y.getD p 0 ≤ 2 := by
  rw [List.all_eq_true] at h
  have := h y[p] (List.getElem_mem _)
  have e : y.getD p 0 = y[p] := by simp [List.getD, hp]
  rw [e]
  simpa [isCl] using this
theorem specSlotAt_any (p k : Nat) (w : World) (hp : p < 6) (hk : k < 4) : Calls Try.prog 52 #[.int .i64 (p : Int), .int .i64 (k : Int)] w fun e w' => e = .returned (.int .i64 ((p * 4 + k : Nat) : Int)) ∧ w' = w := by
  have h1 : (p : Int) < 6 := by omega
  have h2 : (k : Int) ≤ 3 := by omega
  have h3 : (p : Int) ≤ 5 := by omega
  have h4 : (p : Int) * 4 ≤ 20 := by omega
  have e : ((p * 4 + k : Nat) : Int) = (p : Int) * 4 + (k : Int) := by omega
  rw [e]
  go_enter Try.func52, Try.ntmps52
  go_wp2
  go_ret
  exact ⟨rfl, rfl⟩
theorem implSlotAt_any (p k : Nat) (w : World) (hp : p < 6) (hk : k < 4) : Calls Try.prog 27 #[.int .i64 (p : Int), .int .i64 (k : Int)] w fun e w' => e = .returned (.int .i64 ((p * 4 + k : Nat) : Int)) ∧ w' = w := by
  have h1 : (p : Int) < 6 := by omega
  have h2 : (k : Int) ≤ 3 := by omega
  have h3 : (p : Int) ≤ 5 := by omega
  have h4 : (p : Int) * 4 ≤ 20 := by omega
  have e : ((p * 4 + k : Nat) : Int) = (p : Int) * 4 + (k : Int) := by omega
  rw [e]
  go_enter Try.func27, Try.ntmps27
  go_wp2
  go_ret
  exact ⟨rfl, rfl⟩
theorem gen_at {p k : Nat} {c : Int} (hp : p < 6) (hk : k < (perC c).toNat) : genAtC ((p * 4 + k : Nat) : Int) c = ((p * 64 + 8 + k * (strideC c).toNat : Nat) : Int) ∧ p * 64 + 8 + k * (strideC c).toNat + 4 ≤ p * 64 + 64 ∧ k < 4 := by
  rcases class_cases c with rfl | rfl | rfl | h | h
  all_goals
    first
    | (rw [perC_out (by omega)] at hk; omega)
    | skip
  · have hs : strideC 0 = 12 := by decide
    have hp0 : perC 0 = 4 := by decide
    rw [hp0] at hk
    unfold genAtC
    rw [hs, hp0, if_pos (by omega)]
    have : k = 0 ∨ k = 1 ∨ k = 2 ∨ k = 3 := by omega
    rcases this with rfl | rfl | rfl | rfl
    all_goals
      refine ⟨?_, ?_, ?_⟩
      all_goals first | omega | (simp <;> omega)
  · have hs : strideC 1 = 20 := by decide
    have hp0 : perC 1 = 2 := by decide
    rw [hp0] at hk
    unfold genAtC
    rw [hs, hp0, if_pos (by omega)]
    have : k = 0 ∨ k = 1 ∨ k = 2 ∨ k = 3 := by omega
    rcases this with rfl | rfl | rfl | rfl
    all_goals
      refine ⟨?_, ?_, ?_⟩
      all_goals first | omega | (simp <;> omega)
  · have hs : strideC 2 = 44 := by decide
    have hp0 : perC 2 = 1 := by decide
    rw [hp0] at hk
    unfold genAtC
    rw [hs, hp0, if_pos (by omega)]
    have : k = 0 ∨ k = 1 ∨ k = 2 ∨ k = 3 := by omega
    rcases this with rfl | rfl | rfl | rfl
    all_goals
      refine ⟨?_, ?_, ?_⟩
      all_goals first | omega | (simp <;> omega)
set_option maxRecDepth 100000 in
set_option maxHeartbeats 3200000 in
theorem specPage_any (A A' : Option Addr) (c c' : Nat) (x y : List Int) (p t : Nat) (w : World) (hp : p < 6) (ht : t = p * 64) (hn : 384 = x.length) (hn' : 6 = y.length) (hbk : bokR x = true) (hcl : y.all isCl = true) (hc : 384 ≤ c) (hcm : c ≤ maxLen) (ha : RdB .i64 w A x w.heap.size) (ha' : RdB .i64 w A' y w.heap.size) :
    Calls Try.prog 32 #[.agg #[.slice A 384 c, .slice A' 6 c'], .int .i64 (p : Int)] w fun e w' => e = .returned (.bool (pageC x t (y.getD p 0))) ∧ Below w.heap.size w w' := by
  have hb0 : Below w.heap.size w (w.alloc (.cells #[.slice A 384 c, .slice A' 6 c'] 26)) := (Below.refl _ _).alloc (Nat.le_refl _) _
  obtain ⟨b, o, rfl, hbl, -⟩ := ha 0 (by omega)
  obtain ⟨b', o', rfl, hbl', hcy⟩ := ha' p (by omega)
  have h1 := isCl_at hcl p (by omega)
  obtain ⟨v, hv⟩ : ∃ v, v = y.getD p 0 := ⟨_, rfl⟩
  rw [← hv] at hcy h1 ⊢
  have HA := hide ha
  have HA' := hide ha'
  have HN := hide hn
  have HK := hide hbk
  have hpt : (p : Int) * 64 = (t : Int) := by omega
  have hp6 : (p : Int) < 6 := by omega
  have ht6 : (t : Int) + 64 ≤ 384 := by omega
  have HT := hide ht
  have HN' := hide hn'
  clear ha ha' hn hn' hbk hcl hv ht
  by_cases hv0 : v < 0
  · have dv : decide (v < 0) = true := by simpa using hv0
    have HP : Hid (pageC x t v = zrR x t 64) := hide (by unfold pageC; rw [if_pos hv0])
    go_enter Try.func32, Try.ntmps32
    go_wp2_with fail
    obtain ⟨w1, hW⟩ : ∃ W : World, W = w.alloc (.cells #[.slice (some ⟨b, o, none⟩) 384 c, .slice (some ⟨b', o', none⟩) 6 c'] 26) := ⟨_, rfl⟩
    rw [← hW] at hb0 ⊢
    have b0 : w1.cell? ⟨w.heap.size, 0, none⟩ = some (.slice (some ⟨b, o, none⟩) 384 c) := by rw [hW]; go_simp
    have HB := hide hb0
    clear hW hb0 hcy
    go_loopg [7] 65 (fun g i wr => wr = w1 ∧ ∃ k : Nat, k ≤ 64 ∧ g = 65 - k ∧ i = .int .i64 ((t + k : Nat) : Int) ∧ zrR x t k = true)
    case atStart => exact ⟨rfl, 0, by omega, rfl, rfl, rfl⟩
    case round =>
      obtain ⟨rfl, k, hk, hg, rfl, hz⟩ := hrel
      have HG := hide hg
      have HZ := hide hz
      clear hg hz
      by_cases hlt : k < 64
      · obtain ⟨_, _, e', hb, hc0⟩ := (HA.out.below HB.out (Nat.le_refl _)) (t + k) (by have := HN.out; omega)
        injection e' with e'
        injection e' with e1 e2
        subst e1 e2
        obtain ⟨X, hX⟩ : ∃ X, X = x.getD (t + k) 0 := ⟨_, rfl⟩
        rw [← hX] at hc0
        have HX := hide hX
        have hi : ((t + k : Nat) : Int) < (t : Int) + 64 := by omega
        have hi2 : ((t + k : Nat) : Int) < 384 := by omega
        clear hX
        by_cases hx : X = 0
        · have HZ2 : Hid (zrR x t (k + 1) = true) := hide (by unfold zrR; rw [HZ.out, ← HX.out, hx]; rfl)
          subst hx
          go_wp2
          go_roundg (65 - (k + 1))
          case measure => have := HG.out; omega
          case rel => exact ⟨rfl, k + 1, by omega, rfl, by go_num, HZ2.out⟩
        · have HF : Hid (pageC x t v = false) := hide (by rw [HP.out]; exact zrR_bad hlt (by rw [← HX.out]; exact hx))
          go_wp2
          go_ret
          exact ⟨retB HF.out.symm, HB.out⟩
      · have hk64 : k = 64 := by omega
        subst hk64
        have hi : ¬ ((t + 64 : Nat) : Int) < (t : Int) + 64 := by omega
        go_wp2
        go_ret
        exact ⟨retB (by rw [HP.out]; exact HZ.out.symm), HB.out⟩
  have dv : decide (v < 0) = false := by simpa using hv0
  have HP : Hid (pageC x t v = (decide (x.getD t 0 = 171) && decide (x.getD (t + 1) 0 = v) && decide (x.getD (t + 2) 0 = perC v) && zrR x (t + 3) 5 && gnR x (t + 8) (strideC v).toNat (perC v).toNat)) := hide (by unfold pageC; rw [if_neg hv0])
  obtain ⟨_, _, e', hb, hx0⟩ := HA.out t (by have := HN.out; omega)
  injection e' with e'
  injection e' with e1 e2
  subst e1 e2
  obtain ⟨_, _, e', hb, hx1⟩ := HA.out (t + 1) (by have := HN.out; omega)
  injection e' with e'
  injection e' with e1 e2
  subst e1 e2
  obtain ⟨_, _, e', hb, hx2⟩ := HA.out (t + 2) (by have := HN.out; omega)
  injection e' with e'
  injection e' with e1 e2
  subst e1 e2
  obtain ⟨X0, hX0⟩ : ∃ X, X = x.getD t 0 := ⟨_, rfl⟩
  obtain ⟨X1, hX1⟩ : ∃ X, X = x.getD (t + 1) 0 := ⟨_, rfl⟩
  obtain ⟨X2, hX2⟩ : ∃ X, X = x.getD (t + 2) 0 := ⟨_, rfl⟩
  rw [← hX0] at hx0 HP
  rw [← hX1] at hx1 HP
  rw [← hX2] at hx2 HP
  clear hX0 hX1 hX2
  by_cases g0 : X0 = 171
  rotate_left
  · have HF : Hid (pageC x t v = false) := hide (by rw [HP.out, decide_eq_false g0]; rfl)
    have dg : (X0 != 171) = true := by simpa using g0
    go_enter Try.func32, Try.ntmps32
    go_wp2_with fail
    go_quiet (fail)
    go_wp2
    go_ret
    exact ⟨retB HF.out.symm, hb0.trans ⟨rfl, rfl, rfl, Nat.le_refl _, fun _ _ => rfl⟩⟩
  subst g0
  have e1 : IntKind.i64.wrap ((t : Int) + 1) = (t : Int) + 1 := by rw [IntKind.wrap_i64]; omega
  have e2 : IntKind.i64.wrap ((t : Int) + 2) = (t : Int) + 2 := by rw [IntKind.wrap_i64]; omega
  have n1 : ((t : Int) + 1).toNat = t + 1 := by omega
  have n2 : ((t : Int) + 2).toNat = t + 2 := by omega
  have r1 : (0 : Int) ≤ (t : Int) + 1 := by omega
  have r2 : (0 : Int) ≤ (t : Int) + 2 := by omega
  have s1 : (t : Int) + 1 < 384 := by omega
  have s2 : (t : Int) + 2 < 384 := by omega
  have s0 : (t : Int) < 384 := by omega
  by_cases g1 : X1 = v
  rotate_left
  · have HF : Hid (pageC x t v = false) := hide (by rw [HP.out, decide_eq_false g1]; simp)
    have dg : (X1 != v) = true := by simpa using g1
    go_enter Try.func32, Try.ntmps32
    go_wp2_with fail
    go_quiet (fail)
    go_wp2
    go_ret
    exact ⟨retB HF.out.symm, hb0.trans ⟨rfl, rfl, rfl, Nat.le_refl _, fun _ _ => rfl⟩⟩
  rw [g1] at hx1
  by_cases g2 : X2 = perC v
  rotate_left
  · have HF : Hid (pageC x t v = false) := hide (by rw [HP.out, decide_eq_false g2]; simp)
    have dg : (X2 != perC v) = true := by simpa using g2
    go_enter Try.func32, Try.ntmps32
    go_wp2_with fail
    go_quiet (first | (go_at_call 10; exact Calls.quiet_of_same (specPerPage_as _ _)))
    go_wp2
    go_ret
    exact ⟨retB HF.out.symm, hb0.trans ⟨rfl, rfl, rfl, Nat.le_refl _, fun _ _ => rfl⟩⟩
  rw [g2] at hx2
  have HP2 : Hid (pageC x t v = (zrR x (t + 3) 5 && gnR x (t + 8) (strideC v).toNat (perC v).toNat)) := hide (by rw [HP.out, g1, g2]; simp)
  clear HP g1 g2 X1 X2
  have hpb := perC_bd v
  obtain ⟨pb0, pb4⟩ := hpb
  obtain ⟨N, hN⟩ : ∃ N : Nat, perC v = N := ⟨(perC v).toNat, by omega⟩
  have HPN : Hid (perC v = N) := hide hN
  have HPW : ∀ w : World, Calls Try.prog 10 #[.int .i64 v] w fun e w' => e = .returned (.int .i64 (N : Int)) ∧ w' = w := fun w => by rw [← hN]; exact specPerPage_as v w
  have HPW2 := hide HPW
  clear HPW
  rw [hN] at hx2 pb0 pb4
  have hN4 : N ≤ 4 := by omega
  clear hN
  go_enter Try.func32, Try.ntmps32
  go_wp2_with fail
  go_quiet (first | (go_at_call 10; exact Calls.quiet_of_same (HPW2.out _)))
  clear hx0 hx1 hx2
  go_wp2_with fail
  clear e1 e2 n1 n2 r1 r2 s1 s2 s0
  go_loopg [8] 6 (fun g i wr => (wr.cell? ⟨w.heap.size, 0, none⟩ = some (.slice (some ⟨b, o, none⟩) 384 c) ∧ Below w.heap.size w wr) ∧ ∃ k : Nat, k ≤ 5 ∧ g = 6 - k ∧ i = .int .i64 ((t + 3 + k : Nat) : Int) ∧ zrR x (t + 3) k = true)
  case atStart => exact ⟨⟨by go_simp, hb0.trans ⟨rfl, rfl, rfl, Nat.le_refl _, fun _ _ => rfl⟩⟩, 0, by omega, rfl, by go_num, rfl⟩
  case round =>
    obtain ⟨⟨b0, hB⟩, k, hk, hg, rfl, hz⟩ := hrel
    have HG := hide hg
    have HZ := hide hz
    have HB := hide hB
    clear hg hz hB
    by_cases hlt : k < 5
    · obtain ⟨_, _, e', hb, hc0⟩ := (HA.out.below HB.out (Nat.le_refl _)) (t + 3 + k) (by have := HN.out; omega)
      injection e' with e'
      injection e' with e1 e2
      subst e1 e2
      obtain ⟨X, hX⟩ : ∃ X, X = x.getD (t + 3 + k) 0 := ⟨_, rfl⟩
      rw [← hX] at hc0
      have HX := hide hX
      have hi : ((t + 3 + k : Nat) : Int) < (t : Int) + 8 := by omega
      have hi2 : ((t + 3 + k : Nat) : Int) < 384 := by omega
      clear hX
      by_cases hx : X = 0
      · have HZ2 : Hid (zrR x (t + 3) (k + 1) = true) := hide (by unfold zrR; rw [HZ.out, ← HX.out, hx]; rfl)
        subst hx
        go_wp2
        go_roundg (6 - (k + 1))
        case measure => have := HG.out; omega
        case rel => exact ⟨⟨b0, HB.out⟩, k + 1, by omega, rfl, by go_num, HZ2.out⟩
      · have HF : Hid (pageC x t v = false) := hide (by rw [HP2.out, zrR_bad hlt (by rw [← HX.out]; exact hx)]; rfl)
        go_wp2
        go_ret
        exact ⟨retB HF.out.symm, HB.out⟩
    · have hk5 : k = 5 := by omega
      subst hk5
      have hi : ¬ ((t + 3 + 5 : Nat) : Int) < (t : Int) + 8 := by omega
      have HP3 : Hid (pageC x t v = gnR x (t + 8) (strideC v).toNat N) := hide (by rw [HP2.out, HZ.out, HPN.out]; simp)
      clear HP2
      go_wp2_with fail
      go_loopg [9] 5 (fun g i wr => (wr.cell? ⟨w.heap.size, 0, none⟩ = some (.slice (some ⟨b, o, none⟩) 384 c) ∧ Below w.heap.size w wr) ∧ ∃ k : Nat, k ≤ N ∧ g = 5 - k ∧ i = .int .i64 (k : Int) ∧ gnR x (t + 8) (strideC v).toNat k = true)
      case atStart => exact ⟨⟨b0, HB.out⟩, 0, by omega, rfl, rfl, rfl⟩
      case round =>
        clear HB HZ HG b0 hi hk hlt
        obtain ⟨⟨b0, hB⟩, k, hk, hg, rfl, hz⟩ := hrel
        have HG := hide hg
        have HZ := hide hz
        have HB := hide hB
        clear hg hz hB
        by_cases hlt : k < N
        · have hi : (k : Int) < (N : Int) := by omega
          obtain ⟨hga, hge, hk4⟩ := gen_at (c := v) hp (k := k) (by rw [HPN.out]; omega)
          rw [← HT.out] at hga hge
          obtain ⟨r, hr⟩ : ∃ r : Nat, r = t + 8 + k * (strideC v).toNat := ⟨_, rfl⟩
          rw [← hr] at hga hge
          have HGA := hide hga
          have HR := hide hr
          have hr4 : r + 4 ≤ 384 := by omega
          obtain ⟨L, hL⟩ : ∃ L, L = ldR x r 4 := ⟨_, rfl⟩
          have HL := hide hL
          have hbr := HA.out.below HB.out (Nat.le_refl _)
          have HBR := hide hbr
          clear hga hge hr hL hbr
          cases hvk : vOk L
          · have HF : Hid (pageC x t v = false) := hide (by rw [HP3.out]; exact gnR_bad hlt (by rw [← HR.out, ← HL.out]; exact hvk))
            have HV := hide hvk
            clear hvk
            go_wp2_with (go_at_call 10; refine (HPW2.out _).mono ?_; rintro e w' ⟨rfl, rfl⟩)
            go_quiet (first | (go_at_call 52; exact Calls.quiet_of_same (specSlotAt_any p k _ hp hk4)) | (go_at_call 51; exact Calls.quiet_of_same ((specGenAt_as HGA.out _).mono fun e w' q => ⟨q.1, q.2.symm⟩)) | (go_at_call 50; exact Calls.quiet_of_same ((l3Load_any _ 384 c x w.heap.size r 4 _ HN.out (by omega) hc hcm (HBR.out.drewN _) (by omega) (by omega) hr4 HK.out).mono fun e w' q => ⟨q.1.trans (retI HL.out.symm), q.2.symm⟩)) | (go_at_call 34; exact Calls.quiet_of_same ((l1InV_any _ _).mono fun e w' q => ⟨q.1.trans (retB HV.out), q.2.symm⟩)))
            go_wp2
            go_ret
            exact ⟨retB HF.out.symm, HB.out.trans ⟨rfl, rfl, rfl, Nat.le_refl _, fun _ _ => rfl⟩⟩
          · have HZ2 : Hid (gnR x (t + 8) (strideC v).toNat (k + 1) = true) := hide (by unfold gnR; rw [HZ.out, ← HR.out, ← HL.out, hvk]; rfl)
            have HV := hide hvk
            clear hvk
            go_wp2_with (go_at_call 10; refine (HPW2.out _).mono ?_; rintro e w' ⟨rfl, rfl⟩)
            go_quiet (first | (go_at_call 52; exact Calls.quiet_of_same (specSlotAt_any p k _ hp hk4)) | (go_at_call 51; exact Calls.quiet_of_same ((specGenAt_as HGA.out _).mono fun e w' q => ⟨q.1, q.2.symm⟩)) | (go_at_call 50; exact Calls.quiet_of_same ((l3Load_any _ 384 c x w.heap.size r 4 _ HN.out (by omega) hc hcm (HBR.out.drewN _) (by omega) (by omega) hr4 HK.out).mono fun e w' q => ⟨q.1.trans (retI HL.out.symm), q.2.symm⟩)) | (go_at_call 34; exact Calls.quiet_of_same ((l1InV_any _ _).mono fun e w' q => ⟨q.1.trans (retB HV.out), q.2.symm⟩)))
            go_wp2
            go_roundg (5 - (k + 1))
            case measure => have := HG.out; omega
            case rel => exact ⟨⟨b0, HB.out.trans ⟨rfl, rfl, rfl, Nat.le_refl _, fun _ _ => rfl⟩⟩, k + 1, by omega, rfl, by go_num, HZ2.out⟩
        · have hkN : k = N := by omega
          subst hkN
          have hi : ¬ (k : Int) < (k : Int) := by omega
          go_wp2_with (go_at_call 10; refine (HPW2.out _).mono ?_; rintro e w' ⟨rfl, rfl⟩)
          go_ret
          exact ⟨retB (by rw [HP3.out]; exact HZ.out.symm), HB.out⟩
end Go.Proofs.Ytdhocncfpapncac
