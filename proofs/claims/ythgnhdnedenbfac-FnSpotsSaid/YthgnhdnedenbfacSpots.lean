/-
  Each slot has its place; two of one page do not meet: the walk of the law.
-/
import Derived.Test.YthgnhdnedenbfacSpotsD
import Derived.Deep.QuietTactic
import Derived.BigQuiet
import Derived.Deep.RegionHeld3
namespace Go.Proofs.Ythgnhdnedenbfac
open Go.RowKit
set_option linter.unusedVariables false

/-- What RangeOf answers: a span, or the empty one. -/
theorem range_in {c : Int} {P Z p i : Nat} (h : Cls c P Z) (hp : p < 6) (hi : i < P) (S : Nat) (hS : S = p * 4 + i) (w : World) :
    Calls Try.prog 10 #[.int .i64 (S : Int), .int .i64 c] w fun e w' => e = .returned (.agg #[.int .i64 ((genP p Z i + 4 : Nat) : Int), .int .i64 ((genP p Z i + 4 + Z : Nat) : Int)]) ∧ Below w.heap.size w w' := by
  subst hS
  obtain ⟨h1, h2, h3, h4⟩ := gen_in h hp hi
  obtain ⟨_, h5, _⟩ := h.per
  have hs : startC ((p * 4 + i : Nat) : Int) c = ((genP p Z i + 4 : Nat) : Int) := by rw [startC_yes (by rw [h1]; omega), h1]; push_cast; rfl
  refine (implRangeOf_yes _ c w (by rw [hs]; omega) (by rw [hs, h5]; omega)).mono fun e w' k => ?_
  rw [hs, h5] at k
  exact ⟨by rw [k.1]; push_cast; rfl, k.2⟩
theorem range_out {c : Int} {P Z p i : Nat} (h : Cls c P Z) (hp : p < 6) (hi : P ≤ i) (h4 : i < 4) (S : Nat) (hS : S = p * 4 + i) (w : World) :
    Calls Try.prog 10 #[.int .i64 (S : Int), .int .i64 c] w fun e w' => e = .returned (.agg #[.int .i64 0, .int .i64 0]) ∧ Below w.heap.size w w' := by
  subst hS
  exact implRangeOf_no _ c w (by rw [startC_no (by rw [gen_out h hp hi h4]; decide)]; decide)
theorem gen_q {c : Int} {P Z p i : Nat} (h : Cls c P Z) (hp : p < 6) (hi : i < P) (S : Nat) (hS : S = p * 4 + i) (w : World) :
    Calls Try.prog 9 #[.int .i64 (S : Int), .int .i64 c] w fun e w' => e = .returned (.int .i64 (genP p Z i : Int)) ∧ w = w' := by
  subst hS; rw [← (gen_in h hp hi).1]; exact implGenAt_any _ c w
theorem gen_no {c : Int} {P Z p i : Nat} (h : Cls c P Z) (hp : p < 6) (hi : P ≤ i) (h4 : i < 4) (S : Nat) (hS : S = p * 4 + i) (w : World) :
    Calls Try.prog 9 #[.int .i64 (S : Int), .int .i64 c] w fun e w' => e = .returned (.int .i64 (-1)) ∧ w = w' := by
  subst hS; rw [← gen_out h hp hi h4]; exact implGenAt_any _ c w
theorem start_q {c : Int} {P Z p i : Nat} (h : Cls c P Z) (hp : p < 6) (hi : i < P) (S : Nat) (hS : S = p * 4 + i) (w : World) :
    Calls Try.prog 12 #[.int .i64 (S : Int), .int .i64 c] w fun e w' => e = .returned (.int .i64 ((genP p Z i + 4 : Nat) : Int)) ∧ w' = w := by
  subst hS
  obtain ⟨h1, h2, h3, h4⟩ := gen_in h hp hi
  have hs : startC ((p * 4 + i : Nat) : Int) c = ((genP p Z i + 4 : Nat) : Int) := by rw [startC_yes (by rw [h1]; omega), h1]; push_cast; rfl
  rw [← hs]
  exact (implStartOf_any _ c w).mono fun e w' k => ⟨k.1, k.2.symm⟩
theorem start_no {c : Int} {P Z p i : Nat} (h : Cls c P Z) (hp : p < 6) (hi : P ≤ i) (h4 : i < 4) (S : Nat) (hS : S = p * 4 + i) (w : World) :
    Calls Try.prog 12 #[.int .i64 (S : Int), .int .i64 c] w fun e w' => e = .returned (.int .i64 (-1)) ∧ w = w' := by
  subst hS
  rw [← startC_no (slot := ((p * 4 + i : Nat) : Int)) (c := c) (by rw [gen_out h hp hi h4]; decide)]
  exact implStartOf_any _ c w
theorem per_q {c : Int} {P Z : Nat} (h : Cls c P Z) (w : World) : Calls Try.prog 11 #[.int .i64 c] w fun e w' => e = .returned (.int .i64 (P : Int)) ∧ w = w' := by
  rw [← h.per.1]; exact specPerPage_any c w
theorem size_q {c : Int} {P Z : Nat} (h : Cls c P Z) (w : World) : Calls Try.prog 13 #[.int .i64 c] w fun e w' => e = .returned (.int .i64 (Z : Int)) ∧ w' = w := by
  rw [← h.per.2.1]; exact (specSizeOf_any c w).mono fun e w' k => ⟨k.1, k.2.symm⟩
theorem keep4 {wK W W' : World} {p q r s : Addr} {u0 u1 u2 u3 : Value} (hp : p.block < wK.heap.size) (hq : q.block < wK.heap.size) (hr : r.block < wK.heap.size) (hs : s.block < wK.heap.size)
    (hb : Below W.heap.size W W') (h : (W.cell? p = some u0 ∧ W.cell? q = some u1 ∧ W.cell? r = some u2 ∧ W.cell? s = some u3) ∧ Below wK.heap.size wK W) :
    (W'.cell? p = some u0 ∧ W'.cell? q = some u1 ∧ W'.cell? r = some u2 ∧ W'.cell? s = some u3) ∧ Below wK.heap.size wK W' := by
  have hz := h.2.size
  obtain ⟨⟨h0, h1, h2, h3⟩, hB⟩ := h
  exact ⟨⟨by rw [hb.cell (by omega)]; exact h0, by rw [hb.cell (by omega)]; exact h1, by rw [hb.cell (by omega)]; exact h2, by rw [hb.cell (by omega)]; exact h3⟩, hB.trans (hb.mono hz)⟩
set_option maxRecDepth 100000 in
set_option maxHeartbeats 6400000 in
theorem fnSpots_core (A : Option Addr) (n c : Nat) (zs : List Int) (w : World) (hn : n = zs.length) (hz : n ≤ 1048576) (hr : RdB .u8 w A zs w.heap.size) (hwf : ∀ x ∈ zs, (Lit.int .u8 x).wf = true) :
    Calls Try.prog 3 #[.slice A n c] w fun e w' => e = .returned (.bool true) ∧ Below w.heap.size w w' := by
  have HN := hide hn
  have HR := hide hr
  have HZ := hide hz
  have HW := hide hwf
  have hz1 : ¬ (1048576 : Int) < (n : Int) := by omega
  clear hn hr hz hwf
  go_enter Try.func3, Try.ntmps3
  go_wp2_with (first | (go_at_call 4; go_in))
  refine (at_any A n c zs 0 w HN.out (by have := HZ.out; omega) (by omega) (by omega) HR.out HW.out).mono ?_
  rintro e wq ⟨⟨x, rfl, hx0, hx1⟩, rfl⟩
  go_wp2_with fail
  refine (at_any A n c zs 1 w HN.out (by have := HZ.out; omega) (by omega) (by omega) HR.out HW.out).mono ?_
  rintro e wq ⟨⟨y, rfl, hy0, hy1⟩, rfl⟩
  obtain ⟨p, hp⟩ : ∃ p : Nat, y % 6 = (p : Int) := ⟨(y % 6).toNat, by omega⟩
  have hp6 : p < 6 := by omega
  have hp5 : (p : Int) ≤ 5 := by omega
  obtain ⟨cl, hcl⟩ : ∃ cl : Int, x % 3 = cl := ⟨_, rfl⟩
  have hcls : ∃ P Z, Cls cl P Z := by
    have : cl = 0 ∨ cl = 1 ∨ cl = 2 := by omega
    rcases this with h | h | h
    · exact ⟨_, _, .inl ⟨h, rfl, rfl⟩⟩
    · exact ⟨_, _, .inr (.inl ⟨h, rfl, rfl⟩)⟩
    · exact ⟨_, _, .inr (.inr ⟨h, rfl, rfl⟩)⟩
  obtain ⟨P, Z, hC⟩ := hcls
  have hcl0 : 0 ≤ cl := by omega
  have HP := hide hp
  have HCL := hide hcl
  have HC := hide hC
  clear hp hcl hC
  go_wp2_with fail
  rw [HP.out, HCL.out]
  go_loopg [5] 5 (fun gg i wo => ∃ wr : World, wr = wo ∧ ∃ j : Nat, j ≤ 4 ∧ gg = 5 - j ∧ i = .int .i64 j ∧ Below w.heap.size w wr)
  case atStart => exact ⟨_, rfl, 0, by omega, rfl, rfl, Below.refl _ _⟩
  case round =>
    obtain ⟨wr, rfl, j, hj, hgg, rfl, hB⟩ := hrel
    have HG := hide hgg
    have HB := hide hB
    clear hgg hB
    by_cases hlt : j < 4
    · have hji : (j : Int) < 4 := by omega
      have hj3 : (j : Int) ≤ 3 := by omega
      obtain ⟨S, hS⟩ : ∃ S : Nat, S = p * 4 + j := ⟨_, rfl⟩
      have HS := hide hS
      go_wp2_with fail
      refine (slotAt_at p j hp6 hlt _).mono ?_
      rintro e wq ⟨rfl, rfl⟩
      rw [← HS.out]
      clear hS
      go_wp2_with fail
      refine (pageOf_at p j S HS.out hp6 hlt _).mono ?_
      rintro e wq ⟨rfl, rfl⟩
      go_wp2_with fail
      refine (indexOf_at p j S HS.out hp6 hlt _).mono ?_
      rintro e wq ⟨rfl, rfl⟩
      go_wp2_with fail
      by_cases hP : j < P
      · refine (gen_q HC.out hp6 hP S HS.out _).mono ?_
        rintro e wq ⟨rfl, rfl⟩
        obtain ⟨_, hg2, hP4, hZ8⟩ := gen_in HC.out hp6 hP
        obtain ⟨G, hG⟩ : ∃ G, G = genP p Z j := ⟨_, rfl⟩
        have hG8 : p * 64 + 8 ≤ G := by rw [hG]; unfold genP; omega
        rw [← hG] at hg2 ⊢
        have HGE := hide hG
        clear hG
        go_wp2_with fail
        refine (range_in HC.out hp6 hP S HS.out _).mono ?_
        rintro e w2 ⟨rfl, hb⟩
        rw [← HGE.out]
        have HB2 := hide (HB.out.trans (hb.mono HB.out.size))
        clear hb
        go_wp2_with fail
        refine (per_q HC.out _).mono ?_
        rintro e wq ⟨rfl, hw⟩
        obtain rfl := hw.symm
        have hPj : ¬ (P : Int) ≤ (j : Int) := by omega
        have hPd : decide (P ≤ j) = false := by simp; omega
        have hPe : decide ((P : Int) ≤ (j : Int)) = false := by simp; omega
        obtain ⟨w3, h3⟩ : ∃ W : World, W = w2.alloc (.cells #[.int .i64 ((G : Int) + 4), .int .i64 ((G : Int) + 4 + (Z : Int))] 28) := ⟨_, rfl⟩
        rw [← h3]
        have b0 : w3.cell? ⟨w2.heap.size, 0, none⟩ = some (.int .i64 ((G : Int) + 4)) := by rw [h3]; go_simp
        have b1 : w3.cell? ⟨w2.heap.size, 1, none⟩ = some (.int .i64 ((G : Int) + 4 + (Z : Int))) := by rw [h3]; go_simp
        have t3 : w2.heap.size < w3.heap.size := by rw [h3]; simp
        have HB3 : Hid (Below w.heap.size w w3) := hide (by rw [h3]; exact HB2.out.alloc HB2.out.size _)
        clear h3
        have hZ40 : (Z : Int) ≤ 64 := by omega
        have hGb : (G : Int) ≤ 400 := by omega
        have k1 : IntKind.i64.wrap ((p : Int) * 64) = (p : Int) * 64 := IntWalk.i64_in _ (by omega)
        have k2 : IntKind.i64.wrap ((p : Int) * 64 + 8) = (p : Int) * 64 + 8 := IntWalk.i64_in _ (by omega)
        have k3 : IntKind.i64.wrap ((G : Int) + 4) = (G : Int) + 4 := IntWalk.i64_in _ (by omega)
        have k4 : IntKind.i64.wrap ((G : Int) + 4 + (Z : Int) - ((G : Int) + 4)) = (Z : Int) := by rw [show (G : Int) + 4 + (Z : Int) - ((G : Int) + 4) = (Z : Int) by omega]; exact IntWalk.i64_in _ (by omega)
        have k5 : IntKind.i64.wrap ((p : Int) + 1) = (p : Int) + 1 := IntWalk.i64_in _ (by omega)
        have k6 : IntKind.i64.wrap (((p : Int) + 1) * 64) = ((p : Int) + 1) * 64 := IntWalk.i64_in _ (by omega)
        have d1 : decide ((G : Int) < (p : Int) * 64 + 8) = false := by simp; omega
        have d2 : decide (((p : Int) + 1) * 64 < (G : Int) + 4 + (Z : Int)) = false := by simp; omega
        have KS : Hid (∀ W : World, Calls Try.prog 12 #[.int .i64 (S : Int), .int .i64 cl] W fun e w' => e = .returned (.int .i64 ((G : Int) + 4)) ∧ w' = W) := hide (fun W => by
          have := start_q HC.out hp6 hP S HS.out W
          rw [← HGE.out] at this
          exact this.mono fun e w' k => ⟨by rw [k.1]; push_cast; rfl, k.2⟩)
        go_wp2_with fail
        go_quiet (first | (go_at_call 12; exact Calls.quiet_of_same (KS.out _)) | (go_at_call 13; exact Calls.quiet_of_same (size_q HC.out _)))
        clear k1 k2 k3 k4 k5 k6 d1 d2
        rename_i nq
        obtain ⟨w4, h4⟩ : ∃ W : World, W = w3.drewN nq := ⟨_, rfl⟩
        rw [← h4]
        have c0 : w4.cell? ⟨w2.heap.size, 0, none⟩ = some (.int .i64 ((G : Int) + 4)) := by rw [h4]; exact b0
        have c1 : w4.cell? ⟨w2.heap.size, 1, none⟩ = some (.int .i64 ((G : Int) + 4 + (Z : Int))) := by rw [h4]; exact b1
        have t4 : w2.heap.size < w4.heap.size := by rw [h4]; exact t3
        have HB4 : Hid (Below w.heap.size w w4) := hide (by rw [h4]; exact HB3.out.trans ⟨rfl, rfl, rfl, Nat.le_refl _, fun _ _ => rfl⟩)
        clear h4 b0 b1 t3 KS HB3
        have hjP : j ≤ P := by omega
        go_wp2_with fail
        go_loopg [9] (j + 1) (fun gg k wo => ∃ wk : World, wk = wo ∧ ∃ m : Nat, m ≤ j ∧ gg = j + 1 - m ∧ k = .int .i64 m ∧ Below w4.heap.size w4 wk)
        case atStart => exact ⟨_, rfl, 0, Nat.zero_le _, by omega, rfl, Below.refl _ _⟩
        case round =>
          obtain ⟨wk, rfl, m, hm, hg3, rfl, hBk⟩ := hrel
          have HG3 := hide hg3
          have HBK := hide hBk
          clear hg3 hBk
          by_cases hml : m < j
          · have hmi : (m : Int) < (j : Int) := by omega
            have hm4 : m < 4 := by omega
            have hmP : m < P := by omega
            obtain ⟨S2, hS2⟩ : ∃ S2 : Nat, S2 = p * 4 + m := ⟨_, rfl⟩
            have HS2 := hide hS2
            obtain ⟨G2, hG2⟩ : ∃ G2, G2 = genP p Z m := ⟨_, rfl⟩
            have hap : G2 + 4 + Z ≤ G := by rw [hG2, HGE.out]; exact genP_apart hml
            have HG2 := hide hG2
            clear hS2 hG2
            have hapi : (G2 : Int) + 4 + (Z : Int) ≤ (G : Int) := by omega
            go_wp2_with fail
            refine (slotAt_at p m hp6 hm4 _).mono ?_
            rintro e wq ⟨rfl, hw⟩
            obtain rfl := hw.symm
            rw [← HS2.out]
            go_wp2_with fail
            refine (range_in HC.out hp6 hmP S2 HS2.out _).mono ?_
            rintro e w6 ⟨rfl, hb⟩
            rw [← HG2.out]
            have hb46 := HBK.out.trans (hb.mono HBK.out.size)
            have e0 : w6.cell? ⟨w2.heap.size, 0, none⟩ = some (.int .i64 ((G : Int) + 4)) := (hb46.cell t4).trans c0
            have e1 : w6.cell? ⟨w2.heap.size, 1, none⟩ = some (.int .i64 ((G : Int) + 4 + (Z : Int))) := (hb46.cell t4).trans c1
            have t6 : w2.heap.size < w6.heap.size := Nat.lt_of_lt_of_le t4 hb46.size
            have HB6 := hide hb46
            clear hb hb46
            go_wp2_with fail
            obtain ⟨w7, h7⟩ : ∃ W : World, W = w6.alloc (.cells #[.int .i64 ((G2 : Int) + 4), .int .i64 ((G2 : Int) + 4 + (Z : Int))] 28) := ⟨_, rfl⟩
            rw [← h7]
            have f0 : w7.cell? ⟨w6.heap.size, 0, none⟩ = some (.int .i64 ((G2 : Int) + 4)) := by rw [h7]; go_simp
            have f1 : w7.cell? ⟨w6.heap.size, 1, none⟩ = some (.int .i64 ((G2 : Int) + 4 + (Z : Int))) := by rw [h7]; go_simp
            have t7 : w6.heap.size < w7.heap.size := by rw [h7]; simp
            have HB7 : Hid (Below w4.heap.size w4 w7) := hide (by rw [h7]; exact HB6.out.alloc HB6.out.size _)
            clear h7 e0 e1
            refine (implApart_any _ _ _ _ _).mono ?_
            rintro e w8 ⟨rfl, hb⟩
            rw [apart_yes (a := (G : Int) + 4) (b := (G : Int) + 4 + (Z : Int)) (c := (G2 : Int) + 4) (d := (G2 : Int) + 4 + (Z : Int)) (.inr (by omega))]
            have g0 : w8.cell? ⟨w6.heap.size, 0, none⟩ = some (.int .i64 ((G2 : Int) + 4)) := (hb.cell t7).trans f0
            have g1 : w8.cell? ⟨w6.heap.size, 1, none⟩ = some (.int .i64 ((G2 : Int) + 4 + (Z : Int))) := (hb.cell t7).trans f1
            have HB8 := hide (HB7.out.trans (hb.mono HB7.out.size))
            clear hb f0 f1
            go_wp2_with fail
            refine (implApart_any _ _ _ _ _).mono ?_
            rintro e w9 ⟨rfl, hb⟩
            rw [apart_yes (a := (G2 : Int) + 4) (b := (G2 : Int) + 4 + (Z : Int)) (c := (G : Int)) (d := (G : Int) + 4) (.inl (by omega))]
            have HB9 := hide (HB8.out.trans (hb.mono HB8.out.size))
            clear hb
            go_wp2
            go_roundg (j + 1 - (m + 1))
            case measure => have := HG3.out; omega
            case rel => exact ⟨_, rfl, m + 1, by omega, by omega, by go_num, HB9.out⟩
          · have hmi : ¬ (m : Int) < (j : Int) := by omega
            go_wp2
            go_roundg (5 - (j + 1))
            case measure => have := HG.out; omega
            case rel => exact ⟨_, rfl, j + 1, by omega, rfl, by go_num, HB4.out.trans (HBK.out.mono HB4.out.size)⟩
      · have hP2 : P ≤ j := by omega
        have hPj : (P : Int) ≤ (j : Int) := by omega
        refine (gen_no HC.out hp6 hP2 hlt S HS.out _).mono ?_
        rintro e wq ⟨rfl, rfl⟩
        go_wp2_with fail
        refine (range_out HC.out hp6 hP2 hlt S HS.out _).mono ?_
        rintro e w2 ⟨rfl, hb⟩
        have HB2 := hide (HB.out.trans (hb.mono HB.out.size))
        clear hb
        go_wp2_with fail
        refine (per_q HC.out _).mono ?_
        rintro e wq ⟨rfl, rfl⟩
        go_wp2_with fail
        refine (start_no HC.out hp6 hP2 hlt S HS.out _).mono ?_
        rintro e wq ⟨rfl, rfl⟩
        go_wp2
        go_roundg (5 - (j + 1))
        case measure => have := HG.out; omega
        case rel => exact ⟨_, rfl, j + 1, by omega, rfl, by go_num, HB2.out.alloc HB2.out.size _⟩
    · have hji : ¬ (j : Int) < 4 := by omega
      go_wp2_with fail
      refine (drawApart_any A n c zs _ HN.out (by have := HZ.out; omega) ((HR.out.below HB.out (Nat.le_refl _)).more HB.out.size)).mono ?_
      rintro e w2 ⟨⟨a, b, d, f, rfl⟩, hb⟩
      have HB2 := hide (HB.out.trans (hb.mono HB.out.size))
      clear hb
      go_wp2_with fail
      obtain ⟨w3, h3⟩ : ∃ W : World, W = (w2.alloc (.cells #[.int .i64 a, .int .i64 b] 28)).alloc (.cells #[.int .i64 d, .int .i64 f] 28) := ⟨_, rfl⟩
      rw [← h3]
      have b0 : w3.cell? ⟨w2.heap.size, 0, none⟩ = some (.int .i64 a) := by rw [h3]; go_simp
      have b1 : w3.cell? ⟨w2.heap.size, 1, none⟩ = some (.int .i64 b) := by rw [h3]; go_simp
      have b2 : w3.cell? ⟨w2.heap.size + 1, 0, none⟩ = some (.int .i64 d) := by rw [h3]; go_simp
      have b3 : w3.cell? ⟨w2.heap.size + 1, 1, none⟩ = some (.int .i64 f) := by rw [h3]; go_simp
      have t3 : w2.heap.size < w3.heap.size := by rw [h3]; simp <;> omega
      have t4 : w2.heap.size + 1 < w3.heap.size := by rw [h3]; simp <;> omega
      have HB3 : Hid (Below w.heap.size w w3) := hide (by rw [h3]; exact (HB2.out.alloc HB2.out.size _).alloc (by have := HB2.out.size; simp; omega) _)
      clear h3
      obtain ⟨B0, hB0⟩ : ∃ B0, B0 = apartB a b d f := ⟨_, rfl⟩
      have K1 : Hid (∀ W : World, Calls Try.prog 14 #[.agg #[.int .i64 a, .int .i64 b], .agg #[.int .i64 d, .int .i64 f]] W fun e w' => e = .returned (.bool B0) ∧ Below W.heap.size W w') := hide (fun W => by rw [hB0]; exact implApart_any a b d f W)
      have K2 : Hid (∀ W : World, Calls Try.prog 14 #[.agg #[.int .i64 d, .int .i64 f], .agg #[.int .i64 a, .int .i64 b]] W fun e w' => e = .returned (.bool B0) ∧ Below W.heap.size W w') := hide (fun W => by rw [hB0, apart_sym]; exact implApart_any d f a b W)
      clear hB0
      go_region_held3 (fun w' => (w'.cell? ⟨w2.heap.size, 0, none⟩ = some (.int .i64 a) ∧ w'.cell? ⟨w2.heap.size, 1, none⟩ = some (.int .i64 b) ∧ w'.cell? ⟨w2.heap.size + 1, 0, none⟩ = some (.int .i64 d) ∧ w'.cell? ⟨w2.heap.size + 1, 1, none⟩ = some (.int .i64 f)) ∧ Below w3.heap.size w3 w')
        (first | (exact keep4 t3 t3 t4 t4 (by assumption) (by assumption)) | (exact ⟨⟨b0, b1, b2, b3⟩, (Below.refl _ _).drew⟩))
        (first
          | (go_at_call 14; (first | (with_reducible refine (K1.out _).mono ?_) | (with_reducible refine (K2.out _).mono ?_)); rintro e w' ⟨rfl, hb⟩))
      have hS := ‹(_ ∧ _) ∧ Below w3.heap.size w3 _›
      have HF := hide (HB3.out.trans (hS.2.mono HB3.out.size))
      clear hS
      go_wp2
      go_ret
      exact ⟨by simp, HF.out⟩
set_option maxRecDepth 100000 in
theorem fnSpots_walk (A : Option Addr) (n c : Nat) (zs : List Int) (w : World) (h : Sl .u8 w A n c zs) : Calls Try.prog 3 #[.slice A n c] w fun e w' => e = .returned (.bool true) ∧ Below w.heap.size w w' := by
  obtain ⟨hn, _, hm, hr, hwf⟩ := h
  by_cases hz : n ≤ 1048576
  · exact fnSpots_core A n c zs w hn hz hr hwf
  · have hz1 : (1048576 : Int) < (n : Int) := by omega
    clear hn hr hz hwf
    go_enter Try.func3, Try.ntmps3
    go_wp2
    go_ret
    exact ⟨rfl, Below.refl _ _⟩
end Go.Proofs.Ythgnhdnedenbfac
