/-
  The law FnLists: what is given is on a list and is what is taken next: its walk.
-/
import Derived.Test.YtdhocncfpapncabLGiveP
import Derived.Test.YtdhocncfpapncabLDrawG
import Derived.IntWalk
namespace Go.Proofs.Ytdhocncfpapncab
open Go.RowKit
set_option linter.unusedVariables false

structure BL (W : World) (C D : Option Addr) (n k m q : Nat) (z y : List (List Int)) : Prop where
  en : n = z.length
  em : m = y.length
  hk : n ≤ k
  hq : m ≤ q
  sz : n + sumL z n + m + sumL y m ≤ 1048576
  r0 : RdM W C z W.heap.size
  r1 : RdM W D y W.heap.size
theorem BL.below {W W' : World} {C D : Option Addr} {n k m q : Nat} {z y : List (List Int)} (h : BL W C D n k m q z y) (hb : Below W.heap.size W W') : BL W' C D n k m q z y :=
  ⟨h.en, h.em, h.hk, h.hq, h.sz, rdM_at h.r0 hb, rdM_at h.r1 hb⟩
def Bx (W : World) (p : Nat) (u0 u1 : Value) : Prop := W.cell? ⟨p, 0, none⟩ = some u0 ∧ W.cell? ⟨p, 1, none⟩ = some u1 ∧ p < W.heap.size
theorem Bx.below {W W' : World} {p : Nat} {u0 u1 : Value} (h : Bx W p u0 u1) (hb : Below W.heap.size W W') : Bx W' p u0 u1 :=
  ⟨by rw [hb.cell h.2.2]; exact h.1, by rw [hb.cell h.2.2]; exact h.2.1, Nat.lt_of_lt_of_le h.2.2 hb.size⟩
theorem Bx.new {W : World} {u0 u1 : Value} {t : TypeId} : Bx (W.alloc (.cells #[u0, u1] t)) W.heap.size u0 u1 := ⟨by go_simp, by go_simp, by simp⟩
theorem below_drewN (W : World) (n : Nat) : Below W.heap.size W (W.drewN n) := ⟨rfl, rfl, rfl, Nat.le_refl _, fun _ _ => rfl⟩
theorem below_new {W : World} (o : Obj) : Below W.heap.size W (W.alloc o) := (Below.refl _ _).alloc (Nat.le_refl _) _
theorem LV.bl {full : Bool} {W : World} {C D : Option Addr} {n k m q : Nat} {z y : List (List Int)} {lo hi : Nat} (h : LV full W (.agg #[.slice C n k, .slice D m q]) z y lo hi) (hs : n + sumL z n + m + sumL y m ≤ 1048576) : BL W C D n k m q z y := by
  obtain ⟨h1, h2, h3, h4, h5, h6⟩ := h.rd
  exact ⟨h1, h3, h2, h4, hs, h5, h6⟩
theorem LRes.bl {full : Bool} {w W : World} {C D : Option Addr} {n k m q : Nat} {z y : List (List Int)} (h : LRes full w W (.agg #[.slice C n k, .slice D m q]) z y) (hs : n + sumL z n + m + sumL y m ≤ 1048576) : BL W C D n k m q z y :=
  LV.bl (LOwn.of h).lv hs
theorem freeR_le {z y : List (List Int)} (hz : z.length ≤ 3) (hy : y.length ≤ 10) (h : sumL z z.length + sumL y y.length ≤ 20) (c : Int) : 0 ≤ freeR z y c ∧ freeR z y c ≤ 100 := by
  have h1 : ∀ j, (z.getD j []).length ≤ 20 := fun j => by
    by_cases hj : j < z.length
    · have := len_le z z.length j hj; omega
    · have e : z.getD j [] = [] := by simp [List.getD, hj]
      rw [e]; simp
  have h2 : ∀ j, (y.getD j []).length ≤ 20 := fun j => by
    by_cases hj : j < y.length
    · have := len_le y y.length j hj; omega
    · have e : y.getD j [] = [] := by simp [List.getD, hj]
      rw [e]; simp
  unfold freeR
  split
  · have a := h1 c.toNat
    have b0 := h2 (0 * 3 + c.toNat)
    have b1 := h2 (1 * 3 + c.toNat)
    have b2 := h2 (2 * 3 + c.toNat)
    simp only [cntY]
    omega
  · omega
set_option maxRecDepth 100000 in
set_option maxHeartbeats 6400000 in
theorem fnLists_core (A : Option Addr) (n c : Nat) (zs : List Int) (w : World) (hn : n = zs.length) (hz : n ≤ 1048576) (hr : RdB .u8 w A zs w.heap.size) :
    Calls Try.prog 3 #[.slice A n c] w fun e w' => e = .returned (.bool true) ∧ Below w.heap.size w w' := by
  have HN := hide hn
  have hzi : ¬ (1048576 : Int) < (n : Int) := by omega
  have HZ := hide hz
  have HR := hide hr
  clear hn hr hz
  go_enter Try.func3, Try.ntmps3
  go_wp2_with (first | (go_at_call 4; go_in))
  refine (drawGive_any A n c zs w HN.out (by have := HZ.out; omega) HR.out).mono ?_
  rintro e w1 ⟨C, k, D, q, z, y, a, x, s, rfl, i1, i2, i3, i4, i5, i6, i7, i8, i9, hb1⟩
  obtain ⟨n0, hn0⟩ : ∃ n0, n0 = z.length := ⟨_, rfl⟩
  obtain ⟨m0, hm0⟩ : ∃ m0, m0 = y.length := ⟨_, rfl⟩
  have HL := hide (And.intro i5 (And.intro i6 i7))
  have L1 := hide (BL.mk (W := w1) (k := k) (q := q) hn0 hm0 (by omega) (by omega) (by rw [hn0, hm0]; omega) i8 i9)
  have HB1 := hide hb1
  rw [← hn0, ← hm0]
  have HS := hide (show sumL z n0 + sumL y m0 ≤ 20 by rw [hn0, hm0]; exact i7)
  have hn03 : n0 ≤ 3 := by omega
  have hm010 : m0 ≤ 10 := by omega
  clear i1 i2 i3 i4 i5 i6 i7 i8 i9 hb1 hn0 hm0 HR HZ HN hzi
  go_wp2_with fail
  obtain ⟨w2, h2⟩ : ∃ W : World, W = w1.alloc (.cells #[.slice C n0 k, .slice D m0 q] 26) := ⟨_, rfl⟩
  rw [← h2]
  have hb : Below w1.heap.size w1 w2 := by rw [h2]; exact below_new _
  have X3 := hide (show Bx w2 w1.heap.size (.slice C n0 k) (.slice D m0 q) by rw [h2]; exact Bx.new)
  obtain ⟨p3, hp3⟩ : ∃ p, p = w1.heap.size := ⟨_, rfl⟩
  rw [← hp3] at X3 ⊢
  have L2 := hide (L1.out.below hb)
  have HB2 := hide (HB1.out.trans (hb.mono HB1.out.size))
  clear hb h2 hp3 L1 HB1
  have x0 := X3.out.1
  have x1 := X3.out.2.1
  go_wp2_with fail
  refine (implGive_any C D n0 k m0 q z y a x s w2 L2.out.en L2.out.em L2.out.sz L2.out.r0 L2.out.r1).mono ?_
  rintro e w3 ⟨v, rfl, hv, hb⟩
  obtain ⟨C', k', D', q', rfl⟩ := hv.shp
  obtain ⟨t1, t2, t3⟩ := give_tot z y a x s
  unfold tot at t3
  have HZ3 := hide (And.intro (t1.trans L2.out.en.symm) (t2.trans L2.out.em.symm))
  have hsz : n0 + sumL (giveZ z y a x s) n0 + m0 + sumL (giveY z y a x s) m0 ≤ 1000 := by
    have := HS.out
    rw [t1, t2, ← L2.out.en, ← L2.out.em] at t3
    omega
  rw [t1, t2, ← L2.out.en, ← L2.out.em] at hv ⊢
  have L3 := hide (L2.out.below hb)
  have G3 := hide (hv.bl (Nat.le_trans hsz (by omega)))
  have X33 := hide (X3.out.below hb)
  have HB3 := hide (HB2.out.trans (hb.mono HB2.out.size))
  clear hb hv t1 t2 t3 x0 x1 X3 L2 HB2
  cases hok : okGive z y a x s
  · have hgz : giveZ z y a x s = z := by unfold giveZ; rw [hok]; rfl
    have hgy : giveY z y a x s = y := by unfold giveY; rw [hok]; rfl
    have HOK := hide hok
    rw [hgz, hgy] at G3
    clear hsz hok hgz hgy HZ3
    have x0 := X33.out.1
    have x1 := X33.out.2.1
    have x2 := X33.out.2.2
    go_wp2_with fail
    obtain ⟨w4, h4⟩ : ∃ W : World, W = w3.alloc (.cells #[.slice C' n0 k', .slice D' m0 q'] 26) := ⟨_, rfl⟩
    rw [← h4]
    have hb : Below w3.heap.size w3 w4 := by rw [h4]; exact below_new _
    have X7 := hide (show Bx w4 w3.heap.size (.slice C' n0 k') (.slice D' m0 q') by rw [h4]; exact Bx.new)
    obtain ⟨p7, hp7⟩ : ∃ p, p = w3.heap.size := ⟨_, rfl⟩
    rw [← hp7] at X7 ⊢
    have X3 := hide (X33.out.below hb)
    have L4 := hide (L3.out.below hb)
    have G4 := hide (G3.out.below hb)
    have HB4 := hide (HB3.out.trans (hb.mono HB3.out.size))
    clear hb h4 hp7 X33 L3 G3 HB3 x0 x1 x2
    refine (specGive_any C D n0 k m0 q z y a x s w4 L4.out.en L4.out.em L4.out.sz L4.out.r0 L4.out.r1).mono ?_
    rintro e w5 ⟨v, rfl, hv, hb⟩
    obtain ⟨C2, k2, D2, q2, rfl⟩ := hv.shp
    rw [HOK.out]
    have X32 := hide (X3.out.below hb)
    have X72 := hide (X7.out.below hb)
    have L5 := hide (L4.out.below hb)
    have G5 := hide (G4.out.below hb)
    have HB5 := hide (HB4.out.trans (hb.mono HB4.out.size))
    clear hb hv X3 X7 L4 G4 HB4
    have x0 := X32.out.1
    have x1 := X32.out.2.1
    have x2 := X32.out.2.2
    have x3 := X72.out.1
    have x4 := X72.out.2.1
    have x5 := X72.out.2.2
    go_wp2_with fail
    obtain ⟨w6, h6⟩ : ∃ W : World, W = w5.alloc (.cells #[.slice C2 (giveZ z y a x s).length k2, .slice D2 (giveY z y a x s).length q2] 26) := ⟨_, rfl⟩
    rw [← h6]
    have hb : Below w5.heap.size w5 w6 := by rw [h6]; exact below_new _
    have X3 := hide (X32.out.below hb)
    have X7 := hide (X72.out.below hb)
    have L6 := hide (L5.out.below hb)
    have G6 := hide (G5.out.below hb)
    have HB6 := hide (HB5.out.trans (hb.mono HB5.out.size))
    clear hb h6 X32 X72 L5 G5 HB5 x0 x1 x2 x3 x4 x5
    refine (specSameLists_any C' D' C D n0 k' m0 q' n0 k m0 q z y z y w6 G6.out.en G6.out.em L6.out.en L6.out.em G6.out.sz L6.out.sz G6.out.r0 G6.out.r1 L6.out.r0 L6.out.r1).mono ?_
    rintro e w7 ⟨rfl, hb⟩
    rw [sameR_refl]
    have HB7 := hide (HB6.out.trans (hb.mono HB6.out.size))
    clear hb
    go_wp2_with fail
    go_ret
    exact ⟨rfl, HB7.out⟩
  · have HOK := hide hok
    obtain ⟨i, j, hog⟩ := okGive_og hok
    obtain ⟨hq1, hq2⟩ := hog.q
    have HZe := hide (show giveZ z y a x s = givZ z y (i * 3 + j) j s by unfold giveZ; rw [if_pos hok, hq1, hq2])
    have HYe := hide (show giveY z y a x s = givY z y (i * 3 + j) j s by unfold giveY; rw [if_pos hok, hq1, hq2])
    obtain ⟨Z, hZ⟩ : ∃ Z, Z = giveZ z y a x s := ⟨_, rfl⟩
    obtain ⟨Y, hY⟩ : ∃ Y, Y = giveY z y a x s := ⟨_, rfl⟩
    rw [← hZ] at hsz G3 HZ3 HZe
    rw [← hY] at hsz G3 HZ3 HYe
    have HSZ := hide hsz
    have HOG := hide hog
    have x0 := X33.out.1
    have x1 := X33.out.2.1
    have x2 := X33.out.2.2
    clear hok hog hq1 hq2 hsz
    go_wp2_with fail
    obtain ⟨w4, h4⟩ : ∃ W : World, W = w3.alloc (.cells #[.slice C' n0 k', .slice D' m0 q'] 26) := ⟨_, rfl⟩
    rw [← h4]
    have hb : Below w3.heap.size w3 w4 := by rw [h4]; exact below_new _
    have X7 := hide (show Bx w4 w3.heap.size (.slice C' n0 k') (.slice D' m0 q') by rw [h4]; exact Bx.new)
    obtain ⟨p7, hp7⟩ : ∃ p, p = w3.heap.size := ⟨_, rfl⟩
    rw [← hp7] at X7 ⊢
    have X3 := hide (X33.out.below hb)
    have L4 := hide (L3.out.below hb)
    have G4 := hide (G3.out.below hb)
    have HB4 := hide (HB3.out.trans (hb.mono HB3.out.size))
    clear hb h4 hp7 X33 L3 G3 HB3 x0 x1 x2
    refine (specGive_any C D n0 k m0 q z y a x s w4 L4.out.en L4.out.em L4.out.sz L4.out.r0 L4.out.r1).mono ?_
    rintro e w5 ⟨v, rfl, hv, hb⟩
    obtain ⟨C2, k2, D2, q2, rfl⟩ := hv.shp
    rw [HOK.out, ← hZ, ← hY, HZ3.out.1, HZ3.out.2]
    have X32 := hide (X3.out.below hb)
    have X72 := hide (X7.out.below hb)
    have L5 := hide (L4.out.below hb)
    have G5 := hide (G4.out.below hb)
    have HB5 := hide (HB4.out.trans (hb.mono HB4.out.size))
    clear hb hv X3 X7 L4 G4 HB4 hZ hY
    have x0 := X32.out.1
    have x1 := X32.out.2.1
    have x2 := X32.out.2.2
    have x3 := X72.out.1
    have x4 := X72.out.2.1
    have x5 := X72.out.2.2
    go_wp2_with fail
    obtain ⟨w6, h6⟩ : ∃ W : World, W = w5.alloc (.cells #[.slice C2 n0 k2, .slice D2 m0 q2] 26) := ⟨_, rfl⟩
    rw [← h6]
    have hb : Below w5.heap.size w5 w6 := by rw [h6]; exact below_new _
    have X3 := hide (X32.out.below hb)
    have X7 := hide (X72.out.below hb)
    have L6 := hide (L5.out.below hb)
    have G6 := hide (G5.out.below hb)
    have HB6 := hide (HB5.out.trans (hb.mono HB5.out.size))
    clear hb h6 X32 X72 L5 G5 HB5 x0 x1 x2 x3 x4 x5
    have ok := HOG.out.okNew
    have hs := HOG.out.has
    have hf := HOG.out.free
    rw [← HZe.out, ← HYe.out] at ok hs hf
    have hfl := freeR_le HL.out.1 HL.out.2.1 HL.out.2.2 x
    obtain ⟨f, hfe⟩ : ∃ f, f = freeR z y x := ⟨_, rfl⟩
    rw [← hfe] at hf hfl
    have hwr : IntKind.i64.wrap (f + 1) = f + 1 := IntWalk.i64_in _ (by omega)
    have HC1 : Hid (∀ W, Below w6.heap.size w6 W → Calls Try.prog 9 #[.agg #[.slice C' n0 k', .slice D' m0 q']] W fun e w' => e = .returned (.bool true) ∧ Below W.heap.size W w') := hide (fun W hb => by
      have g := G6.out.below hb
      have h := specListsOk_any C' D' n0 k' m0 q' Z Y W g.en g.em g.sz g.r0 g.r1
      rw [ok] at h
      exact h)
    have HC2 : Hid (∀ W, Below w6.heap.size w6 W → Calls Try.prog 10 #[.agg #[.slice C' n0 k', .slice D' m0 q'], .int .i64 s] W fun e w' => e = .returned (.bool true) ∧ Below W.heap.size W w') := hide (fun W hb => by
      have g := G6.out.below hb
      have h := implOnList_any C' D' n0 k' m0 q' Z Y s W g.en g.em g.sz g.r0 g.r1
      rw [hs] at h
      exact h)
    have HC3 : Hid (∀ W, Below w6.heap.size w6 W → Calls Try.prog 11 #[.agg #[.slice C' n0 k', .slice D' m0 q'], .int .i64 x] W fun e w' => e = .returned (.int .i64 (f + 1)) ∧ Below W.heap.size W w') := hide (fun W hb => by
      have g := G6.out.below hb
      have h := implFreeOf_any C' D' n0 k' m0 q' Z Y x W g.en g.em g.hk g.hq g.sz g.r0 g.r1
      rw [hf] at h
      exact h)
    have HC4 : Hid (∀ W, Below w6.heap.size w6 W → Calls Try.prog 12 #[.agg #[.slice C n0 k, .slice D m0 q], .int .i64 x] W fun e w' => e = .returned (.int .i64 f) ∧ Below W.heap.size W w') := hide (fun W hb => by
      have g := L6.out.below hb
      have h := specFreeOf_any C D n0 k m0 q z y x W g.en g.em g.hk g.hq g.sz g.r0 g.r1
      rw [← hfe] at h
      exact h)
    have x0 := X3.out.1
    have x1 := X3.out.2.1
    have x2 := X7.out.1
    have x3 := X7.out.2.1
    have l3 := X3.out.2.2
    have l7 := X7.out.2.2
    clear ok hs hf hfl hfe
    go_wp2_with fail
    go_region_held3 (fun w' => (w'.cell? ⟨p3, 0, none⟩ = some (.slice C n0 k) ∧ w'.cell? ⟨p3, 1, none⟩ = some (.slice D m0 q) ∧ w'.cell? ⟨p7, 0, none⟩ = some (.slice C' n0 k') ∧ w'.cell? ⟨p7, 1, none⟩ = some (.slice D' m0 q')) ∧ Below w6.heap.size w6 w')
      (first | (exact keep22 l3 l3 l7 l7 (by assumption) (by assumption)) | (exact ⟨⟨x0, x1, x2, x3⟩, (Below.refl _ _).drew⟩))
      (first
        | (go_at_call 9; refine (HC1.out _ (And.right (by assumption))).mono ?_; rintro e w' ⟨rfl, hb⟩)
        | (go_at_call 10; refine (HC2.out _ (And.right (by assumption))).mono ?_; rintro e w' ⟨rfl, hb⟩)
        | (go_at_call 11; refine (HC3.out _ (And.right (by assumption))).mono ?_; rintro e w' ⟨rfl, hb⟩)
        | (go_at_call 12; refine (HC4.out _ (And.right (by assumption))).mono ?_; rintro e w' ⟨rfl, hb⟩))
    have hS := ‹(_ ∧ _) ∧ Below w6.heap.size w6 _›
    obtain ⟨w7, rfl, -, hb⟩ := named (C := fun W => (W.cell? ⟨p3, 0, none⟩ = some (.slice C n0 k) ∧ W.cell? ⟨p3, 1, none⟩ = some (.slice D m0 q) ∧ W.cell? ⟨p7, 0, none⟩ = some (.slice C' n0 k') ∧ W.cell? ⟨p7, 1, none⟩ = some (.slice D' m0 q'))) hS
    clear hS
    have X31 := hide (X3.out.below hb)
    have X71 := hide (X7.out.below hb)
    have L7 := hide (L6.out.below hb)
    have G7 := hide (G6.out.below hb)
    have HB7 := hide (HB6.out.trans (hb.mono HB6.out.size))
    clear hb X3 X7 L6 G6 HB6 x0 x1 x2 x3 l3 l7 HC1 HC2 HC3 HC4 hwr
    have hj3 := HOG.out.hj
    have hi3 := HOG.out.hi
    have hm9 : m0 = 9 := L7.out.em.trans HOG.out.ly
    obtain ⟨r, hr⟩ : ∃ r, r = i * 3 + j := ⟨_, rfl⟩
    obtain ⟨b0, off0, A2, n2, c2, eD, d1, d2, d3, d4, d5, d6⟩ := L7.out.r1 r (by have := L7.out.em; omega)
    subst eD
    have HOA : Hid (∀ W : World, Calls Try.prog 13 #[.int .i64 a, .int .i64 x] W fun e w' => e = .returned (.int .i64 (r : Int)) ∧ W = w') := hide (fun W => by rw [hr, ← ownR_nat hi3 hj3, ← HOG.out.ea, ← HOG.out.ec]; exact specOwnAt_any a x W)
    have hrm : (r : Int) < (m0 : Int) := by omega
    have x0 := X31.out.1
    have x1 := X31.out.2.1
    have HD3 := hide d3
    have HR := hide hr
    clear d3 d4 d5 d6 hr hm9 hi3 hj3
    by_cases h2 : n2 < 2
    · have h2i : (n2 : Int) < 2 := by omega
      obtain ⟨e1, e2, e3, e4⟩ := HOG.out.own (by rw [← HR.out, ← HD3.out]; exact h2) Z Y HZe.out HYe.out
      have E := hide (And.intro e1 (And.intro e2 e3))
      have hne : Hid (¬ globS Z Y x = s) := hide e4
      clear e1 e2 e3 e4
      go_wp2_with fail
      go_quiet (first | (go_at_call 13; exact Calls.quiet_of_same ((HOA.out _).mono fun e w' h => ⟨h.1, h.2.symm⟩)))
      rename_i nq
      obtain ⟨w8, h8⟩ : ∃ W : World, W = w7.drewN nq := ⟨_, rfl⟩
      rw [← h8]
      have hb : Below w7.heap.size w7 w8 := by rw [h8]; exact below_drewN _ _
      have X3 := hide (X31.out.below hb)
      have X7 := hide (X71.out.below hb)
      have L8 := hide (L7.out.below hb)
      have G8 := hide (G7.out.below hb)
      have HB8 := hide (HB7.out.trans (hb.mono HB7.out.size))
      clear hb h8 X31 X71 L7 G7 HB7 x0 x1 d1 d2
      have x0 := X7.out.1
      have x1 := X7.out.2.1
      go_wp2_with fail
      refine (implTakeOwn_any C' D' n0 k' m0 q' Z Y a x w8 G8.out.en G8.out.em G8.out.sz G8.out.r0 G8.out.r1).mono ?_
      rintro e w9 ⟨v, rfl, hv⟩
      obtain ⟨C3, k3, D3, q3, rfl⟩ := hv.shp
      have hb := hv.bel
      rw [E.out.2.1] at hv ⊢
      rw [E.out.2.2]
      rw [E.out.1] at hv ⊢
      have T9 := hide (hv.bl (by have := L8.out.sz; rw [L8.out.en, L8.out.em] at this; exact this))
      obtain ⟨n1, hn1⟩ : ∃ n1, n1 = z.length := ⟨_, rfl⟩
      obtain ⟨m1, hm1⟩ : ∃ m1, m1 = y.length := ⟨_, rfl⟩
      rw [← hn1, ← hm1] at T9 ⊢
      clear hn1 hm1
      have X31 := hide (X3.out.below hb)
      have X71 := hide (X7.out.below hb)
      have L9 := hide (L8.out.below hb)
      have G9 := hide (G8.out.below hb)
      have HB9 := hide (HB8.out.trans (hb.mono HB8.out.size))
      clear hb hv X3 X7 L8 G8 HB8 x0 x1
      have x0 := X71.out.1
      have x1 := X71.out.2.1
      have x2 := X71.out.2.2
      go_wp2_with fail
      obtain ⟨w10, h10⟩ : ∃ W : World, W = w9.alloc (.cells #[.slice C3 n1 k3, .slice D3 m1 q3] 26) := ⟨_, rfl⟩
      rw [← h10]
      have hb : Below w9.heap.size w9 w10 := by rw [h10]; exact below_new _
      have X12 := hide (show Bx w10 w9.heap.size (.slice C3 n1 k3) (.slice D3 m1 q3) by rw [h10]; exact Bx.new)
      obtain ⟨p12, hp12⟩ : ∃ p, p = w9.heap.size := ⟨_, rfl⟩
      rw [← hp12] at X12 ⊢
      have X3 := hide (X31.out.below hb)
      have L10 := hide (L9.out.below hb)
      have G10 := hide (G9.out.below hb)
      have T10 := hide (T9.out.below hb)
      clear T9
      have HB10 := hide (HB9.out.trans (hb.mono HB9.out.size))
      clear hb h10 hp12 X31 X71 L9 G9 HB9 x0 x1 x2
      refine (implTakeGlobal_any C' D' n0 k' m0 q' Z Y x w10 G10.out.en G10.out.em G10.out.sz G10.out.r0 G10.out.r1).mono ?_
      rintro e w11 ⟨v, rfl, hv⟩
      obtain ⟨C4, k4, D4, q4, rfl⟩ := hv.shp
      have hb := hv.bel
      obtain ⟨g1, hg1⟩ : ∃ g1, g1 = globS Z Y x := ⟨_, rfl⟩
      rw [← hg1] at hne ⊢
      obtain ⟨n2', hn2⟩ : ∃ n1, n1 = (globZ Z Y x).length := ⟨_, rfl⟩
      obtain ⟨m2', hm2⟩ : ∃ m1, m1 = Y.length := ⟨_, rfl⟩
      rw [← hn2, ← hm2]
      clear hg1 hn2 hm2
      have X31 := hide (X3.out.below hb)
      have X121 := hide (X12.out.below hb)
      have L11 := hide (L10.out.below hb)
      have T11 := hide (T10.out.below hb)
      clear T10
      have HB11 := hide (HB10.out.trans (hb.mono HB10.out.size))
      clear hb hv X3 X12 L10 G10 HB10
      have HW12 : Hid (∀ W, W = w11.alloc (.cells #[.slice C4 n2' k4, .slice D4 m2' q4] 26) → Below w11.heap.size w11 W ∧ Bx W w11.heap.size (.slice C4 n2' k4) (.slice D4 m2' q4)) := hide (fun W h => by subst h; exact ⟨below_new _, Bx.new⟩)
      have x0 := X31.out.1
      have x1 := X31.out.2.1
      have x2 := X31.out.2.2
      have x3 := X121.out.1
      have x4 := X121.out.2.1
      have x5 := X121.out.2.2
      have x6 := hne.out
      go_wp2_with fail
      obtain ⟨w12, h12⟩ : ∃ W : World, W = w11.alloc (.cells #[.slice C4 n2' k4, .slice D4 m2' q4] 26) := ⟨_, rfl⟩
      rw [← h12]
      have hb := (HW12.out _ h12).1
      have L12 := L11.out.below hb
      have T12 := T11.out.below hb
      have HB12 := hide (HB11.out.trans (hb.mono HB11.out.size))
      refine (specSameLists_any C3 D3 C _ n1 k3 m1 q3 n0 k m0 q z y z y w12 T12.en T12.em L12.en L12.em T12.sz L12.sz T12.r0 T12.r1 L12.r0 L12.r1).mono ?_
      rintro e w13 ⟨rfl, hb⟩
      rw [sameR_refl]
      have HB13 := hide (HB12.out.trans (hb.mono HB12.out.size))
      clear hb h12 L12 T12
      go_wp2_with fail
      go_ret
      exact ⟨retB (a := _ != _) (bne_iff_ne.2 hne.out), HB13.out⟩
    · have h2i : ¬ (n2 : Int) < 2 := by omega
      obtain ⟨e1, e2, e3, e4⟩ := HOG.out.glob (by rw [← HR.out, ← HD3.out]; exact h2) Z Y HZe.out HYe.out
      have E := hide (And.intro e1 (And.intro e2 e3))
      have hne : Hid (¬ ownS Z Y a x = s) := hide e4
      clear e1 e2 e3 e4
      go_wp2_with fail
      go_quiet (first | (go_at_call 13; exact Calls.quiet_of_same ((HOA.out _).mono fun e w' h => ⟨h.1, h.2.symm⟩)))
      rename_i nq
      obtain ⟨w8, h8⟩ : ∃ W : World, W = w7.drewN nq := ⟨_, rfl⟩
      rw [← h8]
      have hb : Below w7.heap.size w7 w8 := by rw [h8]; exact below_drewN _ _
      have X3 := hide (X31.out.below hb)
      have X7 := hide (X71.out.below hb)
      have L8 := hide (L7.out.below hb)
      have G8 := hide (G7.out.below hb)
      have HB8 := hide (HB7.out.trans (hb.mono HB7.out.size))
      clear hb h8 X31 X71 L7 G7 HB7 x0 x1 d1 d2
      have x0 := X7.out.1
      have x1 := X7.out.2.1
      go_wp2_with fail
      refine (implTakeOwn_any C' D' n0 k' m0 q' Z Y a x w8 G8.out.en G8.out.em G8.out.sz G8.out.r0 G8.out.r1).mono ?_
      rintro e w9 ⟨v, rfl, hv⟩
      obtain ⟨C3, k3, D3, q3, rfl⟩ := hv.shp
      have hb := hv.bel
      obtain ⟨g1, hg1⟩ : ∃ g1, g1 = ownS Z Y a x := ⟨_, rfl⟩
      rw [← hg1] at hne ⊢
      obtain ⟨n1, hn1⟩ : ∃ n1, n1 = Z.length := ⟨_, rfl⟩
      obtain ⟨m1, hm1⟩ : ∃ m1, m1 = (ownY Z Y a x).length := ⟨_, rfl⟩
      rw [← hn1, ← hm1]
      clear hg1 hn1 hm1
      have X31 := hide (X3.out.below hb)
      have X71 := hide (X7.out.below hb)
      have L9 := hide (L8.out.below hb)
      have G9 := hide (G8.out.below hb)
      have HB9 := hide (HB8.out.trans (hb.mono HB8.out.size))
      clear hb hv X3 X7 L8 G8 HB8 x0 x1
      have x0 := X71.out.1
      have x1 := X71.out.2.1
      have x2 := X71.out.2.2
      go_wp2_with fail
      obtain ⟨w10, h10⟩ : ∃ W : World, W = w9.alloc (.cells #[.slice C3 n1 k3, .slice D3 m1 q3] 26) := ⟨_, rfl⟩
      rw [← h10]
      have hb : Below w9.heap.size w9 w10 := by rw [h10]; exact below_new _
      have X12 := hide (show Bx w10 w9.heap.size (.slice C3 n1 k3) (.slice D3 m1 q3) by rw [h10]; exact Bx.new)
      obtain ⟨p12, hp12⟩ : ∃ p, p = w9.heap.size := ⟨_, rfl⟩
      rw [← hp12] at X12 ⊢
      have X3 := hide (X31.out.below hb)
      have L10 := hide (L9.out.below hb)
      have G10 := hide (G9.out.below hb)
      have HB10 := hide (HB9.out.trans (hb.mono HB9.out.size))
      clear hb h10 hp12 X31 X71 L9 G9 HB9 x0 x1 x2
      refine (implTakeGlobal_any C' D' n0 k' m0 q' Z Y x w10 G10.out.en G10.out.em G10.out.sz G10.out.r0 G10.out.r1).mono ?_
      rintro e w11 ⟨v, rfl, hv⟩
      obtain ⟨C4, k4, D4, q4, rfl⟩ := hv.shp
      have hb := hv.bel
      rw [E.out.2.1] at hv ⊢
      rw [E.out.2.2]
      rw [E.out.1] at hv ⊢
      have T11 := hide (hv.bl (by have := L10.out.sz; rw [L10.out.en, L10.out.em] at this; exact this))
      obtain ⟨n2', hn2⟩ : ∃ n1, n1 = z.length := ⟨_, rfl⟩
      obtain ⟨m2', hm2⟩ : ∃ m1, m1 = y.length := ⟨_, rfl⟩
      rw [← hn2, ← hm2] at T11 ⊢
      clear hn2 hm2
      have X31 := hide (X3.out.below hb)
      have X121 := hide (X12.out.below hb)
      have L11 := hide (L10.out.below hb)
      have HB11 := hide (HB10.out.trans (hb.mono HB10.out.size))
      clear hb hv X3 X12 L10 G10 HB10
      have HW12 : Hid (∀ W, W = w11.alloc (.cells #[.slice C4 n2' k4, .slice D4 m2' q4] 26) → Below w11.heap.size w11 W ∧ Bx W w11.heap.size (.slice C4 n2' k4) (.slice D4 m2' q4)) := hide (fun W h => by subst h; exact ⟨below_new _, Bx.new⟩)
      have x0 := X31.out.1
      have x1 := X31.out.2.1
      have x2 := X31.out.2.2
      have x3 := X121.out.1
      have x4 := X121.out.2.1
      have x5 := X121.out.2.2
      have x6 := hne.out
      go_wp2_with fail
      obtain ⟨w12, h12⟩ : ∃ W : World, W = w11.alloc (.cells #[.slice C4 n2' k4, .slice D4 m2' q4] 26) := ⟨_, rfl⟩
      rw [← h12]
      have hb := (HW12.out _ h12).1
      have L12 := L11.out.below hb
      have T12 := T11.out.below hb
      have HB12 := hide (HB11.out.trans (hb.mono HB11.out.size))
      refine (specSameLists_any C4 D4 C _ n2' k4 m2' q4 n0 k m0 q z y z y w12 T12.en T12.em L12.en L12.em T12.sz L12.sz T12.r0 T12.r1 L12.r0 L12.r1).mono ?_
      rintro e w13 ⟨rfl, hb⟩
      rw [sameR_refl]
      have HB13 := hide (HB12.out.trans (hb.mono HB12.out.size))
      clear hb h12 L12 T12
      go_wp2_with fail
      go_ret
      exact ⟨retB (a := _ != _) (bne_iff_ne.2 hne.out), HB13.out⟩
set_option maxRecDepth 100000 in
theorem fnLists_walk (A : Option Addr) (n c : Nat) (zs : List Int) (w : World) (h : Sl .u8 w A n c zs) : Calls Try.prog 3 #[.slice A n c] w fun e w' => e = .returned (.bool true) ∧ Below w.heap.size w w' := by
  obtain ⟨hn, _, hm, hr, hwf⟩ := h
  by_cases hz : n ≤ 1048576
  · exact fnLists_core A n c zs w hn hz hr
  · have hz1 : (1048576 : Int) < (n : Int) := by omega
    clear hn hr hz hwf
    go_enter Try.func3, Try.ntmps3
    go_wp2
    go_ret
    exact ⟨rfl, Below.refl _ _⟩
end Go.Proofs.Ytdhocncfpapncab
