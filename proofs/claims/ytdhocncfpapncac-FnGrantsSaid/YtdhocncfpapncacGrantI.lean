/-
  Grant: the program's contract.
-/
import Derived.Test.YtdhocncfpapncacGrantS
import Derived.Test.YtdhocncfpapncacSetGenI
import Derived.Laws.IdiomCopy
namespace Go.Proofs.Ytdhocncfpapncac
open Go.RowKit
set_option linter.unusedVariables false

def IdxRes (e : Ending) (y : List Int) (n : Nat) : Prop := ∃ r : Int, e = .returned (.int .i64 r) ∧ ((∃ p : Nat, frst y n = some p ∧ r = p ∧ p < n) ∨ (frst y n = none ∧ r = -1))
theorem idxNeg_any (A : Option Addr) (n c : Nat) (zs : List Int) (U : Nat) (w : World) (hn : n = zs.length) (hz : n ≤ 2097152) (ha : RdB .i64 w A zs U) :
    Calls Try.prog 23 #[.slice A n c, .int .i64 (-1)] w fun e w' => IdxRes e zs n ∧ w = w' := by
  have HN := hide hn
  have HA := hide ha
  have hz1 : (n : Int) ≤ 2097152 := by omega
  clear hn ha hz
  go_enter Try.func23, Try.ntmps23
  go_wp2
  go_loopg [5, 8] (n + 1) (fun g _x i wr => wr = w ∧ ∃ k : Nat, k ≤ n ∧ g = n + 1 - k ∧ i = .int .i64 k ∧ ∀ j, j < k → ¬ zs.getD j 0 = -1)
  case atStart => exact ⟨rfl, 0, Nat.zero_le _, rfl, rfl, fun j hj => absurd hj (by omega)⟩
  case round =>
    obtain ⟨rfl, k, hk, hg, rfl, hall⟩ := hrel
    have HG := hide hg
    have HALL := hide hall
    clear hg hall
    by_cases hlt : k < n
    · obtain ⟨b, off, rfl, hb, hc⟩ := HA.out k (by have := HN.out; omega)
      have hi : (k : Int) < (n : Int) := by omega
      obtain ⟨v, hv⟩ : ∃ v, v = zs.getD k 0 := ⟨_, rfl⟩
      rw [← hv] at hc
      have HV := hide hv
      clear hv
      by_cases hq : v = -1
      · have HT : Hid (frst zs n = some k) := hide (frst_hit HALL.out hlt (by rw [← HV.out, hq]))
        subst hq
        go_wp2
        go_ret
        exact ⟨⟨(k : Int), rfl, .inl ⟨k, HT.out, rfl, hlt⟩⟩, rfl⟩
      · have hq2 : ¬ -1 = v := fun h => hq h.symm
        go_wp2
        go_roundg (n + 1 - (k + 1))
        case measure => have := HG.out; omega
        case rel => exact ⟨rfl, k + 1, by omega, rfl, by go_num, fun j hj => by
          by_cases e : j = k
          · subst e; rw [← HV.out]; exact hq
          · exact HALL.out j (by omega)⟩
    · have hi : ¬ (k : Int) < (n : Int) := by omega
      have hkn : k = n := by omega
      subst hkn
      have HT : Hid (frst zs k = none) := hide (frst_none HALL.out)
      go_wp2
      go_ret
      exact ⟨⟨-1, rfl, .inr ⟨HT.out, rfl⟩⟩, rfl⟩
theorem withinC_any (v : Int) (w : World) : Calls Try.prog 40 #[.int .i64 v, .int .i64 0, .int .i64 2] w fun e w' => e = .returned (.bool (clsOk v)) ∧ w = w' := by
  by_cases h : 0 ≤ v ∧ v ≤ 2
  · have HT : clsOk v = true := by simpa [clsOk] using h
    rw [HT]; exact within_yes _ _ _ _ h.1 h.2
  · have HT : clsOk v = false := by simpa [clsOk] using h
    rw [HT]; exact within_no _ _ _ _ h
theorem isClassC_any (v : Int) (w : World) : Calls Try.prog 25 #[.int .i64 v] w fun e w' => e = .returned (.bool (clsOk v)) ∧ w = w' := by
  have H := hide (withinC_any v w)
  go_enter Try.func25, Try.ntmps25
  go_wp2_with fail
  refine H.out.mono ?_
  rintro e w1 ⟨rfl, rfl⟩
  clear H
  generalize hq : clsOk v = q
  have HQ := hide hq
  clear hq
  go_wp2
  go_ret
  exact ⟨retB HQ.out.symm, rfl⟩
theorem grant_copy (W : World) (gx t d s : Nat) (x : List Int) (F : List Nat) (c N : Int) (hx : 384 = x.length) (ho : Own 3 W (.slice (some ⟨gx, 0, none⟩) 384 d) (ints x) F) (h64 : t + 64 ≤ 384)
    (h0 : W.cell? ⟨s, 0, none⟩ = some (.int .i64 171)) (h1 : W.cell? ⟨s, 1, none⟩ = some (.int .i64 c)) (h2 : W.cell? ⟨s, 2, none⟩ = some (.int .i64 N)) :
    (Builtin.copy_ #[24, 24] 3 #[.slice (some ⟨gx, t, none⟩) (384 - t) (d - t), .slice (some ⟨s, 0, none⟩) 3 3]).run Try.prog W = .ok (.int .i64 3) (((W.setCell ⟨gx, t, none⟩ (.int .i64 171)).setCell ⟨gx, t + 1, none⟩ (.int .i64 c)).setCell ⟨gx, t + 2, none⟩ (.int .i64 N)) := by
  have h := run_copy_cells (P := Try.prog) W 24 24 3 3 gx t (384 - t) (d - t) ⟨s, 0, none⟩ 3 3 [.int .i64 171, .int .i64 c, .int .i64 N] Try.underlying24 (by kernel_rfl) (by show 3 = Nat.min 3 (384 - t); exact (Nat.min_eq_left (by omega)).symm)
    (fun j v hv => by
      have h3 : ((⟨s, 0, none⟩ : Addr).add j) = ⟨s, j, none⟩ := by unfold Addr.add; split <;> simp_all
      rw [h3]
      match j, hv with
      | 0, hv => simp at hv; rw [← hv]; exact h0
      | 1, hv => simp at hv; rw [← hv]; exact h1
      | 2, hv => simp at hv; rw [← hv]; exact h2
      | j + 3, hv => simp at hv)
    (fun j hj => by have hj3 : j < 3 := hj; rw [(own_cell ho (t + j) (by omega)).1]; rfl) (fun j hj => by have hj3 : j < 3 := hj; exact (own_cell ho (t + j) (by omega)).2) (fun v hv => by simp at hv; rcases hv with rfl | rfl | rfl <;> rfl)
  exact h
set_option maxRecDepth 100000 in
set_option maxHeartbeats 6400000 in
theorem implGrant_any (a a' : Addr) (n c n' c' : Nat) (x y : List Int) (v : Int) (w : World) (hn : n = x.length) (hn' : n' = y.length) (hz : n ≤ 1048576) (hz' : n' ≤ 1048576) (hc : n ≤ c) (hcm : c ≤ maxLen) (ha : RdB .i64 w (some a) x w.heap.size) (ha' : RdB .i64 w (some a') y w.heap.size) :
    Calls Try.prog 6 #[.agg #[.slice (some a) n c, .slice (some a') n' c'], .int .i64 v] w fun e w' => GRes w w' e n n' (gX x y v) (gY x y v) (gS x y v) := by
  obtain ⟨i0, hinf, hz0, hz1, hz2⟩ := info_parts intInfo2
  have HN := hide hn
  have HN' := hide hn'
  have HA := hide ha
  have HA' := hide ha'
  clear hn hn' ha ha'
  go_enter Try.func6, Try.ntmps6
  go_wp2_with fail
  obtain ⟨w1, hW⟩ : ∃ W : World, W = (w.alloc (.cells #[.slice (some a) n c, .slice (some a') n' c'] 26)).alloc (.cells #[.slice none 0 0, .slice none 0 0] 26) := ⟨_, rfl⟩
  rw [← hW]
  have HB1 : Hid (Below w.heap.size w w1) := hide (by rw [hW]; exact ((Below.refl _ _).alloc (Nat.le_refl _) _).alloc (by simp) _)
  have b0 : w1.cell? ⟨w.heap.size, 0, none⟩ = some (.slice (some a) n c) := by rw [hW]; go_simp
  have b1 : w1.cell? ⟨w.heap.size, 1, none⟩ = some (.slice (some a') n' c') := by rw [hW]; go_simp
  have r0 : w1.cell? ⟨w.heap.size + 1, 0, none⟩ = some (.slice none 0 0) := by rw [hW]; go_simp
  have r1 : w1.cell? ⟨w.heap.size + 1, 1, none⟩ = some (.slice none 0 0) := by rw [hW]; go_simp
  have f0 : w1.frozen? ⟨w.heap.size + 1, 0, none⟩ = false := by rw [hW]; go_simp
  have f1 : w1.frozen? ⟨w.heap.size + 1, 1, none⟩ = false := by rw [hW]; go_simp
  have t0 : w.heap.size < w1.heap.size := by rw [hW]; simp <;> omega
  have t1 : w.heap.size + 1 < w1.heap.size := by rw [hW]; simp <;> omega
  clear hW
  refine (copyHeap_any a a' n c n' c' x y w1 HN.out HN'.out hz hz' (rdB_at HA.out HB1.out) (rdB_at HA'.out HB1.out)).mono ?_
  rintro e w2 ⟨B, d, F, B', d', F', rfl, hC⟩
  have k0 : w2.cell? ⟨w.heap.size, 0, none⟩ = some (.slice (some a) n c) := (hC.2.2.2.2.cell t0).trans b0
  have k1 : w2.cell? ⟨w.heap.size, 1, none⟩ = some (.slice (some a') n' c') := (hC.2.2.2.2.cell t0).trans b1
  have q0 : w2.cell? ⟨w.heap.size + 1, 0, none⟩ = some (.slice none 0 0) := (hC.2.2.2.2.cell t1).trans r0
  have q1 : w2.cell? ⟨w.heap.size + 1, 1, none⟩ = some (.slice none 0 0) := (hC.2.2.2.2.cell t1).trans r1
  have q2 : w2.frozen? ⟨w.heap.size + 1, 0, none⟩ = false := (hC.2.2.2.2.frozen t1).trans f0
  have q3 : w2.frozen? ⟨w.heap.size + 1, 1, none⟩ = false := (hC.2.2.2.2.frozen t1).trans f1
  have hz2' := hC.2.2.2.2.size
  have t2 : w.heap.size < w2.heap.size := by omega
  have t3 : w.heap.size + 1 < w2.heap.size := by omega
  have HC := hide hC
  clear hC b0 b1 r0 r1 f0 f1
  go_wp2_with fail
  have ha1 : Below w2.heap.size w2 (w2.alloc (.cells #[] 3)) := (Below.refl _ _).alloc (Nat.le_refl _) _
  have hst := St.of_alloc (w := w) (W := w2.alloc (.cells #[] 3)) (b := w.heap.size) (r := w.heap.size + 1) (HC.out.1.below ha1) (HC.out.2.1.below ha1) (fun g hg => by have := HC.out.2.2.1 g hg; omega) HC.out.2.2.2.1 ((below_go HB1.out HC.out.2.2.2.2).trans (ha1.mono (by omega)))
    ((ha1.cell t2).trans k0) ((bel_cell ha1 _ 1 t2).trans k1) ((ha1.cell t3).trans q0) ((bel_cell ha1 _ 1 t3).trans q1) ((ha1.frozen t3).trans q2) ((bel_frozen ha1 _ 1 t3).trans q3) (Nat.le_refl _) (Nat.lt_succ_self _)
  have hsz : (w2.alloc (.cells #[] 3)).heap.size = w2.heap.size + 1 := by simp
  rw [hsz] at hst
  have hrow := World.ownsRow_made (base := w.heap.size) (e := 3) (size := 1) w2 #[] 0 (by omega) (by decide) rfl
  have ha2 : Below (w2.alloc (.cells #[] 3)).heap.size (w2.alloc (.cells #[] 3)) ((w2.alloc (.cells #[] 3)).alloc (.cells #[.slice B n d, .slice B' n' d'] 26)) := (Below.refl _ _).alloc (Nat.le_refl _) _
  have hrow2 := row_below hrow ha2
  obtain ⟨w3, hW⟩ : ∃ W : World, W = (w2.alloc (.cells #[] 3)).alloc (.cells #[.slice B n d, .slice B' n' d'] 26) := ⟨_, rfl⟩
  rw [← hW] at hst hrow2 ⊢
  have HST := hide hst
  have HROW := hide hrow2
  have hFlt : ∀ g, g ∈ F ++ F' → w1.heap.size ≤ g ∧ g < w2.heap.size := fun g hg => ⟨HC.out.2.2.1 g hg, (List.mem_append.1 hg).elim (HC.out.1.lt g) (HC.out.2.1.lt g)⟩
  have HFL := hide hFlt
  clear hst hrow hrow2 ha1 ha2 hsz hW q0 q1 q2 q3 k0 k1 hFlt HC
  have c0 := HST.out.c0
  have c1 := HST.out.c1
  have hbw := HST.out.bel
  refine (idxNeg_any (some a') n' c' y w3.heap.size w3 HN'.out (by omega) (rdB_at HA'.out hbw)).mono ?_
  rintro e w3' ⟨⟨ix, rfl, hix⟩, rfl⟩
  have HIX := hide hix
  clear hix
  go_wp2_with fail
  refine (implHeapOk_any _ _ _ _ _ _ x y _ HN.out HN'.out hz hz' hc hcm (rdB_at HA.out hbw) (rdB_at HA'.out hbw)).mono ?_
  rintro e w4 ⟨rfl, hb⟩
  have HS4 := hide (HST.out.below hb)
  have HR4 := hide (row_below HROW.out hb)
  clear hb hbw HST HROW c0 c1
  have s0 := HS4.out.s0
  have s1 := HS4.out.s1
  have r0 := HS4.out.r0
  have r1 := HS4.out.r1
  have f0 := HS4.out.f0
  have f1 := HS4.out.f1
  cases hh : hokR x y
  · have HX : Hid (gOk x y v = false) := hide (by unfold gOk; rw [hh]; rfl)
    clear hh
    go_wp2
    have h1 := HS4.out.fin (.slice B n d) (.slice B' n' d')
    exact bodyPost_ret (v := .tuple #[.agg #[.slice B n d, .slice B' n' d'], .slice (some ⟨w2.heap.size, 0, none⟩) 0 0]) (by simp [results, Try.results6, go_sem, r0, r1]) rfl
      ⟨B, d, F, B', d', F', _, _, [], by unfold gS; rw [HX.out]; rfl, by unfold gX gY; rw [HX.out]; exact h1, by unfold gS; rw [HX.out]; exact own_nil _, fun g hg => by cases hg⟩
  go_wp2_with fail
  refine (isClassC_any _ _).mono ?_
  rintro e w5 ⟨rfl, rfl⟩
  cases hv : clsOk v
  · have HX : Hid (gOk x y v = false) := hide (by unfold gOk; rw [hv]; simp)
    clear hv
    go_wp2
    have h1 := HS4.out.fin (.slice B n d) (.slice B' n' d')
    exact bodyPost_ret (v := .tuple #[.agg #[.slice B n d, .slice B' n' d'], .slice (some ⟨w2.heap.size, 0, none⟩) 0 0]) (by simp [results, Try.results6, go_sem, r0, r1]) rfl
      ⟨B, d, F, B', d', F', _, _, [], by unfold gS; rw [HX.out]; rfl, by unfold gX gY; rw [HX.out]; exact h1, by unfold gS; rw [HX.out]; exact own_nil _, fun g hg => by cases hg⟩
  have HX : Hid (gOk x y v = true) := hide (by unfold gOk; rw [hh, hv]; rfl)
  have hv2 : 0 ≤ v ∧ v ≤ 2 := by simpa [clsOk] using hv
  have hs : shapeR x y = true := by
    unfold hokR at hh
    rw [Bool.and_eq_true] at hh
    exact hh.1
  obtain ⟨p1, p2, -, -⟩ := shape_parts hs
  have e384 : n = 384 := by have := HN.out; omega
  have e6 : n' = 6 := by have := HN'.out; omega
  subst e384 e6
  clear hh hv hs p1 p2
  by_cases hlt0 : ix < 0
  · have HF : Hid (frst y 6 = none) := hide (by rcases HIX.out with ⟨p, _, h, _⟩ | h <;> first | exact h.1 | omega)
    go_wp2
    have h1 := HS4.out.fin (.slice B 384 d) (.slice B' 6 d')
    exact bodyPost_ret (v := .tuple #[.agg #[.slice B 384 d, .slice B' 6 d'], .slice (some ⟨w2.heap.size, 0, none⟩) 0 0]) (by simp [results, Try.results6, go_sem, r0, r1]) rfl
      ⟨B, d, F, B', d', F', _, _, [], by unfold gS grS; rw [HX.out, HF.out]; rfl, by unfold gX gY grX grY; rw [HX.out, HF.out]; exact h1, by unfold gS grS; rw [HX.out, HF.out]; exact own_nil _, fun g hg => by cases hg⟩
  obtain ⟨p, hf, rfl, hlt⟩ : ∃ p : Nat, frst y 6 = some p ∧ ix = p ∧ p < 6 := by
    rcases HIX.out with h | h
    · exact h
    · omega
  have HF := hide hf
  have hGr : Gr w w w4 (w2.heap.size + 1) (w.heap.size + 1) w.heap.size B d B' d' F F' x y (.slice (some ⟨w2.heap.size, 0, none⟩) 0 0) [] :=
    ⟨s0, s1, HS4.out.g0, r0, r1, f0, f1, HS4.out.own, HS4.out.own', HR4.out, fun k hk => by
      have hk2 : w2.heap.size = k := by simpa [Value.ownBlock] using hk
      exact ⟨by omega, by omega, fun hm => by have := (HFL.out k hm).2; omega⟩, HS4.out.lt, HS4.out.lr, by omega, fun g hg => ⟨by have := (HFL.out g hg).2; omega, by have := (HFL.out g hg).1; omega, HS4.out.lo g hg⟩, HS4.out.ff, HS4.out.bel.size, Nat.le_refl _, by omega, by omega, Nat.le_refl _, Touch.of_below HS4.out.bel, HS4.out.bel⟩
  obtain ⟨b, hbq⟩ : ∃ b, b = w2.heap.size + 1 := ⟨_, rfl⟩
  obtain ⟨rr, hrq⟩ : ∃ rr, rr = w.heap.size + 1 := ⟨_, rfl⟩
  obtain ⟨sv, hsv⟩ : ∃ sv : Value, sv = .slice (some ⟨w2.heap.size, 0, none⟩) 0 0 := ⟨_, rfl⟩
  rw [← hbq, ← hrq, ← hsv] at hGr ⊢
  rw [← hbq] at s0 s1
  rw [← hrq] at r0 r1 f0 f1
  have HGR := hide hGr
  have HQ := hide (⟨hbq, hrq, hsv⟩ : b = w2.heap.size + 1 ∧ rr = w.heap.size + 1 ∧ sv = .slice (some ⟨w2.heap.size, 0, none⟩) 0 0)
  clear hf hGr HIX hbq hrq hsv
  obtain ⟨t, ht⟩ : ∃ t, t = p * 64 := ⟨_, rfl⟩
  have HT := hide ht
  have hpt : (p : Int) * 64 = (t : Int) := by omega
  have ht6 : (t : Int) + 64 ≤ 384 := by omega
  have hp6 : (p : Int) < 6 := by omega
  clear ht
  obtain ⟨g', hB', hyc, hyf, hyo, hyt⟩ := set_own HGR.out.own' p (by have := HN'.out; omega) v
  subst hB'
  have hG1 := HGR.out.touch hyt (fun g hg => List.mem_append_right _ hg) (HGR.out.own.touch hyt (fun g hg => HGR.out.ff g hg)) hyo
  have HG1 := hide hG1
  clear hyo hyt hG1
  go_wp2_with fail
  obtain ⟨w5, hW⟩ : ∃ W : World, W = w4.setCell ⟨g', p, none⟩ (.int .i64 v) := ⟨_, rfl⟩
  rw [← hW] at HG1 ⊢
  have hpb := perC_bd v
  obtain ⟨pb0, pb4⟩ := hpb
  obtain ⟨N, hN⟩ : ∃ N : Nat, perC v = N := ⟨(perC v).toNat, by omega⟩
  have HPN : Hid (perC v = N) := hide hN
  have HPW : Hid (∀ w : World, Calls Try.prog 26 #[.int .i64 v] w fun e w' => e = .returned (.int .i64 (N : Int)) ∧ w' = w) := hide (fun w => by rw [← hN]; exact implPerPage_as v w)
  rw [hN] at pb0 pb4
  have hN4 : N ≤ 4 := by omega
  obtain ⟨gx, hB, hFx⟩ := own_at HG1.out.own (by have := HN.out; omega)
  subst hB
  obtain ⟨W', hcp, hGW⟩ : ∃ W' : World, (Builtin.copy_ #[24, 24] 3 #[.slice (some ⟨gx, t, none⟩) (384 - t) (d - t), .slice (some ⟨w5.heap.size, 0, none⟩) 3 3]).run Try.prog ((w5.alloc (.cells #[.int .i64 171, .int .i64 v, .int .i64 (N : Int)] 3)).drew) = .ok (.int .i64 3) W' ∧ Gr w w W' b rr w.heap.size (some ⟨gx, 0, none⟩) d (some ⟨g', 0, none⟩) d' F F' (hdR x t v) (y.set p v) sv [] := by
    have hA := (HG1.out.below ((Below.refl _ _).alloc (Nat.le_refl _) (.cells #[.int .i64 171, .int .i64 v, .int .i64 (N : Int)] 3))).drew
    refine ⟨_, grant_copy _ gx t d w5.heap.size x F v (N : Int) HN.out hA.own (by omega) (by go_simp) (by go_simp) (by go_simp), ?_⟩
    obtain ⟨g1, e1, -, -, ho0, ht0⟩ := set_own hA.own t (by have := HN.out; omega) 171
    injection e1 with e1
    injection e1 with e1
    subst e1
    have hG2 := hA.touch ht0 (fun g hg => List.mem_append_left _ hg) ho0 (hA.own'.touch ht0 (fun g hg hg' => hA.ff g hg' hg))
    obtain ⟨g1, e1, -, -, ho1, ht1⟩ := set_own hG2.own (t + 1) (by have := HN.out; simp; omega) v
    injection e1 with e1
    injection e1 with e1
    subst e1
    have hG3 := hG2.touch ht1 (fun g hg => List.mem_append_left _ hg) ho1 (hG2.own'.touch ht1 (fun g hg hg' => hG2.ff g hg' hg))
    obtain ⟨g1, e1, -, -, ho2, ht2⟩ := set_own hG3.own (t + 2) (by have := HN.out; simp; omega) (N : Int)
    injection e1 with e1
    injection e1 with e1
    subst e1
    have hG4 := hG3.touch ht2 (fun g hg => List.mem_append_left _ hg) ho2 (hG3.own'.touch ht2 (fun g hg hg' => hG3.ff g hg' hg))
    unfold hdR
    rw [hN]
    exact hG4
  have HGW := hide hGW
  have hd384 := HG1.out.own.read.2.1
  have hdI : (384 : Int) ≤ (d : Int) := by omega
  have hti : (t : Int) ≤ 384 := by omega
  have htd : (t : Int) < (d : Int) := by omega
  have htd2 : t < d := by omega
  have hne : ¬ t = d := by omega
  have hne2 : ¬ d = t := by omega
  have hbl := HG1.out.l0
  have hwt : IntKind.i64.wrap (t : Int) = (t : Int) := by rw [IntKind.wrap_i64]; omega
  have z0 := HG1.out.b0
  have z1 := HG1.out.b1
  clear hGW hN hW hFx HGR HS4 HR4 HFL HB1 s0 s1 r0 r1 f0 f1 hyc hyf t0 t1 t2 t3 hz2'
  go_cut [] (fun wx => Gr w w wx b rr w.heap.size (some ⟨gx, 0, none⟩) d (some ⟨g', 0, none⟩) d' F F' (hdR x t v) (y.set p v) sv [])
  case first =>
    go_region_with (go_at_call 26; refine (HPW.out _).mono ?_; rintro e w' ⟨rfl, rfl⟩)
    all_goals (go_wp2_with fail; go_meet)
    all_goals exact HGW.out
  case rest =>
  have HG5 := hide hcut
  clear hcut HGW hcp z0 z1 hbl HG1 hwt hne hne2 htd htd2 hti hdI hd384
  go_wp2_with (go_at_call 26; refine (HPW.out _).mono ?_; rintro e w' ⟨rfl, rfl⟩)
  have HS : Hid ((perC v).toNat = N) := hide (by rw [HPN.out]; rfl)
  go_loopg [7, 9, 10, 48] 5 (fun g acc _x9 _x10 i wr => ∃ k : Nat, k ≤ N ∧ g = 5 - k ∧ i = .int .i64 k ∧ Gr w w wr b rr w.heap.size (some ⟨gx, 0, none⟩) d (some ⟨g', 0, none⟩) d' F F' (gbN x t v k) (y.set p v) acc (gsN p k))
  case atStart => exact ⟨0, by omega, rfl, rfl, HG5.out⟩
  case round =>
    clear HG5
    obtain ⟨k, hk, hg, rfl, hR⟩ := hrel
    have HG := hide hg
    have HR := hide hR
    clear hg hR
    have b0 := HR.out.b0
    have b1 := HR.out.b1
    have l0 := HR.out.l0
    by_cases hlt2 : k < N
    · have hi2 : (k : Int) < (N : Int) := by omega
      obtain ⟨hga, hge, hk4⟩ := gen_at (c := v) hlt (k := k) (by rw [HS.out]; exact hlt2)
      rw [← HT.out] at hga hge
      obtain ⟨r, hr⟩ : ∃ r : Nat, r = t + 8 + k * (strideC v).toNat := ⟨_, rfl⟩
      rw [← hr] at hga hge
      have HGA := hide hga
      have hr4 : r + 4 ≤ 384 := by omega
      have HRR := hide hr
      have hst0 := HR.out
      have HFX : Hid (∀ w : World, Calls Try.prog 30 #[.int .i64 1, .int .i64 4] w fun e w' => e = .returned (.string ⟨(fixN 4 1).toArray⟩) ∧ Below w.heap.size w w') := hide (fun w => fix4_any 1 (by decide) w)
      clear hga hge hr
      go_wp2_with (go_at_call 27; refine (implSlotAt_any p k _ hlt hk4).mono ?_; rintro e w' ⟨rfl, rfl⟩)
      go_cut [] (fun wx => Gr w w wx b rr w.heap.size (some ⟨gx, 0, none⟩) d (some ⟨g', 0, none⟩) d' F F' (gbN x t v (k + 1)) (y.set p v) u7 (gsN p k))
      case first =>
        go_region_with (first
          | (go_at_call 29; refine (implGenAt_as HGA.out _).mono ?_; rintro e w' ⟨rfl, rfl⟩)
          | (go_at_call 30; refine (HFX.out _).mono ?_; rintro e w' ⟨rfl, hb⟩; have hst1 := Gr.below (by first | assumption | exact Gr.drew (by assumption)) hb; have y0 := hst1.b0; have y1 := hst1.b1)
          | (go_at_call 28; refine (put4_any _ 384 d (gbN x t v k) F r 1 _ (Gr.own (by first | assumption | exact Gr.drew (by assumption))) (by omega) hr4).mono ?_; rintro e w' ⟨rfl, ho, ht⟩; have hst2 := Gr.touch (by first | assumption | exact Gr.drew (by assumption)) ht (fun g hg => List.mem_append_left _ hg) ho ((Gr.own' (by first | assumption | exact Gr.drew (by assumption))).touch ht (fun g hg hg' => HR.out.ff g hg' hg))))
        all_goals (go_wp2_with fail; go_meet)
        all_goals (have e : gbN x t v (k + 1) = upd (gbN x t v k) r (r + 4) (dgt 4 r 1) := by rw [HRR.out]; rfl); (rw [e]; first | exact hst2 | exact hst2.drew)
      case rest =>
      have HG7 := hide hcut
      have hl := hcut.lβ
      have hsz := hcut.bel.size
      clear hcut hst0 b0 b1 l0 HR HRR HGA HFX
      go_wp2_with (at_builtin; refine wpList_app _ rfl _ _ 24 rfl w.heap.size 3 i0 (.int .i64 0) 8 Try.underlying24 hinf hz0 hz1 hz2 rfl _ (gsN p k).length (ints (gsN p k)) rfl (HG7.out.sls.alloc _) _ 1 1 [.int .i64 ((p * 4 + k : Nat) : Int)] _ rfl rfl rd_one ?c1 ?c2 ?c3 ?c4 ?_)
      case c1 => first | rfl | (intro u hu; simp at hu; subst hu; rfl)
      case c2 => rw [gsN_length]; unfold maxLen; omega
      case c3 => rw [gsN_length]; omega
      case c4 => simp; omega
      intro v' w8 hown hgr hne
      have HG8 := hide (HG7.out.app hown hgr (by simpa using hne))
      clear hown hgr hne
      go_wp2
      go_roundg (5 - (k + 1))
      case measure => have := HG.out; omega
      case rel => exact ⟨k + 1, by omega, rfl, by go_num, HG8.out⟩
    · have hkN : k = N := by omega
      subst hkN
      have hi2 : ¬ (k : Int) < (k : Int) := by omega
      have r0 := HR.out.r0
      have r1 := HR.out.r1
      have f0 := HR.out.f0
      have f1 := HR.out.f1
      obtain ⟨S, cs, G0, rfl, hlen, -, -⟩ := own_of_row HR.out.sls
      clear hlen
      go_wp2
      obtain ⟨h1, G, h2, h3, h4⟩ := HR.out.fin (.slice (some ⟨gx, 0, none⟩) 384 d) (.slice (some ⟨g', 0, none⟩) 6 d')
      have ex : gX x y v = gbN x t v k := by unfold gX grX; rw [HX.out, HF.out]; show gbN x (p * 64) v (perC v).toNat = _; rw [HS.out, ← HT.out]
      have ey : gY x y v = y.set p v := by unfold gY grY; rw [HX.out, HF.out]; rfl
      have es : gS x y v = gsN p k := by unfold gS grS; rw [HX.out, HF.out]; show gsN p (perC v).toNat = _; rw [HS.out]
      exact bodyPost_ret (v := .tuple #[.agg #[.slice (some ⟨gx, 0, none⟩) 384 d, .slice (some ⟨g', 0, none⟩) 6 d'], .slice S (gsN p k).length cs]) (by simp [results, Try.results6, go_sem, r0, r1]) rfl
        ⟨_, d, F, _, d', F', S, cs, G, by rw [es], by rw [ex, ey]; exact h1, by rw [es]; exact h2, h3⟩
end Go.Proofs.Ytdhocncfpapncac
