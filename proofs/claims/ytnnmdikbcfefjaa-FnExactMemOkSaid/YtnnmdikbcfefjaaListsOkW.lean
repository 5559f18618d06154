/-
  ListsOk: the walk of the program's function.
-/
import Derived.Test.YtnnmdikbcfefjaaListsOkI
import Derived.Test.YtnnmdikbcfefjaaArr
import Derived.Deep.DeepCutAuto
namespace Go.Proofs.Ytnnmdikbcfefjaa
open Go.RowKit
set_option linter.unusedVariables false

theorem isSlot_q {i : Int} {r : Bool} (h : in23 i = r) (w : World) : Calls Try.prog 36 #[.int .i64 i] w fun e w' => e = .returned (.bool r) ∧ w = w' := by
  subst h; exact isSlotL_any i w
set_option maxRecDepth 100000 in
set_option maxHeartbeats 3200000 in
theorem implListsOk_any (A A' : Option Addr) (n c n' c' : Nat) (z y : List (List Int)) (w : World) (hn : n = z.length) (hn' : n' = y.length) (hm : n + sumL z n + n' + sumL y n' ≤ 1048576) (ha : RdM w A z w.heap.size) (ha' : RdM w A' y w.heap.size) :
    Calls Try.prog 18 #[.agg #[.slice A n c, .slice A' n' c']] w fun e w' => e = .returned (.bool (okR z y)) ∧ Below w.heap.size w w' := by
  have HN := hide hn
  have HN' := hide hn'
  have HA := hide ha
  have HA' := hide ha'
  have HM := hide hm
  clear hn hn' ha ha' hm
  by_cases h3 : n = 3
  case neg =>
    have hq : ¬ (n : Int) = 3 := by omega
    have HX : Hid (okR z y = false) := hide (by unfold okR; rw [decide_eq_false (show ¬ z.length = 3 from fun e => h3 (HN.out.trans e))]; rfl)
    have hz1 : (n : Int) ≤ 1048576 := by have := HM.out; omega
    clear h3
    go_enter Try.func18, Try.ntmps18
    go_wp2
    go_ret
    exact ⟨retB HX.out.symm, (Below.refl _ _).alloc (Nat.le_refl _) _⟩
  by_cases h9 : n' = 9
  case neg =>
    have hq : ¬ (n' : Int) = 9 := by omega
    have HX : Hid (okR z y = false) := hide (by unfold okR; rw [decide_eq_false (show ¬ y.length = 9 from fun e => h9 (HN'.out.trans e)), Bool.and_false]; rfl)
    have hz1 : (n' : Int) ≤ 1048576 := by have := HM.out; omega
    subst h3
    clear h9
    go_enter Try.func18, Try.ntmps18
    go_wp2
    go_ret
    exact ⟨retB HX.out.symm, (Below.refl _ _).alloc (Nat.le_refl _) _⟩
  subst h3 h9
  have hlen : (y ++ z).length = 12 := by rw [List.length_append, ← HN.out, ← HN'.out]
  have HE : Hid (okR z y = (shortL y && goodL (allN (y ++ z) 12))) := hide (by
    have e : allN (y ++ z) 12 = allN y y.length ++ allN z z.length := by rw [← hlen]; exact allN_append y z
    rw [e, goodL_comm]
    unfold okR; rw [decide_eq_true HN.out.symm, decide_eq_true HN'.out.symm]; rfl)
  have HL := hide hlen
  clear hlen
  obtain ⟨vs, hvl, hvr, hvo⟩ := rdM_vals HA'.out
  obtain ⟨us, hul, hur, huo⟩ := rdM_vals HA.out
  have HV1 := hide hvl
  have HV2 := hide hvr
  have HV3 := hide hvo
  have HU1 := hide hul
  have HU2 := hide hur
  have HU3 := hide huo
  clear hvl hvr hvo hul hur huo
  go_enter Try.func18, Try.ntmps18
  go_upto_region 3 with (fail)
  obtain ⟨fs, hfs, hz, hone⟩ := arr24_ex
  have HFS := hide hfs
  have HZ := hide hz
  have HONE := hide hone
  clear hfs hz hone
  refine wp_region_list (wpList_arr rfl rfl rfl 63 4 24 fs (.tmp 3) (.tmp 18) rfl rfl rfl Try.underlying63 ⟨1, by kernel_rfl⟩ HZ.out HONE.out (by rfl) (by rfl) ?_)
  refine wpList_nil ?_
  go_wp2_with fail
  clear HZ HONE
  obtain ⟨w1, e1⟩ : ∃ W : World, W = w.alloc (.cells #[.slice A 3 c, .slice A' 9 c'] 35) := ⟨_, rfl⟩
  rw [← e1]
  obtain ⟨wa, ea⟩ : ∃ W : World, W = (w1.alloc (.cells fs 63)).alloc (.cells #[.slice A' 9 c', .slice A 3 c] 33) := ⟨_, rfl⟩
  rw [← ea]
  have k0 : wa.cell? ⟨w.heap.size + 1 + 1, 0, none⟩ = some (.slice A' 9 c') := by rw [ea, e1]; go_simp
  have k1 : wa.cell? ⟨w.heap.size + 1 + 1, 1, none⟩ = some (.slice A 3 c) := by rw [ea, e1]; go_simp
  have hba : Below w.heap.size w wa := by rw [ea, e1]; exact (((Below.refl _ _).alloc (Nat.le_refl _) _).alloc (by simp) _).alloc (by simp <;> omega) _
  have HEA := hide ea
  have HE1 := hide e1
  have HBA := hide hba
  clear ea e1 hba
  refine (concat_any _ A' A 9 c' 3 c vs us wa k0 k1 (by rw [HV1.out]; exact HN'.out) (by rw [HU1.out]; exact HN.out) (by omega) (by omega) (rdV_at HV2.out HBA.out) (rdV_at HU2.out HBA.out) (rowV_one HV1.out HV3.out) (rowV_one HU1.out HU3.out)).mono ?_
  rintro e w2 ⟨C, kc, rfl, hk, hkm, hcells, hb⟩
  have hcat : CatR w2 (w.heap.size + 1) w.heap.size C (y ++ z) := catR_of (wa := wa) (by rw [HEA.out, HE1.out]; simp) (Nat.le_refl _) (below_go HBA.out hb) HV1.out HU1.out HV3.out HU3.out hcells
  have hlb := LOk.start (T := allN (y ++ z) 12) HE1.out HFS.out HEA.out hb
  have hcl : (vs ++ us).length = 12 := by rw [List.length_append, HV1.out, HU1.out, ← HN.out, ← HN'.out]
  rw [hcl] at hk ⊢
  have HR : Hid (ROk w w2 w2 z y C (.slice A 3 c) (.slice A' 9 c') 0) := hide ⟨hlb.1, hcat, hlb.2⟩
  have HKM := hide hkm
  have hk12 : (12 : Int) ≤ (kc : Int) := by omega
  clear hcat hlb hcells hb hcl k0 k1 HEA HE1 HFS hkm
  go_wp2_with fail
  go_loopg [26] 13 (fun g i wo => ∃ wr : World, wr = wo ∧ ∃ k : Nat, k ≤ 12 ∧ g = 13 - k ∧ i = .int .i64 k ∧ shortP y (min k 9) ∧ ROk w w2 wr z y C (.slice A 3 c) (.slice A' 9 c') (sumL (y ++ z) k))
  case atStart => exact ⟨_, rfl, 0, by omega, rfl, rfl, fun j hj => by omega, HR.out⟩
  case round =>
    clear HR
    obtain ⟨wr, rfl, k, hk, hg, rfl, hS, hR⟩ := hrel
    have HG := hide hg
    have HS := hide hS
    have HR := hide hR
    clear hg hS hR
    by_cases hlt : k < 12
    · have hi' : (k : Int) < 12 := by omega
      obtain ⟨b, A2, n2, c2, rfl, hbm, hbw, hcell, hn2, hc2, hcm2, hrd⟩ := HR.out.cat k (by rw [HL.out]; exact hlt)
      have b1 := HR.out.lok.b1
      have hkc : k < kc := by omega
      have hn2b : (n2 : Int) ≤ 9223372036854775807 := by unfold maxLen at hcm2; omega
      have hw0 : w.heap.size < wr.heap.size := by omega
      have hB : Below wr.heap.size wr (wr.alloc (.cells #[.slice A2 n2 c2] 47)) := (Below.refl wr.heap.size wr).alloc (Nat.le_refl _) _
      have hRB := HR.out.below hB
      have HBL := hide hRB.bel
      have HRB : Hid (ROk w w2 (wr.alloc (.cells #[.slice A2 n2 c2] 47)) z y (some ⟨b, 0, none⟩) (.slice A 3 c) (.slice A' 9 c') (sumL (y ++ z) k + 0)) := hide hRB
      have HRD := hide (hrd.below hB (Nat.le_of_lt hw0))
      have HN2 := hide hn2
      have HC2 : Hid (n2 ≤ c2) := hide hc2
      clear hn2 hrd hcm2 hc2 hB hRB
      by_cases h2 : k < 9 ∧ 2 < n2
      · have h9i : (k : Int) < 9 := by omega
        have h2i : (2 : Int) < (n2 : Int) := by omega
        have HX : Hid (okR z y = false) := hide (by
          have e : (y ++ z).getD k [] = y.getD k [] := by
            have := HN'.out
            simp [List.getD, List.getElem?_append, show k < y.length by omega]
          rw [HE.out, shortL_no (k := k) (by have := HN'.out; omega) (by rw [← e, ← HN2.out]; omega)]; rfl)
        go_wp2
        go_ret
        exact ⟨retB HX.out.symm, HBL.out⟩
      · have HS2 : Hid (shortP y (min (k + 1) 9)) := hide (fun j hj => by
          by_cases e : j < min k 9
          · exact HS.out j e
          · have ej : j = k := by omega
            subst ej
            have e : (y ++ z).getD j [] = y.getD j [] := by
              have := HN'.out
              simp [List.getD, List.getElem?_append, show j < y.length by omega]
            rw [← e, ← HN2.out]; omega)
        by_cases h9 : k < 9
        all_goals
          (first | (have h9i : (k : Int) < 9 := (by omega); have h2i : ¬ (2 : Int) < (n2 : Int) := (by omega)) | have h9i : ¬ (k : Int) < 9 := (by omega))
          go_wp2
          clear h9 h2 h9i
          try clear h2i
          go_loopg [45] (n2 + 1) (fun g i wo => ∃ wx : World, wx = wo ∧ ∃ j : Nat, j ≤ n2 ∧ g = n2 + 1 - j ∧ i = .int .i64 j ∧ RdB .i64 wx A2 ((y ++ z).getD k []) w.heap.size ∧ ROk w w2 wx z y (some ⟨b, 0, none⟩) (.slice A 3 c) (.slice A' 9 c') (sumL (y ++ z) k + j))
          case atStart => exact ⟨_, rfl, 0, by omega, rfl, rfl, HRD.out, HRB.out⟩
          case round =>
            obtain ⟨wx, rfl, j, hj, hg', rfl, hD, hO⟩ := hrel
            have HG2 := hide hg'
            have HD := hide hD
            have HO := hide hO
            clear hg' hD hO hcell b1 hw0 hbm hbw
            by_cases hlj : j < n2
            · have hji : (j : Int) < (n2 : Int) := by omega
              have hjc : j < c2 := by have := HC2.out; omega
              obtain ⟨b2, off2, rfl, hb2, hx⟩ := HD.out j (by rw [← HN2.out]; exact hlj)
              obtain ⟨x, ex⟩ : ∃ x, x = ((y ++ z).getD k []).getD j 0 := ⟨_, rfl⟩
              rw [← ex] at hx
              obtain ⟨p, ep⟩ : ∃ p, p = sumL (y ++ z) k + j := ⟨_, rfl⟩
              have HXX : Hid ((allN (y ++ z) 12).getD p 0 = x) := hide (by rw [ex, ep]; exact allN_at _ (by rw [← HN2.out]; exact hlj) 12 hlt)
              have HP : Hid (p < (allN (y ++ z) 12).length) := hide (by
                rw [allN_length, ep]
                have h5 : sumL (y ++ z) k + ((y ++ z).getD k []).length ≤ sumL (y ++ z) 12 := sumL_le (y ++ z) (i := k + 1) (by omega)
                have := HN2.out
                omega)
              have HO' : Hid (ROk w w2 wx z y (some ⟨b, 0, none⟩) (.slice A 3 c) (.slice A' 9 c') p) := hide (by rw [ep]; exact HO.out)
              have HEP := hide ep
              clear ex ep
              cases hq : in23 x
              · have HX : Hid (okR z y = false) := hide (by rw [HE.out, goodL_bad HP.out (by rw [HXX.out]; exact hq), Bool.and_false])
                have HBX := hide HO'.out.bel
                have HQ := hide hq
                clear hq
                go_wp2_with fail
                refine (isSlot_q HQ.out _).mono ?_
                rintro e w' ⟨rfl, rfl⟩
                go_wp2
                go_ret
                exact ⟨retB HX.out.symm, HBX.out⟩
              · obtain ⟨t, rfl⟩ : ∃ t : Nat, x = (t : Int) := ⟨x.toNat, by have := of_decide_eq_true hq; omega⟩
                have ht : t < 24 := by have := of_decide_eq_true hq; omega
                have hti : (t : Int) < 24 := by omega
                have hcm := HO'.out.lok.row.cell ht
                have hfm := HO'.out.lok.row.frozen t
                have HQ := hide hq
                clear hq
                cases hm : has1 (t : Int) ((allN (y ++ z) 12).take p)
                · rw [hm] at hcm
                  have HST := hide (HO'.out.step HP.out HXX.out (by rw [HXX.out]; exact HQ.out) (by rw [HXX.out]; exact hm))
                  have HDT := hide (HD.out.touch ((Touch.refl [w.heap.size + 1] _).setCell (p := ⟨w.heap.size + 1, t, none⟩) (by simp) (.bool true)) (by simp) (by have := HO'.out.lok.row.lt; omega))
                  have HEP2 : Hid (p + 1 = sumL (y ++ z) k + (j + 1)) := hide (by have := HEP.out; omega)
                  clear hm
                  go_wp2_with fail
                  refine (isSlot_q HQ.out _).mono ?_
                  rintro e w' ⟨rfl, rfl⟩
                  go_wp2
                  go_roundg (n2 + 1 - (j + 1))
                  case measure => have := HG2.out; omega
                  case rel => exact ⟨_, rfl, j + 1, by omega, rfl, by go_num, HDT.out, by rw [← HEP2.out]; exact HST.out⟩
                · rw [hm] at hcm
                  have HX : Hid (okR z y = false) := hide (by rw [HE.out, goodL_twice HP.out (by rw [HXX.out]; exact hm), Bool.and_false])
                  have HBX := hide HO'.out.bel
                  clear hm
                  go_wp2_with fail
                  refine (isSlot_q HQ.out _).mono ?_
                  rintro e w' ⟨rfl, rfl⟩
                  go_wp2
                  go_ret
                  exact ⟨retB HX.out.symm, HBX.out⟩
            · have hji : ¬ (j : Int) < (n2 : Int) := by omega
              have hjn : j = n2 := by omega
              subst hjn
              have HNX : Hid (sumL (y ++ z) (k + 1) = sumL (y ++ z) k + j) := hide (by simp only [sumL]; rw [← HN2.out])
              go_wp2
              go_roundg (13 - (k + 1))
              case measure => have := HG.out; omega
              case rel => exact ⟨_, rfl, k + 1, by omega, rfl, by go_num, HS2.out, by rw [HNX.out]; exact HO.out⟩
    · have hi' : ¬ (k : Int) < 12 := by omega
      have hk12' : k = 12 := by omega
      subst hk12'
      have HX : Hid (okR z y = true) := hide (by
        have hs : shortL y = true := shortP_yes (by rw [← HN'.out]; exact HS.out)
        have hgd : goodL (allN (y ++ z) 12) = true := goodP_yes (by rw [allN_length]; exact HR.out.lok.good)
        rw [HE.out, hs, hgd]; rfl)
      go_wp2
      go_ret
      exact ⟨retB HX.out.symm, HR.out.bel⟩
end Go.Proofs.Ytnnmdikbcfefjaa
