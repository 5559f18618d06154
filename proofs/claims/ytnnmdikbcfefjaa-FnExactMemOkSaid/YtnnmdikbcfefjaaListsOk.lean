/-
  ListsOk: are these lists right? The plain law (no slot twice), the contracts and the walk of the law.
-/
import Derived.Test.YtnnmdikbcfefjaaOnList
import Derived.Test.YtnnmdikbcfefjaaIn
import Derived.BigQuiet
import Derived.Lib.AppendZeros
namespace Go.Proofs.Ytnnmdikbcfefjaa
open Go.RowKit
set_option linter.unusedVariables false

/-! the plain law -/
def in23 (x : Int) : Bool := decide (0 ≤ x ∧ x ≤ 23)
def goodP (T : List Int) (k : Nat) : Prop := ∀ j, j < k → in23 (T.getD j 0) = true ∧ has1 (T.getD j 0) (T.take j) = false
def goodL (T : List Int) : Bool := T.all in23 && decide T.Nodup
theorem has1_no {s : Int} {zs : List Int} : has1 s zs = false ↔ ∀ x, x ∈ zs → x ≠ s := by
  unfold has1
  rw [List.any_eq_false]
  simp
theorem getD_at {T : List Int} {j : Nat} (h : j < T.length) : T.getD j 0 = T[j] := by simp [List.getD, h]
theorem goodP_yes {T : List Int} (h : goodP T T.length) : goodL T = true := by
  unfold goodL
  rw [Bool.and_eq_true]
  refine ⟨List.all_eq_true.2 fun x hx => ?_, decide_eq_true (List.pairwise_iff_getElem.2 fun i j hi hj hij => ?_)⟩
  · obtain ⟨j, hj, rfl⟩ := List.getElem_of_mem hx
    have := (h j hj).1
    rwa [getD_at hj] at this
  · have h2 := has1_no.1 (h j hj).2 T[i] (List.mem_iff_getElem.2 ⟨i, by simp; omega, by simp⟩)
    rwa [getD_at hj] at h2
theorem goodL_at {T : List Int} (h : goodL T = true) {j : Nat} (hj : j < T.length) : in23 (T.getD j 0) = true ∧ has1 (T.getD j 0) (T.take j) = false := by
  unfold goodL at h
  rw [Bool.and_eq_true] at h
  obtain ⟨h1, h2⟩ := h
  have h2 := List.pairwise_iff_getElem.1 (of_decide_eq_true h2)
  rw [getD_at hj]
  refine ⟨List.all_eq_true.1 h1 _ (List.getElem_mem _), has1_no.2 fun x hx => ?_⟩
  obtain ⟨i, hi, rfl⟩ := List.mem_iff_getElem.1 hx
  simp only [List.length_take] at hi
  rw [List.getElem_take]
  exact h2 i j (by omega) hj (by omega)
theorem goodL_bad {T : List Int} {j : Nat} (hj : j < T.length) (h : in23 (T.getD j 0) = false) : goodL T = false := by
  cases hg : goodL T
  · rfl
  · rw [(goodL_at hg hj).1] at h; cases h
theorem goodL_twice {T : List Int} {j : Nat} (hj : j < T.length) (h : has1 (T.getD j 0) (T.take j) = true) : goodL T = false := by
  cases hg : goodL T
  · rfl
  · rw [(goodL_at hg hj).2] at h; cases h
theorem goodP_step {T : List Int} {k : Nat} (h : goodP T k) (h1 : in23 (T.getD k 0) = true) (h2 : has1 (T.getD k 0) (T.take k) = false) : goodP T (k + 1) := fun j hj => by
  by_cases e : j = k
  · subst e; exact ⟨h1, h2⟩
  · exact h j (by omega)
theorem goodL_comm (a b : List Int) : goodL (a ++ b) = goodL (b ++ a) := by
  unfold goodL
  rw [List.all_append, List.all_append, Bool.and_comm (a.all in23)]
  congr 1
  exact decide_eq_decide.2 List.perm_append_comm.nodup_iff
def shortP (y : List (List Int)) (k : Nat) : Prop := ∀ j, j < k → (y.getD j []).length ≤ 2
def shortL (y : List (List Int)) : Bool := y.all (fun l => decide (l.length ≤ 2))
theorem shortP_yes {y : List (List Int)} (h : shortP y y.length) : shortL y = true := by
  refine List.all_eq_true.2 fun x hx => ?_
  obtain ⟨j, hj, rfl⟩ := List.getElem_of_mem hx
  have := h j hj
  have e : y.getD j [] = y[j] := by simp [List.getD, hj]
  rw [e] at this
  exact decide_eq_true this
theorem shortL_no {y : List (List Int)} {k : Nat} (hk : k < y.length) (h : ¬ (y.getD k []).length ≤ 2) : shortL y = false := by
  cases hs : shortL y
  · rfl
  · have e : y.getD k [] = y[k] := by simp [List.getD, hk]
    rw [e] at h
    exact absurd (of_decide_eq_true (List.all_eq_true.1 hs _ (List.getElem_mem _))) h
theorem shortP_step {y : List (List Int)} {k : Nat} (h : shortP y k) (h1 : (y.getD k []).length ≤ 2) : shortP y (k + 1) := fun j hj => by
  by_cases e : j = k
  · subst e; exact h1
  · exact h j (by omega)
/-- What both sides answer: z the global lists, y the workers' own. -/
def okR (z y : List (List Int)) : Bool := (decide (z.length = 3) && decide (y.length = 9)) && (shortL y && goodL (allR z y))

/-! the contracts that both sides call -/
theorem l1In_q {x : Int} {r : Bool} (h : in23 x = r) (w : World) : Calls Try.prog 27 #[.int .i64 x, .int .i64 0, .int .i64 23] w fun e w' => e = .returned (.bool r) ∧ w' = w := by
  subst h
  by_cases h : 0 ≤ x ∧ x ≤ 23
  · rw [show in23 x = true from decide_eq_true h]; exact (l1In_yes _ _ _ w h.1 h.2).mono fun e w' q => ⟨q.1, q.2.symm⟩
  · rw [show in23 x = false from decide_eq_false h]; exact (l1In_no _ _ _ w h).mono fun e w' q => ⟨q.1, q.2.symm⟩
theorem rdB_take {w : World} {A : Option Addr} {zs : List Int} {B : Nat} (h : RdB .i64 w A zs B) (k : Nat) : RdB .i64 w A (zs.take k) B := fun j hj => by
  rw [List.length_take] at hj
  obtain ⟨b, off, e, hb, hc⟩ := h j (by omega)
  exact ⟨b, off, e, hb, by rw [hc]; simp [List.getD, show j < k by omega]⟩
theorem rdB_dN {k : IntKind} {w : World} {A : Option Addr} {z : List Int} {B : Nat} (h : RdB k w A z B) (n : Nat) : RdB k (w.drewN n) A z B := h
theorem l8Has_q {A : Option Addr} {k c : Nat} {zs : List Int} {U : Nat} {x : Int} {r : Bool} (w : World) (hk : k ≤ zs.length) (hz : zs.length ≤ 2097152) (ha : RdB .i64 w A zs U) (h : has1 x (zs.take k) = r) :
    Calls Try.prog 28 #[.slice A k c, .int .i64 x] w fun e w' => e = .returned (.bool r) ∧ w' = w := by
  subst h
  exact (l8Has_any A k c (zs.take k) U x w (by simp; omega) (by omega) (rdB_take ha k)).mono fun e w' q => ⟨q.1, q.2.symm⟩
theorem isSlotL_any (i : Int) (w : World) : Calls Try.prog 36 #[.int .i64 i] w fun e w' => e = .returned (.bool (in23 i)) ∧ w = w' := by
  by_cases h : 0 ≤ i ∧ i ≤ 23
  · have HT := hide (show in23 i = true from decide_eq_true h)
    have H := hide h
    clear h
    go_enter Try.func36, Try.ntmps36
    go_wp2_with fail
    refine (within_yes _ _ _ _ H.out.1 H.out.2).mono ?_
    rintro e w1 ⟨rfl, rfl⟩
    go_wp2
    go_ret
    exact ⟨retB HT.out.symm, rfl⟩
  · have HT := hide (show in23 i = false from decide_eq_false h)
    have H := hide h
    clear h
    go_enter Try.func36, Try.ntmps36
    go_wp2_with fail
    refine (within_no _ _ _ _ H.out).mono ?_
    rintro e w1 ⟨rfl, rfl⟩
    go_wp2
    go_ret
    exact ⟨retB HT.out.symm, rfl⟩

set_option maxRecDepth 100000 in
set_option maxHeartbeats 3200000 in
theorem specListsOk_any (A A' : Option Addr) (n c n' c' : Nat) (z y : List (List Int)) (w : World) (hn : n = z.length) (hn' : n' = y.length) (hm : n + sumL z n + n' + sumL y n' ≤ 1048576) (ha : RdM w A z w.heap.size) (ha' : RdM w A' y w.heap.size) :
    Calls Try.prog 12 #[.agg #[.slice A n c, .slice A' n' c']] w fun e w' => e = .returned (.bool (okR z y)) ∧ Below w.heap.size w w' := by
  have HN := hide hn
  have HN' := hide hn'
  have HA := hide ha
  have HA' := hide ha'
  have HM := hide hm
  clear hn hn' ha ha' hm
  by_cases h3 : n = 3
  case neg =>
    have hq : ¬ (n : Int) = 3 := by omega
    have HX : Hid (okR z y = false) := hide (by unfold okR; rw [decide_eq_false (show ¬ z.length = 3 from fun e => h3 (HN.out.trans e))]; rfl)
    have hz1 : (n : Int) ≤ 1048576 := by have := HM.out; omega
    clear h3
    go_enter Try.func12, Try.ntmps12
    go_wp2
    go_ret
    exact ⟨retB HX.out.symm, (Below.refl _ _).alloc (Nat.le_refl _) _⟩
  by_cases h9 : n' = 9
  case neg =>
    have hq : ¬ (n' : Int) = 9 := by omega
    have HX : Hid (okR z y = false) := hide (by unfold okR; rw [decide_eq_false (show ¬ y.length = 9 from fun e => h9 (HN'.out.trans e)), Bool.and_false]; rfl)
    have hz1 : (n' : Int) ≤ 1048576 := by have := HM.out; omega
    subst h3
    clear h9
    go_enter Try.func12, Try.ntmps12
    go_wp2
    go_ret
    exact ⟨retB HX.out.symm, (Below.refl _ _).alloc (Nat.le_refl _) _⟩
  subst h3 h9
  have HE : Hid (okR z y = (shortL y && goodL (allR z y))) := hide (by unfold okR; rw [decide_eq_true HN.out.symm, decide_eq_true HN'.out.symm]; rfl)
  go_enter Try.func12, Try.ntmps12
  go_wp2_with fail
  obtain ⟨w1, hW⟩ : ∃ W : World, W = w.alloc (.cells #[.slice A 3 c, .slice A' 9 c'] 35) := ⟨_, rfl⟩
  rw [← hW]
  have hb1 : Below w.heap.size w w1 := by rw [hW]; exact (Below.refl _ _).alloc (Nat.le_refl _) _
  have t1 : w.heap.size < w1.heap.size := by rw [hW]; simp
  have b0 : w1.cell? ⟨w.heap.size, 0, none⟩ = some (.slice A 3 c) := by rw [hW]; go_simp
  have b1 : w1.cell? ⟨w.heap.size, 1, none⟩ = some (.slice A' 9 c') := by rw [hW]; go_simp
  clear hW
  have HB1 := hide hb1
  clear hb1
  go_loopg [3] 10 (fun g i wr => wr = w1 ∧ ∃ k : Nat, k ≤ 9 ∧ g = 10 - k ∧ i = .int .i64 k ∧ shortP y k)
  case atStart => exact ⟨rfl, 0, by omega, rfl, rfl, fun j hj => absurd hj (Nat.not_lt_zero _)⟩
  case round =>
    obtain ⟨rfl, k, hk, hg, rfl, hS⟩ := hrel
    have HG := hide hg
    have HS := hide hS
    clear hg hS
    by_cases hlt : k < 9
    · have hi' : (k : Int) < 9 := by omega
      obtain ⟨b, off, A2, n2, c2, rfl, hb, hcell, hn2, hc2, hcm2, hrd⟩ := (rdM_at HA'.out HB1.out) k (by have := HN'.out; omega)
      have hsum := len_le y 9 k hlt
      have hn2b : (n2 : Int) ≤ 1048576 := by have := HM.out; omega
      clear hsum
      by_cases h2 : n2 ≤ 2
      · have h2i : ¬ (2 : Int) < (n2 : Int) := by omega
        have HS2 := hide (shortP_step HS.out (by rw [← hn2]; exact h2))
        clear hrd hn2
        go_wp2
        go_roundg (10 - (k + 1))
        case measure => have := HG.out; omega
        case rel => exact ⟨rfl, k + 1, by omega, rfl, by go_num, HS2.out⟩
      · have h2i : (2 : Int) < (n2 : Int) := by omega
        have HX : Hid (okR z y = false) := hide (by rw [HE.out, shortL_no (k := k) (by have := HN'.out; omega) (by rw [← hn2]; exact h2)]; rfl)
        clear hrd hn2
        go_wp2
        go_ret
        exact ⟨retB HX.out.symm, HB1.out⟩
    · have hi' : ¬ (k : Int) < 9 := by omega
      have hk9 : k = 9 := by omega
      subst hk9
      have HS9 : Hid (okR z y = goodL (allR z y)) := hide (by rw [HE.out, shortP_yes (by rw [← HN'.out]; exact HS.out)]; rfl)
      clear HS HG hlt hk
      go_wp2_with fail
      refine (specAll_any A A' 3 c 9 c' z y _ HN.out HN'.out HM.out (rdM_at HA.out HB1.out) (rdM_at HA'.out HB1.out)).mono ?_
      rintro e w2 ⟨A3, c3, F, rfl, ho, hF, hb⟩
      have HB2 := hide (below_go HB1.out hb)
      have hlen : (allR z y).length ≤ 1048576 := by
        unfold allR; rw [List.length_append, allN_length, allN_length]
        have := HM.out; have := HN.out; have := HN'.out; rw [← HN.out, ← HN'.out]; omega
      obtain ⟨T, hT⟩ : ∃ T, T = allR z y := ⟨_, rfl⟩
      rw [← hT] at ho hlen HS9
      rw [← hT]
      have hTN : T.length ≤ c3 ∧ c3 ≤ maxLen := ⟨ho.read.2.1, ho.read.2.2.1⟩
      have HO := hide (ho.rd).2
      clear ho hF hb hT b0 b1
      obtain ⟨N, hN⟩ : ∃ N, N = T.length := ⟨_, rfl⟩
      rw [← hN] at hlen hTN ⊢
      have HTN := hide hN
      clear hN
      obtain ⟨hNc, hcm⟩ := hTN
      have hNi : (N : Int) ≤ 1048576 := by omega
      go_wp2_with fail
      go_loopg [5] (N + 1) (fun g i wr => Below w2.heap.size w2 wr ∧ ∃ k : Nat, k ≤ N ∧ g = N + 1 - k ∧ i = .int .i64 k ∧ goodP T k)
      case atStart => exact ⟨Below.refl _ _, 0, by omega, rfl, rfl, fun j hj => absurd hj (Nat.not_lt_zero _)⟩
      case round =>
        rename_i wr
        obtain ⟨hB, k, hk, hg, rfl, hS⟩ := hrel
        have HG := hide hg
        have HS := hide hS
        have HB := hide hB
        clear hg hS hB
        by_cases hlt : k < N
        · have hi' : (k : Int) < (N : Int) := by omega
          have hkc : k ≤ c3 := by omega
          have hkci : (k : Int) ≤ (c3 : Int) := by omega
          have HRD := hide (HO.out.below HB.out (Nat.le_refl _))
          obtain ⟨b, off, rfl, hbB, hcell⟩ := HRD.out k (by have := HTN.out; omega)
          have hx : T.getD k 0 = T.getD k 0 := rfl
          obtain ⟨x, hx⟩ : ∃ x, x = T.getD k 0 := ⟨_, rfl⟩
          rw [← hx] at hcell
          have HXX := hide hx
          have hkz : k ≤ T.length := by have := HTN.out; omega
          have HKZ := hide hkz
          clear hx hkz
          cases hq : in23 x
          · have HX : Hid (okR z y = false) := hide (by rw [HS9.out]; exact goodL_bad (j := k) (by have := HTN.out; omega) (by rw [← HXX.out]; exact hq))
            have HQ := hide hq
            clear hq
            go_wp2_with fail
            go_quiet (first | (go_at_call 27; exact Calls.quiet_of_same (l1In_q HQ.out _)))
            go_wp2
            go_ret
            exact ⟨retB HX.out.symm, (HB2.out.trans (HB.out.mono HB2.out.size)).trans ⟨rfl, rfl, rfl, Nat.le_refl _, fun _ _ => rfl⟩⟩
          · have HQ := hide hq
            clear hq
            cases hq : has1 x (T.take k)
            · have HQ2 := hide hq
              clear hq
              go_wp2_with fail
              go_quiet (first | (go_at_call 27; exact Calls.quiet_of_same (l1In_q HQ.out _)) | (go_at_call 28; exact Calls.quiet_of_same (l8Has_q _ HKZ.out (by have := HTN.out; omega) (rdB_dN HRD.out _) HQ2.out)))
              have HS3 := hide (goodP_step HS.out (by rw [← HXX.out]; exact HQ.out) (by rw [← HXX.out]; exact HQ2.out))
              go_wp2
              go_roundg (N + 1 - (k + 1))
              case measure => have := HG.out; omega
              case rel => exact ⟨HB.out.trans ⟨rfl, rfl, rfl, Nat.le_refl _, fun _ _ => rfl⟩, k + 1, by omega, rfl, by go_num, HS3.out⟩
            · have HX : Hid (okR z y = false) := hide (by rw [HS9.out]; exact goodL_twice (j := k) (by have := HTN.out; omega) (by rw [← HXX.out]; exact hq))
              have HQ2 := hide hq
              clear hq
              go_wp2_with fail
              go_quiet (first | (go_at_call 27; exact Calls.quiet_of_same (l1In_q HQ.out _)) | (go_at_call 28; exact Calls.quiet_of_same (l8Has_q _ HKZ.out (by have := HTN.out; omega) (rdB_dN HRD.out _) HQ2.out)))
              go_wp2
              go_ret
              exact ⟨retB HX.out.symm, (HB2.out.trans (HB.out.mono HB2.out.size)).trans ⟨rfl, rfl, rfl, Nat.le_refl _, fun _ _ => rfl⟩⟩
        · have hi' : ¬ (k : Int) < (N : Int) := by omega
          have HX : Hid (okR z y = true) := hide (by rw [HS9.out]; exact goodP_yes (by rw [← HTN.out]; have : k = N := by omega
                                                                                       rw [← this]; exact HS.out))
          go_wp2
          go_ret
          exact ⟨retB HX.out.symm, HB2.out.trans (HB.out.mono HB2.out.size)⟩

/-! the program's: the rows in one slice -/
def GrowRes (w w' : World) (e : Ending) : Prop := ∃ v, e = .returned v ∧ w'.ownsRow w.heap.size 47 1 v 0 [] ∧ Below w.heap.size w w'
set_option maxRecDepth 100000 in
set_option maxHeartbeats 1600000 in
theorem grow_any (n : Nat) (w : World) (h0 : 0 < n) (h1 : n ≤ 1000) : Calls Try.prog 58 #[.slice none 0 0, .int .i64 n] w fun e w' => GrowRes w w' e := by
  obtain ⟨i, hi, hzz⟩ := Option.map_eq_some_iff.1 listInfo
  simp only [Prod.mk.injEq] at hzz
  obtain ⟨hz, hs, hb⟩ := hzz
  have hn0 : ¬ (n : Int) < 0 := by omega
  have hn1 : (0 : Int) < n := by omega
  have hr := Go.Lib.run_append_nil_zeros (P := Try.prog) w 33 3 33 47 i (.agg #[.slice none 0 0]) .i64 .i64 Try.underlying33 Try.underlying3 hi hz n h0 (by omega) (by omega) (by rw [hb]; omega)
  have hge := grownCap_ge w n 0 47
  have hle := grownCap_le_maxLen w n 0 47 (by unfold maxLen; omega)
  obtain ⟨G, hG⟩ : ∃ G, G = grownCap w n 0 47 := ⟨_, rfl⟩
  rw [← hG] at hr hge hle
  obtain ⟨cs, hcs⟩ : ∃ cs, cs = Builtin.zeroCells (Value.agg #[.slice none 0 0]).cells n ++ Builtin.zeroCells (Value.agg #[.slice none 0 0]).cells (G - n) := ⟨_, rfl⟩
  have hsz : cs.size = G * 1 := by rw [hcs, Array.size_append, size_zeroCells, size_zeroCells]; simp [Value.cells]; omega
  rw [← hcs] at hr
  have hown := World.ownsRow_made (base := w.heap.size) (e := 47) (size := 1) w.drew cs G (Nat.le_refl _) hle hsz
  have HO := hide hown
  have HR := hide hr
  have hG0 : (0 : Int) ≤ (G : Int) := by omega
  clear hr hown hsz hcs hG hi hz hs hb
  go_enter Try.func58, Try.ntmps58
  go_wp2_with (at_builtin; refine Go.Lib.wpList_append_run _ rfl _ _ _ _ rfl _ _ rfl rfl _ _ HR.out ?_)
  go_ret
  exact ⟨_, rfl, HO.out, ((Below.refl _ _).alloc (Nat.le_refl _) _).drew⟩

def ConRes (w w' : World) (e : Ending) (vs : List Value) : Prop :=
  ∃ C k, e = .returned (.slice C vs.length k) ∧ vs.length ≤ k ∧ k ≤ maxLen ∧ (∀ j, j < vs.length → ∃ b, C = some ⟨b, 0, none⟩ ∧ w.heap.size ≤ b ∧ b < w'.heap.size ∧ w'.cell? ⟨b, j, none⟩ = some (vs.getD j undef)) ∧ Below w.heap.size w w'
theorem own_cells {w : World} {base : Nat} {e : TypeId} {v : Value} {n : Nat} {xs : List Value} (h : w.ownsRow base e 1 v n xs) : ∃ C k, v = .slice C xs.length k ∧ xs.length ≤ k ∧ k ≤ maxLen ∧ (∀ j, j < xs.length → ∃ b, C = some ⟨b, 0, none⟩ ∧ base ≤ b ∧ b < w.heap.size ∧ w.cell? ⟨b, j, none⟩ = some (xs.getD j undef)) := by
  obtain ⟨hl, ⟨rfl, rfl⟩ | ⟨g, cap, cur, rfl, hb, hg, hn, hc, hs, ht⟩⟩ := h
  · have : xs.length = 0 := by omega
    exact ⟨none, 0, by rw [this], by omega, Nat.zero_le _, fun j hj => by omega⟩
  · have hn' : n = xs.length := by omega
    subst hn'
    refine ⟨_, cap, rfl, hn, hc, fun j hj => ⟨g, rfl, hb, (Array.getElem?_eq_some_iff.1 hg).1, ?_⟩⟩
    have hj2 : j < cur.size := by omega
    simp only [World.cell?, hg]
    rw [← ht]
    simp [List.getD, hj2, hj]
structure ConS (w wr : World) (v : Value) (xs : List Value) : Prop where
  own : wr.ownsRow w.heap.size 47 1 v xs.length xs
  bel : Below w.heap.size w wr
theorem ConS.app {w wr w' : World} {v v' : Value} {xs news : List Value} (h : ConS w wr v xs) (hown : w'.ownsRow w.heap.size 47 1 v' (xs.length + news.length) (xs ++ news)) (hg : wr.grownBy w' v.ownBlock) : ConS w w' v' (xs ++ news) :=
  ⟨by rw [List.length_append]; exact hown, h.bel.grown hg h.bel.size (fun k e => (h.own.lt k e).1)⟩
theorem conInfo : ∃ i, Try.prog.info? 47 = some i ∧ i.zero = some (.agg #[.slice none 0 0]) ∧ i.size = 1 ∧ i.bytes = 24 := by
  obtain ⟨i, hi, hzz⟩ := Option.map_eq_some_iff.1 listInfo
  simp only [Prod.mk.injEq] at hzz
  exact ⟨i, hi, hzz.1, hzz.2.1, hzz.2.2⟩
theorem rdV_at {w w' : World} {A : Option Addr} {vs : List Value} (h : RdV w A vs w.heap.size) (hb : Below w.heap.size w w') : RdV w' A vs w'.heap.size := fun j hj => by
  obtain ⟨b, off, e, hbB, hc⟩ := h j hj
  exact ⟨b, off, e, Nat.lt_of_lt_of_le hbB hb.size, (hb.cell hbB).trans hc⟩
set_option maxRecDepth 100000 in
set_option maxHeartbeats 3200000 in
theorem concat_any (b : Nat) (A B : Option Addr) (n c m d : Nat) (vs us : List Value) (w : World) (hA : w.cell? ⟨b, 0, none⟩ = some (.slice A n c)) (hB : w.cell? ⟨b, 1, none⟩ = some (.slice B m d)) (hn : n = vs.length) (hm : m = us.length) (h0 : 0 < n + m) (h1 : n + m ≤ 1000)
    (hv : RdV w A vs w.heap.size) (hu : RdV w B us w.heap.size) (ov : ∀ u, u ∈ vs → u.oneCell' = true) (ou : ∀ u, u ∈ us → u.oneCell' = true) :
    Calls Try.prog 35 #[.slice (some ⟨b, 0, none⟩) 2 2] w fun e w' => ConRes w w' e (vs ++ us) := by
  obtain ⟨i0, hi, hz0, hz1, hz2⟩ := conInfo
  have HV := hide hv
  have HU := hide hu
  have OV := hide ov
  have OU := hide ou
  have HN := hide hn
  have HMM := hide hm
  have hlb := World.block_lt_of_cell? w _ hA
  have hlb2 : b < w.heap.size := hlb
  clear hv hu ov ou hn hm hlb
  have q0 : (n : Int) ≤ 1000 := by omega
  have q1 : (m : Int) ≤ 1000 := by omega
  have q2 : ¬ ((n : Int) + m < 0) := by omega
  have q3 : ¬ ((n : Int) < 0) := by omega
  go_enter Try.func35, Try.ntmps35
  go_wp2
  go_loopg [3, 11] 3 (fun g s i wr => w = wr ∧ (g = 3 ∧ s = .int .i64 0 ∧ i = .int .i64 0 ∨ g = 2 ∧ s = .int .i64 n ∧ i = .int .i64 1 ∨ g = 1 ∧ s = .int .i64 ((n : Int) + m) ∧ i = .int .i64 2))
  case atStart => exact ⟨rfl, .inl ⟨rfl, rfl, rfl⟩⟩
  case round =>
    obtain ⟨rfl, ⟨rfl, rfl, rfl⟩ | ⟨rfl, rfl, rfl⟩ | ⟨rfl, rfl, rfl⟩⟩ := hrel
    · go_wp2
      go_roundg 2
      case measure => omega
      case rel => exact ⟨rfl, .inr (.inl ⟨rfl, rfl, rfl⟩)⟩
    · go_wp2
      go_roundg 1
      case measure => omega
      case rel => exact ⟨rfl, .inr (.inr ⟨rfl, rfl, rfl⟩)⟩
    · rw [show ((n : Int) + (m : Int)) = ((n + m : Nat) : Int) by omega]
      go_wp2_with fail
      refine (grow_any (n + m) _ h0 h1).mono ?_
      rintro e w2 ⟨v, rfl, ho, hb2⟩
      have HO := hide ho
      have HB2 := hide hb2
      have a2 := (hb2.cell hlb2).trans hA
      have c2 := (hb2.cell hlb2).trans hB
      clear ho hb2
      have HS : Hid (ConS w w2 v []) := hide ⟨HO.out, HB2.out⟩
      clear HO HB2 a2 c2
      go_wp2_with fail
      go_loopg [6, 27] 3 (fun g v i wx => g = 3 ∧ i = .int .i64 0 ∧ ConS w wx v [] ∨ g = 2 ∧ i = .int .i64 1 ∧ ConS w wx v vs ∨ g = 1 ∧ i = .int .i64 2 ∧ ConS w wx v (vs ++ us))
      case atStart => exact .inl ⟨rfl, rfl, HS.out⟩
      case round =>
        clear HS
        obtain ⟨rfl, rfl, hS⟩ | ⟨rfl, rfl, hS⟩ | ⟨rfl, rfl, hS⟩ := hrel
        · have a2 := (hS.bel.cell hlb2).trans hA
          have HS := hide hS
          have HV2 := hide (rdV_at HV.out hS.bel)
          clear hS
          go_wp2_with (at_builtin; refine wpList_app _ rfl _ _ 33 rfl (w.heap.size) 47 i0 (.agg #[.slice none 0 0]) 24 Try.underlying33 hi hz0 hz1 hz2 rfl _ 0 [] rfl HS.out.own _ n c vs _ rfl HN.out HV2.out OV.out ?c1 ?c2 ?c3 ?_)
          case c1 => unfold maxLen; omega
          case c2 => omega
          case c3 => exact HS.out.bel.size
          intro v' w3 hown hgr _
          have HS3 : Hid (ConS w w3 v' vs) := hide (HS.out.app (news := vs) (by simpa [HN.out] using hown) hgr)
          clear hown hgr
          go_wp2
          go_roundg 2
          case measure => omega
          case rel => exact .inr (.inl ⟨rfl, rfl, HS3.out⟩)
        · have a2 := (hS.bel.cell hlb2).trans hB
          have HS := hide hS
          have HV2 := hide (rdV_at HU.out hS.bel)
          have HL := hide (show vs.length + m ≤ 1000 by rw [← HN.out]; exact h1)
          clear hS
          go_wp2_with (at_builtin; refine wpList_app _ rfl _ _ 33 rfl (w.heap.size) 47 i0 (.agg #[.slice none 0 0]) 24 Try.underlying33 hi hz0 hz1 hz2 rfl _ vs.length vs rfl HS.out.own _ m d us _ rfl HMM.out HV2.out OU.out ?c1 ?c2 ?c3 ?_)
          case c1 => have := HL.out; unfold maxLen; omega
          case c2 => have := HL.out; omega
          case c3 => exact HS.out.bel.size
          intro v' w3 hown hgr _
          have HS3 := hide (HS.out.app (news := us) (by rw [← HMM.out]; exact hown) hgr)
          clear hown hgr
          go_wp2
          go_roundg 1
          case measure => omega
          case rel => exact .inr (.inr ⟨rfl, rfl, HS3.out⟩)
        · obtain ⟨C, k, hv, h2, h3, h4⟩ := own_cells hS.own
          have HR : Hid (ConRes w _ (.returned _) (vs ++ us)) := hide ⟨C, k, by rw [← hv], h2, h3, h4, hS.bel⟩
          clear hS h2 h3 h4 hv
          go_wp2
          go_ret
          exact HR.out

end Go.Proofs.Ytnnmdikbcfefjaa
