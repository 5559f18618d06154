/-
  Give: a slot given back: the contracts of both sides.
-/
import Derived.Test.YtdhocncfpapncabGive0
import Derived.Test.YtdhocncfpapncabTake
namespace Go.Proofs.Ytdhocncfpapncab
open Go.RowKit
set_option linter.unusedVariables false

theorem row_at {w w' : World} {base n : Nat} {e : TypeId} {v : Value} {xs : List Value} (h : w.ownsRow base e 1 v n xs) (hb : Below w.heap.size w w') : w'.ownsRow base e 1 v n xs :=
  h.kept (grown_below hb none) (by cases he : v.ownBlock with | none => exact .inl rfl | some g => exact .inr (by simp))
def okGive (z y : List (List Int)) (a c s : Int) : Bool := (okR z y && (in02 a && in02 c)) && (in23 s && !hasR z y s)
def giveZ (z y : List (List Int)) (a c s : Int) : List (List Int) := if okGive z y a c s = true then givZ z y (a * 3 + c).toNat c.toNat s else z
def giveY (z y : List (List Int)) (a c s : Int) : List (List Int) := if okGive z y a c s = true then givY z y (a * 3 + c).toNat c.toNat s else y
def GiveRes (w w' : World) (e : Ending) (z y : List (List Int)) (r : Bool) : Prop := ∃ v, e = .returned (.tuple #[v, .bool r]) ∧ LV true w' v z y w.heap.size w'.heap.size ∧ Below w.heap.size w w'
theorem GiveRes.fin {w w0 wr : World} {C D : Option Addr} {n n' k m : Nat} {z y : List (List Int)} {hi : Nat} (h : LV true wr (.agg #[.slice C n k, .slice D n' m]) z y w0.heap.size hi) (hb : Below w.heap.size w w0) (hw : Below w.heap.size w wr) (h2 : w0.heap.size = w.heap.size + 2) (r : Bool) :
    GiveRes w ((wr.setCell ⟨w.heap.size + 1, 0, none⟩ (.slice C n k)).setCell ⟨w.heap.size + 1, 1, none⟩ (.slice D n' m)) (.returned (.tuple #[.agg #[.slice C n k, .slice D n' m], .bool r])) z y r := by
  have ht : Touch [w.heap.size + 1] wr ((wr.setCell ⟨w.heap.size + 1, 0, none⟩ (.slice C n k)).setCell ⟨w.heap.size + 1, 1, none⟩ (.slice D n' m)) := ((Touch.refl _ _).setCell (by simp) _).setCell (by simp) _
  have hhi : hi ≤ wr.heap.size := by obtain ⟨_, _, _, _, _, _, _, _, _, _, _, _, _, h⟩ := h; exact h
  exact ⟨_, rfl, (h.touchF ht (fun g hg => by simp only [List.mem_singleton] at hg; omega)).more (by omega) (Nat.le_trans hhi ht.size) (Nat.le_refl _), Below.touch hw ht (by simp) hw.size⟩
theorem LRes.lv {w wr : World} {v : Value} {z y : List (List Int)} (h : LRes true w wr v z y) : LV true wr v z y w.heap.size wr.heap.size := (LOwn.of h).lv
theorem TB.touch {w wr w' : World} {p lo hi : Nat} {u0 u1 x0 x1 : Value} (h : TB w wr p u0 u1 x0 x1) (ht : Touch (rg lo hi) wr w') (h1 : w.heap.size + 2 ≤ lo) (h2 : hi ≤ p) : TB w w' p u0 u1 x0 x1 :=
  h.keep ht.size fun g hg => ht.block g (by have := h.lt; have := h.hp; omega) (fun hm => by rw [mem_rg] at hm; have := h.hp; omega)
set_option maxRecDepth 100000 in
set_option maxHeartbeats 3200000 in
theorem specGive_any (A A' : Option Addr) (n c n' c' : Nat) (z y : List (List Int)) (a c1 s : Int) (w : World) (hn : n = z.length) (hn' : n' = y.length) (hm : n + sumL z n + n' + sumL y n' ≤ 1048576) (ha : RdM w A z w.heap.size) (ha' : RdM w A' y w.heap.size) :
    Calls Try.prog 7 #[.agg #[.slice A n c, .slice A' n' c'], .int .i64 a, .int .i64 c1, .int .i64 s] w fun e w' => GiveRes w w' e (giveZ z y a c1 s) (giveY z y a c1 s) (okGive z y a c1 s) := by
  have HCP : Hid (∀ W : World, RdM W A z W.heap.size → RdM W A' y W.heap.size → Calls Try.prog 25 #[.agg #[.slice A n c, .slice A' n' c']] W fun e w' => ∃ v, e = .returned v ∧ LRes true W w' v z y) := hide (fun W h1 h2 => l8Copy_any A A' n c n' c' z y W hn hn' hm h1 h2)
  have HOK : Hid (∀ W : World, RdM W A z W.heap.size → RdM W A' y W.heap.size → ∀ r, okR z y = r → Calls Try.prog 9 #[.agg #[.slice A n c, .slice A' n' c']] W fun e w' => e = .returned (.bool r) ∧ Below W.heap.size W w') := hide (fun W h1 h2 r hr => by subst hr; exact specListsOk_any A A' n c n' c' z y W hn hn' hm h1 h2)
  have HAL : Hid (∀ W : World, RdM W A z W.heap.size → RdM W A' y W.heap.size → Calls Try.prog 28 #[.agg #[.slice A n c, .slice A' n' c']] W fun e w' => AllRes W w' e (allR z y)) := hide (fun W h1 h2 => specAll_any A A' n c n' c' z y W hn hn' hm h1 h2)
  have HAB : Hid ((allR z y).length ≤ 2097152) := hide (by unfold allR; rw [List.length_append, allN_length, allN_length, ← hn, ← hn']; omega)
  have HLZ : Hid (∀ j, j < z.length → (z.getD j []).length ≤ 1048576) := hide (fun j hj => by have := len_le z n j (by omega); omega)
  have HN := hide hn
  have HN' := hide hn'
  have HA := hide ha
  have HA' := hide ha'
  clear hn hn' ha ha' hm
  cases hok : okR z y
  · have hno : okGive z y a c1 s = false := by unfold okGive; rw [hok]; rfl
    have HNO := hide hno
    have HY : Hid (giveZ z y a c1 s = z) := hide (by unfold giveZ; rw [hno]; rfl)
    have HV : Hid (giveY z y a c1 s = y) := hide (by unfold giveY; rw [hno]; rfl)
    have HQ := hide hok
    have HOA : Hid (∀ W : World, Calls Try.prog 13 #[.int .i64 a, .int .i64 c1] W fun e w' => e = .returned (.int .i64 (ownR a c1)) ∧ W = w') := hide (fun W => specOwnAt_any a c1 W)
    clear hno hok
    go_enter Try.func7, Try.ntmps7
    go_wp2_with fail
    obtain ⟨w0, h0⟩ : ∃ W : World, W = (w.alloc (.cells #[.slice A n c, .slice A' n' c'] 26)).alloc (.cells #[.slice none 0 0, .slice none 0 0] 26) := ⟨_, rfl⟩
    rw [← h0]
    have hb0 : Below w.heap.size w w0 := by rw [h0]; exact ((Below.refl _ _).alloc (Nat.le_refl _) _).alloc (by simp) _
    have b0 : w0.cell? ⟨w.heap.size, 0, none⟩ = some (.slice A n c) := by rw [h0]; go_simp
    have b1 : w0.cell? ⟨w.heap.size, 1, none⟩ = some (.slice A' n' c') := by rw [h0]; go_simp
    have lw0 : w.heap.size < w0.heap.size := by rw [h0]; simp <;> omega
    have H0 := hide h0
    have HB0 := hide hb0
    clear h0 hb0
    refine (HCP.out w0 (rdM_at HA.out HB0.out) (rdM_at HA'.out HB0.out)).mono ?_
    rintro e w1 ⟨v, rfl, hL⟩
    obtain ⟨C, k, D, m, ev⟩ := hL.shape
    subst ev
    have hb01 : Below w0.heap.size w0 w1 := hL.bel
    have hz1 : (z.length : Int) ≤ 9223372036854775807 := by have := hL.lens; unfold maxLen at this; omega
    have hy1 : (y.length : Int) ≤ 9223372036854775807 := by have := hL.lens; unfold maxLen at this; omega
    have c0 : w1.cell? ⟨w.heap.size, 0, none⟩ = some (.slice A n c) := (hb01.cell lw0).trans b0
    have c1' : w1.cell? ⟨w.heap.size, 1, none⟩ = some (.slice A' n' c') := (hb01.cell lw0).trans b1
    have lw1 : w.heap.size < w1.heap.size := Nat.lt_of_lt_of_le lw0 hb01.size
    have HLN := hide hL.lens
    have HL := hide hL.lv
    have HB01 := hide hb01
    clear hL hb01 b0 b1 lw0
    go_wp2_with fail
    obtain ⟨w2, h2⟩ : ∃ W : World, W = w1.alloc (.cells #[.slice C z.length k, .slice D y.length m] 26) := ⟨_, rfl⟩
    rw [← h2]
    obtain ⟨hT, hbw, hb12, hs0⟩ := TB.start H0.out HB01.out h2
    have HT := hide hT
    have HS0 := hide hs0
    have HB2 := hide (below_go HB0.out (below_go HB01.out hb12))
    have hL1 : w0.heap.size ≤ w1.heap.size := HB01.out.size
    have HB12 := hide hb12
    clear h2 hT hbw hb12 hs0 c0 c1' lw1
    refine (HOK.out w2 (rdM_at HA.out HB2.out) (rdM_at HA'.out HB2.out) false HQ.out).mono ?_
    rintro e w3 ⟨rfl, hb⟩
    have HT3 := hide (HT.out.below hb)
    have HB13 := hide (below_go HB12.out hb)
    have HB3 := hide (below_go HB2.out hb)
    clear hb HT HB12
    have b0 := HT3.out.b0
    have b1 := HT3.out.b1
    have r0 := HT3.out.r0
    have r1 := HT3.out.r1
    have f0 := HT3.out.f0
    have f1 := HT3.out.f1
    have e0 := HT3.out.e0
    have e1 := HT3.out.e1
    have HFIN := hide (GiveRes.fin (HL.out.below HB13.out) HB0.out HB3.out HS0.out false)
    go_wp2
    exact bodyPost_ret (v := .tuple #[.agg #[.slice C z.length k, .slice D y.length m], .bool false]) (by simp [results, Try.results7, go_sem, r0, r1]) rfl (by rw [HY.out, HV.out, HNO.out]; exact HFIN.out)
  by_cases hin : in02 a = true ∧ in02 c1 = true
  case neg =>
    have hno : okGive z y a c1 s = false := by unfold okGive; rw [show (in02 a && in02 c1) = false by simpa using hin]; simp
    have HNO := hide hno
    have HY : Hid (giveZ z y a c1 s = z) := hide (by unfold giveZ; rw [hno]; rfl)
    have HV : Hid (giveY z y a c1 s = y) := hide (by unfold giveY; rw [hno]; rfl)
    have HQ := hide hok
    have HOA : Hid (∀ W : World, Calls Try.prog 13 #[.int .i64 a, .int .i64 c1] W fun e w' => e = .returned (.int .i64 (-1)) ∧ W = w') := hide (fun W => by rw [← ownR_neg hin]; exact specOwnAt_any a c1 W)
    clear hno hok hin
    go_enter Try.func7, Try.ntmps7
    go_wp2_with fail
    obtain ⟨w0, h0⟩ : ∃ W : World, W = (w.alloc (.cells #[.slice A n c, .slice A' n' c'] 26)).alloc (.cells #[.slice none 0 0, .slice none 0 0] 26) := ⟨_, rfl⟩
    rw [← h0]
    have hb0 : Below w.heap.size w w0 := by rw [h0]; exact ((Below.refl _ _).alloc (Nat.le_refl _) _).alloc (by simp) _
    have b0 : w0.cell? ⟨w.heap.size, 0, none⟩ = some (.slice A n c) := by rw [h0]; go_simp
    have b1 : w0.cell? ⟨w.heap.size, 1, none⟩ = some (.slice A' n' c') := by rw [h0]; go_simp
    have lw0 : w.heap.size < w0.heap.size := by rw [h0]; simp <;> omega
    have H0 := hide h0
    have HB0 := hide hb0
    clear h0 hb0
    refine (HCP.out w0 (rdM_at HA.out HB0.out) (rdM_at HA'.out HB0.out)).mono ?_
    rintro e w1 ⟨v, rfl, hL⟩
    obtain ⟨C, k, D, m, ev⟩ := hL.shape
    subst ev
    have hb01 : Below w0.heap.size w0 w1 := hL.bel
    have hz1 : (z.length : Int) ≤ 9223372036854775807 := by have := hL.lens; unfold maxLen at this; omega
    have hy1 : (y.length : Int) ≤ 9223372036854775807 := by have := hL.lens; unfold maxLen at this; omega
    have c0 : w1.cell? ⟨w.heap.size, 0, none⟩ = some (.slice A n c) := (hb01.cell lw0).trans b0
    have c1' : w1.cell? ⟨w.heap.size, 1, none⟩ = some (.slice A' n' c') := (hb01.cell lw0).trans b1
    have lw1 : w.heap.size < w1.heap.size := Nat.lt_of_lt_of_le lw0 hb01.size
    have HLN := hide hL.lens
    have HL := hide hL.lv
    have HB01 := hide hb01
    clear hL hb01 b0 b1 lw0
    go_wp2_with fail
    obtain ⟨w2, h2⟩ : ∃ W : World, W = w1.alloc (.cells #[.slice C z.length k, .slice D y.length m] 26) := ⟨_, rfl⟩
    rw [← h2]
    obtain ⟨hT, hbw, hb12, hs0⟩ := TB.start H0.out HB01.out h2
    have HT := hide hT
    have HS0 := hide hs0
    have HB2 := hide (below_go HB0.out (below_go HB01.out hb12))
    have hL1 : w0.heap.size ≤ w1.heap.size := HB01.out.size
    have HB12 := hide hb12
    clear h2 hT hbw hb12 hs0 c0 c1' lw1
    refine (HOK.out w2 (rdM_at HA.out HB2.out) (rdM_at HA'.out HB2.out) true HQ.out).mono ?_
    rintro e w3 ⟨rfl, hb⟩
    have HT3 := hide (HT.out.below hb)
    have HB13 := hide (below_go HB12.out hb)
    have HB3 := hide (below_go HB2.out hb)
    clear hb HT HB12
    have b0 := HT3.out.b0
    have b1 := HT3.out.b1
    have r0 := HT3.out.r0
    have r1 := HT3.out.r1
    have f0 := HT3.out.f0
    have f1 := HT3.out.f1
    have e0 := HT3.out.e0
    have e1 := HT3.out.e1
    go_wp2_with fail
    refine (HOA.out _).mono ?_
    rintro e wq ⟨rfl, rfl⟩
    have HFIN := hide (GiveRes.fin (HL.out.below HB13.out) HB0.out HB3.out HS0.out false)
    go_wp2
    exact bodyPost_ret (v := .tuple #[.agg #[.slice C z.length k, .slice D y.length m], .bool false]) (by simp [results, Try.results7, go_sem, r0, r1]) rfl (by rw [HY.out, HV.out, HNO.out]; exact HFIN.out)
  obtain ⟨hi1, hi2⟩ := hin
  obtain ⟨i, rfl, hi⟩ := in02_nat hi1
  obtain ⟨j, rfl, hj⟩ := in02_nat hi2
  obtain ⟨q, hq⟩ : ∃ q : Nat, q = i * 3 + j := ⟨_, rfl⟩
  have hqn : ((i : Int) * 3 + (j : Int)).toNat = q := by omega
  have hq9 : q < 9 := by omega
  have hq0 : ¬ (q : Int) < 0 := by omega
  have HOA : Hid (∀ W : World, Calls Try.prog 13 #[.int .i64 (i : Int), .int .i64 (j : Int)] W fun e w' => e = .returned (.int .i64 (q : Int)) ∧ W = w') := hide (fun W => by rw [hq, ← ownR_nat hi hj]; exact specOwnAt_any i j W)
  have H39 := hide (okR_lens' hok)
  cases his : in23 s
  · have hno : okGive z y i j s = false := by unfold okGive; rw [his]; simp
    have HNO := hide hno
    have HY : Hid (giveZ z y i j s = z) := hide (by unfold giveZ; rw [hno]; rfl)
    have HV : Hid (giveY z y i j s = y) := hide (by unfold giveY; rw [hno]; rfl)
    have HQ := hide hok
    have HIS := hide his
    clear hno hok hi1 hi2 his hqn hq
    go_enter Try.func7, Try.ntmps7
    go_wp2_with fail
    obtain ⟨w0, h0⟩ : ∃ W : World, W = (w.alloc (.cells #[.slice A n c, .slice A' n' c'] 26)).alloc (.cells #[.slice none 0 0, .slice none 0 0] 26) := ⟨_, rfl⟩
    rw [← h0]
    have hb0 : Below w.heap.size w w0 := by rw [h0]; exact ((Below.refl _ _).alloc (Nat.le_refl _) _).alloc (by simp) _
    have b0 : w0.cell? ⟨w.heap.size, 0, none⟩ = some (.slice A n c) := by rw [h0]; go_simp
    have b1 : w0.cell? ⟨w.heap.size, 1, none⟩ = some (.slice A' n' c') := by rw [h0]; go_simp
    have lw0 : w.heap.size < w0.heap.size := by rw [h0]; simp <;> omega
    have H0 := hide h0
    have HB0 := hide hb0
    clear h0 hb0
    refine (HCP.out w0 (rdM_at HA.out HB0.out) (rdM_at HA'.out HB0.out)).mono ?_
    rintro e w1 ⟨v, rfl, hL⟩
    obtain ⟨C, k, D, m, ev⟩ := hL.shape
    subst ev
    have hb01 : Below w0.heap.size w0 w1 := hL.bel
    have hz1 : (z.length : Int) ≤ 9223372036854775807 := by have := hL.lens; unfold maxLen at this; omega
    have hy1 : (y.length : Int) ≤ 9223372036854775807 := by have := hL.lens; unfold maxLen at this; omega
    have c0 : w1.cell? ⟨w.heap.size, 0, none⟩ = some (.slice A n c) := (hb01.cell lw0).trans b0
    have c1' : w1.cell? ⟨w.heap.size, 1, none⟩ = some (.slice A' n' c') := (hb01.cell lw0).trans b1
    have lw1 : w.heap.size < w1.heap.size := Nat.lt_of_lt_of_le lw0 hb01.size
    have HLN := hide hL.lens
    have HL := hide hL.lv
    have HB01 := hide hb01
    clear hL hb01 b0 b1 lw0
    go_wp2_with fail
    obtain ⟨w2, h2⟩ : ∃ W : World, W = w1.alloc (.cells #[.slice C z.length k, .slice D y.length m] 26) := ⟨_, rfl⟩
    rw [← h2]
    obtain ⟨hT, hbw, hb12, hs0⟩ := TB.start H0.out HB01.out h2
    have HT := hide hT
    have HS0 := hide hs0
    have HB2 := hide (below_go HB0.out (below_go HB01.out hb12))
    have hL1 : w0.heap.size ≤ w1.heap.size := HB01.out.size
    have HB12 := hide hb12
    clear h2 hT hbw hb12 hs0 c0 c1' lw1
    refine (HOK.out w2 (rdM_at HA.out HB2.out) (rdM_at HA'.out HB2.out) true HQ.out).mono ?_
    rintro e w3 ⟨rfl, hb⟩
    have HT3 := hide (HT.out.below hb)
    have HB13 := hide (below_go HB12.out hb)
    have HB3 := hide (below_go HB2.out hb)
    clear hb HT HB12
    have b0 := HT3.out.b0
    have b1 := HT3.out.b1
    have r0 := HT3.out.r0
    have r1 := HT3.out.r1
    have f0 := HT3.out.f0
    have f1 := HT3.out.f1
    have e0 := HT3.out.e0
    have e1 := HT3.out.e1
    go_wp2_with fail
    refine (HOA.out _).mono ?_
    rintro e wq ⟨rfl, rfl⟩
    go_wp2_with fail
    refine (l1In_q HIS.out _).mono ?_
    rintro e wq ⟨rfl, hw⟩
    obtain rfl := hw.symm
    have HFIN := hide (GiveRes.fin (HL.out.below HB13.out) HB0.out HB3.out HS0.out false)
    go_wp2
    exact bodyPost_ret (v := .tuple #[.agg #[.slice C z.length k, .slice D y.length m], .bool false]) (by simp [results, Try.results7, go_sem, r0, r1]) rfl (by rw [HY.out, HV.out, HNO.out]; exact HFIN.out)
  cases hhs : hasR z y s
  case true =>
    have hno : okGive z y i j s = false := by unfold okGive; rw [hhs]; simp
    have HNO := hide hno
    have HY : Hid (giveZ z y i j s = z) := hide (by unfold giveZ; rw [hno]; rfl)
    have HV : Hid (giveY z y i j s = y) := hide (by unfold giveY; rw [hno]; rfl)
    have HQ := hide hok
    have HIS := hide his
    have HHS : Hid (has1 s (allR z y) = true) := hide (by rw [← hhs]; exact allR_has z y s)
    clear hno hok hi1 hi2 his hhs hqn hq
    go_enter Try.func7, Try.ntmps7
    go_wp2_with fail
    obtain ⟨w0, h0⟩ : ∃ W : World, W = (w.alloc (.cells #[.slice A n c, .slice A' n' c'] 26)).alloc (.cells #[.slice none 0 0, .slice none 0 0] 26) := ⟨_, rfl⟩
    rw [← h0]
    have hb0 : Below w.heap.size w w0 := by rw [h0]; exact ((Below.refl _ _).alloc (Nat.le_refl _) _).alloc (by simp) _
    have b0 : w0.cell? ⟨w.heap.size, 0, none⟩ = some (.slice A n c) := by rw [h0]; go_simp
    have b1 : w0.cell? ⟨w.heap.size, 1, none⟩ = some (.slice A' n' c') := by rw [h0]; go_simp
    have lw0 : w.heap.size < w0.heap.size := by rw [h0]; simp <;> omega
    have H0 := hide h0
    have HB0 := hide hb0
    clear h0 hb0
    refine (HCP.out w0 (rdM_at HA.out HB0.out) (rdM_at HA'.out HB0.out)).mono ?_
    rintro e w1 ⟨v, rfl, hL⟩
    obtain ⟨C, k, D, m, ev⟩ := hL.shape
    subst ev
    have hb01 : Below w0.heap.size w0 w1 := hL.bel
    have hz1 : (z.length : Int) ≤ 9223372036854775807 := by have := hL.lens; unfold maxLen at this; omega
    have hy1 : (y.length : Int) ≤ 9223372036854775807 := by have := hL.lens; unfold maxLen at this; omega
    have c0 : w1.cell? ⟨w.heap.size, 0, none⟩ = some (.slice A n c) := (hb01.cell lw0).trans b0
    have c1' : w1.cell? ⟨w.heap.size, 1, none⟩ = some (.slice A' n' c') := (hb01.cell lw0).trans b1
    have lw1 : w.heap.size < w1.heap.size := Nat.lt_of_lt_of_le lw0 hb01.size
    have HLN := hide hL.lens
    have HL := hide hL.lv
    have HB01 := hide hb01
    clear hL hb01 b0 b1 lw0
    go_wp2_with fail
    obtain ⟨w2, h2⟩ : ∃ W : World, W = w1.alloc (.cells #[.slice C z.length k, .slice D y.length m] 26) := ⟨_, rfl⟩
    rw [← h2]
    obtain ⟨hT, hbw, hb12, hs0⟩ := TB.start H0.out HB01.out h2
    have HT := hide hT
    have HS0 := hide hs0
    have HB2 := hide (below_go HB0.out (below_go HB01.out hb12))
    have hL1 : w0.heap.size ≤ w1.heap.size := HB01.out.size
    have HB12 := hide hb12
    clear h2 hT hbw hb12 hs0 c0 c1' lw1
    refine (HOK.out w2 (rdM_at HA.out HB2.out) (rdM_at HA'.out HB2.out) true HQ.out).mono ?_
    rintro e w3 ⟨rfl, hb⟩
    have HT3 := hide (HT.out.below hb)
    have HB13 := hide (below_go HB12.out hb)
    have HB3 := hide (below_go HB2.out hb)
    clear hb HT HB12
    have b0 := HT3.out.b0
    have b1 := HT3.out.b1
    have r0 := HT3.out.r0
    have r1 := HT3.out.r1
    have f0 := HT3.out.f0
    have f1 := HT3.out.f1
    have e0 := HT3.out.e0
    have e1 := HT3.out.e1
    go_wp2_with fail
    refine (HOA.out _).mono ?_
    rintro e wq ⟨rfl, rfl⟩
    go_wp2_with fail
    refine (l1In_q HIS.out _).mono ?_
    rintro e wq ⟨rfl, hw⟩
    obtain rfl := hw.symm
    go_wp2_with fail
    refine (HAL.out w3 (rdM_at HA.out HB3.out) (rdM_at HA'.out HB3.out)).mono ?_
    rintro e w4 ⟨AL, cl, FL, rfl, ho, -, hb⟩
    have HRL := hide ho.rd.2
    have HT4 := hide (HT3.out.below hb)
    have HB14 := hide (below_go HB13.out hb)
    have HB4 := hide (below_go HB3.out hb)
    clear b0 b1 r0 r1 f0 f1 e0 e1 hb ho
    have b0 := HT4.out.b0
    have b1 := HT4.out.b1
    have r0 := HT4.out.r0
    have r1 := HT4.out.r1
    have f0 := HT4.out.f0
    have f1 := HT4.out.f1
    have e0 := HT4.out.e0
    have e1 := HT4.out.e1
    have hli : ((allR z y).length : Int) ≤ 2097152 := by have := HAB.out; omega
    go_wp2_with fail
    refine (l8Has_any AL (allR z y).length cl (allR z y) w4.heap.size s w4 rfl HAB.out HRL.out).mono ?_
    rintro e wq ⟨rfl, rfl⟩
    rw [HHS.out]
    have HFIN := hide (GiveRes.fin (HL.out.below HB14.out) HB0.out HB4.out HS0.out false)
    go_wp2
    exact bodyPost_ret (v := .tuple #[.agg #[.slice C z.length k, .slice D y.length m], .bool false]) (by simp [results, Try.results7, go_sem, r0, r1]) rfl (by rw [HY.out, HV.out, HNO.out]; exact HFIN.out)
  have hyes : okGive z y i j s = true := by unfold okGive; rw [hok, hi1, hi2, his, hhs]; rfl
  have HNO := hide hyes
  have HY : Hid (giveZ z y i j s = givZ z y q j s) := hide (by unfold giveZ; rw [if_pos hyes, hqn]; rfl)
  have HV : Hid (giveY z y i j s = givY z y q j s) := hide (by unfold giveY; rw [if_pos hyes, hqn]; rfl)
  have HQ := hide hok
  have HIS := hide his
  have HHS : Hid (has1 s (allR z y) = false) := hide (by rw [← hhs]; exact allR_has z y s)
  have HQQ := hide hq
  clear hyes hok hi1 hi2 his hhs hqn hq
  go_enter Try.func7, Try.ntmps7
  go_wp2_with fail
  obtain ⟨w0, h0⟩ : ∃ W : World, W = (w.alloc (.cells #[.slice A n c, .slice A' n' c'] 26)).alloc (.cells #[.slice none 0 0, .slice none 0 0] 26) := ⟨_, rfl⟩
  rw [← h0]
  have hb0 : Below w.heap.size w w0 := by rw [h0]; exact ((Below.refl _ _).alloc (Nat.le_refl _) _).alloc (by simp) _
  have b0 : w0.cell? ⟨w.heap.size, 0, none⟩ = some (.slice A n c) := by rw [h0]; go_simp
  have b1 : w0.cell? ⟨w.heap.size, 1, none⟩ = some (.slice A' n' c') := by rw [h0]; go_simp
  have lw0 : w.heap.size < w0.heap.size := by rw [h0]; simp <;> omega
  have H0 := hide h0
  have HB0 := hide hb0
  clear h0 hb0
  refine (HCP.out w0 (rdM_at HA.out HB0.out) (rdM_at HA'.out HB0.out)).mono ?_
  rintro e w1 ⟨v, rfl, hL⟩
  obtain ⟨C, k, D, m, ev⟩ := hL.shape
  subst ev
  have hb01 : Below w0.heap.size w0 w1 := hL.bel
  have hz1 : (z.length : Int) ≤ 9223372036854775807 := by have := hL.lens; unfold maxLen at this; omega
  have hy1 : (y.length : Int) ≤ 9223372036854775807 := by have := hL.lens; unfold maxLen at this; omega
  have c0 : w1.cell? ⟨w.heap.size, 0, none⟩ = some (.slice A n c) := (hb01.cell lw0).trans b0
  have c1' : w1.cell? ⟨w.heap.size, 1, none⟩ = some (.slice A' n' c') := (hb01.cell lw0).trans b1
  have lw1 : w.heap.size < w1.heap.size := Nat.lt_of_lt_of_le lw0 hb01.size
  have HLN := hide hL.lens
  have HL := hide hL.lv
  have HB01 := hide hb01
  clear hL hb01 b0 b1 lw0
  go_wp2_with fail
  obtain ⟨w2, h2⟩ : ∃ W : World, W = w1.alloc (.cells #[.slice C z.length k, .slice D y.length m] 26) := ⟨_, rfl⟩
  rw [← h2]
  obtain ⟨hT, hbw, hb12, hs0⟩ := TB.start H0.out HB01.out h2
  have HT := hide hT
  have HS0 := hide hs0
  have HB2 := hide (below_go HB0.out (below_go HB01.out hb12))
  have hL1 : w0.heap.size ≤ w1.heap.size := HB01.out.size
  have HB12 := hide hb12
  clear h2 hT hbw hb12 hs0 c0 c1' lw1
  refine (HOK.out w2 (rdM_at HA.out HB2.out) (rdM_at HA'.out HB2.out) true HQ.out).mono ?_
  rintro e w3 ⟨rfl, hb⟩
  have HT3 := hide (HT.out.below hb)
  have HB13 := hide (below_go HB12.out hb)
  have HB3 := hide (below_go HB2.out hb)
  clear hb HT HB12
  have b0 := HT3.out.b0
  have b1 := HT3.out.b1
  have r0 := HT3.out.r0
  have r1 := HT3.out.r1
  have f0 := HT3.out.f0
  have f1 := HT3.out.f1
  have e0 := HT3.out.e0
  have e1 := HT3.out.e1
  go_wp2_with fail
  refine (HOA.out _).mono ?_
  rintro e wq ⟨rfl, rfl⟩
  go_wp2_with fail
  refine (l1In_q HIS.out _).mono ?_
  rintro e wq ⟨rfl, hw⟩
  obtain rfl := hw.symm
  go_wp2_with fail
  refine (HAL.out w3 (rdM_at HA.out HB3.out) (rdM_at HA'.out HB3.out)).mono ?_
  rintro e w4 ⟨AL, cl, FL, rfl, ho, -, hb⟩
  have HRL := hide ho.rd.2
  have HT4 := hide (HT3.out.below hb)
  have HB14 := hide (below_go HB13.out hb)
  have HB4 := hide (below_go HB3.out hb)
  clear b0 b1 r0 r1 f0 f1 e0 e1 hb ho
  have b0 := HT4.out.b0
  have b1 := HT4.out.b1
  have r0 := HT4.out.r0
  have r1 := HT4.out.r1
  have f0 := HT4.out.f0
  have f1 := HT4.out.f1
  have e0 := HT4.out.e0
  have e1 := HT4.out.e1
  have hli : ((allR z y).length : Int) ≤ 2097152 := by have := HAB.out; omega
  go_wp2_with fail
  refine (l8Has_any AL (allR z y).length cl (allR z y) w4.heap.size s w4 rfl HAB.out HRL.out).mono ?_
  rintro e wq ⟨rfl, rfl⟩
  rw [HHS.out]
  have hpl : w1.heap.size ≤ w1.heap.size := Nat.le_refl _
  go_wp2_with fail
  refine (l8Give_any C D z.length k y.length m z y w0.heap.size w1.heap.size i j s w4 hi hj H39.out.1 H39.out.2 (HLZ.out j (by have := H39.out; omega)) (HL.out.below HB14.out)).mono ?_
  rintro e w5 ⟨rfl, hL5, ht⟩
  have hT5 := HT4.out.touch ht (by have := HS0.out; omega) (Nat.le_refl _)
  have hw5 := Below.touch HB4.out ht (fun g hg => by rw [mem_rg] at hg; have := HS0.out; omega) HB4.out.size
  clear b0 b1 r0 r1 f0 f1 e0 e1
  have r0 := hT5.r0
  have r1 := hT5.r1
  have f0 := hT5.f0
  have f1 := hT5.f1
  have e0 := hT5.e0
  have e1 := hT5.e1
  rw [← HQQ.out] at hL5
  have HFIN := hide (GiveRes.fin hL5 HB0.out hw5 HS0.out true)
  clear hT5 hw5 hL5 ht
  go_wp2
  exact bodyPost_ret (v := .tuple #[.agg #[.slice C z.length k, .slice D y.length m], .bool true]) (by simp [results, Try.results7, go_sem, r0, r1]) rfl (by rw [HY.out, HV.out, HNO.out]; exact HFIN.out)
set_option maxRecDepth 100000 in
set_option maxHeartbeats 3200000 in
theorem implGive_any (A A' : Option Addr) (n c n' c' : Nat) (z y : List (List Int)) (a c1 s : Int) (w : World) (hn : n = z.length) (hn' : n' = y.length) (hm : n + sumL z n + n' + sumL y n' ≤ 1048576) (ha : RdM w A z w.heap.size) (ha' : RdM w A' y w.heap.size) :
    Calls Try.prog 6 #[.agg #[.slice A n c, .slice A' n' c'], .int .i64 a, .int .i64 c1, .int .i64 s] w fun e w' => GiveRes w w' e (giveZ z y a c1 s) (giveY z y a c1 s) (okGive z y a c1 s) := by
  have HCP : Hid (∀ W : World, RdM W A z W.heap.size → RdM W A' y W.heap.size → Calls Try.prog 21 #[.agg #[.slice A n c, .slice A' n' c']] W fun e w' => ∃ v, e = .returned v ∧ LRes true W w' v z y) := hide (fun W h1 h2 => copyLists_any A A' n c n' c' z y W hn hn' hm h1 h2)
  have HOK : Hid (∀ W : World, RdM W A z W.heap.size → RdM W A' y W.heap.size → ∀ r, okR z y = r → Calls Try.prog 23 #[.agg #[.slice A n c, .slice A' n' c']] W fun e w' => e = .returned (.bool r) ∧ Below W.heap.size W w') := hide (fun W h1 h2 r hr => by subst hr; exact implListsOk_any A A' n c n' c' z y W hn hn' hm h1 h2)
  have HON : Hid (∀ W : World, RdM W A z W.heap.size → RdM W A' y W.heap.size → ∀ r, hasR z y s = r → Calls Try.prog 10 #[.agg #[.slice A n c, .slice A' n' c'], .int .i64 s] W fun e w' => e = .returned (.bool r) ∧ Below W.heap.size W w') := hide (fun W h1 h2 r hr => by subst hr; exact implOnList_any A A' n c n' c' z y s W hn hn' hm h1 h2)
  have HLZ : Hid (∀ j, j < z.length → (z.getD j []).length ≤ 1048576) := hide (fun j hj => by have := len_le z n j (by omega); omega)
  have HN := hide hn
  have HN' := hide hn'
  have HA := hide ha
  have HA' := hide ha'
  clear hn hn' ha ha' hm
  cases hok : okR z y
  · have hno : okGive z y a c1 s = false := by unfold okGive; rw [hok]; rfl
    have HNO := hide hno
    have HY : Hid (giveZ z y a c1 s = z) := hide (by unfold giveZ; rw [hno]; rfl)
    have HV : Hid (giveY z y a c1 s = y) := hide (by unfold giveY; rw [hno]; rfl)
    have HQ := hide hok
    have HOA : Hid (∀ W : World, Calls Try.prog 22 #[.int .i64 a, .int .i64 c1] W fun e w' => e = .returned (.int .i64 (ownR a c1)) ∧ W = w') := hide (fun W => implOwnAt_any a c1 W)
    clear hno hok
    go_enter Try.func6, Try.ntmps6
    go_wp2_with fail
    obtain ⟨w0, h0⟩ : ∃ W : World, W = (w.alloc (.cells #[.slice A n c, .slice A' n' c'] 26)).alloc (.cells #[.slice none 0 0, .slice none 0 0] 26) := ⟨_, rfl⟩
    rw [← h0]
    have hb0 : Below w.heap.size w w0 := by rw [h0]; exact ((Below.refl _ _).alloc (Nat.le_refl _) _).alloc (by simp) _
    have b0 : w0.cell? ⟨w.heap.size, 0, none⟩ = some (.slice A n c) := by rw [h0]; go_simp
    have b1 : w0.cell? ⟨w.heap.size, 1, none⟩ = some (.slice A' n' c') := by rw [h0]; go_simp
    have lw0 : w.heap.size < w0.heap.size := by rw [h0]; simp <;> omega
    have H0 := hide h0
    have HB0 := hide hb0
    clear h0 hb0
    refine (HCP.out w0 (rdM_at HA.out HB0.out) (rdM_at HA'.out HB0.out)).mono ?_
    rintro e w1 ⟨v, rfl, hL⟩
    obtain ⟨C, k, D, m, ev⟩ := hL.shape
    subst ev
    have hb01 : Below w0.heap.size w0 w1 := hL.bel
    have hz1 : (z.length : Int) ≤ 9223372036854775807 := by have := hL.lens; unfold maxLen at this; omega
    have hy1 : (y.length : Int) ≤ 9223372036854775807 := by have := hL.lens; unfold maxLen at this; omega
    have c0 : w1.cell? ⟨w.heap.size, 0, none⟩ = some (.slice A n c) := (hb01.cell lw0).trans b0
    have c1' : w1.cell? ⟨w.heap.size, 1, none⟩ = some (.slice A' n' c') := (hb01.cell lw0).trans b1
    have lw1 : w.heap.size < w1.heap.size := Nat.lt_of_lt_of_le lw0 hb01.size
    have HLN := hide hL.lens
    have HL := hide hL.lv
    have HB01 := hide hb01
    clear hL hb01 b0 b1 lw0
    go_wp2_with fail
    refine (HOA.out _).mono ?_
    rintro e wq ⟨rfl, rfl⟩
    go_wp2_with fail
    obtain ⟨w2, h2⟩ : ∃ W : World, W = w1.alloc (.cells #[.slice C z.length k, .slice D y.length m] 26) := ⟨_, rfl⟩
    rw [← h2]
    obtain ⟨hT, hbw, hb12, hs0⟩ := TB.start H0.out HB01.out h2
    have HT := hide hT
    have HS0 := hide hs0
    have HB2 := hide (below_go HB0.out (below_go HB01.out hb12))
    have hL1 : w0.heap.size ≤ w1.heap.size := HB01.out.size
    have HB12 := hide hb12
    clear h2 hT hbw hb12 hs0 c0 c1' lw1
    refine (HOK.out w2 (rdM_at HA.out HB2.out) (rdM_at HA'.out HB2.out) false HQ.out).mono ?_
    rintro e w3 ⟨rfl, hb⟩
    have HT3 := hide (HT.out.below hb)
    have HB13 := hide (below_go HB12.out hb)
    have HB3 := hide (below_go HB2.out hb)
    clear hb HT HB12
    have b0 := HT3.out.b0
    have b1 := HT3.out.b1
    have r0 := HT3.out.r0
    have r1 := HT3.out.r1
    have f0 := HT3.out.f0
    have f1 := HT3.out.f1
    have e0 := HT3.out.e0
    have e1 := HT3.out.e1
    have HFIN := hide (GiveRes.fin (HL.out.below HB13.out) HB0.out HB3.out HS0.out false)
    go_wp2
    exact bodyPost_ret (v := .tuple #[.agg #[.slice C z.length k, .slice D y.length m], .bool false]) (by simp [results, Try.results6, go_sem, r0, r1]) rfl (by rw [HY.out, HV.out, HNO.out]; exact HFIN.out)
  by_cases hin : in02 a = true ∧ in02 c1 = true
  case neg =>
    have hno : okGive z y a c1 s = false := by unfold okGive; rw [show (in02 a && in02 c1) = false by simpa using hin]; simp
    have HNO := hide hno
    have HY : Hid (giveZ z y a c1 s = z) := hide (by unfold giveZ; rw [hno]; rfl)
    have HV : Hid (giveY z y a c1 s = y) := hide (by unfold giveY; rw [hno]; rfl)
    have HQ := hide hok
    have HOA : Hid (∀ W : World, Calls Try.prog 22 #[.int .i64 a, .int .i64 c1] W fun e w' => e = .returned (.int .i64 (-1)) ∧ W = w') := hide (fun W => by rw [← ownR_neg hin]; exact implOwnAt_any a c1 W)
    clear hno hok hin
    go_enter Try.func6, Try.ntmps6
    go_wp2_with fail
    obtain ⟨w0, h0⟩ : ∃ W : World, W = (w.alloc (.cells #[.slice A n c, .slice A' n' c'] 26)).alloc (.cells #[.slice none 0 0, .slice none 0 0] 26) := ⟨_, rfl⟩
    rw [← h0]
    have hb0 : Below w.heap.size w w0 := by rw [h0]; exact ((Below.refl _ _).alloc (Nat.le_refl _) _).alloc (by simp) _
    have b0 : w0.cell? ⟨w.heap.size, 0, none⟩ = some (.slice A n c) := by rw [h0]; go_simp
    have b1 : w0.cell? ⟨w.heap.size, 1, none⟩ = some (.slice A' n' c') := by rw [h0]; go_simp
    have lw0 : w.heap.size < w0.heap.size := by rw [h0]; simp <;> omega
    have H0 := hide h0
    have HB0 := hide hb0
    clear h0 hb0
    refine (HCP.out w0 (rdM_at HA.out HB0.out) (rdM_at HA'.out HB0.out)).mono ?_
    rintro e w1 ⟨v, rfl, hL⟩
    obtain ⟨C, k, D, m, ev⟩ := hL.shape
    subst ev
    have hb01 : Below w0.heap.size w0 w1 := hL.bel
    have hz1 : (z.length : Int) ≤ 9223372036854775807 := by have := hL.lens; unfold maxLen at this; omega
    have hy1 : (y.length : Int) ≤ 9223372036854775807 := by have := hL.lens; unfold maxLen at this; omega
    have c0 : w1.cell? ⟨w.heap.size, 0, none⟩ = some (.slice A n c) := (hb01.cell lw0).trans b0
    have c1' : w1.cell? ⟨w.heap.size, 1, none⟩ = some (.slice A' n' c') := (hb01.cell lw0).trans b1
    have lw1 : w.heap.size < w1.heap.size := Nat.lt_of_lt_of_le lw0 hb01.size
    have HLN := hide hL.lens
    have HL := hide hL.lv
    have HB01 := hide hb01
    clear hL hb01 b0 b1 lw0
    go_wp2_with fail
    refine (HOA.out _).mono ?_
    rintro e wq ⟨rfl, rfl⟩
    go_wp2_with fail
    obtain ⟨w2, h2⟩ : ∃ W : World, W = w1.alloc (.cells #[.slice C z.length k, .slice D y.length m] 26) := ⟨_, rfl⟩
    rw [← h2]
    obtain ⟨hT, hbw, hb12, hs0⟩ := TB.start H0.out HB01.out h2
    have HT := hide hT
    have HS0 := hide hs0
    have HB2 := hide (below_go HB0.out (below_go HB01.out hb12))
    have hL1 : w0.heap.size ≤ w1.heap.size := HB01.out.size
    have HB12 := hide hb12
    clear h2 hT hbw hb12 hs0 c0 c1' lw1
    refine (HOK.out w2 (rdM_at HA.out HB2.out) (rdM_at HA'.out HB2.out) true HQ.out).mono ?_
    rintro e w3 ⟨rfl, hb⟩
    have HT3 := hide (HT.out.below hb)
    have HB13 := hide (below_go HB12.out hb)
    have HB3 := hide (below_go HB2.out hb)
    clear hb HT HB12
    have b0 := HT3.out.b0
    have b1 := HT3.out.b1
    have r0 := HT3.out.r0
    have r1 := HT3.out.r1
    have f0 := HT3.out.f0
    have f1 := HT3.out.f1
    have e0 := HT3.out.e0
    have e1 := HT3.out.e1
    have HFIN := hide (GiveRes.fin (HL.out.below HB13.out) HB0.out HB3.out HS0.out false)
    go_wp2
    exact bodyPost_ret (v := .tuple #[.agg #[.slice C z.length k, .slice D y.length m], .bool false]) (by simp [results, Try.results6, go_sem, r0, r1]) rfl (by rw [HY.out, HV.out, HNO.out]; exact HFIN.out)
  obtain ⟨hi1, hi2⟩ := hin
  obtain ⟨i, rfl, hi⟩ := in02_nat hi1
  obtain ⟨j, rfl, hj⟩ := in02_nat hi2
  obtain ⟨q, hq⟩ : ∃ q : Nat, q = i * 3 + j := ⟨_, rfl⟩
  have hqn : ((i : Int) * 3 + (j : Int)).toNat = q := by omega
  have hq9 : q < 9 := by omega
  have hq0 : ¬ (q : Int) < 0 := by omega
  have HOA : Hid (∀ W : World, Calls Try.prog 22 #[.int .i64 (i : Int), .int .i64 (j : Int)] W fun e w' => e = .returned (.int .i64 (q : Int)) ∧ W = w') := hide (fun W => by rw [hq, ← ownR_nat hi hj]; exact implOwnAt_any i j W)
  have H39 := hide (okR_lens' hok)
  cases his : in23 s
  · have hno : okGive z y i j s = false := by unfold okGive; rw [his]; simp
    have HNO := hide hno
    have HY : Hid (giveZ z y i j s = z) := hide (by unfold giveZ; rw [hno]; rfl)
    have HV : Hid (giveY z y i j s = y) := hide (by unfold giveY; rw [hno]; rfl)
    have HQ := hide hok
    have HIS := hide his
    clear hno hok hi1 hi2 his hqn hq
    go_enter Try.func6, Try.ntmps6
    go_wp2_with fail
    obtain ⟨w0, h0⟩ : ∃ W : World, W = (w.alloc (.cells #[.slice A n c, .slice A' n' c'] 26)).alloc (.cells #[.slice none 0 0, .slice none 0 0] 26) := ⟨_, rfl⟩
    rw [← h0]
    have hb0 : Below w.heap.size w w0 := by rw [h0]; exact ((Below.refl _ _).alloc (Nat.le_refl _) _).alloc (by simp) _
    have b0 : w0.cell? ⟨w.heap.size, 0, none⟩ = some (.slice A n c) := by rw [h0]; go_simp
    have b1 : w0.cell? ⟨w.heap.size, 1, none⟩ = some (.slice A' n' c') := by rw [h0]; go_simp
    have lw0 : w.heap.size < w0.heap.size := by rw [h0]; simp <;> omega
    have H0 := hide h0
    have HB0 := hide hb0
    clear h0 hb0
    refine (HCP.out w0 (rdM_at HA.out HB0.out) (rdM_at HA'.out HB0.out)).mono ?_
    rintro e w1 ⟨v, rfl, hL⟩
    obtain ⟨C, k, D, m, ev⟩ := hL.shape
    subst ev
    have hb01 : Below w0.heap.size w0 w1 := hL.bel
    have hz1 : (z.length : Int) ≤ 9223372036854775807 := by have := hL.lens; unfold maxLen at this; omega
    have hy1 : (y.length : Int) ≤ 9223372036854775807 := by have := hL.lens; unfold maxLen at this; omega
    have c0 : w1.cell? ⟨w.heap.size, 0, none⟩ = some (.slice A n c) := (hb01.cell lw0).trans b0
    have c1' : w1.cell? ⟨w.heap.size, 1, none⟩ = some (.slice A' n' c') := (hb01.cell lw0).trans b1
    have lw1 : w.heap.size < w1.heap.size := Nat.lt_of_lt_of_le lw0 hb01.size
    have HLN := hide hL.lens
    have HL := hide hL.lv
    have HB01 := hide hb01
    clear hL hb01 b0 b1 lw0
    go_wp2_with fail
    refine (HOA.out _).mono ?_
    rintro e wq ⟨rfl, rfl⟩
    go_wp2_with fail
    obtain ⟨w2, h2⟩ : ∃ W : World, W = w1.alloc (.cells #[.slice C z.length k, .slice D y.length m] 26) := ⟨_, rfl⟩
    rw [← h2]
    obtain ⟨hT, hbw, hb12, hs0⟩ := TB.start H0.out HB01.out h2
    have HT := hide hT
    have HS0 := hide hs0
    have HB2 := hide (below_go HB0.out (below_go HB01.out hb12))
    have hL1 : w0.heap.size ≤ w1.heap.size := HB01.out.size
    have HB12 := hide hb12
    clear h2 hT hbw hb12 hs0 c0 c1' lw1
    refine (HOK.out w2 (rdM_at HA.out HB2.out) (rdM_at HA'.out HB2.out) true HQ.out).mono ?_
    rintro e w3 ⟨rfl, hb⟩
    have HT3 := hide (HT.out.below hb)
    have HB13 := hide (below_go HB12.out hb)
    have HB3 := hide (below_go HB2.out hb)
    clear hb HT HB12
    have b0 := HT3.out.b0
    have b1 := HT3.out.b1
    have r0 := HT3.out.r0
    have r1 := HT3.out.r1
    have f0 := HT3.out.f0
    have f1 := HT3.out.f1
    have e0 := HT3.out.e0
    have e1 := HT3.out.e1
    go_wp2_with fail
    refine (isSlot_q HIS.out _).mono ?_
    rintro e wq ⟨rfl, rfl⟩
    have HFIN := hide (GiveRes.fin (HL.out.below HB13.out) HB0.out HB3.out HS0.out false)
    go_wp2
    exact bodyPost_ret (v := .tuple #[.agg #[.slice C z.length k, .slice D y.length m], .bool false]) (by simp [results, Try.results6, go_sem, r0, r1]) rfl (by rw [HY.out, HV.out, HNO.out]; exact HFIN.out)
  cases hhs : hasR z y s
  case true =>
    have hno : okGive z y i j s = false := by unfold okGive; rw [hhs]; simp
    have HNO := hide hno
    have HY : Hid (giveZ z y i j s = z) := hide (by unfold giveZ; rw [hno]; rfl)
    have HV : Hid (giveY z y i j s = y) := hide (by unfold giveY; rw [hno]; rfl)
    have HQ := hide hok
    have HIS := hide his
    have HHS : Hid (hasR z y s = true) := hide hhs
    clear hno hok hi1 hi2 his hhs hqn hq
    go_enter Try.func6, Try.ntmps6
    go_wp2_with fail
    obtain ⟨w0, h0⟩ : ∃ W : World, W = (w.alloc (.cells #[.slice A n c, .slice A' n' c'] 26)).alloc (.cells #[.slice none 0 0, .slice none 0 0] 26) := ⟨_, rfl⟩
    rw [← h0]
    have hb0 : Below w.heap.size w w0 := by rw [h0]; exact ((Below.refl _ _).alloc (Nat.le_refl _) _).alloc (by simp) _
    have b0 : w0.cell? ⟨w.heap.size, 0, none⟩ = some (.slice A n c) := by rw [h0]; go_simp
    have b1 : w0.cell? ⟨w.heap.size, 1, none⟩ = some (.slice A' n' c') := by rw [h0]; go_simp
    have lw0 : w.heap.size < w0.heap.size := by rw [h0]; simp <;> omega
    have H0 := hide h0
    have HB0 := hide hb0
    clear h0 hb0
    refine (HCP.out w0 (rdM_at HA.out HB0.out) (rdM_at HA'.out HB0.out)).mono ?_
    rintro e w1 ⟨v, rfl, hL⟩
    obtain ⟨C, k, D, m, ev⟩ := hL.shape
    subst ev
    have hb01 : Below w0.heap.size w0 w1 := hL.bel
    have hz1 : (z.length : Int) ≤ 9223372036854775807 := by have := hL.lens; unfold maxLen at this; omega
    have hy1 : (y.length : Int) ≤ 9223372036854775807 := by have := hL.lens; unfold maxLen at this; omega
    have c0 : w1.cell? ⟨w.heap.size, 0, none⟩ = some (.slice A n c) := (hb01.cell lw0).trans b0
    have c1' : w1.cell? ⟨w.heap.size, 1, none⟩ = some (.slice A' n' c') := (hb01.cell lw0).trans b1
    have lw1 : w.heap.size < w1.heap.size := Nat.lt_of_lt_of_le lw0 hb01.size
    have HLN := hide hL.lens
    have HL := hide hL.lv
    have HB01 := hide hb01
    clear hL hb01 b0 b1 lw0
    go_wp2_with fail
    refine (HOA.out _).mono ?_
    rintro e wq ⟨rfl, rfl⟩
    go_wp2_with fail
    obtain ⟨w2, h2⟩ : ∃ W : World, W = w1.alloc (.cells #[.slice C z.length k, .slice D y.length m] 26) := ⟨_, rfl⟩
    rw [← h2]
    obtain ⟨hT, hbw, hb12, hs0⟩ := TB.start H0.out HB01.out h2
    have HT := hide hT
    have HS0 := hide hs0
    have HB2 := hide (below_go HB0.out (below_go HB01.out hb12))
    have hL1 : w0.heap.size ≤ w1.heap.size := HB01.out.size
    have HB12 := hide hb12
    clear h2 hT hbw hb12 hs0 c0 c1' lw1
    refine (HOK.out w2 (rdM_at HA.out HB2.out) (rdM_at HA'.out HB2.out) true HQ.out).mono ?_
    rintro e w3 ⟨rfl, hb⟩
    have HT3 := hide (HT.out.below hb)
    have HB13 := hide (below_go HB12.out hb)
    have HB3 := hide (below_go HB2.out hb)
    clear hb HT HB12
    have b0 := HT3.out.b0
    have b1 := HT3.out.b1
    have r0 := HT3.out.r0
    have r1 := HT3.out.r1
    have f0 := HT3.out.f0
    have f1 := HT3.out.f1
    have e0 := HT3.out.e0
    have e1 := HT3.out.e1
    go_wp2_with fail
    refine (isSlot_q HIS.out _).mono ?_
    rintro e wq ⟨rfl, rfl⟩
    go_wp2_with fail
    refine (HON.out w3 (rdM_at HA.out HB3.out) (rdM_at HA'.out HB3.out) true HHS.out).mono ?_
    rintro e w4 ⟨rfl, hb⟩
    have HT4 := hide (HT3.out.below hb)
    have HB14 := hide (below_go HB13.out hb)
    have HB4 := hide (below_go HB3.out hb)
    clear b0 b1 r0 r1 f0 f1 e0 e1 hb
    have b0 := HT4.out.b0
    have b1 := HT4.out.b1
    have r0 := HT4.out.r0
    have r1 := HT4.out.r1
    have f0 := HT4.out.f0
    have f1 := HT4.out.f1
    have e0 := HT4.out.e0
    have e1 := HT4.out.e1
    have HFIN := hide (GiveRes.fin (HL.out.below HB14.out) HB0.out HB4.out HS0.out false)
    go_wp2
    exact bodyPost_ret (v := .tuple #[.agg #[.slice C z.length k, .slice D y.length m], .bool false]) (by simp [results, Try.results6, go_sem, r0, r1]) rfl (by rw [HY.out, HV.out, HNO.out]; exact HFIN.out)
  have hyes : okGive z y i j s = true := by unfold okGive; rw [hok, hi1, hi2, his, hhs]; rfl
  have HNO := hide hyes
  have HY : Hid (giveZ z y i j s = givZ z y q j s) := hide (by unfold giveZ; rw [if_pos hyes, hqn]; rfl)
  have HV : Hid (giveY z y i j s = givY z y q j s) := hide (by unfold giveY; rw [if_pos hyes, hqn]; rfl)
  have HQ := hide hok
  have HIS := hide his
  have HHS : Hid (hasR z y s = false) := hide hhs
  have HQQ := hide hq
  clear hyes hok hi1 hi2 his hhs hqn hq
  go_enter Try.func6, Try.ntmps6
  go_wp2_with fail
  obtain ⟨w0, h0⟩ : ∃ W : World, W = (w.alloc (.cells #[.slice A n c, .slice A' n' c'] 26)).alloc (.cells #[.slice none 0 0, .slice none 0 0] 26) := ⟨_, rfl⟩
  rw [← h0]
  have hb0 : Below w.heap.size w w0 := by rw [h0]; exact ((Below.refl _ _).alloc (Nat.le_refl _) _).alloc (by simp) _
  have b0 : w0.cell? ⟨w.heap.size, 0, none⟩ = some (.slice A n c) := by rw [h0]; go_simp
  have b1 : w0.cell? ⟨w.heap.size, 1, none⟩ = some (.slice A' n' c') := by rw [h0]; go_simp
  have lw0 : w.heap.size < w0.heap.size := by rw [h0]; simp <;> omega
  have H0 := hide h0
  have HB0 := hide hb0
  clear h0 hb0
  refine (HCP.out w0 (rdM_at HA.out HB0.out) (rdM_at HA'.out HB0.out)).mono ?_
  rintro e w1 ⟨v, rfl, hL⟩
  obtain ⟨C, k, D, m, ev⟩ := hL.shape
  subst ev
  have hb01 : Below w0.heap.size w0 w1 := hL.bel
  have hz1 : (z.length : Int) ≤ 9223372036854775807 := by have := hL.lens; unfold maxLen at this; omega
  have hy1 : (y.length : Int) ≤ 9223372036854775807 := by have := hL.lens; unfold maxLen at this; omega
  have c0 : w1.cell? ⟨w.heap.size, 0, none⟩ = some (.slice A n c) := (hb01.cell lw0).trans b0
  have c1' : w1.cell? ⟨w.heap.size, 1, none⟩ = some (.slice A' n' c') := (hb01.cell lw0).trans b1
  have lw1 : w.heap.size < w1.heap.size := Nat.lt_of_lt_of_le lw0 hb01.size
  have HLN := hide hL.lens
  have HL := hide hL.lv
  have HB01 := hide hb01
  clear hL hb01 b0 b1 lw0
  go_wp2_with fail
  refine (HOA.out _).mono ?_
  rintro e wq ⟨rfl, rfl⟩
  go_wp2_with fail
  obtain ⟨w2, h2⟩ : ∃ W : World, W = w1.alloc (.cells #[.slice C z.length k, .slice D y.length m] 26) := ⟨_, rfl⟩
  rw [← h2]
  obtain ⟨hT, hbw, hb12, hs0⟩ := TB.start H0.out HB01.out h2
  have HT := hide hT
  have HS0 := hide hs0
  have HB2 := hide (below_go HB0.out (below_go HB01.out hb12))
  have hL1 : w0.heap.size ≤ w1.heap.size := HB01.out.size
  have HB12 := hide hb12
  clear h2 hT hbw hb12 hs0 c0 c1' lw1
  refine (HOK.out w2 (rdM_at HA.out HB2.out) (rdM_at HA'.out HB2.out) true HQ.out).mono ?_
  rintro e w3 ⟨rfl, hb⟩
  have HT3 := hide (HT.out.below hb)
  have HB13 := hide (below_go HB12.out hb)
  have HB3 := hide (below_go HB2.out hb)
  clear hb HT HB12
  have b0 := HT3.out.b0
  have b1 := HT3.out.b1
  have r0 := HT3.out.r0
  have r1 := HT3.out.r1
  have f0 := HT3.out.f0
  have f1 := HT3.out.f1
  have e0 := HT3.out.e0
  have e1 := HT3.out.e1
  go_wp2_with fail
  refine (isSlot_q HIS.out _).mono ?_
  rintro e wq ⟨rfl, rfl⟩
  go_wp2_with fail
  refine (HON.out w3 (rdM_at HA.out HB3.out) (rdM_at HA'.out HB3.out) false HHS.out).mono ?_
  rintro e w4 ⟨rfl, hb⟩
  have HT4 := hide (HT3.out.below hb)
  have HB14 := hide (below_go HB13.out hb)
  have HB4 := hide (below_go HB3.out hb)
  clear b0 b1 r0 r1 f0 f1 e0 e1 hb
  have b0 := HT4.out.b0
  have b1 := HT4.out.b1
  have r0 := HT4.out.r0
  have r1 := HT4.out.r1
  have f0 := HT4.out.f0
  have f1 := HT4.out.f1
  have e0 := HT4.out.e0
  have e1 := HT4.out.e1
  obtain ⟨i0, hinf, hz0, hz1, hz2⟩ := info_parts intInfo2
  obtain ⟨g, A2, n2, c2, eD, a1, a2, a3, a4, a5, a6, a7, a8, a9, a10, a11⟩ := HL.out.app1 (i := q) (by have := H39.out; omega)
  obtain ⟨g', A3, n3, c3, eC, d1, d2, d3, d4, d5, d6, d7, d8, d9, d10, d11⟩ := HL.out.app0 (i := j) (by have := H39.out; omega)
  subst eD eC
  have HA6 := hide a6
  have HA9 := hide (row_at a9 HB14.out)
  have HA10 := hide a10
  have HA11 := hide a11
  have HD6 := hide d6
  have HD9 := hide (row_at d9 HB14.out)
  have HD10 := hide d10
  have HD11 := hide d11
  have a4 := (HB14.out.cell (p := ⟨g, q, none⟩) a2).trans a4
  have a5 := (HB14.out.frozen (p := ⟨g, q, none⟩) a2).trans a5
  have d4 := (HB14.out.cell (p := ⟨g', j, none⟩) d2).trans d4
  have d5 := (HB14.out.frozen (p := ⟨g', j, none⟩) d2).trans d5
  have hqm : q < m := by have := HLN.out; have := H39.out; omega
  have hjk : j < k := by have := HLN.out; have := H39.out; omega
  have hqy : (q : Int) < (y.length : Int) := by have := H39.out; omega
  have hjz : (j : Int) < (z.length : Int) := by have := H39.out; omega
  have s14 : w1.heap.size ≤ w4.heap.size := HB14.out.size
  have lp4 : w1.heap.size < w4.heap.size := HT4.out.lt
  have lr4 : w.heap.size + 1 < w1.heap.size := HT4.out.hp
  have hs0 : w.heap.size + 2 ≤ w0.heap.size := by have := HS0.out; omega
  have hn2b : (n2 : Int) ≤ 9223372036854775807 := by unfold maxLen at a8; omega
  have hn3b : n3 ≤ 1048576 := by have := HLZ.out j (by have := H39.out; omega); omega
  clear a6 a9 a10 a11 d6 d9 d10 d11
  by_cases h2 : n2 < 2
  · have h2i : ¬ (2 : Int) ≤ (n2 : Int) := by omega
    have hrg : (Value.slice A2 n2 c2).ownBlock ≠ some g := fun e => (HA10.out _ e).2.2 rfl
    have hr1 : (Value.slice A2 n2 c2).ownBlock ≠ some (w.heap.size + 1) := fun e => by have := (HA10.out _ e).1; omega
    have hrp : (Value.slice A2 n2 c2).ownBlock ≠ some w1.heap.size := fun e => by have := (HA10.out _ e).2.1; omega
    have hgw1 : w.heap.size + 1 ≠ g := by omega
    have hgp : w1.heap.size ≠ g := by omega
    have hgw4 : g < w4.heap.size := by omega
    have lrw4 : w.heap.size + 1 < w4.heap.size := by omega
    have HROW := hide (HA9.out.alloc (.cells #[.int .i64 s] 3))
    have HRDV : Hid (RdV (w4.alloc (.cells #[.int .i64 s] 3)) (some ⟨w4.heap.size, 0, none⟩) [.int .i64 s] (w4.heap.size + 1)) := hide (rdV_one (by go_simp))
    clear b0 b1
    go_wp2_with (at_builtin; refine wpList_app _ rfl _ _ 35 rfl 0 3 i0 (.int .i64 0) 8 Try.underlying35 hinf hz0 hz1 hz2 rfl (.slice A2 n2 c2) n2 (ints (y.getD q [])) rfl HROW.out _ 1 1 [.int .i64 s] _ rfl rfl HRDV.out (by simp [Value.oneCell']) ?c1 ?c2 ?c3 ?_)
    case c1 => unfold maxLen; omega
    case c2 => omega
    case c3 => exact Nat.zero_le _
    intro v' w5 hown hgr hv'
    obtain ⟨E', kd, ev, -, -⟩ := (Sr.of_row hown).shape
    have ev2 : v' = .slice E' (n2 + 1) kd := by rw [ev]; simp [ints_length, HA6.out]
    clear ev
    subst ev2
    have x0 := hgr.cell (a := ⟨g, q, none⟩) (v := .slice A2 n2 c2) (by go_simp) (Ne.symm hrg)
    have x1 : w5.frozen? ⟨g, q, none⟩ = false := (World.frozen?_of_block (hgr.block g (by simp <;> omega) (Ne.symm hrg))).trans (by go_simp)
    have x2 := hgr.cell (a := ⟨w1.heap.size, 0, none⟩) (v := .slice (some ⟨g', 0, none⟩) z.length k) (by go_simp) (Ne.symm hrp)
    have x3 := hgr.cell (a := ⟨w1.heap.size, 1, none⟩) (v := .slice (some ⟨g, 0, none⟩) y.length m) (by go_simp) (Ne.symm hrp)
    have x4 := hgr.cell (a := ⟨w.heap.size + 1, 0, none⟩) (v := .slice none 0 0) (by go_simp) (Ne.symm hr1)
    have x5 := hgr.cell (a := ⟨w.heap.size + 1, 1, none⟩) (v := .slice none 0 0) (by go_simp) (Ne.symm hr1)
    have x6 : w5.frozen? ⟨w.heap.size + 1, 0, none⟩ = false := (World.frozen?_of_block (hgr.block (w.heap.size + 1) (by simp <;> omega) (Ne.symm hr1))).trans (by go_simp)
    have x7 : w5.frozen? ⟨w.heap.size + 1, 1, none⟩ = false := (World.frozen?_of_block (hgr.block (w.heap.size + 1) (by simp <;> omega) (Ne.symm hr1))).trans (by go_simp)
    have hbw : Below w4.heap.size w4 (w4.alloc (.cells #[.int .i64 s] 3)) := (Below.refl _ _).alloc (Nat.le_refl _) _
    have hT0 : Touch (rg w0.heap.size w1.heap.size) w w5 := ((Touch.of_below HB4.out).trans (Touch.of_below hbw)).trans (touch_grown hgr (fun x hx => mem_rg.2 ⟨(HA10.out x hx).1, (HA10.out x hx).2.1⟩))
    have hT1 := hT0.setCell (p := ⟨g, q, none⟩) (mem_rg.2 ⟨by assumption, by assumption⟩) (.slice E' (n2 + 1) kd)
    have hw5 : Below w.heap.size w (w5.setCell ⟨g, q, none⟩ (.slice E' (n2 + 1) kd)) := Below.touch (Below.refl w.heap.size w) hT1 (fun g hg => by rw [mem_rg] at hg; omega) (Nat.le_refl _)
    have hL := HA11.out _ _ _ s (below_go HB14.out hbw) hown hgr (by simpa using hv') [] _ (Touch.refl _ _) (fun x hx => by cases hx)
    have HFIN := hide (GiveRes.fin hL HB0.out hw5 HS0.out true)
    have HGZ : Hid (givZ z y q j s = z) := hide (by unfold givZ; rw [if_pos (by rw [← HA6.out]; exact h2)])
    have HGY : Hid (givY z y q j s = addZ y q s) := hide (by unfold givY; rw [if_pos (by rw [← HA6.out]; exact h2)])
    clear hbw hT0 hT1 hL hw5 hown hgr hv' a4 a5 d4 d5 r0 r1 f0 f1 e0 e1
    go_wp2
    exact bodyPost_ret (v := .tuple #[.agg #[.slice (some ⟨g', 0, none⟩) z.length k, .slice (some ⟨g, 0, none⟩) y.length m], .bool true]) (by simp [results, Try.results6, go_sem, x4, x5]) rfl (by rw [HY.out, HV.out, HNO.out, HGZ.out, HGY.out]; exact HFIN.out)
  · have h2i : (2 : Int) ≤ (n2 : Int) := by omega
    have hrg : (Value.slice A3 n3 c3).ownBlock ≠ some g' := fun e => (HD10.out _ e).2.2 rfl
    have hr1 : (Value.slice A3 n3 c3).ownBlock ≠ some (w.heap.size + 1) := fun e => by have := (HD10.out _ e).1; omega
    have hrp : (Value.slice A3 n3 c3).ownBlock ≠ some w1.heap.size := fun e => by have := (HD10.out _ e).2.1; omega
    have hgw1 : w.heap.size + 1 ≠ g' := by omega
    have hgp : w1.heap.size ≠ g' := by omega
    have hgw4 : g' < w4.heap.size := by omega
    have lrw4 : w.heap.size + 1 < w4.heap.size := by omega
    have HROW := hide (HD9.out.alloc (.cells #[.int .i64 s] 3))
    have HRDV : Hid (RdV (w4.alloc (.cells #[.int .i64 s] 3)) (some ⟨w4.heap.size, 0, none⟩) [.int .i64 s] (w4.heap.size + 1)) := hide (rdV_one (by go_simp))
    clear b0 b1
    go_wp2_with (at_builtin; refine wpList_app _ rfl _ _ 35 rfl 0 3 i0 (.int .i64 0) 8 Try.underlying35 hinf hz0 hz1 hz2 rfl (.slice A3 n3 c3) n3 (ints (z.getD j [])) rfl HROW.out _ 1 1 [.int .i64 s] _ rfl rfl HRDV.out (by simp [Value.oneCell']) ?c1 ?c2 ?c3 ?_)
    case c1 => unfold maxLen; omega
    case c2 => omega
    case c3 => exact Nat.zero_le _
    intro v' w5 hown hgr hv'
    obtain ⟨E', kd, ev, -, -⟩ := (Sr.of_row hown).shape
    have ev2 : v' = .slice E' (n3 + 1) kd := by rw [ev]; simp [ints_length, HD6.out]
    clear ev
    subst ev2
    have x0 := hgr.cell (a := ⟨g', j, none⟩) (v := .slice A3 n3 c3) (by go_simp) (Ne.symm hrg)
    have x1 : w5.frozen? ⟨g', j, none⟩ = false := (World.frozen?_of_block (hgr.block g' (by simp <;> omega) (Ne.symm hrg))).trans (by go_simp)
    have x2 := hgr.cell (a := ⟨w1.heap.size, 0, none⟩) (v := .slice (some ⟨g', 0, none⟩) z.length k) (by go_simp) (Ne.symm hrp)
    have x3 := hgr.cell (a := ⟨w1.heap.size, 1, none⟩) (v := .slice (some ⟨g, 0, none⟩) y.length m) (by go_simp) (Ne.symm hrp)
    have x4 := hgr.cell (a := ⟨w.heap.size + 1, 0, none⟩) (v := .slice none 0 0) (by go_simp) (Ne.symm hr1)
    have x5 := hgr.cell (a := ⟨w.heap.size + 1, 1, none⟩) (v := .slice none 0 0) (by go_simp) (Ne.symm hr1)
    have x6 : w5.frozen? ⟨w.heap.size + 1, 0, none⟩ = false := (World.frozen?_of_block (hgr.block (w.heap.size + 1) (by simp <;> omega) (Ne.symm hr1))).trans (by go_simp)
    have x7 : w5.frozen? ⟨w.heap.size + 1, 1, none⟩ = false := (World.frozen?_of_block (hgr.block (w.heap.size + 1) (by simp <;> omega) (Ne.symm hr1))).trans (by go_simp)
    have hbw : Below w4.heap.size w4 (w4.alloc (.cells #[.int .i64 s] 3)) := (Below.refl _ _).alloc (Nat.le_refl _) _
    have hT0 : Touch (rg w0.heap.size w1.heap.size) w w5 := ((Touch.of_below HB4.out).trans (Touch.of_below hbw)).trans (touch_grown hgr (fun x hx => mem_rg.2 ⟨(HD10.out x hx).1, (HD10.out x hx).2.1⟩))
    have hT1 := hT0.setCell (p := ⟨g', j, none⟩) (mem_rg.2 ⟨by assumption, by assumption⟩) (.slice E' (n3 + 1) kd)
    have hw5 : Below w.heap.size w (w5.setCell ⟨g', j, none⟩ (.slice E' (n3 + 1) kd)) := Below.touch (Below.refl w.heap.size w) hT1 (fun g hg => by rw [mem_rg] at hg; omega) (Nat.le_refl _)
    have hL := HD11.out _ _ _ s (below_go HB14.out hbw) hown hgr (by simpa using hv') [] _ (Touch.refl _ _) (fun x hx => by cases hx)
    have HFIN := hide (GiveRes.fin hL HB0.out hw5 HS0.out true)
    have HGZ : Hid (givZ z y q j s = addZ z j s) := hide (by unfold givZ; rw [if_neg (by rw [← HA6.out]; exact h2)])
    have HGY : Hid (givY z y q j s = y) := hide (by unfold givY; rw [if_neg (by rw [← HA6.out]; exact h2)])
    clear hbw hT0 hT1 hL hw5 hown hgr hv' a4 a5 d4 d5 r0 r1 f0 f1 e0 e1
    go_wp2
    exact bodyPost_ret (v := .tuple #[.agg #[.slice (some ⟨g', 0, none⟩) z.length k, .slice (some ⟨g, 0, none⟩) y.length m], .bool true]) (by simp [results, Try.results6, go_sem, x4, x5]) rfl (by rw [HY.out, HV.out, HNO.out, HGZ.out, HGY.out]; exact HFIN.out)
end Go.Proofs.Ytdhocncfpapncab
