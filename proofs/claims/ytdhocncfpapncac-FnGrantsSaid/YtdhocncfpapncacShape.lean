/-
  The shape of a heap: 384 bytes, six classes. The contracts of BytesOk and of the shape, of the reference and of the program.
-/
import Derived.Test.YtdhocncfpapncacHeap
import Derived.Test.YtdhocncfpapncacSame
import Derived.Test.YtdhocncfpapncacIn
namespace Go.Proofs.Ytdhocncfpapncac
open Go.RowKit
set_option linter.unusedVariables false

def isB (x : Int) : Bool := decide (0 ≤ x ∧ x ≤ 255)
def bokR (zs : List Int) : Bool := zs.all isB && decide (zs.length ≤ 1000)
theorem bok_bad {zs : List Int} {k : Nat} (hk : k < zs.length) (h : ¬ (0 ≤ zs.getD k 0 ∧ zs.getD k 0 ≤ 255)) : zs.all isB = false := by
  rw [List.all_eq_false]
  exact ⟨zs[k], List.getElem_mem _, by simp [isB]; have : zs.getD k 0 = zs[k] := by simp [List.getD, hk]
                                       rw [this] at h; omega⟩
theorem bok_good {zs : List Int} (h : ∀ j, j < zs.length → 0 ≤ zs.getD j 0 ∧ zs.getD j 0 ≤ 255) : zs.all isB = true := by
  rw [List.all_eq_true]
  intro x hx
  obtain ⟨j, hj, rfl⟩ := List.getElem_of_mem hx
  have := h j hj
  have e : zs.getD j 0 = zs[j] := by simp [List.getD, hj]
  rw [e] at this
  simpa [isB] using this

set_option maxRecDepth 100000 in
set_option maxHeartbeats 800000 in
theorem specBok_any (A : Option Addr) (n c : Nat) (zs : List Int) (U : Nat) (w : World) (hn : n = zs.length) (hz : n ≤ 2097152) (ha : RdB .i64 w A zs U) :
    Calls Try.prog 49 #[.slice A n c] w fun e w' => e = .returned (.bool (bokR zs)) ∧ Below w.heap.size w w' := by
  have HN := hide hn
  have HA := hide ha
  have hz1 : (n : Int) ≤ 2097152 := by omega
  clear hn ha hz
  go_enter Try.func49, Try.ntmps49
  go_wp2
  go_loopg [3] (n + 1) (fun g i wr => wr = w ∧ ∃ k : Nat, k ≤ n ∧ g = n + 1 - k ∧ i = .int .i64 k ∧ ∀ j, j < k → 0 ≤ zs.getD j 0 ∧ zs.getD j 0 ≤ 255)
  case atStart => exact ⟨rfl, 0, Nat.zero_le _, rfl, rfl, fun j hj => absurd hj (by omega)⟩
  case round =>
    obtain ⟨rfl, k, hk, hg, rfl, hall⟩ := hrel
    have HG := hide hg
    have HALL := hide hall
    clear hg hall
    by_cases hlt : k < n
    · obtain ⟨b, off, rfl, hb, hc⟩ := HA.out k (by have := HN.out; omega)
      have hi : (k : Int) < (n : Int) := by omega
      obtain ⟨x, hx⟩ : ∃ x, x = zs.getD k 0 := ⟨_, rfl⟩
      rw [← hx] at hc
      have HX := hide hx
      clear hx
      by_cases hin : 0 ≤ x ∧ x ≤ 255
      · have HIN := hide hin
        clear hin
        go_wp2_with fail
        refine (l1In_yes _ _ _ _ HIN.out.1 HIN.out.2).mono ?_
        rintro e w1 ⟨rfl, rfl⟩
        go_wp2
        go_roundg (n + 1 - (k + 1))
        case measure => have := HG.out; omega
        case rel => exact ⟨rfl, k + 1, by omega, rfl, by go_num, fun j hj => by
          by_cases e : j = k
          · subst e; rw [← HX.out]; exact HIN.out
          · exact HALL.out j (by omega)⟩
      · have HIN := hide hin
        clear hin
        have HF : Hid (bokR zs = false) := hide (by unfold bokR; rw [bok_bad (k := k) (by have := HN.out; omega) (by rw [← HX.out]; exact HIN.out)]; rfl)
        go_wp2_with fail
        refine (l1In_no _ _ _ _ HIN.out).mono ?_
        rintro e w1 ⟨rfl, rfl⟩
        go_wp2
        go_ret
        exact ⟨retB HF.out.symm, Below.refl _ _⟩
    · have hi : ¬ (k : Int) < (n : Int) := by omega
      have HT : Hid (bokR zs = decide ((n : Int) ≤ 1000)) := hide (by
        have := HN.out
        unfold bokR
        rw [bok_good (fun j hj => HALL.out j (by omega)), ← this, Bool.true_and, decide_eq_decide]
        omega)
      go_wp2
      go_ret
      exact ⟨retB HT.out.symm, Below.refl _ _⟩

theorem isByte_any (x : Int) (w : World) : Calls Try.prog 66 #[.int .i64 x] w fun e w' => e = .returned (.bool (isB x)) ∧ w = w' := by
  by_cases h : 0 ≤ x ∧ x ≤ 255
  · have HT : Hid (isB x = true) := hide (by simpa [isB] using h)
    have H := hide h
    clear h
    go_enter Try.func66, Try.ntmps66
    go_wp2_with fail
    refine (within_yes _ _ _ _ H.out.1 H.out.2).mono ?_
    rintro e w1 ⟨rfl, rfl⟩
    go_wp2
    go_ret
    exact ⟨retB HT.out.symm, rfl⟩
  · have HT : Hid (isB x = false) := hide (by simpa [isB] using h)
    have H := hide h
    clear h
    go_enter Try.func66, Try.ntmps66
    go_wp2_with fail
    refine (within_no _ _ _ _ H.out).mono ?_
    rintro e w1 ⟨rfl, rfl⟩
    go_wp2
    go_ret
    exact ⟨retB HT.out.symm, rfl⟩

/-! slices.ContainsFunc at a function of the program that answers q -/

theorem any_yes {zs : List Int} {q : Int → Bool} {k : Nat} (hk : k < zs.length) (h : q (zs.getD k 0) = true) : zs.any q = true := by
  rw [List.any_eq_true]
  have : zs.getD k 0 = zs[k] := by simp [List.getD, hk]
  exact ⟨zs[k], List.getElem_mem _, by rw [← this]; exact h⟩
theorem any_no {zs : List Int} {q : Int → Bool} (h : ∀ j, j < zs.length → q (zs.getD j 0) = false) : zs.any q = false := by
  rw [List.any_eq_false]
  intro x hx
  obtain ⟨j, hj, rfl⟩ := List.getElem_of_mem hx
  have e : zs.getD j 0 = zs[j] := by simp [List.getD, hj]
  rw [← e, h j hj]
  simp

theorem notByte_any (x : Int) (w : World) : Calls Try.prog 65 #[.int .i64 x] w fun e w' => e = .returned (.bool (!isB x)) ∧ w = w' := by
  go_enter Try.func65, Try.ntmps65
  go_wp2_with fail
  refine (isByte_any _ _).mono ?_
  rintro e w1 ⟨rfl, rfl⟩
  go_wp2
  go_ret
  exact ⟨rfl, rfl⟩
set_option maxRecDepth 100000 in
set_option maxHeartbeats 800000 in
theorem indexFunc_notB (A : Option Addr) (n c : Nat) (zs : List Int) (U : Nat) (w : World) (hn : n = zs.length) (hz : n ≤ 2097152) (ha : RdB .i64 w A zs U) :
    Calls Try.prog 67 #[.slice A n c, .func (.func 65) #[] #[]] w fun e w' => (∃ x : Int, e = .returned (.int .i64 x) ∧ (zs.any (fun x => !isB x) = decide (0 ≤ x)) ∧ -1 ≤ x ∧ x ≤ 2097152) ∧ w = w' := by
  have HN := hide hn
  have HA := hide ha
  have hz1 : (n : Int) ≤ 2097152 := by omega
  clear hn ha hz
  go_enter Try.func67, Try.ntmps67
  go_wp2
  go_loopg [5, 8] (n + 1) (fun g _x i wr => wr = w ∧ ∃ k : Nat, k ≤ n ∧ g = n + 1 - k ∧ i = .int .i64 k ∧ ∀ j, j < k → (fun x => !isB x) (zs.getD j 0) = false)
  case atStart => exact ⟨rfl, 0, Nat.zero_le _, rfl, rfl, fun j hj => absurd hj (by omega)⟩
  case round =>
    obtain ⟨rfl, k, hk, hg, rfl, hall⟩ := hrel
    have HG := hide hg
    have HALL := hide hall
    clear hg hall
    by_cases hlt : k < n
    · obtain ⟨b, off, rfl, hb, hc⟩ := HA.out k (by have := HN.out; omega)
      have hi : (k : Int) < (n : Int) := by omega
      obtain ⟨x, hx⟩ : ∃ x, x = zs.getD k 0 := ⟨_, rfl⟩
      rw [← hx] at hc
      have HX := hide hx
      clear hx
      go_wp2_with fail
      refine (notByte_any x _).mono ?_
      rintro e w1 ⟨rfl, rfl⟩
      generalize hq : (!isB x) = v
      cases v
      · have HQ := hide hq
        clear hq
        go_wp2
        go_roundg (n + 1 - (k + 1))
        case measure => have := HG.out; omega
        case rel => exact ⟨rfl, k + 1, by omega, rfl, by go_num, fun j hj => by
          by_cases e : j = k
          · subst e; rw [← HX.out]; exact HQ.out
          · exact HALL.out j (by omega)⟩
      · have HY : Hid (zs.any (fun x => !isB x) = true) := hide (any_yes (q := (fun x => !isB x)) (k := k) (by have := HN.out; omega) (by rw [← HX.out]; exact hq))
        clear hq
        go_wp2
        go_ret
        exact ⟨⟨(k : Int), rfl, by rw [HY.out]; symm; simp, by omega, by omega⟩, rfl⟩
    · have hi : ¬ (k : Int) < (n : Int) := by omega
      have HT : Hid (zs.any (fun x => !isB x) = false) := hide (any_no (q := (fun x => !isB x)) (fun j hj => HALL.out j (by have := HN.out; omega)))
      go_wp2
      go_ret
      exact ⟨⟨-1, rfl, by rw [HT.out]; rfl, by omega, by omega⟩, rfl⟩

theorem containsFunc_notB (A : Option Addr) (n c : Nat) (zs : List Int) (U : Nat) (w : World) (hn : n = zs.length) (hz : n ≤ 2097152) (ha : RdB .i64 w A zs U) :
    Calls Try.prog 55 #[.slice A n c, .func (.func 65) #[] #[]] w fun e w' => e = .returned (.bool (zs.any (fun x => !isB x))) ∧ w = w' := by
  have H := hide (indexFunc_notB A n c zs U w hn hz ha)
  clear hn hz ha
  go_enter Try.func55, Try.ntmps55
  go_wp2_with fail
  refine H.out.mono ?_
  rintro e w1 ⟨⟨x, rfl, hx, h1, h2⟩, rfl⟩
  have HX := hide hx
  clear hx H
  go_wp2
  go_ret
  exact ⟨retB HX.out.symm, rfl⟩


theorem any_not_isB (zs : List Int) : (!zs.any fun x => !isB x) = zs.all isB := by
  rw [List.not_any_eq_all_not]; simp
theorem implBok_any (A : Option Addr) (n c : Nat) (zs : List Int) (U : Nat) (w : World) (hn : n = zs.length) (hz : n ≤ 2097152) (ha : RdB .i64 w A zs U) :
    Calls Try.prog 54 #[.slice A n c] w fun e w' => e = .returned (.bool (bokR zs)) ∧ w = w' := by
  have H := hide (containsFunc_notB A n c zs U w hn hz ha)
  have HR : Hid (bokR zs = (zs.all isB && decide ((n : Int) ≤ 1000))) := hide (by
    unfold bokR; rw [← hn]; congr 1; rw [decide_eq_decide]; omega)
  have hz1 : (n : Int) ≤ 2097152 := by omega
  clear hn hz ha
  by_cases h1000 : (n : Int) ≤ 1000
  · have HR2 : Hid ((!zs.any fun x => !isB x) = bokR zs) := hide (by rw [HR.out, any_not_isB]; simp [h1000])
    clear HR
    go_enter Try.func54, Try.ntmps54
    go_wp2_with fail
    refine H.out.mono ?_
    rintro e w1 ⟨rfl, rfl⟩
    clear H
    generalize hv : (zs.any fun x => !isB x) = v at *
    have HV := hide hv
    clear hv
    go_wp2
    go_ret
    exact ⟨retB (by rw [← HR2.out]), rfl⟩
  · have HR2 : Hid (bokR zs = false) := hide (by rw [HR.out]; simp; omega)
    have hd : decide ((n : Int) ≤ 1000) = false := by simpa using h1000
    clear HR
    go_enter Try.func54, Try.ntmps54
    go_wp2
    go_ret
    exact ⟨retB HR2.out.symm, rfl⟩

/-! the shape -/

def isCl (x : Int) : Bool := decide (-1 ≤ x ∧ x ≤ 2)
def shapeR (x y : List Int) : Bool := decide (x.length = 384) && bokR x && decide (y.length = 6) && y.all isCl
theorem all_isCl_bad {zs : List Int} {k : Nat} (hk : k < zs.length) (h : ¬ (-1 ≤ zs.getD k 0 ∧ zs.getD k 0 ≤ 2)) : zs.all isCl = false := by
  rw [List.all_eq_false]
  have e : zs.getD k 0 = zs[k] := by simp [List.getD, hk]
  rw [e] at h
  exact ⟨zs[k], List.getElem_mem _, by simp only [isCl, decide_eq_true_eq]; exact h⟩
theorem all_isCl_good {zs : List Int} (h : ∀ j, j < zs.length → -1 ≤ zs.getD j 0 ∧ zs.getD j 0 ≤ 2) : zs.all isCl = true := by
  rw [List.all_eq_true]
  intro x hx
  obtain ⟨j, hj, rfl⟩ := List.getElem_of_mem hx
  have := h j hj
  have e : zs.getD j 0 = zs[j] := by simp [List.getD, hj]
  rw [e] at this
  simpa [isCl] using this
theorem notCl_any (x : Int) (w : World) : Calls Try.prog 56 #[.int .i64 x] w fun e w' => e = .returned (.bool (!isCl x)) ∧ w = w' := by
  by_cases h : -1 ≤ x ∧ x ≤ 2
  · have HT : Hid ((!isCl x) = false) := hide (by simp [isCl]; exact h)
    have H := hide h
    clear h
    go_enter Try.func56, Try.ntmps56
    go_wp2_with fail
    refine (within_yes _ _ _ _ H.out.1 H.out.2).mono ?_
    rintro e w1 ⟨rfl, rfl⟩
    go_wp2
    go_ret
    exact ⟨retB HT.out.symm, rfl⟩
  · have HT : Hid ((!isCl x) = true) := hide (by simp [isCl]; omega)
    have H := hide h
    clear h
    go_enter Try.func56, Try.ntmps56
    go_wp2_with fail
    refine (within_no _ _ _ _ H.out).mono ?_
    rintro e w1 ⟨rfl, rfl⟩
    go_wp2
    go_ret
    exact ⟨retB HT.out.symm, rfl⟩
set_option maxRecDepth 100000 in
set_option maxHeartbeats 800000 in
theorem indexFunc_notCl (A : Option Addr) (n c : Nat) (zs : List Int) (U : Nat) (w : World) (hn : n = zs.length) (hz : n ≤ 2097152) (ha : RdB .i64 w A zs U) :
    Calls Try.prog 67 #[.slice A n c, .func (.func 56) #[] #[]] w fun e w' => (∃ x : Int, e = .returned (.int .i64 x) ∧ (zs.any (fun x => !isCl x) = decide (0 ≤ x)) ∧ -1 ≤ x ∧ x ≤ 2097152) ∧ w = w' := by
  have HN := hide hn
  have HA := hide ha
  have hz1 : (n : Int) ≤ 2097152 := by omega
  clear hn ha hz
  go_enter Try.func67, Try.ntmps67
  go_wp2
  go_loopg [5, 8] (n + 1) (fun g _x i wr => wr = w ∧ ∃ k : Nat, k ≤ n ∧ g = n + 1 - k ∧ i = .int .i64 k ∧ ∀ j, j < k → (fun x => !isCl x) (zs.getD j 0) = false)
  case atStart => exact ⟨rfl, 0, Nat.zero_le _, rfl, rfl, fun j hj => absurd hj (by omega)⟩
  case round =>
    obtain ⟨rfl, k, hk, hg, rfl, hall⟩ := hrel
    have HG := hide hg
    have HALL := hide hall
    clear hg hall
    by_cases hlt : k < n
    · obtain ⟨b, off, rfl, hb, hc⟩ := HA.out k (by have := HN.out; omega)
      have hi : (k : Int) < (n : Int) := by omega
      obtain ⟨x, hx⟩ : ∃ x, x = zs.getD k 0 := ⟨_, rfl⟩
      rw [← hx] at hc
      have HX := hide hx
      clear hx
      go_wp2_with fail
      refine (notCl_any x _).mono ?_
      rintro e w1 ⟨rfl, rfl⟩
      generalize hq : (!isCl x) = v
      cases v
      · have HQ := hide hq
        clear hq
        go_wp2
        go_roundg (n + 1 - (k + 1))
        case measure => have := HG.out; omega
        case rel => exact ⟨rfl, k + 1, by omega, rfl, by go_num, fun j hj => by
          by_cases e : j = k
          · subst e; rw [← HX.out]; exact HQ.out
          · exact HALL.out j (by omega)⟩
      · have HY : Hid (zs.any (fun x => !isCl x) = true) := hide (any_yes (q := (fun x => !isCl x)) (k := k) (by have := HN.out; omega) (by rw [← HX.out]; exact hq))
        clear hq
        go_wp2
        go_ret
        exact ⟨⟨(k : Int), rfl, by rw [HY.out]; symm; simp, by omega, by omega⟩, rfl⟩
    · have hi : ¬ (k : Int) < (n : Int) := by omega
      have HT : Hid (zs.any (fun x => !isCl x) = false) := hide (any_no (q := (fun x => !isCl x)) (fun j hj => HALL.out j (by have := HN.out; omega)))
      go_wp2
      go_ret
      exact ⟨⟨-1, rfl, by rw [HT.out]; rfl, by omega, by omega⟩, rfl⟩

theorem containsFunc_notCl (A : Option Addr) (n c : Nat) (zs : List Int) (U : Nat) (w : World) (hn : n = zs.length) (hz : n ≤ 2097152) (ha : RdB .i64 w A zs U) :
    Calls Try.prog 55 #[.slice A n c, .func (.func 56) #[] #[]] w fun e w' => e = .returned (.bool (zs.any (fun x => !isCl x))) ∧ w = w' := by
  have H := hide (indexFunc_notCl A n c zs U w hn hz ha)
  clear hn hz ha
  go_enter Try.func55, Try.ntmps55
  go_wp2_with fail
  refine H.out.mono ?_
  rintro e w1 ⟨⟨x, rfl, hx, h1, h2⟩, rfl⟩
  have HX := hide hx
  clear hx H
  go_wp2
  go_ret
  exact ⟨retB HX.out.symm, rfl⟩


theorem any_not_isCl (zs : List Int) : (!zs.any fun x => !isCl x) = zs.all isCl := by
  rw [List.not_any_eq_all_not]; simp

set_option maxRecDepth 100000 in
set_option maxHeartbeats 1600000 in
theorem specShape_any (A A' : Option Addr) (n c n' c' : Nat) (x y : List Int) (w : World) (hn : n = x.length) (hn' : n' = y.length) (hz : n ≤ 1048576) (hz' : n' ≤ 1048576) (ha : RdB .i64 w A x w.heap.size) (ha' : RdB .i64 w A' y w.heap.size) :
    Calls Try.prog 31 #[.agg #[.slice A n c, .slice A' n' c']] w fun e w' => e = .returned (.bool (shapeR x y)) ∧ Below w.heap.size w w' := by
  have HN := hide hn
  have HN' := hide hn'
  have HA := hide ha
  have HA' := hide ha'
  have q1 : (n : Int) ≤ 1048576 := by omega
  have q2 : (n' : Int) ≤ 1048576 := by omega
  clear hn hn' ha ha'
  by_cases h1 : n = 384
  case neg =>
    have HX : Hid (shapeR x y = false) := hide (by unfold shapeR; rw [decide_eq_false (by rw [← HN.out]; exact h1)]; rfl)
    have e1 : ((n : Int) != 384) = true := by rw [bne_iff_ne]; omega
    clear h1
    go_enter Try.func31, Try.ntmps31
    go_wp2
    go_ret
    exact ⟨retB HX.out.symm, (Below.refl _ _).alloc (Nat.le_refl _) _⟩
  by_cases h2 : n' = 6
  case neg =>
    have HX : Hid (shapeR x y = false) := hide (by unfold shapeR; rw [decide_eq_false (p := y.length = 6) (by rw [← HN'.out]; exact h2)]; simp)
    have e1 : ((n : Int) != 384) = false := by rw [h1]; rfl
    have e2 : ((n' : Int) != 6) = true := by rw [bne_iff_ne]; omega
    clear h1 h2
    go_enter Try.func31, Try.ntmps31
    go_wp2
    go_ret
    exact ⟨retB HX.out.symm, (Below.refl _ _).alloc (Nat.le_refl _) _⟩
  subst h1 h2
  go_enter Try.func31, Try.ntmps31
  go_wp2_with fail
  have hb0 : Below w.heap.size w (w.alloc (.cells #[.slice A 384 c, .slice A' 6 c'] 26)) := (Below.refl _ _).alloc (Nat.le_refl _) _
  refine (specBok_any A 384 c x w.heap.size _ HN.out (by omega) (HA.out.below hb0 (Nat.le_refl _))).mono ?_
  rintro e w1 ⟨rfl, hb⟩
  have k1 : w1.cell? ⟨w.heap.size, 1, none⟩ = some (.slice A' 6 c') := by rw [hb.cell (by simp <;> omega)]; go_simp
  have HB := hide (hb0.trans (hb.mono hb0.size))
  clear hb hb0
  cases h3 : bokR x
  · have HX : Hid (shapeR x y = false) := hide (by unfold shapeR; rw [h3]; simp)
    clear h3
    go_wp2
    go_ret
    exact ⟨retB HX.out.symm, HB.out⟩
  have H3 := hide h3
  have HA1 := hide (HA'.out.below HB.out (Nat.le_refl _))
  clear h3
  go_wp2
  go_loopg [3] 7 (fun g i wr => wr = w1 ∧ ∃ k : Nat, k ≤ 6 ∧ g = 7 - k ∧ i = .int .i64 k ∧ ∀ j, j < k → -1 ≤ y.getD j 0 ∧ y.getD j 0 ≤ 2)
  case atStart => exact ⟨rfl, 0, by omega, rfl, rfl, fun j hj => absurd hj (by omega)⟩
  case round =>
    obtain ⟨rfl, k, hk, hg, rfl, hall⟩ := hrel
    have HG := hide hg
    have HALL := hide hall
    clear hg hall
    by_cases hlt : k < 6
    · obtain ⟨b, off, rfl, hb, hc⟩ := HA1.out k (by have := HN'.out; omega)
      have hi : (k : Int) < 6 := by omega
      obtain ⟨v, hv⟩ : ∃ v, v = y.getD k 0 := ⟨_, rfl⟩
      rw [← hv] at hc
      have HV := hide hv
      clear hv
      by_cases hin : -1 ≤ v ∧ v ≤ 2
      · have HIN := hide hin
        clear hin
        go_wp2_with fail
        refine (l1In_yes _ _ _ _ HIN.out.1 HIN.out.2).mono ?_
        rintro e w2 ⟨rfl, rfl⟩
        go_wp2
        go_roundg (7 - (k + 1))
        case measure => have := HG.out; omega
        case rel => exact ⟨rfl, k + 1, by omega, rfl, by go_num, fun j hj => by
          by_cases e : j = k
          · subst e; rw [← HV.out]; exact HIN.out
          · exact HALL.out j (by omega)⟩
      · have HIN := hide hin
        clear hin
        have HX : Hid (shapeR x y = false) := hide (by unfold shapeR; rw [all_isCl_bad (k := k) (by have := HN'.out; omega) (by rw [← HV.out]; exact HIN.out)]; simp)
        go_wp2_with fail
        refine (l1In_no _ _ _ _ HIN.out).mono ?_
        rintro e w2 ⟨rfl, rfl⟩
        go_wp2
        go_ret
        exact ⟨retB HX.out.symm, HB.out⟩
    · have hi : ¬ (k : Int) < 6 := by omega
      have HX : Hid (shapeR x y = true) := hide (by
        unfold shapeR
        rw [H3.out, all_isCl_good (fun j hj => HALL.out j (by have := HN'.out; omega)), ← HN.out, ← HN'.out]; rfl)
      go_wp2
      go_ret
      exact ⟨retB HX.out.symm, HB.out⟩

set_option maxRecDepth 100000 in
set_option maxHeartbeats 1600000 in
theorem implShape_any (A A' : Option Addr) (n c n' c' : Nat) (x y : List Int) (w : World) (hn : n = x.length) (hn' : n' = y.length) (hz : n ≤ 1048576) (hz' : n' ≤ 1048576) (ha : RdB .i64 w A x w.heap.size) (ha' : RdB .i64 w A' y w.heap.size) :
    Calls Try.prog 36 #[.agg #[.slice A n c, .slice A' n' c']] w fun e w' => e = .returned (.bool (shapeR x y)) ∧ Below w.heap.size w w' := by
  have HN := hide hn
  have HN' := hide hn'
  have HA := hide ha
  have HA' := hide ha'
  have q1 : (n : Int) ≤ 1048576 := by omega
  have q2 : (n' : Int) ≤ 1048576 := by omega
  clear hn hn' ha ha'
  by_cases h1 : n = 384
  case neg =>
    have HX : Hid (shapeR x y = false) := hide (by unfold shapeR; rw [decide_eq_false (by rw [← HN.out]; exact h1)]; rfl)
    have e1 : ((n : Int) == 384) = false := by rw [beq_eq_false_iff_ne]; omega
    clear h1
    go_enter Try.func36, Try.ntmps36
    go_wp2
    go_ret
    exact ⟨retB HX.out.symm, (Below.refl _ _).alloc (Nat.le_refl _) _⟩
  subst h1
  go_enter Try.func36, Try.ntmps36
  go_wp2_with fail
  have hb0 : Below w.heap.size w (w.alloc (.cells #[.slice A 384 c, .slice A' n' c'] 26)) := (Below.refl _ _).alloc (Nat.le_refl _) _
  have HB := hide hb0
  clear hb0
  refine (implBok_any A 384 c x w.heap.size _ HN.out (by omega) (HA.out.below HB.out (Nat.le_refl _))).mono ?_
  rintro e w1 ⟨rfl, rfl⟩
  cases h3 : bokR x
  · have HX : Hid (shapeR x y = false) := hide (by unfold shapeR; rw [h3]; simp)
    clear h3
    go_wp2
    go_ret
    exact ⟨retB HX.out.symm, HB.out⟩
  have H3 := hide h3
  clear h3
  by_cases h2 : n' = 6
  case neg =>
    have HX : Hid (shapeR x y = false) := hide (by unfold shapeR; rw [decide_eq_false (p := y.length = 6) (by rw [← HN'.out]; exact h2)]; simp)
    have e2 : ((n' : Int) == 6) = false := by rw [beq_eq_false_iff_ne]; omega
    clear h2
    go_wp2
    go_ret
    exact ⟨retB HX.out.symm, HB.out⟩
  subst h2
  go_wp2_with fail
  refine (containsFunc_notCl A' 6 c' y w.heap.size _ HN'.out (by omega) (HA'.out.below HB.out (Nat.le_refl _))).mono ?_
  rintro e w1 ⟨rfl, rfl⟩
  have HX : Hid ((!y.any fun x => !isCl x) = shapeR x y) := hide (by
    unfold shapeR
    rw [any_not_isCl, H3.out, ← HN.out, ← HN'.out]; simp)
  generalize hv : (y.any fun x => !isCl x) = v at *
  have HV := hide hv
  clear hv
  go_wp2
  go_ret
  exact ⟨retB (by rw [← HX.out]), HB.out⟩
end Go.Proofs.Ytdhocncfpapncac
