/-
  BytesOk: all numbers lie in 0..255 and there are at most 1000. The contracts and the walk of FnExactBytesOk.
-/
import Derived.Test.YtdhocncfpapncaaSame
import Derived.Test.YtdhocncfpapncaaMark
import Derived.Test.YtdhocncfpapncaaIn
namespace Go.Proofs.Ytdhocncfpapncaa
open Go.RowKit
set_option linter.unusedVariables false

def isB (x : Int) : Bool := decide (0 ≤ x ∧ x ≤ 255)
def bokR (zs : List Int) : Bool := zs.all isB && decide (zs.length ≤ 1000)
theorem bok_bad {zs : List Int} {k : Nat} (hk : k < zs.length) (h : ¬ (0 ≤ zs.getD k 0 ∧ zs.getD k 0 ≤ 255)) : zs.all isB = false := by
  rw [List.all_eq_false]
  exact ⟨zs[k], List.getElem_mem _, by simp [isB]; have : zs.getD k 0 = zs[k] := by simp [List.getD, hk]
                                       rw [this] at h; omega⟩
theorem bok_good {zs : List Int} (h : ∀ j, j < zs.length → 0 ≤ zs.getD j 0 ∧ zs.getD j 0 ≤ 255) : zs.all isB = true := by
  rw [List.all_eq_true]
  intro x hx
  obtain ⟨j, hj, rfl⟩ := List.getElem_of_mem hx
  have := h j hj
  have e : zs.getD j 0 = zs[j] := by simp [List.getD, hj]
  rw [e] at this
  simpa [isB] using this

set_option maxRecDepth 100000 in
set_option maxHeartbeats 800000 in
theorem specBok_any (A : Option Addr) (n c : Nat) (zs : List Int) (U : Nat) (w : World) (hn : n = zs.length) (hz : n ≤ 2097152) (ha : RdB .i64 w A zs U) :
    Calls Try.prog 21 #[.slice A n c] w fun e w' => e = .returned (.bool (bokR zs)) ∧ Below w.heap.size w w' := by
  have HN := hide hn
  have HA := hide ha
  have hz1 : (n : Int) ≤ 2097152 := by omega
  clear hn ha hz
  go_enter Try.func21, Try.ntmps21
  go_wp2
  go_loopg [3] (n + 1) (fun g i wr => wr = w ∧ ∃ k : Nat, k ≤ n ∧ g = n + 1 - k ∧ i = .int .i64 k ∧ ∀ j, j < k → 0 ≤ zs.getD j 0 ∧ zs.getD j 0 ≤ 255)
  case atStart => exact ⟨rfl, 0, Nat.zero_le _, rfl, rfl, fun j hj => absurd hj (by omega)⟩
  case round =>
    obtain ⟨rfl, k, hk, hg, rfl, hall⟩ := hrel
    have HG := hide hg
    have HALL := hide hall
    clear hg hall
    by_cases hlt : k < n
    · obtain ⟨b, off, rfl, hb, hc⟩ := HA.out k (by have := HN.out; omega)
      have hi : (k : Int) < (n : Int) := by omega
      obtain ⟨x, hx⟩ : ∃ x, x = zs.getD k 0 := ⟨_, rfl⟩
      rw [← hx] at hc
      have HX := hide hx
      clear hx
      by_cases hin : 0 ≤ x ∧ x ≤ 255
      · have HIN := hide hin
        clear hin
        go_wp2_with fail
        refine (l1In_yes _ _ _ _ HIN.out.1 HIN.out.2).mono ?_
        rintro e w1 ⟨rfl, rfl⟩
        go_wp2
        go_roundg (n + 1 - (k + 1))
        case measure => have := HG.out; omega
        case rel => exact ⟨rfl, k + 1, by omega, rfl, by go_num, fun j hj => by
          by_cases e : j = k
          · subst e; rw [← HX.out]; exact HIN.out
          · exact HALL.out j (by omega)⟩
      · have HIN := hide hin
        clear hin
        have HF : Hid (bokR zs = false) := hide (by unfold bokR; rw [bok_bad (k := k) (by have := HN.out; omega) (by rw [← HX.out]; exact HIN.out)]; rfl)
        go_wp2_with fail
        refine (l1In_no _ _ _ _ HIN.out).mono ?_
        rintro e w1 ⟨rfl, rfl⟩
        go_wp2
        go_ret
        exact ⟨retB HF.out.symm, Below.refl _ _⟩
    · have hi : ¬ (k : Int) < (n : Int) := by omega
      have HT : Hid (bokR zs = decide ((n : Int) ≤ 1000)) := hide (by
        have := HN.out
        unfold bokR
        rw [bok_good (fun j hj => HALL.out j (by omega)), ← this, Bool.true_and, decide_eq_decide]
        omega)
      go_wp2
      go_ret
      exact ⟨retB HT.out.symm, Below.refl _ _⟩

theorem isByte_any (x : Int) (w : World) : Calls Try.prog 35 #[.int .i64 x] w fun e w' => e = .returned (.bool (isB x)) ∧ w = w' := by
  by_cases h : 0 ≤ x ∧ x ≤ 255
  · have HT : Hid (isB x = true) := hide (by simpa [isB] using h)
    have H := hide h
    clear h
    go_enter Try.func35, Try.ntmps35
    go_wp2_with fail
    refine (within_yes _ _ _ _ H.out.1 H.out.2).mono ?_
    rintro e w1 ⟨rfl, rfl⟩
    go_wp2
    go_ret
    exact ⟨retB HT.out.symm, rfl⟩
  · have HT : Hid (isB x = false) := hide (by simpa [isB] using h)
    have H := hide h
    clear h
    go_enter Try.func35, Try.ntmps35
    go_wp2_with fail
    refine (within_no _ _ _ _ H.out).mono ?_
    rintro e w1 ⟨rfl, rfl⟩
    go_wp2
    go_ret
    exact ⟨retB HT.out.symm, rfl⟩
theorem notByte_any (x : Int) (w : World) : Calls Try.prog 34 #[.int .i64 x] w fun e w' => e = .returned (.bool (!isB x)) ∧ w = w' := by
  go_enter Try.func34, Try.ntmps34
  go_wp2_with fail
  refine (isByte_any _ _).mono ?_
  rintro e w1 ⟨rfl, rfl⟩
  go_wp2
  go_ret
  exact ⟨rfl, rfl⟩

set_option maxRecDepth 100000 in
set_option maxHeartbeats 800000 in
theorem indexFunc_any (A : Option Addr) (n c : Nat) (zs : List Int) (U : Nat) (w : World) (hn : n = zs.length) (hz : n ≤ 2097152) (ha : RdB .i64 w A zs U) :
    Calls Try.prog 37 #[.slice A n c, .func (.func 34) #[] #[]] w fun e w' => (∃ x : Int, e = .returned (.int .i64 x) ∧ (zs.all isB = decide (x < 0)) ∧ -1 ≤ x ∧ x ≤ 2097152) ∧ Below w.heap.size w w' := by
  have HN := hide hn
  have HA := hide ha
  have hz1 : (n : Int) ≤ 2097152 := by omega
  clear hn ha hz
  go_enter Try.func37, Try.ntmps37
  go_wp2
  go_loopg [5, 8] (n + 1) (fun g _x i wr => wr = w ∧ ∃ k : Nat, k ≤ n ∧ g = n + 1 - k ∧ i = .int .i64 k ∧ ∀ j, j < k → 0 ≤ zs.getD j 0 ∧ zs.getD j 0 ≤ 255)
  case atStart => exact ⟨rfl, 0, Nat.zero_le _, rfl, rfl, fun j hj => absurd hj (by omega)⟩
  case round =>
    obtain ⟨rfl, k, hk, hg, rfl, hall⟩ := hrel
    have HG := hide hg
    have HALL := hide hall
    clear hg hall
    by_cases hlt : k < n
    · obtain ⟨b, off, rfl, hb, hc⟩ := HA.out k (by have := HN.out; omega)
      have hi : (k : Int) < (n : Int) := by omega
      obtain ⟨x, hx⟩ : ∃ x, x = zs.getD k 0 := ⟨_, rfl⟩
      rw [← hx] at hc
      have HX := hide hx
      clear hx
      by_cases hin : 0 ≤ x ∧ x ≤ 255
      · have HIN := hide hin
        have HIB : Hid (isB x = true) := hide (by simpa [isB] using hin)
        clear hin
        go_wp2_with fail
        refine (notByte_any _ _).mono ?_
        rintro e w1 ⟨rfl, rfl⟩
        rw [HIB.out]
        go_wp2
        go_roundg (n + 1 - (k + 1))
        case measure => have := HG.out; omega
        case rel => exact ⟨rfl, k + 1, by omega, rfl, by go_num, fun j hj => by
          by_cases e : j = k
          · subst e; rw [← HX.out]; exact HIN.out
          · exact HALL.out j (by omega)⟩
      · have HIN := hide hin
        have HIB : Hid (isB x = false) := hide (by simpa [isB] using hin)
        clear hin
        have HF : Hid (zs.all isB = false) := hide (bok_bad (k := k) (by have := HN.out; omega) (by rw [← HX.out]; exact HIN.out))
        go_wp2_with fail
        refine (notByte_any _ _).mono ?_
        rintro e w1 ⟨rfl, rfl⟩
        rw [HIB.out]
        go_wp2
        go_ret
        exact ⟨⟨(k : Int), rfl, by rw [HF.out]; symm; simp, by omega, by omega⟩, Below.refl _ _⟩
    · have hi : ¬ (k : Int) < (n : Int) := by omega
      have HT : Hid (zs.all isB = true) := hide (bok_good (fun j hj => HALL.out j (by have := HN.out; omega)))
      go_wp2
      go_ret
      exact ⟨⟨-1, rfl, by rw [HT.out]; rfl, by omega, by omega⟩, Below.refl _ _⟩

theorem containsFunc_any (A : Option Addr) (n c : Nat) (zs : List Int) (U : Nat) (w : World) (hn : n = zs.length) (hz : n ≤ 2097152) (ha : RdB .i64 w A zs U) :
    Calls Try.prog 33 #[.slice A n c, .func (.func 34) #[] #[]] w fun e w' => e = .returned (.bool (!zs.all isB)) ∧ Below w.heap.size w w' := by
  have H := hide (indexFunc_any A n c zs U w hn hz ha)
  clear hn hz ha
  go_enter Try.func33, Try.ntmps33
  go_wp2_with fail
  refine H.out.mono ?_
  rintro e w1 ⟨⟨x, rfl, hx, h1, h2⟩, hb⟩
  have HB := hide hb
  have HX : Hid ((!zs.all isB) = decide (0 ≤ x)) := hide (by rw [hx]; by_cases h : x < 0 <;> simp [h] <;> omega)
  clear hb hx
  go_wp2
  go_ret
  exact ⟨retB HX.out.symm, HB.out⟩

theorem implBok_any (A : Option Addr) (n c : Nat) (zs : List Int) (U : Nat) (w : World) (hn : n = zs.length) (hz : n ≤ 2097152) (ha : RdB .i64 w A zs U) :
    Calls Try.prog 26 #[.slice A n c] w fun e w' => e = .returned (.bool (bokR zs)) ∧ Below w.heap.size w w' := by
  have H := hide (containsFunc_any A n c zs U w hn hz ha)
  have HR : Hid (bokR zs = (zs.all isB && decide ((n : Int) ≤ 1000))) := hide (by
    unfold bokR; rw [← hn]; congr 1; rw [decide_eq_decide]; omega)
  have hz1 : (n : Int) ≤ 2097152 := by omega
  clear hn hz ha
  by_cases h1000 : (n : Int) ≤ 1000
  · have HR2 : Hid (bokR zs = zs.all isB) := hide (by rw [HR.out]; simp [h1000])
    clear HR
    go_enter Try.func26, Try.ntmps26
    go_wp2_with fail
    refine H.out.mono ?_
    rintro e w1 ⟨rfl, hb⟩
    have HB := hide hb
    clear hb H
    have HNN : Hid ((!(!zs.all isB)) = bokR zs) := hide (by rw [HR2.out]; simp)
    go_wp2
    go_ret
    exact ⟨by first | exact retB HNN.out | exact retB HR2.out.symm, HB.out⟩
  · have HR2 : Hid (bokR zs = false) := hide (by rw [HR.out]; simp; omega)
    have hd : decide ((n : Int) ≤ 1000) = false := by simpa using h1000
    clear HR
    go_enter Try.func26, Try.ntmps26
    go_wp2
    go_ret
    exact ⟨retB HR2.out.symm, Below.refl _ _⟩

end Go.Proofs.Ytdhocncfpapncaa
