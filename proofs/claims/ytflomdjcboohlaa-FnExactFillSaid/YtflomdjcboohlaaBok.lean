/-
  BytesOk: all numbers lie in 0..255 and there are at most 1000. The contracts and the walk of FnExactBytesOk.
-/
import Derived.Test.YtflomdjcboohlaaSame
import Derived.Test.YtflomdjcboohlaaMark
import Derived.Test.YtflomdjcboohlaaIn
namespace Go.Proofs.Ytflomdjcboohlaa
open Go.RowKit
set_option linter.unusedVariables false

def isB (x : Int) : Bool := decide (0 ≤ x ∧ x ≤ 255)
def bokR (zs : List Int) : Bool := zs.all isB && decide (zs.length ≤ 1000)
theorem bok_bad {zs : List Int} {k : Nat} (hk : k < zs.length) (h : ¬ (0 ≤ zs.getD k 0 ∧ zs.getD k 0 ≤ 255)) : zs.all isB = false := by
  rw [List.all_eq_false]
  exact ⟨zs[k], List.getElem_mem _, by simp [isB]; have : zs.getD k 0 = zs[k] := by simp [List.getD, hk]
                                       rw [this] at h; omega⟩
theorem bok_good {zs : List Int} (h : ∀ j, j < zs.length → 0 ≤ zs.getD j 0 ∧ zs.getD j 0 ≤ 255) : zs.all isB = true := by
  rw [List.all_eq_true]
  intro x hx
  obtain ⟨j, hj, rfl⟩ := List.getElem_of_mem hx
  have := h j hj
  have e : zs.getD j 0 = zs[j] := by simp [List.getD, hj]
  rw [e] at this
  simpa [isB] using this

set_option maxRecDepth 100000 in
set_option maxHeartbeats 800000 in
theorem specBok_any (A : Option Addr) (n c : Nat) (zs : List Int) (U : Nat) (w : World) (hn : n = zs.length) (hz : n ≤ 2097152) (ha : RdB .i64 w A zs U) :
    Calls Try.prog 14 #[.slice A n c] w fun e w' => e = .returned (.bool (bokR zs)) ∧ Below w.heap.size w w' := by
  have HN := hide hn
  have HA := hide ha
  have hz1 : (n : Int) ≤ 2097152 := by omega
  clear hn ha hz
  go_enter Try.func14, Try.ntmps14
  go_wp2
  go_loopg [3] (n + 1) (fun g i wr => wr = w ∧ ∃ k : Nat, k ≤ n ∧ g = n + 1 - k ∧ i = .int .i64 k ∧ ∀ j, j < k → 0 ≤ zs.getD j 0 ∧ zs.getD j 0 ≤ 255)
  case atStart => exact ⟨rfl, 0, Nat.zero_le _, rfl, rfl, fun j hj => absurd hj (by omega)⟩
  case round =>
    obtain ⟨rfl, k, hk, hg, rfl, hall⟩ := hrel
    have HG := hide hg
    have HALL := hide hall
    clear hg hall
    by_cases hlt : k < n
    · obtain ⟨b, off, rfl, hb, hc⟩ := HA.out k (by have := HN.out; omega)
      have hi : (k : Int) < (n : Int) := by omega
      obtain ⟨x, hx⟩ : ∃ x, x = zs.getD k 0 := ⟨_, rfl⟩
      rw [← hx] at hc
      have HX := hide hx
      clear hx
      by_cases hin : 0 ≤ x ∧ x ≤ 255
      · have HIN := hide hin
        clear hin
        go_wp2_with fail
        refine (l1In_yes _ _ _ _ HIN.out.1 HIN.out.2).mono ?_
        rintro e w1 ⟨rfl, rfl⟩
        go_wp2
        go_roundg (n + 1 - (k + 1))
        case measure => have := HG.out; omega
        case rel => exact ⟨rfl, k + 1, by omega, rfl, by go_num, fun j hj => by
          by_cases e : j = k
          · subst e; rw [← HX.out]; exact HIN.out
          · exact HALL.out j (by omega)⟩
      · have HIN := hide hin
        clear hin
        have HF : Hid (bokR zs = false) := hide (by unfold bokR; rw [bok_bad (k := k) (by have := HN.out; omega) (by rw [← HX.out]; exact HIN.out)]; rfl)
        go_wp2_with fail
        refine (l1In_no _ _ _ _ HIN.out).mono ?_
        rintro e w1 ⟨rfl, rfl⟩
        go_wp2
        go_ret
        exact ⟨retB HF.out.symm, Below.refl _ _⟩
    · have hi : ¬ (k : Int) < (n : Int) := by omega
      have HT : Hid (bokR zs = decide ((n : Int) ≤ 1000)) := hide (by
        have := HN.out
        unfold bokR
        rw [bok_good (fun j hj => HALL.out j (by omega)), ← this, Bool.true_and, decide_eq_decide]
        omega)
      go_wp2
      go_ret
      exact ⟨retB HT.out.symm, Below.refl _ _⟩

theorem isByte_any (x : Int) (w : World) : Calls Try.prog 33 #[.int .i64 x] w fun e w' => e = .returned (.bool (isB x)) ∧ w = w' := by
  by_cases h : 0 ≤ x ∧ x ≤ 255
  · have HT : Hid (isB x = true) := hide (by simpa [isB] using h)
    have H := hide h
    clear h
    go_enter Try.func33, Try.ntmps33
    go_wp2_with fail
    refine (within_yes _ _ _ _ H.out.1 H.out.2).mono ?_
    rintro e w1 ⟨rfl, rfl⟩
    go_wp2
    go_ret
    exact ⟨retB HT.out.symm, rfl⟩
  · have HT : Hid (isB x = false) := hide (by simpa [isB] using h)
    have H := hide h
    clear h
    go_enter Try.func33, Try.ntmps33
    go_wp2_with fail
    refine (within_no _ _ _ _ H.out).mono ?_
    rintro e w1 ⟨rfl, rfl⟩
    go_wp2
    go_ret
    exact ⟨retB HT.out.symm, rfl⟩
theorem notByte_any (x : Int) (w : World) : Calls Try.prog 32 #[.int .i64 x] w fun e w' => e = .returned (.bool (!isB x)) ∧ w = w' := by
  go_enter Try.func32, Try.ntmps32
  go_wp2_with fail
  refine (isByte_any _ _).mono ?_
  rintro e w1 ⟨rfl, rfl⟩
  go_wp2
  go_ret
  exact ⟨rfl, rfl⟩

set_option maxRecDepth 100000 in
set_option maxHeartbeats 800000 in
theorem indexFunc_any (A : Option Addr) (n c : Nat) (zs : List Int) (U : Nat) (w : World) (hn : n = zs.length) (hz : n ≤ 2097152) (ha : RdB .i64 w A zs U) :
    Calls Try.prog 50 #[.slice A n c, .func (.func 32) #[] #[]] w fun e w' => (∃ x : Int, e = .returned (.int .i64 x) ∧ (zs.all isB = decide (x < 0)) ∧ -1 ≤ x ∧ x ≤ 2097152) ∧ Below w.heap.size w w' := by
  have HN := hide hn
  have HA := hide ha
  have hz1 : (n : Int) ≤ 2097152 := by omega
  clear hn ha hz
  go_enter Try.func50, Try.ntmps50
  go_wp2
  go_loopg [5, 8] (n + 1) (fun g _x i wr => wr = w ∧ ∃ k : Nat, k ≤ n ∧ g = n + 1 - k ∧ i = .int .i64 k ∧ ∀ j, j < k → 0 ≤ zs.getD j 0 ∧ zs.getD j 0 ≤ 255)
  case atStart => exact ⟨rfl, 0, Nat.zero_le _, rfl, rfl, fun j hj => absurd hj (by omega)⟩
  case round =>
    obtain ⟨rfl, k, hk, hg, rfl, hall⟩ := hrel
    have HG := hide hg
    have HALL := hide hall
    clear hg hall
    by_cases hlt : k < n
    · obtain ⟨b, off, rfl, hb, hc⟩ := HA.out k (by have := HN.out; omega)
      have hi : (k : Int) < (n : Int) := by omega
      obtain ⟨x, hx⟩ : ∃ x, x = zs.getD k 0 := ⟨_, rfl⟩
      rw [← hx] at hc
      have HX := hide hx
      clear hx
      by_cases hin : 0 ≤ x ∧ x ≤ 255
      · have HIN := hide hin
        have HIB : Hid (isB x = true) := hide (by simpa [isB] using hin)
        clear hin
        go_wp2_with fail
        refine (notByte_any _ _).mono ?_
        rintro e w1 ⟨rfl, rfl⟩
        rw [HIB.out]
        go_wp2
        go_roundg (n + 1 - (k + 1))
        case measure => have := HG.out; omega
        case rel => exact ⟨rfl, k + 1, by omega, rfl, by go_num, fun j hj => by
          by_cases e : j = k
          · subst e; rw [← HX.out]; exact HIN.out
          · exact HALL.out j (by omega)⟩
      · have HIN := hide hin
        have HIB : Hid (isB x = false) := hide (by simpa [isB] using hin)
        clear hin
        have HF : Hid (zs.all isB = false) := hide (bok_bad (k := k) (by have := HN.out; omega) (by rw [← HX.out]; exact HIN.out))
        go_wp2_with fail
        refine (notByte_any _ _).mono ?_
        rintro e w1 ⟨rfl, rfl⟩
        rw [HIB.out]
        go_wp2
        go_ret
        exact ⟨⟨(k : Int), rfl, by rw [HF.out]; symm; simp, by omega, by omega⟩, Below.refl _ _⟩
    · have hi : ¬ (k : Int) < (n : Int) := by omega
      have HT : Hid (zs.all isB = true) := hide (bok_good (fun j hj => HALL.out j (by have := HN.out; omega)))
      go_wp2
      go_ret
      exact ⟨⟨-1, rfl, by rw [HT.out]; rfl, by omega, by omega⟩, Below.refl _ _⟩

theorem containsFunc_any (A : Option Addr) (n c : Nat) (zs : List Int) (U : Nat) (w : World) (hn : n = zs.length) (hz : n ≤ 2097152) (ha : RdB .i64 w A zs U) :
    Calls Try.prog 31 #[.slice A n c, .func (.func 32) #[] #[]] w fun e w' => e = .returned (.bool (!zs.all isB)) ∧ Below w.heap.size w w' := by
  have H := hide (indexFunc_any A n c zs U w hn hz ha)
  clear hn hz ha
  go_enter Try.func31, Try.ntmps31
  go_wp2_with fail
  refine H.out.mono ?_
  rintro e w1 ⟨⟨x, rfl, hx, h1, h2⟩, hb⟩
  have HB := hide hb
  have HX : Hid ((!zs.all isB) = decide (0 ≤ x)) := hide (by rw [hx]; by_cases h : x < 0 <;> simp [h] <;> omega)
  clear hb hx
  go_wp2
  go_ret
  exact ⟨retB HX.out.symm, HB.out⟩

theorem implBok_any (A : Option Addr) (n c : Nat) (zs : List Int) (U : Nat) (w : World) (hn : n = zs.length) (hz : n ≤ 2097152) (ha : RdB .i64 w A zs U) :
    Calls Try.prog 15 #[.slice A n c] w fun e w' => e = .returned (.bool (bokR zs)) ∧ Below w.heap.size w w' := by
  have H := hide (containsFunc_any A n c zs U w hn hz ha)
  have HR : Hid (bokR zs = (zs.all isB && decide ((n : Int) ≤ 1000))) := hide (by
    unfold bokR; rw [← hn]; congr 1; rw [decide_eq_decide]; omega)
  have hz1 : (n : Int) ≤ 2097152 := by omega
  clear hn hz ha
  by_cases h1000 : (n : Int) ≤ 1000
  · have HR2 : Hid (bokR zs = zs.all isB) := hide (by rw [HR.out]; simp [h1000])
    clear HR
    go_enter Try.func15, Try.ntmps15
    go_wp2_with fail
    refine H.out.mono ?_
    rintro e w1 ⟨rfl, hb⟩
    have HB := hide hb
    clear hb H
    have HNN : Hid ((!(!zs.all isB)) = bokR zs) := hide (by rw [HR2.out]; simp)
    go_wp2
    go_ret
    exact ⟨by first | exact retB HNN.out | exact retB HR2.out.symm, HB.out⟩
  · have HR2 : Hid (bokR zs = false) := hide (by rw [HR.out]; simp; omega)
    have hd : decide ((n : Int) ≤ 1000) = false := by simpa using h1000
    clear HR
    go_enter Try.func15, Try.ntmps15
    go_wp2
    go_ret
    exact ⟨retB HR2.out.symm, Below.refl _ _⟩

set_option maxRecDepth 100000 in
set_option maxHeartbeats 1600000 in
theorem fnExactBytesOk_walk (A0 : Option Addr) (n0 c0 : Nat) (z0 : List Int) (w : World) (h0 : Sl .i64 w A0 n0 c0 z0) :
    Calls Try.prog 4 #[.slice A0 n0 c0] w fun e w' => e = .returned (.bool true) ∧ Below w.heap.size w w' := by
  obtain ⟨hn0, hnc0, hc0, hr0, hx0⟩ := h0
  have Hn0 := hide hn0
  clear hn0
  have Hr0 := hide hr0
  clear hr0
  have Hx0 := hide hx0
  clear hx0
  have HB0 := hide (Below.refl w.heap.size w)
  go_enter Try.func4, Try.ntmps4
  by_cases big0 : (1048576 : Int) < (n0 : Int)
  · go_wp2
    go_ret
    exact ⟨rfl, Below.refl _ _⟩
  go_wp2_with fail
  refine (toIntS_any A0 n0 c0 z0 w Hn0.out (by omega) ((Hr0.out.below HB0.out (Nat.le_refl _)).more HB0.out.size)).mono ?_
  rintro e w1 ⟨rfl, ho, hb⟩
  have HB1 := hide (HB0.out.trans (hb.mono HB0.out.size))
  have hs1 : w.heap.size ≤ w1.heap.size := hb.size
  clear hb
  have Oa_1 := hide ho
  clear ho
  have La : Hid (∀ g, g ∈ [w.heap.size] → w.heap.size ≤ g ∧ g < w1.heap.size) := hide (fun g hg => ⟨by simp at hg; omega, Oa_1.out.lt g hg⟩)
  go_wp2_with fail
  refine (specBok_any (some ⟨w.heap.size, 0, none⟩) n0 n0 z0 w1.heap.size w1 Hn0.out (by omega) (Oa_1.out.rd).2).mono ?_
  rintro e w2 ⟨rfl, hb⟩
  have HB2 := hide (HB1.out.trans (hb.mono HB1.out.size))
  have hs2 : w1.heap.size ≤ w2.heap.size := hb.size
  have Oa_2 := hide (Oa_1.out.below hb)
  clear Oa_1
  clear hb
  clear Oa_2
  go_wp2_with fail
  refine (toIntS_any A0 n0 c0 z0 w2 Hn0.out (by omega) ((Hr0.out.below HB2.out (Nat.le_refl _)).more HB2.out.size)).mono ?_
  rintro e w3 ⟨rfl, ho, hb⟩
  have HB3 := hide (HB2.out.trans (hb.mono HB2.out.size))
  have hs3 : w2.heap.size ≤ w3.heap.size := hb.size
  clear hb
  have Ox_3 := hide ho
  clear ho
  have Lx : Hid (∀ g, g ∈ [w2.heap.size] → w2.heap.size ≤ g ∧ g < w3.heap.size) := hide (fun g hg => ⟨by simp at hg; omega, Ox_3.out.lt g hg⟩)
  go_wp2_with fail
  refine (implBok_any (some ⟨w2.heap.size, 0, none⟩) n0 n0 z0 w3.heap.size w3 Hn0.out (by omega) (Ox_3.out.rd).2).mono ?_
  rintro e w4 ⟨rfl, hb⟩
  have HB4 := hide (HB3.out.trans (hb.mono HB3.out.size))
  have hs4 : w3.heap.size ≤ w4.heap.size := hb.size
  have Ox_4 := hide (Ox_3.out.below hb)
  clear Ox_3
  clear hb
  go_wp2_with fail
  refine (toIntS_any A0 n0 c0 z0 w4 Hn0.out (by omega) ((Hr0.out.below HB4.out (Nat.le_refl _)).more HB4.out.size)).mono ?_
  rintro e w5 ⟨rfl, ho, hb⟩
  have HB5 := hide (HB4.out.trans (hb.mono HB4.out.size))
  have hs5 : w4.heap.size ≤ w5.heap.size := hb.size
  have Ox_5 := hide (Ox_4.out.below hb)
  clear Ox_4
  clear hb
  have Op_5 := hide ho
  clear ho
  have Lp : Hid (∀ g, g ∈ [w4.heap.size] → w4.heap.size ≤ g ∧ g < w5.heap.size) := hide (fun g hg => ⟨by simp at hg; omega, Op_5.out.lt g hg⟩)
  go_wp2_with fail
  refine (eqIntS_same _ _ _ _ _ z0 w5.heap.size w5 Hn0.out (by omega) (Ox_5.out.rd).2 (Op_5.out.rd).2).mono ?_
  rintro e w6 ⟨rfl, hb⟩
  have HB6 := hide (HB5.out.trans (hb.mono HB5.out.size))
  have hs6 : w5.heap.size ≤ w6.heap.size := hb.size
  have Ox_6 := hide (Ox_5.out.below hb)
  have Op_6 := hide (Op_5.out.below hb)
  clear Ox_5
  clear Op_5
  clear hb
  go_wp2
  go_ret
  exact ⟨rfl, HB6.out⟩
end Go.Proofs.Ytflomdjcboohlaa
