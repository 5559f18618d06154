/-
  Contracts of the reference's draws of numbers, exact: l1Once, l1PickInt, l1Num, and DrawVar.
-/
import Derived.Test.YtciehbedpjfflabDoorNDraw0
namespace Go.Proofs.YtciehbedpjfflabDoor
open Go.RowKit
set_option linter.unusedVariables false

theorem CurX.alloc {w : World} {cb : Nat} {A : Option Addr} {n c : Nat} {zs : List Int} {s : Nat × Int} (h : CurX w cb A n c zs s) (o : Obj) : CurX (w.alloc o) cb A n c zs s := h.below ((Below.refl w.heap.size w).alloc (Nat.le_refl _) o) h.lt

set_option maxRecDepth 100000 in
set_option maxHeartbeats 400000 in
theorem l1OnceX (cb : Nat) (A : Option Addr) (m c : Nat) (zs : List Int) (n : Int) (s : Nat × Int) (w : World) (hcur : CurX w cb A m c zs s) (h0 : 0 < n) (hn : n ≤ 1000000000) :
    Calls Tryd.prog 26 #[.pointer (some ⟨cb, 0, none⟩), .int .i64 n] w fun e w' => e = .returned (.bool ((blV zs n s : Int) == 0)) ∧ CurX w' cb A m c zs (blS zs n s) ∧ w.grownBy w' (some cb) := by
  have HB := hide (l1BelowX cb A m c zs n s w hcur h0 hn)
  clear hcur
  generalize blV zs n s = k at HB ⊢
  generalize blS zs n s = s1 at HB ⊢
  go_enter Tryd.func26, Tryd.ntmps26
  go_wp2_with fail
  refine HB.out.mono ?_
  rintro e w1 ⟨rfl, hc1, hg1⟩
  have HC1 := hide hc1
  have HG1 := hide hg1
  clear hc1 hg1 HB
  go_wp2_with fail
  go_ret
  exact ⟨rfl, HC1.out, HG1.out⟩

set_option maxRecDepth 100000 in
set_option maxHeartbeats 400000 in
theorem l1PickIntX (cb g : Nat) (A : Option Addr) (m d : Nat) (zs : List Int) (s : Nat × Int) (ls : List Int) (n c : Nat) (T : TypeId) (w : World) (hcur : CurX w cb A m d zs s) (hg : w.heap[g]? = some (.cells (ls.map (Value.int .i64)).toArray T (0, 0))) (hne : g ≠ cb) (hl : n = ls.length) (h0 : 0 < n) (h1 : n ≤ 1000) :
    Calls Tryd.prog 29 #[.pointer (some ⟨cb, 0, none⟩), .slice (some ⟨g, 0, none⟩) n c] w fun e w' => e = .returned (.int .i64 (ls.getD (blV zs n s) 0)) ∧ CurX w' cb A m d zs (blS zs n s) ∧ w.grownBy w' (some cb) := by
  have HB := hide (l1BelowX cb A m d zs n s w hcur (by omega) (by omega))
  have hk := blV_lt zs (n := (n : Int)) (by omega) s
  generalize blV zs n s = k at HB hk ⊢
  generalize blS zs n s = s1 at HB ⊢
  have HG := hide hg
  have HL := hide hl
  have hkn : k < n := by omega
  have hlt : k < ls.length := by omega
  obtain ⟨x, hx⟩ : ∃ x, x = ls.getD k 0 := ⟨_, rfl⟩
  rw [← hx]
  have HX := hide hx
  clear hcur hg hl hk hx
  go_enter Tryd.func29, Tryd.ntmps29
  go_wp2_with fail
  refine HB.out.mono ?_
  rintro e w1 ⟨rfl, hc1, hg1⟩
  have hkz : (k : Int) < (n : Int) := by omega
  have hcell : w1.cell? ⟨g, k, none⟩ = some (.int .i64 x) := by
    have hb : w1.heap[g]? = w.heap[g]? := hg1.block g (Array.getElem?_eq_some_iff.1 HG.out).1 (fun e => hne (by injection e))
    rw [cell_of_row _ _ _ _ _ _ (hb.trans HG.out), HX.out]
    simp [List.getD, hlt]
  have HC1 := hide hc1
  have HG1 := hide hg1
  clear hc1 hg1 HB hlt
  go_wp2_with fail
  go_ret
  exact ⟨rfl, HC1.out, HG1.out⟩

/-! l1Num -/
def numL : List Int := [-1, 0, 127, 128, 255, 256, 16383, 16384, 65535, 65536, 562949953421311, 562949953421312, 999999999, 1000000000, -999999999, 9223372036854775807, -9223372036854775808]
def numV (zs : List Int) (s : Nat × Int) : Int :=
  if blV zs 8 s = 0 then numL.getD (blV zs 17 (blS zs 8 s)) 0
  else if blV zs 8 s = 1 then (blV zs 1000000000 (blS zs 8 s) : Int) * (blV zs 1000000000 (blS zs 1000000000 (blS zs 8 s)) : Int)
  else if blV zs 8 s = 2 then -(blV zs 100000 (blS zs 8 s) : Int)
  else (blV zs 70000 (blS zs 8 s) : Int)
def numS (zs : List Int) (s : Nat × Int) : Nat × Int :=
  if blV zs 8 s = 0 then blS zs 17 (blS zs 8 s)
  else if blV zs 8 s = 1 then blS zs 1000000000 (blS zs 1000000000 (blS zs 8 s))
  else if blV zs 8 s = 2 then blS zs 100000 (blS zs 8 s)
  else blS zs 70000 (blS zs 8 s)
theorem mul_bd {a b : Nat} (ha : (a : Int) < 1000000000) (hb : (b : Int) < 1000000000) : 0 ≤ (a : Int) * b ∧ (a : Int) * b ≤ 1000000000000000000 := by
  have h : a * b ≤ 1000000000 * 1000000000 := Nat.mul_le_mul (by omega) (by omega)
  have e : (a : Int) * b = ((a * b : Nat) : Int) := by simp
  rw [e]; omega
theorem numL_bd : ∀ k : Nat, -9223372036854775808 ≤ numL.getD k 0 ∧ numL.getD k 0 ≤ 9223372036854775807 := by
  intro k
  by_cases h : k < 17
  · have : ∀ i : Fin 17, -9223372036854775808 ≤ numL.getD i.val 0 ∧ numL.getD i.val 0 ≤ 9223372036854775807 := by decide
    exact this ⟨k, h⟩
  · have e : numL.getD k 0 = 0 := by
      have hl : numL.length = 17 := rfl
      rw [List.getD, List.getElem?_eq_none (by omega)]; rfl
    rw [e]; omega
theorem numV_bd (zs : List Int) (s : Nat × Int) : -9223372036854775808 ≤ numV zs s ∧ numV zs s ≤ 9223372036854775807 := by
  unfold numV
  split
  · exact numL_bd _
  · split
    · have := mul_bd (blV_lt zs (n := 1000000000) (by omega) (blS zs 8 s)) (blV_lt zs (n := 1000000000) (by omega) (blS zs 1000000000 (blS zs 8 s)))
      omega
    · split
      · have := blV_lt zs (n := 100000) (by omega) (blS zs 8 s); omega
      · have := blV_lt zs (n := 70000) (by omega) (blS zs 8 s); omega
set_option maxRecDepth 100000 in
set_option maxHeartbeats 1600000 in
theorem l1NumX (cb : Nat) (A : Option Addr) (n c : Nat) (zs : List Int) (s : Nat × Int) (w : World) (hcur : CurX w cb A n c zs s) :
    Calls Tryd.prog 17 #[.pointer (some ⟨cb, 0, none⟩)] w fun e w' => e = .returned (.int .i64 (numV zs s)) ∧ CurX w' cb A n c zs (numS zs s) ∧ w.grownBy w' (some cb) := by
  have HB := hide (l1BelowX cb A n c zs 8 s w hcur (by omega) (by omega))
  have hk := blV_lt zs (n := 8) (by omega) s
  unfold numV numS
  generalize blV zs 8 s = k at HB hk ⊢
  generalize blS zs 8 s = s1 at HB ⊢
  clear hcur
  by_cases k0 : k = 0
  · rw [if_pos k0, if_pos k0]
    subst k0
    obtain ⟨x, hx⟩ : ∃ x, x = numL.getD (blV zs 17 s1) 0 := ⟨_, rfl⟩
    rw [← hx]
    have HX := hide hx
    clear hx hk
    go_enter Tryd.func17, Tryd.ntmps17
    go_wp2_with fail
    refine HB.out.mono ?_
    rintro e w1 ⟨rfl, hc1, hg1⟩
    have HC1 := hide hc1
    have HG1 := hide hg1
    clear hc1 hg1 HB
    go_wp2_with fail
    refine (l1PickIntX cb w1.heap.size A n c zs s1 numL 17 _ _ _ (HC1.out.alloc _) (heap_alloc_new _ _) (by have := HC1.out.lt; omega) rfl (by simp) (by simp)).mono ?_
    rintro e w2 ⟨he, hc2, hg2⟩
    rw [show ((17 : Nat) : Int) = 17 from rfl] at he hc2
    rw [← HX.out] at he
    subst he
    have HC2 := hide hc2
    have HG2 := hide hg2
    clear hc2 hg2
    go_wp2_with fail
    go_ret
    exact ⟨rfl, HC2.out, grown_trans HG1.out (grown_trans (World.grownBy_alloc _ _ _) HG2.out)⟩
  rw [if_neg k0, if_neg k0]
  by_cases k1 : k = 1
  · rw [if_pos k1, if_pos k1]
    subst k1
    have HB2 : Hid (∀ W, CurX W cb A n c zs s1 → _) := hide (fun W h => l1BelowX cb A n c zs 1000000000 s1 W h (by omega) (by omega))
    have ha := blV_lt zs (n := 1000000000) (by omega) s1
    generalize blV zs 1000000000 s1 = a at HB2 ha ⊢
    generalize blS zs 1000000000 s1 = s2 at HB2 ⊢
    have HB3 : Hid (∀ W, CurX W cb A n c zs s2 → _) := hide (fun W h => l1BelowX cb A n c zs 1000000000 s2 W h (by omega) (by omega))
    have hb := blV_lt zs (n := 1000000000) (by omega) s2
    generalize blV zs 1000000000 s2 = b at HB3 hb ⊢
    generalize blS zs 1000000000 s2 = s3 at HB3 ⊢
    obtain ⟨m0, m1⟩ := mul_bd ha hb
    clear ha hb k0 hk
    go_enter Tryd.func17, Tryd.ntmps17
    go_wp2_with fail
    refine HB.out.mono ?_
    rintro e w1 ⟨rfl, hc1, hg1⟩
    have HC1 := hide hc1
    have HG1 := hide hg1
    clear hc1 hg1 HB
    go_wp2_with fail
    refine (HB2.out _ HC1.out).mono ?_
    rintro e w2 ⟨rfl, hc2, hg2⟩
    have HC2 := hide hc2
    have HG2 := hide hg2
    clear hc2 hg2
    go_wp2_with fail
    refine (HB3.out _ HC2.out).mono ?_
    rintro e w3 ⟨rfl, hc3, hg3⟩
    have HC3 := hide hc3
    have HG3 := hide hg3
    clear hc3 hg3
    go_wp2_with fail
    go_ret
    exact ⟨rfl, HC3.out, grown_trans (grown_trans HG1.out HG2.out) HG3.out⟩
  rw [if_neg k1, if_neg k1]
  by_cases k2 : k = 2
  · rw [if_pos k2, if_pos k2]
    subst k2
    have HB2 : Hid (∀ W, CurX W cb A n c zs s1 → _) := hide (fun W h => l1BelowX cb A n c zs 100000 s1 W h (by omega) (by omega))
    have ha := blV_lt zs (n := 100000) (by omega) s1
    generalize blV zs 100000 s1 = a at HB2 ha ⊢
    generalize blS zs 100000 s1 = s2 at HB2 ⊢
    clear k0 hk k1
    go_enter Tryd.func17, Tryd.ntmps17
    go_wp2_with fail
    refine HB.out.mono ?_
    rintro e w1 ⟨rfl, hc1, hg1⟩
    have HC1 := hide hc1
    have HG1 := hide hg1
    clear hc1 hg1 HB
    go_wp2_with fail
    refine (HB2.out _ HC1.out).mono ?_
    rintro e w2 ⟨rfl, hc2, hg2⟩
    have HC2 := hide hc2
    have HG2 := hide hg2
    clear hc2 hg2
    go_wp2_with fail
    go_ret
    exact ⟨rfl, HC2.out, grown_trans HG1.out HG2.out⟩
  rw [if_neg k2, if_neg k2]
  have HB2 : Hid (∀ W, CurX W cb A n c zs s1 → _) := hide (fun W h => l1BelowX cb A n c zs 70000 s1 W h (by omega) (by omega))
  generalize blV zs 70000 s1 = a at HB2 ⊢
  generalize blS zs 70000 s1 = s2 at HB2 ⊢
  have t0 : ((k : Int) == 0) = false := by rw [beq_eq_false_iff_ne]; omega
  have t1 : ((k : Int) == 1) = false := by rw [beq_eq_false_iff_ne]; omega
  have t2 : ((k : Int) == 2) = false := by rw [beq_eq_false_iff_ne]; omega
  clear k0 k1 k2
  go_enter Tryd.func17, Tryd.ntmps17
  go_wp2_with fail
  refine HB.out.mono ?_
  rintro e w1 ⟨rfl, hc1, hg1⟩
  have HC1 := hide hc1
  have HG1 := hide hg1
  clear hc1 hg1 HB
  go_wp2_with fail
  refine (HB2.out _ HC1.out).mono ?_
  rintro e w2 ⟨rfl, hc2, hg2⟩
  have HC2 := hide hc2
  have HG2 := hide hg2
  clear hc2 hg2
  go_wp2_with fail
  go_ret
  exact ⟨rfl, HC2.out, grown_trans HG1.out HG2.out⟩

set_option maxRecDepth 100000 in
set_option maxHeartbeats 800000 in
theorem drawVar_any (A : Option Addr) (n c : Nat) (zs : List Int) (w : World) (hn : n = zs.length) (hz : n ≤ 1048580) (hr : RdB .u8 w A zs w.heap.size) :
    Calls Tryd.prog 5 #[.slice A n c] w fun e w' => (∃ v : Int, e = .returned (.int .i64 v) ∧ -9223372036854775808 ≤ v ∧ v ≤ 9223372036854775807) ∧ Below w.heap.size w w' := by
  have HC := hide (l1NewX A n c zs w hn hz hr)
  clear hn hz hr
  go_enter Tryd.func5, Tryd.ntmps5
  go_wp2_with fail
  refine HC.out.mono ?_
  rintro e w1 ⟨rfl, hc, hb⟩
  have HCU := hide hc
  have HB := hide hb
  clear hc hb
  go_wp2_with fail
  refine (l1NumX _ _ _ _ _ _ _ HCU.out).mono ?_
  rintro e w2 ⟨rfl, hc, hg⟩
  obtain ⟨b0, b1⟩ := numV_bd zs (0, nwH zs (min n 4000))
  generalize numV zs (0, nwH zs (min n 4000)) = v at b0 b1 ⊢
  have HB2 := hide (below_grown HB.out hg (Nat.le_refl _) HB.out.size)
  clear hc hg
  go_wp2
  go_ret
  exact ⟨⟨v, rfl, b0, b1⟩, HB2.out⟩
end Go.Proofs.YtciehbedpjfflabDoor
