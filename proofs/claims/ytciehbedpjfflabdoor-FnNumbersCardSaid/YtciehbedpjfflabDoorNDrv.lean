/-
  The reference's DrawReadVar, exact: what it answers is a function of the bytes, and short.
-/
import Derived.Test.YtciehbedpjfflabDoorNSpoil
namespace Go.Proofs.YtciehbedpjfflabDoor
open Go.RowKit
set_option linter.unusedVariables false

theorem varS_size (n : Int) : (varS n).size ≤ 7 := by
  by_cases h : 0 ≤ n ∧ n ≤ 562949953421311
  · unfold varS
    rw [if_pos h]
    show (varB n.toNat).toArray.size ≤ 7
    rw [List.size_toArray]
    exact varB_length _ (by omega)
  · rw [varS_no h]; show 0 ≤ 7; omega
/-- The text before it is spoilt, by the cursor's state. -/
def dvT (zs : List Int) (s : Nat × Int) : ByteArray := varS (numV zs s) ++ ⟨(textV zs 4 (numS zs s)).toArray⟩
def dvS (zs : List Int) (s : Nat × Int) : Nat × Int := textS zs 4 (numS zs s)
def dvR (zs : List Int) (s : Nat × Int) : ByteArray := if blV zs 4 (dvS zs s) = 0 then spV zs (blS zs 4 (dvS zs s)) (dvT zs s) else dvT zs s
def drv (zs : List Int) : ByteArray := dvR zs (0, nwH zs (min zs.length 4000))
theorem dvT_size (zs : List Int) (s : Nat × Int) : (dvT zs s).size ≤ 11 := by
  have h1 := varS_size (numV zs s)
  have h2 := textV_length zs (most := 4) (by omega) (numS zs s)
  have h3 : (⟨(textV zs 4 (numS zs s)).toArray⟩ : ByteArray).size = (textV zs 4 (numS zs s)).length := List.size_toArray
  unfold dvT
  rw [ByteArray.size_append]
  omega
theorem dvR_size (zs : List Int) (s : Nat × Int) : (dvR zs s).size ≤ 14 := by
  have h := dvT_size zs s
  unfold dvR
  split
  · have := spV_size zs (blS zs 4 (dvS zs s)) (dvT zs s); omega
  · omega
set_option maxRecDepth 100000 in
set_option maxHeartbeats 1600000 in
theorem drawReadVarX (A : Option Addr) (n c : Nat) (zs : List Int) (w : World) (hn : n = zs.length) (hz : n ≤ 1048580) (hr : RdB .u8 w A zs w.heap.size) :
    Calls Tryd.prog 15 #[.slice A n c] w fun e w' => e = .returned (.string (drv zs)) ∧ Below w.heap.size w w' := by
  have HC := hide (l1NewX A n c zs w hn hz hr)
  unfold drv
  rw [← hn]
  generalize ((0, nwH zs (min n 4000)) : Nat × Int) = s at HC ⊢
  clear hn hz hr
  have HB1 : Hid (∀ W cb, CurX W cb A n c zs s → _) := hide (fun W cb h => l1NumX cb A n c zs s W h)
  have HB2 : Hid (∀ W cb, CurX W cb A n c zs (numS zs s) → _) := hide (fun W cb h => l1TextX cb A n c zs (numS zs s) 4 W h (by omega))
  rw [show ((4 : Nat) : Int) = 4 from rfl] at HB2
  have hsz : (varS (numV zs s)).size ≤ 7 := varS_size _
  have hsz2 : (⟨(textV zs 4 (numS zs s)).toArray⟩ : ByteArray).size ≤ 4 := by
    have h2 := textV_length zs (most := 4) (by omega) (numS zs s)
    have h3 : (⟨(textV zs 4 (numS zs s)).toArray⟩ : ByteArray).size = (textV zs 4 (numS zs s)).length := List.size_toArray
    omega
  have hts : (dvT zs s).size ≤ 1000 := by have := dvT_size zs s; omega
  unfold dvR
  obtain ⟨t, ht⟩ : ∃ t, t = dvT zs s := ⟨_, rfl⟩
  obtain ⟨s2, hs2⟩ : ∃ s2, s2 = dvS zs s := ⟨_, rfl⟩
  rw [← ht] at hts
  rw [← ht, ← hs2]
  unfold dvT at ht
  unfold dvS at hs2
  rw [← hs2] at HB2
  generalize (⟨(textV zs 4 (numS zs s)).toArray⟩ : ByteArray) = u at HB2 hsz2 ht
  generalize numS zs s = s1 at HB1 HB2
  have HB5 : Hid (∀ W, Calls Tryd.prog 25 #[.int .i64 (numV zs s)] W fun e w' => e = .returned (.string (varS (numV zs s))) ∧ Below W.heap.size W w') := hide (fun W => specVar_any _ W)
  generalize varS (numV zs s) = v at HB5 hsz ht
  generalize numV zs s = x at HB1 HB5
  have HB3 : Hid (∀ W cb, CurX W cb A n c zs s2 → _) := hide (fun W cb h => l1OnceX cb A n c zs 4 s2 W h (by omega) (by omega))
  have HB4 : Hid (∀ W cb, CurX W cb A n c zs (blS zs 4 s2) → _) := hide (fun W cb h => l1SpoilX cb A n c zs (blS zs 4 s2) t W h hts)
  have HT := hide ht
  clear ht hs2 hts
  have fin : ∀ b : Bool, b = ((blV zs 4 s2 : Int) == 0) → (if blV zs 4 s2 = 0 then spV zs (blS zs 4 s2) t else t) = if b = true then spV zs (blS zs 4 s2) t else t := by
    intro b hb
    subst hb
    by_cases h : blV zs 4 s2 = 0
    · rw [if_pos h, if_pos (by rw [h]; rfl)]
    · rw [if_neg h, if_neg (by simp only [beq_iff_eq]; omega)]
  obtain ⟨b, hb⟩ : ∃ b : Bool, b = ((blV zs 4 s2 : Int) == 0) := ⟨_, rfl⟩
  rw [fin b hb]
  rw [← hb] at HB3
  clear fin hb
  generalize blS zs 4 s2 = s3 at HB3 HB4 ⊢
  generalize spV zs s3 t = u2 at HB4 ⊢
  go_enter Tryd.func15, Tryd.ntmps15
  go_wp2_with fail
  refine HC.out.mono ?_
  rintro e w1 ⟨rfl, hc, hb⟩
  have HCU := hide hc
  have HB := hide hb
  clear hc hb HC
  go_wp2_with fail
  refine (HB1.out _ _ HCU.out).mono ?_
  rintro e w2 ⟨rfl, hc, hg⟩
  have HC2 := hide hc
  have HB' := hide (below_grown HB.out hg (Nat.le_refl _) HB.out.size)
  clear hc hg HB1 HB HCU
  go_wp2_with fail
  refine (HB5.out _).mono ?_
  rintro e w3 ⟨rfl, hb⟩
  have HC3 := hide (HC2.out.below hb HC2.out.lt)
  have HBB := hide (HB'.out.trans (hb.mono HB'.out.size))
  clear hb HB5 HC2 HB'
  go_wp2_with fail
  refine (HB2.out _ _ HC3.out).mono ?_
  rintro e w4 ⟨rfl, hc, hg⟩
  have HC4 := hide hc
  have HB6 := hide (below_grown HBB.out hg (Nat.le_refl _) HBB.out.size)
  clear hc hg HB2 HBB HC3
  go_wp2_with fail
  rw [← HT.out]
  refine (HB3.out _ _ HC4.out).mono ?_
  rintro e w5 ⟨rfl, hc, hg⟩
  have HC5 := hide hc
  have HB7 := hide (below_grown HB6.out hg (Nat.le_refl _) HB6.out.size)
  clear hc hg HB3 HB6 HC4 HT
  cases b
  · go_wp2_with fail
    go_ret
    exact ⟨rfl, HB7.out⟩
  · go_wp2_with fail
    refine (HB4.out _ _ HC5.out).mono ?_
    rintro e w6 ⟨rfl, hg⟩
    have HB8 := hide (below_grown HB7.out hg (Nat.le_refl _) HB7.out.size)
    clear hg
    go_wp2_with fail
    go_ret
    exact ⟨rfl, HB8.out⟩
end Go.Proofs.YtciehbedpjfflabDoor
