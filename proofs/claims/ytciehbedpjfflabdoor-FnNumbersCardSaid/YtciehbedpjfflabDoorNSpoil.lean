/-
  Contracts of the reference's l1Spoil and DrawReadVar, exact: the text is a function of the bytes.
-/
import Derived.Test.YtciehbedpjfflabDoorNText
import Derived.Test.YtciehbedpjfflabDoorVar
import Derived.Test.YtciehbedpjfflabDoorHex
import Derived.Deep.RegionWith
import Derived.BigQuiet
namespace Go.Proofs.YtciehbedpjfflabDoor
open Go.RowKit
set_option linter.unusedVariables false

theorem u8w (x : Int) : IntKind.u8.wrap x = x % 256 := by simp [IntKind.wrap, IntKind.bits, IntKind.signed]
theorem u8_wrap (x : Int) : 0 ≤ IntKind.u8.wrap x ∧ IntKind.u8.wrap x ≤ 255 := by
  have h : IntKind.u8.wrap x = x % 256 := by simp [IntKind.wrap, IntKind.bits, IntKind.signed]
  rw [h]; omega
theorem str1x (w : World) (x : Int) (c : Nat) : (convert 22 9 (.slice (some ⟨w.heap.size, 0, none⟩) 1 c)).run Tryd.prog (w.alloc (.cells #[.int .u8 (IntKind.u8.wrap x)] 5)) = .ok (.string ⟨#[UInt8.ofNat (IntKind.u8.wrap x).toNat]⟩) (w.alloc (.cells #[.int .u8 (IntKind.u8.wrap x)] 5)) :=
  strOf _ _ _ Tryd.underlying22 Tryd.underlying5 Tryd.underlying9 _ _ 1 c [UInt8.ofNat (IntKind.u8.wrap x).toNat] rfl fun j hj => by
    have : j = 0 := by simpa using hj
    subst this
    rw [cell_of_row _ _ _ _ _ _ (heap_alloc_new _ _)]
    obtain ⟨h0, h1⟩ := u8_wrap x
    have : ((IntKind.u8.wrap x).toNat % 256 : Nat) = (IntKind.u8.wrap x).toNat := by omega
    simp [this]
    omega
theorem below_dN (W : World) (n : Nat) : Below W.heap.size W (W.drewN n) := ⟨rfl, rfl, rfl, Nat.le_refl _, fun _ _ => rfl⟩
theorem grown_rest {w W w' : World} {row : Option Nat} (h : w.grownBy W row) (hb : Below W.heap.size W w') : w.grownBy w' row := grown_trans h (grown_below hb row)
/-- The spoilt text. -/
def spX (zs : List Int) (t : ByteArray) (k d : Nat) (s : Nat × Int) : ByteArray :=
  if d = 0 then t.extract 0 k ++ t.extract (k + 1) t.size
  else if d = 1 then t.extract 0 k ++ ⟨#[UInt8.ofNat (IntKind.u8.wrap (byV zs s)).toNat]⟩ ++ t.extract k t.size
  else if d = 2 then t.extract 0 k
  else t.extract 0 k ++ ⟨#[UInt8.ofNat (IntKind.u8.wrap (bits .xor .i64 ((t.data.toList.getD k 0).toNat : Int) (1 + (blV zs 255 s : Int)))).toNat]⟩ ++ t.extract (k + 1) t.size
def spV (zs : List Int) (s : Nat × Int) (t : ByteArray) : ByteArray :=
  if t.size = 0 then ⟨(textV zs 3 s).toArray⟩ else spX zs t (blV zs (t.size : Int) s) (blV zs 4 (blS zs (t.size : Int) s)) (blS zs 4 (blS zs (t.size : Int) s))
theorem one_size (b : UInt8) : (⟨#[b]⟩ : ByteArray).size = 1 := rfl
theorem spX_size (zs : List Int) (t : ByteArray) (k d : Nat) (s : Nat × Int) (hk : k < t.size) : (spX zs t k d s).size ≤ t.size + 1 := by
  unfold spX
  split
  · simp only [ByteArray.size_append, ByteArray.size_extract]; omega
  · split
    · simp only [ByteArray.size_append, ByteArray.size_extract, one_size]; omega
    · split
      · simp only [ByteArray.size_extract]; omega
      · simp only [ByteArray.size_append, ByteArray.size_extract, one_size]; omega
theorem spV_size (zs : List Int) (s : Nat × Int) (t : ByteArray) : (spV zs s t).size ≤ t.size + 3 := by
  unfold spV
  split
  · have h := textV_length zs (most := 3) (by omega) s
    show (textV zs 3 s).toArray.size ≤ _
    simp only [List.size_toArray]
    omega
  · rename_i h0
    have hk := blV_lt zs (n := (t.size : Int)) (by omega) s
    have := spX_size zs t (blV zs (t.size : Int) s) (blV zs 4 (blS zs (t.size : Int) s)) (blS zs 4 (blS zs (t.size : Int) s)) (by omega)
    omega
set_option maxRecDepth 100000 in
set_option maxHeartbeats 3200000 in
theorem l1SpoilX (cb : Nat) (A : Option Addr) (n c : Nat) (zs : List Int) (s : Nat × Int) (t : ByteArray) (w : World) (hcur : CurX w cb A n c zs s) (ht : t.size ≤ 1000) :
    Calls Tryd.prog 27 #[.pointer (some ⟨cb, 0, none⟩), .string t] w fun e w' => e = .returned (.string (spV zs s t)) ∧ w.grownBy w' (some cb) := by
  have HC := hide hcur
  clear hcur
  unfold spV
  by_cases h0 : t.size = 0
  · rw [if_pos h0]
    have hz : ((t.size : Int) == 0) = true := by rw [h0]; rfl
    have HB1 : Hid (∀ W, CurX W cb A n c zs s → _) := hide (fun W h => l1TextX cb A n c zs s 3 W h (by omega))
    rw [show ((3 : Nat) : Int) = 3 from rfl] at HB1
    generalize (⟨(textV zs 3 s).toArray⟩ : ByteArray) = u at HB1 ⊢
    generalize textS zs 3 s = s1 at HB1
    have ht0 : (t.size : Int) = 0 := by omega
    clear h0
    go_enter Tryd.func27, Tryd.ntmps27
    go_wp2_with fail
    refine (HB1.out _ HC.out).mono ?_
    rintro e w1 ⟨rfl, hc1, hg1⟩
    have HG1 := hide hg1
    clear hc1 hg1
    go_wp2_with fail
    go_ret
    exact ⟨rfl, HG1.out⟩
  · rw [if_neg h0]
    have h1 : 0 < t.size := by omega
    have hz : ((t.size : Int) == 0) = false := by rw [beq_eq_false_iff_ne]; omega
    have HB1 : Hid (∀ W, CurX W cb A n c zs s → _) := hide (fun W h => l1BelowX cb A n c zs (t.size : Int) s W h (by omega) (by omega))
    have hk := blV_lt zs (n := (t.size : Int)) (by omega) s
    generalize blV zs (t.size : Int) s = k at HB1 hk ⊢
    generalize blS zs (t.size : Int) s = s1 at HB1 ⊢
    have HB2 : Hid (∀ W, CurX W cb A n c zs s1 → _) := hide (fun W h => l1BelowX cb A n c zs 4 s1 W h (by omega) (by omega))
    have hd := blV_lt zs (n := 4) (by omega) s1
    generalize blV zs 4 s1 = d at HB2 hd ⊢
    generalize blS zs 4 s1 = s2 at HB2 ⊢
    unfold spX
    have hkn : k < t.size := by omega
    have hk1 : IntKind.i64.wrap ((k : Int) + 1) = (k : Int) + 1 := by rw [IntKind.wrap_i64]; omega
    have hk2 : (0 : Int) ≤ (k : Int) + 1 := by omega
    have hk3 : ((k : Int) + 1).toNat = k + 1 := by omega
    have hk4 : (k : Int) + 1 ≤ (t.size : Int) := by omega
    by_cases d0 : d = 0
    · rw [if_pos d0]
      subst d0
      clear hd
      go_enter Tryd.func27, Tryd.ntmps27
      go_wp2_with fail
      refine (HB1.out _ HC.out).mono ?_
      rintro e w1 ⟨rfl, hc1, hg1⟩
      have HC1 := hide hc1
      have HG1 := hide hg1
      clear hc1 hg1
      go_wp2_with fail
      refine (HB2.out _ HC1.out).mono ?_
      rintro e w2 ⟨rfl, hc2, hg2⟩
      have HC2 := hide hc2
      have HG2 := hide hg2
      clear hc2 hg2 HB1 HB2
      go_wp2_with fail
      go_quiet (fail)
      rename_i nq
      go_wp2
      go_ret
      exact ⟨rfl, grown_trans (grown_trans HG1.out HG2.out) (grown_below (below_dN _ nq) _)⟩
    rw [if_neg d0]
    by_cases d1 : d = 1
    · rw [if_pos d1]
      subst d1
      clear hd d0
      have HB3 : Hid (∀ W, CurX W cb A n c zs s2 → _) := hide (fun W h => l1ByteX cb A n c zs s2 W h)
      obtain ⟨hx0, hx1⟩ := byV_bd zs s2
      generalize byV zs s2 = x at HB3 hx0 hx1 ⊢
      generalize byS zs s2 = s3 at HB3
      have hcv := fun W : World => str1x W x 1
      obtain ⟨b, hb⟩ : ∃ b : ByteArray, b = ⟨#[UInt8.ofNat (IntKind.u8.wrap x).toNat]⟩ := ⟨_, rfl⟩
      rw [← hb]
      simp only [← hb] at hcv
      have hw : IntKind.u8.wrap x = x := by rw [u8w]; omega
      have hcv2 := hcv
      simp only [hw] at hcv2
      clear hw
      have hbs : b.size = 1 := by rw [hb]; rfl
      clear hb
      go_enter Tryd.func27, Tryd.ntmps27
      go_wp2_with fail
      refine (HB1.out _ HC.out).mono ?_
      rintro e w1 ⟨rfl, hc1, hg1⟩
      have HC1 := hide hc1
      have HG1 := hide hg1
      clear hc1 hg1
      go_wp2_with fail
      refine (HB2.out _ HC1.out).mono ?_
      rintro e w2 ⟨rfl, hc2, hg2⟩
      have HC2 := hide hc2
      have HG2 := hide hg2
      clear hc2 hg2 HB1 HB2
      go_wp2_with fail
      go_region_with (go_at_call 30; refine (HB3.out _ (by first | exact HC2.out | exact HC2.out.below ((Below.refl _ _).drew) HC2.out.lt)).mono ?_; rintro e w3 ⟨rfl, hc3, hg3⟩)
      all_goals
        have HG3 := hide hg3
        clear hc3 hg3 hcv
        go_wp2_with fail
        go_ret
        exact ⟨rfl, grown_trans (grown_trans HG1.out HG2.out) (grown_rest (by first | exact HG3.out | exact grown_drew HG3.out) (by first | exact Below.refl _ _ | exact (Below.refl _ _).alloc (Nat.le_refl _) _ | exact ((Below.refl _ _).alloc (Nat.le_refl _) _).drew))⟩
    rw [if_neg d1]
    by_cases d2 : d = 2
    · rw [if_pos d2]
      subst d2
      clear hd d0 d1
      go_enter Tryd.func27, Tryd.ntmps27
      go_wp2_with fail
      refine (HB1.out _ HC.out).mono ?_
      rintro e w1 ⟨rfl, hc1, hg1⟩
      have HC1 := hide hc1
      have HG1 := hide hg1
      clear hc1 hg1
      go_wp2_with fail
      refine (HB2.out _ HC1.out).mono ?_
      rintro e w2 ⟨rfl, hc2, hg2⟩
      have HC2 := hide hc2
      have HG2 := hide hg2
      clear hc2 hg2 HB1 HB2
      go_wp2_with fail
      (try go_quiet (fail))
      go_wp2
      go_ret
      exact ⟨rfl, grown_trans HG1.out HG2.out⟩
    rw [if_neg d2]
    have HB3 : Hid (∀ W, CurX W cb A n c zs s2 → _) := hide (fun W h => l1BelowX cb A n c zs 255 s2 W h (by omega) (by omega))
    have hx := blV_lt zs (n := 255) (by omega) s2
    generalize blV zs 255 s2 = x at HB3 hx ⊢
    generalize blS zs 255 s2 = s3 at HB3
    have t0 : ((d : Int) == 0) = false := by rw [beq_eq_false_iff_ne]; omega
    have t1 : ((d : Int) == 1) = false := by rw [beq_eq_false_iff_ne]; omega
    have t2 : ((d : Int) == 2) = false := by rw [beq_eq_false_iff_ne]; omega
    have hix := ix_str Tryd.underlying9 t k k rfl hkn
    have hz8 : IntKind.i64.wrap ((t.data.toList.getD k 0).toNat : Int) = ((t.data.toList.getD k 0).toNat : Int) := by have := (t.data.toList.getD k 0).toNat_lt; rw [IntKind.wrap_i64]; omega
    generalize (t.data.toList.getD k 0).toNat = z at hix hz8 ⊢
    have hx2 : IntKind.i64.wrap (1 + (x : Int)) = 1 + (x : Int) := by rw [IntKind.wrap_i64]; omega
    have hcv := fun W : World => str1x W (bits .xor .i64 (z : Int) (1 + (x : Int))) 1
    obtain ⟨b, hb⟩ : ∃ b : ByteArray, b = ⟨#[UInt8.ofNat (IntKind.u8.wrap (bits .xor .i64 (z : Int) (1 + (x : Int)))).toNat]⟩ := ⟨_, rfl⟩
    rw [← hb]
    simp only [← hb] at hcv
    have hcv2 := hcv
    simp only [u8w] at hcv2
    have hbs : b.size = 1 := by rw [hb]; rfl
    clear hb d0 d1 d2
    go_enter Tryd.func27, Tryd.ntmps27
    go_wp2_with fail
    refine (HB1.out _ HC.out).mono ?_
    rintro e w1 ⟨rfl, hc1, hg1⟩
    have HC1 := hide hc1
    have HG1 := hide hg1
    clear hc1 hg1
    go_wp2_with fail
    refine (HB2.out _ HC1.out).mono ?_
    rintro e w2 ⟨rfl, hc2, hg2⟩
    have HC2 := hide hc2
    have HG2 := hide hg2
    clear hc2 hg2 HB1 HB2
    go_wp2_with fail
    go_region_with (go_at_call 28; refine (HB3.out _ (by first | exact HC2.out | exact HC2.out.below ((Below.refl _ _).drew) HC2.out.lt)).mono ?_; rintro e w3 ⟨rfl, hc3, hg3⟩)
    all_goals
      have HG3 := hide hg3
      clear hc3 hg3 hcv hix
      go_wp2_with fail
      go_ret
      exact ⟨rfl, grown_trans (grown_trans HG1.out HG2.out) (grown_rest (by first | exact HG3.out | exact grown_drew HG3.out) (by first | exact Below.refl _ _ | exact (Below.refl _ _).alloc (Nat.le_refl _) _ | exact ((Below.refl _ _).alloc (Nat.le_refl _) _).drew))⟩
end Go.Proofs.YtciehbedpjfflabDoor
