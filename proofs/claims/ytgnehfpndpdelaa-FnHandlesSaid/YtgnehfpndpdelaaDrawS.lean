/-
  Contracts of the draws of sizes, slots, handles and spans, and of big and at: which numbers may come.
-/
import Derived.Test.YtgnehfpndpdelaaDraw
namespace Go.Proofs.Ytgnehfpndpdelaa
open Go.RowKit
set_option linter.unusedVariables false

theorem Cur.alloc {w : World} {cb : Nat} (h : Cur w cb) (o : Obj) : Cur (w.alloc o) cb := h.below ((Below.refl w.heap.size w).alloc (Nat.le_refl _) o) h.lt

set_option maxRecDepth 100000 in
set_option maxHeartbeats 800000 in
theorem l4Size_any (cb : Nat) (w : World) (hcur : Cur w cb) :
    Calls Try.prog 56 #[.pointer (some ⟨cb, 0, none⟩)] w fun e w' => (∃ x : Int, e = .returned (.int .i64 x) ∧ -1 ≤ x ∧ x ≤ 41) ∧ Cur w' cb ∧ w.grownBy w' (some cb) := by
  have HC := hide hcur
  clear hcur
  go_enter Try.func56, Try.ntmps56
  go_wp2_with fail
  refine (l1Below_any _ _ _ HC.out (by omega)).mono ?_
  rintro e w1 ⟨⟨k, rfl, hk⟩, hc1, hg1⟩
  have HC1 := hide hc1
  have HG1 := hide hg1
  clear hc1 hg1
  have hk1 : (k : Int) < 40 := by omega
  clear hk
  go_wp2_with fail
  refine (l1Below_any _ _ _ HC1.out (by omega)).mono ?_
  rintro e w2 ⟨⟨j, rfl, hj⟩, hc2, hg2⟩
  have HC2 := hide hc2
  have HG2 := hide hg2
  clear hc2 hg2
  have hj1 : (j : Int) < 16 := by omega
  clear hj
  go_wp2_with fail
  refine (l1PickInt_any cb w2.heap.size [1, 8, 9, 16, 17, 40, 41, 0, -1, 1 + (k : Int), 1 + (j : Int)] _ _ _ _ (HC2.out.alloc _) (heap_alloc_new _ _) (by have := HC2.out.lt; omega) rfl (by simp) (by simp)).mono ?_
  rintro e w3 ⟨⟨x, rfl, hx⟩, hc3, hg3⟩
  have hb : -1 ≤ x ∧ x ≤ 41 := by
    simp at hx
    omega
  have HC3 := hide hc3
  have HG3 := hide hg3
  clear hc3 hg3 hx
  go_wp2_with fail
  go_ret
  exact ⟨⟨x, rfl, hb.1, hb.2⟩, HC3.out, grown_trans (grown_trans HG1.out HG2.out) (grown_trans (World.grownBy_alloc _ _ _) HG3.out)⟩

set_option maxRecDepth 100000 in
set_option maxHeartbeats 800000 in
theorem l5Slot_any (cb : Nat) (w : World) (hcur : Cur w cb) :
    Calls Try.prog 61 #[.pointer (some ⟨cb, 0, none⟩)] w fun e w' => (∃ x : Int, e = .returned (.int .i64 x) ∧ -1 ≤ x ∧ x ≤ 24) ∧ Cur w' cb ∧ w.grownBy w' (some cb) := by
  have HC := hide hcur
  clear hcur
  go_enter Try.func61, Try.ntmps61
  go_wp2_with fail
  refine (l1Once_any _ _ _ HC.out (by omega)).mono ?_
  rintro e w1 ⟨⟨b, rfl⟩, hc1, hg1⟩
  have HC1 := hide hc1
  have HG1 := hide hg1
  clear hc1 hg1
  cases b
  · go_wp2_with fail
    refine (l1Below_any _ _ _ HC1.out (by omega)).mono ?_
    rintro e w2 ⟨⟨j, rfl, hj⟩, hc2, hg2⟩
    have HC2 := hide hc2
    have HG2 := hide hg2
    clear hc2 hg2
    go_wp2_with fail
    go_ret
    exact ⟨⟨_, rfl, by omega, by omega⟩, HC2.out, grown_trans HG1.out HG2.out⟩
  · go_wp2_with fail
    refine (l1PickInt_any cb w1.heap.size [-1, 24, 23, 0] _ _ _ _ (HC1.out.alloc _) (heap_alloc_new _ _) (by have := HC1.out.lt; omega) rfl (by simp) (by simp)).mono ?_
    rintro e w3 ⟨⟨x, rfl, hx⟩, hc3, hg3⟩
    have hb : -1 ≤ x ∧ x ≤ 24 := by
      simp at hx
      omega
    have HC3 := hide hc3
    have HG3 := hide hg3
    clear hc3 hg3 hx
    go_wp2_with fail
    go_ret
    exact ⟨⟨x, rfl, hb.1, hb.2⟩, HC3.out, grown_trans HG1.out (grown_trans (World.grownBy_alloc _ _ _) HG3.out)⟩

set_option maxRecDepth 100000 in
set_option maxHeartbeats 800000 in
theorem l6Handle_any (cb : Nat) (w : World) (hcur : Cur w cb) :
    Calls Try.prog 62 #[.pointer (some ⟨cb, 0, none⟩)] w fun e w' => (∃ x : Int, e = .returned (.int .i64 x) ∧ -1 ≤ x ∧ x ≤ 224) ∧ Cur w' cb ∧ w.grownBy w' (some cb) := by
  have HC := hide hcur
  clear hcur
  go_enter Try.func62, Try.ntmps62
  go_wp2_with fail
  refine (l1Once_any _ _ _ HC.out (by omega)).mono ?_
  rintro e w1 ⟨⟨b, rfl⟩, hc1, hg1⟩
  have HC1 := hide hc1
  have HG1 := hide hg1
  clear hc1 hg1
  cases b
  · go_wp2_with fail
    refine (l1Below_any _ _ _ HC1.out (by omega)).mono ?_
    rintro e w2 ⟨⟨j, rfl, hj⟩, hc2, hg2⟩
    have HC2 := hide hc2
    have HG2 := hide hg2
    clear hc2 hg2
    have hj1 : (j : Int) < 24 := by omega
    have hj2 : (j : Int) ≤ 23 := by omega
    clear hj
    go_wp2_with fail
    refine (l1Below_any _ _ _ HC2.out (by omega)).mono ?_
    rintro e w3 ⟨⟨k, rfl, hk⟩, hc3, hg3⟩
    have HC3 := hide hc3
    have HG3 := hide hg3
    clear hc3 hg3
    have hk1 : (k : Int) < 6 := by omega
    have hk2 : 1 + (k : Int) ≤ 6 := by omega
    have hk3 : 1 ≤ 1 + (k : Int) := by omega
    clear hk
    go_wp2
    go_ret
    exact ⟨⟨_, rfl, by omega, by omega⟩, HC3.out, grown_trans (grown_trans HG1.out HG2.out) HG3.out⟩
  · go_wp2_with fail
    refine (l1PickInt_any cb w1.heap.size [0, -1, 31, 32, 55, 56, 63, 64, 192, 215, 216, 223, 224] _ _ _ _ (HC1.out.alloc _) (heap_alloc_new _ _) (by have := HC1.out.lt; omega) rfl (by simp) (by simp)).mono ?_
    rintro e w3 ⟨⟨x, rfl, hx⟩, hc3, hg3⟩
    have hb : -1 ≤ x ∧ x ≤ 224 := by
      simp at hx
      omega
    have HC3 := hide hc3
    have HG3 := hide hg3
    clear hc3 hg3 hx
    go_wp2_with fail
    go_ret
    exact ⟨⟨x, rfl, hb.1, hb.2⟩, HC3.out, grown_trans HG1.out (grown_trans (World.grownBy_alloc _ _ _) HG3.out)⟩

/-- What a draw leaves: nothing that was there has changed. -/
theorem drawn_below {w w1 w2 : World} (hb : Below w.heap.size w w1) (hg : w1.grownBy w2 (some w.heap.size)) : Below w.heap.size w w2 := below_grown hb hg (Nat.le_refl _) hb.size

set_option maxRecDepth 100000 in
set_option maxHeartbeats 400000 in
theorem drawClassOf_any (A : Option Addr) (n c : Nat) (zs : List Int) (w : World) (hn : n = zs.length) (hz : n ≤ 1048580) (hr : RdB .u8 w A zs w.heap.size) :
    Calls Try.prog 34 #[.slice A n c] w fun e w' => (∃ x : Int, e = .returned (.int .i64 x) ∧ -1 ≤ x ∧ x ≤ 41) ∧ Below w.heap.size w w' := by
  have HN := hide hn
  have HR := hide hr
  have HZ := hide hz
  clear hn hr hz
  go_enter Try.func34, Try.ntmps34
  go_wp2_with fail
  refine (l1New_any _ _ _ zs _ HN.out HZ.out HR.out).mono ?_
  rintro e w1 ⟨rfl, hc1, hb1⟩
  have HC1 := hide hc1
  clear hc1
  go_wp2_with fail
  refine (l4Size_any _ _ HC1.out).mono ?_
  rintro e w2 ⟨⟨x, rfl, h1, h2⟩, _, hg⟩
  have HG := hide hg
  clear hg
  go_wp2_with fail
  go_ret
  exact ⟨⟨x, rfl, h1, h2⟩, drawn_below hb1 HG.out⟩

set_option maxRecDepth 100000 in
set_option maxHeartbeats 400000 in
theorem drawHandleOk_any (A : Option Addr) (n c : Nat) (zs : List Int) (w : World) (hn : n = zs.length) (hz : n ≤ 1048580) (hr : RdB .u8 w A zs w.heap.size) :
    Calls Try.prog 49 #[.slice A n c] w fun e w' => (∃ x : Int, e = .returned (.int .i64 x) ∧ -1 ≤ x ∧ x ≤ 224) ∧ Below w.heap.size w w' := by
  have HN := hide hn
  have HR := hide hr
  have HZ := hide hz
  clear hn hr hz
  go_enter Try.func49, Try.ntmps49
  go_wp2_with fail
  refine (l1New_any _ _ _ zs _ HN.out HZ.out HR.out).mono ?_
  rintro e w1 ⟨rfl, hc1, hb1⟩
  have HC1 := hide hc1
  clear hc1
  go_wp2_with fail
  refine (l6Handle_any _ _ HC1.out).mono ?_
  rintro e w2 ⟨⟨x, rfl, h1, h2⟩, _, hg⟩
  have HG := hide hg
  clear hg
  go_wp2_with fail
  go_ret
  exact ⟨⟨x, rfl, h1, h2⟩, drawn_below hb1 HG.out⟩

set_option maxRecDepth 100000 in
set_option maxHeartbeats 400000 in
theorem drawHandleOf_any (A : Option Addr) (n c : Nat) (zs : List Int) (w : World) (hn : n = zs.length) (hz : n ≤ 1048580) (hr : RdB .u8 w A zs w.heap.size) :
    Calls Try.prog 45 #[.slice A n c] w fun e w' => (∃ x y : Int, e = .returned (.tuple #[.int .i64 x, .int .i64 y]) ∧ -1 ≤ x ∧ x ≤ 24 ∧ -1 ≤ y ∧ y ≤ 8) ∧ Below w.heap.size w w' := by
  have HN := hide hn
  have HR := hide hr
  have HZ := hide hz
  clear hn hr hz
  go_enter Try.func45, Try.ntmps45
  go_wp2_with fail
  refine (l1New_any _ _ _ zs _ HN.out HZ.out HR.out).mono ?_
  rintro e w1 ⟨rfl, hc1, hb1⟩
  have HC1 := hide hc1
  clear hc1
  go_wp2_with fail
  refine (l5Slot_any _ _ HC1.out).mono ?_
  rintro e w2 ⟨⟨x, rfl, h1, h2⟩, hc2, hg2⟩
  have HC2 := hide hc2
  have HG2 := hide hg2
  clear hc2 hg2
  go_wp2_with fail
  refine (l1Below_any _ _ _ HC2.out (by omega)).mono ?_
  rintro e w3 ⟨⟨k, rfl, hk⟩, hc3, hg3⟩
  have HG3 := hide hg3
  clear hc3 hg3
  have hk1 : (k : Int) < 9 := by omega
  clear hk
  go_wp2_with fail
  go_ret2
  exact ⟨⟨x, _, rfl, h1, h2, by omega, by omega⟩, drawn_below hb1 (grown_trans HG2.out HG3.out)⟩

/-- at: some byte. -/
theorem at_any (A : Option Addr) (n c : Nat) (zs : List Int) (i : Int) (w : World) (hn : n = zs.length) (hz : n ≤ 1048580) (h0 : 0 ≤ i) (hi : i ≤ 1000) (hr : RdB .u8 w A zs w.heap.size) (hwf : ∀ x ∈ zs, (Lit.int .u8 x).wf = true) :
    Calls Try.prog 35 #[.slice A n c, .int .i64 i] w fun e w' => (∃ x : Int, e = .returned (.int .i64 x) ∧ 0 ≤ x ∧ x ≤ 255) ∧ w = w' := by
  have HN := hide hn
  have HR := hide hr
  have HW := hide hwf
  clear hwf
  have hz2 : (n : Int) ≤ 1048580 := by omega
  clear hn hr hz
  obtain ⟨k, rfl⟩ := Int.eq_ofNat_of_zero_le h0
  by_cases hlt : k < n
  · obtain ⟨b, off, rfl, hb, hc⟩ := HR.out k (by have := HN.out; omega)
    have hk0 : k < zs.length := by have := HN.out; omega
    have hw : (Lit.int .u8 (zs.getD k 0)).wf = true := HW.out _ (by rw [List.getD_eq_getElem?_getD, List.getElem?_eq_getElem hk0]; exact List.getElem_mem hk0)
    have hw2 := bounds_u8 hw
    clear hk0
    have hi1 : (k : Int) < (n : Int) := by omega
    obtain ⟨x, hx⟩ : ∃ x, x = zs.getD k 0 := ⟨_, rfl⟩
    rw [← hx] at hc hw2
    clear hx hw
    go_enter Try.func35, Try.ntmps35
    go_wp2
    go_ret
    exact ⟨⟨_, rfl, by omega, by omega⟩, rfl⟩
  · have hi1 : ¬ (k : Int) < (n : Int) := by omega
    go_enter Try.func35, Try.ntmps35
    go_wp2
    go_ret
    exact ⟨⟨_, rfl, by omega, by omega⟩, rfl⟩
end Go.Proofs.Ytgnehfpndpdelaa
