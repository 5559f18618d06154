/-
  The walk of FnExactSameBytes.
-/
import Derived.Test.YtflomdjcboohlaaSame
import Derived.Test.YtflomdjcboohlaaMark
namespace Go.Proofs.Ytflomdjcboohlaa
open Go.RowKit
set_option linter.unusedVariables false

set_option maxRecDepth 100000 in
set_option maxHeartbeats 1600000 in
theorem fnExactSameBytes_walk (A0 : Option Addr) (n0 c0 : Nat) (z0 : List Int) (A1 : Option Addr) (n1 c1 : Nat) (z1 : List Int) (w : World) (h0 : Sl .i64 w A0 n0 c0 z0) (h1 : Sl .i64 w A1 n1 c1 z1) :
    Calls Try.prog 3 #[.slice A0 n0 c0, .slice A1 n1 c1] w fun e w' => e = .returned (.bool true) ∧ Below w.heap.size w w' := by
  obtain ⟨hn0, hnc0, hc0, hr0, hx0⟩ := h0
  have Hn0 := hide hn0
  clear hn0
  have Hr0 := hide hr0
  clear hr0
  have Hx0 := hide hx0
  clear hx0
  obtain ⟨hn1, hnc1, hc1, hr1, hx1⟩ := h1
  have Hn1 := hide hn1
  clear hn1
  have Hr1 := hide hr1
  clear hr1
  have Hx1 := hide hx1
  clear hx1
  have HB0 := hide (Below.refl w.heap.size w)
  go_enter Try.func3, Try.ntmps3
  by_cases big0 : (1048576 : Int) < (n0 : Int)
  · go_wp2
    go_ret
    exact ⟨rfl, Below.refl _ _⟩
  by_cases big1 : (1048576 : Int) < (n1 : Int)
  · go_wp2
    go_ret
    exact ⟨rfl, Below.refl _ _⟩
  go_wp2_with fail
  refine (toIntS_any A0 n0 c0 z0 w Hn0.out (by omega) ((Hr0.out.below HB0.out (Nat.le_refl _)).more HB0.out.size)).mono ?_
  rintro e w1 ⟨rfl, ho, hb⟩
  have HB1 := hide (HB0.out.trans (hb.mono HB0.out.size))
  have hs1 : w.heap.size ≤ w1.heap.size := hb.size
  clear hb
  have Oa_1 := hide ho
  clear ho
  have La : Hid (∀ g, g ∈ [w.heap.size] → w.heap.size ≤ g ∧ g < w1.heap.size) := hide (fun g hg => ⟨by simp at hg; omega, Oa_1.out.lt g hg⟩)
  go_wp2_with fail
  refine (toIntS_any A1 n1 c1 z1 w1 Hn1.out (by omega) ((Hr1.out.below HB1.out (Nat.le_refl _)).more HB1.out.size)).mono ?_
  rintro e w2 ⟨rfl, ho, hb⟩
  have HB2 := hide (HB1.out.trans (hb.mono HB1.out.size))
  have hs2 : w1.heap.size ≤ w2.heap.size := hb.size
  have Oa_2 := hide (Oa_1.out.below hb)
  clear Oa_1
  clear hb
  have Ob_2 := hide ho
  clear ho
  have Lb : Hid (∀ g, g ∈ [w1.heap.size] → w1.heap.size ≤ g ∧ g < w2.heap.size) := hide (fun g hg => ⟨by simp at hg; omega, Ob_2.out.lt g hg⟩)
  go_wp2_with fail
  refine (specSame_any (some ⟨w.heap.size, 0, none⟩) (some ⟨w1.heap.size, 0, none⟩) n0 n1 n0 n1 z0 z1 w2.heap.size w2 Hn0.out Hn1.out (by omega) (by omega) (Oa_2.out.rd).2 (Ob_2.out.rd).2).mono ?_
  rintro e w3 ⟨rfl, hb⟩
  have HB3 := hide (HB2.out.trans (hb.mono HB2.out.size))
  have hs3 : w2.heap.size ≤ w3.heap.size := hb.size
  have Oa_3 := hide (Oa_2.out.below hb)
  have Ob_3 := hide (Ob_2.out.below hb)
  clear Oa_2
  clear Ob_2
  clear hb
  clear Oa_3
  clear Ob_3
  go_wp2_with fail
  refine (toIntS_any A0 n0 c0 z0 w3 Hn0.out (by omega) ((Hr0.out.below HB3.out (Nat.le_refl _)).more HB3.out.size)).mono ?_
  rintro e w4 ⟨rfl, ho, hb⟩
  have HB4 := hide (HB3.out.trans (hb.mono HB3.out.size))
  have hs4 : w3.heap.size ≤ w4.heap.size := hb.size
  clear hb
  have Ox_4 := hide ho
  clear ho
  have Lx : Hid (∀ g, g ∈ [w3.heap.size] → w3.heap.size ≤ g ∧ g < w4.heap.size) := hide (fun g hg => ⟨by simp at hg; omega, Ox_4.out.lt g hg⟩)
  go_wp2_with fail
  refine (toIntS_any A1 n1 c1 z1 w4 Hn1.out (by omega) ((Hr1.out.below HB4.out (Nat.le_refl _)).more HB4.out.size)).mono ?_
  rintro e w5 ⟨rfl, ho, hb⟩
  have HB5 := hide (HB4.out.trans (hb.mono HB4.out.size))
  have hs5 : w4.heap.size ≤ w5.heap.size := hb.size
  have Ox_5 := hide (Ox_4.out.below hb)
  clear Ox_4
  clear hb
  have Oy_5 := hide ho
  clear ho
  have Ly : Hid (∀ g, g ∈ [w4.heap.size] → w4.heap.size ≤ g ∧ g < w5.heap.size) := hide (fun g hg => ⟨by simp at hg; omega, Oy_5.out.lt g hg⟩)
  go_wp2_with fail
  refine (implSame_any (some ⟨w3.heap.size, 0, none⟩) (some ⟨w4.heap.size, 0, none⟩) n0 n1 n0 n1 z0 z1 w5.heap.size w5 Hn0.out Hn1.out (by omega) (by omega) (Ox_5.out.rd).2 (Oy_5.out.rd).2).mono ?_
  rintro e w6 ⟨rfl, hb⟩
  have HB6 := hide (HB5.out.trans (hb.mono HB5.out.size))
  have hs6 : w5.heap.size ≤ w6.heap.size := hb.size
  have Ox_6 := hide (Ox_5.out.below hb)
  have Oy_6 := hide (Oy_5.out.below hb)
  clear Ox_5
  clear Oy_5
  clear hb
  go_wp2_with fail
  refine (toIntS_any A0 n0 c0 z0 w6 Hn0.out (by omega) ((Hr0.out.below HB6.out (Nat.le_refl _)).more HB6.out.size)).mono ?_
  rintro e w7 ⟨rfl, ho, hb⟩
  have HB7 := hide (HB6.out.trans (hb.mono HB6.out.size))
  have hs7 : w6.heap.size ≤ w7.heap.size := hb.size
  have Ox_7 := hide (Ox_6.out.below hb)
  have Oy_7 := hide (Oy_6.out.below hb)
  clear Ox_6
  clear Oy_6
  clear hb
  have Op_7 := hide ho
  clear ho
  have Lp : Hid (∀ g, g ∈ [w6.heap.size] → w6.heap.size ≤ g ∧ g < w7.heap.size) := hide (fun g hg => ⟨by simp at hg; omega, Op_7.out.lt g hg⟩)
  go_wp2_with fail
  refine (eqIntS_same _ _ _ _ _ z0 w7.heap.size w7 Hn0.out (by omega) (Ox_7.out.rd).2 (Op_7.out.rd).2).mono ?_
  rintro e w8 ⟨rfl, hb⟩
  have HB8 := hide (HB7.out.trans (hb.mono HB7.out.size))
  have hs8 : w7.heap.size ≤ w8.heap.size := hb.size
  have Ox_8 := hide (Ox_7.out.below hb)
  have Oy_8 := hide (Oy_7.out.below hb)
  have Op_8 := hide (Op_7.out.below hb)
  clear Ox_7
  clear Oy_7
  clear Op_7
  clear hb
  clear Op_8
  go_wp2_with fail
  refine (toIntS_any A1 n1 c1 z1 w8 Hn1.out (by omega) ((Hr1.out.below HB8.out (Nat.le_refl _)).more HB8.out.size)).mono ?_
  rintro e w9 ⟨rfl, ho, hb⟩
  have HB9 := hide (HB8.out.trans (hb.mono HB8.out.size))
  have hs9 : w8.heap.size ≤ w9.heap.size := hb.size
  have Ox_9 := hide (Ox_8.out.below hb)
  have Oy_9 := hide (Oy_8.out.below hb)
  clear Ox_8
  clear Oy_8
  clear hb
  have Oq_9 := hide ho
  clear ho
  have Lq : Hid (∀ g, g ∈ [w8.heap.size] → w8.heap.size ≤ g ∧ g < w9.heap.size) := hide (fun g hg => ⟨by simp at hg; omega, Oq_9.out.lt g hg⟩)
  go_wp2_with fail
  refine (eqIntS_same _ _ _ _ _ z1 w9.heap.size w9 Hn1.out (by omega) (Oy_9.out.rd).2 (Oq_9.out.rd).2).mono ?_
  rintro e w10 ⟨rfl, hb⟩
  have HB10 := hide (HB9.out.trans (hb.mono HB9.out.size))
  have hs10 : w9.heap.size ≤ w10.heap.size := hb.size
  have Ox_10 := hide (Ox_9.out.below hb)
  have Oy_10 := hide (Oy_9.out.below hb)
  have Oq_10 := hide (Oq_9.out.below hb)
  clear Ox_9
  clear Oy_9
  clear Oq_9
  clear hb
  go_wp2
  go_ret
  exact ⟨rfl, HB10.out⟩
end Go.Proofs.Ytflomdjcboohlaa
