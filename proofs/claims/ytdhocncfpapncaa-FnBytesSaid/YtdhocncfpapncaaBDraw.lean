/-
  Draws of numbers in bytes: l3Bytes, l3Spot, DrawStoreNum.
-/
import Derived.Test.YtdhocncfpapncaaDrawS
import Derived.Test.YtdhocncfpapncaaStore
import Derived.IntWalk
namespace Go.Proofs.Ytdhocncfpapncaa
open Go.RowKit
set_option linter.unusedVariables false

theorem Cur.touch {w w' : World} {cb : Nat} {F : List Nat} (h : Cur w cb) (ht : Touch F w w') (hF : ∀ g, g ∈ F → cb < g) : Cur w' cb := by
  have hl := h.lt
  obtain ⟨A, n, c, zs, i, x, hh, h1, h2, h3, h4⟩ := h
  exact ⟨A, n, c, zs, i, x, (ht.block cb hl (fun hm => by have := hF cb hm; omega)).trans hh, h1, h2, h3, h4.touch ht (fun g hg => Nat.le_of_lt (hF g hg)) (Nat.le_of_lt hl)⟩
theorem grown_touch {w wr X : World} {row : Option Nat} {F : List Nat} (h : w.grownBy wr row) (ht : Touch F wr X) (hF : ∀ g, g ∈ F → w.heap.size ≤ g) : w.grownBy X row :=
  ⟨ht.os.trans h.os, ht.tape.trans h.tape, ht.output.trans h.output, Nat.le_trans h.size ht.size, fun i hi hn => (ht.block i (Nat.lt_of_lt_of_le hi h.size) (fun hm => by have := hF i hm; omega)).trans (h.block i hi hn)⟩
theorem touch_grown {F : List Nat} {W W' : World} {row : Option Nat} (h : W.grownBy W' row) (hr : ∀ g, row = some g → g ∈ F) : Touch F W W' :=
  ⟨h.os, h.tape, h.output, h.size, fun k hk hn => h.block k hk (fun e => hn (hr k e.symm))⟩
theorem rd_one {w : World} {v : Value} {T : TypeId} : RdV (w.alloc (.cells #[v] T)) (some ⟨w.heap.size, 0, none⟩) [v] (w.heap.size + 1) := fun j hj => by
  have : j = 0 := by simpa using hj
  subst this
  exact ⟨w.heap.size, 0, rfl, by omega, cell_of_row _ _ _ _ _ _ (heap_alloc_new _ _)⟩
/-- The bytes under way: in a row of the call's own. -/
structure LB (w wr : World) (cb g cap : Nat) (zs : List Int) : Prop where
  cur : Cur wr cb
  gr : w.grownBy wr (some cb)
  cw : cb < w.heap.size
  hg : w.heap.size ≤ g
  own : wr.ownsRow w.heap.size 3 1 (.slice (some ⟨g, 0, none⟩) zs.length cap) zs.length (ints zs)
theorem LB.start {w : World} {cb : Nat} (h : Cur w cb) : LB w (w.alloc (.cells #[] 3)) cb w.heap.size 0 [] :=
  ⟨h.below ((Below.refl _ _).alloc (Nat.le_refl _) _) h.lt, World.grownBy_alloc _ _ _, h.lt, Nat.le_refl _, ⟨rfl, .inr ⟨w.heap.size, 0, #[], rfl, Nat.le_refl _, heap_alloc_new _ _, Nat.le_refl _, Nat.zero_le _, rfl, rfl⟩⟩⟩
theorem LB.keep {w wr w' : World} {cb g cap : Nat} {zs : List Int} (h : LB w wr cb g cap zs) (hc : Cur w' cb) (hg : wr.grownBy w' (some cb)) : LB w w' cb g cap zs :=
  ⟨hc, grown_trans h.gr hg, h.cw, h.hg, h.own.kept hg (.inr (by have := h.cw; have := h.hg; simp only [Value.ownBlock, ne_eq, Option.some.injEq]; omega))⟩
theorem LB.alloc {w wr : World} {cb g cap : Nat} {zs : List Int} (h : LB w wr cb g cap zs) (o : Obj) : LB w (wr.alloc o) cb g cap zs :=
  h.keep (h.cur.below ((Below.refl _ _).alloc (Nat.le_refl _) _) h.cur.lt) (World.grownBy_alloc _ _ _)
theorem LB.app {w wr w' : World} {cb g cap : Nat} {zs : List Int} {v' : Value} {x : Int} (h : LB w wr cb g cap zs) (hown : w'.ownsRow w.heap.size 3 1 v' (zs.length + 1) (ints zs ++ [.int .i64 x])) (hgr : wr.grownBy w' (Value.slice (some ⟨g, 0, none⟩) zs.length cap).ownBlock) :
    ∃ g' cap', v' = .slice (some ⟨g', 0, none⟩) (zs ++ [x]).length cap' ∧ LB w w' cb g' cap' (zs ++ [x]) := by
  have hcw := h.cw
  have hg := h.hg
  have ht : Touch [g] wr w' := touch_grown hgr (fun a ha => by simp only [Value.ownBlock, Option.some.injEq] at ha; simp [ha])
  rcases hown.2 with ⟨_, h0⟩ | ⟨g', cap', cur, rfl, hb, hrest⟩
  · omega
  · refine ⟨g', cap', by rw [List.length_append]; rfl, h.cur.touch ht (fun a ha => by simp only [List.mem_singleton] at ha; omega), grown_touch h.gr ht (fun a ha => by simp only [List.mem_singleton] at ha; omega), hcw, hb, ?_⟩
    have e : ints (zs ++ [x]) = ints zs ++ [.int .i64 x] := by simp [ints]
    rw [e, List.length_append]
    exact hown
theorem LB.rd {w wr : World} {cb g cap : Nat} {zs : List Int} (h : LB w wr cb g cap zs) : zs.length ≤ cap ∧ cap ≤ maxLen ∧ RdB .i64 wr (some ⟨g, 0, none⟩) zs wr.heap.size ∧ ∀ j, j < zs.length → wr.cell? ⟨g, j, none⟩ = some (.int .i64 (zs.getD j 0)) ∧ wr.frozen? ⟨g, j, none⟩ = false := by
  obtain ⟨A, c, F, e, h1, ho, hF⟩ := own_of_row h.own
  injection e with e1 e2 e3
  subst e1 e3
  have hr := ho.rd.2
  obtain ⟨A', c', e, hc, h2⟩ := ho
  injection e with e1 e2 e3
  subst e1 e3
  rcases h.own.2 with ⟨e, _⟩ | ⟨g', cap', cur, e, hb, hh, h5, h6, h7, h8⟩
  · cases e
  · injection e with e1 e2 e3
    simp only [Option.some.injEq, Addr.mk.injEq, and_true] at e1
    subst e1 e3
    refine ⟨h5, h6, hr, fun j hj => ?_⟩
    obtain ⟨b, off, e, hb', hc'⟩ := hr j hj
    simp only [Option.some.injEq, Addr.mk.injEq, and_true] at e
    obtain ⟨rfl, rfl⟩ := e
    rw [Nat.zero_add] at hc'
    refine ⟨hc', ?_⟩
    simp [World.frozen?, hh]
theorem LB.set {w wr : World} {cb g cap : Nat} {zs : List Int} (h : LB w wr cb g cap zs) {k : Nat} (hk : k < zs.length) (x : Int) : LB w (wr.setCell ⟨g, k, none⟩ (.int .i64 x)) cb g cap (zs.set k x) := by
  have hcw := h.cw
  have hg := h.hg
  have ht : Touch [g] wr (wr.setCell ⟨g, k, none⟩ (.int .i64 x)) := (Touch.refl _ _).setCell (by simp) _
  refine ⟨h.cur.touch ht (fun a ha => by simp only [List.mem_singleton] at ha; omega), grown_touch h.gr ht (fun a ha => by simp only [List.mem_singleton] at ha; omega), hcw, hg, ?_⟩
  rcases h.own.2 with ⟨e, _⟩ | ⟨g', cap', cur, e, hb, hh, h5, h6, h7, h8⟩
  · cases e
  · injection e with e1 e2 e3
    simp only [Option.some.injEq, Addr.mk.injEq, and_true] at e1
    subst e1 e3
    rw [List.length_set]
    refine ⟨by rw [ints_length, List.length_set, Nat.mul_one], .inr ⟨g, cap, cur.setIfInBounds k (.int .i64 x), rfl, hb, ?_, h5, h6, by simpa using h7, ?_⟩⟩
    · simp [World.setCell, Array.getElem?_modify, hh]
    · rw [Nat.mul_one] at h8 ⊢
      rw [← ints_set, ← h8]
      simp [List.take_set]
set_option maxRecDepth 100000 in
set_option maxHeartbeats 1600000 in
theorem l3Bytes_any (cb : Nat) (w : World) (hcur : Cur w cb) :
    Calls Try.prog 13 #[.pointer (some ⟨cb, 0, none⟩)] w fun e w' => ∃ g cap zs n, e = .returned (.slice (some ⟨g, 0, none⟩) n cap) ∧ n = zs.length ∧ n ≤ 20 ∧ LB w w' cb g cap zs := by
  obtain ⟨i0, hinf, hz0, hz1, hz2⟩ := info_parts intInfo2
  have HC := hide hcur
  clear hcur
  have hlc := HC.out.lt
  go_enter Try.func13, Try.ntmps13
  go_wp2_with fail
  have L1 := hide (LB.start HC.out)
  obtain ⟨w1, h1⟩ : ∃ W : World, W = w.alloc (.cells #[] 3) := ⟨_, rfl⟩
  rw [← h1] at L1 ⊢
  obtain ⟨g0, hg0⟩ : ∃ g, g = w.heap.size := ⟨_, rfl⟩
  rw [← hg0] at L1 ⊢
  clear h1 hg0
  refine (l1Below_any _ _ _ L1.out.cur (by omega)).mono ?_
  rintro e w2 ⟨⟨m, rfl, hm⟩, hc, hg⟩
  have hm1 : m ≤ 20 := by omega
  have L2 := hide (L1.out.keep hc hg)
  clear L1 hm hc hg
  go_wp2
  go_loopg [3, 4] (m + 1) (fun gk v i wo => ∃ wr : World, wr = wo ∧ ∃ j g cap zs, j ≤ 20 ∧ gk = j + 1 ∧ i = .int .i64 (j : Int) ∧ v = .slice (some ⟨g, 0, none⟩) zs.length cap ∧ zs.length + j ≤ 20 ∧ LB w wr cb g cap zs)
  case atStart => exact ⟨_, rfl, m, g0, 0, [], hm1, rfl, rfl, rfl, by simpa using hm1, L2.out⟩
  case round =>
    clear L2
    obtain ⟨wr, rfl, j, g, cap, zs, hj, hgk, rfl, rfl, hlen, hL⟩ := hrel
    have HG := hide hgk
    have HL := hide hL
    clear hgk hL
    by_cases h0 : 0 < j
    · have hi : (0 : Int) < (j : Int) := by omega
      go_wp2_with fail
      refine (l1Below_any _ _ _ HL.out.cur (by omega)).mono ?_
      rintro e w3 ⟨⟨r, rfl, -⟩, hc, hg⟩
      have L3 := hide (HL.out.keep hc hg)
      clear hc hg HL
      have hne3 : w3.heap.size ≠ cb := by have := L3.out.cur.lt; omega
      go_wp2_with fail
      refine (l1PickInt_any cb w3.heap.size [0, 255, 1, (r : Int)] _ _ 3 _ (L3.out.alloc _).cur (heap_alloc_new _ _) hne3 rfl (by simp) (by simp)).mono ?_
      rintro e w4 ⟨⟨x, rfl, hx⟩, hc, hg⟩
      have L4 := hide ((L3.out.alloc _).keep hc hg)
      clear hc hg hx L3
      go_wp2_with (at_builtin; refine wpList_app _ rfl _ _ 24 rfl w.heap.size 3 i0 (.int .i64 0) 8 Try.underlying24 hinf hz0 hz1 hz2 rfl (.slice (some ⟨g, 0, none⟩) zs.length cap) zs.length (ints zs) rfl (L4.out.alloc _).own _ 1 1 [.int .i64 x] _ rfl rfl rd_one (by simp [Value.oneCell']) ?c1 ?c2 ?c3 ?_)
      case c1 => unfold maxLen; omega
      case c2 => omega
      case c3 => exact (L4.out.alloc _).gr.size
      intro v' w5 hown hgr hv'
      obtain ⟨g', cap', rfl, h5⟩ := (L4.out.alloc _).app hown hgr
      have L5 := hide h5
      clear hown hgr hv' h5 L4
      go_wp2
      go_roundg (j - 1 + 1)
      case measure => have := HG.out; omega
      case rel => exact ⟨_, rfl, j - 1, g', cap', zs ++ [x], by omega, rfl, by go_num, rfl, by rw [List.length_append, List.length_cons, List.length_nil]; omega, L5.out⟩
    · have hi : ¬ (0 : Int) < (j : Int) := by omega
      obtain ⟨n, hn⟩ : ∃ n, n = zs.length := ⟨_, rfl⟩
      rw [← hn]
      have HN := hide hn
      have hn20 : n ≤ 20 := by omega
      clear hn hlen
      by_cases hp : 0 < n
      · have hpi : (0 : Int) < (n : Int) := by omega
        go_wp2_with fail
        refine (l1Once_any _ _ _ HL.out.cur (by omega)).mono ?_
        rintro e w3 ⟨⟨b, rfl⟩, hc, hg⟩
        have L3 := hide (HL.out.keep hc hg)
        clear hc hg HL
        cases b
        · go_wp2
          go_ret
          exact ⟨g, cap, zs, n, rfl, HN.out, hn20, L3.out⟩
        · go_wp2_with fail
          refine (l1Below_any _ _ _ L3.out.cur (by omega)).mono ?_
          rintro e w4 ⟨⟨r, rfl, hr⟩, hc, hg⟩
          have L4 := hide (L3.out.keep hc hg)
          have hrn : (r : Int) < (n : Int) := by omega
          have hrn2 : r < zs.length := by have := HN.out; omega
          clear hc hg hr L3
          have hne4 : w4.heap.size ≠ cb := by have := L4.out.cur.lt; omega
          go_wp2_with fail
          refine (l1PickInt_any cb w4.heap.size [-1, 256] _ _ 3 _ (L4.out.alloc _).cur (heap_alloc_new _ _) hne4 rfl (by simp) (by simp)).mono ?_
          rintro e w5 ⟨⟨x, rfl, hx⟩, hc, hg⟩
          have L5 := hide ((L4.out.alloc _).keep hc hg)
          obtain ⟨-, -, -, hcell⟩ := L5.out.rd
          obtain ⟨y0, y1⟩ := hcell r hrn2
          clear hc hg hx L4 hcell
          go_wp2
          go_ret
          have L6 := L5.out.set hrn2 x
          exact ⟨g, cap, zs.set r x, n, rfl, by rw [List.length_set]; exact HN.out, hn20, L6⟩
      · have hpi : ¬ (0 : Int) < (n : Int) := by omega
        go_wp2
        go_ret
        exact ⟨g, cap, zs, n, rfl, HN.out, hn20, HL.out⟩
set_option maxRecDepth 100000 in
set_option maxHeartbeats 800000 in
theorem l3Spot_any (cb : Nat) (A : Option Addr) (n c : Nat) (w : World) (hcur : Cur w cb) (hn : n ≤ 20) :
    Calls Try.prog 14 #[.pointer (some ⟨cb, 0, none⟩), .slice A n c] w fun e w' => (∃ x y : Int, e = .returned (.tuple #[.int .i64 x, .int .i64 y])) ∧ Cur w' cb ∧ w.grownBy w' (some cb) := by
  have HC := hide hcur
  clear hcur
  have hw : IntKind.i64.wrap ((n : Int) + 2) = (n : Int) + 2 := IntWalk.i64_in _ (by omega)
  go_enter Try.func14, Try.ntmps14
  go_wp2_with fail
  refine (l1Below_any _ _ _ HC.out (by omega)).mono ?_
  rintro e w1 ⟨⟨x, rfl, -⟩, hc1, hg1⟩
  have C1 := hide hc1
  have G1 := hide hg1
  clear hc1 hg1
  go_wp2_with fail
  refine (l1Below_any _ _ _ C1.out (by omega)).mono ?_
  rintro e w2 ⟨⟨y, rfl, hy⟩, hc2, hg2⟩
  have C2 := hide hc2
  have G2 := hide (grown_trans G1.out hg2)
  have hw2 : IntKind.i64.wrap (1 + (y : Int)) = 1 + (y : Int) := IntWalk.i64_in _ (by omega)
  clear hc2 hg2 hy
  go_wp2_with fail
  refine (l1Below_any _ _ _ C2.out (by omega)).mono ?_
  rintro e w3 ⟨⟨m, rfl, -⟩, hc3, hg3⟩
  have C3 := hide hc3
  have G3 := hide (grown_trans G2.out hg3)
  obtain ⟨v, hv⟩ : ∃ v : Int, v = (m : Int) := ⟨_, rfl⟩
  rw [← hv]
  clear hc3 hg3 hv
  by_cases e0 : v = 0
  · subst e0
    go_wp2
    exact bodyPost_ret (v := .tuple #[.int .i64 (-1), .int .i64 (1 + (y : Int))]) (by simp [results, Try.results14, go_sem]) rfl ⟨⟨_, _, rfl⟩, C3.out, G3.out⟩
  by_cases e1 : v = 1
  · subst e1
    have hne : w3.heap.size ≠ cb := by have := C3.out.lt; omega
    go_wp2_with fail
    refine (l1PickInt_any cb w3.heap.size [0, 7, 8, -1] _ _ 3 _ (C3.out.below ((Below.refl _ _).alloc (Nat.le_refl _) _) C3.out.lt) (heap_alloc_new _ _) hne rfl (by simp) (by simp)).mono ?_
    rintro e w4 ⟨⟨z, rfl, -⟩, hc4, hg4⟩
    have C4 := hide hc4
    have G4 := hide (grown_trans G3.out (grown_trans (World.grownBy_alloc _ _ _) hg4))
    clear hc4 hg4
    go_wp2
    exact bodyPost_ret (v := .tuple #[.int .i64 (x : Int), .int .i64 z]) (by simp [results, Try.results14, go_sem]) rfl ⟨⟨_, _, rfl⟩, C4.out, G4.out⟩
  · go_wp2
    exact bodyPost_ret (v := .tuple #[.int .i64 (x : Int), .int .i64 (1 + (y : Int))]) (by simp [results, Try.results14, go_sem]) rfl ⟨⟨_, _, rfl⟩, C3.out, G3.out⟩
/-- What DrawStoreNum tells. -/
def BDraw (w w' : World) (e : Ending) : Prop :=
  ∃ g cap zs n, ∃ x y v : Int, e = .returned (.tuple #[.slice (some ⟨g, 0, none⟩) n cap, .int .i64 x, .int .i64 y, .int .i64 v]) ∧ n = zs.length ∧ n ≤ 20 ∧ n ≤ cap ∧ cap ≤ maxLen ∧ RdB .i64 w' (some ⟨g, 0, none⟩) zs w'.heap.size ∧ -1 ≤ v ∧ v ≤ 4294967295 ∧ Below w.heap.size w w'
set_option maxRecDepth 100000 in
set_option maxHeartbeats 800000 in
theorem drawStore_any (A : Option Addr) (n c : Nat) (zs : List Int) (w : World) (hn : n = zs.length) (hz : n ≤ 1048580) (hr : RdB .u8 w A zs w.heap.size) :
    Calls Try.prog 5 #[.slice A n c] w fun e w' => BDraw w w' e := by
  have HN := hide hn
  have HZ := hide hz
  have HR := hide hr
  clear hn hz hr
  go_enter Try.func5, Try.ntmps5
  go_wp2_with fail
  refine (l1New_any A n c zs w HN.out HZ.out HR.out).mono ?_
  rintro e w1 ⟨rfl, hc1, hb1⟩
  obtain ⟨cb, hcb⟩ : ∃ cb, cb = w.heap.size := ⟨_, rfl⟩
  have HCB := hide hcb
  rw [← hcb] at hc1 ⊢
  have C1 := hide hc1
  have B1 := hide hb1
  clear hc1 hb1 hcb
  go_wp2_with fail
  refine (l3Bytes_any cb w1 C1.out).mono ?_
  rintro e w2 ⟨g, cap, ys, m, rfl, hm, hm20, hL⟩
  have L2 := hide hL
  have HM := hide hm
  clear hL hm
  go_wp2_with fail
  refine (l3Spot_any cb _ m cap w2 L2.out.cur hm20).mono ?_
  rintro e w3 ⟨⟨x, y, rfl⟩, hc, hg⟩
  have L3 := hide (L2.out.keep hc hg)
  clear hc hg L2
  go_wp2_with fail
  refine (l1Below_any _ _ _ L3.out.cur (by omega)).mono ?_
  rintro e w4 ⟨⟨r, rfl, hr⟩, hc, hg⟩
  have hr7 : r < 70000 := by omega
  have L4 := hide (L3.out.keep hc hg)
  clear hc hg L3 hr
  have hne : w4.heap.size ≠ cb := by have := L4.out.cur.lt; omega
  go_wp2_with fail
  refine (l1PickInt_any cb w4.heap.size [0, 255, 256, 65535, 65536, -1, 4294967295, (r : Int)] _ _ 3 _ (L4.out.alloc _).cur (heap_alloc_new _ _) hne rfl (by simp) (by simp)).mono ?_
  rintro e w5 ⟨⟨v, rfl, hv⟩, hc, hg⟩
  have L5 := hide ((L4.out.alloc _).keep hc hg)
  have hv2 : -1 ≤ v ∧ v ≤ 4294967295 := by
    simp at hv
    omega
  clear hc hg hv L4
  go_wp2
  obtain ⟨r1, r2, r3, r4⟩ := L5.out.rd
  have hgr := L5.out.gr
  exact bodyPost_ret (v := .tuple #[.slice (some ⟨g, 0, none⟩) m cap, .int .i64 x, .int .i64 y, .int .i64 v]) (by simp [results, Try.results5, go_sem]) rfl ⟨g, cap, ys, m, x, y, v, rfl, HM.out, hm20, by rw [HM.out]; exact r1, r2, r3, hv2.1, hv2.2, below_grown B1.out hgr (by rw [HCB.out]; exact Nat.le_refl _) B1.out.size⟩
end Go.Proofs.Ytdhocncfpapncaa
