/-
  The draw of a text: l1Text, DrawHex: some bytes, not many.
-/
import Derived.Test.YthgnhdnedenbfabDraw0
import Derived.Test.YthgnhdnedenbfabStr
import Derived.Deep.LoopGhost
namespace Go.Proofs.Ythgnhdnedenbfab
open Go.RowKit
set_option linter.unusedVariables false

theorem curAlloc {w : World} {cb : Nat} (h : Cur w cb) (o : Obj) : Cur (w.alloc o) cb := h.below ((Below.refl w.heap.size w).alloc (Nat.le_refl _) o) h.lt
theorem grown_on {w w1 w2 : World} {row r2 : Option Nat} (h : w.grownBy w1 row) (hg : w1.grownBy w2 r2) (hr : ∀ g, r2 = some g → w.heap.size ≤ g) : w.grownBy w2 row :=
  ⟨hg.os.trans h.os, hg.tape.trans h.tape, hg.output.trans h.output, Nat.le_trans h.size hg.size, fun k hk hn => (hg.block k (Nat.lt_of_lt_of_le hk h.size) (fun e => by have := hr k e.symm; omega)).trans (h.block k hk hn)⟩
theorem byteInfo : (Try.prog.info? 5).map (fun i => (i.zero, i.size, i.bytes)) = some (some (.int .u8 0), 1, 1) := by kernel_rfl
theorem bvals_snoc (acc : List UInt8) {b : Int} (h0 : 0 ≤ b) (h1 : b ≤ 255) : bvals acc ++ [.int .u8 b] = bvals (acc ++ [UInt8.ofNat b.toNat]) := by
  rw [bvals_append]; simp [bvals]; omega
structure TxtInv (w wr : World) (cb : Nat) (v : Value) (acc : List UInt8) : Prop where
  own : wr.ownsRow w.heap.size 5 1 v acc.length (bvals acc)
  cur : Cur wr cb
  gr : w.grownBy wr (some cb)
theorem TxtInv.drawn {w wr w' : World} {cb : Nat} {v : Value} {acc : List UInt8} (h : TxtInv w wr cb v acc) (hl : cb < w.heap.size) (hc : Cur w' cb) (hg : wr.grownBy w' (some cb)) : TxtInv w w' cb v acc :=
  ⟨h.own.kept hg (by cases he : v.ownBlock with | none => exact .inl rfl | some g => exact .inr (by have := (h.own.lt g he).1; simp; omega)), hc, grown_trans h.gr hg⟩
theorem TxtInv.app {w wr w' : World} {cb : Nat} {v v' : Value} {acc : List UInt8} {b : Int} {o : Obj} (h : TxtInv w wr cb v acc) (hl : cb < w.heap.size) (h0 : 0 ≤ b) (h1 : b ≤ 255) (hown : w'.ownsRow w.heap.size 5 1 v' (acc.length + 1) (bvals acc ++ [.int .u8 b])) (hg : (wr.alloc o).grownBy w' v.ownBlock) :
    TxtInv w w' cb v' (acc ++ [UInt8.ofNat b.toNat]) := by
  rw [bvals_snoc acc h0 h1] at hown
  refine ⟨by rw [List.length_append]; exact hown, (curAlloc h.cur o).grown hg (fun g e => by have := (h.own.lt g e).1; omega), ?_⟩
  exact grown_on (grown_trans h.gr (World.grownBy_alloc _ _ _)) hg (fun g e => (h.own.lt g e).1)
theorem rdB_new (w : World) (u : Value) (T : TypeId) : RdV (w.alloc (.cells #[u] T)) (some ⟨w.heap.size, 0, none⟩) [u] (w.heap.size + 1) := fun j hj => by
  have : j = 0 := by simp at hj; omega
  subst this
  exact ⟨_, 0, rfl, by omega, by go_simp⟩
set_option maxRecDepth 100000 in
set_option maxHeartbeats 3200000 in
theorem l1Text_any (cb : Nat) (most : Nat) (w : World) (hcur : Cur w cb) (hm : most ≤ 1000) :
    Calls Try.prog 10 #[.pointer (some ⟨cb, 0, none⟩), .int .i64 (most : Int)] w fun e w' => (∃ s : ByteArray, e = .returned (.string s) ∧ s.size ≤ most) ∧ Cur w' cb ∧ w.grownBy w' (some cb) := by
  obtain ⟨i0, hi, hz0, hz1, hz2⟩ := info_parts byteInfo
  have hcl := hcur.lt
  have HC := hide hcur
  have HS : Hid (TxtInv w (w.alloc (.cells #[] 5)) cb (.slice (some ⟨w.heap.size, 0, none⟩) 0 0) []) := hide ⟨World.ownsRow_made w #[] 0 (Nat.le_refl _) (by decide) rfl, curAlloc hcur _, World.grownBy_alloc _ _ _⟩
  have hm1 : (most : Int) + 1 ≤ 1000000000 := by omega
  clear hcur
  go_enter Try.func10, Try.ntmps10
  go_wp2_with fail
  refine (l1Below_any _ _ _ HS.out.cur (by omega)).mono ?_
  rintro e w1 ⟨⟨st, rfl, hst⟩, hc1, hg1⟩
  have HS1 := hide (HS.out.drawn hcl hc1 hg1)
  have hst4 : (st : Int) < 4 := by omega
  clear hc1 hg1 hst
  go_wp2_with fail
  refine (l1Below_any _ _ _ HS1.out.cur hm1).mono ?_
  rintro e w2 ⟨⟨N, rfl, hN⟩, hc2, hg2⟩
  have HS2 := hide (HS1.out.drawn hcl hc2 hg2)
  have hNm : N ≤ most := by omega
  clear hc2 hg2 hN
  go_wp2_with fail
  go_loopg [5, 7] (most + 2) (fun g v n wo => ∃ wr : World, wr = wo ∧ ∃ (m : Nat) (acc : List UInt8), acc.length + m ≤ most ∧ m < g ∧ n = .int .i64 m ∧ TxtInv w wr cb v acc)
  case atStart => exact ⟨_, rfl, N, [], by simpa using hNm, by omega, rfl, HS2.out⟩
  case round =>
    obtain ⟨wr, rfl, m, acc, hl, hg, rfl, hS⟩ := hrel
    have HG := hide hg
    have HT := hide hS
    have HL := hide hl
    clear hg hS hl HS HS1 HS2
    by_cases h0 : m = 0
    · subst h0
      have hcv := strOf_row 22 9 5 Try.underlying22 Try.underlying5 Try.underlying9 HT.out.own
      have HS : Hid ((⟨acc.toArray⟩ : ByteArray).size ≤ most) := hide (by show acc.toArray.size ≤ most; have := HL.out; simpa using this)
      go_wp2
      go_ret
      exact ⟨⟨_, rfl, HS.out⟩, HT.out.cur, HT.out.gr⟩
    · obtain ⟨q, rfl⟩ : ∃ q, m = q + 1 := ⟨m - 1, by omega⟩
      have hq1 : (0 : Int) < (q : Int) + 1 := by omega
      have hqm : q ≤ 1000 := by have := HL.out; omega
      clear h0
      go_wp2_with fail
      refine (l1Byte_any _ _ HT.out.cur).mono ?_
      rintro e w3 ⟨⟨x, rfl, hx0, hx1⟩, hc, hg⟩
      have HT3 := hide (HT.out.drawn hcl hc hg)
      have h2a : 0 ≤ x % 2 := by omega
      have h2b : x % 2 ≤ 255 := by omega
      have h4a : 0 ≤ 97 + x % 4 := by omega
      have h4b : 97 + x % 4 ≤ 255 := by omega
      have hle := HT3.out.gr.size
      have HLE : Hid (w.heap.size ≤ w3.heap.size) := hide hle
      clear hc hg hle
      by_cases s1 : st = 1
      · subst s1
        go_wp2_with (at_builtin; refine wpList_app _ rfl _ _ 22 rfl w.heap.size 5 i0 (.int .u8 0) 1 Try.underlying22 hi hz0 hz1 hz2 rfl _ acc.length (bvals acc) rfl (HT3.out.own.alloc _) _ 1 1 [.int .u8 (x % 2)] _ rfl rfl (rdB_new _ _ _) (by simp [Value.oneCell']) ?c1 ?c2 ?c3 ?_)
        case c1 => have := HL.out; unfold maxLen; omega
        case c2 => have := HL.out; omega
        case c3 => have := HLE.out; simp; omega
        intro v' w4 hown hgr _
        have HT4 := hide (HT3.out.app hcl h2a h2b hown hgr)
        clear hown hgr
        go_wp2
        go_roundg (q + 1)
        case measure => have := HG.out; omega
        case rel => exact ⟨_, rfl, q, _, by have := HL.out; simp; omega, by omega, by go_num, HT4.out⟩
      · by_cases s2 : st = 2
        · subst s2
          go_wp2_with (at_builtin; refine wpList_app _ rfl _ _ 22 rfl w.heap.size 5 i0 (.int .u8 0) 1 Try.underlying22 hi hz0 hz1 hz2 rfl _ acc.length (bvals acc) rfl (HT3.out.own.alloc _) _ 1 1 [.int .u8 (97 + x % 4)] _ rfl rfl (rdB_new _ _ _) (by simp [Value.oneCell']) ?c1 ?c2 ?c3 ?_)
          case c1 => have := HL.out; unfold maxLen; omega
          case c2 => have := HL.out; omega
          case c3 => have := HLE.out; simp; omega
          intro v' w4 hown hgr _
          have HT4 := hide (HT3.out.app hcl h4a h4b hown hgr)
          clear hown hgr
          go_wp2
          go_roundg (q + 1)
          case measure => have := HG.out; omega
          case rel => exact ⟨_, rfl, q, _, by have := HL.out; simp; omega, by omega, by go_num, HT4.out⟩
        · have t1 : ((st : Int) == 1) = false := by rw [beq_eq_false_iff_ne]; omega
          have t2 : ((st : Int) == 2) = false := by rw [beq_eq_false_iff_ne]; omega
          clear s1 s2
          go_wp2_with (at_builtin; refine wpList_app _ rfl _ _ 22 rfl w.heap.size 5 i0 (.int .u8 0) 1 Try.underlying22 hi hz0 hz1 hz2 rfl _ acc.length (bvals acc) rfl (HT3.out.own.alloc _) _ 1 1 [.int .u8 (x)] _ rfl rfl (rdB_new _ _ _) (by simp [Value.oneCell']) ?c1 ?c2 ?c3 ?_)
          case c1 => have := HL.out; unfold maxLen; omega
          case c2 => have := HL.out; omega
          case c3 => have := HLE.out; simp; omega
          intro v' w4 hown hgr _
          have HT4 := hide (HT3.out.app hcl hx0 hx1 hown hgr)
          clear hown hgr
          go_wp2
          go_roundg (q + 1)
          case measure => have := HG.out; omega
          case rel => exact ⟨_, rfl, q, _, by have := HL.out; simp; omega, by omega, by go_num, HT4.out⟩

set_option maxRecDepth 100000 in
set_option maxHeartbeats 1600000 in
theorem drawHex_any (A : Option Addr) (n c : Nat) (zs : List Int) (w : World) (hn : n = zs.length) (hz : n ≤ 1048580) (hr : RdB .u8 w A zs w.heap.size) :
    Calls Try.prog 5 #[.slice A n c] w fun e w' => (∃ s : ByteArray, e = .returned (.string s) ∧ s.size ≤ 40) ∧ Below w.heap.size w w' := by
  have HC := hide (l1New_any A n c zs w hn hz hr)
  clear hn hz hr
  go_enter Try.func5, Try.ntmps5
  go_wp2_with fail
  refine HC.out.mono ?_
  rintro e w1 ⟨rfl, hc, hb⟩
  have HCU := hide hc
  have HB := hide hb
  clear hc hb
  go_wp2_with fail
  refine (l1Text_any _ 40 _ HCU.out (by omega)).mono ?_
  rintro e w2 ⟨⟨s, rfl, hs⟩, hc, hg⟩
  have HS := hide hs
  have HB2 := hide (below_grown HB.out hg (Nat.le_refl _) HB.out.size)
  clear hs hc hg
  go_wp2
  go_ret
  exact ⟨⟨s, rfl, HS.out⟩, HB2.out⟩
end Go.Proofs.Ythgnhdnedenbfab
