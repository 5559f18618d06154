/-
  The draw of a text, exact: l1Text; and DrawHex: some bytes, not many.
-/
import Derived.Test.YtciehbedpjfflabDoorNDraw
import Derived.Test.YtciehbedpjfflabDoorStr
import Derived.Deep.LoopGhost
namespace Go.Proofs.YtciehbedpjfflabDoor
open Go.RowKit
set_option linter.unusedVariables false

theorem grown_on {w w1 w2 : World} {row r2 : Option Nat} (h : w.grownBy w1 row) (hg : w1.grownBy w2 r2) (hr : ∀ g, r2 = some g → w.heap.size ≤ g) : w.grownBy w2 row :=
  ⟨hg.os.trans h.os, hg.tape.trans h.tape, hg.output.trans h.output, Nat.le_trans h.size hg.size, fun k hk hn => (hg.block k (Nat.lt_of_lt_of_le hk h.size) (fun e => by have := hr k e.symm; omega)).trans (h.block k hk hn)⟩
theorem byteInfoT : (Tryd.prog.info? 5).map (fun i => (i.zero, i.size, i.bytes)) = some (some (.int .u8 0), 1, 1) := by kernel_rfl
theorem bvals_snoc (acc : List UInt8) {b : Int} (h0 : 0 ≤ b) (h1 : b ≤ 255) : bvals acc ++ [.int .u8 b] = bvals (acc ++ [UInt8.ofNat b.toNat]) := by
  rw [bvals_append]; simp [bvals]; omega
structure TxtInv (w wr : World) (cb : Nat) (A : Option Addr) (n c : Nat) (zs : List Int) (s : Nat × Int) (v : Value) (acc : List UInt8) : Prop where
  own : wr.ownsRow w.heap.size 5 1 v acc.length (bvals acc)
  cur : CurX wr cb A n c zs s
  gr : w.grownBy wr (some cb)
theorem TxtInv.drawn {w wr w' : World} {cb : Nat} {A : Option Addr} {n c : Nat} {zs : List Int} {s s' : Nat × Int} {v : Value} {acc : List UInt8} (h : TxtInv w wr cb A n c zs s v acc) (hl : cb < w.heap.size) (hc : CurX w' cb A n c zs s') (hg : wr.grownBy w' (some cb)) : TxtInv w w' cb A n c zs s' v acc :=
  ⟨h.own.kept hg (by cases he : v.ownBlock with | none => exact .inl rfl | some g => exact .inr (by have := (h.own.lt g he).1; simp; omega)), hc, grown_trans h.gr hg⟩
theorem TxtInv.app {w wr w' : World} {cb : Nat} {A : Option Addr} {n c : Nat} {zs : List Int} {s : Nat × Int} {v v' : Value} {acc : List UInt8} {b : Int} {o : Obj} (h : TxtInv w wr cb A n c zs s v acc) (hl : cb < w.heap.size) (h0 : 0 ≤ b) (h1 : b ≤ 255) (hown : w'.ownsRow w.heap.size 5 1 v' (acc.length + 1) (bvals acc ++ [.int .u8 b])) (hg : (wr.alloc o).grownBy w' v.ownBlock) :
    TxtInv w w' cb A n c zs s v' (acc ++ [UInt8.ofNat b.toNat]) := by
  rw [bvals_snoc acc h0 h1] at hown
  refine ⟨by rw [List.length_append]; exact hown, (h.cur.alloc o).grown hg (fun g e => by have := (h.own.lt g e).1; omega), ?_⟩
  exact grown_on (grown_trans h.gr (World.grownBy_alloc _ _ _)) hg (fun g e => (h.own.lt g e).1)
theorem rdB_new (w : World) (u : Value) (T : TypeId) : RdV (w.alloc (.cells #[u] T)) (some ⟨w.heap.size, 0, none⟩) [u] (w.heap.size + 1) := fun j hj => by
  have : j = 0 := by simp at hj; omega
  subst this
  exact ⟨_, 0, rfl, by omega, by go_simp⟩
/-! the bytes of a text -/
def txB (st : Nat) (x : Int) : Int := if st = 1 then x % 2 else if st = 2 then 97 + x % 4 else x
def txL (zs : List Int) (st : Nat) : Nat → (Nat × Int) → List UInt8
  | 0, _ => []
  | q + 1, s => UInt8.ofNat (txB st (byV zs s)).toNat :: txL zs st q (byS zs s)
def txE (zs : List Int) : Nat → (Nat × Int) → (Nat × Int)
  | 0, s => s
  | q + 1, s => txE zs q (byS zs s)
theorem txL_length (zs : List Int) (st : Nat) : ∀ (q : Nat) (s : Nat × Int), (txL zs st q s).length = q
  | 0, _ => rfl
  | q + 1, s => by rw [txL, List.length_cons, txL_length zs st q]
def textV (zs : List Int) (most : Int) (s : Nat × Int) : List UInt8 := txL zs (blV zs 4 s) (blV zs (most + 1) (blS zs 4 s)) (blS zs (most + 1) (blS zs 4 s))
def textS (zs : List Int) (most : Int) (s : Nat × Int) : Nat × Int := txE zs (blV zs (most + 1) (blS zs 4 s)) (blS zs (most + 1) (blS zs 4 s))
theorem textV_length (zs : List Int) {most : Int} (h : 0 ≤ most) (s : Nat × Int) : ((textV zs most s).length : Int) ≤ most := by
  unfold textV
  rw [txL_length]
  have := blV_lt zs (n := most + 1) (by omega) (blS zs 4 s)
  omega
set_option maxRecDepth 100000 in
set_option maxHeartbeats 3200000 in
theorem l1TextX (cb : Nat) (A : Option Addr) (n c : Nat) (zs : List Int) (s : Nat × Int) (most : Nat) (w : World) (hcur : CurX w cb A n c zs s) (hm : most ≤ 1000) :
    Calls Tryd.prog 18 #[.pointer (some ⟨cb, 0, none⟩), .int .i64 (most : Int)] w fun e w' => e = .returned (.string ⟨(textV zs most s).toArray⟩) ∧ CurX w' cb A n c zs (textS zs most s) ∧ w.grownBy w' (some cb) := by
  obtain ⟨i0, hi, hz0, hz1, hz2⟩ := info_parts byteInfoT
  have hcl := hcur.lt
  have HC := hide hcur
  have HS : Hid (TxtInv w (w.alloc (.cells #[] 5)) cb A n c zs s (.slice (some ⟨w.heap.size, 0, none⟩) 0 0) []) := hide ⟨World.ownsRow_made w #[] 0 (Nat.le_refl _) (by decide) rfl, hcur.alloc _, World.grownBy_alloc _ _ _⟩
  have hm1 : (most : Int) + 1 ≤ 1000000000 := by omega
  clear hcur
  have HB1 : Hid (∀ W, CurX W cb A n c zs s → _) := hide (fun W h => l1BelowX cb A n c zs 4 s W h (by omega) (by omega))
  have hst := blV_lt zs (n := 4) (by omega) s
  unfold textV textS
  generalize blV zs 4 s = st at HB1 hst ⊢
  generalize blS zs 4 s = s1 at HB1 ⊢
  have HB2 : Hid (∀ W, CurX W cb A n c zs s1 → _) := hide (fun W h => l1BelowX cb A n c zs ((most : Int) + 1) s1 W h (by omega) (by omega))
  have hN := blV_lt zs (n := (most : Int) + 1) (by omega) s1
  generalize blV zs ((most : Int) + 1) s1 = N at HB2 hN ⊢
  generalize blS zs ((most : Int) + 1) s1 = s2 at HB2 ⊢
  obtain ⟨F, hF⟩ : ∃ F, F = txL zs st N s2 := ⟨_, rfl⟩
  obtain ⟨sE, hE⟩ : ∃ sE, sE = txE zs N s2 := ⟨_, rfl⟩
  rw [← hF, ← hE]
  have HF := hide hF
  have HE := hide hE
  clear hF hE
  go_enter Tryd.func18, Tryd.ntmps18
  go_wp2_with fail
  refine (HB1.out _ HS.out.cur).mono ?_
  rintro e w1 ⟨rfl, hc1, hg1⟩
  have HS1 := hide (HS.out.drawn hcl hc1 hg1)
  have hst4 : (st : Int) < 4 := by omega
  clear hc1 hg1 hst HB1
  go_wp2_with fail
  refine (HB2.out _ HS1.out.cur).mono ?_
  rintro e w2 ⟨rfl, hc2, hg2⟩
  have HS2 := hide (HS1.out.drawn hcl hc2 hg2)
  have hNm : N ≤ most := by omega
  clear hc2 hg2 hN HB2
  go_wp2_with fail
  go_loopg [5, 7] (most + 2) (fun g v k wo => ∃ wr : World, wr = wo ∧ ∃ (m : Nat) (acc : List UInt8) (t : Nat × Int), acc.length + m ≤ most ∧ m < g ∧ k = .int .i64 m ∧ TxtInv w wr cb A n c zs t v acc ∧ F = acc ++ txL zs st m t ∧ sE = txE zs m t)
  case atStart => exact ⟨_, rfl, N, [], s2, by simpa using hNm, by omega, rfl, HS2.out, HF.out, HE.out⟩
  case round =>
    obtain ⟨wr, rfl, m, acc, t, hl, hg, rfl, hS, hF, hE⟩ := hrel
    have HG := hide hg
    have HT := hide hS
    have HL := hide hl
    have HFm := hide hF
    have HEm := hide hE
    clear hg hS hl HS HS1 HS2 hF hE HF HE
    by_cases h0 : m = 0
    · subst h0
      have hcv := strOf_row 22 9 5 Tryd.underlying22 Tryd.underlying5 Tryd.underlying9 HT.out.own
      have HFa : Hid (acc = F) := hide (by rw [HFm.out, txL, List.append_nil])
      have HEa : Hid (t = sE) := hide (by rw [HEm.out, txE])
      go_wp2
      go_ret
      exact ⟨by rw [← HFa.out]; rfl, by rw [← HEa.out]; exact HT.out.cur, HT.out.gr⟩
    · obtain ⟨q, rfl⟩ : ∃ q, m = q + 1 := ⟨m - 1, by omega⟩
      have hq1 : (0 : Int) < (q : Int) + 1 := by omega
      have hqm : q ≤ 1000 := by have := HL.out; omega
      clear h0
      have HB3 : Hid (∀ W, CurX W cb A n c zs t → _) := hide (fun W h => l1ByteX cb A n c zs t W h)
      obtain ⟨hx0, hx1⟩ := byV_bd zs t
      have HFs : Hid (F = acc ++ UInt8.ofNat (txB st (byV zs t)).toNat :: txL zs st q (byS zs t)) := hide HFm.out
      have HEs : Hid (sE = txE zs q (byS zs t)) := hide HEm.out
      clear HFm HEm
      generalize byV zs t = x at HB3 hx0 hx1 HFs
      generalize byS zs t = t' at HB3 HFs HEs
      go_wp2_with fail
      refine (HB3.out _ HT.out.cur).mono ?_
      rintro e w3 ⟨rfl, hc, hg⟩
      have HT3 := hide (HT.out.drawn hcl hc hg)
      have h2a : 0 ≤ x % 2 := by omega
      have h2b : x % 2 ≤ 255 := by omega
      have h4a : 0 ≤ 97 + x % 4 := by omega
      have h4b : 97 + x % 4 ≤ 255 := by omega
      have hle := HT3.out.gr.size
      have HLE : Hid (w.heap.size ≤ w3.heap.size) := hide hle
      clear hc hg hle
      by_cases s1 : st = 1
      · subst s1
        have HFb : Hid (F = acc ++ (UInt8.ofNat (x % 2).toNat :: txL zs 1 q t')) := hide HFs.out
        go_wp2_with (at_builtin; refine wpList_app _ rfl _ _ 22 rfl w.heap.size 5 i0 (.int .u8 0) 1 Tryd.underlying22 hi hz0 hz1 hz2 rfl _ acc.length (bvals acc) rfl (HT3.out.own.alloc _) _ 1 1 [.int .u8 (x % 2)] _ rfl rfl (rdB_new _ _ _) (by simp [Value.oneCell']) ?c1 ?c2 ?c3 ?_)
        case c1 => have := HL.out; unfold maxLen; omega
        case c2 => have := HL.out; omega
        case c3 => have := HLE.out; simp; omega
        intro v' w4 hown hgr _
        have HT4 := hide (HT3.out.app hcl h2a h2b hown hgr)
        clear hown hgr
        go_wp2
        go_roundg (q + 1)
        case measure => have := HG.out; omega
        case rel => exact ⟨_, rfl, q, _, t', by have := HL.out; simp; omega, by omega, by go_num, HT4.out, by rw [List.append_assoc]; exact HFb.out, HEs.out⟩
      · by_cases s2 : st = 2
        · subst s2
          have HFb : Hid (F = acc ++ (UInt8.ofNat (97 + x % 4).toNat :: txL zs 2 q t')) := hide HFs.out
          go_wp2_with (at_builtin; refine wpList_app _ rfl _ _ 22 rfl w.heap.size 5 i0 (.int .u8 0) 1 Tryd.underlying22 hi hz0 hz1 hz2 rfl _ acc.length (bvals acc) rfl (HT3.out.own.alloc _) _ 1 1 [.int .u8 (97 + x % 4)] _ rfl rfl (rdB_new _ _ _) (by simp [Value.oneCell']) ?c1 ?c2 ?c3 ?_)
          case c1 => have := HL.out; unfold maxLen; omega
          case c2 => have := HL.out; omega
          case c3 => have := HLE.out; simp; omega
          intro v' w4 hown hgr _
          have HT4 := hide (HT3.out.app hcl h4a h4b hown hgr)
          clear hown hgr
          go_wp2
          go_roundg (q + 1)
          case measure => have := HG.out; omega
          case rel => exact ⟨_, rfl, q, _, t', by have := HL.out; simp; omega, by omega, by go_num, HT4.out, by rw [List.append_assoc]; exact HFb.out, HEs.out⟩
        · have t1 : ((st : Int) == 1) = false := by rw [beq_eq_false_iff_ne]; omega
          have t2 : ((st : Int) == 2) = false := by rw [beq_eq_false_iff_ne]; omega
          have HFb : Hid (F = acc ++ (UInt8.ofNat x.toNat :: txL zs st q t')) := hide (by have h := HFs.out; unfold txB at h; rw [if_neg s1, if_neg s2] at h; exact h)
          clear s1 s2
          go_wp2_with (at_builtin; refine wpList_app _ rfl _ _ 22 rfl w.heap.size 5 i0 (.int .u8 0) 1 Tryd.underlying22 hi hz0 hz1 hz2 rfl _ acc.length (bvals acc) rfl (HT3.out.own.alloc _) _ 1 1 [.int .u8 (x)] _ rfl rfl (rdB_new _ _ _) (by simp [Value.oneCell']) ?c1 ?c2 ?c3 ?_)
          case c1 => have := HL.out; unfold maxLen; omega
          case c2 => have := HL.out; omega
          case c3 => have := HLE.out; simp; omega
          intro v' w4 hown hgr _
          have HT4 := hide (HT3.out.app hcl hx0 hx1 hown hgr)
          clear hown hgr
          go_wp2
          go_roundg (q + 1)
          case measure => have := HG.out; omega
          case rel => exact ⟨_, rfl, q, _, t', by have := HL.out; simp; omega, by omega, by go_num, HT4.out, by rw [List.append_assoc]; exact HFb.out, HEs.out⟩

set_option maxRecDepth 100000 in
set_option maxHeartbeats 1600000 in
theorem drawHex_any (A : Option Addr) (n c : Nat) (zs : List Int) (w : World) (hn : n = zs.length) (hz : n ≤ 1048580) (hr : RdB .u8 w A zs w.heap.size) :
    Calls Tryd.prog 6 #[.slice A n c] w fun e w' => (∃ s : ByteArray, e = .returned (.string s) ∧ s.size ≤ 40) ∧ Below w.heap.size w w' := by
  have HC := hide (l1NewX A n c zs w hn hz hr)
  clear hn hz hr
  go_enter Tryd.func6, Tryd.ntmps6
  go_wp2_with fail
  refine HC.out.mono ?_
  rintro e w1 ⟨rfl, hc, hb⟩
  have HCU := hide hc
  have HB := hide hb
  clear hc hb
  go_wp2_with fail
  refine (l1TextX _ _ _ _ _ _ 40 _ HCU.out (by omega)).mono ?_
  rintro e w2 ⟨rfl, hc, hg⟩
  have hs := textV_length zs (most := ((40 : Nat) : Int)) (by omega) (0, nwH zs (min n 4000))
  generalize textV zs ((40 : Nat) : Int) (0, nwH zs (min n 4000)) = l at hs ⊢
  have HS : Hid ((⟨l.toArray⟩ : ByteArray).size ≤ 40) := hide (by show l.toArray.size ≤ 40; simp; omega)
  generalize (⟨l.toArray⟩ : ByteArray) = s at HS ⊢
  have HB2 := hide (below_grown HB.out hg (Nat.le_refl _) HB.out.size)
  clear hs hc hg
  go_wp2
  go_ret
  exact ⟨⟨s, rfl, HS.out⟩, HB2.out⟩
end Go.Proofs.YtciehbedpjfflabDoor
