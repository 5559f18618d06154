/-
  Copies of lists of slots: l3Copy and slices.Clone (one row), l8Rows (the rows of one side).
-/
import Derived.Test.YtdhocncfpapncabOwnM
namespace Go.Proofs.Ytdhocncfpapncab
open Go.RowKit
set_option linter.unusedVariables false

def RowRes (w w' : World) (e : Ending) (zs : List Int) : Prop := ∃ v, e = .returned v ∧ w'.ownsRow w.heap.size 3 1 v zs.length (ints zs) ∧ Below w.heap.size w w'
set_option maxRecDepth 100000 in
set_option maxHeartbeats 800000 in
theorem l3Copy_row (A : Option Addr) (n c : Nat) (zs : List Int) (w : World) (hn : n = zs.length) (hz : n ≤ 2097152) (hr : RdB .i64 w A zs w.heap.size) :
    Calls Try.prog 51 #[.slice A n c] w fun e w' => RowRes w w' e zs := by
  obtain ⟨i0, hi, hz0, hz1, hz2⟩ := info_parts intInfo2
  have hm : n = (ints zs).length := by rw [ints_length]; exact hn
  have HM := hide hm
  have HN := hide hn
  have HR := hide (hr.keep (w' := w.alloc (.cells #[] 3)) fun p hp => World.cell?_alloc_lt w _ p hp).rv
  have HZ := hide hz
  clear hn hr hz hm
  go_enter Try.func51, Try.ntmps51
  go_wp2_with (at_builtin; refine wpList_app _ rfl _ _ 35 rfl w.heap.size 3 i0 (.int .i64 0) 8 Try.underlying35 hi hz0 hz1 hz2 rfl _ 0 [] rfl (World.ownsRow_made w #[] 0 (Nat.le_refl _) (by decide) rfl) A n c (ints zs) _ rfl HM.out HR.out (ints_one zs) ?c1 ?c2 ?c3 ?_)
  case c1 => have := HZ.out; unfold maxLen; omega
  case c2 => have := HZ.out; omega
  case c3 => simp
  intro v' w1 hown hgr _
  have HO : Hid (w1.ownsRow w.heap.size 3 1 v' zs.length (ints zs)) := hide (by rw [HN.out] at hown; simpa using hown)
  have HG := hide (((Below.refl w.heap.size w).alloc (Nat.le_refl _) _).grown hgr (by simp) (fun k hk => by simp [Value.ownBlock] at hk; omega))
  clear hgr hown
  go_wp2
  go_ret
  exact ⟨v', rfl, HO.out, HG.out⟩
set_option maxRecDepth 100000 in
set_option maxHeartbeats 800000 in
theorem clone_some (a : Addr) (n c : Nat) (zs : List Int) (w : World) (hn : n = zs.length) (hz : n ≤ 2097152) (hr : RdB .i64 w (some a) zs w.heap.size) :
    Calls Try.prog 40 #[.slice (some a) n c] w fun e w' => RowRes w w' e zs := by
  obtain ⟨i0, hi, hz0, hz1, hz2⟩ := info_parts intInfo2
  have hm : n = (ints zs).length := by rw [ints_length]; exact hn
  have HM := hide hm
  have HN := hide hn
  have HR := hide (hr.keep (w' := w.alloc (.cells #[] 3)) fun p hp => World.cell?_alloc_lt w _ p hp).rv
  have HZ := hide hz
  clear hn hr hz hm
  have hnil : ∀ W : World, (binOp .eql 35 (.slice (some a) n c) (.slice none 0 0)).run Try.prog W = .ok (.bool false) W := fun W => Lib.run_eql_slice_nil W _ 3 (some a) n c 0 0 Try.underlying35
  go_enter Try.func40, Try.ntmps40
  go_wp2_with (at_builtin; refine wpList_app _ rfl _ _ 35 rfl w.heap.size 3 i0 (.int .i64 0) 8 Try.underlying35 hi hz0 hz1 hz2 rfl _ 0 [] rfl (World.ownsRow_made w #[] 0 (Nat.le_refl _) (by decide) rfl) (some a) n c (ints zs) _ rfl HM.out HR.out (ints_one zs) ?c1 ?c2 ?c3 ?_)
  case c1 => have := HZ.out; unfold maxLen; omega
  case c2 => have := HZ.out; omega
  case c3 => simp
  intro v' w1 hown hgr _
  have HO : Hid (w1.ownsRow w.heap.size 3 1 v' zs.length (ints zs)) := hide (by rw [HN.out] at hown; simpa using hown)
  have HG := hide (((Below.refl w.heap.size w).alloc (Nat.le_refl _) _).grown hgr (by simp) (fun k hk => by simp [Value.ownBlock] at hk; omega))
  clear hgr hown
  go_wp2
  go_ret
  exact ⟨v', rfl, HO.out, HG.out⟩
theorem clone_none (n c : Nat) (w : World) : Calls Try.prog 40 #[.slice none n c] w fun e w' => RowRes w w' e [] := by
  have hnil : ∀ W : World, (binOp .eql 35 (.slice none n c) (.slice none 0 0)).run Try.prog W = .ok (.bool true) W := fun W => Lib.run_eql_slice_nil W _ 3 none n c 0 0 Try.underlying35
  go_enter Try.func40, Try.ntmps40
  go_wp2
  go_ret
  exact ⟨_, rfl, World.ownsRow_nil _ _ _ _, Below.refl _ _⟩
theorem clone_row (A : Option Addr) (n c : Nat) (zs : List Int) (w : World) (hn : n = zs.length) (hz : n ≤ 2097152) (hr : RdB .i64 w A zs w.heap.size) :
    Calls Try.prog 40 #[.slice A n c] w fun e w' => RowRes w w' e zs := by
  cases A with
  | some a => exact clone_some a n c zs w hn hz hr
  | none =>
    have : zs = [] := by
      cases zs with
      | nil => rfl
      | cons x xs => obtain ⟨b, off, e, _⟩ := hr 0 (by simp); cases e
    subst this
    exact clone_none n c w

/-- The first k rows have been copied. -/
structure RInv (w wr : World) (v : Value) (us : List Value) (z : List (List Int)) (k lo : Nat) : Prop where
  own : wr.ownsRow lo 37 1 v k us
  rows : RowsU true wr us (z.take k) lo wr.heap.size v.ownBlock
  bel : Below w.heap.size w wr
  le : lo ≤ wr.heap.size
theorem take_at {z : List (List Int)} {k j : Nat} (hj : j < k) : (z.take k).getD j [] = z.getD j [] := by simp [List.getD, hj]
theorem RInv.below {w wr w' : World} {v : Value} {us : List Value} {z : List (List Int)} {k lo : Nat} (h : RInv w wr v us z k lo) (hb : Below wr.heap.size wr w') : RInv w w' v us z k lo :=
  ⟨h.own.kept (grown_below hb none) (by cases he : v.ownBlock with | none => exact .inl rfl | some g => exact .inr (by simp)), ⟨h.rows.len, fun j hj => (h.rows.el j hj).below hb, fun j hj b hb' => ⟨(h.rows.ins j hj b hb').1, Nat.lt_of_lt_of_le (h.rows.ins j hj b hb').2.1 hb.size, (h.rows.ins j hj b hb').2.2⟩, h.rows.dis⟩, below_go h.bel hb, Nat.le_trans h.le hb.size⟩
theorem RInv.app {w wr w1 w2 w3 : World} {v v' u : Value} {us : List Value} {z : List (List Int)} {k lo : Nat} (h : RInv w wr v us z k lo) (hk : k < z.length) (hw : w.heap.size ≤ lo) (hb : Below wr.heap.size wr w1) (hu : w1.ownsRow wr.heap.size 3 1 u (z.getD k []).length (ints (z.getD k [])))
    (hb2 : Below w1.heap.size w1 w2) (hown : w3.ownsRow lo 37 1 v' (k + 1) (us ++ [u])) (hgr : w2.grownBy w3 v.ownBlock) (hv : v'.ownBlock = v.ownBlock ∨ v'.ownBlock = some w2.heap.size) : RInv w w3 v' (us ++ [u]) z (k + 1) lo := by
  have h1 := (h.below hb).below hb2
  have hlen : us.length = k := by have := h.rows.len; rw [List.length_take] at this; omega
  have hu1 := (Sr.of_row hu).below hb2
  have hul := hu.lt
  have hvl := h.own.lt
  have s1 := hb.size
  have s2 := hb2.size
  have s3 := hgr.size
  have hold : ∀ j, j < k → (us ++ [u]).getD j undef = us.getD j undef := fun j hj => by simp [List.getD, List.getElem?_append, show j < us.length by omega]
  have hnew : (us ++ [u]).getD k undef = u := by simp [List.getD, hlen]
  have tl : ∀ m, m ≤ z.length → (z.take m).length = m := fun m hm => by rw [List.length_take]; omega
  refine ⟨hown, ⟨by rw [List.length_append, tl _ (by omega), hlen]; rfl, fun j hj => ?_, fun j hj b hb' => ?_, fun i j hi hj hne b hb' => ?_⟩, h1.bel.grown hgr (by have := h1.le; omega) (fun g e => by have := (hvl g e).1; omega), by have := h1.le; omega⟩
  · rw [tl _ (by omega)] at hj
    rw [take_at hj]
    by_cases e : j = k
    · subst e
      rw [hnew]
      exact hu1.grown hgr (fun g hg e => by have := (hul g hg).1; have := (hvl g e).2; omega)
    · rw [hold j (by omega)]
      have := h1.rows.el j (by rw [tl _ (by omega)]; omega)
      rw [take_at (by omega)] at this
      exact this.grown hgr (fun g hg e => (h1.rows.ins j (by rw [tl _ (by omega)]; omega) g hg).2.2 e)
  · rw [tl _ (by omega)] at hj
    by_cases e : j = k
    · subst e
      rw [hnew] at hb'
      have h5 := hul b hb'
      refine ⟨by have := h.le; omega, by omega, fun e => ?_⟩
      rcases hv with hv | hv
      · rw [hv] at e; have := (hvl b e).2; omega
      · rw [hv] at e; simp only [Option.some.injEq] at e; omega
    · rw [hold j (by omega)] at hb'
      have h5 := h.rows.ins j (by rw [tl _ (by omega)]; omega) b hb'
      refine ⟨h5.1, by omega, fun e => ?_⟩
      rcases hv with hv | hv
      · rw [hv] at e; exact h5.2.2 e
      · rw [hv] at e; simp only [Option.some.injEq] at e; omega
  · rw [tl _ (by omega)] at hi hj
    by_cases e : i = k
    · subst e
      rw [hnew] at hb'
      rw [hold j (by omega)]
      intro e2
      have h5 := h.rows.ins j (by rw [tl _ (by omega)]; omega) b e2
      have := (hul b hb').1
      omega
    · rw [hold i (by omega)] at hb'
      have h5 := h.rows.ins i (by rw [tl _ (by omega)]; omega) b hb'
      by_cases e2 : j = k
      · subst e2
        rw [hnew]
        intro e3
        have := (hul b e3).1
        omega
      · rw [hold j (by omega)]
        exact h.rows.dis i j (by rw [tl _ (by omega)]; omega) (by rw [tl _ (by omega)]; omega) hne b hb'
theorem RInv.fin {w wr : World} {v : Value} {us : List Value} {z : List (List Int)} {lo : Nat} (h : RInv w wr v us z z.length lo) : OwnM true wr v z lo wr.heap.size := by
  refine ⟨us, Sr.of_row h.own, h.own.lt, ?_⟩
  have := h.rows
  rwa [List.take_length] at this
def MRes (w w' : World) (e : Ending) (z : List (List Int)) : Prop := ∃ C k, e = .returned (.slice C z.length k) ∧ OwnM true w' (.slice C z.length k) z w.heap.size w'.heap.size ∧ Below w.heap.size w w'
theorem RInv.ret {w wr : World} {v : Value} {us : List Value} {z : List (List Int)} (h : RInv w wr v us z z.length w.heap.size) : MRes w wr (.returned v) z := by
  obtain ⟨A, c, e, h1, h2⟩ := (Sr.of_row h.own).shape
  have hl : us.length = z.length := by have := h.rows.len; rwa [List.take_length] at this
  rw [hl] at e
  have h3 := h.fin
  rw [e] at h3 ⊢
  exact ⟨A, c, rfl, h3, h.bel⟩
theorem conInfo2 : ∃ i, Try.prog.info? 37 = some i ∧ i.zero = some (.agg #[.slice none 0 0]) ∧ i.size = 1 ∧ i.bytes = 24 := by
  obtain ⟨i, hi, hzz⟩ := Option.map_eq_some_iff.1 listInfo
  simp only [Prod.mk.injEq] at hzz
  exact ⟨i, hi, hzz.1, hzz.2.1, hzz.2.2⟩
theorem rdV_one {w : World} {b : Nat} {u : Value} (h : w.cell? ⟨b, 0, none⟩ = some u) : RdV w (some ⟨b, 0, none⟩) [u] (b + 1) := fun j hj => by
  have : j = 0 := by simp at hj; omega
  subst this
  exact ⟨b, 0, rfl, by omega, h⟩
set_option maxRecDepth 100000 in
set_option maxHeartbeats 1600000 in
theorem l8Rows_any (A : Option Addr) (n c : Nat) (z : List (List Int)) (w : World) (hn : n = z.length) (hm : n ≤ 1048576) (hs : ∀ j, j < z.length → (z.getD j []).length ≤ 1048576) (ha : RdM w A z w.heap.size) :
    Calls Try.prog 44 #[.slice A n c] w fun e w' => MRes w w' e z := by
  obtain ⟨i0, hi, hz0, hz1, hz2⟩ := conInfo2
  have HN := hide hn
  have HA := hide ha
  have HS := hide hs
  have hn2 : (n : Int) ≤ 1048576 := by omega
  have H0 : Hid (RInv w (w.alloc (.cells #[] 37)) (.slice (some ⟨w.heap.size, 0, none⟩) 0 0) [] z 0 w.heap.size) := hide
    ⟨World.ownsRow_made w #[] 0 (Nat.le_refl _) (by decide) rfl, ⟨by simp, fun j hj => by simp at hj, fun j hj => by simp at hj, fun i j hi => by simp at hi⟩, (Below.refl _ _).alloc (Nat.le_refl _) _, by simp⟩
  clear hn ha hs
  go_enter Try.func44, Try.ntmps44
  go_wp2
  go_loopg [3, 4] (n + 1) (fun g v i wo => ∃ wr : World, wr = wo ∧ ∃ k us, k ≤ n ∧ g = n + 1 - k ∧ i = .int .i64 k ∧ RInv w wr v us z k w.heap.size)
  case atStart => exact ⟨_, rfl, 0, [], Nat.zero_le _, rfl, rfl, H0.out⟩
  case round =>
    obtain ⟨wr, rfl, k, us, hk, hg, rfl, hR⟩ := hrel
    have HG := hide hg
    have HR := hide hR
    clear hg hR H0
    by_cases hlt : k < n
    · have hi' : (k : Int) < (n : Int) := by omega
      obtain ⟨b, off, A2, n2, c2, rfl, hb, hcell, hn2, hc2, hcm2, hrd⟩ := (rdM_at HA.out HR.out.bel) k (by have := HN.out; omega)
      have HL := hide (HS.out k (by have := HN.out; omega))
      have HN2 := hide hn2
      have HRD := hide hrd
      clear hn2 hrd hcm2 hc2
      go_wp2_with fail
      refine (l3Copy_row A2 n2 c2 (z.getD k []) wr HN2.out (by have := HL.out; have := HN2.out; omega) HRD.out).mono ?_
      rintro e w1 ⟨u, rfl, hu, hb1⟩
      obtain ⟨C, kc, eu, -, -⟩ := (Sr.of_row hu).shape
      rw [ints_length] at eu
      subst eu
      have HU := hide hu
      have HB1 := hide hb1
      have hb2 : Below w1.heap.size w1 (w1.alloc (.cells #[.slice C (z.getD k []).length kc] 37)) := (Below.refl _ _).alloc (Nat.le_refl _) _
      have HOW := hide (((HR.out.below hb1).below hb2).own)
      have HB2 := hide hb2
      have HV : Hid (RdV (w1.alloc (.cells #[.slice C (z.getD k []).length kc] 37)) (some ⟨w1.heap.size, 0, none⟩) [.slice C (z.getD k []).length kc] (w1.heap.size + 1)) := hide (rdV_one (by go_simp))
      have HLE := hide (Nat.le_trans (HR.out.below hb1).le hb2.size)
      clear hu hb1 hb2 hcell
      go_wp2_with (at_builtin; refine wpList_app _ rfl _ _ 24 rfl w.heap.size 37 i0 (.agg #[.slice none 0 0]) 24 Try.underlying24 hi hz0 hz1 hz2 rfl _ k us rfl HOW.out _ 1 1 [.slice C (z.getD k []).length kc] _ rfl rfl HV.out (by simp [Value.oneCell']) ?c1 ?c2 ?c3 ?_)
      case c1 => unfold maxLen; omega
      case c2 => omega
      case c3 => exact HLE.out
      intro v' w3 hown hgr hv'
      have HR3 := hide (HR.out.app (by have := HN.out; omega) (Nat.le_refl _) HB1.out HU.out HB2.out hown hgr (by simpa using hv'))
      clear hown hgr hv'
      go_wp2
      go_roundg (n + 1 - (k + 1))
      case measure => have := HG.out; omega
      case rel => exact ⟨_, rfl, k + 1, _, by omega, rfl, by go_num, HR3.out⟩
    · have hi' : ¬ (k : Int) < (n : Int) := by omega
      obtain rfl : k = z.length := by have := HN.out; omega
      have HX := hide HR.out.ret
      go_wp2
      go_ret
      exact HX.out
end Go.Proofs.Ytdhocncfpapncab
