/-
  Carved: the slots whose page has a class that reaches them. The contracts.
-/
import Derived.Test.YtdhocncfpapncacClassAt
namespace Go.Proofs.Ytdhocncfpapncac
open Go.RowKit
set_option linter.unusedVariables false

def carvN (y : List Int) : Nat → List Int
  | 0 => []
  | k + 1 => carvN y k ++ if 0 ≤ clR y k then [(k : Int)] else []
theorem carvN_le (y : List Int) (k : Nat) : (carvN y k).length ≤ k := by
  induction k with
  | zero => exact Nat.le_refl _
  | succ k ih =>
    unfold carvN
    rw [List.length_append]
    split <;> simp <;> omega
def carvS (x y : List Int) (k : Nat) : List Int := if shapeR x y then carvN y k else []
def carvR (x y : List Int) : List Int := carvS x y 24
theorem carvS_le (x y : List Int) (k : Nat) : (carvS x y k).length ≤ k := by
  unfold carvS
  split
  · exact carvN_le y k
  · simp
theorem carvS_yes {x y : List Int} {k : Nat} (h : shapeR x y = true) (hc : 0 ≤ clR y k) : carvS x y (k + 1) = carvS x y k ++ [(k : Int)] := by
  unfold carvS; rw [h]; simp [carvN, hc]
theorem carvS_no {x y : List Int} {k : Nat} (h : shapeR x y = true) (hc : ¬ 0 ≤ clR y k) : carvS x y (k + 1) = carvS x y k := by
  unfold carvS; rw [h]; simp only [if_true, carvN]; rw [if_neg hc, List.append_nil]
theorem carvS_off {x y : List Int} (k j : Nat) (h : shapeR x y = false) : carvS x y k = carvS x y j := by
  unfold carvS; rw [h]; rfl

theorem rd_one {w : World} {v : Value} {T : TypeId} : RdV (w.alloc (.cells #[v] T)) (some ⟨w.heap.size, 0, none⟩) [v] (w.heap.size + 1) := fun j hj => by
  have : j = 0 := by simpa using hj
  subst this
  exact ⟨w.heap.size, 0, rfl, by omega, cell_of_row _ _ _ _ _ _ (heap_alloc_new _ _)⟩
theorem row_below {w w' : World} {base : Nat} {e : TypeId} {v : Value} {n : Nat} {xs : List Value} (h : w.ownsRow base e 1 v n xs) (hb : Below w.heap.size w w') : w'.ownsRow base e 1 v n xs :=
  h.kept (grown_below hb none) (by cases he : v.ownBlock with | none => exact .inl rfl | some g => exact .inr (by simp))
theorem box_grown {W W' : World} {row : Option Nat} {p : Addr} (hg : W.grownBy W' row) (hp : p.block < W.heap.size) (hr : ∀ k, row = some k → p.block ≠ k) : W'.cell? p = W.cell? p :=
  World.cell?_of_block (hg.block p.block hp (fun e => hr _ e.symm rfl))
theorem shape6 {x y : List Int} (h : shapeR x y = true) : 6 = y.length := by
  unfold shapeR at h
  simp only [Bool.and_eq_true, decide_eq_true_eq] at h
  exact h.1.2.symm
structure CarvRel (w wr : World) (u0 u1 : Value) (acc : List Int) (v : Value) : Prop where
  own : wr.ownsRow (w.heap.size + 1) 3 1 v acc.length (ints acc)
  b0 : wr.cell? ⟨w.heap.size, 0, none⟩ = some u0
  b1 : wr.cell? ⟨w.heap.size, 1, none⟩ = some u1
  lt : w.heap.size + 1 ≤ wr.heap.size
  bel : Below w.heap.size w wr
theorem CarvRel.below {w wr w1 : World} {u0 u1 v : Value} {acc : List Int} (h : CarvRel w wr u0 u1 acc v) (hb : Below wr.heap.size wr w1) : CarvRel w w1 u0 u1 acc v :=
  ⟨row_below h.own hb, by rw [hb.cell (by have := h.lt; show w.heap.size < _; omega)]; exact h.b0, by rw [hb.cell (by have := h.lt; show w.heap.size < _; omega)]; exact h.b1, Nat.le_trans h.lt hb.size, h.bel.trans (hb.mono h.bel.size)⟩
theorem carv_own {w w' : World} {v : Value} {n : Nat} {zs : List Int} (h : w'.ownsRow (w.heap.size + 1) 3 1 v n (ints zs)) :
    ∃ A' c' F, v = .slice A' n c' ∧ n = zs.length ∧ Own 3 w' (.slice A' n c') (ints zs) F ∧ (∀ g, g ∈ F → w.heap.size ≤ g) := by
  obtain ⟨A', c', F, rfl, hn, ho, hF⟩ := own_of_row h
  rw [ints_length] at hn
  exact ⟨A', c', F, rfl, hn, ho, fun g hg => by have := (hF g hg).1; omega⟩
theorem CarvRel.start (w : World) (u0 u1 : Value) : CarvRel w ((w.alloc (.cells #[u0, u1] 26)).alloc (.cells #[] 3)) u0 u1 [] (.slice (some ⟨w.heap.size + 1, 0, none⟩) 0 0) := by
  have hsz : (w.alloc (.cells #[u0, u1] 26)).heap.size = w.heap.size + 1 := by simp
  refine ⟨?_, by go_simp, by go_simp, by simp, ((Below.refl _ _).alloc (Nat.le_refl _) _).alloc (by simp) _⟩
  have h := World.ownsRow_made (base := w.heap.size + 1) (e := 3) (size := 1) (w.alloc (.cells #[u0, u1] 26)) #[] 0 (by rw [hsz]; exact Nat.le_refl _) (by decide) rfl
  rw [hsz] at h
  exact h
theorem CarvRel.app {w wr w' : World} {u0 u1 v v' : Value} {acc : List Int} {k : Int} {o : Obj} (h : CarvRel w wr u0 u1 acc v) (hown : w'.ownsRow (w.heap.size + 1) 3 1 v' (acc.length + 1) (ints acc ++ [.int .i64 k])) (hgr : (wr.alloc o).grownBy w' v.ownBlock) : CarvRel w w' u0 u1 (acc ++ [k]) v' := by
  have hk := h.own.lt
  have hz := h.lt
  refine ⟨by rw [List.length_append]; simpa [ints] using hown, ?_, ?_, ?_, ?_⟩
  · rw [box_grown hgr (by simp; omega) (fun g e => by have := (hk g e).1; show w.heap.size ≠ g; omega), World.cell?_alloc_lt _ _ _ (by show w.heap.size < _; omega)]; exact h.b0
  · rw [box_grown hgr (by simp; omega) (fun g e => by have := (hk g e).1; show w.heap.size ≠ g; omega), World.cell?_alloc_lt _ _ _ (by show w.heap.size < _; omega)]; exact h.b1
  · have := hgr.size; simp at this; omega
  · exact (h.bel.alloc h.bel.size _).grown hgr (by simp; omega) (fun g e => by have := (hk g e).1; omega)

set_option maxRecDepth 100000 in
set_option maxHeartbeats 3200000 in
theorem specCarved_any (A A' : Option Addr) (n c n' c' : Nat) (x y : List Int) (w : World) (hn : n = x.length) (hn' : n' = y.length) (hz : n ≤ 1048576) (hz' : n' ≤ 1048576) (ha : RdB .i64 w A x w.heap.size) (ha' : RdB .i64 w A' y w.heap.size) :
    Calls Try.prog 13 #[.agg #[.slice A n c, .slice A' n' c']] w fun e w' => ∃ A2 c2 F, e = .returned (.slice A2 (carvR x y).length c2) ∧ Own 3 w' (.slice A2 (carvR x y).length c2) (ints (carvR x y)) F ∧ (∀ g, g ∈ F → w.heap.size ≤ g) ∧ Below w.heap.size w w' := by
  obtain ⟨i0, hi, hz0, hz1, hz2⟩ := info_parts intInfo2
  have HN := hide hn
  have HN' := hide hn'
  have HA := hide ha
  have HA' := hide ha'
  have HS := hide (CarvRel.start w (.slice A n c) (.slice A' n' c'))
  have q1 : (n : Int) ≤ 1048576 := by omega
  have q2 : (n' : Int) ≤ 1048576 := by omega
  clear hn hn' ha ha'
  go_enter Try.func13, Try.ntmps13
  go_wp2
  go_loopg [3, 4] 25 (fun g v i wr => ∃ k : Nat, k ≤ 24 ∧ g = 25 - k ∧ i = .int .i64 k ∧ CarvRel w wr (.slice A n c) (.slice A' n' c') (carvS x y k) v ∧ (shapeR x y = false → k = 0))
  case atStart => exact ⟨0, by omega, rfl, rfl, by rw [show carvS x y 0 = [] by unfold carvS carvN; split <;> rfl]; exact HS.out, fun _ => rfl⟩
  case round =>
    obtain ⟨k, hk, hg, rfl, hR, hsh⟩ := hrel
    have HG := hide hg
    have HR := hide hR
    have HSH := hide hsh
    have hle := carvS_le x y k
    clear hg hR hsh
    by_cases hlt : k < 24
    · have hi' : (k : Int) < 24 := by omega
      have b0 := HR.out.b0
      have b1 := HR.out.b1
      go_wp2_with fail
      refine (specShape_any A A' n c n' c' x y _ HN.out HN'.out hz hz' ((HA.out.below HR.out.bel (Nat.le_refl _)).more HR.out.bel.size) ((HA'.out.below HR.out.bel (Nat.le_refl _)).more HR.out.bel.size)).mono ?_
      rintro e w1 ⟨rfl, hb⟩
      have HR1 := hide (HR.out.below hb)
      clear hb HR b0 b1
      cases h : shapeR x y
      · have HX : Hid (carvS x y k = carvR x y) := hide (carvS_off k 24 h)
        obtain ⟨A2, c2, F, rfl, hlen, ho, hF⟩ := carv_own HR1.out.own
        have HO := hide ho
        have HF := hide hF
        clear ho hF h hlen
        rw [HX.out] at HO
        go_wp2
        go_ret
        first | exact ⟨A2, c2, F, by rw [HX.out]; rfl, HO.out, HF.out, HR1.out.bel⟩ | exact ⟨A2, c2, F, rfl, HO.out, HF.out, HR1.out.bel⟩ | exact ⟨A2, c2, rfl, F, HO.out, HF.out, HR1.out.bel⟩
      · have H6 := hide (shape6 h)
        have HH := hide h
        have e6 : n' = 6 := by rw [HN'.out, ← H6.out]
        subst e6
        have b0 := HR1.out.b0
        have b1 := HR1.out.b1
        clear h
        go_wp2_with fail
        refine (specClass_any A A' n c c' y k _ H6.out ((HA'.out.below HR1.out.bel (Nat.le_refl _)).more HR1.out.bel.size)).mono ?_
        rintro e w2 ⟨rfl, hb⟩
        have HR2 := hide (HR1.out.below hb)
        clear hb HR1 b0 b1
        obtain ⟨v, hv⟩ : ∃ v, v = clR y k := ⟨_, rfl⟩
        rw [← hv]
        by_cases hv0 : 0 ≤ v
        · have HX := hide (carvS_yes (k := k) HH.out (by rw [← hv]; exact hv0))
          clear hv
          go_wp2_with (at_builtin; refine wpList_app _ rfl _ _ 24 rfl (w.heap.size + 1) 3 i0 (.int .i64 0) 8 Try.underlying24 hi hz0 hz1 hz2 rfl _ (carvS x y k).length (ints (carvS x y k)) rfl (HR2.out.own.alloc _) _ 1 1 [.int .i64 (k : Int)] _ rfl rfl rd_one ?c1 ?c2 ?c3 ?c4 ?_)
          case c1 => first | rfl | (intro u hu; simp at hu; subst hu; rfl)
          case c2 => unfold maxLen; omega
          case c3 => omega
          case c4 => have := HR2.out.lt; simp; omega
          intro v' w3 hown hgr _
          have HR3 := hide (HR2.out.app hown hgr)
          clear hown hgr
          rw [← HX.out] at HR3
          go_wp2
          go_roundg (25 - (k + 1))
          case measure => have := HG.out; omega
          case rel => exact ⟨k + 1, by omega, rfl, by go_num, HR3.out, fun h => by rw [HH.out] at h; cases h⟩
        · have HX := hide (carvS_no (k := k) HH.out (by rw [← hv]; exact hv0))
          clear hv
          rw [← HX.out] at HR2
          go_wp2
          go_roundg (25 - (k + 1))
          case measure => have := HG.out; omega
          case rel => exact ⟨k + 1, by omega, rfl, by go_num, HR2.out, fun h => by rw [HH.out] at h; cases h⟩
    · have hi' : ¬ (k : Int) < 24 := by omega
      have hk24 : k = 24 := by omega
      subst hk24
      obtain ⟨A2, c2, F, rfl, hlen, ho, hF⟩ := carv_own HR.out.own
      have HO := hide ho
      have HF := hide hF
      clear ho hF hlen
      go_wp2
      go_ret
      first | exact ⟨A2, c2, F, rfl, HO.out, HF.out, HR.out.bel⟩ | exact ⟨A2, c2, rfl, F, HO.out, HF.out, HR.out.bel⟩

set_option maxRecDepth 100000 in
set_option maxHeartbeats 3200000 in
theorem implCarved_any (A A' : Option Addr) (n c n' c' : Nat) (x y : List Int) (w : World) (hn : n = x.length) (hn' : n' = y.length) (hz : n ≤ 1048576) (hz' : n' ≤ 1048576) (ha : RdB .i64 w A x w.heap.size) (ha' : RdB .i64 w A' y w.heap.size) :
    Calls Try.prog 12 #[.agg #[.slice A n c, .slice A' n' c']] w fun e w' => ∃ A2 c2 F, e = .returned (.slice A2 (carvR x y).length c2) ∧ Own 3 w' (.slice A2 (carvR x y).length c2) (ints (carvR x y)) F ∧ (∀ g, g ∈ F → w.heap.size ≤ g) ∧ Below w.heap.size w w' := by
  obtain ⟨i0, hi, hz0, hz1, hz2⟩ := info_parts intInfo2
  have HN := hide hn
  have HN' := hide hn'
  have HA := hide ha
  have HA' := hide ha'
  have HS := hide (CarvRel.start w (.slice A n c) (.slice A' n' c'))
  have q1 : (n : Int) ≤ 1048576 := by omega
  have q2 : (n' : Int) ≤ 1048576 := by omega
  clear hn hn' ha ha'
  go_enter Try.func12, Try.ntmps12
  go_wp2
  go_loopg [3, 4, 6] 25 (fun g v _z i wr => ∃ k : Nat, k ≤ 24 ∧ g = 25 - k ∧ i = .int .i64 k ∧ CarvRel w wr (.slice A n c) (.slice A' n' c') (carvS x y k) v)
  case atStart => exact ⟨0, by omega, rfl, rfl, by rw [show carvS x y 0 = [] by unfold carvS carvN; split <;> rfl]; exact HS.out⟩
  case round =>
    obtain ⟨k, hk, hg, rfl, hR⟩ := hrel
    have HG := hide hg
    have HR := hide hR
    have hle := carvS_le x y k
    clear hg hR
    by_cases hlt : k < 24
    · have hi' : (k : Int) < 24 := by omega
      have b0 := HR.out.b0
      have b1 := HR.out.b1
      go_wp2_with fail
      refine (implShape_any A A' n c n' c' x y _ HN.out HN'.out hz hz' ((HA.out.below HR.out.bel (Nat.le_refl _)).more HR.out.bel.size) ((HA'.out.below HR.out.bel (Nat.le_refl _)).more HR.out.bel.size)).mono ?_
      rintro e w1 ⟨rfl, hb⟩
      have HR1 := hide (HR.out.below hb)
      clear hb HR b0 b1
      cases h : shapeR x y
      · have HX := hide (carvS_off k (k + 1) h)
        clear h
        rw [HX.out] at HR1
        go_wp2
        go_roundg (25 - (k + 1))
        case measure => have := HG.out; omega
        case rel => exact ⟨k + 1, by omega, rfl, by go_num, HR1.out⟩
      · have H6 := hide (shape6 h)
        have HH := hide h
        have e6 : n' = 6 := by rw [HN'.out, ← H6.out]
        subst e6
        have b0 := HR1.out.b0
        have b1 := HR1.out.b1
        clear h
        go_wp2_with fail
        refine (implClass_any A A' n c c' y k _ H6.out ((HA'.out.below HR1.out.bel (Nat.le_refl _)).more HR1.out.bel.size)).mono ?_
        rintro e w2 ⟨rfl, hb⟩
        have HR2 := hide (HR1.out.below hb)
        clear hb HR1 b0 b1
        obtain ⟨v, hv⟩ : ∃ v, v = clR y k := ⟨_, rfl⟩
        rw [← hv]
        by_cases hv0 : 0 ≤ v
        · have HX := hide (carvS_yes (k := k) HH.out (by rw [← hv]; exact hv0))
          clear hv
          go_wp2_with (at_builtin; refine wpList_app _ rfl _ _ 24 rfl (w.heap.size + 1) 3 i0 (.int .i64 0) 8 Try.underlying24 hi hz0 hz1 hz2 rfl _ (carvS x y k).length (ints (carvS x y k)) rfl (HR2.out.own.alloc _) _ 1 1 [.int .i64 (k : Int)] _ rfl rfl rd_one ?c1 ?c2 ?c3 ?c4 ?_)
          case c1 => first | rfl | (intro u hu; simp at hu; subst hu; rfl)
          case c2 => unfold maxLen; omega
          case c3 => omega
          case c4 => have := HR2.out.lt; simp; omega
          intro v' w3 hown hgr _
          have HR3 := hide (HR2.out.app hown hgr)
          clear hown hgr
          rw [← HX.out] at HR3
          go_wp2
          go_roundg (25 - (k + 1))
          case measure => have := HG.out; omega
          case rel => exact ⟨k + 1, by omega, rfl, by go_num, HR3.out⟩
        · have HX := hide (carvS_no (k := k) HH.out (by rw [← hv]; exact hv0))
          clear hv
          rw [← HX.out] at HR2
          go_wp2
          go_roundg (25 - (k + 1))
          case measure => have := HG.out; omega
          case rel => exact ⟨k + 1, by omega, rfl, by go_num, HR2.out⟩
    · have hi' : ¬ (k : Int) < 24 := by omega
      have hk24 : k = 24 := by omega
      subst hk24
      obtain ⟨A2, c2, F, rfl, hlen, ho, hF⟩ := carv_own HR.out.own
      have HO := hide ho
      have HF := hide hF
      clear ho hF hlen
      go_wp2
      go_ret
      first | exact ⟨A2, c2, F, rfl, HO.out, HF.out, HR.out.bel⟩ | exact ⟨A2, c2, rfl, F, HO.out, HF.out, HR.out.bel⟩
end Go.Proofs.Ytdhocncfpapncac
