/-
  OnList: is a slot on some list? The contracts and the walk of the law.
-/
import Derived.Test.YtnnmdikbcfefjaaLstsM
import Derived.OpenShut
namespace Go.Proofs.Ytnnmdikbcfefjaa
open Go.RowKit
set_option linter.unusedVariables false

theorem anyG_yes {α : Type} (d : α) {q : α → Bool} {l : List α} {k : Nat} (hk : k < l.length) (h : q (l.getD k d) = true) : l.any q = true := by
  have e : l.getD k d = l[k] := by simp [List.getD, hk]
  rw [List.any_eq_true]
  exact ⟨l[k], List.getElem_mem _, by rw [← e]; exact h⟩
theorem anyG_no {α : Type} (d : α) {q : α → Bool} {l : List α} (h : ∀ j, j < l.length → q (l.getD j d) = false) : l.any q = false := by
  rw [List.any_eq_false]
  intro x hx
  obtain ⟨j, hj, rfl⟩ := List.getElem_of_mem hx
  have := h j hj
  have e : l.getD j d = l[j] := by simp [List.getD, hj]
  rw [e] at this
  rw [this]; decide
def has1 (s : Int) (zs : List Int) : Bool := zs.any (fun x => decide (x = s))
def hasR (z y : List (List Int)) (s : Int) : Bool := z.any (has1 s) || y.any (has1 s)
def allN (z : List (List Int)) : Nat → List Int
  | 0 => []
  | k + 1 => allN z k ++ z.getD k []
theorem allN_length (z : List (List Int)) (k : Nat) : (allN z k).length = sumL z k := by
  induction k with
  | zero => rfl
  | succ k ih => simp only [allN, sumL, List.length_append, ih]
theorem allN_any (z : List (List Int)) (q : Int → Bool) : (allN z z.length).any q = z.any (fun l => l.any q) := by
  have h : ∀ k, k ≤ z.length → (allN z k).any q = (z.take k).any (fun l => l.any q) := by
    intro k
    induction k with
    | zero => intro _; simp [allN]
    | succ k ih =>
      intro hk
      have hk' : k < z.length := by omega
      simp only [allN, List.any_append]
      rw [ih (by omega), List.take_add_one, List.any_append]
      simp [List.getD, hk']
  rw [h _ (Nat.le_refl _), List.take_length]
def allR (z y : List (List Int)) : List Int := allN z z.length ++ allN y y.length
theorem allR_has (z y : List (List Int)) (s : Int) : (allR z y).any (fun x => decide (x = s)) = hasR z y s := by
  unfold allR hasR
  rw [List.any_append, allN_any, allN_any]; rfl

/-! all slots, one behind the other -/
theorem row_below {w w' : World} {base : Nat} {e : TypeId} {v : Value} {n : Nat} {xs : List Value} (h : w.ownsRow base e 1 v n xs) (hb : Below w.heap.size w w') : w'.ownsRow base e 1 v n xs :=
  h.kept (grown_below hb none) (by cases he : v.ownBlock with | none => exact .inl rfl | some g => exact .inr (by simp))
theorem box_grown {W W' : World} {row : Option Nat} {p : Addr} (hg : W.grownBy W' row) (hp : p.block < W.heap.size) (hr : ∀ k, row = some k → p.block ≠ k) : W'.cell? p = W.cell? p :=
  World.cell?_of_block (hg.block p.block hp (fun e => hr _ e.symm rfl))
structure AllRel (w wr : World) (u0 u1 : Value) (acc : List Int) (v : Value) : Prop where
  own : wr.ownsRow (w.heap.size + 1) 3 1 v acc.length (ints acc)
  b0 : wr.cell? ⟨w.heap.size, 0, none⟩ = some u0
  b1 : wr.cell? ⟨w.heap.size, 1, none⟩ = some u1
  lt : w.heap.size + 1 ≤ wr.heap.size
  bel : Below w.heap.size w wr
theorem AllRel.start (w : World) (u0 u1 : Value) : AllRel w ((w.alloc (.cells #[u0, u1] 35)).alloc (.cells #[] 3)) u0 u1 [] (.slice (some ⟨w.heap.size + 1, 0, none⟩) 0 0) := by
  have hsz : (w.alloc (.cells #[u0, u1] 35)).heap.size = w.heap.size + 1 := by simp
  refine ⟨?_, by go_simp, by go_simp, by simp, ((Below.refl _ _).alloc (Nat.le_refl _) _).alloc (by simp) _⟩
  have h := World.ownsRow_made (base := w.heap.size + 1) (e := 3) (size := 1) (w.alloc (.cells #[u0, u1] 35)) #[] 0 (by rw [hsz]; exact Nat.le_refl _) (by decide) rfl
  rw [hsz] at h
  exact h
theorem AllRel.app {w wr w' : World} {u0 u1 v v' : Value} {acc news : List Int} (h : AllRel w wr u0 u1 acc v) (hown : w'.ownsRow (w.heap.size + 1) 3 1 v' (acc.length + news.length) (ints acc ++ ints news)) (hgr : wr.grownBy w' v.ownBlock) : AllRel w w' u0 u1 (acc ++ news) v' := by
  have hk := h.own.lt
  have hz := h.lt
  refine ⟨by rw [List.length_append]; simpa [ints] using hown, ?_, ?_, Nat.le_trans hz hgr.size, ?_⟩
  · rw [box_grown hgr (by show w.heap.size < _; omega) (fun g e => by have := (hk g e).1; show w.heap.size ≠ g; omega)]; exact h.b0
  · rw [box_grown hgr (by show w.heap.size < _; omega) (fun g e => by have := (hk g e).1; show w.heap.size ≠ g; omega)]; exact h.b1
  · exact h.bel.grown hgr (by omega) (fun g e => by have := (hk g e).1; omega)
def AllRes (w w' : World) (e : Ending) (zs : List Int) : Prop :=
  ∃ A c F, e = .returned (.slice A zs.length c) ∧ Own 3 w' (.slice A zs.length c) (ints zs) F ∧ (∀ g, g ∈ F → w.heap.size ≤ g) ∧ Below w.heap.size w w'
set_option maxRecDepth 100000 in
set_option maxHeartbeats 3200000 in
theorem specAll_any (A A' : Option Addr) (n c n' c' : Nat) (z y : List (List Int)) (w : World) (hn : n = z.length) (hn' : n' = y.length) (hm : n + sumL z n + n' + sumL y n' ≤ 1048576) (ha : RdM w A z w.heap.size) (ha' : RdM w A' y w.heap.size) :
    Calls Try.prog 26 #[.agg #[.slice A n c, .slice A' n' c']] w fun e w' => AllRes w w' e (allR z y) := by
  obtain ⟨i0, hi, hz0, hz1, hz2⟩ := info_parts intInfo2
  have HN := hide hn
  have HN' := hide hn'
  have HA := hide ha
  have HA' := hide ha'
  have HS := hide (AllRel.start w (.slice A n c) (.slice A' n' c'))
  have HM := hide hm
  have q1 : (n : Int) ≤ 1048576 := by omega
  have q2 : (n' : Int) ≤ 1048576 := by omega
  clear hn hn' ha ha' hm
  go_enter Try.func26, Try.ntmps26
  go_wp2
  go_loopg [3, 4] (n + 1) (fun g v i wr => ∃ k : Nat, k ≤ n ∧ g = n + 1 - k ∧ i = .int .i64 k ∧ AllRel w wr (.slice A n c) (.slice A' n' c') (allN z k) v)
  case atStart => exact ⟨0, by omega, rfl, rfl, HS.out⟩
  case round =>
    obtain ⟨k, hk, hg, rfl, hR⟩ := hrel
    have HG := hide hg
    have HR := hide hR
    clear hg hR
    have b0 := HR.out.b0
    have b1 := HR.out.b1
    by_cases hlt : k < n
    · have hi' : (k : Int) < (n : Int) := by omega
      obtain ⟨b, off, A2, n2, c2, rfl, hb, hcell, hn2, hc2, hcm2, hrd⟩ := (HA.out.below HR.out.bel (Nat.le_refl _)) k (by have := HN.out; omega)
      have HN2 := hide hn2
      have HRD := hide hrd
      have hl1 := allN_length z k
      have hl2 := sumL_le z (show k + 1 ≤ n by omega)
      simp only [sumL] at hl2
      have HL := hide (show (allN z k).length + n2 ≤ 1048576 by have := HM.out; omega)
      clear hn2 hrd hl1 hl2
      go_wp2_with (at_builtin; refine wpList_app _ rfl _ _ 22 rfl (w.heap.size + 1) 3 i0 (.int .i64 0) 8 Try.underlying22 hi hz0 hz1 hz2 rfl _ (allN z k).length (ints (allN z k)) rfl HR.out.own _ n2 c2 (ints (z.getD k [])) _ rfl (by rw [ints_length, HN2.out]) HRD.out.rv ?c1 ?c2 ?c3 ?c4 ?_)
      case c1 => intro u hu; simp only [ints, List.mem_map] at hu; obtain ⟨a, _, rfl⟩ := hu; rfl
      case c2 => have := HL.out; unfold maxLen; omega
      case c3 => have := HL.out; omega
      case c4 => exact HR.out.lt
      intro v' w3 hown hgr _
      rw [HN2.out] at hown
      have HR3 := hide (HR.out.app hown hgr)
      clear hown hgr
      go_wp2
      go_roundg (n + 1 - (k + 1))
      case measure => have := HG.out; omega
      case rel => exact ⟨k + 1, by omega, rfl, by go_num, HR3.out⟩
    · have hi' : ¬ (k : Int) < (n : Int) := by omega
      have hkn : k = n := by omega
      subst hkn
      rename_i v
      go_wp2
      go_loopg [3, 5] (n' + 1) (fun g v i wr => ∃ j : Nat, j ≤ n' ∧ g = n' + 1 - j ∧ i = .int .i64 j ∧ AllRel w wr (.slice A k c) (.slice A' n' c') (allN z k ++ allN y j) v)
      case atStart => exact ⟨0, by omega, rfl, rfl, by simpa [allN] using HR.out⟩
      case round =>
        clear HR HG b0 b1 hi' hlt
        obtain ⟨j, hj, hg, rfl, hR⟩ := hrel
        obtain ⟨acc, hacc⟩ : ∃ acc, acc = allN z k ++ allN y j := ⟨_, rfl⟩
        rw [← hacc] at hR
        have HACC := hide hacc
        clear hacc
        have HG := hide hg
        have HR := hide hR
        clear hg hR
        have b0 := HR.out.b0
        have b1 := HR.out.b1
        by_cases hlt : j < n'
        · have hi' : (j : Int) < (n' : Int) := by omega
          obtain ⟨b, off, A2, n2, c2, rfl, hb, hcell, hn2, hc2, hcm2, hrd⟩ := (HA'.out.below HR.out.bel (Nat.le_refl _)) j (by have := HN'.out; omega)
          have HN2 := hide hn2
          have HRD := hide hrd
          have hl1 := allN_length z k
          have hl3 := allN_length y j
          have hl2 := sumL_le y (show j + 1 ≤ n' by omega)
          simp only [sumL] at hl2
          have HL := hide (show acc.length + n2 ≤ 1048576 by rw [HACC.out, List.length_append]; have := HM.out; omega)
          clear hn2 hrd hl1 hl2 hl3
          go_wp2_with (at_builtin; refine wpList_app _ rfl _ _ 22 rfl (w.heap.size + 1) 3 i0 (.int .i64 0) 8 Try.underlying22 hi hz0 hz1 hz2 rfl _ acc.length (ints acc) rfl HR.out.own _ n2 c2 (ints (y.getD j [])) _ rfl (by rw [ints_length, HN2.out]) HRD.out.rv ?c1 ?c2 ?c3 ?c4 ?_)
          case c1 => intro u hu; simp only [ints, List.mem_map] at hu; obtain ⟨a, _, rfl⟩ := hu; rfl
          case c2 => have := HL.out; unfold maxLen; omega
          case c3 => have := HL.out; omega
          case c4 => exact HR.out.lt
          intro v' w3 hown hgr _
          rw [HN2.out] at hown
          have HR3 := hide (HR.out.app hown hgr)
          clear hown hgr
          rw [HACC.out, List.append_assoc] at HR3
          go_wp2
          go_roundg (n' + 1 - (j + 1))
          case measure => have := HG.out; omega
          case rel => exact ⟨j + 1, by omega, rfl, by go_num, HR3.out⟩
        · have hi' : ¬ (j : Int) < (n' : Int) := by omega
          have hjn : j = n' := by omega
          subst hjn
          have HX : Hid (acc = allR z y) := hide (by rw [HACC.out]; unfold allR; rw [← HN.out, ← HN'.out])
          obtain ⟨A3, c3, F, rfl, hlen, ho, hF⟩ := own_of_row HR.out.own
          rw [HX.out] at ho
          have HO := hide ho
          have HF := hide hF
          clear ho hF hlen
          go_wp2
          go_ret
          exact ⟨A3, c3, F, by rw [← HX.out]; rfl, HO.out, fun g hg => by have := (HF.out g hg).1; omega, HR.out.bel⟩

theorem l8Has_any (A : Option Addr) (n c : Nat) (zs : List Int) (U : Nat) (x : Int) (w : World) (hn : n = zs.length) (hz : n ≤ 2097152) (ha : RdB .i64 w A zs U) :
    Calls Try.prog 28 #[.slice A n c, .int .i64 x] w fun e w' => e = .returned (.bool (has1 x zs)) ∧ w = w' := by
  have HN := hide hn
  have HA := hide ha
  have hz1 : (n : Int) ≤ 2097152 := by omega
  clear hn ha hz
  go_enter Try.func28, Try.ntmps28
  go_wp2
  go_loopg [5] (n + 1) (fun g i wr => wr = w ∧ ∃ k : Nat, k ≤ n ∧ g = n + 1 - k ∧ i = .int .i64 k ∧ ∀ j, j < k → decide (zs.getD j 0 = x) = false)
  case atStart => exact ⟨rfl, 0, Nat.zero_le _, rfl, rfl, fun j hj => absurd hj (by omega)⟩
  case round =>
    obtain ⟨rfl, k, hk, hg, rfl, hall⟩ := hrel
    have HG := hide hg
    have HALL := hide hall
    clear hg hall
    by_cases hlt : k < n
    · obtain ⟨b, off, rfl, hb, hc⟩ := HA.out k (by have := HN.out; omega)
      have hi : (k : Int) < (n : Int) := by omega
      obtain ⟨v, hv⟩ : ∃ v, v = zs.getD k 0 := ⟨_, rfl⟩
      rw [← hv] at hc
      have HV := hide hv
      clear hv
      by_cases hq : v = x
      · have HT : Hid (has1 x zs = true) := hide (anyG_yes 0 (k := k) (by have := HN.out; omega) (by rw [← HV.out]; exact decide_eq_true hq))
        subst hq
        go_wp2
        go_ret
        exact ⟨retB HT.out.symm, rfl⟩
      · have HD : Hid (decide (v = x) = false) := hide (decide_eq_false hq)
        go_wp2
        go_roundg (n + 1 - (k + 1))
        case measure => have := HG.out; omega
        case rel => exact ⟨rfl, k + 1, by omega, rfl, by go_num, fun j hj => by
          by_cases e : j = k
          · subst e; rw [← HV.out]; exact HD.out
          · exact HALL.out j (by omega)⟩
    · have hi : ¬ (k : Int) < (n : Int) := by omega
      have HT : Hid (has1 x zs = false) := hide (anyG_no 0 (fun j hj => HALL.out j (by have := HN.out; omega)))
      go_wp2
      go_ret
      exact ⟨retB HT.out.symm, rfl⟩
/-! the program's: closures over slices of lists -/
end Go.Proofs.Ytnnmdikbcfefjaa
