/-
  OnList: is a slot on some list? The contracts and the walk of the law.
-/
import Derived.Test.YtdhocncfpapncabLsts
import Derived.OpenShut
namespace Go.Proofs.Ytdhocncfpapncab
open Go.RowKit
set_option linter.unusedVariables false

theorem anyG_yes {α : Type} (d : α) {q : α → Bool} {l : List α} {k : Nat} (hk : k < l.length) (h : q (l.getD k d) = true) : l.any q = true := by
  have e : l.getD k d = l[k] := by simp [List.getD, hk]
  rw [List.any_eq_true]
  exact ⟨l[k], List.getElem_mem _, by rw [← e]; exact h⟩
theorem anyG_no {α : Type} (d : α) {q : α → Bool} {l : List α} (h : ∀ j, j < l.length → q (l.getD j d) = false) : l.any q = false := by
  rw [List.any_eq_false]
  intro x hx
  obtain ⟨j, hj, rfl⟩ := List.getElem_of_mem hx
  have := h j hj
  have e : l.getD j d = l[j] := by simp [List.getD, hj]
  rw [e] at this
  rw [this]; decide
def has1 (s : Int) (zs : List Int) : Bool := zs.any (fun x => decide (x = s))
def hasR (z y : List (List Int)) (s : Int) : Bool := z.any (has1 s) || y.any (has1 s)
def allN (z : List (List Int)) : Nat → List Int
  | 0 => []
  | k + 1 => allN z k ++ z.getD k []
theorem allN_length (z : List (List Int)) (k : Nat) : (allN z k).length = sumL z k := by
  induction k with
  | zero => rfl
  | succ k ih => simp only [allN, sumL, List.length_append, ih]
theorem allN_any (z : List (List Int)) (q : Int → Bool) : (allN z z.length).any q = z.any (fun l => l.any q) := by
  have h : ∀ k, k ≤ z.length → (allN z k).any q = (z.take k).any (fun l => l.any q) := by
    intro k
    induction k with
    | zero => intro _; simp [allN]
    | succ k ih =>
      intro hk
      have hk' : k < z.length := by omega
      simp only [allN, List.any_append]
      rw [ih (by omega), List.take_add_one, List.any_append]
      simp [List.getD, hk']
  rw [h _ (Nat.le_refl _), List.take_length]
def allR (z y : List (List Int)) : List Int := allN z z.length ++ allN y y.length
theorem allR_has (z y : List (List Int)) (s : Int) : (allR z y).any (fun x => decide (x = s)) = hasR z y s := by
  unfold allR hasR
  rw [List.any_append, allN_any, allN_any]; rfl

/-! all slots, one behind the other -/
theorem row_below {w w' : World} {base : Nat} {e : TypeId} {v : Value} {n : Nat} {xs : List Value} (h : w.ownsRow base e 1 v n xs) (hb : Below w.heap.size w w') : w'.ownsRow base e 1 v n xs :=
  h.kept (grown_below hb none) (by cases he : v.ownBlock with | none => exact .inl rfl | some g => exact .inr (by simp))
theorem box_grown {W W' : World} {row : Option Nat} {p : Addr} (hg : W.grownBy W' row) (hp : p.block < W.heap.size) (hr : ∀ k, row = some k → p.block ≠ k) : W'.cell? p = W.cell? p :=
  World.cell?_of_block (hg.block p.block hp (fun e => hr _ e.symm rfl))
structure AllRel (w wr : World) (u0 u1 : Value) (acc : List Int) (v : Value) : Prop where
  own : wr.ownsRow (w.heap.size + 1) 3 1 v acc.length (ints acc)
  b0 : wr.cell? ⟨w.heap.size, 0, none⟩ = some u0
  b1 : wr.cell? ⟨w.heap.size, 1, none⟩ = some u1
  lt : w.heap.size + 1 ≤ wr.heap.size
  bel : Below w.heap.size w wr
theorem AllRel.start (w : World) (u0 u1 : Value) : AllRel w ((w.alloc (.cells #[u0, u1] 26)).alloc (.cells #[] 3)) u0 u1 [] (.slice (some ⟨w.heap.size + 1, 0, none⟩) 0 0) := by
  have hsz : (w.alloc (.cells #[u0, u1] 26)).heap.size = w.heap.size + 1 := by simp
  refine ⟨?_, by go_simp, by go_simp, by simp, ((Below.refl _ _).alloc (Nat.le_refl _) _).alloc (by simp) _⟩
  have h := World.ownsRow_made (base := w.heap.size + 1) (e := 3) (size := 1) (w.alloc (.cells #[u0, u1] 26)) #[] 0 (by rw [hsz]; exact Nat.le_refl _) (by decide) rfl
  rw [hsz] at h
  exact h
theorem AllRel.app {w wr w' : World} {u0 u1 v v' : Value} {acc news : List Int} (h : AllRel w wr u0 u1 acc v) (hown : w'.ownsRow (w.heap.size + 1) 3 1 v' (acc.length + news.length) (ints acc ++ ints news)) (hgr : wr.grownBy w' v.ownBlock) : AllRel w w' u0 u1 (acc ++ news) v' := by
  have hk := h.own.lt
  have hz := h.lt
  refine ⟨by rw [List.length_append]; simpa [ints] using hown, ?_, ?_, Nat.le_trans hz hgr.size, ?_⟩
  · rw [box_grown hgr (by show w.heap.size < _; omega) (fun g e => by have := (hk g e).1; show w.heap.size ≠ g; omega)]; exact h.b0
  · rw [box_grown hgr (by show w.heap.size < _; omega) (fun g e => by have := (hk g e).1; show w.heap.size ≠ g; omega)]; exact h.b1
  · exact h.bel.grown hgr (by omega) (fun g e => by have := (hk g e).1; omega)
def AllRes (w w' : World) (e : Ending) (zs : List Int) : Prop :=
  ∃ A c F, e = .returned (.slice A zs.length c) ∧ Own 3 w' (.slice A zs.length c) (ints zs) F ∧ (∀ g, g ∈ F → w.heap.size ≤ g) ∧ Below w.heap.size w w'
set_option maxRecDepth 100000 in
set_option maxHeartbeats 3200000 in
theorem specAll_any (A A' : Option Addr) (n c n' c' : Nat) (z y : List (List Int)) (w : World) (hn : n = z.length) (hn' : n' = y.length) (hm : n + sumL z n + n' + sumL y n' ≤ 1048576) (ha : RdM w A z w.heap.size) (ha' : RdM w A' y w.heap.size) :
    Calls Try.prog 28 #[.agg #[.slice A n c, .slice A' n' c']] w fun e w' => AllRes w w' e (allR z y) := by
  obtain ⟨i0, hi, hz0, hz1, hz2⟩ := info_parts intInfo2
  have HN := hide hn
  have HN' := hide hn'
  have HA := hide ha
  have HA' := hide ha'
  have HS := hide (AllRel.start w (.slice A n c) (.slice A' n' c'))
  have HM := hide hm
  have q1 : (n : Int) ≤ 1048576 := by omega
  have q2 : (n' : Int) ≤ 1048576 := by omega
  clear hn hn' ha ha' hm
  go_enter Try.func28, Try.ntmps28
  go_wp2
  go_loopg [3, 4] (n + 1) (fun g v i wr => ∃ k : Nat, k ≤ n ∧ g = n + 1 - k ∧ i = .int .i64 k ∧ AllRel w wr (.slice A n c) (.slice A' n' c') (allN z k) v)
  case atStart => exact ⟨0, by omega, rfl, rfl, HS.out⟩
  case round =>
    obtain ⟨k, hk, hg, rfl, hR⟩ := hrel
    have HG := hide hg
    have HR := hide hR
    clear hg hR
    have b0 := HR.out.b0
    have b1 := HR.out.b1
    by_cases hlt : k < n
    · have hi' : (k : Int) < (n : Int) := by omega
      obtain ⟨b, off, A2, n2, c2, rfl, hb, hcell, hn2, hc2, hcm2, hrd⟩ := (HA.out.below HR.out.bel (Nat.le_refl _)) k (by have := HN.out; omega)
      have HN2 := hide hn2
      have HRD := hide hrd
      have hl1 := allN_length z k
      have hl2 := sumL_le z (show k + 1 ≤ n by omega)
      simp only [sumL] at hl2
      have HL := hide (show (allN z k).length + n2 ≤ 1048576 by have := HM.out; omega)
      clear hn2 hrd hl1 hl2
      go_wp2_with (at_builtin; refine wpList_app _ rfl _ _ 35 rfl (w.heap.size + 1) 3 i0 (.int .i64 0) 8 Try.underlying35 hi hz0 hz1 hz2 rfl _ (allN z k).length (ints (allN z k)) rfl HR.out.own _ n2 c2 (ints (z.getD k [])) _ rfl (by rw [ints_length, HN2.out]) HRD.out.rv ?c1 ?c2 ?c3 ?c4 ?_)
      case c1 => intro u hu; simp only [ints, List.mem_map] at hu; obtain ⟨a, _, rfl⟩ := hu; rfl
      case c2 => have := HL.out; unfold maxLen; omega
      case c3 => have := HL.out; omega
      case c4 => exact HR.out.lt
      intro v' w3 hown hgr _
      rw [HN2.out] at hown
      have HR3 := hide (HR.out.app hown hgr)
      clear hown hgr
      go_wp2
      go_roundg (n + 1 - (k + 1))
      case measure => have := HG.out; omega
      case rel => exact ⟨k + 1, by omega, rfl, by go_num, HR3.out⟩
    · have hi' : ¬ (k : Int) < (n : Int) := by omega
      have hkn : k = n := by omega
      subst hkn
      rename_i v
      go_wp2
      go_loopg [3, 5] (n' + 1) (fun g v i wr => ∃ j : Nat, j ≤ n' ∧ g = n' + 1 - j ∧ i = .int .i64 j ∧ AllRel w wr (.slice A k c) (.slice A' n' c') (allN z k ++ allN y j) v)
      case atStart => exact ⟨0, by omega, rfl, rfl, by simpa [allN] using HR.out⟩
      case round =>
        clear HR HG b0 b1 hi' hlt
        obtain ⟨j, hj, hg, rfl, hR⟩ := hrel
        obtain ⟨acc, hacc⟩ : ∃ acc, acc = allN z k ++ allN y j := ⟨_, rfl⟩
        rw [← hacc] at hR
        have HACC := hide hacc
        clear hacc
        have HG := hide hg
        have HR := hide hR
        clear hg hR
        have b0 := HR.out.b0
        have b1 := HR.out.b1
        by_cases hlt : j < n'
        · have hi' : (j : Int) < (n' : Int) := by omega
          obtain ⟨b, off, A2, n2, c2, rfl, hb, hcell, hn2, hc2, hcm2, hrd⟩ := (HA'.out.below HR.out.bel (Nat.le_refl _)) j (by have := HN'.out; omega)
          have HN2 := hide hn2
          have HRD := hide hrd
          have hl1 := allN_length z k
          have hl3 := allN_length y j
          have hl2 := sumL_le y (show j + 1 ≤ n' by omega)
          simp only [sumL] at hl2
          have HL := hide (show acc.length + n2 ≤ 1048576 by rw [HACC.out, List.length_append]; have := HM.out; omega)
          clear hn2 hrd hl1 hl2 hl3
          go_wp2_with (at_builtin; refine wpList_app _ rfl _ _ 35 rfl (w.heap.size + 1) 3 i0 (.int .i64 0) 8 Try.underlying35 hi hz0 hz1 hz2 rfl _ acc.length (ints acc) rfl HR.out.own _ n2 c2 (ints (y.getD j [])) _ rfl (by rw [ints_length, HN2.out]) HRD.out.rv ?c1 ?c2 ?c3 ?c4 ?_)
          case c1 => intro u hu; simp only [ints, List.mem_map] at hu; obtain ⟨a, _, rfl⟩ := hu; rfl
          case c2 => have := HL.out; unfold maxLen; omega
          case c3 => have := HL.out; omega
          case c4 => exact HR.out.lt
          intro v' w3 hown hgr _
          rw [HN2.out] at hown
          have HR3 := hide (HR.out.app hown hgr)
          clear hown hgr
          rw [HACC.out, List.append_assoc] at HR3
          go_wp2
          go_roundg (n' + 1 - (j + 1))
          case measure => have := HG.out; omega
          case rel => exact ⟨j + 1, by omega, rfl, by go_num, HR3.out⟩
        · have hi' : ¬ (j : Int) < (n' : Int) := by omega
          have hjn : j = n' := by omega
          subst hjn
          have HX : Hid (acc = allR z y) := hide (by rw [HACC.out]; unfold allR; rw [← HN.out, ← HN'.out])
          obtain ⟨A3, c3, F, rfl, hlen, ho, hF⟩ := own_of_row HR.out.own
          rw [HX.out] at ho
          have HO := hide ho
          have HF := hide hF
          clear ho hF hlen
          go_wp2
          go_ret
          exact ⟨A3, c3, F, by rw [← HX.out]; rfl, HO.out, fun g hg => by have := (HF.out g hg).1; omega, HR.out.bel⟩

theorem l8Has_any (A : Option Addr) (n c : Nat) (zs : List Int) (U : Nat) (x : Int) (w : World) (hn : n = zs.length) (hz : n ≤ 2097152) (ha : RdB .i64 w A zs U) :
    Calls Try.prog 27 #[.slice A n c, .int .i64 x] w fun e w' => e = .returned (.bool (has1 x zs)) ∧ w = w' := by
  have HN := hide hn
  have HA := hide ha
  have hz1 : (n : Int) ≤ 2097152 := by omega
  clear hn ha hz
  go_enter Try.func27, Try.ntmps27
  go_wp2
  go_loopg [5] (n + 1) (fun g i wr => wr = w ∧ ∃ k : Nat, k ≤ n ∧ g = n + 1 - k ∧ i = .int .i64 k ∧ ∀ j, j < k → decide (zs.getD j 0 = x) = false)
  case atStart => exact ⟨rfl, 0, Nat.zero_le _, rfl, rfl, fun j hj => absurd hj (by omega)⟩
  case round =>
    obtain ⟨rfl, k, hk, hg, rfl, hall⟩ := hrel
    have HG := hide hg
    have HALL := hide hall
    clear hg hall
    by_cases hlt : k < n
    · obtain ⟨b, off, rfl, hb, hc⟩ := HA.out k (by have := HN.out; omega)
      have hi : (k : Int) < (n : Int) := by omega
      obtain ⟨v, hv⟩ : ∃ v, v = zs.getD k 0 := ⟨_, rfl⟩
      rw [← hv] at hc
      have HV := hide hv
      clear hv
      by_cases hq : v = x
      · have HT : Hid (has1 x zs = true) := hide (anyG_yes 0 (k := k) (by have := HN.out; omega) (by rw [← HV.out]; exact decide_eq_true hq))
        subst hq
        go_wp2
        go_ret
        exact ⟨retB HT.out.symm, rfl⟩
      · have HD : Hid (decide (v = x) = false) := hide (decide_eq_false hq)
        go_wp2
        go_roundg (n + 1 - (k + 1))
        case measure => have := HG.out; omega
        case rel => exact ⟨rfl, k + 1, by omega, rfl, by go_num, fun j hj => by
          by_cases e : j = k
          · subst e; rw [← HV.out]; exact HD.out
          · exact HALL.out j (by omega)⟩
    · have hi : ¬ (k : Int) < (n : Int) := by omega
      have HT : Hid (has1 x zs = false) := hide (anyG_no 0 (fun j hj => HALL.out j (by have := HN.out; omega)))
      go_wp2
      go_ret
      exact ⟨retB HT.out.symm, rfl⟩
/-! the program's: closures over slices of lists -/
theorem index_any (A : Option Addr) (n c : Nat) (zs : List Int) (U : Nat) (x : Int) (w : World) (hn : n = zs.length) (hz : n ≤ 2097152) (ha : RdB .i64 w A zs U) :
    Calls Try.prog 46 #[.slice A n c, .int .i64 x] w fun e w' => (∃ r : Int, e = .returned (.int .i64 r) ∧ has1 x zs = decide (0 ≤ r)) ∧ w = w' := by
  have HN := hide hn
  have HA := hide ha
  have hz1 : (n : Int) ≤ 2097152 := by omega
  clear hn ha hz
  go_enter Try.func46, Try.ntmps46
  go_wp2
  go_loopg [5, 8] (n + 1) (fun g _x i wr => wr = w ∧ ∃ k : Nat, k ≤ n ∧ g = n + 1 - k ∧ i = .int .i64 k ∧ ∀ j, j < k → decide (zs.getD j 0 = x) = false)
  case atStart => exact ⟨rfl, 0, Nat.zero_le _, rfl, rfl, fun j hj => absurd hj (by omega)⟩
  case round =>
    obtain ⟨rfl, k, hk, hg, rfl, hall⟩ := hrel
    have HG := hide hg
    have HALL := hide hall
    clear hg hall
    by_cases hlt : k < n
    · obtain ⟨b, off, rfl, hb, hc⟩ := HA.out k (by have := HN.out; omega)
      have hi : (k : Int) < (n : Int) := by omega
      obtain ⟨v, hv⟩ : ∃ v, v = zs.getD k 0 := ⟨_, rfl⟩
      rw [← hv] at hc
      have HV := hide hv
      clear hv
      by_cases hq : v = x
      · have HT : Hid (has1 x zs = true) := hide (anyG_yes 0 (k := k) (by have := HN.out; omega) (by rw [← HV.out]; exact decide_eq_true hq))
        subst hq
        go_wp2
        go_ret
        exact ⟨⟨(k : Int), rfl, by rw [HT.out]; symm; simp⟩, rfl⟩
      · have HD : Hid (decide (v = x) = false) := hide (decide_eq_false hq)
        have hq2 : ¬ x = v := fun h => hq h.symm
        go_wp2
        go_roundg (n + 1 - (k + 1))
        case measure => have := HG.out; omega
        case rel => exact ⟨rfl, k + 1, by omega, rfl, by go_num, fun j hj => by
          by_cases e : j = k
          · subst e; rw [← HV.out]; exact HD.out
          · exact HALL.out j (by omega)⟩
    · have hi : ¬ (k : Int) < (n : Int) := by omega
      have HT : Hid (has1 x zs = false) := hide (anyG_no 0 (fun j hj => HALL.out j (by have := HN.out; omega)))
      go_wp2
      go_ret
      exact ⟨⟨-1, rfl, by rw [HT.out]; rfl⟩, rfl⟩
theorem contains_any (A : Option Addr) (n c : Nat) (zs : List Int) (U : Nat) (x : Int) (w : World) (hn : n = zs.length) (hz : n ≤ 2097152) (ha : RdB .i64 w A zs U) :
    Calls Try.prog 32 #[.slice A n c, .int .i64 x] w fun e w' => e = .returned (.bool (has1 x zs)) ∧ w = w' := by
  have H := hide (index_any A n c zs U x w hn hz ha)
  clear hn hz ha
  go_enter Try.func32, Try.ntmps32
  go_wp2_with fail
  refine H.out.mono ?_
  rintro e w1 ⟨⟨r, rfl, hx⟩, rfl⟩
  have HX := hide hx
  clear hx H
  go_wp2
  go_ret
  exact ⟨retB HX.out.symm, rfl⟩
theorem hasClos_any (A : Option Addr) (n c b : Nat) (zs : List Int) (s : Int) (w : World) (hn : n = zs.length) (hz : n ≤ 2097152) (ha : RdB .i64 w A zs w.heap.size) (hc : w.cell? ⟨b, 0, none⟩ = some (.int .i64 s)) :
    Calls Try.prog 31 #[.agg #[.slice A n c], .pointer (some ⟨b, 0, none⟩)] w fun e w' => e = .returned (.bool (has1 s zs)) ∧ Below w.heap.size w w' := by
  have HN := hide hn
  have HA := hide ha
  have hlb := World.block_lt_of_cell? w _ hc
  clear hn ha
  go_enter Try.func31, Try.ntmps31
  go_wp2_with fail
  have hb0 : Below w.heap.size w (w.alloc (.cells #[.slice A n c] 37)) := (Below.refl _ _).alloc (Nat.le_refl _) _
  refine (contains_any A n c zs w.heap.size s _ HN.out hz (HA.out.below hb0 (Nat.le_refl _))).mono ?_
  rintro e w1 ⟨rfl, rfl⟩
  go_wp2
  go_ret
  exact ⟨rfl, hb0⟩
set_option maxRecDepth 100000 in
set_option maxHeartbeats 1600000 in
theorem idxHas_any (A : Option Addr) (n c b : Nat) (z : List (List Int)) (s : Int) (w : World) (hn : n = z.length) (hz : n ≤ 1048576) (hs : ∀ j, j < z.length → (z.getD j []).length ≤ 1048576) (ha : RdM w A z w.heap.size) (hc : w.cell? ⟨b, 0, none⟩ = some (.int .i64 s)) :
    Calls Try.prog 47 #[.slice A n c, .func (.func 31) #[] #[.pointer (some ⟨b, 0, none⟩)]] w fun e w' => (∃ r : Int, e = .returned (.int .i64 r) ∧ z.any (has1 s) = decide (0 ≤ r)) ∧ Below w.heap.size w w' := by
  have HN := hide hn
  have HA := hide ha
  have HS := hide hs
  have hlb := World.block_lt_of_cell? w _ hc
  have hz1 : (n : Int) ≤ 1048576 := by omega
  have HC := hide hc
  clear hn ha hz hs hc
  go_enter Try.func47, Try.ntmps47
  go_wp2
  go_loopg [5, 8] (n + 1) (fun g _x i wr => Below w.heap.size w wr ∧ ∃ k : Nat, k ≤ n ∧ g = n + 1 - k ∧ i = .int .i64 k ∧ ∀ j, j < k → has1 s (z.getD j []) = false)
  case atStart => exact ⟨Below.refl _ _, 0, Nat.zero_le _, rfl, rfl, fun j hj => absurd hj (by omega)⟩
  case round =>
    obtain ⟨hB, k, hk, hg, rfl, hall⟩ := hrel
    have HG := hide hg
    have HALL := hide hall
    have HB := hide hB
    clear hg hall hB
    by_cases hlt : k < n
    · obtain ⟨b2, off, A2, n2, c2, rfl, hb2, hcell, hn2, hc2, hcm2, hrd⟩ := (HA.out.below HB.out (Nat.le_refl _)) k (by have := HN.out; omega)
      have hi : (k : Int) < (n : Int) := by omega
      have hsz : n2 ≤ 2097152 := by have := HS.out k (by have := HN.out; omega); omega
      have HN2 := hide hn2
      have HRD := hide hrd
      have hcb : wr.cell? ⟨b, 0, none⟩ = some (.int .i64 s) := by rw [HB.out.cell hlb]; exact HC.out
      have HCB := hide hcb
      clear hn2 hrd hcb
      go_wp2_with fail
      refine (hasClos_any A2 n2 c2 b (z.getD k []) s _ HN2.out hsz (HRD.out.more HB.out.size) HCB.out).mono ?_
      rintro e w1 ⟨rfl, hb⟩
      have HB1 := hide (below_go HB.out hb)
      clear hb
      cases hq : has1 s (z.getD k [])
      · have HQ := hide hq
        clear hq
        go_wp2
        go_roundg (n + 1 - (k + 1))
        case measure => have := HG.out; omega
        case rel => exact ⟨HB1.out, k + 1, by omega, rfl, by go_num, fun j hj => by
          by_cases e : j = k
          · subst e; exact HQ.out
          · exact HALL.out j (by omega)⟩
      · have HT : Hid (z.any (has1 s) = true) := hide (anyG_yes [] (k := k) (by have := HN.out; omega) hq)
        clear hq
        go_wp2
        go_ret
        exact ⟨⟨(k : Int), rfl, by rw [HT.out]; symm; simp⟩, HB1.out⟩
    · have hi : ¬ (k : Int) < (n : Int) := by omega
      have HT : Hid (z.any (has1 s) = false) := hide (anyG_no [] (fun j hj => HALL.out j (by have := HN.out; omega)))
      go_wp2
      go_ret
      exact ⟨⟨-1, rfl, by rw [HT.out]; rfl⟩, HB.out⟩
theorem conHas_any (A : Option Addr) (n c b : Nat) (z : List (List Int)) (s : Int) (w : World) (hn : n = z.length) (hz : n ≤ 1048576) (hs : ∀ j, j < z.length → (z.getD j []).length ≤ 1048576) (ha : RdM w A z w.heap.size) (hc : w.cell? ⟨b, 0, none⟩ = some (.int .i64 s)) :
    Calls Try.prog 33 #[.slice A n c, .func (.func 31) #[] #[.pointer (some ⟨b, 0, none⟩)]] w fun e w' => e = .returned (.bool (z.any (has1 s))) ∧ Below w.heap.size w w' := by
  have H := hide (idxHas_any A n c b z s w hn hz hs ha hc)
  clear hn hz hs ha hc
  go_enter Try.func33, Try.ntmps33
  go_wp2_with fail
  refine H.out.mono ?_
  rintro e w1 ⟨⟨r, rfl, hx⟩, hb⟩
  have HX := hide hx
  have HB := hide hb
  clear hx hb H
  go_wp2
  go_ret
  exact ⟨retB HX.out.symm, HB.out⟩
set_option maxRecDepth 100000 in
set_option maxHeartbeats 1600000 in
theorem implOnList_any (A A' : Option Addr) (n c n' c' : Nat) (z y : List (List Int)) (s : Int) (w : World) (hn : n = z.length) (hn' : n' = y.length) (hm : n + sumL z n + n' + sumL y n' ≤ 1048576) (ha : RdM w A z w.heap.size) (ha' : RdM w A' y w.heap.size) :
    Calls Try.prog 10 #[.agg #[.slice A n c, .slice A' n' c'], .int .i64 s] w fun e w' => e = .returned (.bool (hasR z y s)) ∧ Below w.heap.size w w' := by
  have HS : Hid (∀ j, j < z.length → (z.getD j []).length ≤ 1048576) := hide (fun j hj => by have := len_le z n j (by omega); omega)
  have HS' : Hid (∀ j, j < y.length → (y.getD j []).length ≤ 1048576) := hide (fun j hj => by have := len_le y n' j (by omega); omega)
  have hm1 : n ≤ 1048576 := by omega
  have hm2 : n' ≤ 1048576 := by omega
  have HN := hide hn
  have HN' := hide hn'
  have HA := hide ha
  have HA' := hide ha'
  clear hn hn' ha ha' hm
  go_enter Try.func10, Try.ntmps10
  go_wp2_with fail
  obtain ⟨w1, hW⟩ : ∃ W : World, W = (w.alloc (.cells #[.slice A n c, .slice A' n' c'] 26)).alloc (.cells #[.int .i64 s] 3) := ⟨_, rfl⟩
  rw [← hW]
  have hb1 : Below w.heap.size w w1 := by rw [hW]; exact ((Below.refl _ _).alloc (Nat.le_refl _) _).alloc (by simp) _
  have HB1 := hide hb1
  have t1 : w.heap.size < w1.heap.size := by rw [hW]; simp <;> omega
  have t2 : w.heap.size + 1 < w1.heap.size := by rw [hW]; simp <;> omega
  have b1 : w1.cell? ⟨w.heap.size, 1, none⟩ = some (.slice A' n' c') := by rw [hW]; go_simp
  have s1 : w1.cell? ⟨w.heap.size + 1, 0, none⟩ = some (.int .i64 s) := by rw [hW]; go_simp
  clear hW hb1
  refine (conHas_any A n c (w.heap.size + 1) z s w1 HN.out hm1 HS.out (rdM_at HA.out HB1.out) s1).mono ?_
  rintro e w2 ⟨rfl, hb⟩
  have k1 : w2.cell? ⟨w.heap.size, 1, none⟩ = some (.slice A' n' c') := by rw [hb.cell t1]; exact b1
  have s2 : w2.cell? ⟨w.heap.size + 1, 0, none⟩ = some (.int .i64 s) := by rw [hb.cell t2]; exact s1
  have HB2 := hide (below_go HB1.out hb)
  clear hb b1 s1
  cases h1 : z.any (has1 s)
  · have HX : Hid (hasR z y s = y.any (has1 s)) := hide (by unfold hasR; rw [h1]; rfl)
    clear h1
    go_wp2_with fail
    refine (conHas_any A' n' c' (w.heap.size + 1) y s w2 HN'.out hm2 HS'.out (rdM_at HA'.out HB2.out) s2).mono ?_
    rintro e w3 ⟨rfl, hb⟩
    have HB3 := hide (below_go HB2.out hb)
    rw [← HX.out]
    clear hb
    generalize hv : hasR z y s = v
    have HV := hide hv
    clear hv
    go_wp2
    go_ret
    exact ⟨retB HV.out.symm, HB3.out⟩
  · have HX : Hid (hasR z y s = true) := hide (by unfold hasR; rw [h1]; rfl)
    clear h1
    go_wp2
    go_ret
    exact ⟨retB HX.out.symm, HB2.out⟩

end Go.Proofs.Ytdhocncfpapncab
