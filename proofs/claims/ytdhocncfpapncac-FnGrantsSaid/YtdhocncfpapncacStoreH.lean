/-
  StoreNum, CasNum and Fill: what they lay into a copy. Plain words and the contracts.
-/
import Derived.Test.YtdhocncfpapncacGenIn
import Derived.Test.YtdhocncfpapncacFixI
import Derived.Lib.SliceRun
namespace Go.Proofs.Ytdhocncfpapncac
open Go.RowKit
set_option linter.unusedVariables false

/-- The list with the places lo..hi-1 laid anew. -/
def upd (zs : List Int) (lo hi : Nat) (f : Nat → Int) : List Int := (List.range zs.length).map fun i => if lo ≤ i ∧ i < hi then f i else zs.getD i 0
theorem upd_length (zs : List Int) (lo hi : Nat) (f : Nat → Int) : (upd zs lo hi f).length = zs.length := by simp [upd]
theorem upd_get (zs : List Int) (lo hi : Nat) (f : Nat → Int) (i : Nat) (h : i < zs.length) : (upd zs lo hi f).getD i 0 = if lo ≤ i ∧ i < hi then f i else zs.getD i 0 := by
  have : i < (upd zs lo hi f).length := by rw [upd_length]; exact h
  rw [List.getD_eq_getElem?_getD, List.getElem?_eq_getElem this]
  simp [upd]
theorem upd_none (zs : List Int) (lo hi : Nat) (f : Nat → Int) (h : hi ≤ lo) : upd zs lo hi f = zs := by
  refine list_eq_of (upd_length _ _ _ _) fun j hj => ?_
  rw [upd_length] at hj
  rw [upd_get _ _ _ _ _ hj, if_neg (by omega)]
theorem set_get (zs : List Int) (k j : Nat) (x : Int) (hk : k < zs.length) (hj : j < zs.length) : (zs.set k x).getD j 0 = if j = k then x else zs.getD j 0 := by
  simp only [List.getD_eq_getElem?_getD, List.getElem?_set]
  by_cases e : k = j
  · subst e; simp [hk]
  · rw [if_neg e, if_neg (fun h => e h.symm)]
theorem upd_up (zs : List Int) (lo k : Nat) (f : Nat → Int) (h : k < zs.length) (hl : lo ≤ k) : (upd zs lo k f).set k (f k) = upd zs lo (k + 1) f := by
  refine list_eq_of (by simp [upd_length]) fun j hj => ?_
  rw [List.length_set, upd_length] at hj
  rw [set_get _ _ _ _ (by rw [upd_length]; exact h) (by rw [upd_length]; exact hj), upd_get _ _ _ _ _ hj, upd_get _ _ _ _ _ hj]
  by_cases e : j = k
  · subst e; rw [if_pos rfl, if_pos (by omega)]
  · rw [if_neg e]
    by_cases h2 : lo ≤ j ∧ j < k
    · rw [if_pos h2, if_pos (by omega)]
    · rw [if_neg h2, if_neg (by omega)]
theorem upd_down (zs : List Int) (k hi : Nat) (f : Nat → Int) (h : k < zs.length) (hl : k < hi) : (upd zs (k + 1) hi f).set k (f k) = upd zs k hi f := by
  refine list_eq_of (by simp [upd_length]) fun j hj => ?_
  rw [List.length_set, upd_length] at hj
  rw [set_get _ _ _ _ (by rw [upd_length]; exact h) (by rw [upd_length]; exact hj), upd_get _ _ _ _ _ hj, upd_get _ _ _ _ _ hj]
  by_cases e : j = k
  · subst e; rw [if_pos rfl, if_pos (by omega)]
  · rw [if_neg e]
    by_cases h2 : k + 1 ≤ j ∧ j < hi
    · rw [if_pos h2, if_pos (by omega)]
    · rw [if_neg h2, if_neg (by omega)]
theorem upd_congr (zs : List Int) (lo hi : Nat) (f g : Nat → Int) (h : ∀ i, lo ≤ i → i < hi → f i = g i) : upd zs lo hi f = upd zs lo hi g := by
  unfold upd
  apply List.map_congr_left
  intro i _
  by_cases e : lo ≤ i ∧ i < hi
  · rw [if_pos e, if_pos e, h i e.1 e.2]
  · rw [if_neg e, if_neg e]

theorem ints_set (zs : List Int) (k : Nat) (x : Int) : (ints zs).set k (.int .i64 x) = ints (zs.set k x) := by simp [ints, List.map_set]
/-- One cell of an own slice laid anew. -/
theorem own_set {E : TypeId} {w : World} {g c n : Nat} {zs : List Int} {F : List Nat} (h : Own E w (.slice (some ⟨g, 0, none⟩) n c) (ints zs) F) (k : Nat) (hk : k < zs.length) (x : Int) :
    Own E (w.setCell ⟨g, k, none⟩ (.int .i64 x)) (.slice (some ⟨g, 0, none⟩) n c) (ints (zs.set k x)) F := by
  obtain ⟨A', c', e, hc, h⟩ := h
  injection e with e1 e2 e3
  subst e1 e3
  refine ⟨some ⟨g, 0, none⟩, c, by rw [e2, ints_length, ints_length, List.length_set], hc, ?_⟩
  rcases h with ⟨h0, _, _⟩ | ⟨g', cap, f, hA, hF, hr, h1, h2, h3⟩
  · exact absurd (congrArg List.length h0) (by rw [ints_length]; simp; intro e; rw [e] at hk; simp at hk)
  · injection hA with hA
    injection hA with hA
    subst hA
    refine .inr ⟨g, cap, _, rfl, hF, hr.set k _, by rw [ints_length, List.length_set, ← ints_length zs]; exact h1, h2, fun j hj => ?_⟩
    rw [ints_length, List.length_set] at hj
    rw [ints_get _ _ (by rw [List.length_set]; exact hj), set_get _ _ _ _ hk hj]
    by_cases e : j = k
    · subst e; simp
    · rw [if_neg e, if_neg e, h3 j (by rw [ints_length]; exact hj), ints_get _ _ hj]
theorem own_at {E : TypeId} {w : World} {A : Option Addr} {n c : Nat} {zs : List Int} {F : List Nat} (h : Own E w (.slice A n c) (ints zs) F) (hp : 0 < zs.length) : ∃ g, A = some ⟨g, 0, none⟩ ∧ F = [g] := by
  obtain ⟨g, h1, h2, _⟩ := h.read.2.2.2 0 (by rw [ints_length]; exact hp)
  exact ⟨g, h1, h2⟩
theorem own_cell {E : TypeId} {w : World} {g n c : Nat} {zs : List Int} {F : List Nat} (h : Own E w (.slice (some ⟨g, 0, none⟩) n c) (ints zs) F) (k : Nat) (hk : k < zs.length) : w.cell? ⟨g, k, none⟩ = some (.int .i64 (zs.getD k 0)) ∧ w.frozen? ⟨g, k, none⟩ = false := by
  obtain ⟨g', h1, _, _, h2, h3⟩ := h.read.2.2.2 k (by rw [ints_length]; exact hk)
  injection h1 with h1
  injection h1 with h1
  subst h1
  rw [ints_get _ _ hk] at h2
  exact ⟨h2, h3⟩

/-! copies -/

set_option maxRecDepth 100000 in
set_option maxHeartbeats 800000 in
theorem clone_any (a : Addr) (n c : Nat) (zs : List Int) (w : World) (hn : n = zs.length) (hz : n ≤ 2097152) (hr : RdB .i64 w (some a) zs w.heap.size) :
    Calls Try.prog 44 #[.slice (some a) n c] w fun e w' => ∃ A' c' F, e = .returned (.slice A' n c') ∧ Own 3 w' (.slice A' n c') (ints zs) F ∧ (∀ g, g ∈ F → w.heap.size ≤ g) ∧ Below w.heap.size w w' := by
  obtain ⟨i0, hi, hz0, hz1, hz2⟩ := info_parts intInfo2
  have hm : n = (ints zs).length := by rw [ints_length]; exact hn
  have HM := hide hm
  have HR := hide (hr.keep (w' := w.alloc (.cells #[] 3)) fun p hp => World.cell?_alloc_lt w _ p hp).rv
  have HZ := hide hz
  clear hn hr hz hm
  have hnil : ∀ W : World, (binOp .eql 24 (.slice (some a) n c) (.slice none 0 0)).run Try.prog W = .ok (.bool false) W := fun W => Lib.run_eql_slice_nil W _ 3 (some a) n c 0 0 Try.underlying24
  go_enter Try.func44, Try.ntmps44
  go_wp2_with (at_builtin; refine wpList_app _ rfl _ _ 24 rfl w.heap.size 3 i0 (.int .i64 0) 8 Try.underlying24 hi hz0 hz1 hz2 rfl _ 0 [] rfl (World.ownsRow_made w #[] 0 (Nat.le_refl _) (by decide) rfl) (some a) n c (ints zs) _ rfl HM.out HR.out (ints_one zs) ?c1 ?c2 ?c3 ?_)
  case c1 => have := HZ.out; unfold maxLen; omega
  case c2 => have := HZ.out; omega
  case c3 => simp
  intro v' w1 hown hgr _
  obtain ⟨A', c', F, hv, ho, hF⟩ := copy_own hown
  rw [hv]
  clear hv
  have HO := hide ho
  have HF := hide hF
  have HG := hide (((Below.refl w.heap.size w).alloc (Nat.le_refl _) _).grown hgr (by simp) (fun k hk => by simp [Value.ownBlock] at hk; omega))
  clear ho hF hgr hown
  go_wp2
  go_ret
  exact ⟨A', c', F, rfl, HO.out, HF.out, HG.out⟩

/-! stores -/

def dgt (m off N : Nat) (i : Nat) : Int := ((N / pw (m - 1 - (i - off)) % 256 : Nat) : Int)

set_option maxRecDepth 100000 in
set_option maxHeartbeats 800000 in
theorem l3Store_any (A : Option Addr) (n c : Nat) (zs : List Int) (F : List Nat) (off m N : Nat) (w : World) (ho : Own 3 w (.slice A n c) (ints zs) F) (hz : n ≤ 1000) (h1 : 1 ≤ m) (h7 : m ≤ 7) (hom : off + m ≤ n) (hN : (N : Int) ≤ 9223372036854775807) :
    Calls Try.prog 70 #[.slice A n c, .int .i64 (off : Int), .int .i64 (m : Int), .int .i64 (N : Int)] w fun e w' => e = .returned (.slice A n c) ∧ Own 3 w' (.slice A n c) (ints (upd zs off (off + m) (dgt m off N))) F ∧ Touch F w w' := by
  have hn := (ho.rd).1
  obtain ⟨g, rfl, rfl⟩ := own_at ho (by omega)
  have HN := hide hn
  have HO := hide ho
  have q1 : (n : Int) ≤ 1000 := by omega
  have q2 : (m : Int) ≤ 7 := by omega
  have q3 : (off : Int) + (m : Int) ≤ (n : Int) := by omega
  clear ho hn
  go_enter Try.func70, Try.ntmps70
  go_wp2
  go_loopg [3, 9] (m + 1) (fun gh v i wr => ∃ k : Nat, k ≤ m ∧ gh = k + 1 ∧ i = .int .i64 ((k : Int) - 1) ∧ v = .int .i64 ((N / pw (m - k) : Nat) : Int) ∧ Own 3 wr (.slice (some ⟨g, 0, none⟩) n c) (ints (upd zs (off + k) (off + m) (dgt m off N))) [g] ∧ Touch [g] w wr)
  case atStart => exact ⟨m, Nat.le_refl _, rfl, by go_num, by simp [pw], by rw [upd_none _ _ _ _ (by omega)]; exact HO.out, Touch.refl _ _⟩
  case round =>
    obtain ⟨k, hk, hg, rfl, rfl, ho, ht⟩ := hrel
    have HG := hide hg
    have HOW := hide ho
    have HT := hide ht
    clear hg ho ht
    cases k with
    | zero =>
      have q5 : ¬ (0 : Int) ≤ ((0 : Nat) : Int) - 1 := by omega
      go_wp2
      go_ret
      exact ⟨rfl, by simpa using HOW.out, HT.out⟩
    | succ k =>
      have hlen : off + k < zs.length := by have := HN.out; omega
      obtain ⟨hc1, hc2⟩ := own_cell HOW.out (off + k) (by rw [upd_length]; exact hlen)
      have q6 : (off : Int) + (k : Int) < (n : Int) := by omega
      have q7 : (0 : Int) ≤ (off : Int) + (k : Int) := by omega
      have hdg : dgt m off N (off + k) = ((N / pw (m - (k + 1)) % 256 : Nat) : Int) := by
        unfold dgt
        rw [show m - 1 - (off + k - off) = m - (k + 1) by omega]
      have hnx : N / pw (m - (k + 1)) / 256 = N / pw (m - k) := by
        rw [show m - k = (m - (k + 1)) + 1 by omega, ← div_pw']
      obtain ⟨q, hq⟩ : ∃ q, q = N / pw (m - (k + 1)) := ⟨_, rfl⟩
      rw [← hq] at hdg hnx ⊢
      have hqb : (q : Int) ≤ 9223372036854775807 := by
        have : q ≤ N := by rw [hq]; exact Nat.div_le_self _ _
        omega
      have HD := hide hdg
      have HX := hide hnx
      clear hq hdg hnx
      go_wp2
      go_roundg (k + 1)
      case measure => have := HG.out; omega
      case rel => exact ⟨k, by omega, rfl, by go_num, by rw [← HX.out]; simp, by
        have h := own_set HOW.out (off + k) (by rw [upd_length]; exact hlen) (dgt m off N (off + k))
        rw [show off + (k + 1) = off + k + 1 by omega, upd_down _ _ _ _ hlen (by omega), HD.out] at h
        simpa using h, HT.out.setCell (by simp) _⟩

set_option maxRecDepth 100000 in
set_option maxHeartbeats 800000 in
theorem putNum_any (A : Option Addr) (n c : Nat) (zs : List Int) (F : List Nat) (off : Nat) (s : ByteArray) (w : World) (ho : Own 3 w (.slice A n c) (ints zs) F) (hz : n ≤ 1000) (h1 : 1 ≤ s.size) (hom : off + s.size ≤ n) :
    Calls Try.prog 28 #[.slice A n c, .int .i64 (off : Int), .string s] w fun e w' => e = .returned (.tuple #[]) ∧ Own 3 w' (.slice A n c) (ints (upd zs off (off + s.size) (fun i => ((s.data.toList.getD (i - off) 0).toNat : Int)))) F ∧ Touch F w w' := by
  have hn := (ho.rd).1
  obtain ⟨g, rfl, rfl⟩ := own_at ho (by omega)
  have HN := hide hn
  have HO := hide ho
  have q1 : (n : Int) ≤ 1000 := by omega
  have q3 : (off : Int) + (s.size : Int) ≤ (n : Int) := by omega
  clear ho hn
  go_enter Try.func28, Try.ntmps28
  go_wp2
  go_loopg [6, 9] (s.size + 1) (fun gh _x i wr => ∃ k : Nat, k ≤ s.size ∧ gh = s.size + 1 - k ∧ i = .int .i64 k ∧ Own 3 wr (.slice (some ⟨g, 0, none⟩) n c) (ints (upd zs off (off + k) (fun i => ((s.data.toList.getD (i - off) 0).toNat : Int)))) [g] ∧ Touch [g] w wr)
  case atStart => exact ⟨0, Nat.zero_le _, rfl, rfl, by rw [upd_none _ _ _ _ (by omega)]; exact HO.out, Touch.refl _ _⟩
  case round =>
    obtain ⟨k, hk, hg, rfl, ho, ht⟩ := hrel
    have HG := hide hg
    have HOW := hide ho
    have HT := hide ht
    clear hg ho ht
    by_cases hlt : k < s.size
    · have hi : (k : Int) < (s.size : Int) := by omega
      have hlen : off + k < zs.length := by have := HN.out; omega
      obtain ⟨hc1, hc2⟩ := own_cell HOW.out (off + k) (by rw [upd_length]; exact hlen)
      have q6 : (off : Int) + (k : Int) < (n : Int) := by omega
      have q7 : (0 : Int) ≤ (off : Int) + (k : Int) := by omega
      have hyb : (s[k].toNat : Int) ≤ 255 := by have := s[k].toNat_lt; omega
      have hgd : s.data.toList.getD (off + k - off) 0 = s[k] := by
        rw [Nat.add_sub_cancel_left]
        simp [List.getD]
        rw [Array.getElem?_eq_getElem (by simpa using hlt)]
        rfl
      have HGD := hide hgd
      clear hgd
      go_wp2
      go_roundg (s.size + 1 - (k + 1))
      case measure => have := HG.out; omega
      case rel => exact ⟨k + 1, by omega, rfl, by go_num, by
        have h := own_set HOW.out (off + k) (by rw [upd_length]; exact hlen) ((s.data.toList.getD (off + k - off) 0).toNat : Int)
        rw [show off + (k + 1) = off + k + 1 by omega, ← upd_up _ _ _ _ hlen (by omega)]
        rw [HGD.out] at h ⊢
        exact h, HT.out.setCell (by simp) _⟩
    · have hi : ¬ (k : Int) < (s.size : Int) := by omega
      have hks : k = s.size := by omega
      subst hks
      go_wp2
      go_end0
      exact ⟨rfl, by simpa using HOW.out, HT.out⟩
end Go.Proofs.Ytdhocncfpapncac
