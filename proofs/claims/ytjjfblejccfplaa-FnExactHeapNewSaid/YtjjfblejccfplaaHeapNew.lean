/-
  HeapNew: a heap of zero bytes whose pages have no class. The contracts and the walk of the law.
-/
import Derived.Test.YtjjfblejccfplaaCopyH
import Derived.Test.YtjjfblejccfplaaCarved
import Derived.Laws.CopyOwn
namespace Go.Proofs.Ytjjfblejccfplaa
open Go.RowKit
set_option linter.unusedVariables false

def zs384 : List Int := List.replicate 384 0
def ms6 : List Int := List.replicate 6 (-1)
def HNew (w w' : World) (e : Ending) : Prop := ∃ B d F B' d' F', e = .returned (.agg #[.slice B 384 d, .slice B' 6 d']) ∧ CopyH w w' 384 6 zs384 ms6 B d F B' d' F'
structure HnRel (w wr : World) (N k : Nat) (v : Value) : Prop where
  b0 : wr.cell? ⟨w.heap.size + 1 + 1, 0, none⟩ = some (.slice (some ⟨w.heap.size + 1, 0, none⟩) N N)
  b1 : wr.cell? ⟨w.heap.size + 1 + 1, 1, none⟩ = some v
  f1 : wr.frozen? ⟨w.heap.size + 1 + 1, 1, none⟩ = false
  r0 : wr.cell? ⟨w.heap.size, 0, none⟩ = some (.slice none 0 0)
  r1 : wr.cell? ⟨w.heap.size, 1, none⟩ = some (.slice none 0 0)
  g0 : wr.frozen? ⟨w.heap.size, 0, none⟩ = false
  g1 : wr.frozen? ⟨w.heap.size, 1, none⟩ = false
  own : wr.ownsRow (w.heap.size + 3) 3 1 v k (ints (List.replicate k (-1)))
  zer : Own 3 wr (.slice (some ⟨w.heap.size + 1, 0, none⟩) N N) (ints (List.replicate N 0)) [w.heap.size + 1]
  lt : w.heap.size + 3 ≤ wr.heap.size
  bel : Below w.heap.size w wr
theorem zer_start (w : World) (N : Nat) (hm : N ≤ maxLen) : Own 3 (w.alloc (.cells (madeCells #[.int .i64 0] N) 3)) (.slice (some ⟨w.heap.size, 0, none⟩) N N) (ints (List.replicate N 0)) [w.heap.size] :=
  ⟨some ⟨w.heap.size, 0, none⟩, N, by rw [ints_length, List.length_replicate], hm, .inr ⟨_, N, _, rfl, rfl, World.rowIs_made w _ N _, by rw [ints_length, List.length_replicate]; omega, Nat.le_refl _, fun j hj => by
    rw [ints_length, List.length_replicate] at hj
    rw [ints_get _ _ (by rw [List.length_replicate]; exact hj)]; simp [List.getD, hj]⟩⟩
theorem HnRel.app {w wr w' : World} {N k : Nat} {v v' : Value} {o : Obj} (h : HnRel w wr N k v) (hown : w'.ownsRow (w.heap.size + 3) 3 1 v' (k + 1) (ints (List.replicate k (-1)) ++ [.int .i64 (-1)])) (hgr : (wr.alloc o).grownBy w' v.ownBlock) :
    (w'.cell? ⟨w.heap.size + 1 + 1, 1, none⟩ = some v ∧ w'.frozen? ⟨w.heap.size + 1 + 1, 1, none⟩ = false) ∧ HnRel w (w'.setCell ⟨w.heap.size + 1 + 1, 1, none⟩ v') N (k + 1) v' := by
  have hk := h.own.lt
  have hz := h.lt
  have ha : Below wr.heap.size wr (wr.alloc o) := (Below.refl _ _).alloc (Nat.le_refl _) _
  have ht : Touch (v.ownBlock.toList) (wr.alloc o) w' := ⟨hgr.os, hgr.tape, hgr.output, hgr.size, fun i hi hn => hgr.block i hi (fun e => hn (by rw [← e]; simp))⟩
  have ht0 : Touch (v.ownBlock.toList) wr w' := (Touch.of_below ha).trans ht
  have hout : ∀ g, g < w.heap.size + 3 → g ∉ v.ownBlock.toList := fun g hg hm => by
    have := (hk g (by simpa using hm)).1; omega
  have qc : ∀ g j, g < w.heap.size + 3 → w'.cell? ⟨g, j, none⟩ = wr.cell? ⟨g, j, none⟩ := fun g j hg => World.cell?_of_block (ht0.block g (by omega) (hout g hg))
  have qf : ∀ g j, g < w.heap.size + 3 → w'.frozen? ⟨g, j, none⟩ = wr.frozen? ⟨g, j, none⟩ := fun g j hg => World.frozen?_of_block (ht0.block g (by omega) (hout g hg))
  have hs : Touch [w.heap.size + 1 + 1] w' (w'.setCell ⟨w.heap.size + 1 + 1, 1, none⟩ v') := (Touch.refl _ _).setCell (by simp) _
  have hz' := ht0.size
  have c1 := (qc (w.heap.size + 1 + 1) 1 (by omega)).trans h.b1
  have f1 := (qf (w.heap.size + 1 + 1) 1 (by omega)).trans h.f1
  have pc : ∀ g j, g < w.heap.size + 2 → (w'.setCell ⟨w.heap.size + 1 + 1, 1, none⟩ v').cell? ⟨g, j, none⟩ = wr.cell? ⟨g, j, none⟩ := fun g j hg => (World.cell?_of_block (hs.block g (by omega) (by simp; omega))).trans (qc g j (by omega))
  have pf : ∀ g j, g < w.heap.size + 2 → (w'.setCell ⟨w.heap.size + 1 + 1, 1, none⟩ v').frozen? ⟨g, j, none⟩ = wr.frozen? ⟨g, j, none⟩ := fun g j hg => (World.frozen?_of_block (hs.block g (by omega) (by simp; omega))).trans (qf g j (by omega))
  refine ⟨⟨c1, f1⟩, ⟨?_, ?_, ?_, (pc _ _ (by omega)).trans h.r0, (pc _ _ (by omega)).trans h.r1, (pf _ _ (by omega)).trans h.g0, (pf _ _ (by omega)).trans h.g1, ?_, (h.zer.touch ht0 ?_).touch hs ?_, Nat.le_trans hz (Nat.le_trans hz' hs.size), ?_⟩⟩
  · have := (qc (w.heap.size + 1 + 1) 0 (by omega)).trans h.b0
    rw [World.cell?_setCell_other _ _ _ _ (by simp)]; exact this
  · exact World.cell?_setCell_same _ _ _ c1
  · rw [World.frozen?_setCell]; exact f1
  · have e : ints (List.replicate (k + 1) (-1)) = ints (List.replicate k (-1)) ++ [.int .i64 (-1)] := by rw [List.replicate_succ']; simp [ints]
    rw [e]
    refine hown.kept ⟨hs.os, hs.tape, hs.output, hs.size, fun i hi hn => hs.block i hi (by simp; intro e; exact hn (by rw [e]))⟩ (row := some (w.heap.size + 1 + 1)) ?_
    have hk' := hown.lt
    cases he : v'.ownBlock with
    | none => exact .inl rfl
    | some g => exact .inr (by simp; have := (hk' g he).1; omega)
  · intro g hg; simp at hg; subst hg; exact hout _ (by omega)
  · intro g hg; simp at hg ⊢; omega
  · exact Below.touch (Below.touch h.bel ht0 (fun g hg => by have := (hk g (by simpa using hg)).1; omega) h.bel.size) hs (by simp; omega) (by omega)
theorem HnRel.start (w : World) (N : Nat) (hm : N ≤ maxLen) : HnRel w (((w.alloc (.cells #[.slice none 0 0, .slice none 0 0] 27)).alloc (.cells (madeCells #[.int .i64 0] N) 3)).alloc (.cells #[.slice (some ⟨w.heap.size + 1, 0, none⟩) N N, .slice none 0 0] 27)) N 0 (.slice none 0 0) := by
  have hz := zer_start (w.alloc (.cells #[.slice none 0 0, .slice none 0 0] 27)) N hm
  have e : (w.alloc (.cells #[.slice none 0 0, .slice none 0 0] 27)).heap.size = w.heap.size + 1 := by simp
  rw [e] at hz
  refine ⟨by go_simp, by go_simp, by go_simp, by go_simp, by go_simp, by go_simp, by go_simp, World.ownsRow_nil _ _ _ _, hz.below ((Below.refl _ _).alloc (Nat.le_refl _) _), by simp, (((Below.refl _ _).alloc (Nat.le_refl _) _).alloc (by simp) _).alloc (by simp <;> omega) _⟩
set_option maxRecDepth 100000 in
set_option maxHeartbeats 3200000 in
theorem specHeapNew_any (w : World) :
    Calls Try.prog 19 #[] w fun e w' => HNew w w' e := by
  obtain ⟨i0, hi, hz0, hz1, hz2⟩ := info_parts intInfo2
  obtain ⟨N, hN⟩ : ∃ N : Nat, N = 384 := ⟨_, rfl⟩
  have hmk := run_make_row' (P := Try.prog) 22 3 (.int .i64 0) 8 Try.underlying22 intInfo rfl .i64 .i64 N (by omega) (by omega)
  have e384 : (N : Int) = 384 := by omega
  rw [e384] at hmk
  have HN := hide hN
  clear e384 hN
  go_enter Try.func19, Try.ntmps19
  go_wp2
  clear hmk
  go_loopg [2] 7 (fun g i wr => ∃ k : Nat, k ≤ 6 ∧ g = 7 - k ∧ i = .int .i64 k ∧ ∃ v, HnRel w wr N k v)
  case atStart => exact ⟨0, by omega, rfl, rfl, _, HnRel.start w N (by have := HN.out; unfold maxLen; omega)⟩
  case round =>
    obtain ⟨k, hk, hg, rfl, v, hR⟩ := hrel
    have HG := hide hg
    have HR := hide hR
    clear hg hR
    have b0 := HR.out.b0
    have b1 := HR.out.b1
    have f1 := HR.out.f1
    have r0 := HR.out.r0
    have r1 := HR.out.r1
    have g0 := HR.out.g0
    have g1 := HR.out.g1
    by_cases hlt : k < 6
    · have hi' : (k : Int) < 6 := by omega
      go_wp2_with (at_builtin; refine wpList_app _ rfl _ _ 22 rfl (w.heap.size + 3) 3 i0 (.int .i64 0) 8 Try.underlying22 hi hz0 hz1 hz2 rfl _ k (ints (List.replicate k (-1))) rfl (HR.out.own.alloc _) _ 1 1 [.int .i64 (-1)] _ rfl rfl rd_one ?c1 ?c2 ?c3 ?c4 ?_)
      case c1 => first | rfl | (intro u hu; simp at hu; subst hu; rfl)
      case c2 => unfold maxLen; omega
      case c3 => omega
      case c4 => have := HR.out.lt; simp; omega
      intro v' w3 hown hgr _
      obtain ⟨⟨p1, p2⟩, hR3⟩ := HR.out.app hown hgr
      have HR3 := hide hR3
      obtain ⟨A', c', F, rfl, hlen, ho, hF⟩ := own_of_row hown
      clear hown hgr hR3 ho hF hlen
      go_wp2
      go_roundg (7 - (k + 1))
      case measure => have := HG.out; omega
      case rel => exact ⟨k + 1, by omega, rfl, by go_num, _, HR3.out⟩
    · have hi' : ¬ (k : Int) < 6 := by omega
      obtain rfl : k = 6 := by omega
      obtain ⟨A', c', F, rfl, hlen, ho, hF⟩ := own_of_row HR.out.own
      have HO := hide ho
      have HF := hide hF
      clear ho hF hlen
      go_wp2
      have ht : Touch [w.heap.size] wr ((wr.setCell ⟨w.heap.size, 0, none⟩ (.slice (some ⟨w.heap.size + 1, 0, none⟩) N N)).setCell ⟨w.heap.size, 1, none⟩ (.slice A' 6 c')) := ((Touch.refl _ _).setCell (by simp) _).setCell (by simp) _
      have hF := HF.out
      obtain rfl := HN.out
      exact bodyPost_ret (v := .agg #[.slice (some ⟨w.heap.size + 1, 0, none⟩) 384 384, .slice A' 6 c']) (by simp [results, Try.results19, go_sem, r0, r1]) rfl
        ⟨_, _, _, _, _, _, rfl, HR.out.zer.touch ht (by simp), HO.out.touch ht (fun g hg => by have := (hF g hg).1; simp; omega), fun g hg => by
          rcases List.mem_append.1 hg with h | h
          · simp at h; omega
          · have := (hF g h).1; omega, fun g hg hg' => by simp at hg; have := (hF g hg').1; omega, Below.touch HR.out.bel ht (by simp) HR.out.bel.size⟩

/-! slices.Repeat of one number, six times -/
def repRow (k r : Nat) : List Value := List.replicate k (.int .i64 (-1)) ++ List.replicate r (.int .i64 0)
theorem rep_get (k r m : Nat) (h : m ≤ k) (j : Nat) (v : Value) (hv : (List.replicate m (Value.int .i64 (-1)))[j]? = some v) : (repRow k r).toArray[j]? = some v := by
  have hj : j < m := by
    by_cases hj : j < m
    · exact hj
    · rw [List.getElem?_eq_none (by simp; omega)] at hv; cases hv
  rw [List.getElem?_replicate] at hv
  rw [if_pos hj] at hv
  have hk : j < k := by omega
  simp [repRow, List.getElem?_append, hk]
  simpa using hv
theorem rep_copy (W : World) (h k m r c k2 r2 : Nat) (M : Int) (hM : (m : Int) = M) (hk : m = Nat.min k r) (hcap : k + r = c) (hk2 : k + m = k2) (hr2' : r - m = r2) (hrow : W.heap[h]? = some (.cells (repRow k r).toArray 3 (0, 0))) :
    ∃ W', (Builtin.copy_ #[22, 22] 3 #[.slice (some ⟨h, k, none⟩) r r, .slice (some ⟨h, 0, none⟩) k c]).run Try.prog W = .ok (.int .i64 M) W' ∧ W'.heap[h]? = some (.cells (repRow k2 r2).toArray 3 (0, 0)) ∧ ∀ B w0, Below B w0 W → B ≤ h → Below B w0 W' := by
  subst hcap hk2 hr2'
  have hmk : m ≤ k := by rw [hk]; exact Nat.min_le_left _ _
  have hmr : m ≤ r := by rw [hk]; exact Nat.min_le_right _ _
  have h1 := run_copy_row (P := Try.prog) W 22 22 3 3 h k r r ⟨h, 0, none⟩ k (k + r) (repRow k r).toArray 3 (List.replicate m (.int .i64 (-1))) Try.underlying22 (by kernel_rfl) hrow (by simpa using hk)
    (fun j v hv => by
      have h2 := rep_get k r m hmk j v hv
      have h3 : ((⟨h, 0, none⟩ : Addr).add j) = ⟨h, j, none⟩ := by unfold Addr.add; split <;> simp_all
      rw [h3]
      simp only [World.cell?, hrow]
      exact h2) (by simp [repRow]; omega) (fun v hv => by rw [List.eq_of_mem_replicate hv]; rfl)
  rw [List.length_replicate] at h1
  have hr2 : ((repRow k r).toArray.toList.take k ++ List.replicate m (Value.int .i64 (-1)) ++ (repRow k r).toArray.toList.drop (k + m)).toArray = (repRow (k + m) (r - m)).toArray := by
    simp [repRow, List.drop_append, ← List.replicate_append_replicate, List.append_assoc]
  have e1 : goInt (m : Int) = .int .i64 M := by rw [← hM]; rfl
  rw [e1, hr2] at h1
  exact ⟨_, h1, setRow_heap W h _ _ _ _ hrow, fun B w0 hb hB => below_setRow hb hB _⟩
theorem rep_first (w : World) (g : Nat) (hc : w.cell? ⟨g, 0, none⟩ = some (.int .i64 (-1))) :
    ∃ W', (Builtin.copy_ #[22, 22] 3 #[.slice (some ⟨w.heap.size, 0, none⟩) 6 6, .slice (some ⟨g, 0, none⟩) 1 1]).run Try.prog (w.alloc (.cells (madeCells #[.int .i64 0] 6) 3)) = .ok (.int .i64 1) W' ∧ W'.heap[w.heap.size]? = some (.cells (repRow 1 5).toArray 3 (0, 0)) ∧ Below w.heap.size w W' := by
  have hb : Below w.heap.size w (w.alloc (.cells (madeCells #[.int .i64 0] 6) 3)) := (Below.refl _ _).alloc (Nat.le_refl _) _
  have hl := World.block_lt_of_cell? w _ hc
  have hrow : (w.alloc (.cells (madeCells #[.int .i64 0] 6) 3)).heap[w.heap.size]? = some (.cells (madeCells #[.int .i64 0] 6) 3 (0, 0)) := heap_alloc_new _ _
  have h1 := run_copy_row (P := Try.prog) (w.alloc (.cells (madeCells #[.int .i64 0] 6) 3)) 22 22 3 3 w.heap.size 0 6 6 ⟨g, 0, none⟩ 1 1 (madeCells #[.int .i64 0] 6) 3 [.int .i64 (-1)] Try.underlying22 (by kernel_rfl) hrow rfl
    (fun j v hv => by
      have hj : j = 0 := by
        cases j with
        | zero => rfl
        | succ j => simp at hv
      subst hj
      have h3 : ((⟨g, 0, none⟩ : Addr).add 0) = ⟨g, 0, none⟩ := by unfold Addr.add; split <;> simp_all
      rw [h3, hb.cell hl, hc]
      simpa using hv) (Nat.le_of_ble_eq_true (by kernel_rfl)) (fun v hv => by simp at hv; rw [hv]; rfl)
  have e2 : ((madeCells #[Value.int .i64 0] 6).toList.take 0 ++ [Value.int .i64 (-1)] ++ (madeCells #[Value.int .i64 0] 6).toList.drop (0 + [Value.int .i64 (-1)].length)).toArray = (repRow 1 5).toArray := by kernel_rfl
  rw [e2] at h1
  exact ⟨_, h1, setRow_heap _ _ _ _ _ _ hrow, below_setRow hb (Nat.le_refl _) _⟩
set_option maxRecDepth 100000 in
set_option maxHeartbeats 1600000 in
theorem mul16_any (w : World) : Calls Try.prog 65 #[.int .u64 1, .int .u64 6] w fun e w' => e = .returned (.tuple #[.int .u64 0, .int .u64 6]) ∧ w = w' := by
  have b1 : bits BinOp.and IntKind.u64 1 4294967295 = 1 := by decide
  have b6 : bits BinOp.and IntKind.u64 6 4294967295 = 6 := by decide
  have b0 : bits BinOp.and IntKind.u64 0 4294967295 = 0 := by decide
  have u6 : IntKind.u64.wrap 6 = 6 := by decide
  have u0 : IntKind.u64.wrap 0 = 0 := by decide
  go_enter Try.func65, Try.ntmps65
  go_wp2
  exact bodyPost_ret (v := .tuple #[.int .u64 0, .int .u64 6]) (by simp [results, Try.results65]) rfl ⟨rfl, rfl⟩
set_option maxRecDepth 100000 in
set_option maxHeartbeats 3200000 in
theorem repeat_any (g : Nat) (w : World) (hc : w.cell? ⟨g, 0, none⟩ = some (.int .i64 (-1))) :
    Calls Try.prog 42 #[.slice (some ⟨g, 0, none⟩) 1 1, .int .i64 6] w fun e w' => ∃ B d F, e = .returned (.slice B 6 d) ∧ Own 3 w' (.slice B 6 d) (ints ms6) F ∧ (∀ g, g ∈ F → w.heap.size ≤ g) ∧ Below w.heap.size w w' := by
  obtain ⟨N, hN⟩ : ∃ N : Nat, N = 6 := ⟨_, rfl⟩
  have hmk := run_make_row' (P := Try.prog) 22 3 (.int .i64 0) 8 Try.underlying22 intInfo rfl .i64 .i64 N (by omega) (by omega)
  have e6 : (N : Int) = 6 := by omega
  rw [e6] at hmk
  subst hN
  clear e6
  obtain ⟨W1, hcp, hrow1, hb1⟩ := rep_first w g hc
  have HR1 := hide hrow1
  have HB1 := hide hb1
  clear hrow1 hb1
  go_enter Try.func42, Try.ntmps42
  go_wp2_with (go_at_call 65; refine (mul16_any _).mono ?_; rintro e w' ⟨rfl, rfl⟩)
  clear hmk hcp hc
  go_loopg [8] 6 (fun gh i wr => ∃ k r : Nat, (k = 1 ∧ r = 5 ∨ k = 2 ∧ r = 4 ∨ k = 4 ∧ r = 2 ∨ k = 6 ∧ r = 0) ∧ gh = 7 - k ∧ i = .int .i64 k ∧ wr.heap[w.heap.size]? = some (.cells (repRow k r).toArray 3 (0, 0)) ∧ Below w.heap.size w wr)
  case atStart => exact ⟨1, 5, by omega, rfl, rfl, HR1.out, HB1.out⟩
  case round =>
    obtain ⟨k, r, hk, hg, rfl, hrow, hb⟩ := hrel
    have HG := hide hg
    have HR := hide hrow
    have HB := hide hb
    clear hg hrow hb
    rcases hk with ⟨rfl, rfl⟩ | ⟨rfl, rfl⟩ | ⟨rfl, rfl⟩ | ⟨rfl, rfl⟩
    · obtain ⟨W2, hcp, hrow, hb⟩ := rep_copy wr.drew w.heap.size 1 1 5 6 2 4 1 rfl rfl rfl rfl rfl HR.out
      have HR2 := hide hrow
      have HB2 := hide (hb _ _ HB.out.drew (Nat.le_refl _))
      clear hrow hb
      go_wp2_with fail
      go_region
      all_goals
        go_wp2
        go_roundg (7 - 2)
        case measure => have := HG.out; omega
        case rel => exact ⟨2, 4, by omega, rfl, rfl, HR2.out, HB2.out⟩
    · obtain ⟨W2, hcp, hrow, hb⟩ := rep_copy wr.drew w.heap.size 2 2 4 6 4 2 2 rfl rfl rfl rfl rfl HR.out
      have HR2 := hide hrow
      have HB2 := hide (hb _ _ HB.out.drew (Nat.le_refl _))
      clear hrow hb
      go_wp2_with fail
      go_region
      all_goals
        go_wp2
        go_roundg (7 - 4)
        case measure => have := HG.out; omega
        case rel => exact ⟨4, 2, by omega, rfl, rfl, HR2.out, HB2.out⟩
    · obtain ⟨W2, hcp, hrow, hb⟩ := rep_copy wr.drew w.heap.size 4 2 2 6 6 0 2 rfl rfl rfl rfl rfl HR.out
      have HR2 := hide hrow
      have HB2 := hide (hb _ _ HB.out.drew (Nat.le_refl _))
      clear hrow hb
      go_wp2_with fail
      go_region
      all_goals
        go_wp2
        go_roundg (7 - 6)
        case measure => have := HG.out; omega
        case rel => exact ⟨6, 0, by omega, rfl, rfl, HR2.out, HB2.out⟩
    · go_wp2
      go_ret
      refine ⟨_, _, [w.heap.size], rfl, ?_, by simp, HB.out⟩
      exact ⟨some ⟨w.heap.size, 0, none⟩, 6, rfl, by unfold maxLen; omega, .inr ⟨w.heap.size, 6, fun _ => .int .i64 (-1), rfl, rfl, ⟨_, HR.out, rfl, fun i hi => by
        have : i = 0 ∨ i = 1 ∨ i = 2 ∨ i = 3 ∨ i = 4 ∨ i = 5 := by omega
        rcases this with rfl | rfl | rfl | rfl | rfl | rfl <;> rfl⟩, Nat.le_refl _, Nat.le_refl _, fun j hj => by
        have hj6 : j < 6 := hj
        have : j = 0 ∨ j = 1 ∨ j = 2 ∨ j = 3 ∨ j = 4 ∨ j = 5 := by omega
        rcases this with rfl | rfl | rfl | rfl | rfl | rfl <;> rfl⟩⟩

theorem hnew_fin {w W : World} {N : Nat} (hN : N = 384) {gz : Nat} {B : Option Addr} {d : Nat} {F : List Nat} (v0 v1 : Value) (hz : Own 3 W (.slice (some ⟨gz, 0, none⟩) N N) (ints (List.replicate N 0)) [gz]) (ho : Own 3 W (.slice B 6 d) (ints ms6) F)
    (hlo : ∀ g, g ∈ F → w.heap.size + 1 ≤ g) (hgz : w.heap.size + 1 ≤ gz) (hnz : gz ∉ F) (hb : Below w.heap.size w W) :
    CopyH w ((W.setCell ⟨w.heap.size, 0, none⟩ v0).setCell ⟨w.heap.size, 1, none⟩ v1) 384 6 zs384 ms6 (some ⟨gz, 0, none⟩) 384 [gz] B d F := by
  have ht : Touch [w.heap.size] W ((W.setCell ⟨w.heap.size, 0, none⟩ v0).setCell ⟨w.heap.size, 1, none⟩ v1) := ((Touch.refl _ _).setCell (by simp) _).setCell (by simp) _
  subst hN
  refine ⟨hz.touch ht (by simp; omega), ho.touch ht (fun g hg => by have := hlo g hg; simp; omega), fun g hg => ?_, fun g hg hg' => ?_, Below.touch hb ht (by simp) hb.size⟩
  · rcases List.mem_append.1 hg with h | h
    · simp at h; omega
    · have := hlo g h; omega
  · simp at hg; subst hg; exact hnz hg'
theorem hnew_fin2 {w W : World} {N : Nat} (hN : N = 384) {B : Option Addr} {d : Nat} {F : List Nat} (v0 v1 : Value) (ho : Own 3 W (.slice B 6 d) (ints ms6) F)
    (hlo : ∀ g, g ∈ F → w.heap.size + 1 ≤ g) (hs : w.heap.size < W.heap.size) (hb : Below w.heap.size w W) :
    CopyH w (((W.setCell ⟨w.heap.size, 0, none⟩ v0).setCell ⟨w.heap.size, 1, none⟩ v1).alloc (.cells (madeCells #[.int .i64 0] N) 3)) 384 6 zs384 ms6 (some ⟨W.heap.size, 0, none⟩) 384 [W.heap.size] B d F := by
  have ht : Touch [w.heap.size] W ((W.setCell ⟨w.heap.size, 0, none⟩ v0).setCell ⟨w.heap.size, 1, none⟩ v1) := ((Touch.refl _ _).setCell (by simp) _).setCell (by simp) _
  have ho2 := ho.touch ht (fun g hg => by have := hlo g hg; simp; omega)
  have hb2 := Below.touch hb ht (by simp) hb.size
  have e : ((W.setCell ⟨w.heap.size, 0, none⟩ v0).setCell ⟨w.heap.size, 1, none⟩ v1).heap.size = W.heap.size := by simp [World.setCell]
  have hz := zer_start ((W.setCell ⟨w.heap.size, 0, none⟩ v0).setCell ⟨w.heap.size, 1, none⟩ v1) N (by unfold maxLen; omega)
  rw [e] at hz
  subst hN
  refine ⟨hz, ho2.below ((Below.refl _ _).alloc (Nat.le_refl _) _), fun g hg => ?_, fun g hg hg' => ?_, hb2.alloc hb2.size _⟩
  · rcases List.mem_append.1 hg with h | h
    · simp at h; omega
    · have := hlo g h; omega
  · simp at hg; subst hg; have := ho.lt _ hg'; omega

set_option maxRecDepth 100000 in
set_option maxHeartbeats 3200000 in
theorem implHeapNew_any (w : World) :
    Calls Try.prog 20 #[] w fun e w' => HNew w w' e := by
  obtain ⟨N, hN⟩ : ∃ N : Nat, N = 384 := ⟨_, rfl⟩
  have hmk := run_make_row' (P := Try.prog) 22 3 (.int .i64 0) 8 Try.underlying22 intInfo rfl .i64 .i64 N (by omega) (by omega)
  have e384 : (N : Int) = 384 := by omega
  rw [e384] at hmk
  have HN := hide hN
  clear e384 hN
  go_enter Try.func20, Try.ntmps20
  go_wp2_with fail
  go_region_with (go_at_call 42; refine (repeat_any _ _ (by go_simp)).mono ?_; rintro e w1 ⟨B, d, F, rfl, ho, hF, hb⟩; have z1 := hb.size; (try simp at z1); have t1 : w.heap.size < w1.heap.size := (by omega); have k0 : w1.cell? ⟨w.heap.size, 0, none⟩ = some (.slice none 0 0) := (Below.cell hb (by simp <;> omega)).trans (by go_simp); have k1 : w1.cell? ⟨w.heap.size, 1, none⟩ = some (.slice none 0 0) := (Below.cell hb (by simp <;> omega)).trans (by go_simp); have k2 : w1.frozen? ⟨w.heap.size, 0, none⟩ = false := (Below.frozen hb (by simp <;> omega)).trans (by go_simp); have k3 : w1.frozen? ⟨w.heap.size, 1, none⟩ = false := (Below.frozen hb (by simp <;> omega)).trans (by go_simp))
  all_goals
    go_wp2_with fail
    obtain rfl := HN.out
    have hlo : ∀ g, g ∈ F → w.heap.size + 1 + 1 ≤ g := fun g hg => by have h1 := hF g hg; simp at h1; omega
  · have hz := zer_start (w.alloc (.cells #[.slice none 0 0, .slice none 0 0] 27)) 384 (by unfold maxLen; omega)
    have e : (w.alloc (.cells #[.slice none 0 0, .slice none 0 0] 27)).heap.size = w.heap.size + 1 := by simp
    rw [e] at hz
    have hb2 : Below w.heap.size w w1 := ((((Below.refl _ _).alloc (Nat.le_refl _) _).alloc (by simp) _).alloc (by simp <;> omega) _).drew.trans (hb.mono (by simp <;> omega))
    exact bodyPost_ret (v := .agg #[.slice (some ⟨w.heap.size + 1, 0, none⟩) 384 384, .slice B 6 d]) (by simp [results, Try.results20, go_sem, k0, k1]) rfl
      ⟨_, _, _, _, _, _, rfl, hnew_fin rfl _ _ (((hz.below ((Below.refl _ _).alloc (Nat.le_refl _) _)).below (Below.refl _ _).drew).below hb) ho (fun g hg => by have := hlo g hg; omega) (Nat.le_refl _) (fun h => by have := hF _ h; simp at this; omega) hb2⟩
  · have hz := zer_start ((w.alloc (.cells #[.slice none 0 0, .slice none 0 0] 27)).alloc (.cells #[.int .i64 (-1)] 3)) 384 (by unfold maxLen; omega)
    have e : ((w.alloc (.cells #[.slice none 0 0, .slice none 0 0] 27)).alloc (.cells #[.int .i64 (-1)] 3)).heap.size = w.heap.size + 1 + 1 := by simp
    rw [e] at hz
    have hb2 : Below w.heap.size w w1 := ((((Below.refl _ _).alloc (Nat.le_refl _) _).alloc (by simp) _).alloc (by simp <;> omega) _).drew.trans (hb.mono (by simp <;> omega))
    exact bodyPost_ret (v := .agg #[.slice (some ⟨w.heap.size + 1 + 1, 0, none⟩) 384 384, .slice B 6 d]) (by simp [results, Try.results20, go_sem, k0, k1]) rfl
      ⟨_, _, _, _, _, _, rfl, hnew_fin rfl _ _ ((hz.below (Below.refl _ _).drew).below hb) ho (fun g hg => by have := hlo g hg; omega) (by omega) (fun h => by have := hF _ h; simp at this; omega) hb2⟩
  · have hb2 : Below w.heap.size w w1 := (((Below.refl _ _).alloc (Nat.le_refl _) _).alloc (by simp) _).drew.trans (hb.mono (by simp <;> omega))
    exact bodyPost_ret (v := .agg #[.slice (some ⟨w1.heap.size, 0, none⟩) 384 384, .slice B 6 d]) (by simp [results, Try.results20, go_sem, k0, k1, t1]) rfl
      ⟨_, _, _, _, _, _, rfl, hnew_fin2 rfl _ _ ho (fun g hg => by have := hlo g hg; omega) t1 hb2⟩

set_option maxRecDepth 100000 in
set_option maxHeartbeats 3200000 in
theorem fnExactHeapNew_walk  (w : World)  :
    Calls Try.prog 5 #[] w fun e w' => e = .returned (.bool true) ∧ Below w.heap.size w w' := by
  have HB0 := hide (Below.refl w.heap.size w)
  go_enter Try.func5, Try.ntmps5
  go_wp2_with fail
  refine (specHeapNew_any _).mono ?_
  rintro e w1 ⟨A_s, c_s, F_s, B_s, d_s, G_s, rfl, ho, ho', hF, hd, hb⟩
  have HB1 := hide (HB0.out.trans (hb.mono HB0.out.size))
  have hs1 : w.heap.size ≤ w1.heap.size := hb.size
  clear hb
  have Os_1 := hide ho
  have Ps_1 := hide ho'
  have HDs := hide hd
  clear ho ho' hd
  have Ls : Hid (∀ g, g ∈ F_s ++ G_s → w.heap.size ≤ g ∧ g < w1.heap.size) := hide (fun g hg => ⟨hF g hg, (List.mem_append.1 hg).elim (Os_1.out.lt g) (Ps_1.out.lt g)⟩)
  clear hF
  go_wp2_with fail
  obtain ⟨w2, hW⟩ : ∃ W : World, W = w1.alloc (.cells #[(.slice A_s 384 c_s), (.slice B_s 6 d_s)] 27) := ⟨_, rfl⟩
  rw [← hW]
  have hb : Below w1.heap.size w1 w2 := by rw [hW]; exact (Below.refl _ _).alloc (Nat.le_refl _) _
  have nb0 : w2.cell? ⟨w1.heap.size, 0, none⟩ = some (.slice A_s 384 c_s) := by rw [hW]; go_simp
  have nb1 : w2.cell? ⟨w1.heap.size, 1, none⟩ = some (.slice B_s 6 d_s) := by rw [hW]; go_simp
  have nt : w1.heap.size < w2.heap.size := by rw [hW]; simp
  clear hW
  have HB2 := hide (HB1.out.trans (hb.mono HB1.out.size))
  have hs2 : w1.heap.size ≤ w2.heap.size := hb.size
  have Os_2 := hide (Os_1.out.below hb)
  clear Os_1
  have Ps_2 := hide (Ps_1.out.below hb)
  clear Ps_1
  clear hb
  have bs_0_2 := nb0
  have bs_1_2 := nb1
  have ts_2 := nt
  have us := nt
  clear nb0 nb1 nt
  refine (implHeapNew_any _).mono ?_
  rintro e w3 ⟨A_g, c_g, F_g, B_g, d_g, G_g, rfl, ho, ho', hF, hd, hb⟩
  have HB3 := hide (HB2.out.trans (hb.mono HB2.out.size))
  have hs3 : w2.heap.size ≤ w3.heap.size := hb.size
  have bs_0_3 : w3.cell? ⟨w1.heap.size, 0, none⟩ = some (.slice A_s 384 c_s) := by rw [hb.cell ts_2]; exact bs_0_2
  have bs_1_3 : w3.cell? ⟨w1.heap.size, 1, none⟩ = some (.slice B_s 6 d_s) := by rw [hb.cell ts_2]; exact bs_1_2
  have ts_3 : w1.heap.size < w3.heap.size := Nat.lt_of_lt_of_le ts_2 hs3
  clear bs_0_2 bs_1_2 ts_2
  have Os_3 := hide (Os_2.out.below hb)
  clear Os_2
  have Ps_3 := hide (Ps_2.out.below hb)
  clear Ps_2
  clear hb
  have Og_3 := hide ho
  have Pg_3 := hide ho'
  have HDg := hide hd
  clear ho ho' hd
  have Lg : Hid (∀ g, g ∈ F_g ++ G_g → w2.heap.size ≤ g ∧ g < w3.heap.size) := hide (fun g hg => ⟨hF g hg, (List.mem_append.1 hg).elim (Og_3.out.lt g) (Pg_3.out.lt g)⟩)
  clear hF
  go_wp2_with fail
  obtain ⟨w4, hW⟩ : ∃ W : World, W = w3.alloc (.cells #[(.slice A_g 384 c_g), (.slice B_g 6 d_g)] 27) := ⟨_, rfl⟩
  rw [← hW]
  have hb : Below w3.heap.size w3 w4 := by rw [hW]; exact (Below.refl _ _).alloc (Nat.le_refl _) _
  have nb0 : w4.cell? ⟨w3.heap.size, 0, none⟩ = some (.slice A_g 384 c_g) := by rw [hW]; go_simp
  have nb1 : w4.cell? ⟨w3.heap.size, 1, none⟩ = some (.slice B_g 6 d_g) := by rw [hW]; go_simp
  have nt : w3.heap.size < w4.heap.size := by rw [hW]; simp
  clear hW
  have HB4 := hide (HB3.out.trans (hb.mono HB3.out.size))
  have hs4 : w3.heap.size ≤ w4.heap.size := hb.size
  have bs_0_4 : w4.cell? ⟨w1.heap.size, 0, none⟩ = some (.slice A_s 384 c_s) := by rw [hb.cell ts_3]; exact bs_0_3
  have bs_1_4 : w4.cell? ⟨w1.heap.size, 1, none⟩ = some (.slice B_s 6 d_s) := by rw [hb.cell ts_3]; exact bs_1_3
  have ts_4 : w1.heap.size < w4.heap.size := Nat.lt_of_lt_of_le ts_3 hs4
  clear bs_0_3 bs_1_3 ts_3
  have Os_4 := hide (Os_3.out.below hb)
  clear Os_3
  have Ps_4 := hide (Ps_3.out.below hb)
  clear Ps_3
  have Og_4 := hide (Og_3.out.below hb)
  clear Og_3
  have Pg_4 := hide (Pg_3.out.below hb)
  clear Pg_3
  clear hb
  have bg_0_4 := nb0
  have bg_1_4 := nb1
  have tg_4 := nt
  have ug := nt
  clear nb0 nb1 nt
  refine (eqHeap_same _ _ _ _ _ _ _ _ _ _ zs384 ms6 _ _ (by rfl) (by omega) (by rfl) (by omega) (Nat.le_refl _) (Og_4.out.rd).2 (Os_4.out.rd).2 (Pg_4.out.rd).2 (Ps_4.out.rd).2).mono ?_
  rintro e w5 ⟨rfl, hb⟩
  have HB5 := hide (HB4.out.trans (hb.mono HB4.out.size))
  have hs5 : w4.heap.size ≤ w5.heap.size := hb.size
  have bs_0_5 : w5.cell? ⟨w1.heap.size, 0, none⟩ = some (.slice A_s 384 c_s) := by rw [hb.cell ts_4]; exact bs_0_4
  have bs_1_5 : w5.cell? ⟨w1.heap.size, 1, none⟩ = some (.slice B_s 6 d_s) := by rw [hb.cell ts_4]; exact bs_1_4
  have ts_5 : w1.heap.size < w5.heap.size := Nat.lt_of_lt_of_le ts_4 hs5
  clear bs_0_4 bs_1_4 ts_4
  have bg_0_5 : w5.cell? ⟨w3.heap.size, 0, none⟩ = some (.slice A_g 384 c_g) := by rw [hb.cell tg_4]; exact bg_0_4
  have bg_1_5 : w5.cell? ⟨w3.heap.size, 1, none⟩ = some (.slice B_g 6 d_g) := by rw [hb.cell tg_4]; exact bg_1_4
  have tg_5 : w3.heap.size < w5.heap.size := Nat.lt_of_lt_of_le tg_4 hs5
  clear bg_0_4 bg_1_4 tg_4
  have Os_5 := hide (Os_4.out.below hb)
  clear Os_4
  have Ps_5 := hide (Ps_4.out.below hb)
  clear Ps_4
  have Og_5 := hide (Og_4.out.below hb)
  clear Og_4
  have Pg_5 := hide (Pg_4.out.below hb)
  clear Pg_4
  clear hb
  go_wp2_with fail
  refine (markHeap_any _ _ _ _ _ _ _ _ _ _ 1 _ Og_5.out Pg_5.out HDg.out (by omega) (by omega) (by omega)).mono ?_
  rintro e w6 ⟨rfl, ho, ho', ht⟩
  have HB6 := hide (Below.touch HB5.out ht (fun g hg => by have := Lg.out g hg; omega) HB5.out.size)
  have hs6 : w5.heap.size ≤ w6.heap.size := ht.size
  have bs_0_6 : w6.cell? ⟨w1.heap.size, 0, none⟩ = some (.slice A_s 384 c_s) := by rw [World.cell?_of_block (w := w5) (ht.block _ ts_5 (fun hg => by have h5 := Lg.out (w1.heap.size) hg; omega))]; exact bs_0_5
  have bs_1_6 : w6.cell? ⟨w1.heap.size, 1, none⟩ = some (.slice B_s 6 d_s) := by rw [World.cell?_of_block (w := w5) (ht.block _ ts_5 (fun hg => by have h5 := Lg.out (w1.heap.size) hg; omega))]; exact bs_1_5
  have ts_6 : w1.heap.size < w6.heap.size := Nat.lt_of_lt_of_le ts_5 hs6
  clear bs_0_5 bs_1_5 ts_5
  have bg_0_6 : w6.cell? ⟨w3.heap.size, 0, none⟩ = some (.slice A_g 384 c_g) := by rw [World.cell?_of_block (w := w5) (ht.block _ tg_5 (fun hg => by have h5 := Lg.out (w3.heap.size) hg; omega))]; exact bg_0_5
  have bg_1_6 : w6.cell? ⟨w3.heap.size, 1, none⟩ = some (.slice B_g 6 d_g) := by rw [World.cell?_of_block (w := w5) (ht.block _ tg_5 (fun hg => by have h5 := Lg.out (w3.heap.size) hg; omega))]; exact bg_1_5
  have tg_6 : w3.heap.size < w6.heap.size := Nat.lt_of_lt_of_le tg_5 hs6
  clear bg_0_5 bg_1_5 tg_5
  have Os_6 := hide (Os_5.out.touch ht (fun g hg hg' => by have := Ls.out g (List.mem_append_left _ hg); have := Lg.out g hg'; omega))
  clear Os_5
  have Ps_6 := hide (Ps_5.out.touch ht (fun g hg hg' => by have := Ls.out g (List.mem_append_right _ hg); have := Lg.out g hg'; omega))
  clear Ps_5
  clear ht
  have Og_6 := hide ho
  have Pg_6 := hide ho'
  clear ho ho' Og_5 Pg_5
  go_wp2_with fail
  refine (heldHeap_same _ _ _ _ _ _ 1 _ (Og_6.out.rd).2 (Pg_6.out.rd).2 (by omega) (by omega) (by omega)).mono ?_
  rintro e w7 ⟨rfl, hb⟩
  have HB7 := hide (HB6.out.trans (hb.mono HB6.out.size))
  have hs7 : w6.heap.size ≤ w7.heap.size := hb.size
  have bs_0_7 : w7.cell? ⟨w1.heap.size, 0, none⟩ = some (.slice A_s 384 c_s) := by rw [hb.cell ts_6]; exact bs_0_6
  have bs_1_7 : w7.cell? ⟨w1.heap.size, 1, none⟩ = some (.slice B_s 6 d_s) := by rw [hb.cell ts_6]; exact bs_1_6
  have ts_7 : w1.heap.size < w7.heap.size := Nat.lt_of_lt_of_le ts_6 hs7
  clear bs_0_6 bs_1_6 ts_6
  have bg_0_7 : w7.cell? ⟨w3.heap.size, 0, none⟩ = some (.slice A_g 384 c_g) := by rw [hb.cell tg_6]; exact bg_0_6
  have bg_1_7 : w7.cell? ⟨w3.heap.size, 1, none⟩ = some (.slice B_g 6 d_g) := by rw [hb.cell tg_6]; exact bg_1_6
  have tg_7 : w3.heap.size < w7.heap.size := Nat.lt_of_lt_of_le tg_6 hs7
  clear bg_0_6 bg_1_6 tg_6
  have Os_7 := hide (Os_6.out.below hb)
  clear Os_6
  have Ps_7 := hide (Ps_6.out.below hb)
  clear Ps_6
  have Og_7 := hide (Og_6.out.below hb)
  clear Og_6
  have Pg_7 := hide (Pg_6.out.below hb)
  clear Pg_6
  clear hb
  go_wp2_with fail
  refine (implHeapNew_any _).mono ?_
  rintro e w8 ⟨A_r, c_r, F_r, B_r, d_r, G_r, rfl, ho, ho', hF, hd, hb⟩
  have HB8 := hide (HB7.out.trans (hb.mono HB7.out.size))
  have hs8 : w7.heap.size ≤ w8.heap.size := hb.size
  have bs_0_8 : w8.cell? ⟨w1.heap.size, 0, none⟩ = some (.slice A_s 384 c_s) := by rw [hb.cell ts_7]; exact bs_0_7
  have bs_1_8 : w8.cell? ⟨w1.heap.size, 1, none⟩ = some (.slice B_s 6 d_s) := by rw [hb.cell ts_7]; exact bs_1_7
  have ts_8 : w1.heap.size < w8.heap.size := Nat.lt_of_lt_of_le ts_7 hs8
  clear bs_0_7 bs_1_7 ts_7
  have bg_0_8 : w8.cell? ⟨w3.heap.size, 0, none⟩ = some (.slice A_g 384 c_g) := by rw [hb.cell tg_7]; exact bg_0_7
  have bg_1_8 : w8.cell? ⟨w3.heap.size, 1, none⟩ = some (.slice B_g 6 d_g) := by rw [hb.cell tg_7]; exact bg_1_7
  have tg_8 : w3.heap.size < w8.heap.size := Nat.lt_of_lt_of_le tg_7 hs8
  clear bg_0_7 bg_1_7 tg_7
  have Os_8 := hide (Os_7.out.below hb)
  clear Os_7
  have Ps_8 := hide (Ps_7.out.below hb)
  clear Ps_7
  have Og_8 := hide (Og_7.out.below hb)
  clear Og_7
  have Pg_8 := hide (Pg_7.out.below hb)
  clear Pg_7
  clear hb
  have Or_8 := hide ho
  have Pr_8 := hide ho'
  have HDr := hide hd
  clear ho ho' hd
  have Lr : Hid (∀ g, g ∈ F_r ++ G_r → w7.heap.size ≤ g ∧ g < w8.heap.size) := hide (fun g hg => ⟨hF g hg, (List.mem_append.1 hg).elim (Or_8.out.lt g) (Pr_8.out.lt g)⟩)
  clear hF
  go_wp2_with fail
  obtain ⟨w9, hW⟩ : ∃ W : World, W = w8.alloc (.cells #[(.slice A_r 384 c_r), (.slice B_r 6 d_r)] 27) := ⟨_, rfl⟩
  rw [← hW]
  have hb : Below w8.heap.size w8 w9 := by rw [hW]; exact (Below.refl _ _).alloc (Nat.le_refl _) _
  have nb0 : w9.cell? ⟨w8.heap.size, 0, none⟩ = some (.slice A_r 384 c_r) := by rw [hW]; go_simp
  have nb1 : w9.cell? ⟨w8.heap.size, 1, none⟩ = some (.slice B_r 6 d_r) := by rw [hW]; go_simp
  have nt : w8.heap.size < w9.heap.size := by rw [hW]; simp
  clear hW
  have HB9 := hide (HB8.out.trans (hb.mono HB8.out.size))
  have hs9 : w8.heap.size ≤ w9.heap.size := hb.size
  have bs_0_9 : w9.cell? ⟨w1.heap.size, 0, none⟩ = some (.slice A_s 384 c_s) := by rw [hb.cell ts_8]; exact bs_0_8
  have bs_1_9 : w9.cell? ⟨w1.heap.size, 1, none⟩ = some (.slice B_s 6 d_s) := by rw [hb.cell ts_8]; exact bs_1_8
  have ts_9 : w1.heap.size < w9.heap.size := Nat.lt_of_lt_of_le ts_8 hs9
  clear bs_0_8 bs_1_8 ts_8
  have bg_0_9 : w9.cell? ⟨w3.heap.size, 0, none⟩ = some (.slice A_g 384 c_g) := by rw [hb.cell tg_8]; exact bg_0_8
  have bg_1_9 : w9.cell? ⟨w3.heap.size, 1, none⟩ = some (.slice B_g 6 d_g) := by rw [hb.cell tg_8]; exact bg_1_8
  have tg_9 : w3.heap.size < w9.heap.size := Nat.lt_of_lt_of_le tg_8 hs9
  clear bg_0_8 bg_1_8 tg_8
  have Os_9 := hide (Os_8.out.below hb)
  clear Os_8
  have Ps_9 := hide (Ps_8.out.below hb)
  clear Ps_8
  have Og_9 := hide (Og_8.out.below hb)
  clear Og_8
  have Pg_9 := hide (Pg_8.out.below hb)
  clear Pg_8
  have Or_9 := hide (Or_8.out.below hb)
  clear Or_8
  have Pr_9 := hide (Pr_8.out.below hb)
  clear Pr_8
  clear hb
  have br_0_9 := nb0
  have br_1_9 := nb1
  have tr_9 := nt
  have ur := nt
  clear nb0 nb1 nt
  refine (eqHeap_same _ _ _ _ _ _ _ _ _ _ zs384 ms6 _ _ (by rfl) (by omega) (by rfl) (by omega) (Nat.le_refl _) (Or_9.out.rd).2 (Os_9.out.rd).2 (Pr_9.out.rd).2 (Ps_9.out.rd).2).mono ?_
  rintro e w10 ⟨rfl, hb⟩
  have HB10 := hide (HB9.out.trans (hb.mono HB9.out.size))
  have hs10 : w9.heap.size ≤ w10.heap.size := hb.size
  have bs_0_10 : w10.cell? ⟨w1.heap.size, 0, none⟩ = some (.slice A_s 384 c_s) := by rw [hb.cell ts_9]; exact bs_0_9
  have bs_1_10 : w10.cell? ⟨w1.heap.size, 1, none⟩ = some (.slice B_s 6 d_s) := by rw [hb.cell ts_9]; exact bs_1_9
  have ts_10 : w1.heap.size < w10.heap.size := Nat.lt_of_lt_of_le ts_9 hs10
  clear bs_0_9 bs_1_9 ts_9
  have bg_0_10 : w10.cell? ⟨w3.heap.size, 0, none⟩ = some (.slice A_g 384 c_g) := by rw [hb.cell tg_9]; exact bg_0_9
  have bg_1_10 : w10.cell? ⟨w3.heap.size, 1, none⟩ = some (.slice B_g 6 d_g) := by rw [hb.cell tg_9]; exact bg_1_9
  have tg_10 : w3.heap.size < w10.heap.size := Nat.lt_of_lt_of_le tg_9 hs10
  clear bg_0_9 bg_1_9 tg_9
  have br_0_10 : w10.cell? ⟨w8.heap.size, 0, none⟩ = some (.slice A_r 384 c_r) := by rw [hb.cell tr_9]; exact br_0_9
  have br_1_10 : w10.cell? ⟨w8.heap.size, 1, none⟩ = some (.slice B_r 6 d_r) := by rw [hb.cell tr_9]; exact br_1_9
  have tr_10 : w8.heap.size < w10.heap.size := Nat.lt_of_lt_of_le tr_9 hs10
  clear br_0_9 br_1_9 tr_9
  have Os_10 := hide (Os_9.out.below hb)
  clear Os_9
  have Ps_10 := hide (Ps_9.out.below hb)
  clear Ps_9
  have Og_10 := hide (Og_9.out.below hb)
  clear Og_9
  have Pg_10 := hide (Pg_9.out.below hb)
  clear Pg_9
  have Or_10 := hide (Or_9.out.below hb)
  clear Or_9
  have Pr_10 := hide (Pr_9.out.below hb)
  clear Pr_9
  clear hb
  clear Or_10 Pr_10
  go_wp2_with fail
  refine (heldHeap_same _ _ _ _ _ _ 1 _ (Og_10.out.rd).2 (Pg_10.out.rd).2 (by omega) (by omega) (by omega)).mono ?_
  rintro e w11 ⟨rfl, hb⟩
  have HB11 := hide (HB10.out.trans (hb.mono HB10.out.size))
  have hs11 : w10.heap.size ≤ w11.heap.size := hb.size
  have bs_0_11 : w11.cell? ⟨w1.heap.size, 0, none⟩ = some (.slice A_s 384 c_s) := by rw [hb.cell ts_10]; exact bs_0_10
  have bs_1_11 : w11.cell? ⟨w1.heap.size, 1, none⟩ = some (.slice B_s 6 d_s) := by rw [hb.cell ts_10]; exact bs_1_10
  have ts_11 : w1.heap.size < w11.heap.size := Nat.lt_of_lt_of_le ts_10 hs11
  clear bs_0_10 bs_1_10 ts_10
  have bg_0_11 : w11.cell? ⟨w3.heap.size, 0, none⟩ = some (.slice A_g 384 c_g) := by rw [hb.cell tg_10]; exact bg_0_10
  have bg_1_11 : w11.cell? ⟨w3.heap.size, 1, none⟩ = some (.slice B_g 6 d_g) := by rw [hb.cell tg_10]; exact bg_1_10
  have tg_11 : w3.heap.size < w11.heap.size := Nat.lt_of_lt_of_le tg_10 hs11
  clear bg_0_10 bg_1_10 tg_10
  have br_0_11 : w11.cell? ⟨w8.heap.size, 0, none⟩ = some (.slice A_r 384 c_r) := by rw [hb.cell tr_10]; exact br_0_10
  have br_1_11 : w11.cell? ⟨w8.heap.size, 1, none⟩ = some (.slice B_r 6 d_r) := by rw [hb.cell tr_10]; exact br_1_10
  have tr_11 : w8.heap.size < w11.heap.size := Nat.lt_of_lt_of_le tr_10 hs11
  clear br_0_10 br_1_10 tr_10
  have Os_11 := hide (Os_10.out.below hb)
  clear Os_10
  have Ps_11 := hide (Ps_10.out.below hb)
  clear Ps_10
  have Og_11 := hide (Og_10.out.below hb)
  clear Og_10
  have Pg_11 := hide (Pg_10.out.below hb)
  clear Pg_10
  clear hb
  go_wp2
  go_ret
  exact ⟨rfl, HB11.out⟩
end Go.Proofs.Ytjjfblejccfplaa
