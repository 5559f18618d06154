/-
  HeapNew: a heap of zero bytes whose pages have no class. The contracts and the walk of the law.
-/
import Derived.Test.YtdhocncfpapncacCopyH
import Derived.Test.YtdhocncfpapncacCarved
import Derived.Laws.CopyOwn
namespace Go.Proofs.Ytdhocncfpapncac
open Go.RowKit
set_option linter.unusedVariables false

def zs384 : List Int := List.replicate 384 0
def ms6 : List Int := List.replicate 6 (-1)
def HNew (w w' : World) (e : Ending) : Prop := ∃ B d F B' d' F', e = .returned (.agg #[.slice B 384 d, .slice B' 6 d']) ∧ CopyH w w' 384 6 zs384 ms6 B d F B' d' F'
structure HnRel (w wr : World) (N k : Nat) (v : Value) : Prop where
  b0 : wr.cell? ⟨w.heap.size + 1 + 1, 0, none⟩ = some (.slice (some ⟨w.heap.size + 1, 0, none⟩) N N)
  b1 : wr.cell? ⟨w.heap.size + 1 + 1, 1, none⟩ = some v
  f1 : wr.frozen? ⟨w.heap.size + 1 + 1, 1, none⟩ = false
  r0 : wr.cell? ⟨w.heap.size, 0, none⟩ = some (.slice none 0 0)
  r1 : wr.cell? ⟨w.heap.size, 1, none⟩ = some (.slice none 0 0)
  g0 : wr.frozen? ⟨w.heap.size, 0, none⟩ = false
  g1 : wr.frozen? ⟨w.heap.size, 1, none⟩ = false
  own : wr.ownsRow (w.heap.size + 3) 3 1 v k (ints (List.replicate k (-1)))
  zer : Own 3 wr (.slice (some ⟨w.heap.size + 1, 0, none⟩) N N) (ints (List.replicate N 0)) [w.heap.size + 1]
  lt : w.heap.size + 3 ≤ wr.heap.size
  bel : Below w.heap.size w wr
theorem zer_start (w : World) (N : Nat) (hm : N ≤ maxLen) : Own 3 (w.alloc (.cells (madeCells #[.int .i64 0] N) 3)) (.slice (some ⟨w.heap.size, 0, none⟩) N N) (ints (List.replicate N 0)) [w.heap.size] :=
  ⟨some ⟨w.heap.size, 0, none⟩, N, by rw [ints_length, List.length_replicate], hm, .inr ⟨_, N, _, rfl, rfl, World.rowIs_made w _ N _, by rw [ints_length, List.length_replicate]; omega, Nat.le_refl _, fun j hj => by
    rw [ints_length, List.length_replicate] at hj
    rw [ints_get _ _ (by rw [List.length_replicate]; exact hj)]; simp [List.getD, hj]⟩⟩
theorem HnRel.app {w wr w' : World} {N k : Nat} {v v' : Value} {o : Obj} (h : HnRel w wr N k v) (hown : w'.ownsRow (w.heap.size + 3) 3 1 v' (k + 1) (ints (List.replicate k (-1)) ++ [.int .i64 (-1)])) (hgr : (wr.alloc o).grownBy w' v.ownBlock) :
    (w'.cell? ⟨w.heap.size + 1 + 1, 1, none⟩ = some v ∧ w'.frozen? ⟨w.heap.size + 1 + 1, 1, none⟩ = false) ∧ HnRel w (w'.setCell ⟨w.heap.size + 1 + 1, 1, none⟩ v') N (k + 1) v' := by
  have hk := h.own.lt
  have hz := h.lt
  have ha : Below wr.heap.size wr (wr.alloc o) := (Below.refl _ _).alloc (Nat.le_refl _) _
  have ht : Touch (v.ownBlock.toList) (wr.alloc o) w' := ⟨hgr.os, hgr.tape, hgr.output, hgr.size, fun i hi hn => hgr.block i hi (fun e => hn (by rw [← e]; simp))⟩
  have ht0 : Touch (v.ownBlock.toList) wr w' := (Touch.of_below ha).trans ht
  have hout : ∀ g, g < w.heap.size + 3 → g ∉ v.ownBlock.toList := fun g hg hm => by
    have := (hk g (by simpa using hm)).1; omega
  have qc : ∀ g j, g < w.heap.size + 3 → w'.cell? ⟨g, j, none⟩ = wr.cell? ⟨g, j, none⟩ := fun g j hg => World.cell?_of_block (ht0.block g (by omega) (hout g hg))
  have qf : ∀ g j, g < w.heap.size + 3 → w'.frozen? ⟨g, j, none⟩ = wr.frozen? ⟨g, j, none⟩ := fun g j hg => World.frozen?_of_block (ht0.block g (by omega) (hout g hg))
  have hs : Touch [w.heap.size + 1 + 1] w' (w'.setCell ⟨w.heap.size + 1 + 1, 1, none⟩ v') := (Touch.refl _ _).setCell (by simp) _
  have hz' := ht0.size
  have c1 := (qc (w.heap.size + 1 + 1) 1 (by omega)).trans h.b1
  have f1 := (qf (w.heap.size + 1 + 1) 1 (by omega)).trans h.f1
  have pc : ∀ g j, g < w.heap.size + 2 → (w'.setCell ⟨w.heap.size + 1 + 1, 1, none⟩ v').cell? ⟨g, j, none⟩ = wr.cell? ⟨g, j, none⟩ := fun g j hg => (World.cell?_of_block (hs.block g (by omega) (by simp; omega))).trans (qc g j (by omega))
  have pf : ∀ g j, g < w.heap.size + 2 → (w'.setCell ⟨w.heap.size + 1 + 1, 1, none⟩ v').frozen? ⟨g, j, none⟩ = wr.frozen? ⟨g, j, none⟩ := fun g j hg => (World.frozen?_of_block (hs.block g (by omega) (by simp; omega))).trans (qf g j (by omega))
  refine ⟨⟨c1, f1⟩, ⟨?_, ?_, ?_, (pc _ _ (by omega)).trans h.r0, (pc _ _ (by omega)).trans h.r1, (pf _ _ (by omega)).trans h.g0, (pf _ _ (by omega)).trans h.g1, ?_, (h.zer.touch ht0 ?_).touch hs ?_, Nat.le_trans hz (Nat.le_trans hz' hs.size), ?_⟩⟩
  · have := (qc (w.heap.size + 1 + 1) 0 (by omega)).trans h.b0
    rw [World.cell?_setCell_other _ _ _ _ (by simp)]; exact this
  · exact World.cell?_setCell_same _ _ _ c1
  · rw [World.frozen?_setCell]; exact f1
  · have e : ints (List.replicate (k + 1) (-1)) = ints (List.replicate k (-1)) ++ [.int .i64 (-1)] := by rw [List.replicate_succ']; simp [ints]
    rw [e]
    refine hown.kept ⟨hs.os, hs.tape, hs.output, hs.size, fun i hi hn => hs.block i hi (by simp; intro e; exact hn (by rw [e]))⟩ (row := some (w.heap.size + 1 + 1)) ?_
    have hk' := hown.lt
    cases he : v'.ownBlock with
    | none => exact .inl rfl
    | some g => exact .inr (by simp; have := (hk' g he).1; omega)
  · intro g hg; simp at hg; subst hg; exact hout _ (by omega)
  · intro g hg; simp at hg ⊢; omega
  · exact Below.touch (Below.touch h.bel ht0 (fun g hg => by have := (hk g (by simpa using hg)).1; omega) h.bel.size) hs (by simp; omega) (by omega)
theorem HnRel.start (w : World) (N : Nat) (hm : N ≤ maxLen) : HnRel w (((w.alloc (.cells #[.slice none 0 0, .slice none 0 0] 26)).alloc (.cells (madeCells #[.int .i64 0] N) 3)).alloc (.cells #[.slice (some ⟨w.heap.size + 1, 0, none⟩) N N, .slice none 0 0] 26)) N 0 (.slice none 0 0) := by
  have hz := zer_start (w.alloc (.cells #[.slice none 0 0, .slice none 0 0] 26)) N hm
  have e : (w.alloc (.cells #[.slice none 0 0, .slice none 0 0] 26)).heap.size = w.heap.size + 1 := by simp
  rw [e] at hz
  refine ⟨by go_simp, by go_simp, by go_simp, by go_simp, by go_simp, by go_simp, by go_simp, World.ownsRow_nil _ _ _ _, hz.below ((Below.refl _ _).alloc (Nat.le_refl _) _), by simp, (((Below.refl _ _).alloc (Nat.le_refl _) _).alloc (by simp) _).alloc (by simp <;> omega) _⟩
set_option maxRecDepth 100000 in
set_option maxHeartbeats 3200000 in
theorem specHeapNew_any (w : World) :
    Calls Try.prog 58 #[] w fun e w' => HNew w w' e := by
  obtain ⟨i0, hi, hz0, hz1, hz2⟩ := info_parts intInfo2
  obtain ⟨N, hN⟩ : ∃ N : Nat, N = 384 := ⟨_, rfl⟩
  have hmk := run_make_row' (P := Try.prog) 24 3 (.int .i64 0) 8 Try.underlying24 intInfo rfl .i64 .i64 N (by omega) (by omega)
  have e384 : (N : Int) = 384 := by omega
  rw [e384] at hmk
  have HN := hide hN
  clear e384 hN
  go_enter Try.func58, Try.ntmps58
  go_wp2
  clear hmk
  go_loopg [2] 7 (fun g i wr => ∃ k : Nat, k ≤ 6 ∧ g = 7 - k ∧ i = .int .i64 k ∧ ∃ v, HnRel w wr N k v)
  case atStart => exact ⟨0, by omega, rfl, rfl, _, HnRel.start w N (by have := HN.out; unfold maxLen; omega)⟩
  case round =>
    obtain ⟨k, hk, hg, rfl, v, hR⟩ := hrel
    have HG := hide hg
    have HR := hide hR
    clear hg hR
    have b0 := HR.out.b0
    have b1 := HR.out.b1
    have f1 := HR.out.f1
    have r0 := HR.out.r0
    have r1 := HR.out.r1
    have g0 := HR.out.g0
    have g1 := HR.out.g1
    by_cases hlt : k < 6
    · have hi' : (k : Int) < 6 := by omega
      go_wp2_with (at_builtin; refine wpList_app _ rfl _ _ 24 rfl (w.heap.size + 3) 3 i0 (.int .i64 0) 8 Try.underlying24 hi hz0 hz1 hz2 rfl _ k (ints (List.replicate k (-1))) rfl (HR.out.own.alloc _) _ 1 1 [.int .i64 (-1)] _ rfl rfl rd_one ?c1 ?c2 ?c3 ?c4 ?_)
      case c1 => first | rfl | (intro u hu; simp at hu; subst hu; rfl)
      case c2 => unfold maxLen; omega
      case c3 => omega
      case c4 => have := HR.out.lt; simp; omega
      intro v' w3 hown hgr _
      obtain ⟨⟨p1, p2⟩, hR3⟩ := HR.out.app hown hgr
      have HR3 := hide hR3
      obtain ⟨A', c', F, rfl, hlen, ho, hF⟩ := own_of_row hown
      clear hown hgr hR3 ho hF hlen
      go_wp2
      go_roundg (7 - (k + 1))
      case measure => have := HG.out; omega
      case rel => exact ⟨k + 1, by omega, rfl, by go_num, _, HR3.out⟩
    · have hi' : ¬ (k : Int) < 6 := by omega
      obtain rfl : k = 6 := by omega
      obtain ⟨A', c', F, rfl, hlen, ho, hF⟩ := own_of_row HR.out.own
      have HO := hide ho
      have HF := hide hF
      clear ho hF hlen
      go_wp2
      have ht : Touch [w.heap.size] wr ((wr.setCell ⟨w.heap.size, 0, none⟩ (.slice (some ⟨w.heap.size + 1, 0, none⟩) N N)).setCell ⟨w.heap.size, 1, none⟩ (.slice A' 6 c')) := ((Touch.refl _ _).setCell (by simp) _).setCell (by simp) _
      have hF := HF.out
      obtain rfl := HN.out
      exact bodyPost_ret (v := .agg #[.slice (some ⟨w.heap.size + 1, 0, none⟩) 384 384, .slice A' 6 c']) (by simp [results, Try.results58, go_sem, r0, r1]) rfl
        ⟨_, _, _, _, _, _, rfl, HR.out.zer.touch ht (by simp), HO.out.touch ht (fun g hg => by have := (hF g hg).1; simp; omega), fun g hg => by
          rcases List.mem_append.1 hg with h | h
          · simp at h; omega
          · have := (hF g h).1; omega, fun g hg hg' => by simp at hg; have := (hF g hg').1; omega, Below.touch HR.out.bel ht (by simp) HR.out.bel.size⟩

/-! slices.Repeat of one number, six times -/
def repRow (k r : Nat) : List Value := List.replicate k (.int .i64 (-1)) ++ List.replicate r (.int .i64 0)
theorem rep_get (k r m : Nat) (h : m ≤ k) (j : Nat) (v : Value) (hv : (List.replicate m (Value.int .i64 (-1)))[j]? = some v) : (repRow k r).toArray[j]? = some v := by
  have hj : j < m := by
    by_cases hj : j < m
    · exact hj
    · rw [List.getElem?_eq_none (by simp; omega)] at hv; cases hv
  rw [List.getElem?_replicate] at hv
  rw [if_pos hj] at hv
  have hk : j < k := by omega
  simp [repRow, List.getElem?_append, hk]
  simpa using hv
theorem rep_copy (W : World) (h k m r c k2 r2 : Nat) (M : Int) (hM : (m : Int) = M) (hk : m = Nat.min k r) (hcap : k + r = c) (hk2 : k + m = k2) (hr2' : r - m = r2) (hrow : W.heap[h]? = some (.cells (repRow k r).toArray 3 (0, 0))) :
    ∃ W', (Builtin.copy_ #[24, 24] 3 #[.slice (some ⟨h, k, none⟩) r r, .slice (some ⟨h, 0, none⟩) k c]).run Try.prog W = .ok (.int .i64 M) W' ∧ W'.heap[h]? = some (.cells (repRow k2 r2).toArray 3 (0, 0)) ∧ ∀ B w0, Below B w0 W → B ≤ h → Below B w0 W' := by
  subst hcap hk2 hr2'
  have hmk : m ≤ k := by rw [hk]; exact Nat.min_le_left _ _
  have hmr : m ≤ r := by rw [hk]; exact Nat.min_le_right _ _
  have h1 := run_copy_row (P := Try.prog) W 24 24 3 3 h k r r ⟨h, 0, none⟩ k (k + r) (repRow k r).toArray 3 (List.replicate m (.int .i64 (-1))) Try.underlying24 (by kernel_rfl) hrow (by simpa using hk)
    (fun j v hv => by
      have h2 := rep_get k r m hmk j v hv
      have h3 : ((⟨h, 0, none⟩ : Addr).add j) = ⟨h, j, none⟩ := by unfold Addr.add; split <;> simp_all
      rw [h3]
      simp only [World.cell?, hrow]
      exact h2) (by simp [repRow]; omega) (fun v hv => by rw [List.eq_of_mem_replicate hv]; rfl)
  rw [List.length_replicate] at h1
  have hr2 : ((repRow k r).toArray.toList.take k ++ List.replicate m (Value.int .i64 (-1)) ++ (repRow k r).toArray.toList.drop (k + m)).toArray = (repRow (k + m) (r - m)).toArray := by
    simp [repRow, List.drop_append, ← List.replicate_append_replicate, List.append_assoc]
  have e1 : goInt (m : Int) = .int .i64 M := by rw [← hM]; rfl
  rw [e1, hr2] at h1
  exact ⟨_, h1, setRow_heap W h _ _ _ _ hrow, fun B w0 hb hB => below_setRow hb hB _⟩
theorem rep_first (w : World) (g : Nat) (hc : w.cell? ⟨g, 0, none⟩ = some (.int .i64 (-1))) :
    ∃ W', (Builtin.copy_ #[24, 24] 3 #[.slice (some ⟨w.heap.size, 0, none⟩) 6 6, .slice (some ⟨g, 0, none⟩) 1 1]).run Try.prog (w.alloc (.cells (madeCells #[.int .i64 0] 6) 3)) = .ok (.int .i64 1) W' ∧ W'.heap[w.heap.size]? = some (.cells (repRow 1 5).toArray 3 (0, 0)) ∧ Below w.heap.size w W' := by
  have hb : Below w.heap.size w (w.alloc (.cells (madeCells #[.int .i64 0] 6) 3)) := (Below.refl _ _).alloc (Nat.le_refl _) _
  have hl := World.block_lt_of_cell? w _ hc
  have hrow : (w.alloc (.cells (madeCells #[.int .i64 0] 6) 3)).heap[w.heap.size]? = some (.cells (madeCells #[.int .i64 0] 6) 3 (0, 0)) := heap_alloc_new _ _
  have h1 := run_copy_row (P := Try.prog) (w.alloc (.cells (madeCells #[.int .i64 0] 6) 3)) 24 24 3 3 w.heap.size 0 6 6 ⟨g, 0, none⟩ 1 1 (madeCells #[.int .i64 0] 6) 3 [.int .i64 (-1)] Try.underlying24 (by kernel_rfl) hrow rfl
    (fun j v hv => by
      have hj : j = 0 := by
        cases j with
        | zero => rfl
        | succ j => simp at hv
      subst hj
      have h3 : ((⟨g, 0, none⟩ : Addr).add 0) = ⟨g, 0, none⟩ := by unfold Addr.add; split <;> simp_all
      rw [h3, hb.cell hl, hc]
      simpa using hv) (Nat.le_of_ble_eq_true (by kernel_rfl)) (fun v hv => by simp at hv; rw [hv]; rfl)
  have e2 : ((madeCells #[Value.int .i64 0] 6).toList.take 0 ++ [Value.int .i64 (-1)] ++ (madeCells #[Value.int .i64 0] 6).toList.drop (0 + [Value.int .i64 (-1)].length)).toArray = (repRow 1 5).toArray := by kernel_rfl
  rw [e2] at h1
  exact ⟨_, h1, setRow_heap _ _ _ _ _ _ hrow, below_setRow hb (Nat.le_refl _) _⟩
theorem hnew_fin {w W : World} {N : Nat} (hN : N = 384) {gz : Nat} {B : Option Addr} {d : Nat} {F : List Nat} (v0 v1 : Value) (hz : Own 3 W (.slice (some ⟨gz, 0, none⟩) N N) (ints (List.replicate N 0)) [gz]) (ho : Own 3 W (.slice B 6 d) (ints ms6) F)
    (hlo : ∀ g, g ∈ F → w.heap.size + 1 ≤ g) (hgz : w.heap.size + 1 ≤ gz) (hnz : gz ∉ F) (hb : Below w.heap.size w W) :
    CopyH w ((W.setCell ⟨w.heap.size, 0, none⟩ v0).setCell ⟨w.heap.size, 1, none⟩ v1) 384 6 zs384 ms6 (some ⟨gz, 0, none⟩) 384 [gz] B d F := by
  have ht : Touch [w.heap.size] W ((W.setCell ⟨w.heap.size, 0, none⟩ v0).setCell ⟨w.heap.size, 1, none⟩ v1) := ((Touch.refl _ _).setCell (by simp) _).setCell (by simp) _
  subst hN
  refine ⟨hz.touch ht (by simp; omega), ho.touch ht (fun g hg => by have := hlo g hg; simp; omega), fun g hg => ?_, fun g hg hg' => ?_, Below.touch hb ht (by simp) hb.size⟩
  · rcases List.mem_append.1 hg with h | h
    · simp at h; omega
    · have := hlo g h; omega
  · simp at hg; subst hg; exact hnz hg'
theorem hnew_fin2 {w W : World} {N : Nat} (hN : N = 384) {B : Option Addr} {d : Nat} {F : List Nat} (v0 v1 : Value) (ho : Own 3 W (.slice B 6 d) (ints ms6) F)
    (hlo : ∀ g, g ∈ F → w.heap.size + 1 ≤ g) (hs : w.heap.size < W.heap.size) (hb : Below w.heap.size w W) :
    CopyH w (((W.setCell ⟨w.heap.size, 0, none⟩ v0).setCell ⟨w.heap.size, 1, none⟩ v1).alloc (.cells (madeCells #[.int .i64 0] N) 3)) 384 6 zs384 ms6 (some ⟨W.heap.size, 0, none⟩) 384 [W.heap.size] B d F := by
  have ht : Touch [w.heap.size] W ((W.setCell ⟨w.heap.size, 0, none⟩ v0).setCell ⟨w.heap.size, 1, none⟩ v1) := ((Touch.refl _ _).setCell (by simp) _).setCell (by simp) _
  have ho2 := ho.touch ht (fun g hg => by have := hlo g hg; simp; omega)
  have hb2 := Below.touch hb ht (by simp) hb.size
  have e : ((W.setCell ⟨w.heap.size, 0, none⟩ v0).setCell ⟨w.heap.size, 1, none⟩ v1).heap.size = W.heap.size := by simp [World.setCell]
  have hz := zer_start ((W.setCell ⟨w.heap.size, 0, none⟩ v0).setCell ⟨w.heap.size, 1, none⟩ v1) N (by unfold maxLen; omega)
  rw [e] at hz
  subst hN
  refine ⟨hz, ho2.below ((Below.refl _ _).alloc (Nat.le_refl _) _), fun g hg => ?_, fun g hg hg' => ?_, hb2.alloc hb2.size _⟩
  · rcases List.mem_append.1 hg with h | h
    · simp at h; omega
    · have := hlo g h; omega
  · simp at hg; subst hg; have := ho.lt _ hg'; omega

end Go.Proofs.Ytdhocncfpapncac
