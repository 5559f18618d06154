/-
  Grant: a page given to a class, in a copy of the heap. The reference's contract.
-/
import Derived.Test.YtdhocncfpapncacHeapOk
import Derived.Test.YtdhocncfpapncacCarved
import Derived.Deep.DeepCutAuto
namespace Go.Proofs.Ytdhocncfpapncac
open Go.RowKit
set_option linter.unusedVariables false

/-- The first page that has no class. -/
def frst (y : List Int) : Nat → Option Nat
  | 0 => none
  | n + 1 => match frst y n with
    | some p => some p
    | none => if y.getD n 0 = -1 then some n else none
theorem frst_none {y : List Int} {n : Nat} (h : ∀ j, j < n → ¬ y.getD j 0 = -1) : frst y n = none := by
  induction n with
  | zero => rfl
  | succ n ih =>
    unfold frst
    rw [ih (fun j hj => h j (by omega)), if_neg (h n (by omega))]
theorem frst_hit {y : List Int} {k n : Nat} (h : ∀ j, j < k → ¬ y.getD j 0 = -1) (hk : k < n) (hy : y.getD k 0 = -1) : frst y n = some k := by
  induction n with
  | zero => omega
  | succ n ih =>
    unfold frst
    by_cases e : k = n
    · subst e
      rw [frst_none h, if_pos hy]
    · rw [ih (by omega)]
def hdR (x : List Int) (t : Nat) (c : Int) : List Int := ((x.set t 171).set (t + 1) c).set (t + 2) (perC c)
def gbN (x : List Int) (t : Nat) (c : Int) : Nat → List Int
  | 0 => hdR x t c
  | k + 1 => upd (gbN x t c k) (t + 8 + k * (strideC c).toNat) (t + 8 + k * (strideC c).toNat + 4) (dgt 4 (t + 8 + k * (strideC c).toNat) 1)
def gsN (p : Nat) : Nat → List Int
  | 0 => []
  | k + 1 => gsN p k ++ [((p * 4 + k : Nat) : Int)]
theorem gbN_length (x : List Int) (t : Nat) (c : Int) (k : Nat) : (gbN x t c k).length = x.length := by
  induction k with
  | zero => simp [gbN, hdR]
  | succ k ih => simp only [gbN]; rw [upd_length, ih]
theorem gsN_length (p k : Nat) : (gsN p k).length = k := by
  induction k with
  | zero => rfl
  | succ k ih => simp only [gsN, List.length_append, ih]; rfl
def grX (x y : List Int) (c : Int) : List Int := match frst y 6 with
  | some p => gbN x (p * 64) c (perC c).toNat
  | none => x
def grY (y : List Int) (c : Int) : List Int := match frst y 6 with
  | some p => y.set p c
  | none => y
def grS (y : List Int) (c : Int) : List Int := match frst y 6 with
  | some p => gsN p (perC c).toNat
  | none => []
/-- What a function leaves that answers a heap and a slice. -/
def GRes (w w' : World) (e : Ending) (n n' : Nat) (x' y' sl : List Int) : Prop :=
  ∃ B d F B' d' F' S cs G, e = .returned (.tuple #[.agg #[.slice B n d, .slice B' n' d'], .slice S sl.length cs]) ∧ CopyH w w' n n' x' y' B d F B' d' F' ∧ Own 3 w' (.slice S sl.length cs) (ints sl) G ∧ ∀ g, g ∈ G → w.heap.size ≤ g ∧ g ∉ F ++ F'

/-- The same, in place: the heap that came in is the heap that goes out. -/
def GIn (w w1 w' : World) (e : Ending) (B : Option Addr) (d : Nat) (F : List Nat) (B' : Option Addr) (d' : Nat) (F' : List Nat) (x' y' sl : List Int) : Prop :=
  ∃ S cs G, e = .returned (.tuple #[.agg #[.slice B 384 d, .slice B' 6 d'], .slice S sl.length cs]) ∧ CopyH w w' 384 6 x' y' B d F B' d' F' ∧ Own 3 w' (.slice S sl.length cs) (ints sl) G ∧ (∀ g, g ∈ G → w1.heap.size ≤ g ∧ g ∉ F ++ F') ∧ Touch (F ++ F') w1 w'

theorem touch_new {G H : List Nat} {a b c : World} (h : Touch G a b) (k : Touch H b c) (hH : ∀ g, g ∈ H → a.heap.size ≤ g) : Touch G a c :=
  ⟨k.os.trans h.os, k.tape.trans h.tape, k.output.trans h.output, Nat.le_trans h.size k.size, fun i hi hn => (k.block i (Nat.lt_of_lt_of_le hi h.size) (fun hm => by have := hH i hm; omega)).trans (h.block i hi hn)⟩
theorem sls_touch {W W' : World} {β : Nat} {v : Value} {n : Nat} {xs : List Value} {G : List Nat} (h : W.ownsRow β 3 1 v n xs) (ht : Touch G W W') (hv : ∀ k, v.ownBlock = some k → k ∉ G) : W'.ownsRow β 3 1 v n xs := by
  obtain ⟨h1, ⟨h2, h3⟩ | ⟨g, cap, cur, h2, h3, h4, h5⟩⟩ := h
  · exact ⟨h1, .inl ⟨h2, h3⟩⟩
  · refine ⟨h1, .inr ⟨g, cap, cur, h2, h3, ?_, h5⟩⟩
    rw [ht.block g (Array.getElem?_eq_some_iff.1 h4).1 (hv g (by rw [h2]; rfl))]
    exact h4
/-- What stands beside the walk: the heap's box b, the result's cells r, the heap's two blocks, the slots so far. -/
structure Gr (w w1 W : World) (b r β : Nat) (B : Option Addr) (d : Nat) (B' : Option Addr) (d' : Nat) (F F' : List Nat) (x y : List Int) (v : Value) (sl : List Int) : Prop where
  b0 : W.cell? ⟨b, 0, none⟩ = some (.slice B 384 d)
  b1 : W.cell? ⟨b, 1, none⟩ = some (.slice B' 6 d')
  g0 : W.frozen? ⟨b, 0, none⟩ = false
  r0 : W.cell? ⟨r, 0, none⟩ = some (.slice none 0 0)
  r1 : W.cell? ⟨r, 1, none⟩ = some (.slice none 0 0)
  f0 : W.frozen? ⟨r, 0, none⟩ = false
  f1 : W.frozen? ⟨r, 1, none⟩ = false
  own : Own 3 W (.slice B 384 d) (ints x) F
  own' : Own 3 W (.slice B' 6 d') (ints y) F'
  sls : W.ownsRow β 3 1 v sl.length (ints sl)
  hv : ∀ k, v.ownBlock = some k → k ≠ b ∧ k ≠ r ∧ k ∉ F ++ F'
  l0 : b < W.heap.size
  lb : r < W.heap.size
  br : b ≠ r
  nb : ∀ g, g ∈ F ++ F' → g ≠ b ∧ g ≠ r ∧ w.heap.size ≤ g
  ff : ∀ g, g ∈ F → g ∉ F'
  lβ : β ≤ W.heap.size
  bβ : w1.heap.size ≤ β
  wb : w1.heap.size ≤ b
  wr : w1.heap.size ≤ r
  w1b : w.heap.size ≤ w1.heap.size
  tch : Touch (F ++ F') w1 W
  bel : Below w.heap.size w W
theorem Gr.below {w w1 W W' : World} {b r β : Nat} {B : Option Addr} {d : Nat} {B' : Option Addr} {d' : Nat} {F F' : List Nat} {x y : List Int} {v : Value} {sl : List Int} (h : Gr w w1 W b r β B d B' d' F F' x y v sl) (hb : Below W.heap.size W W') : Gr w w1 W' b r β B d B' d' F F' x y v sl :=
  have l := h.lb
  have l0 := h.l0
  ⟨(hb.cell l0).trans h.b0, (hb.cell l0).trans h.b1, (hb.frozen l0).trans h.g0, (hb.cell l).trans h.r0, (hb.cell l).trans h.r1, (hb.frozen l).trans h.f0, (hb.frozen l).trans h.f1, h.own.below hb, h.own'.below hb, row_below h.sls hb, h.hv,
   Nat.lt_of_lt_of_le l0 hb.size, Nat.lt_of_lt_of_le l hb.size, h.br, h.nb, h.ff, Nat.le_trans h.lβ hb.size, h.bβ, h.wb, h.wr, h.w1b, h.tch.trans (.of_below hb), h.bel.trans (hb.mono h.bel.size)⟩
theorem Gr.drew {w w1 W : World} {b r β : Nat} {B : Option Addr} {d : Nat} {B' : Option Addr} {d' : Nat} {F F' : List Nat} {x y : List Int} {v : Value} {sl : List Int} (h : Gr w w1 W b r β B d B' d' F F' x y v sl) : Gr w w1 W.drew b r β B d B' d' F F' x y v sl := h.below (Below.refl _ _).drew
theorem Gr.touch {w w1 W W' : World} {b r β : Nat} {B : Option Addr} {d : Nat} {B' : Option Addr} {d' : Nat} {F F' : List Nat} {x y : List Int} {x' y' : List Int} {v : Value} {sl : List Int} {G : List Nat} (h : Gr w w1 W b r β B d B' d' F F' x y v sl) (ht : Touch G W W') (hG : ∀ g, g ∈ G → g ∈ F ++ F')
    (ho : Own 3 W' (.slice B 384 d) (ints x') F) (ho' : Own 3 W' (.slice B' 6 d') (ints y') F') : Gr w w1 W' b r β B d B' d' F F' x' y' v sl := by
  have l := h.lb
  have l0 := h.l0
  have n0 : b ∉ G := fun hm => (h.nb _ (hG _ hm)).1 rfl
  have n1 : r ∉ G := fun hm => (h.nb _ (hG _ hm)).2.1 rfl
  have qc : ∀ k j, k < W.heap.size → k ∉ G → W'.cell? ⟨k, j, none⟩ = W.cell? ⟨k, j, none⟩ := fun k j hk hn => World.cell?_of_block (ht.block k hk hn)
  have qf : ∀ k j, k < W.heap.size → k ∉ G → W'.frozen? ⟨k, j, none⟩ = W.frozen? ⟨k, j, none⟩ := fun k j hk hn => World.frozen?_of_block (ht.block k hk hn)
  exact ⟨(qc _ _ l0 n0).trans h.b0, (qc _ _ l0 n0).trans h.b1, (qf _ _ l0 n0).trans h.g0, (qc _ _ l n1).trans h.r0, (qc _ _ l n1).trans h.r1, (qf _ _ l n1).trans h.f0, (qf _ _ l n1).trans h.f1, ho, ho', sls_touch h.sls ht (fun k hk hm => (h.hv k hk).2.2 (hG k hm)), h.hv,
    Nat.lt_of_lt_of_le l0 ht.size, Nat.lt_of_lt_of_le l ht.size, h.br, h.nb, h.ff, Nat.le_trans h.lβ ht.size, h.bβ, h.wb, h.wr, h.w1b, h.tch.trans (ht.mono hG), Below.touch h.bel ht (fun g hg => (h.nb g (hG g hg)).2.2) h.bel.size⟩
/-- The box's first field laid as it was. -/
theorem Gr.setb {w w1 W : World} {b r β : Nat} {B : Option Addr} {d : Nat} {B' : Option Addr} {d' : Nat} {F F' : List Nat} {x y : List Int} {v : Value} {sl : List Int} (h : Gr w w1 W b r β B d B' d' F F' x y v sl) : Gr w w1 (W.setCell ⟨b, 0, none⟩ (.slice B 384 d)) b r β B d B' d' F F' x y v sl := by
  have ht : Touch [b] W (W.setCell ⟨b, 0, none⟩ (.slice B 384 d)) := (Touch.refl _ _).setCell (by simp) _
  have hbr := h.br
  have hw := Nat.le_trans h.w1b h.wb
  exact ⟨World.cell?_setCell_same _ _ _ h.b0, by rw [World.cell?_setCell_other _ _ _ _ (by simp)]; exact h.b1, by rw [World.frozen?_setCell]; exact h.g0, by rw [World.cell?_setCell_other _ _ _ _ (fun e => by injection e with e _ _; exact hbr e)]; exact h.r0, by rw [World.cell?_setCell_other _ _ _ _ (by simp)]; exact h.r1, by rw [World.frozen?_setCell]; exact h.f0, by rw [World.frozen?_setCell]; exact h.f1,
    h.own.touch ht (fun g hg => by have := (h.nb g (List.mem_append_left _ hg)).1; simpa using this), h.own'.touch ht (fun g hg => by have := (h.nb g (List.mem_append_right _ hg)).1; simpa using this), sls_touch h.sls ht (fun k hk => by have := (h.hv k hk).1; simpa using this), h.hv,
    Nat.lt_of_lt_of_le h.l0 ht.size, Nat.lt_of_lt_of_le h.lb ht.size, hbr, h.nb, h.ff, Nat.le_trans h.lβ ht.size, h.bβ, h.wb, h.wr, h.w1b, touch_new h.tch ht (fun g hg => by simp at hg; rw [hg]; exact h.wb), Below.touch h.bel ht (fun g hg => by simp at hg; rw [hg]; exact hw) h.bel.size⟩
theorem Gr.app {w w1 W W' : World} {b r β : Nat} {B : Option Addr} {d : Nat} {B' : Option Addr} {d' : Nat} {F F' : List Nat} {x y : List Int} {v v' : Value} {sl : List Int} {k : Int} {o : Obj} (h : Gr w w1 W b r β B d B' d' F F' x y v sl)
    (hown : W'.ownsRow β 3 1 v' (sl.length + 1) (ints sl ++ [.int .i64 k])) (hgr : (W.alloc o).grownBy W' v.ownBlock) (hne : v'.ownBlock = v.ownBlock ∨ v'.ownBlock = some (W.alloc o).heap.size) : Gr w w1 W' b r β B d B' d' F F' x y v' (sl ++ [k]) := by
  have hk := h.sls.lt
  have hbβ := h.bβ
  have hw1 := h.w1b
  have ha : Below W.heap.size W (W.alloc o) := (Below.refl _ _).alloc (Nat.le_refl _) _
  have ht : Touch (v.ownBlock.toList) (W.alloc o) W' := ⟨hgr.os, hgr.tape, hgr.output, hgr.size, fun i hi hn => hgr.block i hi (fun e => hn (by rw [← e]; simp))⟩
  have ht0 : Touch (v.ownBlock.toList) W W' := (Touch.of_below ha).trans ht
  have e0 : b ∉ v.ownBlock.toList := fun hm => (h.hv b (by simpa using hm)).1 rfl
  have e1 : r ∉ v.ownBlock.toList := fun hm => (h.hv r (by simpa using hm)).2.1 rfl
  have eF : ∀ g, g ∈ F ++ F' → g ∉ v.ownBlock.toList := fun g hg hm => (h.hv g (by simpa using hm)).2.2 hg
  have qc : ∀ g j, g < W.heap.size → g ∉ v.ownBlock.toList → W'.cell? ⟨g, j, none⟩ = W.cell? ⟨g, j, none⟩ := fun g j hg hg2 => World.cell?_of_block (ht0.block g hg hg2)
  have qf : ∀ g j, g < W.heap.size → g ∉ v.ownBlock.toList → W'.frozen? ⟨g, j, none⟩ = W.frozen? ⟨g, j, none⟩ := fun g j hg hg2 => World.frozen?_of_block (ht0.block g hg hg2)
  refine ⟨(qc _ _ h.l0 e0).trans h.b0, (qc _ _ h.l0 e0).trans h.b1, (qf _ _ h.l0 e0).trans h.g0, (qc _ _ h.lb e1).trans h.r0, (qc _ _ h.lb e1).trans h.r1, (qf _ _ h.lb e1).trans h.f0, (qf _ _ h.lb e1).trans h.f1,
    h.own.touch ht0 (fun g hg => eF g (List.mem_append_left _ hg)), h.own'.touch ht0 (fun g hg => eF g (List.mem_append_right _ hg)), by rw [List.length_append]; simpa [ints] using hown, fun k hk2 => ?_,
    Nat.lt_of_lt_of_le h.l0 ht0.size, Nat.lt_of_lt_of_le h.lb ht0.size, h.br, h.nb, h.ff, Nat.le_trans h.lβ ht0.size, h.bβ, h.wb, h.wr, h.w1b, touch_new h.tch ht0 (fun g hg => by have := (hk g (by simpa using hg)).1; omega), Below.touch h.bel ht0 (fun g hg => by have := (hk g (by simpa using hg)).1; omega) h.bel.size⟩
  rcases hne with e | e
  · exact h.hv k (by rw [← e]; exact hk2)
  · rw [e] at hk2
    injection hk2 with hk2
    have hsz : (W.alloc o).heap.size = W.heap.size + 1 := by simp
    have z0 := h.l0
    have z1 := h.lb
    refine ⟨by omega, by omega, fun hm => ?_⟩
    rcases List.mem_append.1 hm with hm | hm
    · have := h.own.lt k hm; omega
    · have := h.own'.lt k hm; omega
/-- The slots begun: an empty slice of a block of its own. -/
theorem Gr.nil {w w1 W : World} {b r β : Nat} {B : Option Addr} {d : Nat} {B' : Option Addr} {d' : Nat} {F F' : List Nat} {x y : List Int} {v : Value} (h : Gr w w1 W b r β B d B' d' F F' x y v []) : Gr w w1 (W.alloc (.cells #[] 3)) b r β B d B' d' F F' x y (.slice (some ⟨W.heap.size, 0, none⟩) 0 0) [] := by
  have h1 := h.below ((Below.refl W.heap.size W).alloc (Nat.le_refl _) (.cells #[] 3))
  refine { h1 with sls := World.ownsRow_made (base := β) (e := 3) (size := 1) W #[] 0 h.lβ (by decide) rfl, hv := fun k hk => ?_ }
  have hk2 : W.heap.size = k := by simpa [Value.ownBlock] using hk
  have z0 := h.l0
  have z1 := h.lb
  refine ⟨by omega, by omega, fun hm => ?_⟩
  rcases List.mem_append.1 hm with hm | hm
  · have := h.own.lt k hm; omega
  · have := h.own'.lt k hm; omega
/-- The result's cells laid: the end. -/
theorem Gr.fin {w w1 W : World} {b r β : Nat} {B : Option Addr} {d : Nat} {B' : Option Addr} {d' : Nat} {F F' : List Nat} {x y : List Int} {S : Option Addr} {m cs : Nat} {sl : List Int} (h : Gr w w1 W b r β B d B' d' F F' x y (.slice S m cs) sl) (v0 v1 : Value) :
    CopyH w ((W.setCell ⟨r, 0, none⟩ v0).setCell ⟨r, 1, none⟩ v1) 384 6 x y B d F B' d' F' ∧ ∃ G, Own 3 ((W.setCell ⟨r, 0, none⟩ v0).setCell ⟨r, 1, none⟩ v1) (.slice S sl.length cs) (ints sl) G ∧ (∀ g, g ∈ G → w1.heap.size ≤ g ∧ g ∉ F ++ F') ∧ Touch (F ++ F') w1 ((W.setCell ⟨r, 0, none⟩ v0).setCell ⟨r, 1, none⟩ v1) := by
  have ht : Touch [r] W ((W.setCell ⟨r, 0, none⟩ v0).setCell ⟨r, 1, none⟩ v1) := ((Touch.refl _ _).setCell (by simp) _).setCell (by simp) _
  obtain ⟨S', cs', G, e, hlen, hos, hG⟩ := own_of_row h.sls
  rw [ints_length] at hlen
  injection e with e1 e2 e3
  subst e1 e3
  have hbβ := h.bβ
  have hwr := h.wr
  have hw1 := h.w1b
  exact ⟨⟨h.own.touch ht (fun g hg => by have := (h.nb g (List.mem_append_left _ hg)).2.1; simpa using this), h.own'.touch ht (fun g hg => by have := (h.nb g (List.mem_append_right _ hg)).2.1; simpa using this), fun g hg => (h.nb g hg).2.2, h.ff, Below.touch h.bel ht (fun g hg => by simp at hg; omega) h.bel.size⟩,
    G, hos.touch ht (fun g hg => by have := (h.hv g (hG g hg).2.symm).2.1; simpa using this), fun g hg => ⟨by have := (hG g hg).1; omega, (h.hv g (hG g hg).2.symm).2.2⟩, touch_new h.tch ht (fun g hg => by simp at hg; omega)⟩

theorem own_nil {E : TypeId} {w : World} (A : Option Addr) : Own E w (.slice A 0 0) (ints []) [] := ⟨A, 0, rfl, Nat.zero_le _, .inl ⟨rfl, rfl, rfl⟩⟩
theorem Gr.finNil {w w1 W : World} {b r β : Nat} {B : Option Addr} {d : Nat} {B' : Option Addr} {d' : Nat} {F F' : List Nat} {x y : List Int} (h : Gr w w1 W b r β B d B' d' F F' x y (.slice none 0 0) []) (v0 v1 : Value) :
    CopyH w (((W.setCell ⟨r, 0, none⟩ v0).setCell ⟨r, 1, none⟩ v1).alloc (.cells #[] 3)) 384 6 x y B d F B' d' F' ∧ Own 3 (((W.setCell ⟨r, 0, none⟩ v0).setCell ⟨r, 1, none⟩ v1).alloc (.cells #[] 3)) (.slice (some ⟨W.heap.size, 0, none⟩) 0 0) (ints []) [] ∧ (∀ g, g ∈ ([] : List Nat) → w1.heap.size ≤ g ∧ g ∉ F ++ F') ∧ Touch (F ++ F') w1 (((W.setCell ⟨r, 0, none⟩ v0).setCell ⟨r, 1, none⟩ v1).alloc (.cells #[] 3)) := by
  obtain ⟨⟨h1, h2, h3, h4, h5⟩, _, _, _, h6⟩ := h.fin v0 v1
  have ha := (Below.refl ((W.setCell ⟨r, 0, none⟩ v0).setCell ⟨r, 1, none⟩ v1).heap.size ((W.setCell ⟨r, 0, none⟩ v0).setCell ⟨r, 1, none⟩ v1)).alloc (Nat.le_refl _) (.cells #[] 3)
  exact ⟨⟨h1.below ha, h2.below ha, h3, h4, h5.trans (ha.mono h5.size)⟩, own_nil _, fun g hg => (by cases hg), h6.trans (.of_below ha)⟩
theorem below_go2 {w W W' : World} (h : Below w.heap.size w W) (hb : Below W.heap.size W W') : Below w.heap.size w W' := h.trans (hb.mono h.size)
theorem set_own {w : World} {A : Option Addr} {n c : Nat} {zs : List Int} {F : List Nat} (h : Own 3 w (.slice A n c) (ints zs) F) (k : Nat) (hk : k < zs.length) (x : Int) :
    ∃ g, A = some ⟨g, 0, none⟩ ∧ w.cell? ⟨g, k, none⟩ = some (.int .i64 (zs.getD k 0)) ∧ w.frozen? ⟨g, k, none⟩ = false ∧ Own 3 (w.setCell ⟨g, k, none⟩ (.int .i64 x)) (.slice A n c) (ints (zs.set k x)) F ∧ Touch F w (w.setCell ⟨g, k, none⟩ (.int .i64 x)) := by
  obtain ⟨g, rfl, rfl⟩ := own_at h (by omega)
  exact ⟨g, rfl, (own_cell h k hk).1, (own_cell h k hk).2, own_set h k hk x, (Touch.refl _ _).setCell (by simp) _⟩
set_option maxRecDepth 100000 in
set_option maxHeartbeats 6400000 in
theorem l7Grant_any (w0 w : World) (B B' : Option Addr) (d d' : Nat) (F F' : List Nat) (x y : List Int) (c : Int) (hc0 : 0 ≤ c) (hc2 : c ≤ 2) (hn : 384 = x.length) (hn' : 6 = y.length) (ho : Own 3 w (.slice B 384 d) (ints x) F) (ho' : Own 3 w (.slice B' 6 d') (ints y) F') (hff : ∀ g, g ∈ F → g ∉ F') (hlo : ∀ g, g ∈ F ++ F' → w0.heap.size ≤ g) (hb : Below w0.heap.size w0 w) :
    Calls Try.prog 69 #[.agg #[.slice B 384 d, .slice B' 6 d'], .int .i64 c] w fun e w' => GIn w0 w w' e B d F B' d' F' (grX x y c) (grY y c) (grS y c) := by
  obtain ⟨i0, hinf, hz0, hz1, hz2⟩ := info_parts intInfo2
  have HN := hide hn
  have HN' := hide hn'
  have hlt : ∀ g, g ∈ F ++ F' → g < w.heap.size := fun g hg => (List.mem_append.1 hg).elim (ho.lt g) (ho'.lt g)
  have hb0 : Below w.heap.size w ((w.alloc (.cells #[.slice B 384 d, .slice B' 6 d'] 26)).alloc (.cells #[.slice none 0 0, .slice none 0 0] 26)) := ((Below.refl _ _).alloc (Nat.le_refl _) _).alloc (by simp) _
  have hG : Gr w0 w ((w.alloc (.cells #[.slice B 384 d, .slice B' 6 d'] 26)).alloc (.cells #[.slice none 0 0, .slice none 0 0] 26)) w.heap.size (w.heap.size + 1) (w.heap.size + 1 + 1) B d B' d' F F' x y (.slice none 0 0) [] :=
    ⟨by go_simp, by go_simp, by go_simp, by go_simp, by go_simp, by go_simp, by go_simp, ho.below hb0, ho'.below hb0, World.ownsRow_nil _ _ _ _, fun k hk => by simp [Value.ownBlock] at hk, by simp <;> omega, by simp, by omega, fun g hg => by have := hlt g hg; exact ⟨by omega, by omega, hlo g hg⟩, hff, by simp, by omega, Nat.le_refl _, by omega, hb.size, Touch.of_below hb0, below_go2 hb hb0⟩
  have HG0 := hide hG
  have hpb := perC_bd c
  obtain ⟨pb0, pb4⟩ := hpb
  obtain ⟨N, hN⟩ : ∃ N : Nat, perC c = N := ⟨(perC c).toNat, by omega⟩
  have HPN : Hid (perC c = N) := hide hN
  have HPW : Hid (∀ w : World, Calls Try.prog 10 #[.int .i64 c] w fun e w' => e = .returned (.int .i64 (N : Int)) ∧ w' = w) := hide (fun w => by rw [← hN]; exact specPerPage_as c w)
  rw [hN] at pb0 pb4
  have hN4 : N ≤ 4 := by omega
  clear hN hn hn' ho ho' hff hlo hb hb0 hlt hG
  obtain ⟨b, hbq⟩ : ∃ b, b = w.heap.size := ⟨_, rfl⟩
  have HBQ := hide hbq
  clear hbq
  go_enter Try.func69, Try.ntmps69
  go_wp2_with fail
  obtain ⟨w1, hW⟩ : ∃ W : World, W = (w.alloc (.cells #[.slice B 384 d, .slice B' 6 d'] 26)).alloc (.cells #[.slice none 0 0, .slice none 0 0] 26) := ⟨_, rfl⟩
  rw [← hW] at HG0 ⊢
  rw [← HBQ.out] at HG0 ⊢
  clear hW HBQ
  go_loopg [6] 7 (fun g i wr => wr = w1 ∧ ∃ k : Nat, k ≤ 6 ∧ g = 7 - k ∧ i = .int .i64 k ∧ ∀ j, j < k → ¬ y.getD j 0 = -1)
  case atStart => exact ⟨rfl, 0, by omega, rfl, rfl, fun j hj => absurd hj (by omega)⟩
  case round =>
    obtain ⟨rfl, p, hk, hg, rfl, hall⟩ := hrel
    have HG := hide hg
    have HALL := hide hall
    clear hg hall
    have b0 := HG0.out.b0
    have b1 := HG0.out.b1
    have r0 := HG0.out.r0
    have r1 := HG0.out.r1
    have f0 := HG0.out.f0
    have f1 := HG0.out.f1
    have l1 := HG0.out.lb
    have l0 : b < wr.heap.size := by omega
    by_cases hlt : p < 6
    · have hi : (p : Int) < 6 := by omega
      obtain ⟨g', hB', hyc, hyf, hyo, hyt⟩ := set_own HG0.out.own' p (by have := HN'.out; omega) c
      obtain ⟨v, hv⟩ : ∃ v, v = y.getD p 0 := ⟨_, rfl⟩
      rw [← hv] at hyc
      have HV := hide hv
      clear hv
      by_cases hm : v = -1
      · have HF : Hid (frst y 6 = some p) := hide (frst_hit HALL.out hlt (by rw [← HV.out, hm]))
        subst hm
        obtain ⟨t, ht⟩ : ∃ t, t = p * 64 := ⟨_, rfl⟩
        have HT := hide ht
        have hpt : (p : Int) * 64 = (t : Int) := by omega
        have ht6 : (t : Int) + 64 ≤ 384 := by omega
        have e1 : IntKind.i64.wrap ((t : Int) + 1) = (t : Int) + 1 := by rw [IntKind.wrap_i64]; omega
        have e2 : IntKind.i64.wrap ((t : Int) + 2) = (t : Int) + 2 := by rw [IntKind.wrap_i64]; omega
        have n1 : ((t : Int) + 1).toNat = t + 1 := by omega
        have n2 : ((t : Int) + 2).toNat = t + 2 := by omega
        have q1 : (0 : Int) ≤ (t : Int) + 1 := by omega
        have q2 : (0 : Int) ≤ (t : Int) + 2 := by omega
        have s1 : (t : Int) + 1 < 384 := by omega
        have s2 : (t : Int) + 2 < 384 := by omega
        have s0 : (t : Int) < 384 := by omega
        clear ht
        have hG1 := HG0.out.touch hyt (fun g hg => List.mem_append_right _ hg) (HG0.out.own.touch hyt (fun g hg => HG0.out.ff g hg)) hyo
        obtain ⟨gx, hB, hx0, hf0, ho0, ht0⟩ := set_own hG1.own t (by have := HN.out; omega) 171
        have hG2 := hG1.touch ht0 (fun g hg => List.mem_append_left _ hg) ho0 (hG1.own'.touch ht0 (fun g hg hg' => hG1.ff g hg' hg))
        obtain ⟨g2, hB2, hx1, hf1, ho1, ht1⟩ := set_own hG2.own (t + 1) (by have := HN.out; simp; omega) c
        have hG3 := hG2.touch ht1 (fun g hg => List.mem_append_left _ hg) ho1 (hG2.own'.touch ht1 (fun g hg hg' => hG2.ff g hg' hg))
        obtain ⟨g3, hB3, hx2, hf2, ho2, ht2⟩ := set_own hG3.own (t + 2) (by have := HN.out; simp; omega) (N : Int)
        have hG4 := hG3.touch ht2 (fun g hg => List.mem_append_left _ hg) ho2 (hG3.own'.touch ht2 (fun g hg hg' => hG3.ff g hg' hg))
        subst hB'
        subst hB
        injection hB2 with hB2
        injection hB2 with hB2
        subst hB2
        injection hB3 with hB3
        injection hB3 with hB3
        subst hB3
        have k1 := hG1.b0
        have k2 := hG2.b0
        have k3 := hG3.b0
        have HG3 := hide hG3
        clear hG1 hG2 hG3 hG4 ho2 ht2 hx2 hf2 ho1 ht1 ho0 ht0 hyo hyt
        go_wp2_with fail
        obtain ⟨w3, hW⟩ : ∃ W : World, W = ((wr.setCell ⟨g', p, none⟩ (.int .i64 c)).setCell ⟨gx, t, none⟩ (.int .i64 171)).setCell ⟨gx, t + 1, none⟩ (.int .i64 c) := ⟨_, rfl⟩
        rw [← hW] at HG3 k3 ⊢
        clear hW k1 k2 hx0 hf0 hx1 hf1 b0 b1 r0 r1 f0 f1 l0 l1 HG0 hyc hyf
        obtain ⟨g2, hB2, hx2, hf2, ho2, ht2⟩ := set_own HG3.out.own (t + 2) (by have := HN.out; simp; omega) (N : Int)
        injection hB2 with hB2
        injection hB2 with hB2
        subst hB2
        have hG4 := HG3.out.touch ht2 (fun g hg => List.mem_append_left _ hg) ho2 (HG3.out.own'.touch ht2 (fun g hg hg' => HG3.out.ff g hg' hg))
        have HG4 := hide hG4
        clear ho2 ht2 hG4
        go_cut [] (fun wx => Gr w0 w wx b (b + 1) (b + 1 + 1) (some ⟨gx, 0, none⟩) d (some ⟨g', 0, none⟩) d' F F' (hdR x t c) (y.set p c) (.slice none 0 0) [])
        case first =>
          go_region_with (go_at_call 10; refine (HPW.out _).mono ?_; rintro e w' ⟨rfl, rfl⟩)
          all_goals (go_wp2_with fail; go_meet)
          all_goals (unfold hdR; rw [HPN.out]; exact HG4.out.drew)
        case rest =>
        have HG5 := hide hcut.nil
        have lz := hcut.lβ
        clear HG4 HG3 k3 hx2 hf2 hcut e1 e2 n1 n2 q1 q2 s1 s2 s0
        go_wp2_with fail
        obtain ⟨w5, hW⟩ : ∃ W : World, W = wc.alloc (.cells #[] 3) := ⟨_, rfl⟩
        obtain ⟨v5, hv5⟩ : ∃ v : Value, v = .slice (some ⟨wc.heap.size, 0, none⟩) 0 0 := ⟨_, rfl⟩
        rw [← hW, ← hv5] at HG5
        rw [← hW]
        have HV5 := hide hv5
        clear hW hv5 lz
        have HS : Hid ((perC c).toNat = N) := hide (by rw [HPN.out]; rfl)
        go_loopg [8, 9] 5 (fun g v i wr => ∃ k : Nat, k ≤ N ∧ g = 5 - k ∧ i = .int .i64 k ∧ Gr w0 w wr b (b + 1) (b + 1 + 1) (some ⟨gx, 0, none⟩) d (some ⟨g', 0, none⟩) d' F F' (gbN x t c k) (y.set p c) v (gsN p k))
        case atStart => exact ⟨0, by omega, rfl, rfl, by rw [← HV5.out]; exact HG5.out⟩
        case round =>
          clear HG5 HG
          obtain ⟨k, hk, hg, rfl, hR⟩ := hrel
          have HG := hide hg
          have HR := hide hR
          clear hg hR
          have b0 := HR.out.b0
          have b1 := HR.out.b1
          have l1 := HR.out.lb
          have l0 : b < wr.heap.size := by omega
          by_cases hlt2 : k < N
          · have hi2 : (k : Int) < (N : Int) := by omega
            obtain ⟨hga, hge, hk4⟩ := gen_at (c := c) hlt (k := k) (by rw [HS.out]; exact hlt2)
            rw [← HT.out] at hga hge
            obtain ⟨r, hr⟩ : ∃ r : Nat, r = t + 8 + k * (strideC c).toNat := ⟨_, rfl⟩
            rw [← hr] at hga hge
            have HGA := hide hga
            have hr4 : r + 4 ≤ 384 := by omega
            have HRR := hide hr
            have hst0 := HR.out
            clear hga hge hr
            go_wp2_with (go_at_call 10; refine (HPW.out _).mono ?_; rintro e w' ⟨rfl, rfl⟩)
            go_cut [] (fun wx => Gr w0 w wx b (b + 1) (b + 1 + 1) (some ⟨gx, 0, none⟩) d (some ⟨g', 0, none⟩) d' F F' (gbN x t c (k + 1)) (y.set p c) u8 (gsN p k))
            case first =>
              go_region_with (first
                | (go_at_call 52; refine (specSlotAt_any p k _ hlt hk4).mono ?_; rintro e w' ⟨rfl, rfl⟩)
                | (go_at_call 51; refine (specGenAt_as HGA.out _).mono ?_; rintro e w' ⟨rfl, rfl⟩)
                | (go_at_call 70; refine (l3Store_any _ 384 d (gbN x t c k) F r 4 1 _ (Gr.own (by first | assumption | exact Gr.drew (by assumption))) (by omega) (by omega) (by omega) hr4 (by omega)).mono ?_; rintro e w' ⟨rfl, ho, ht⟩; have hst2 := Gr.touch (by first | assumption | exact Gr.drew (by assumption)) ht (fun g hg => List.mem_append_left _ hg) ho ((Gr.own' (by first | assumption | exact Gr.drew (by assumption))).touch ht (fun g hg hg' => HR.out.ff g hg' hg)); have z0 := hst2.b0; have z1 := hst2.g0))
              all_goals (go_wp2_with fail; go_meet)
              all_goals (have e : gbN x t c (k + 1) = upd (gbN x t c k) r (r + 4) (dgt 4 r 1) := by rw [HRR.out]; rfl); (rw [e]; exact hst2.setb)
            case rest =>
            have HG7 := hide hcut
            have hl := hcut.lβ
            clear hcut hst0 b0 b1 l0 l1 HR HRR HGA
            go_wp2_with (first | (go_at_call 52; refine (specSlotAt_any p k _ hlt hk4).mono ?_; rintro e w' ⟨rfl, rfl⟩) | (at_builtin; refine wpList_app _ rfl _ _ 24 rfl (b + 1 + 1) 3 i0 (.int .i64 0) 8 Try.underlying24 hinf hz0 hz1 hz2 rfl _ (gsN p k).length (ints (gsN p k)) rfl (HG7.out.sls.alloc _) _ 1 1 [.int .i64 ((p * 4 + k : Nat) : Int)] _ rfl rfl rd_one ?c1 ?c2 ?c3 ?c4 ?_))
            case c1 => first | rfl | (intro u hu; simp at hu; subst hu; rfl)
            case c2 => rw [gsN_length]; unfold maxLen; omega
            case c3 => rw [gsN_length]; omega
            case c4 => simp; omega
            intro v' w8 hown hgr hne
            have HG8 := hide (HG7.out.app hown hgr (by simpa using hne))
            clear hown hgr hne
            go_wp2
            go_roundg (5 - (k + 1))
            case measure => have := HG.out; omega
            case rel => exact ⟨k + 1, by omega, rfl, by go_num, HG8.out⟩
          · have hkN : k = N := by omega
            subst hkN
            have hi2 : ¬ (k : Int) < (k : Int) := by omega
            have r0 := HR.out.r0
            have r1 := HR.out.r1
            have f0 := HR.out.f0
            have f1 := HR.out.f1
            obtain ⟨S, cs, G0, rfl, hlen, -, -⟩ := own_of_row HR.out.sls
            clear hlen
            go_wp2_with (go_at_call 10; refine (HPW.out _).mono ?_; rintro e w' ⟨rfl, rfl⟩)
            obtain ⟨h1, G, h2, h3, h4⟩ := HR.out.fin (.slice (some ⟨gx, 0, none⟩) 384 d) (.slice (some ⟨g', 0, none⟩) 6 d')
            have ex : grX x y c = gbN x t c k := by unfold grX; rw [HF.out]; show gbN x (p * 64) c (perC c).toNat = _; rw [HS.out, ← HT.out]
            have ey : grY y c = y.set p c := by unfold grY; rw [HF.out]
            have es : grS y c = gsN p k := by unfold grS; rw [HF.out]; show gsN p (perC c).toNat = _; rw [HS.out]
            exact bodyPost_ret (v := .tuple #[.agg #[.slice (some ⟨gx, 0, none⟩) 384 d, .slice (some ⟨g', 0, none⟩) 6 d'], .slice S (gsN p k).length cs]) (by simp [results, Try.results69, go_sem, r0, r1]) rfl
              ⟨S, cs, G, by rw [es], by rw [ex, ey]; exact h1, by rw [es]; exact h2, h3, h4⟩
      · go_wp2
        go_roundg (7 - (p + 1))
        case measure => have := HG.out; omega
        case rel => exact ⟨rfl, p + 1, by omega, rfl, by go_num, fun j hj => by
          by_cases e : j = p
          · subst e; rw [← HV.out]; exact hm
          · exact HALL.out j (by omega)⟩
    · have hp6 : p = 6 := by omega
      subst hp6
      have HF : Hid (frst y 6 = none) := hide (frst_none HALL.out)
      go_wp2
      obtain ⟨h1, h2, h3, h4⟩ := HG0.out.finNil (.slice B 384 d) (.slice B' 6 d')
      exact bodyPost_ret (v := .tuple #[.agg #[.slice B 384 d, .slice B' 6 d'], .slice (some ⟨wr.heap.size, 0, none⟩) 0 0]) (by simp [results, Try.results69, go_sem, r0, r1, l1]) rfl
        ⟨_, _, [], by unfold grS; rw [HF.out]; rfl, by unfold grX grY; rw [HF.out]; exact h1, by unfold grS; rw [HF.out]; exact h2, h3, h4⟩
end Go.Proofs.Ytdhocncfpapncac
