/-
  SetGen: four bytes laid at a slot's place, in a copy of the heap. The contracts.
-/
import Derived.Test.YtnnmdikbcfefjaaCopyH
import Derived.Deep.DeepCutAuto
namespace Go.Proofs.Ytnnmdikbcfefjaa
open Go.RowKit
set_option linter.unusedVariables false

/-- What stands beside the walk: the parameter's box b, the result's cells r, the copy's box t, the copy itself. -/
structure St (w W : World) (b r t : Nat) (u0 u1 : Value) (B : Option Addr) (n d : Nat) (B' : Option Addr) (n' d' : Nat) (F F' : List Nat) (x y : List Int) : Prop where
  c0 : W.cell? ⟨b, 0, none⟩ = some u0
  c1 : W.cell? ⟨b, 1, none⟩ = some u1
  r0 : W.cell? ⟨r, 0, none⟩ = some (.slice none 0 0)
  r1 : W.cell? ⟨r, 1, none⟩ = some (.slice none 0 0)
  f0 : W.frozen? ⟨r, 0, none⟩ = false
  f1 : W.frozen? ⟨r, 1, none⟩ = false
  s0 : W.cell? ⟨t, 0, none⟩ = some (.slice B n d)
  s1 : W.cell? ⟨t, 1, none⟩ = some (.slice B' n' d')
  g0 : W.frozen? ⟨t, 0, none⟩ = false
  g1 : W.frozen? ⟨t, 1, none⟩ = false
  own : Own 3 W (.slice B n d) (ints x) F
  own' : Own 3 W (.slice B' n' d') (ints y) F'
  lb : b < W.heap.size
  lr : r < W.heap.size
  lt : t < W.heap.size
  nb : b ∉ F
  nr : r ∉ F
  nt : t ∉ F
  nr' : r ∉ F'
  nt' : t ∉ F'
  rt : r ≠ t
  ff : ∀ g, g ∈ F → g ∉ F'
  lo : ∀ g, g ∈ F ++ F' → w.heap.size ≤ g
  lor : w.heap.size ≤ r
  lot : w.heap.size ≤ t
  bel : Below w.heap.size w W
theorem St.below {w W W' : World} {b r t : Nat} {u0 u1 : Value} {B : Option Addr} {n d : Nat} {B' : Option Addr} {n' d' : Nat} {F F' : List Nat} {x y : List Int} (h : St w W b r t u0 u1 B n d B' n' d' F F' x y) (hb : Below W.heap.size W W') : St w W' b r t u0 u1 B n d B' n' d' F F' x y :=
  ⟨(hb.cell h.lb).trans h.c0, (hb.cell h.lb).trans h.c1, (hb.cell h.lr).trans h.r0, (hb.cell h.lr).trans h.r1, (hb.frozen h.lr).trans h.f0, (hb.frozen h.lr).trans h.f1, (hb.cell h.lt).trans h.s0, (hb.cell h.lt).trans h.s1, (hb.frozen h.lt).trans h.g0, (hb.frozen h.lt).trans h.g1,
   h.own.below hb, h.own'.below hb, Nat.lt_of_lt_of_le h.lb hb.size, Nat.lt_of_lt_of_le h.lr hb.size, Nat.lt_of_lt_of_le h.lt hb.size, h.nb, h.nr, h.nt, h.nr', h.nt', h.rt, h.ff, h.lo, h.lor, h.lot, h.bel.trans (hb.mono h.bel.size)⟩
theorem St.drew {w W : World} {b r t : Nat} {u0 u1 : Value} {B : Option Addr} {n d : Nat} {B' : Option Addr} {n' d' : Nat} {F F' : List Nat} {x y : List Int} (h : St w W b r t u0 u1 B n d B' n' d' F F' x y) : St w W.drew b r t u0 u1 B n d B' n' d' F F' x y := h.below (Below.refl _ _).drew
theorem St.touch {w W W' : World} {b r t : Nat} {u0 u1 : Value} {B : Option Addr} {n d : Nat} {B' : Option Addr} {n' d' : Nat} {F F' : List Nat} {x y x' : List Int} (h : St w W b r t u0 u1 B n d B' n' d' F F' x y) (ht : Touch F W W') (ho : Own 3 W' (.slice B n d) (ints x') F) : St w W' b r t u0 u1 B n d B' n' d' F F' x' y :=
  have q : ∀ k j, k < W.heap.size → k ∉ F → W'.cell? ⟨k, j, none⟩ = W.cell? ⟨k, j, none⟩ := fun k j hk hn => World.cell?_of_block (ht.block k hk hn)
  have p : ∀ k j, k < W.heap.size → k ∉ F → W'.frozen? ⟨k, j, none⟩ = W.frozen? ⟨k, j, none⟩ := fun k j hk hn => World.frozen?_of_block (ht.block k hk hn)
  ⟨(q _ _ h.lb h.nb).trans h.c0, (q _ _ h.lb h.nb).trans h.c1, (q _ _ h.lr h.nr).trans h.r0, (q _ _ h.lr h.nr).trans h.r1, (p _ _ h.lr h.nr).trans h.f0, (p _ _ h.lr h.nr).trans h.f1, (q _ _ h.lt h.nt).trans h.s0, (q _ _ h.lt h.nt).trans h.s1, (p _ _ h.lt h.nt).trans h.g0, (p _ _ h.lt h.nt).trans h.g1,
   ho, h.own'.touch ht (fun g hg hg' => h.ff g hg' hg), Nat.lt_of_lt_of_le h.lb ht.size, Nat.lt_of_lt_of_le h.lr ht.size, Nat.lt_of_lt_of_le h.lt ht.size, h.nb, h.nr, h.nt, h.nr', h.nt', h.rt, h.ff, h.lo, h.lor, h.lot, Below.touch h.bel ht (fun g hg => h.lo g (List.mem_append_left _ hg)) h.bel.size⟩
/-- Behind a copy that has been boxed. -/
theorem St.of_copy {w w1 w2 : World} {b r : Nat} {u0 u1 : Value} {B : Option Addr} {n d : Nat} {B' : Option Addr} {n' d' : Nat} {F F' : List Nat} {x y : List Int} (hC : CopyH w1 w2 n n' x y B d F B' d' F') (hB1 : Below w.heap.size w w1)
    (lb : b < w1.heap.size) (lr : r < w1.heap.size) (lor : w.heap.size ≤ r)
    (c0 : w1.cell? ⟨b, 0, none⟩ = some u0) (c1 : w1.cell? ⟨b, 1, none⟩ = some u1) (r0 : w1.cell? ⟨r, 0, none⟩ = some (.slice none 0 0)) (r1 : w1.cell? ⟨r, 1, none⟩ = some (.slice none 0 0)) (f0 : w1.frozen? ⟨r, 0, none⟩ = false) (f1 : w1.frozen? ⟨r, 1, none⟩ = false) :
    St w (w2.alloc (.cells #[.slice B n d, .slice B' n' d'] 32)) b r w2.heap.size u0 u1 B n d B' n' d' F F' x y := by
  obtain ⟨ho, ho', hlo, hff, hb⟩ := hC
  have hz := hb.size
  have hw := hB1.size
  have ha : Below w2.heap.size w2 (w2.alloc (.cells #[.slice B n d, .slice B' n' d'] 32)) := (Below.refl _ _).alloc (Nat.le_refl _) _
  have hc := below_of hb ha
  refine ⟨(hc.cell lb).trans c0, (hc.cell lb).trans c1, (hc.cell lr).trans r0, (hc.cell lr).trans r1, (hc.frozen lr).trans f0, (hc.frozen lr).trans f1, by go_simp, by go_simp, by go_simp, by go_simp, ho.below ha, ho'.below ha, by simp; omega, by simp; omega, by simp, ?_, ?_, ?_, ?_, ?_, by omega, hff, fun g hg => by have := hlo g hg; omega, lor, by omega, hB1.trans (hc.mono hw)⟩
  · intro h; have := hlo b (List.mem_append_left _ h); omega
  · intro h; have := hlo r (List.mem_append_left _ h); omega
  · intro h; have := ho.lt _ h; omega
  · intro h; have := hlo r (List.mem_append_right _ h); omega
  · intro h; have := ho'.lt _ h; omega

/-! what it answers -/
def vOk (v : Int) : Bool := decide (1 ≤ v ∧ v ≤ 7)
def setOk (x y : List Int) (i v : Int) : Bool := decide (¬ classAtR x y i < 0) && vOk v
def setR (x y : List Int) (i v : Int) : List Int := if setOk x y i v then upd x (genAtC i (classAtR x y i)).toNat ((genAtC i (classAtR x y i)).toNat + 4) (dgt 4 (genAtC i (classAtR x y i)).toNat v.toNat) else x
theorem setR_length (x y : List Int) (i v : Int) : (setR x y i v).length = x.length := by unfold setR; split <;> simp [upd_length]
theorem l1InV_any (v : Int) (w : World) : Calls Try.prog 27 #[.int .i64 v, .int .i64 1, .int .i64 7] w fun e w' => e = .returned (.bool (vOk v)) ∧ w = w' := by
  by_cases h : 1 ≤ v ∧ v ≤ 7
  · have HT : vOk v = true := by simpa [vOk] using h
    rw [HT]; exact l1In_yes _ _ _ _ h.1 h.2
  · have HT : vOk v = false := by simpa [vOk] using h
    rw [HT]; exact l1In_no _ _ _ _ h
theorem withinV_any (v : Int) (w : World) : Calls Try.prog 53 #[.int .i64 v, .int .i64 1, .int .i64 7] w fun e w' => e = .returned (.bool (vOk v)) ∧ w = w' := by
  by_cases h : 1 ≤ v ∧ v ≤ 7
  · have HT : vOk v = true := by simpa [vOk] using h
    rw [HT]; exact within_yes _ _ _ _ h.1 h.2
  · have HT : vOk v = false := by simpa [vOk] using h
    rw [HT]; exact within_no _ _ _ _ h
/-- What a function that answers a heap and a bool leaves. -/
def HRes (w w' : World) (e : Ending) (n n' : Nat) (z z' : List Int) (ok : Bool) : Prop :=
  ∃ B d F B' d' F', e = .returned (.tuple #[.agg #[.slice B n d, .slice B' n' d'], .bool ok]) ∧ CopyH w w' n n' z z' B d F B' d' F'
/-- The result's cells laid: the end. -/
theorem St.fin {w W : World} {b r t : Nat} {u0 u1 : Value} {B : Option Addr} {n d : Nat} {B' : Option Addr} {n' d' : Nat} {F F' : List Nat} {x y : List Int} (h : St w W b r t u0 u1 B n d B' n' d' F F' x y) (v0 v1 : Value) :
    CopyH w ((W.setCell ⟨r, 0, none⟩ v0).setCell ⟨r, 1, none⟩ v1) n n' x y B d F B' d' F' := by
  have ht : Touch [r] W ((W.setCell ⟨r, 0, none⟩ v0).setCell ⟨r, 1, none⟩ v1) := ((Touch.refl _ _).setCell (by simp) _).setCell (by simp) _
  exact ⟨h.own.touch ht (fun g hg hg' => h.nr (by simp at hg'; rwa [← hg'])), h.own'.touch ht (fun g hg hg' => h.nr' (by simp at hg'; rwa [← hg'])), h.lo, h.ff, Below.touch h.bel ht (fun g hg => by simp at hg; rw [hg]; exact h.lor) h.bel.size⟩


theorem St.fin2 {w W : World} {b r t : Nat} {u0 u1 : Value} {B : Option Addr} {n d : Nat} {B' : Option Addr} {n' d' : Nat} {F F' : List Nat} {x y : List Int} (h : St w W b r t u0 u1 B n d B' n' d' F F' x y) (j : Nat) (v v0 v1 : Value) :
    CopyH w (((W.setCell ⟨t, j, none⟩ v).setCell ⟨r, 0, none⟩ v0).setCell ⟨r, 1, none⟩ v1) n n' x y B d F B' d' F' := by
  have ht : Touch [t, r] W (((W.setCell ⟨t, j, none⟩ v).setCell ⟨r, 0, none⟩ v0).setCell ⟨r, 1, none⟩ v1) := (((Touch.refl _ _).setCell (by simp) _).setCell (by simp) _).setCell (by simp) _
  refine ⟨h.own.touch ht (fun g hg hg' => ?_), h.own'.touch ht (fun g hg hg' => ?_), h.lo, h.ff, Below.touch h.bel ht (fun g hg => ?_) h.bel.size⟩
  · simp at hg'; rcases hg' with rfl | rfl
    · exact h.nt hg
    · exact h.nr hg
  · simp at hg'; rcases hg' with rfl | rfl
    · exact h.nt' hg
    · exact h.nr' hg
  · simp at hg; rcases hg with rfl | rfl
    · exact h.lot
    · exact h.lor

end Go.Proofs.Ytnnmdikbcfefjaa
