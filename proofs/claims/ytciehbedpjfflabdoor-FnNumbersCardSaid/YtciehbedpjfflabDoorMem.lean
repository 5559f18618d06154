/-
  Words for memory: a slice that reads as numbers; blocks that a call may touch; a slice of ints that lies in a block of its own. Plain lemmas, of no one function.
-/
import Derived.Test.YtciehbedpjfflabDoorChecked
import Derived.WalkKit
import Derived.WalkLawsBesides
import Derived.Deep.OwnRows
namespace Go.Proofs.YtciehbedpjfflabDoor
open Go.RowKit
set_option linter.unusedVariables false

theorem hide {p : Prop} (h : p) : Hid p := h
theorem retI {k : IntKind} {a b : Int} (h : a = b) : Ending.returned (.int k a) = .returned (.int k b) := by rw [h]
theorem retB {a b : Bool} (h : a = b) : Ending.returned (.bool a) = .returned (.bool b) := by rw [h]

/-- The slice at A reads as the numbers zs of kind k, all in blocks below B. -/
def RdB (k : IntKind) (w : World) (A : Option Addr) (zs : List Int) (B : Nat) : Prop :=
  ∀ j, j < zs.length → ∃ b off, A = some ⟨b, off, none⟩ ∧ b < B ∧ w.cell? ⟨b, off + j, none⟩ = some (.int k (zs.getD j 0))

theorem RdB.keep {k : IntKind} {w w' : World} {A : Option Addr} {zs : List Int} {B : Nat} (h : RdB k w A zs B) (hk : ∀ p : Addr, p.block < B → w'.cell? p = w.cell? p) : RdB k w' A zs B := fun j hj => by
  obtain ⟨b, off, e, hb, hc⟩ := h j hj
  exact ⟨b, off, e, hb, (hk _ hb).trans hc⟩
theorem RdB.more {k : IntKind} {w : World} {A : Option Addr} {zs : List Int} {B B' : Nat} (h : RdB k w A zs B) (hB : B ≤ B') : RdB k w A zs B' := fun j hj => by
  obtain ⟨b, off, e, hb, hc⟩ := h j hj
  exact ⟨b, off, e, by omega, hc⟩
theorem RdB.below {k : IntKind} {w w' : World} {A : Option Addr} {zs : List Int} {B B' : Nat} (h : RdB k w A zs B) (hb : Below B' w w') (hB : B ≤ B') : RdB k w' A zs B := h.keep fun p hp => hb.cell (by omega)
theorem RdB.nil {k : IntKind} {w : World} {A : Option Addr} {B : Nat} : RdB k w A [] B := fun j hj => absurd hj (Nat.not_lt_zero _)

theorem grown_trans {a b c : World} {row : Option Nat} (h : a.grownBy b row) (k : b.grownBy c row) : a.grownBy c row :=
  ⟨k.os.trans h.os, k.tape.trans h.tape, k.output.trans h.output, Nat.le_trans h.size k.size, fun i hi hn => (k.block i (Nat.lt_of_lt_of_le hi h.size) hn).trans (h.block i hi hn)⟩
theorem grown_refl (w : World) (row : Option Nat) : w.grownBy w row := ⟨rfl, rfl, rfl, Nat.le_refl _, fun _ _ _ => rfl⟩
theorem grown_below {w w' : World} (h : Below w.heap.size w w') (row : Option Nat) : w.grownBy w' row := ⟨h.os, h.tape, h.output, h.size, fun i hi _ => h.block i hi⟩
theorem below_grown {B : Nat} {w w1 w2 : World} {g : Nat} (h : Below B w w1) (hg : w1.grownBy w2 (some g)) (hB : B ≤ g) (hs : B ≤ w1.heap.size) : Below B w w2 :=
  h.grown hg hs (fun k e => by injection e with e; omega)

/-- Only the blocks of F, and new ones, may have changed. -/
structure Touch (F : List Nat) (w w' : World) : Prop where
  os : w'.os = w.os
  tape : w'.tape = w.tape
  output : w'.output = w.output
  size : w.heap.size ≤ w'.heap.size
  block : ∀ k, k < w.heap.size → k ∉ F → w'.heap[k]? = w.heap[k]?

theorem Touch.refl (F : List Nat) (w : World) : Touch F w w := ⟨rfl, rfl, rfl, Nat.le_refl _, fun _ _ _ => rfl⟩
theorem Touch.trans {F : List Nat} {a b c : World} (h : Touch F a b) (k : Touch F b c) : Touch F a c :=
  ⟨k.os.trans h.os, k.tape.trans h.tape, k.output.trans h.output, Nat.le_trans h.size k.size, fun i hi hn => (k.block i (Nat.lt_of_lt_of_le hi h.size) hn).trans (h.block i hi hn)⟩
theorem Touch.mono {F G : List Nat} {a b : World} (h : Touch F a b) (hs : ∀ g, g ∈ F → g ∈ G) : Touch G a b := ⟨h.os, h.tape, h.output, h.size, fun i hi hn => h.block i hi (fun hm => hn (hs i hm))⟩
theorem Touch.of_below {F : List Nat} {w w' : World} (h : Below w.heap.size w w') : Touch F w w' := ⟨h.os, h.tape, h.output, h.size, fun i hi _ => h.block i hi⟩
theorem Touch.drew {F : List Nat} {a b : World} (h : Touch F a b) : Touch F a b.drew := ⟨h.os, h.tape, h.output, h.size, h.block⟩
theorem Touch.alloc {F : List Nat} {a b : World} (h : Touch F a b) (o : Obj) : Touch F a (b.alloc o) := h.trans (.of_below ((Below.refl _ _).alloc (Nat.le_refl _) o))
theorem Touch.setCell {F : List Nat} {a b : World} (h : Touch F a b) {p : Addr} (hp : p.block ∈ F) (u : Value) : Touch F a (b.setCell p u) :=
  h.trans ⟨rfl, rfl, rfl, by simp [World.setCell], fun k _ hn => Below.heap_setCell _ _ _ _ (fun e => hn (e ▸ hp))⟩
theorem Below.touch {B : Nat} {F : List Nat} {w w1 w2 : World} (h : Below B w w1) (k : Touch F w1 w2) (hF : ∀ g, g ∈ F → B ≤ g) (hs : B ≤ w1.heap.size) : Below B w w2 :=
  h.trans ⟨k.os, k.tape, k.output, k.size, fun i hi => k.block i (by omega) (fun hm => by have := hF i hm; omega)⟩
theorem Touch.below {w w' : World} (h : Touch [] w w') : Below w.heap.size w w' := ⟨h.os, h.tape, h.output, h.size, fun i hi => h.block i hi (by simp)⟩
theorem RdB.touch {k : IntKind} {w w' : World} {A : Option Addr} {zs : List Int} {B : Nat} {F : List Nat} (h : RdB k w A zs B) (ht : Touch F w w') (hF : ∀ g, g ∈ F → B ≤ g) (hB : B ≤ w.heap.size) : RdB k w' A zs B :=
  h.keep fun p hp => World.cell?_of_block (ht.block p.block (by omega) (fun hm => by have := hF _ hm; omega))
theorem rowIs_touch {w w' : World} {b : Nat} {t : TypeId} {n : Nat} {f : Nat → Value} {F : List Nat} (h : w.rowIs b t n f) (ht : Touch F w w') (hb : b ∉ F) : w'.rowIs b t n f := h.of_block (ht.block b h.lt hb)
theorem rowIs_below {w w' : World} {b : Nat} {t : TypeId} {n : Nat} {f : Nat → Value} {B : Nat} (h : w.rowIs b t n f) (ht : Below B w w') (hb : b < B) : w'.rowIs b t n f := h.of_block (ht.block b hb)

/-- The slice v of one-cell elements (of type E) holds xs in a block of its own (F: that block), or is empty without room. -/
def Own (E : TypeId) (w : World) (v : Value) (xs : List Value) (F : List Nat) : Prop :=
  ∃ A c, v = .slice A xs.length c ∧ c ≤ maxLen ∧
    ((xs = [] ∧ c = 0 ∧ F = []) ∨ ∃ g cap f, A = some ⟨g, 0, none⟩ ∧ F = [g] ∧ w.rowIs g E cap f ∧ xs.length ≤ c ∧ c ≤ cap ∧ ∀ j, j < xs.length → f j = xs.getD j undef)

theorem Own.lt {E : TypeId} {w : World} {v : Value} {xs : List Value} {F : List Nat} (h : Own E w v xs F) : ∀ g, g ∈ F → g < w.heap.size := by
  obtain ⟨A, c, _, _, h | ⟨g, cap, f, _, rfl, hr, _⟩⟩ := h
  · rw [h.2.2]; intro g hg; cases hg
  · intro g' hg'; simp at hg'; subst hg'; exact hr.lt
theorem Own.touch {E : TypeId} {w w' : World} {v : Value} {xs : List Value} {F G : List Nat} (h : Own E w v xs F) (ht : Touch G w w') (hd : ∀ g, g ∈ F → g ∉ G) : Own E w' v xs F := by
  obtain ⟨A, c, e, hc, h | ⟨g, cap, f, hA, rfl, hr, h1, h2, h3⟩⟩ := h
  · exact ⟨A, c, e, hc, .inl h⟩
  · exact ⟨A, c, e, hc, .inr ⟨g, cap, f, hA, rfl, rowIs_touch hr ht (hd g (by simp)), h1, h2, h3⟩⟩
theorem Own.below {E : TypeId} {w w' : World} {v : Value} {xs : List Value} {F : List Nat} (h : Own E w v xs F) (hb : Below w.heap.size w w') : Own E w' v xs F :=
  h.touch (G := []) (.of_below hb) (fun _ _ => by simp)
theorem Own.read {E : TypeId} {w : World} {A : Option Addr} {n c : Nat} {xs : List Value} {F : List Nat} (h : Own E w (.slice A n c) xs F) :
    n = xs.length ∧ n ≤ c ∧ c ≤ maxLen ∧ ∀ j, j < xs.length → ∃ g, A = some ⟨g, 0, none⟩ ∧ F = [g] ∧ g < w.heap.size ∧ w.cell? ⟨g, j, none⟩ = some (xs.getD j undef) ∧ w.frozen? ⟨g, j, none⟩ = false := by
  obtain ⟨A', c', e, hc, h⟩ := h
  injection e with e1 e2 e3
  subst e1 e2 e3
  rcases h with ⟨rfl, rfl, rfl⟩ | ⟨g, cap, f, rfl, rfl, hr, h1, h2, h3⟩
  · exact ⟨rfl, by simp, hc, fun j hj => absurd hj (Nat.not_lt_zero _)⟩
  · exact ⟨rfl, h1, hc, fun j hj => ⟨g, rfl, rfl, hr.lt, by rw [hr.cell (by omega), h3 j hj], hr.frozen j⟩⟩

/-- ints -/
def ints (zs : List Int) : List Value := zs.map (Value.int .i64)
theorem ints_length (zs : List Int) : (ints zs).length = zs.length := by simp [ints]
theorem ints_get (zs : List Int) (j : Nat) (h : j < zs.length) : (ints zs).getD j undef = .int .i64 (zs.getD j 0) := by
  simp [ints, List.getD, h]
theorem Own.rd {E : TypeId} {w : World} {A : Option Addr} {n c : Nat} {zs : List Int} {F : List Nat} (h : Own E w (.slice A n c) (ints zs) F) : n = zs.length ∧ RdB .i64 w A zs w.heap.size := by
  obtain ⟨h1, _, _, h2⟩ := h.read
  rw [ints_length] at h1 h2
  exact ⟨h1, fun j hj => by
    obtain ⟨g, e, _, hl, hc, _⟩ := h2 j hj
    exact ⟨g, 0, e, hl, by rw [Nat.zero_add, hc, ints_get _ _ hj]⟩⟩

/-- The numbers from k on. -/
def marks (k : Int) : Nat → List Int
  | 0 => []
  | n + 1 => k :: marks (k + 1) n
theorem marks_length (k : Int) (n : Nat) : (marks k n).length = n := by
  induction n generalizing k with
  | zero => rfl
  | succ n ih => simp [marks, ih]
theorem marks_get (k : Int) (n j : Nat) (h : j < n) : (marks k n).getD j 0 = k + j := by
  induction n generalizing k j with
  | zero => omega
  | succ n ih =>
    cases j with
    | zero => simp [marks]
    | succ j =>
      show (marks (k + 1) n).getD j 0 = _
      rw [ih (k + 1) j (by omega)]
      omega

/-- What a law is told of a slice of numbers that came in. -/
def Sl (k : IntKind) (w : World) (A : Option Addr) (n c : Nat) (zs : List Int) : Prop :=
  n = zs.length ∧ n ≤ c ∧ c ≤ maxLen ∧ RdB k w A zs w.heap.size ∧ ∀ x ∈ zs, (Lit.int k x).wf = true
/-- A heap that came in: two slices of ints. -/
def HeapArg (w : World) (v0 v1 : Value) : Prop :=
  ∃ A n c zs A' n' c' zs', v0 = .slice A n c ∧ v1 = .slice A' n' c' ∧ Sl .i64 w A n c zs ∧ Sl .i64 w A' n' c' zs'
/-- The slice at A reads as lists of ints, all in blocks below B. -/
def RdL (w : World) (A : Option Addr) (zss : List (List Int)) (B : Nat) : Prop :=
  ∀ j, j < zss.length → ∃ b off A' n' c', A = some ⟨b, off, none⟩ ∧ b < B ∧ w.cell? ⟨b, off + j, none⟩ = some (.slice A' n' c') ∧ n' = (zss.getD j []).length ∧ n' ≤ c' ∧ c' ≤ maxLen ∧ RdB .i64 w A' (zss.getD j []) B ∧ ∀ x ∈ zss.getD j [], (Lit.int .i64 x).wf = true
/-- A slice of lists that came in. -/
def SlL (w : World) (v : Value) (zss : List (List Int)) : Prop :=
  ∃ A n c, v = .slice A n c ∧ n = zss.length ∧ n ≤ c ∧ c ≤ maxLen ∧ RdL w A zss w.heap.size
/-- Lists that came in. -/
def ListsArg (w : World) (v0 v1 : Value) : Prop := ∃ z0 z1, SlL w v0 z0 ∧ SlL w v1 z1
end Go.Proofs.YtciehbedpjfflabDoor
