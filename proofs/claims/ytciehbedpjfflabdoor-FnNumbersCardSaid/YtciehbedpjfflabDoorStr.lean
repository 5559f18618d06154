/-
  Bytes in memory made into a string. Plain lemmas over whatever program.
-/
import Derived.Test.YtciehbedpjfflabDoorApp
import Derived.Laws.BytesString
import Derived.Laws.IdiomStrings
namespace Go.Proofs.YtciehbedpjfflabDoor
open Go.RowKit
set_option linter.unusedVariables false

theorem strOf {P : Program} (src dst e : TypeId) (hs : P.underlying src = some (.slice e)) (he : P.underlying e = some (.int .u8)) (hd : P.underlying dst = some .string) (w : World) (g n c : Nat) (bs : List UInt8) (hn : n = bs.length)
    (h : ∀ j, j < bs.length → w.cell? ⟨g, j, none⟩ = some (.int .u8 ((bs.getD j 0).toNat : Int))) : (convert src dst (.slice (some ⟨g, 0, none⟩) n c)).run P w = .ok (.string ⟨bs.toArray⟩) w := by
  rw [run_convert_bytes_string w src dst e _ n c hs he hd]
  have hl : (loadCells ⟨g, 0, none⟩ n).run P w = .ok ((bs.map (fun b => (b.toNat : Int))).map (Value.int .u8)).toArray w := by
    subst hn
    rw [run_loadCells w ⟨g, 0, none⟩ bs.length (fun j => .int .u8 ((bs.getD j 0).toNat : Int)) (fun j hj => by
      have : (⟨g, 0, none⟩ : Addr).add j = ⟨g, j, none⟩ := by unfold Addr.add; split <;> simp_all
      rw [this]; exact h j hj)]
    congr 2
    apply List.ext_getElem?
    intro j
    by_cases hj : j < bs.length
    · simp [hj, List.getD]
    · simp [hj]
  rw [run_bytesToString w _ n c _ hl, foldl_push_byteCells]
  simp

/-- bytes as values -/
def bvals (bs : List UInt8) : List Value := bs.map fun b => .int .u8 (b.toNat : Int)
theorem bvals_length (bs : List UInt8) : (bvals bs).length = bs.length := by simp [bvals]
theorem bvals_get (bs : List UInt8) (j : Nat) (h : j < bs.length) : (bvals bs).getD j undef = .int .u8 ((bs.getD j 0).toNat : Int) := by simp [bvals, List.getD, h]
theorem bvals_one (bs : List UInt8) : ∀ u, u ∈ bvals bs → u.oneCell' = true := by
  intro u hu
  simp only [bvals, List.mem_map] at hu
  obtain ⟨x, _, rfl⟩ := hu
  rfl
theorem bvals_append (a b : List UInt8) : bvals (a ++ b) = bvals a ++ bvals b := by simp [bvals]

/-- the string of a row of bytes that is owned -/
theorem strOf_row {P : Program} (src dst e : TypeId) (hs : P.underlying src = some (.slice e)) (he : P.underlying e = some (.int .u8)) (hd : P.underlying dst = some .string) {w : World} {base n : Nat} {v : Value} {bs : List UInt8}
    (h : w.ownsRow base e 1 v n (bvals bs)) : (convert src dst v).run P w = .ok (.string ⟨bs.toArray⟩) w := by
  obtain ⟨A, c, F, rfl, hn, ho, _⟩ := own_of_row h
  rw [bvals_length] at hn
  obtain ⟨_, _, _, hr⟩ := ho.read
  rw [bvals_length] at hr
  cases bs with
  | nil =>
    have : n = 0 := hn
    subst this
    cases A with
    | none => simp [convert, run_underlying hs, run_underlying hd, run_underlying he, Conv.bytesToString]; rfl
    | some a =>
      rw [run_convert_bytes_string w src dst e _ 0 c hs he hd, run_bytesToString w a 0 c [] (by simp [loadCells, loadCellsFrom])]
      rfl
  | cons b bs =>
    obtain ⟨g, rfl, _, _, _, _⟩ := hr 0 (by simp)
    refine strOf src dst e hs he hd w g n c (b :: bs) hn fun j hj => ?_
    obtain ⟨g', e1, _, _, hc, _⟩ := hr j hj
    injection e1 with e1
    injection e1 with e1
    subst e1
    rw [hc, bvals_get _ _ hj]
end Go.Proofs.YtciehbedpjfflabDoor
