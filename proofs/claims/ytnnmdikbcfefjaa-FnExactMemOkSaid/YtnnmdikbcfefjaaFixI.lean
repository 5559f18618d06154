/-
  Contracts of Fixed, of the reference and of the program: a number as bytes, the highest first; the empty string where it does not fit.
-/
import Derived.Test.YtnnmdikbcfefjaaStr
import Derived.LoopTactic
namespace Go.Proofs.Ytnnmdikbcfefjaa
open Go.RowKit
set_option linter.unusedVariables false

/-- 256 to the power m. -/
def pw : Nat → Nat
  | 0 => 1
  | m + 1 => 256 * pw m
theorem pw_pos (m : Nat) : 0 < pw m := by induction m with | zero => decide | succ m ih => simp only [pw]; omega
theorem pw_eq (m : Nat) : pw m = 2 ^ (8 * m) := by
  induction m with
  | zero => rfl
  | succ m ih => simp only [pw]; rw [ih, show 8 * (m + 1) = 8 * m + 8 by omega, Nat.pow_add]; omega
theorem pw_wrap (m : Nat) (h : m ≤ 7) : wrap64 ((2 : Int) ^ (8 * m)) = (pw m : Int) := by
  have e : ((2 : Int) ^ (8 * m)) = ((pw m : Nat) : Int) := by rw [pw_eq]; simp
  rw [e]
  have hb : pw m ≤ 72057594037927936 := by
    have := pw_eq m
    have : 2 ^ (8 * m) ≤ 2 ^ 56 := Nat.pow_le_pow_right (by omega) (by omega)
    omega
  exact IntWalk.wrap64_in _ ⟨by omega, by omega⟩

/-- The m lowest bytes of n, the highest first. -/
def fixN : Nat → Nat → List UInt8
  | 0, _ => []
  | m + 1, n => fixN m (n / 256) ++ [UInt8.ofNat (n % 256)]
theorem fixN_length (m n : Nat) : (fixN m n).length = m := by
  induction m generalizing n with
  | zero => rfl
  | succ m ih => simp [fixN, ih]
theorem div_pw (n m : Nat) : n / 256 / pw m = n / pw (m + 1) := by rw [Nat.div_div_eq_div_mul]; rfl
theorem div_pw' (n m : Nat) : n / pw m / 256 = n / pw (m + 1) := by rw [Nat.div_div_eq_div_mul, Nat.mul_comm]; rfl
theorem fixN_cons (m n : Nat) : fixN (m + 1) n = UInt8.ofNat (n / pw m % 256) :: fixN m n := by
  induction m generalizing n with
  | zero => simp [fixN, pw]
  | succ m ih =>
    rw [fixN, ih (n / 256), div_pw]
    simp [fixN]
theorem fixN_get (m n j : Nat) (h : j < m) : (fixN m n).getD j 0 = UInt8.ofNat (n / pw (m - 1 - j) % 256) := by
  induction m generalizing n j with
  | zero => omega
  | succ m ih =>
    rw [fixN_cons]
    cases j with
    | zero => simp
    | succ j =>
      show (fixN m n).getD j 0 = _
      rw [ih n j (by omega)]
      congr 4
      omega

/-- What Fixed answers. -/
def fixS (n width : Int) : ByteArray := if 1 ≤ width ∧ width ≤ 7 ∧ 0 ≤ n ∧ n < pw width.toNat then ⟨(fixN width.toNat n.toNat).toArray⟩ else ⟨#[]⟩
theorem fixS_yes {n width : Int} (h : 1 ≤ width ∧ width ≤ 7 ∧ 0 ≤ n ∧ n < pw width.toNat) : fixS n width = ⟨(fixN width.toNat n.toNat).toArray⟩ := by unfold fixS; rw [if_pos h]
theorem fixS_no {n width : Int} (h : ¬ (1 ≤ width ∧ width ≤ 7 ∧ 0 ≤ n ∧ n < pw width.toNat)) : fixS n width = ⟨#[]⟩ := by unfold fixS; rw [if_neg h]
theorem ret_str {a b : ByteArray} (h : a = b) : Ending.returned (.string a) = .returned (.string b) := by rw [h]

theorem byteInfo : (Try.prog.info? 5).map (fun i => (i.zero, i.size, i.bytes)) = some (some (.int .u8 0), 1, 1) := by kernel_rfl

structure FixInv (w wr : World) (m N r : Nat) : Prop where
  row : wr.rowIs w.heap.size 5 m (fun j => .int .u8 ((if r ≤ j then N / pw (m - 1 - j) % 256 else 0 : Nat) : Int))
  bel : Below w.heap.size w wr
theorem fixInv_start (w : World) (m N : Nat) : FixInv w (w.alloc (.cells (madeCells #[.int .u8 0] m) 5)) m N m :=
  ⟨(World.rowIs_made w _ m _).congr (fun j hj => by rw [if_neg (by omega)]; rfl), (Below.refl _ _).alloc (Nat.le_refl _) _⟩
theorem fixInv_step {w wr : World} {m N k : Nat} (h : FixInv w wr m N (k + 1)) {x : Int} (hx : x = ((N / pw (m - 1 - k) % 256 : Nat) : Int)) : FixInv w (wr.setCell ⟨w.heap.size, k, none⟩ (.int .u8 x)) m N k := by
  refine ⟨(h.row.set k _).congr (fun j _ => ?_), h.bel.setCell (Nat.le_refl _) _⟩
  by_cases e : j = k
  · subst e; simp [hx]
  · rw [if_neg e]
    by_cases hl : k + 1 ≤ j
    · rw [if_pos hl, if_pos (by omega)]
    · rw [if_neg hl, if_neg (by omega)]
end Go.Proofs.Ytnnmdikbcfefjaa
