/-
  Contracts of Fixed, of the reference and of the program: a number as bytes, the highest first; the empty string where it does not fit.
-/
import Derived.Test.YtciehbedpjfflabDoorStr
import Derived.LoopTactic
namespace Go.Proofs.YtciehbedpjfflabDoor
open Go.RowKit
set_option linter.unusedVariables false

/-- 256 to the power m. -/
def pw : Nat → Nat
  | 0 => 1
  | m + 1 => 256 * pw m
theorem pw_pos (m : Nat) : 0 < pw m := by induction m with | zero => decide | succ m ih => simp only [pw]; omega
theorem pw_eq (m : Nat) : pw m = 2 ^ (8 * m) := by
  induction m with
  | zero => rfl
  | succ m ih => simp only [pw]; rw [ih, show 8 * (m + 1) = 8 * m + 8 by omega, Nat.pow_add]; omega
theorem pw_wrap (m : Nat) (h : m ≤ 7) : wrap64 ((2 : Int) ^ (8 * m)) = (pw m : Int) := by
  have e : ((2 : Int) ^ (8 * m)) = ((pw m : Nat) : Int) := by rw [pw_eq]; simp
  rw [e]
  have hb : pw m ≤ 72057594037927936 := by
    have := pw_eq m
    have : 2 ^ (8 * m) ≤ 2 ^ 56 := Nat.pow_le_pow_right (by omega) (by omega)
    omega
  exact IntWalk.wrap64_in _ ⟨by omega, by omega⟩

/-- The m lowest bytes of n, the highest first. -/
def fixN : Nat → Nat → List UInt8
  | 0, _ => []
  | m + 1, n => fixN m (n / 256) ++ [UInt8.ofNat (n % 256)]
theorem fixN_length (m n : Nat) : (fixN m n).length = m := by
  induction m generalizing n with
  | zero => rfl
  | succ m ih => simp [fixN, ih]
theorem div_pw (n m : Nat) : n / 256 / pw m = n / pw (m + 1) := by rw [Nat.div_div_eq_div_mul]; rfl
theorem div_pw' (n m : Nat) : n / pw m / 256 = n / pw (m + 1) := by rw [Nat.div_div_eq_div_mul, Nat.mul_comm]; rfl
theorem fixN_cons (m n : Nat) : fixN (m + 1) n = UInt8.ofNat (n / pw m % 256) :: fixN m n := by
  induction m generalizing n with
  | zero => simp [fixN, pw]
  | succ m ih =>
    rw [fixN, ih (n / 256), div_pw]
    simp [fixN]
theorem fixN_get (m n j : Nat) (h : j < m) : (fixN m n).getD j 0 = UInt8.ofNat (n / pw (m - 1 - j) % 256) := by
  induction m generalizing n j with
  | zero => omega
  | succ m ih =>
    rw [fixN_cons]
    cases j with
    | zero => simp
    | succ j =>
      show (fixN m n).getD j 0 = _
      rw [ih n j (by omega)]
      congr 4
      omega

/-- What Fixed answers. -/
def fixS (n width : Int) : ByteArray := if 1 ≤ width ∧ width ≤ 7 ∧ 0 ≤ n ∧ n < pw width.toNat then ⟨(fixN width.toNat n.toNat).toArray⟩ else ⟨#[]⟩
theorem fixS_yes {n width : Int} (h : 1 ≤ width ∧ width ≤ 7 ∧ 0 ≤ n ∧ n < pw width.toNat) : fixS n width = ⟨(fixN width.toNat n.toNat).toArray⟩ := by unfold fixS; rw [if_pos h]
theorem fixS_no {n width : Int} (h : ¬ (1 ≤ width ∧ width ≤ 7 ∧ 0 ≤ n ∧ n < pw width.toNat)) : fixS n width = ⟨#[]⟩ := by unfold fixS; rw [if_neg h]
theorem ret_str {a b : ByteArray} (h : a = b) : Ending.returned (.string a) = .returned (.string b) := by rw [h]

theorem byteInfo : (Tryd.prog.info? 5).map (fun i => (i.zero, i.size, i.bytes)) = some (some (.int .u8 0), 1, 1) := by kernel_rfl

structure FixInv (w wr : World) (m N r : Nat) : Prop where
  row : wr.rowIs w.heap.size 5 m (fun j => .int .u8 ((if r ≤ j then N / pw (m - 1 - j) % 256 else 0 : Nat) : Int))
  bel : Below w.heap.size w wr
theorem fixInv_start (w : World) (m N : Nat) : FixInv w (w.alloc (.cells (madeCells #[.int .u8 0] m) 5)) m N m :=
  ⟨(World.rowIs_made w _ m _).congr (fun j hj => by rw [if_neg (by omega)]; rfl), (Below.refl _ _).alloc (Nat.le_refl _) _⟩
theorem fixInv_step {w wr : World} {m N k : Nat} (h : FixInv w wr m N (k + 1)) {x : Int} (hx : x = ((N / pw (m - 1 - k) % 256 : Nat) : Int)) : FixInv w (wr.setCell ⟨w.heap.size, k, none⟩ (.int .u8 x)) m N k := by
  refine ⟨(h.row.set k _).congr (fun j _ => ?_), h.bel.setCell (Nat.le_refl _) _⟩
  by_cases e : j = k
  · subst e; simp [hx]
  · rw [if_neg e]
    by_cases hl : k + 1 ≤ j
    · rw [if_pos hl, if_pos (by omega)]
    · rw [if_neg hl, if_neg (by omega)]
theorem fixInv_str {w wr : World} {m N c : Nat} (h : FixInv w wr m N 0) : (convert 22 9 (.slice (some ⟨w.heap.size, 0, none⟩) m c)).run Tryd.prog wr = .ok (.string ⟨(fixN m N).toArray⟩) wr :=
  strOf _ _ _ Tryd.underlying22 Tryd.underlying5 Tryd.underlying9 wr _ m c _ (fixN_length m N).symm fun j hj => by
    rw [fixN_length] at hj
    rw [h.row.cell hj, if_pos (Nat.zero_le _), fixN_get m N j hj]
    have : (UInt8.ofNat (N / pw (m - 1 - j) % 256)).toNat = N / pw (m - 1 - j) % 256 := by simp
    rw [this]

set_option maxRecDepth 100000 in
set_option maxHeartbeats 1600000 in
theorem implFixed_yes (m N : Nat) (w : World) (h1 : 1 ≤ m) (h7 : m ≤ 7) (hlt : N < pw m) :
    Calls Tryd.prog 9 #[.int .i64 (N : Int), .int .i64 (m : Int)] w fun e w' => e = .returned (.string ⟨(fixN m N).toArray⟩) ∧ Below w.heap.size w w' := by
  have q1 : 1 ≤ (m : Int) := by omega
  have q2 : (m : Int) ≤ 7 := by omega
  have q3 : ¬ (N : Int) < 0 := by omega
  have q4 : ¬ wrap64 ((2 : Int) ^ (8 * m)) ≤ (N : Int) := by rw [pw_wrap m h7]; omega
  have hb : (N : Int) ≤ 72057594037927936 := by
    have := pw_eq m
    have : 2 ^ (8 * m) ≤ 2 ^ 56 := Nat.pow_le_pow_right (by omega) (by omega)
    omega
  have hmk := run_make_row' (P := Tryd.prog) 22 5 (.int .u8 0) 1 Tryd.underlying22 byteInfo rfl .i64 .i64 m (by omega) (by omega)
  have HL := hide hlt
  have H7 := hide h7
  clear hlt h7
  go_enter Tryd.func9, Tryd.ntmps9
  go_wp2
  clear hmk q4
  go_loopw [0, 6] (fun nn i wr => ∃ q : Int, i = .int .i64 q ∧ -1 ≤ q ∧ q < m ∧ nn = .int .i64 ((N / pw (m - (q + 1).toNat) : Nat) : Int) ∧ FixInv w wr m N (q + 1).toNat) (fun _ i _ => (intOf i + 1).toNat)
  case atStart => exact ⟨(m : Int) - 1, rfl, by omega, by omega, by rw [show m - ((m : Int) - 1 + 1).toNat = 0 by omega]; simp [pw], by rw [show ((m : Int) - 1 + 1).toNat = m by omega]; exact fixInv_start w m N⟩
  case round =>
    obtain ⟨q, rfl, hq1, hq2, rfl, hI⟩ := hrel
    have HI := hide hI
    clear hI
    by_cases h0 : 0 ≤ q
    · obtain ⟨k, rfl⟩ := Int.eq_ofNat_of_zero_le h0
      have hkm : k < m := by omega
      have e1 : ((k : Int) + 1).toNat = k + 1 := by omega
      rw [e1] at HI
      have g2 : wr.cell? ⟨w.heap.size, k, none⟩ = some (.int .u8 0) := by
        have := HI.out.row.cell hkm
        rw [if_neg (by omega)] at this
        exact this
      have g3 : wr.frozen? ⟨w.heap.size, k, none⟩ = false := HI.out.row.frozen k
      have hx : N / pw (m - ((k : Int) + 1).toNat) = N / pw (m - 1 - k) := by rw [e1, show m - (k + 1) = m - 1 - k by omega]
      obtain ⟨x, hxx⟩ : ∃ x, x = N / pw (m - 1 - k) := ⟨_, rfl⟩
      rw [hx, ← hxx]
      have hxb : (x : Int) ≤ 72057594037927936 := by
        have : x ≤ N := by rw [hxx]; exact Nat.div_le_self _ _
        omega
      have HX := hide hxx
      clear hx hxx e1
      go_wp2
      go_roundw
      case rel =>
        refine ⟨(k : Int) - 1, rfl, by omega, by omega, ?_, ?_⟩
        · have e2 : m - ((k : Int) - 1 + 1).toNat = (m - 1 - k) + 1 := by omega
          rw [e2, ← div_pw', ← HX.out]
          simp
        · rw [show ((k : Int) - 1 + 1).toNat = k by omega]
          exact fixInv_step HI.out (by rw [← HX.out]; first | done | simp)
      case measure => simp [intOf] <;> omega
    · have e1 : (q + 1).toNat = 0 := by omega
      rw [e1] at HI
      have hcv := fixInv_str (c := m) HI.out
      go_wp2
      go_ret
      exact ⟨rfl, HI.out.bel⟩

theorem str1 (w : World) (x : Nat) (c : Nat) : (convert 22 9 (.slice (some ⟨w.heap.size, 0, none⟩) 1 c)).run Tryd.prog (w.alloc (.cells #[.int .u8 ((x : Int) % 256)] 5)) = .ok (.string ⟨#[UInt8.ofNat (x % 256)]⟩) (w.alloc (.cells #[.int .u8 ((x : Int) % 256)] 5)) :=
  strOf _ _ _ Tryd.underlying22 Tryd.underlying5 Tryd.underlying9 _ _ 1 c [UInt8.ofNat (x % 256)] rfl fun j hj => by
    have : j = 0 := by simpa using hj
    subst this
    rw [cell_of_row _ _ _ _ _ _ (heap_alloc_new _ _)]
    simp

set_option maxRecDepth 100000 in
set_option maxHeartbeats 800000 in
theorem implFixed_no (n width : Int) (w : World) (hb1 : -9223372036854775808 ≤ n) (hb2 : n ≤ 9223372036854775807) (h : ¬ (1 ≤ width ∧ width ≤ 7 ∧ 0 ≤ n ∧ n < pw width.toNat)) :
    Calls Tryd.prog 9 #[.int .i64 n, .int .i64 width] w fun e w' => e = .returned (.string ⟨#[]⟩) ∧ Below w.heap.size w w' := by
  by_cases h1 : 1 ≤ width
  · by_cases h2 : width ≤ 7
    · by_cases h3 : n < 0
      · clear h
        go_enter Tryd.func9, Tryd.ntmps9
        go_wp2
        go_ret
        exact ⟨rfl, Below.refl _ _⟩
      · obtain ⟨m, rfl⟩ := Int.eq_ofNat_of_zero_le (show 0 ≤ width by omega)
        have q : wrap64 ((2 : Int) ^ (8 * m)) ≤ n := by
          rw [pw_wrap m (by omega)]
          have e : ((m : Int)).toNat = m := by simp
          rw [e] at h
          omega
        clear h
        go_enter Tryd.func9, Tryd.ntmps9
        go_wp2
        go_ret
        exact ⟨rfl, Below.refl _ _⟩
    · clear h
      go_enter Tryd.func9, Tryd.ntmps9
      go_wp2
      go_ret
      exact ⟨rfl, Below.refl _ _⟩
  · clear h
    go_enter Tryd.func9, Tryd.ntmps9
    go_wp2
    go_ret
    exact ⟨rfl, Below.refl _ _⟩

theorem implFixed_any (n width : Int) (w : World) (hb1 : -9223372036854775808 ≤ n) (hb2 : n ≤ 9223372036854775807) :
    Calls Tryd.prog 9 #[.int .i64 n, .int .i64 width] w fun e w' => e = .returned (.string (fixS n width)) ∧ Below w.heap.size w w' := by
  by_cases h : 1 ≤ width ∧ width ≤ 7 ∧ 0 ≤ n ∧ n < pw width.toNat
  · rw [fixS_yes h]
    obtain ⟨h1, h2, h3, h4⟩ := h
    obtain ⟨m, rfl⟩ := Int.eq_ofNat_of_zero_le (show 0 ≤ width by omega)
    obtain ⟨N, rfl⟩ := Int.eq_ofNat_of_zero_le h3
    exact implFixed_yes m N w (by omega) (by omega) (by simp at h4; omega)
  · rw [fixS_no h]
    exact implFixed_no n width w hb1 hb2 h

theorem fix_low {m N : Nat} (h : N / pw m ≤ 0) : N < pw m := by
  have h0 : N / pw m = 0 := Nat.le_zero.1 h
  rcases Nat.div_eq_zero_iff.1 h0 with h | h
  · have := pw_pos m; omega
  · exact h

end Go.Proofs.YtciehbedpjfflabDoor
