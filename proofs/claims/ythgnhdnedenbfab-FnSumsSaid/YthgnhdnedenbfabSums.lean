/-
  The sum tells every burst of 32 bits: the plain fact, and the walk of the law.
-/
import Derived.Test.YthgnhdnedenbfabCrc0
import Derived.Test.YthgnhdnedenbfabText
import Derived.Test.YthgnhdnedenbfabAt
import Derived.Deep.QuietTactic
import Derived.BigQuiet
import Derived.Deep.DeepCutAuto
import Derived.Deep.WholeRow
namespace Go.Proofs.Ythgnhdnedenbfab
open Go.RowKit
set_option linter.unusedVariables false

theorem xor_zero_eq {a b : Nat} (h : a ^^^ b = 0) : a = b := by
  have : a ^^^ b ^^^ b = 0 ^^^ b := by rw [h]
  rw [Nat.xor_assoc, Nat.xor_self, Nat.xor_zero, Nat.zero_xor] at this
  exact this
theorem div2_xor (a b : Nat) : (a ^^^ b) / 2 = a / 2 ^^^ b / 2 := by
  apply Nat.eq_of_testBit_eq
  intro i
  simp [Nat.testBit_div_two]
theorem mod2_xor (a b : Nat) : (a ^^^ b) % 2 = (a % 2 + b % 2) % 2 := by
  have t : ∀ x : Nat, (x.testBit 0).toNat = x % 2 := fun x => by rw [Nat.toNat_testBit]; simp
  rw [← t, ← t a, ← t b, Nat.testBit_xor]
  cases a.testBit 0 <;> cases b.testBit 0 <;> rfl
theorem crcBit_xor (a b : Nat) : crcBit (a ^^^ b) = crcBit a ^^^ crcBit b := by
  unfold crcBit
  rw [div2_xor, mod2_xor]
  rcases Nat.mod_two_eq_zero_or_one a with ha | ha <;> rcases Nat.mod_two_eq_zero_or_one b with hb | hb <;> simp [ha, hb]
  · rw [Nat.xor_assoc]
  · rw [Nat.xor_assoc, Nat.xor_assoc]; congr 1; exact Nat.xor_comm _ _
  · rw [Nat.xor_assoc, ← Nat.xor_assoc 2197175160, Nat.xor_comm 2197175160 (b / 2), Nat.xor_assoc (b / 2), Nat.xor_self, Nat.xor_zero]
theorem crcBits_xor (k a b : Nat) : crcBits k (a ^^^ b) = crcBits k a ^^^ crcBits k b := by
  induction k with
  | zero => rfl
  | succ k ih => simp only [crcBits]; rw [ih, crcBit_xor]
theorem crcBit_even (x : Nat) : crcBit (2 * x) = x := by
  unfold crcBit
  rw [if_neg (by omega)]; omega
theorem crcBits_shift (k x : Nat) : crcBits k (2 ^ k * x) = x := by
  induction k generalizing x with
  | zero => simp [crcBits]
  | succ k ih =>
    simp only [crcBits]
    rw [Nat.pow_succ, Nat.mul_assoc, ih, crcBit_even]
theorem crcBit_inj0 {a : Nat} (h : crcBit a = 0) (ha : a < 4294967296) : a = 0 := by
  unfold crcBit at h
  by_cases e : a % 2 = 1
  · rw [if_pos e] at h
    have h2 : a / 2 = 2197175160 := xor_zero_eq h
    omega
  · rw [if_neg e] at h
    omega
theorem crcBits_inj0 {k a : Nat} (h : crcBits k a = 0) (ha : a < 4294967296) : a = 0 := by
  induction k with
  | zero => exact h
  | succ k ih => exact ih (crcBit_inj0 h (crcBits_lt k a ha))
theorem crcBits_inj {k a b : Nat} (h : crcBits k a = crcBits k b) (ha : a < 4294967296) (hb : b < 4294967296) : a = b := by
  have h2 : crcBits k (a ^^^ b) = 0 := by rw [crcBits_xor, h, Nat.xor_self]
  exact xor_zero_eq (crcBits_inj0 h2 (Nat.xor_lt_two_pow (n := 32) ha hb))
theorem u8_lt32 (b : UInt8) : b.toNat < 4294967296 := by have := b.toNat_lt; omega
theorem crcByte_inj {c d : Nat} {b : UInt8} (h : crcByte c b = crcByte d b) (hc : c < 4294967296) (hd : d < 4294967296) : c = d := by
  have h2 := crcBits_inj h (Nat.xor_lt_two_pow (n := 32) hc (u8_lt32 b)) (Nat.xor_lt_two_pow (n := 32) hd (u8_lt32 b))
  have : c ^^^ b.toNat ^^^ b.toNat = d ^^^ b.toNat ^^^ b.toNat := by rw [h2]
  rwa [Nat.xor_assoc, Nat.xor_assoc, Nat.xor_self, Nat.xor_zero, Nat.xor_zero] at this
theorem crcL_inj {l : List UInt8} {c d : Nat} (h : crcL c l = crcL d l) (hc : c < 4294967296) (hd : d < 4294967296) : c = d := by
  induction l generalizing c d with
  | nil => exact h
  | cons b l ih => exact crcByte_inj (ih h (crcByte_lt c b hc) (crcByte_lt d b hd)) hc hd
/-- One byte back: where the sums differ by x, they differed by x * 256 and the byte's change ahead of it. -/
theorem crc_back {c d x : Nat} {b e : UInt8} (h : crcByte c b ^^^ crcByte d e = x) (hx : x < 16777216) (hc : c < 4294967296) (hd : d < 4294967296) : c ^^^ d = (256 * x) ^^^ (b.toNat ^^^ e.toNat) := by
  have h1 : crcBits 8 ((c ^^^ b.toNat) ^^^ (d ^^^ e.toNat)) = crcBits 8 (2 ^ 8 * x) := by rw [crcBits_xor, crcBits_shift]; exact h
  have h2 := crcBits_inj h1 (Nat.xor_lt_two_pow (n := 32) (Nat.xor_lt_two_pow (n := 32) hc (u8_lt32 b)) (Nat.xor_lt_two_pow (n := 32) hd (u8_lt32 e))) (by omega)
  have h3 : (c ^^^ d) ^^^ (b.toNat ^^^ e.toNat) = 2 ^ 8 * x := by
    rw [← h2, Nat.xor_assoc, Nat.xor_assoc, ← Nat.xor_assoc d, Nat.xor_comm d b.toNat, Nat.xor_assoc b.toNat]
  rw [show 256 * x = 2 ^ 8 * x from rfl, ← h3, Nat.xor_assoc, Nat.xor_self, Nat.xor_zero]
theorem xor_parts {x y : Nat} {a b : UInt8} (h : (256 * x) ^^^ (a.toNat ^^^ b.toNat) = 256 * y) : a = b ∧ x = y := by
  have hab : a.toNat ^^^ b.toNat < 2 ^ 8 := Nat.xor_lt_two_pow (n := 8) a.toNat_lt b.toNat_lt
  have h1 : ((256 * x) ^^^ (a.toNat ^^^ b.toNat)) % 2 ^ 8 = (256 * y) % 2 ^ 8 := by rw [h]
  rw [Nat.xor_mod_two_pow, Nat.mod_eq_of_lt hab, show 256 * x % 2 ^ 8 = 0 by omega, show 256 * y % 2 ^ 8 = 0 by omega, Nat.zero_xor] at h1
  rw [h1, Nat.xor_zero] at h
  exact ⟨UInt8.toNat_inj.1 (xor_zero_eq h1), by omega⟩
/-- Four bytes at most were changed: the sums tell. -/
theorem crc_burst {c : Nat} (hc : c < 4294967296) {b0 b1 b2 b3 e0 e1 e2 e3 : UInt8} (h : crcByte (crcByte (crcByte (crcByte c b0) b1) b2) b3 = crcByte (crcByte (crcByte (crcByte c e0) e1) e2) e3) : b0 = e0 ∧ b1 = e1 ∧ b2 = e2 ∧ b3 = e3 := by
  have l1 := crcByte_lt c b0 hc
  have m1 := crcByte_lt c e0 hc
  have l2 := crcByte_lt _ b1 l1
  have m2 := crcByte_lt _ e1 m1
  have l3 := crcByte_lt _ b2 l2
  have m3 := crcByte_lt _ e2 m2
  have r3 := crc_back (x := 0) (by rw [h, Nat.xor_self]) (by decide) l3 m3
  have k3 : b3.toNat ^^^ e3.toNat < 256 := Nat.xor_lt_two_pow (n := 8) b3.toNat_lt e3.toNat_lt
  rw [Nat.mul_zero, Nat.zero_xor] at r3
  have r2 := crc_back r3 (by omega) l2 m2
  have k2 : b2.toNat ^^^ e2.toNat < 2 ^ 8 := Nat.xor_lt_two_pow (n := 8) b2.toNat_lt e2.toNat_lt
  have x2 : (256 * (b3.toNat ^^^ e3.toNat)) ^^^ (b2.toNat ^^^ e2.toNat) < 65536 := Nat.xor_lt_two_pow (n := 16) (by omega) (by omega)
  have r1 := crc_back r2 (by omega) l1 m1
  have k1 : b1.toNat ^^^ e1.toNat < 2 ^ 8 := Nat.xor_lt_two_pow (n := 8) b1.toNat_lt e1.toNat_lt
  have x1 : (256 * ((256 * (b3.toNat ^^^ e3.toNat)) ^^^ (b2.toNat ^^^ e2.toNat))) ^^^ (b1.toNat ^^^ e1.toNat) < 16777216 := Nat.xor_lt_two_pow (n := 24) (by omega) (by omega)
  have r0 := crc_back r1 x1 hc hc
  rw [Nat.xor_self] at r0
  obtain ⟨q0, p0⟩ := xor_parts (y := 0) r0.symm
  obtain ⟨q1, p1⟩ := xor_parts (y := 0) p0
  obtain ⟨q2, p2⟩ := xor_parts (y := 0) p1
  exact ⟨q0, q1, q2, UInt8.toNat_inj.1 (xor_zero_eq p2)⟩
/-- Two texts that differ in four bytes in a row at most have the same sum only where they are the same. -/
theorem crc_tell {c : Nat} (hc : c < 4294967296) (pre suf : List UInt8) {b0 b1 b2 b3 e0 e1 e2 e3 : UInt8} (h : crcL c (pre ++ [b0, b1, b2, b3] ++ suf) = crcL c (pre ++ [e0, e1, e2, e3] ++ suf)) : b0 = e0 ∧ b1 = e1 ∧ b2 = e2 ∧ b3 = e3 := by
  have hp := crcL_lt pre c hc
  simp only [crcL, List.foldl_append] at h
  have h2 := crcL_inj (l := suf) h (crcL_lt [b0, b1, b2, b3] _ hp) (crcL_lt [e0, e1, e2, e3] _ hp)
  exact crc_burst hp h2

/-- Texts that are the same but for four bytes in a row. -/
theorem burst_lists {c : Nat} (hc : c < 4294967296) {m m' : List UInt8} (hl : m.length = m'.length) (h4 : m.length ≤ 4) (h : crcL c m = crcL c m') : m = m' := by
  have pad : ∀ t : List UInt8, crcL c (m ++ t) = crcL c (m' ++ t) := fun t => by
    simp only [crcL, List.foldl_append] at h ⊢
    rw [h]
  match m, m', hl, h4 with
  | [], [], _, _ => rfl
  | [a], [b], _, _ => have := crc_tell hc [] [] (pad [0, 0, 0]); simp [this.1]
  | [a, a2], [b, b2], _, _ => have := crc_tell hc [] [] (pad [0, 0]); simp [this.1, this.2.1]
  | [a, a2, a3], [b, b2, b3], _, _ => have := crc_tell hc [] [] (pad [0]); simp [this.1, this.2.1, this.2.2.1]
  | [a, a2, a3, a4], [b, b2, b3, b4], _, _ => have := crc_tell hc [] [] (pad []); simp [this.1, this.2.1, this.2.2.1, this.2.2.2]
theorem crc_same {A B : List UInt8} {k : Nat} (hl : A.length = B.length) (hd : ∀ t, t < k ∨ k + 4 ≤ t → A[t]? = B[t]?) (h : crcN A = crcN B) : A = B := by
  have hp : A.take k = B.take k := by
    apply List.ext_getElem?
    intro t
    simp only [List.getElem?_take]
    by_cases e : t < k
    · rw [if_pos e, if_pos e]; exact hd t (.inl e)
    · rw [if_neg e, if_neg e]
  have hs : A.drop (k + 4) = B.drop (k + 4) := by
    apply List.ext_getElem?
    intro t
    simp only [List.getElem?_drop]
    exact hd _ (.inr (by omega))
  have eA : A = A.take k ++ ((A.drop k).take 4 ++ A.drop (k + 4)) := by
    rw [← List.drop_drop, List.take_append_drop, List.take_append_drop]
  have eB : B = A.take k ++ ((B.drop k).take 4 ++ A.drop (k + 4)) := by
    rw [hp, hs, ← List.drop_drop, List.take_append_drop, List.take_append_drop]
  have h2 : crcL 4294967295 A = crcL 4294967295 B := h
  rw [eA, eB] at h2
  simp only [crcL, List.foldl_append] at h2
  have hc0 : crcL 4294967295 (A.take k) < 4294967296 := crcL_lt _ _ (by decide)
  have h3 := crcL_inj (l := A.drop (k + 4)) h2 (crcL_lt _ _ hc0) (crcL_lt _ _ hc0)
  have h4 := burst_lists (m := (A.drop k).take 4) (m' := (B.drop k).take 4) hc0 (by simp [hl]) (by simp; omega) h3
  rw [eA, eB, h4]
/-- A row of bytes in a block of its own (what []byte(s) makes). -/
def BRow (w : World) (g : Nat) (l : List UInt8) : Prop :=
  ∃ (cs : Array Value) (fz : Nat × Nat), w.heap[g]? = some (.cells cs 5 fz) ∧ l.length ≤ cs.size ∧ cs.size ≤ fz.1 ∧ ∀ j, j < l.length → cs[j]? = some (.int .u8 ((l.getD j 0).toNat : Int))
theorem BRow.lt {w : World} {g : Nat} {l : List UInt8} (h : BRow w g l) : g < w.heap.size := by
  obtain ⟨cs, fz, hh, _⟩ := h; exact (Array.getElem?_eq_some_iff.1 hh).1
theorem BRow.cell {w : World} {g : Nat} {l : List UInt8} (h : BRow w g l) {j : Nat} (hj : j < l.length) : w.cell? ⟨g, j, none⟩ = some (.int .u8 ((l.getD j 0).toNat : Int)) := by
  obtain ⟨cs, fz, hh, h1, h2, h3⟩ := h
  rw [cell_of_row _ _ _ _ _ _ hh]; exact h3 j hj
theorem BRow.frozen {w : World} {g : Nat} {l : List UInt8} (h : BRow w g l) {j : Nat} (hj : j < l.length) : w.frozen? ⟨g, j, none⟩ = false := by
  obtain ⟨cs, fz, hh, h1, h2, h3⟩ := h
  simp only [World.frozen?, hh]
  simp; omega
theorem BRow.set {w : World} {g : Nat} {l : List UInt8} (h : BRow w g l) (j : Nat) (b : UInt8) : BRow (w.setCell ⟨g, j, none⟩ (.int .u8 (b.toNat : Int))) g (l.set j b) := by
  obtain ⟨cs, fz, hh, h1, h2, h3⟩ := h
  refine ⟨cs.setIfInBounds j (.int .u8 (b.toNat : Int)), fz, by simp [World.setCell, Array.getElem?_modify, hh], by simpa using h1, by simpa using h2, fun i hi => ?_⟩
  rw [List.length_set] at hi
  rw [Array.getElem?_setIfInBounds]
  by_cases e : j = i
  · subst e
    rw [if_pos rfl, if_pos (by omega)]
    simp [List.getD, hi]
  · rw [if_neg e, h3 i hi]
    simp [List.getD, e]
theorem xor_u8 (a b : UInt8) : bits .xor .u8 (a.toNat : Int) (b.toNat : Int) = ((a ^^^ b).toNat : Int) := by
  have hx : a.toNat ^^^ b.toNat < 2 ^ 8 := Nat.xor_lt_two_pow a.toNat_lt b.toNat_lt
  have ha := a.toNat_lt
  have hb := b.toNat_lt
  rw [UInt8.toNat_xor]
  show IntKind.u8.wrap ((BitVec.ofInt 8 (a.toNat : Int) ^^^ BitVec.ofInt 8 (b.toNat : Int)).toNat : Int) = _
  rw [BitVec.toNat_xor, BitVec.ofInt_natCast, BitVec.ofInt_natCast, BitVec.toNat_ofNat, BitVec.toNat_ofNat, Nat.mod_eq_of_lt ha, Nat.mod_eq_of_lt hb]
  show ((a.toNat ^^^ b.toNat : Nat) : Int) % 256 = _
  omega
theorem step_eq {C L : List UInt8} {p : Nat} {m b : UInt8} (hp : p < C.length) (he : C[p]? = L[p]?) (hb : b = C.getD p 0) : C.set p (b ^^^ m) = L ↔ (C = L ∧ m = 0) := by
  have hc : C[p]? = some b := by rw [hb]; simp [List.getD, hp]
  constructor
  · intro h
    have h1 : (C.set p (b ^^^ m))[p]? = some b := by rw [h, ← he, hc]
    rw [List.getElem?_set_self hp] at h1
    have h2 : b ^^^ m = b := by simpa using h1
    have h3 : m = 0 := by
      have : b ^^^ (b ^^^ m) = b ^^^ b := by rw [h2]
      rw [← UInt8.xor_assoc, UInt8.xor_self, UInt8.zero_xor] at this
      exact this
    refine ⟨?_, h3⟩
    rw [h2] at h
    rw [← h]
    apply List.ext_getElem?
    intro t
    by_cases e : p = t
    · subst e; rw [List.getElem?_set_self hp, hc]
    · rw [List.getElem?_set_ne e]
  · rintro ⟨h1, h2⟩
    rw [h2, UInt8.xor_zero, ← h1]
    apply List.ext_getElem?
    intro t
    by_cases e : p = t
    · subst e; rw [List.getElem?_set_self hp, hc]
    · rw [List.getElem?_set_ne e]
/-- The first j bytes from k on have been turned. -/
structure SInv (w wr : World) (g k N : Nat) (L C : List UInt8) (j : Nat) (b : Bool) : Prop where
  row : BRow wr g C
  len : C.length = N
  out : ∀ t, t < k ∨ k + j ≤ t → C[t]? = L[t]?
  ch : b = decide (C ≠ L)
  bel : Below w.heap.size w wr
theorem SInv.step {w wr : World} {g k N : Nat} {L C : List UInt8} {j : Nat} {b : Bool} {m b0 : UInt8} (h : SInv w wr g k N L C j b) (hj : k + j < N) (hb0 : b0 = C.getD (k + j) 0) (hg : w.heap.size ≤ g) : SInv w (wr.setCell ⟨g, k + j, none⟩ (.int .u8 ((b0 ^^^ m).toNat : Int))) g k N L (C.set (k + j) (b0 ^^^ m)) (j + 1) (b || decide (m ≠ 0)) := by
  have hp : k + j < C.length := by rw [h.len]; exact hj
  have he := h.out (k + j) (.inr (Nat.le_refl _))
  refine ⟨h.row.set _ _, by rw [List.length_set, h.len], fun t ht => ?_, ?_, h.bel.setCell (by exact hg) _⟩
  · rw [List.getElem?_set_ne (by omega)]
    exact h.out t (by omega)
  · rw [h.ch]
    have := step_eq (m := m) hp he hb0
    have h5 : (C.set (k + j) (b0 ^^^ m) ≠ L) ↔ ¬ (C = L ∧ m = 0) := not_congr this
    rw [show decide (C.set (k + j) (b0 ^^^ m) ≠ L) = decide (¬ (C = L ∧ m = 0)) from decide_eq_decide.2 h5]
    by_cases e1 : C = L <;> by_cases e2 : m = 0 <;> simp [e1, e2]
theorem bytes_made (w : World) (s : ByteArray) (hs : s.size ≤ 1000) : ∃ g c w2, (convert 9 22 (.string s)).run Try.prog w = .ok (.slice (some ⟨g, 0, none⟩) s.size c) w2 ∧ BRow w2 g s.data.toList ∧ w.heap.size ≤ g ∧ s.size ≤ c ∧ c ≤ maxLen ∧ Below w.heap.size w w2 := by
  have hr := run_bytes_of_string (P := Try.prog) w 9 22 5 s Try.underlying9 Try.underlying22 Try.underlying5
  have hge := grownCap_ge w s.size 0 5
  have hle := grownCap_le_maxLen w s.size 0 5 (by unfold maxLen; omega)
  have hsz : (bytesRow s (grownCap w s.size 0 5)).size = grownCap w s.size 0 5 := by
    have e : s.data.size = s.size := rfl
    simp [bytesRow, e]; omega
  refine ⟨_, _, _, hr, ⟨_, _, heap_alloc_last _ _, ?_, Nat.le_refl _, fun j hj => ?_⟩, Nat.le_refl _, hge, hle, ?_⟩
  · rw [hsz]; have e : s.data.toList.length = s.size := by simp
    omega
  · have hj2 : j < s.data.size := by simpa using hj
    unfold bytesRow
    rw [Array.getElem?_append_left (by simpa using hj2)]
    have e1 : s.data[j]? = some s.data[j] := Array.getElem?_eq_getElem hj2
    simp [List.getD, e1]
  · exact ((Below.refl w.heap.size w).drew).alloc (Nat.le_refl _) _
set_option maxRecDepth 100000 in
set_option maxHeartbeats 3200000 in
theorem fnSums_core (A : Option Addr) (n c : Nat) (zs : List Int) (w : World) (hn : n = zs.length) (hz : n ≤ 1048576) (hr : RdB .u8 w A zs w.heap.size) (hwf : ∀ x ∈ zs, (Lit.int .u8 x).wf = true) :
    Calls Try.prog 3 #[.slice A n c] w fun e w' => e = .returned (.bool true) ∧ Below w.heap.size w w' := by
  have HN := hide hn
  have HR := hide hr
  have HZ := hide hz
  have HW := hide hwf
  have hz1 : ¬ (1048576 : Int) < (n : Int) := by omega
  clear hn hr hz hwf
  go_enter Try.func3, Try.ntmps3
  go_wp2_with (first | (go_at_call 4; go_in))
  refine (drawHex_any _ _ _ zs _ HN.out (by have := HZ.out; omega) HR.out).mono ?_
  rintro e w1 ⟨⟨s, rfl, hs⟩, hb1⟩
  have HB := hide hb1
  clear hb1
  go_upto_region 4 with (fail)
  obtain ⟨S, hS⟩ : ∃ S : ByteArray, S = ⟨#[120]⟩ ++ s := ⟨_, rfl⟩
  rw [← hS]
  have hS1 : S.size = s.size + 1 := by rw [hS, ByteArray.size_append]; show 1 + s.size = _; omega
  have hN1 : 1 ≤ S.size := by omega
  have hN2 : S.size ≤ 41 := by omega
  clear hS hS1 hs
  obtain ⟨g, cap, w2, hcv, hB, hg, hc1, hc2, hb⟩ := bytes_made w1 S (by omega)
  have HB2 := hide (HB.out.trans (hb.mono HB.out.size))
  have HBR := hide hB
  have HG : Hid (w.heap.size ≤ g) := hide (Nat.le_trans HB.out.size hg)
  obtain ⟨N, hN⟩ : ∃ N, N = S.size := ⟨_, rfl⟩
  have HNS := hide hN
  rw [← hN] at hcv hN1 hN2 hc1
  have hNi : (1 : Int) ≤ (N : Int) := by omega
  have hNj : (N : Int) ≤ 41 := by omega
  clear hB hb hN hg
  go_wp2_with fail
  clear hcv
  refine (at_any A n c zs 0 w2 HN.out (by have := HZ.out; omega) (by omega) (by omega) ((HR.out.below HB2.out (Nat.le_refl _)).more HB2.out.size) HW.out).mono ?_
  rintro e wq ⟨⟨x, rfl, hx0, hx1⟩, rfl⟩
  have hk0 : 0 ≤ x % (N : Int) := Int.emod_nonneg x (by omega)
  have hk1 : x % (N : Int) < (N : Int) := Int.emod_lt_of_pos x (by omega)
  have hnz : ¬ (N : Int) = 0 := by omega
  obtain ⟨k, hk⟩ := Int.eq_ofNat_of_zero_le hk0
  have HK := hide hk
  have hkN : k < N := by omega
  clear hk
  go_wp2_with fail
  rw [HK.out]
  obtain ⟨L, hL⟩ : ∃ L, L = S.data.toList := ⟨_, rfl⟩
  have hLN : L.length = N := by rw [hL, HNS.out]; simp
  have HS0 : Hid (SInv w w2 g k N L L 0 false) := hide ⟨by rw [hL]; exact HBR.out, hLN, fun t _ => rfl, by simp, HB2.out⟩
  have HLL := hide hL
  have HLN := hide hLN
  clear hL hLN HBR HB2 hk0 hk1 HK
  go_loopg [6, 7] 5 (fun gg ch i wo => ∃ wr : World, wr = wo ∧ ∃ (j : Nat) (C : List UInt8) (b : Bool), j ≤ 4 ∧ gg = 5 - j ∧ i = .int .i64 j ∧ ch = .bool b ∧ SInv w wr g k N L C j b)
  case atStart => exact ⟨_, rfl, 0, L, false, by omega, rfl, rfl, rfl, HS0.out⟩
  case round =>
    obtain ⟨wr, rfl, j, C, b, hj, hgg, rfl, rfl, hS⟩ := hrel
    have HGG := hide hgg
    have HS := hide hS
    clear hgg hS HS0
    by_cases hgo : j < 4 ∧ k + j < N
    · obtain ⟨hj4, hkj⟩ := hgo
      have hji : (j : Int) < 4 := by omega
      have hkji : (k : Int) + (j : Int) < (N : Int) := by omega
      have hkjc : k + j < cap := by omega
      go_wp2_with fail
      refine (at_any A n c zs ((j : Int) + 1) wr HN.out (by have := HZ.out; omega) (by omega) (by omega) ((HR.out.below HS.out.bel (Nat.le_refl _)).more HS.out.bel.size) HW.out).mono ?_
      rintro e wq ⟨⟨y, rfl, hy0, hy1⟩, rfl⟩
      obtain ⟨m, hm⟩ : ∃ m : UInt8, y = (m.toNat : Int) := ⟨UInt8.ofNat y.toNat, by simp; omega⟩
      subst hm
      have hcell := HS.out.row.cell (j := k + j) (by rw [HS.out.len]; exact hkj)
      have hfz := HS.out.row.frozen (j := k + j) (by rw [HS.out.len]; exact hkj)
      obtain ⟨b0, hb0⟩ : ∃ b0, b0 = C.getD (k + j) 0 := ⟨_, rfl⟩
      rw [← hb0] at hcell
      have hx : bits .xor .u8 (b0.toNat : Int) (m.toNat : Int) = ((b0 ^^^ m).toNat : Int) := xor_u8 b0 m
      have HB0 := hide hb0
      have HST := HS.out.step hkj (m := m) HB0.out HG.out
      have HST := hide HST
      clear hb0
      cases b
      · by_cases hm0 : m = 0
        · have e0 : ((m.toNat : Int) != 0) = false := by rw [hm0]; rfl
          have HM : Hid ((false || decide (m ≠ 0)) = false) := hide (by simp [hm0])
          clear hm0
          go_wp2
          go_roundg (5 - (j + 1))
          case measure => have := HGG.out; omega
          case rel => exact ⟨_, rfl, j + 1, _, false, by omega, rfl, by go_num, rfl, by have := HST.out; rwa [HM.out] at this⟩
        · have e0 : ((m.toNat : Int) != 0) = true := by
            rw [bne_iff_ne]
            intro e
            exact hm0 (UInt8.toNat_inj.1 (by have : m.toNat = 0 := by omega
                                             rw [this]; rfl))
          have HM : Hid ((false || decide (m ≠ 0)) = true) := hide (by simp [hm0])
          clear hm0
          go_wp2
          go_roundg (5 - (j + 1))
          case measure => have := HGG.out; omega
          case rel => exact ⟨_, rfl, j + 1, _, true, by omega, rfl, by go_num, rfl, by have := HST.out; rwa [HM.out] at this⟩
      · have HM : Hid ((true || decide (m ≠ 0)) = true) := hide rfl
        go_wp2
        go_roundg (5 - (j + 1))
        case measure => have := HGG.out; omega
        case rel => exact ⟨_, rfl, j + 1, _, true, by omega, rfl, by go_num, rfl, by have := HST.out; rwa [HM.out] at this⟩
    · have hT := strOf (P := Try.prog) 22 9 5 Try.underlying22 Try.underlying5 Try.underlying9
      obtain ⟨T, hT0⟩ : ∃ T : ByteArray, T = ⟨C.toArray⟩ := ⟨_, rfl⟩
      have hcv : ∀ q, (convert 22 9 (.slice (some ⟨g, 0, none⟩) N cap)).run Try.prog (wr.drewN q) = .ok (.string T) (wr.drewN q) := fun q => by
        rw [hT0]
        exact hT (wr.drewN q) g N cap C HS.out.len.symm (fun i hi => HS.out.row.cell hi)
      have hTl : T.data.toList = C := by rw [hT0]
      obtain ⟨X, hX⟩ : ∃ X : Int, X = ((4294967295 - crcN L : Nat) : Int) := ⟨_, rfl⟩
      obtain ⟨Y, hY⟩ : ∃ Y : Int, Y = ((4294967295 - crcN C : Nat) : Int) := ⟨_, rfl⟩
      have hX0 : 0 ≤ X := by omega
      have hX1 : X ≤ 4294967295 := by omega
      have hd : ((X != Y) == b) = true := by
        have hiff : (X = Y) ↔ C = L := by
          constructor
          · intro e
            have h1 := crcN_lt L
            have h2 := crcN_lt C
            have h3 : crcN C = crcN L := by omega
            exact crc_same (k := k) (by rw [HS.out.len, HLN.out]) (fun t ht => HS.out.out t (by omega)) h3
          · intro e; rw [hX, hY, e]
        rw [HS.out.ch]
        by_cases e : C = L
        · rw [hiff.2 e]; simp [e]
        · have e2 : X ≠ Y := fun h => e (hiff.1 h)
          have e3 : (X != Y) = true := by rw [bne_iff_ne]; exact e2
          rw [e3]; simp [e]
      have hSz : S.size ≤ 9223372036854775807 := by have := HNS.out; omega
      have hTz : T.size ≤ 9223372036854775807 := by
        have h1 : T.size = C.length := by rw [hT0]; show C.toArray.size = _; simp
        have := HS.out.len
        omega
      have K1 : Hid (∀ W : World, Calls Try.prog 7 #[.string S] W fun e w' => e = .returned (.int .i64 X) ∧ w' = W) := hide (fun W => (implCrc_any S W hSz).mono fun e w' h => ⟨by rw [h.1, hX, HLL.out], h.2.symm⟩)
      have K2 : Hid (∀ W : World, Calls Try.prog 8 #[.string S] W fun e w' => e = .returned (.int .i64 X) ∧ w' = W) := hide (fun W => (specCrc_any S W hSz).mono fun e w' h => ⟨by rw [h.1, hX, HLL.out], h.2.symm⟩)
      have K3 : Hid (∀ W : World, Calls Try.prog 7 #[.string T] W fun e w' => e = .returned (.int .i64 Y) ∧ w' = W) := hide (fun W => (implCrc_any T W hTz).mono fun e w' h => ⟨by rw [h.1, hY, hTl], h.2.symm⟩)
      have K4 : Hid (∀ W : World, Calls Try.prog 8 #[.string T] W fun e w' => e = .returned (.int .i64 Y) ∧ w' = W) := hide (fun W => (specCrc_any T W hTz).mono fun e w' h => ⟨by rw [h.1, hY, hTl], h.2.symm⟩)
      have HBF := hide HS.out.bel
      have HD := hide hd
      clear hT hT0 hTl hX hY hSz hTz hd
      have hout : decide ((j : Int) < 4) = false ∨ ((j : Int) < 4 ∧ ¬ (k : Int) + (j : Int) < (N : Int)) := by
        by_cases h : j < 4
        · exact .inr ⟨by omega, by omega⟩
        · exact .inl (by simp; omega)
      clear hgo
      rcases hout with ho | ⟨ho1, ho2⟩
      all_goals
        go_wp2_with fail
        refine (K1.out _).mono ?_
        rintro e w' ⟨rfl, hw⟩
        obtain rfl := hw.symm
        have hd := HD.out
        go_wp2_with fail
        go_quiet (first | (go_at_call 7; exact Calls.quiet_of_same (K3.out _)) | (go_at_call 8; first | (with_reducible exact Calls.quiet_of_same (K2.out _)) | (with_reducible exact Calls.quiet_of_same (K4.out _))))
        go_wp2
        go_ret
        exact ⟨rfl, HBF.out.trans ⟨rfl, rfl, rfl, Nat.le_refl _, fun _ _ => rfl⟩⟩
theorem fnSums_walk (A : Option Addr) (n c : Nat) (zs : List Int) (w : World) (h : Sl .u8 w A n c zs) : Calls Try.prog 3 #[.slice A n c] w fun e w' => e = .returned (.bool true) ∧ Below w.heap.size w w' := by
  obtain ⟨hn, _, hm, hr, hwf⟩ := h
  by_cases hz : n ≤ 1048576
  · exact fnSums_core A n c zs w hn hz hr hwf
  · have hz1 : (1048576 : Int) < (n : Int) := by omega
    clear hn hr hz hwf
    go_enter Try.func3, Try.ntmps3
    go_wp2
    go_ret
    exact ⟨rfl, Below.refl _ _⟩
end Go.Proofs.Ythgnhdnedenbfab
