/-
  GenIn: the number that lies at a slot's place. The contracts and the walk of FnExactGenIn.
-/
import Derived.Test.YtdhocncfpapncacClassAt
namespace Go.Proofs.Ytdhocncfpapncac
open Go.RowKit
set_option linter.unusedVariables false

def ldR (zs : List Int) (off : Nat) : Nat → Int
  | 0 => 0
  | k + 1 => ldR zs off k * 256 + zs.getD (off + k) 0
theorem bok_byte {zs : List Int} (h : bokR zs = true) (j : Nat) (hj : j < zs.length) : 0 ≤ zs.getD j 0 ∧ zs.getD j 0 ≤ 255 := by
  unfold bokR at h
  rw [Bool.and_eq_true, List.all_eq_true] at h
  have := h.1 zs[j] (List.getElem_mem _)
  have e : zs.getD j 0 = zs[j] := by simp [List.getD, hj]
  rw [e]
  simpa [isB] using this
theorem ldR_bd {zs : List Int} (h : bokR zs = true) (off k : Nat) (hk : off + k ≤ zs.length) : 0 ≤ ldR zs off k ∧ ldR zs off k < 256 ^ k := by
  induction k with
  | zero => simp [ldR]
  | succ k ih =>
    have h1 := ih (by omega)
    have h2 := bok_byte h (off + k) (by omega)
    rw [Int.pow_succ]
    simp only [ldR]
    omega
theorem ldR_le {zs : List Int} (h : bokR zs = true) (off k : Nat) (h7 : k ≤ 6) (hk : off + k ≤ zs.length) : 0 ≤ ldR zs off k ∧ ldR zs off k ≤ 281474976710656 := by
  have h1 := ldR_bd h off k hk
  have h2 : (256 : Int) ^ k ≤ 281474976710656 := by
    have : k = 0 ∨ k = 1 ∨ k = 2 ∨ k = 3 ∨ k = 4 ∨ k = 5 ∨ k = 6 := by omega
    rcases this with rfl | rfl | rfl | rfl | rfl | rfl | rfl <;> decide
  omega
set_option maxRecDepth 100000 in
set_option maxHeartbeats 800000 in
theorem l3Load_any (A : Option Addr) (n c : Nat) (zs : List Int) (U : Nat) (off m : Nat) (w : World) (hn : n = zs.length) (hz : n ≤ 1000) (hc : n ≤ c) (hcm : c ≤ maxLen) (ha : RdB .i64 w A zs U) (h1 : 1 ≤ m) (h7 : m ≤ 7) (hom : off + m ≤ n) (hbk : bokR zs = true) :
    Calls Try.prog 50 #[.slice A n c, .int .i64 (off : Int), .int .i64 (m : Int)] w fun e w' => e = .returned (.int .i64 (ldR zs off m)) ∧ w = w' := by
  have HN := hide hn
  have HA := hide ha
  have HK := hide hbk
  have q1 : (n : Int) ≤ 1000 := by omega
  have q2 : (m : Int) ≤ 7 := by omega
  have q3 : (off : Int) + (m : Int) ≤ (n : Int) := by omega
  have q4 : (n : Int) ≤ (c : Int) := by omega
  have q5 : (0 : Int) ≤ (off : Int) := by omega
  have q6 : (off : Int) ≤ (off : Int) + (m : Int) := by omega
  have q7 : (off : Int) + (m : Int) ≤ (c : Int) := by omega
  have q8 : (0 : Int) ≤ (off : Int) + (m : Int) := by omega
  obtain ⟨b, o, rfl, hb0, _⟩ := ha off (by omega)
  clear ha hn hbk
  go_enter Try.func50, Try.ntmps50
  go_wp2
  try simp only [Nat.add_sub_cancel_left]
  go_loopg [7, 8] (m + 1) (fun g s i wr => wr = w ∧ ∃ k : Nat, k ≤ m ∧ g = m + 1 - k ∧ i = .int .i64 k ∧ s = .int .i64 (ldR zs off k))
  case atStart => exact ⟨rfl, 0, Nat.zero_le _, rfl, rfl, rfl⟩
  case round =>
    obtain ⟨rfl, k, hk, hg, rfl, rfl⟩ := hrel
    have HG := hide hg
    clear hg
    by_cases hlt : k < m
    · have hi : (k : Int) < (m : Int) := by omega
      obtain ⟨b', o', e', hb, hc0⟩ := HA.out (off + k) (by have := HN.out; omega)
      injection e' with e'
      injection e' with e1 e2
      subst e1 e2
      have hbd := ldR_le HK.out off k (by omega) (by have := HN.out; omega)
      have hby := bok_byte HK.out (off + k) (by have := HN.out; omega)
      have hst : ldR zs off (k + 1) = ldR zs off k * 256 + zs.getD (off + k) 0 := rfl
      have HST := hide hst
      clear hst
      obtain ⟨t1, t2⟩ := hbd
      obtain ⟨t3, t4⟩ := hby
      generalize ldR zs off k = s at *
      generalize zs.getD (off + k) 0 = x at *
      have q9 : (off : Int) + (k : Int) < (n : Int) := by omega
      have q10 : (0 : Int) ≤ (off : Int) + (k : Int) := by omega
      have hc1 : wr.cell? ⟨b, o + off + k, none⟩ = some (.int .i64 x) := by rw [Nat.add_assoc]; exact hc0
      go_wp2
      go_roundg (m + 1 - (k + 1))
      case measure => have := HG.out; omega
      case rel => exact ⟨rfl, k + 1, by omega, rfl, by go_num, by rw [HST.out]; first | rfl | (done) | (congr 1; omega)⟩
    · have hi : ¬ (k : Int) < (m : Int) := by omega
      have hkm : k = m := by omega
      subst hkm
      go_wp2
      go_ret
      exact ⟨rfl, rfl⟩

set_option maxRecDepth 100000 in
set_option maxHeartbeats 800000 in
theorem loadNum_any (A : Option Addr) (n c : Nat) (zs : List Int) (U : Nat) (off m : Nat) (w : World) (hn : n = zs.length) (hz : n ≤ 1000) (hc : n ≤ c) (hcm : c ≤ maxLen) (ha : RdB .i64 w A zs U) (h1 : 1 ≤ m) (h7 : m ≤ 7) (hom : off + m ≤ n) (hbk : bokR zs = true) :
    Calls Try.prog 39 #[.slice A n c, .int .i64 (off : Int), .int .i64 (m : Int)] w fun e w' => e = .returned (.int .i64 (ldR zs off m)) ∧ w = w' := by
  have HN := hide hn
  have HA := hide ha
  have HK := hide hbk
  have q1 : (n : Int) ≤ 1000 := by omega
  have q2 : (m : Int) ≤ 7 := by omega
  have q3 : (off : Int) + (m : Int) ≤ (n : Int) := by omega
  have q4 : (n : Int) ≤ (c : Int) := by omega
  have q5 : (0 : Int) ≤ (off : Int) := by omega
  have q6 : (off : Int) ≤ (off : Int) + (m : Int) := by omega
  have q7 : (off : Int) + (m : Int) ≤ (c : Int) := by omega
  have q8 : (0 : Int) ≤ (off : Int) + (m : Int) := by omega
  obtain ⟨b, o, rfl, hb0, _⟩ := ha off (by omega)
  clear ha hn hbk
  go_enter Try.func39, Try.ntmps39
  go_wp2
  try simp only [Nat.add_sub_cancel_left]
  go_loopg [7, 9, 17] (m + 1) (fun g s _x i wr => wr = w ∧ ∃ k : Nat, k ≤ m ∧ g = m + 1 - k ∧ i = .int .i64 k ∧ s = .int .i64 (ldR zs off k))
  case atStart => exact ⟨rfl, 0, Nat.zero_le _, rfl, rfl, rfl⟩
  case round =>
    obtain ⟨rfl, k, hk, hg, rfl, rfl⟩ := hrel
    have HG := hide hg
    clear hg
    by_cases hlt : k < m
    · have hi : (k : Int) < (m : Int) := by omega
      obtain ⟨b', o', e', hb, hc0⟩ := HA.out (off + k) (by have := HN.out; omega)
      injection e' with e'
      injection e' with e1 e2
      subst e1 e2
      have hbd := ldR_le HK.out off k (by omega) (by have := HN.out; omega)
      have hby := bok_byte HK.out (off + k) (by have := HN.out; omega)
      have hst : ldR zs off (k + 1) = ldR zs off k * 256 + zs.getD (off + k) 0 := rfl
      have HST := hide hst
      clear hst
      obtain ⟨t1, t2⟩ := hbd
      obtain ⟨t3, t4⟩ := hby
      generalize ldR zs off k = s at *
      generalize zs.getD (off + k) 0 = x at *
      have q9 : (off : Int) + (k : Int) < (n : Int) := by omega
      have q10 : (0 : Int) ≤ (off : Int) + (k : Int) := by omega
      have hc1 : wr.cell? ⟨b, o + off + k, none⟩ = some (.int .i64 x) := by rw [Nat.add_assoc]; exact hc0
      go_wp2
      go_roundg (m + 1 - (k + 1))
      case measure => have := HG.out; omega
      case rel => exact ⟨rfl, k + 1, by omega, rfl, by go_num, by rw [HST.out]; first | rfl | (done) | (congr 1; omega)⟩
    · have hi : ¬ (k : Int) < (m : Int) := by omega
      have hkm : k = m := by omega
      subst hkm
      go_wp2
      go_ret
      exact ⟨rfl, rfl⟩


def genInR (x y : List Int) (i : Int) : Int := if classAtR x y i < 0 then 0 else ldR x (genAtC i (classAtR x y i)).toNat 4

theorem specGenAt_as {i c : Int} {r : Nat} (h : genAtC i c = r) (w : World) : Calls Try.prog 51 #[.int .i64 i, .int .i64 c] w fun e w' => e = .returned (.int .i64 (r : Int)) ∧ w = w' := (specGenAt_any i c w).mono fun e w' k => ⟨by rw [k.1, h], k.2⟩
theorem implGenAt_as {i c : Int} {r : Nat} (h : genAtC i c = r) (w : World) : Calls Try.prog 29 #[.int .i64 i, .int .i64 c] w fun e w' => e = .returned (.int .i64 (r : Int)) ∧ w' = w := (implGenAt_any i c w).mono fun e w' k => ⟨by rw [k.1, h], k.2.symm⟩
theorem specClass_as {A A' : Option Addr} {n c c' : Nat} {y : List Int} {i v : Int} {w : World} (hn' : 6 = y.length) (ha' : RdB .i64 w A' y w.heap.size) (h : clR y i = v) :
    Calls Try.prog 38 #[.agg #[.slice A n c, .slice A' 6 c'], .int .i64 i] w fun e w' => e = .returned (.int .i64 v) ∧ Below w.heap.size w w' := (specClass_any A A' n c c' y i w hn' ha').mono fun e w' k => ⟨by rw [k.1, h], k.2⟩

theorem RdB.drewN {k : IntKind} {w : World} {A : Option Addr} {z : List Int} {B : Nat} (h : RdB k w A z B) (n : Nat) : RdB k (w.drewN n) A z B := h
theorem keep21 {wK W W' : World} {p q : Addr} {u0 u1 : Value} (hp : p.block < wK.heap.size) (hq : q.block < wK.heap.size)
    (hb : Below W.heap.size W W') (h : (W.cell? p = some u0 ∧ W.cell? q = some u1) ∧ Below wK.heap.size wK W) :
    (W'.cell? p = some u0 ∧ W'.cell? q = some u1) ∧ Below wK.heap.size wK W' := by
  have hz := h.2.size
  obtain ⟨⟨h0, h1⟩, hB⟩ := h
  exact ⟨⟨by rw [hb.cell (by omega)]; exact h0, by rw [hb.cell (by omega)]; exact h1⟩, hB.trans (hb.mono hz)⟩
/-- Where the class is there, the shape holds and the place lies inside. -/
theorem genIn_parts {x y : List Int} {i v : Int} (h : classAtR x y i = v) (h0 : 0 ≤ v) : bokR x = true ∧ 384 = x.length ∧ 6 = y.length ∧ clR y i = v ∧ ∃ r : Nat, genAtC i v = r ∧ r + 4 ≤ 384 := by
  unfold classAtR at h
  cases hs : shapeR x y
  · rw [hs] at h; simp at h; omega
  · rw [hs] at h
    simp only [if_true] at h
    unfold shapeR at hs
    simp only [Bool.and_eq_true, decide_eq_true_eq] at hs
    refine ⟨hs.1.1.2, hs.1.1.1.symm, hs.1.2.symm, h, ?_⟩
    have hg := genAtC_bd i v
    have : ¬ (i < 0 ∨ 24 ≤ i ∨ perC v ≤ i % 4) := by
      intro hh
      unfold clR at h
      by_cases hc : 0 ≤ i ∧ i ≤ 23 ∧ i % 4 < perC (y.getD (i / 4).toNat 0)
      · rw [if_pos hc] at h; rw [h] at hc; omega
      · rw [if_neg hc] at h; omega
    have hz := sizeC_bd v
    exact ⟨(genAtC i v).toNat, by omega, by omega⟩

set_option maxRecDepth 100000 in
set_option maxHeartbeats 1600000 in
theorem implGenIn_any (A A' : Option Addr) (n c n' c' : Nat) (x y : List Int) (i : Int) (w : World) (hn : n = x.length) (hn' : n' = y.length) (hz : n ≤ 1048576) (hz' : n' ≤ 1048576) (hc : n ≤ c) (hcm : c ≤ maxLen) (ha : RdB .i64 w A x w.heap.size) (ha' : RdB .i64 w A' y w.heap.size) :
    Calls Try.prog 16 #[.agg #[.slice A n c, .slice A' n' c'], .int .i64 i] w fun e w' => e = .returned (.int .i64 (genInR x y i)) ∧ Below w.heap.size w w' := by
  have hb0 : Below w.heap.size w (w.alloc (.cells #[.slice A n c, .slice A' n' c'] 26)) := (Below.refl _ _).alloc (Nat.le_refl _) _
  have HB := hide hb0
  have HN := hide hn
  have HN' := hide hn'
  have HA := hide ((ha.below hb0 (Nat.le_refl _)).more hb0.size)
  have HA' := hide ((ha'.below hb0 (Nat.le_refl _)).more hb0.size)
  clear hn hn' ha ha' hb0
  go_enter Try.func16, Try.ntmps16
  go_wp2_with fail
  refine (implClassAt_any _ _ _ _ _ _ x y i _ HN.out HN'.out hz hz' HA.out HA'.out).mono ?_
  rintro e w1 ⟨rfl, hb⟩
  have k0 : w1.cell? ⟨w.heap.size, 0, none⟩ = some (.slice A n c) := by rw [hb.cell (by simp <;> omega)]; go_simp
  have k1 : w1.cell? ⟨w.heap.size, 1, none⟩ = some (.slice A' n' c') := by rw [hb.cell (by simp <;> omega)]; go_simp
  have HA1 := hide ((HA.out.below hb (Nat.le_refl _)).more hb.size)
  have HA1' := hide ((HA'.out.below hb (Nat.le_refl _)).more hb.size)
  have HB1 := hide (HB.out.trans (hb.mono HB.out.size))
  clear hb
  obtain ⟨v, hv⟩ : ∃ v, v = classAtR x y i := ⟨_, rfl⟩
  rw [← hv]
  have HV := hide hv
  clear hv
  by_cases hv0 : v < 0
  · have HX : Hid (genInR x y i = 0) := hide (by unfold genInR; rw [← HV.out, if_pos hv0])
    go_wp2
    go_ret
    exact ⟨retI HX.out.symm, HB1.out⟩
  · obtain ⟨hbk, h384, h6, hcl, r, hg, hr⟩ := genIn_parts HV.out.symm (by omega)
    have HX : Hid (genInR x y i = ldR x r 4) := hide (by unfold genInR; rw [← HV.out, if_neg hv0, hg]; simp)
    have e6 : n' = 6 := by have := HN'.out; omega
    have e384 : n = 384 := by have := HN.out; omega
    subst e6 e384
    have HBK := hide hbk
    have HCL := hide hcl
    have HG := hide hg
    clear hbk h384 h6 hcl hg
    go_wp2_with fail
    go_quiet (first | (go_at_call 29; exact Calls.quiet_of_same (implGenAt_as HG.out _)) | (go_at_call 39; exact Calls.quiet_of_same ((loadNum_any _ _ _ x w1.heap.size r 4 _ HN.out (by omega) hc hcm (HA1.out.drewN _) (by omega) (by omega) hr HBK.out).mono fun e w' k => ⟨k.1, k.2.symm⟩)))
    go_wp2
    go_ret
    exact ⟨retI HX.out.symm, HB1.out.trans ⟨rfl, rfl, rfl, Nat.le_refl _, fun _ _ => rfl⟩⟩

end Go.Proofs.Ytdhocncfpapncac
