/-
  ListsNew: lists with no slot on them. The contracts and the walk of the law.
-/
import Derived.Test.YtpjlbpmlddjddaaLstsM
namespace Go.Proofs.Ytpjlbpmlddjddaa
open Go.RowKit
set_option linter.unusedVariables false

def e3 : List (List Int) := List.replicate 3 []
def e9 : List (List Int) := List.replicate 9 []
theorem run_mk (n : Nat) (hn : n ≤ 1000) (w : World) :
    (Instr.makeSlice 25 (.int .i64 (n : Int)) (.int .i64 (n : Int))).run Try.prog w = .ok (.slice (some ⟨w.heap.size, 0, none⟩) n n) (w.alloc (.cells (madeCells #[.slice none 0 0] n) 62)) := by
  obtain ⟨i, hi, hzz⟩ := Option.map_eq_some_iff.1 listInfo
  simp only [Prod.mk.injEq] at hzz
  obtain ⟨hz, hs, hb⟩ := hzz
  have hr := run_make (P := Try.prog) w 25 62 i (.agg #[.slice none 0 0]) Try.underlying25 hi hz .i64 .i64 n n (by omega) (Int.le_refl _) (by rw [hb]; omega) (by omega)
  simp only [Int.toNat_natCast, hs, Nat.mul_one] at hr
  exact hr
/-- Two rows of empty slices, new. -/
def NewRes (w w' : World) (e : Ending) : Prop :=
  ∃ g g', e = .returned (.agg #[.slice (some ⟨g, 0, none⟩) 3 3, .slice (some ⟨g', 0, none⟩) 9 9]) ∧ w'.rowIs g 62 3 (fun _ => .slice none 0 0) ∧ w'.rowIs g' 62 9 (fun _ => .slice none 0 0) ∧ w.heap.size ≤ g ∧ w.heap.size ≤ g' ∧ Below w.heap.size w w'
theorem rd_made {w : World} {g n : Nat} (h : w.rowIs g 62 n (fun _ => .slice none 0 0)) (hg : g < w.heap.size) : RdM w (some ⟨g, 0, none⟩) (List.replicate n []) w.heap.size := fun j hj => by
  rw [List.length_replicate] at hj
  have hc := h.cell hj
  have e : (List.replicate n ([] : List Int)).getD j [] = [] := by simp [List.getD, hj]
  exact ⟨g, 0, none, 0, 0, rfl, hg, by rw [Nat.zero_add]; exact hc, by rw [e]; rfl, Nat.le_refl _, Nat.zero_le _, by rw [e]; exact RdB.nil⟩
theorem new_rows (w : World) (o : Obj) (n m : Nat) :
    (((w.alloc o).alloc (.cells (madeCells #[.slice none 0 0] n) 62)).alloc (.cells (madeCells #[.slice none 0 0] m) 62)).rowIs (w.heap.size + 1) 62 n (fun _ => .slice none 0 0) ∧
    (((w.alloc o).alloc (.cells (madeCells #[.slice none 0 0] n) 62)).alloc (.cells (madeCells #[.slice none 0 0] m) 62)).rowIs (w.heap.size + 1 + 1) 62 m (fun _ => .slice none 0 0) ∧
    Below w.heap.size w (((w.alloc o).alloc (.cells (madeCells #[.slice none 0 0] n) 62)).alloc (.cells (madeCells #[.slice none 0 0] m) 62)) := by
  have e1 : (w.alloc o).heap.size = w.heap.size + 1 := by simp
  have h1 := World.rowIs_made (w.alloc o) (.slice none 0 0) n 62
  have e2 : ((w.alloc o).alloc (.cells (madeCells #[.slice none 0 0] n) 62)).heap.size = w.heap.size + 1 + 1 := by simp
  have h2 := World.rowIs_made ((w.alloc o).alloc (.cells (madeCells #[.slice none 0 0] n) 62)) (.slice none 0 0) m 62
  rw [e1] at h1
  rw [e2] at h2
  exact ⟨rowIs_below h1 ((Below.refl _ _).alloc (Nat.le_refl _) _) (by rw [e2]; omega), h2, (((Below.refl _ _).alloc (Nat.le_refl _) _).alloc (by simp) _).alloc (by simp <;> omega) _⟩
/-! marks on empty lists -/
theorem markIntS_nil (A : Option Addr) (c : Nat) (k : Int) (w : World) : Calls Try.prog 35 #[.slice A 0 c, .int .i64 k] w fun e w' => e = .returned (.int .i64 k) ∧ w = w' := by
  go_enter Try.func35, Try.ntmps35
  go_wp2
  go_loopg [1, 5] 1 (fun g kk i wr => wr = w ∧ g = 1 ∧ kk = .int .i64 k ∧ i = .int .i64 0)
  case atStart => exact ⟨rfl, rfl, rfl, rfl⟩
  case round =>
    obtain ⟨rfl, hg, rfl, rfl⟩ := hrel
    go_wp2
    go_ret
    exact ⟨rfl, rfl⟩
theorem heldIntS_nil (A : Option Addr) (c : Nat) (k : Int) (w : World) : Calls Try.prog 37 #[.slice A 0 c, .int .i64 k] w fun e w' => e = .returned (.int .i64 k) ∧ w = w' := by
  go_enter Try.func37, Try.ntmps37
  go_wp2
  go_loopg [1, 5] 1 (fun g kk i wr => wr = w ∧ g = 1 ∧ kk = .int .i64 k ∧ i = .int .i64 0)
  case atStart => exact ⟨rfl, rfl, rfl, rfl⟩
  case round =>
    obtain ⟨rfl, hg, rfl, rfl⟩ := hrel
    go_wp2
    go_ret
    exact ⟨rfl, rfl⟩
theorem nil_at (n j : Nat) : ((List.replicate n ([] : List Int)).getD j []).length = 0 := by
  by_cases hj : j < n
  · simp [List.getD, hj]
  · simp [List.getD, hj]

set_option maxRecDepth 100000 in
set_option maxHeartbeats 1600000 in
theorem markSListS_nil (kv : Int) (hkv : 0 ≤ kv) (A : Option Addr) (n c : Nat) (U : Nat) (w : World) (hn : n ≤ 1000) (ha : RdM w A (List.replicate n []) U) :
    Calls Try.prog 36 #[.slice A n c, .int .i64 kv] w fun e w' => e = .returned (.int .i64 kv) ∧ w = w' := by
  have HA := hide ha
  have q1 : (n : Int) ≤ 1000 := by omega
  clear ha
  go_enter Try.func36, Try.ntmps36
  go_wp2
  go_loopg [1, 5] (n + 1) (fun g kk i wr => wr = w ∧ ∃ k : Nat, k ≤ n ∧ g = n + 1 - k ∧ i = .int .i64 k ∧ kk = .int .i64 kv)
  case atStart => exact ⟨rfl, 0, Nat.zero_le _, rfl, rfl, rfl⟩
  case round =>
    obtain ⟨rfl, k, hk, hg, rfl, rfl⟩ := hrel
    have HG := hide hg
    clear hg
    by_cases hlt : k < n
    · have hi : (k : Int) < (n : Int) := by omega
      obtain ⟨b, off, A2, n2, c2, rfl, hb, hcell, hn2, hc2, hcm2, -⟩ := HA.out k (by rw [List.length_replicate]; exact hlt)
      rw [nil_at] at hn2
      subst hn2
      go_wp2_with (go_at_call 35; refine (markIntS_nil _ _ _ _).mono ?_; rintro e w' ⟨rfl, rfl⟩)
      go_roundg (n + 1 - (k + 1))
      case measure => have := HG.out; omega
      case rel => exact ⟨rfl, k + 1, by omega, rfl, by go_num, rfl⟩
    · have hi : ¬ (k : Int) < (n : Int) := by omega
      go_wp2
      go_ret
      exact ⟨rfl, rfl⟩
set_option maxRecDepth 100000 in
set_option maxHeartbeats 1600000 in
theorem markLists_nil (kv : Int) (hkv : 0 ≤ kv) (A A' : Option Addr) (n c n' c' : Nat) (w : World) (hn : n ≤ 1000) (hn' : n' ≤ 1000) (ha : RdM w A (List.replicate n []) w.heap.size) (ha' : RdM w A' (List.replicate n' []) w.heap.size) :
    Calls Try.prog 21 #[.agg #[.slice A n c, .slice A' n' c'], .int .i64 kv] w fun e w' => e = .returned (.int .i64 kv) ∧ Below w.heap.size w w' := by
  have hb0 : Below w.heap.size w (w.alloc (.cells #[.slice A n c, .slice A' n' c'] 27)) := (Below.refl _ _).alloc (Nat.le_refl _) _
  have H1 := hide (ha.below hb0 (Nat.le_refl _))
  have H2 := hide (ha'.below hb0 (Nat.le_refl _))
  clear ha ha'
  go_enter Try.func21, Try.ntmps21
  go_wp2_with fail
  refine (markSListS_nil kv hkv A n c w.heap.size _ hn H1.out).mono ?_
  rintro e w1 ⟨rfl, rfl⟩
  go_wp2_with fail
  refine (markSListS_nil kv hkv A' n' c' w.heap.size _ hn' H2.out).mono ?_
  rintro e w1 ⟨rfl, rfl⟩
  go_wp2
  go_ret
  exact ⟨rfl, hb0⟩

set_option maxRecDepth 100000 in
set_option maxHeartbeats 1600000 in
theorem heldSListS_nil (kv : Int) (hkv : 0 ≤ kv) (A : Option Addr) (n c : Nat) (U : Nat) (w : World) (hn : n ≤ 1000) (ha : RdM w A (List.replicate n []) U) :
    Calls Try.prog 38 #[.slice A n c, .int .i64 kv] w fun e w' => e = .returned (.int .i64 kv) ∧ w = w' := by
  have HA := hide ha
  have q1 : (n : Int) ≤ 1000 := by omega
  clear ha
  go_enter Try.func38, Try.ntmps38
  go_wp2
  go_loopg [1, 5] (n + 1) (fun g kk i wr => wr = w ∧ ∃ k : Nat, k ≤ n ∧ g = n + 1 - k ∧ i = .int .i64 k ∧ kk = .int .i64 kv)
  case atStart => exact ⟨rfl, 0, Nat.zero_le _, rfl, rfl, rfl⟩
  case round =>
    obtain ⟨rfl, k, hk, hg, rfl, rfl⟩ := hrel
    have HG := hide hg
    clear hg
    by_cases hlt : k < n
    · have hi : (k : Int) < (n : Int) := by omega
      obtain ⟨b, off, A2, n2, c2, rfl, hb, hcell, hn2, hc2, hcm2, -⟩ := HA.out k (by rw [List.length_replicate]; exact hlt)
      rw [nil_at] at hn2
      subst hn2
      go_wp2_with (go_at_call 37; refine (heldIntS_nil _ _ _ _).mono ?_; rintro e w' ⟨rfl, rfl⟩)
      go_roundg (n + 1 - (k + 1))
      case measure => have := HG.out; omega
      case rel => exact ⟨rfl, k + 1, by omega, rfl, by go_num, rfl⟩
    · have hi : ¬ (k : Int) < (n : Int) := by omega
      go_wp2
      go_ret
      exact ⟨rfl, rfl⟩
set_option maxRecDepth 100000 in
set_option maxHeartbeats 1600000 in
theorem heldLists_nil (kv : Int) (hkv : 0 ≤ kv) (A A' : Option Addr) (n c n' c' : Nat) (w : World) (hn : n ≤ 1000) (hn' : n' ≤ 1000) (ha : RdM w A (List.replicate n []) w.heap.size) (ha' : RdM w A' (List.replicate n' []) w.heap.size) :
    Calls Try.prog 23 #[.agg #[.slice A n c, .slice A' n' c'], .int .i64 kv] w fun e w' => e = .returned (.int .i64 kv) ∧ Below w.heap.size w w' := by
  have hb0 : Below w.heap.size w (w.alloc (.cells #[.slice A n c, .slice A' n' c'] 27)) := (Below.refl _ _).alloc (Nat.le_refl _) _
  have H1 := hide (ha.below hb0 (Nat.le_refl _))
  have H2 := hide (ha'.below hb0 (Nat.le_refl _))
  clear ha ha'
  go_enter Try.func23, Try.ntmps23
  go_wp2_with fail
  refine (heldSListS_nil kv hkv A n c w.heap.size _ hn H1.out).mono ?_
  rintro e w1 ⟨rfl, rfl⟩
  go_wp2_with fail
  refine (heldSListS_nil kv hkv A' n' c' w.heap.size _ hn' H2.out).mono ?_
  rintro e w1 ⟨rfl, rfl⟩
  go_wp2
  go_ret
  exact ⟨rfl, hb0⟩

set_option maxRecDepth 100000 in
set_option maxHeartbeats 1600000 in
theorem specListsNew_any (w : World) : Calls Try.prog 15 #[] w fun e w' => NewRes w w' e := by
  obtain ⟨n, hn⟩ : ∃ n : Nat, n = 3 := ⟨_, rfl⟩
  obtain ⟨m, hm⟩ : ∃ m : Nat, m = 9 := ⟨_, rfl⟩
  have mk3 := run_mk n (by omega)
  have mk9 := run_mk m (by omega)
  have i3 : (n : Int) = 3 := by omega
  have i9 : (m : Int) = 9 := by omega
  rw [i3] at mk3
  rw [i9] at mk9
  have H3 := hide hn
  have H9 := hide hm
  clear i3 i9 hn hm
  go_enter Try.func15, Try.ntmps15
  go_wp2_with fail
  go_region
  all_goals go_wp2_with fail
  · obtain ⟨h1, h2, hb⟩ := new_rows w (.cells #[.slice (some ⟨w.heap.size + 1, 0, none⟩) n n, .slice (some ⟨w.heap.size + 1 + 1, 0, none⟩) m m] 27) n m
    obtain rfl := H3.out
    obtain rfl := H9.out
    exact bodyPost_ret (v := .agg #[.slice (some ⟨w.heap.size + 1, 0, none⟩) 3 3, .slice (some ⟨w.heap.size + 1 + 1, 0, none⟩) 9 9]) (by simp [results, Try.results15, go_sem]) rfl
      ⟨_, _, rfl, h1, h2, by omega, by omega, hb.drew⟩
  · obtain ⟨h1, h2, hb⟩ := new_rows w (.cells #[.slice (some ⟨w.heap.size + 1 + 1, 0, none⟩) n n, .slice (some ⟨w.heap.size + 1, 0, none⟩) m m] 27) m n
    obtain rfl := H3.out
    obtain rfl := H9.out
    exact bodyPost_ret (v := .agg #[.slice (some ⟨w.heap.size + 1 + 1, 0, none⟩) 3 3, .slice (some ⟨w.heap.size + 1, 0, none⟩) 9 9]) (by simp [results, Try.results15, go_sem]) rfl
      ⟨_, _, rfl, h2, h1, by omega, by omega, hb.drew⟩

set_option maxRecDepth 100000 in
set_option maxHeartbeats 1600000 in
theorem implListsNew_any (w : World) : Calls Try.prog 17 #[] w fun e w' => NewRes w w' e := by
  obtain ⟨n, hn⟩ : ∃ n : Nat, n = 3 := ⟨_, rfl⟩
  obtain ⟨m, hm⟩ : ∃ m : Nat, m = 9 := ⟨_, rfl⟩
  have mk3 := run_mk n (by omega)
  have mk9 := run_mk m (by omega)
  have i3 : (n : Int) = 3 := by omega
  have i9 : (m : Int) = 9 := by omega
  rw [i3] at mk3
  rw [i9] at mk9
  have H3 := hide hn
  have H9 := hide hm
  clear i3 i9 hn hm
  go_enter Try.func17, Try.ntmps17
  go_wp2_with fail
  go_region
  all_goals go_wp2_with fail
  · obtain ⟨h1, h2, hb⟩ := new_rows w (.cells #[.slice (some ⟨w.heap.size + 1, 0, none⟩) n n, .slice (some ⟨w.heap.size + 1 + 1, 0, none⟩) m m] 27) n m
    obtain rfl := H3.out
    obtain rfl := H9.out
    exact bodyPost_ret (v := .agg #[.slice (some ⟨w.heap.size + 1, 0, none⟩) 3 3, .slice (some ⟨w.heap.size + 1 + 1, 0, none⟩) 9 9]) (by simp [results, Try.results17, go_sem]) rfl
      ⟨_, _, rfl, h1, h2, by omega, by omega, hb.drew⟩
  · obtain ⟨h1, h2, hb⟩ := new_rows w (.cells #[.slice (some ⟨w.heap.size + 1 + 1, 0, none⟩) n n, .slice (some ⟨w.heap.size + 1, 0, none⟩) m m] 27) m n
    obtain rfl := H3.out
    obtain rfl := H9.out
    exact bodyPost_ret (v := .agg #[.slice (some ⟨w.heap.size + 1 + 1, 0, none⟩) 3 3, .slice (some ⟨w.heap.size + 1, 0, none⟩) 9 9]) (by simp [results, Try.results17, go_sem]) rfl
      ⟨_, _, rfl, h2, h1, by omega, by omega, hb.drew⟩

end Go.Proofs.Ytpjlbpmlddjddaa
