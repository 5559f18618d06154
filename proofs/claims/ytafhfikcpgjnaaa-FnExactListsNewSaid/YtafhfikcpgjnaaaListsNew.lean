/-
  ListsNew: lists with no slot on them. The contracts and the walk of the law.
-/
import Derived.Test.YtafhfikcpgjnaaaLsts
namespace Go.Proofs.Ytafhfikcpgjnaaa
open Go.RowKit
set_option linter.unusedVariables false

def e3 : List (List Int) := List.replicate 3 []
def e9 : List (List Int) := List.replicate 9 []
theorem run_mk (n : Nat) (hn : n ≤ 1000) (w : World) :
    (Instr.makeSlice 22 (.int .i64 (n : Int)) (.int .i64 (n : Int))).run Try.prog w = .ok (.slice (some ⟨w.heap.size, 0, none⟩) n n) (w.alloc (.cells (madeCells #[.slice none 0 0] n) 54)) := by
  obtain ⟨i, hi, hzz⟩ := Option.map_eq_some_iff.1 listInfo
  simp only [Prod.mk.injEq] at hzz
  obtain ⟨hz, hs, hb⟩ := hzz
  have hr := run_make (P := Try.prog) w 22 54 i (.agg #[.slice none 0 0]) Try.underlying22 hi hz .i64 .i64 n n (by omega) (Int.le_refl _) (by rw [hb]; omega) (by omega)
  simp only [Int.toNat_natCast, hs, Nat.mul_one] at hr
  exact hr
/-- Two rows of empty slices, new. -/
def NewRes (w w' : World) (e : Ending) : Prop :=
  ∃ g g', e = .returned (.agg #[.slice (some ⟨g, 0, none⟩) 3 3, .slice (some ⟨g', 0, none⟩) 9 9]) ∧ RdM w' (some ⟨g, 0, none⟩) e3 w'.heap.size ∧ RdM w' (some ⟨g', 0, none⟩) e9 w'.heap.size ∧ Below w.heap.size w w'
theorem rd_made {w : World} {g n : Nat} (h : w.rowIs g 54 n (fun _ => .slice none 0 0)) (hg : g < w.heap.size) : RdM w (some ⟨g, 0, none⟩) (List.replicate n []) w.heap.size := fun j hj => by
  rw [List.length_replicate] at hj
  have hc := h.cell hj
  have e : (List.replicate n ([] : List Int)).getD j [] = [] := by simp [List.getD, hj]
  exact ⟨g, 0, none, 0, 0, rfl, hg, by rw [Nat.zero_add]; exact hc, by rw [e]; rfl, Nat.le_refl _, Nat.zero_le _, by rw [e]; exact RdB.nil⟩
theorem new_rows (w : World) (o : Obj) (n m : Nat) :
    (((w.alloc o).alloc (.cells (madeCells #[.slice none 0 0] n) 54)).alloc (.cells (madeCells #[.slice none 0 0] m) 54)).rowIs (w.heap.size + 1) 54 n (fun _ => .slice none 0 0) ∧
    (((w.alloc o).alloc (.cells (madeCells #[.slice none 0 0] n) 54)).alloc (.cells (madeCells #[.slice none 0 0] m) 54)).rowIs (w.heap.size + 1 + 1) 54 m (fun _ => .slice none 0 0) ∧
    Below w.heap.size w (((w.alloc o).alloc (.cells (madeCells #[.slice none 0 0] n) 54)).alloc (.cells (madeCells #[.slice none 0 0] m) 54)) := by
  have e1 : (w.alloc o).heap.size = w.heap.size + 1 := by simp
  have h1 := World.rowIs_made (w.alloc o) (.slice none 0 0) n 54
  have e2 : ((w.alloc o).alloc (.cells (madeCells #[.slice none 0 0] n) 54)).heap.size = w.heap.size + 1 + 1 := by simp
  have h2 := World.rowIs_made ((w.alloc o).alloc (.cells (madeCells #[.slice none 0 0] n) 54)) (.slice none 0 0) m 54
  rw [e1] at h1
  rw [e2] at h2
  exact ⟨rowIs_below h1 ((Below.refl _ _).alloc (Nat.le_refl _) _) (by rw [e2]; omega), h2, (((Below.refl _ _).alloc (Nat.le_refl _) _).alloc (by simp) _).alloc (by simp <;> omega) _⟩
/-! marks on empty lists -/
theorem markIntS_nil (A : Option Addr) (c : Nat) (k : Int) (w : World) : Calls Try.prog 58 #[.slice A 0 c, .int .i64 k] w fun e w' => e = .returned (.int .i64 k) ∧ w = w' := by
  go_enter Try.func58, Try.ntmps58
  go_wp2
  go_loopg [1, 5] 1 (fun g kk i wr => wr = w ∧ g = 1 ∧ kk = .int .i64 k ∧ i = .int .i64 0)
  case atStart => exact ⟨rfl, rfl, rfl, rfl⟩
  case round =>
    obtain ⟨rfl, hg, rfl, rfl⟩ := hrel
    go_wp2
    go_ret
    exact ⟨rfl, rfl⟩
theorem heldIntS_nil (A : Option Addr) (c : Nat) (k : Int) (w : World) : Calls Try.prog 59 #[.slice A 0 c, .int .i64 k] w fun e w' => e = .returned (.int .i64 k) ∧ w = w' := by
  go_enter Try.func59, Try.ntmps59
  go_wp2
  go_loopg [1, 5] 1 (fun g kk i wr => wr = w ∧ g = 1 ∧ kk = .int .i64 k ∧ i = .int .i64 0)
  case atStart => exact ⟨rfl, rfl, rfl, rfl⟩
  case round =>
    obtain ⟨rfl, hg, rfl, rfl⟩ := hrel
    go_wp2
    go_ret
    exact ⟨rfl, rfl⟩
theorem nil_at (n j : Nat) : ((List.replicate n ([] : List Int)).getD j []).length = 0 := by
  by_cases hj : j < n
  · simp [List.getD, hj]
  · simp [List.getD, hj]

set_option maxRecDepth 100000 in
set_option maxHeartbeats 1600000 in
theorem markSListS_nil (A : Option Addr) (n c : Nat) (U : Nat) (w : World) (hn : n ≤ 1000) (ha : RdM w A (List.replicate n []) U) :
    Calls Try.prog 33 #[.slice A n c, .int .i64 1] w fun e w' => e = .returned (.int .i64 1) ∧ w = w' := by
  have HA := hide ha
  have q1 : (n : Int) ≤ 1000 := by omega
  clear ha
  go_enter Try.func33, Try.ntmps33
  go_wp2
  go_loopg [1, 5] (n + 1) (fun g kk i wr => wr = w ∧ ∃ k : Nat, k ≤ n ∧ g = n + 1 - k ∧ i = .int .i64 k ∧ kk = .int .i64 1)
  case atStart => exact ⟨rfl, 0, Nat.zero_le _, rfl, rfl, rfl⟩
  case round =>
    obtain ⟨rfl, k, hk, hg, rfl, rfl⟩ := hrel
    have HG := hide hg
    clear hg
    by_cases hlt : k < n
    · have hi : (k : Int) < (n : Int) := by omega
      obtain ⟨b, off, A2, n2, c2, rfl, hb, hcell, hn2, hc2, hcm2, -⟩ := HA.out k (by rw [List.length_replicate]; exact hlt)
      rw [nil_at] at hn2
      subst hn2
      go_wp2_with (go_at_call 58; refine (markIntS_nil _ _ _ _).mono ?_; rintro e w' ⟨rfl, rfl⟩)
      go_roundg (n + 1 - (k + 1))
      case measure => have := HG.out; omega
      case rel => exact ⟨rfl, k + 1, by omega, rfl, by go_num, rfl⟩
    · have hi : ¬ (k : Int) < (n : Int) := by omega
      go_wp2
      go_ret
      exact ⟨rfl, rfl⟩
set_option maxRecDepth 100000 in
set_option maxHeartbeats 1600000 in
theorem markLists_nil (A A' : Option Addr) (n c n' c' : Nat) (w : World) (hn : n ≤ 1000) (hn' : n' ≤ 1000) (ha : RdM w A (List.replicate n []) w.heap.size) (ha' : RdM w A' (List.replicate n' []) w.heap.size) :
    Calls Try.prog 14 #[.agg #[.slice A n c, .slice A' n' c'], .int .i64 1] w fun e w' => e = .returned (.int .i64 1) ∧ Below w.heap.size w w' := by
  have hb0 : Below w.heap.size w (w.alloc (.cells #[.slice A n c, .slice A' n' c'] 24)) := (Below.refl _ _).alloc (Nat.le_refl _) _
  have H1 := hide (ha.below hb0 (Nat.le_refl _))
  have H2 := hide (ha'.below hb0 (Nat.le_refl _))
  clear ha ha'
  go_enter Try.func14, Try.ntmps14
  go_wp2_with fail
  refine (markSListS_nil A n c w.heap.size _ hn H1.out).mono ?_
  rintro e w1 ⟨rfl, rfl⟩
  go_wp2_with fail
  refine (markSListS_nil A' n' c' w.heap.size _ hn' H2.out).mono ?_
  rintro e w1 ⟨rfl, rfl⟩
  go_wp2
  go_ret
  exact ⟨rfl, hb0⟩

set_option maxRecDepth 100000 in
set_option maxHeartbeats 1600000 in
theorem heldSListS_nil (A : Option Addr) (n c : Nat) (U : Nat) (w : World) (hn : n ≤ 1000) (ha : RdM w A (List.replicate n []) U) :
    Calls Try.prog 34 #[.slice A n c, .int .i64 1] w fun e w' => e = .returned (.int .i64 1) ∧ w = w' := by
  have HA := hide ha
  have q1 : (n : Int) ≤ 1000 := by omega
  clear ha
  go_enter Try.func34, Try.ntmps34
  go_wp2
  go_loopg [1, 5] (n + 1) (fun g kk i wr => wr = w ∧ ∃ k : Nat, k ≤ n ∧ g = n + 1 - k ∧ i = .int .i64 k ∧ kk = .int .i64 1)
  case atStart => exact ⟨rfl, 0, Nat.zero_le _, rfl, rfl, rfl⟩
  case round =>
    obtain ⟨rfl, k, hk, hg, rfl, rfl⟩ := hrel
    have HG := hide hg
    clear hg
    by_cases hlt : k < n
    · have hi : (k : Int) < (n : Int) := by omega
      obtain ⟨b, off, A2, n2, c2, rfl, hb, hcell, hn2, hc2, hcm2, -⟩ := HA.out k (by rw [List.length_replicate]; exact hlt)
      rw [nil_at] at hn2
      subst hn2
      go_wp2_with (go_at_call 59; refine (heldIntS_nil _ _ _ _).mono ?_; rintro e w' ⟨rfl, rfl⟩)
      go_roundg (n + 1 - (k + 1))
      case measure => have := HG.out; omega
      case rel => exact ⟨rfl, k + 1, by omega, rfl, by go_num, rfl⟩
    · have hi : ¬ (k : Int) < (n : Int) := by omega
      go_wp2
      go_ret
      exact ⟨rfl, rfl⟩
set_option maxRecDepth 100000 in
set_option maxHeartbeats 1600000 in
theorem heldLists_nil (A A' : Option Addr) (n c n' c' : Nat) (w : World) (hn : n ≤ 1000) (hn' : n' ≤ 1000) (ha : RdM w A (List.replicate n []) w.heap.size) (ha' : RdM w A' (List.replicate n' []) w.heap.size) :
    Calls Try.prog 15 #[.agg #[.slice A n c, .slice A' n' c'], .int .i64 1] w fun e w' => e = .returned (.int .i64 1) ∧ Below w.heap.size w w' := by
  have hb0 : Below w.heap.size w (w.alloc (.cells #[.slice A n c, .slice A' n' c'] 24)) := (Below.refl _ _).alloc (Nat.le_refl _) _
  have H1 := hide (ha.below hb0 (Nat.le_refl _))
  have H2 := hide (ha'.below hb0 (Nat.le_refl _))
  clear ha ha'
  go_enter Try.func15, Try.ntmps15
  go_wp2_with fail
  refine (heldSListS_nil A n c w.heap.size _ hn H1.out).mono ?_
  rintro e w1 ⟨rfl, rfl⟩
  go_wp2_with fail
  refine (heldSListS_nil A' n' c' w.heap.size _ hn' H2.out).mono ?_
  rintro e w1 ⟨rfl, rfl⟩
  go_wp2
  go_ret
  exact ⟨rfl, hb0⟩

set_option maxRecDepth 100000 in
set_option maxHeartbeats 1600000 in
theorem specListsNew_any (w : World) : Calls Try.prog 11 #[] w fun e w' => NewRes w w' e := by
  obtain ⟨n, hn⟩ : ∃ n : Nat, n = 3 := ⟨_, rfl⟩
  obtain ⟨m, hm⟩ : ∃ m : Nat, m = 9 := ⟨_, rfl⟩
  have mk3 := run_mk n (by omega)
  have mk9 := run_mk m (by omega)
  have i3 : (n : Int) = 3 := by omega
  have i9 : (m : Int) = 9 := by omega
  rw [i3] at mk3
  rw [i9] at mk9
  have H3 := hide hn
  have H9 := hide hm
  clear i3 i9 hn hm
  go_enter Try.func11, Try.ntmps11
  go_wp2_with fail
  go_region
  all_goals go_wp2_with fail
  · obtain ⟨h1, h2, hb⟩ := new_rows w (.cells #[.slice (some ⟨w.heap.size + 1, 0, none⟩) n n, .slice (some ⟨w.heap.size + 1 + 1, 0, none⟩) m m] 24) n m
    obtain rfl := H3.out
    obtain rfl := H9.out
    exact bodyPost_ret (v := .agg #[.slice (some ⟨w.heap.size + 1, 0, none⟩) 3 3, .slice (some ⟨w.heap.size + 1 + 1, 0, none⟩) 9 9]) (by simp [results, Try.results11, go_sem]) rfl
      ⟨_, _, rfl, rd_made h1 h1.lt, rd_made h2 h2.lt, hb.drew⟩
  · obtain ⟨h1, h2, hb⟩ := new_rows w (.cells #[.slice (some ⟨w.heap.size + 1 + 1, 0, none⟩) n n, .slice (some ⟨w.heap.size + 1, 0, none⟩) m m] 24) m n
    obtain rfl := H3.out
    obtain rfl := H9.out
    exact bodyPost_ret (v := .agg #[.slice (some ⟨w.heap.size + 1 + 1, 0, none⟩) 3 3, .slice (some ⟨w.heap.size + 1, 0, none⟩) 9 9]) (by simp [results, Try.results11, go_sem]) rfl
      ⟨_, _, rfl, rd_made h2 h2.lt, rd_made h1 h1.lt, hb.drew⟩

set_option maxRecDepth 100000 in
set_option maxHeartbeats 1600000 in
theorem implListsNew_any (w : World) : Calls Try.prog 12 #[] w fun e w' => NewRes w w' e := by
  obtain ⟨n, hn⟩ : ∃ n : Nat, n = 3 := ⟨_, rfl⟩
  obtain ⟨m, hm⟩ : ∃ m : Nat, m = 9 := ⟨_, rfl⟩
  have mk3 := run_mk n (by omega)
  have mk9 := run_mk m (by omega)
  have i3 : (n : Int) = 3 := by omega
  have i9 : (m : Int) = 9 := by omega
  rw [i3] at mk3
  rw [i9] at mk9
  have H3 := hide hn
  have H9 := hide hm
  clear i3 i9 hn hm
  go_enter Try.func12, Try.ntmps12
  go_wp2_with fail
  go_region
  all_goals go_wp2_with fail
  · obtain ⟨h1, h2, hb⟩ := new_rows w (.cells #[.slice (some ⟨w.heap.size + 1, 0, none⟩) n n, .slice (some ⟨w.heap.size + 1 + 1, 0, none⟩) m m] 24) n m
    obtain rfl := H3.out
    obtain rfl := H9.out
    exact bodyPost_ret (v := .agg #[.slice (some ⟨w.heap.size + 1, 0, none⟩) 3 3, .slice (some ⟨w.heap.size + 1 + 1, 0, none⟩) 9 9]) (by simp [results, Try.results12, go_sem]) rfl
      ⟨_, _, rfl, rd_made h1 h1.lt, rd_made h2 h2.lt, hb.drew⟩
  · obtain ⟨h1, h2, hb⟩ := new_rows w (.cells #[.slice (some ⟨w.heap.size + 1 + 1, 0, none⟩) n n, .slice (some ⟨w.heap.size + 1, 0, none⟩) m m] 24) m n
    obtain rfl := H3.out
    obtain rfl := H9.out
    exact bodyPost_ret (v := .agg #[.slice (some ⟨w.heap.size + 1 + 1, 0, none⟩) 3 3, .slice (some ⟨w.heap.size + 1, 0, none⟩) 9 9]) (by simp [results, Try.results12, go_sem]) rfl
      ⟨_, _, rfl, rd_made h2 h2.lt, rd_made h1 h1.lt, hb.drew⟩

set_option maxRecDepth 100000 in
set_option maxHeartbeats 3200000 in
theorem fnExactListsNew_walk  (w : World)  :
    Calls Try.prog 3 #[] w fun e w' => e = .returned (.bool true) ∧ Below w.heap.size w w' := by
  have HB0 := hide (Below.refl w.heap.size w)
  go_enter Try.func3, Try.ntmps3
  go_wp2_with fail
  refine (specListsNew_any _).mono ?_
  rintro e w1 ⟨g_s, k_s, rfl, ho, ho', hb⟩
  have HB1 := hide (HB0.out.trans (hb.mono HB0.out.size))
  have hs1 : w.heap.size ≤ w1.heap.size := hb.size
  clear hb
  have Os_1 := hide ho
  have Ps_1 := hide ho'
  clear ho ho'
  go_wp2_with fail
  obtain ⟨w2, hW⟩ : ∃ W : World, W = w1.alloc (.cells #[(.slice (some ⟨g_s, 0, none⟩) 3 3), (.slice (some ⟨k_s, 0, none⟩) 9 9)] 24) := ⟨_, rfl⟩
  rw [← hW]
  have hb : Below w1.heap.size w1 w2 := by rw [hW]; exact (Below.refl _ _).alloc (Nat.le_refl _) _
  have nb0 : w2.cell? ⟨w1.heap.size, 0, none⟩ = some (.slice (some ⟨g_s, 0, none⟩) 3 3) := by rw [hW]; go_simp
  have nb1 : w2.cell? ⟨w1.heap.size, 1, none⟩ = some (.slice (some ⟨k_s, 0, none⟩) 9 9) := by rw [hW]; go_simp
  have nt : w1.heap.size < w2.heap.size := by rw [hW]; simp
  clear hW
  have HB2 := hide (HB1.out.trans (hb.mono HB1.out.size))
  have hs2 : w1.heap.size ≤ w2.heap.size := hb.size
  have Os_2 := hide (rdM_at Os_1.out hb)
  clear Os_1
  have Ps_2 := hide (rdM_at Ps_1.out hb)
  clear Ps_1
  clear hb
  have bs_0_2 := nb0
  have bs_1_2 := nb1
  have ts_2 := nt
  have us := nt
  clear nb0 nb1 nt
  refine (implListsNew_any _).mono ?_
  rintro e w3 ⟨g_g, k_g, rfl, ho, ho', hb⟩
  have HB3 := hide (HB2.out.trans (hb.mono HB2.out.size))
  have hs3 : w2.heap.size ≤ w3.heap.size := hb.size
  have bs_0_3 : w3.cell? ⟨w1.heap.size, 0, none⟩ = some (.slice (some ⟨g_s, 0, none⟩) 3 3) := by rw [hb.cell ts_2]; exact bs_0_2
  have bs_1_3 : w3.cell? ⟨w1.heap.size, 1, none⟩ = some (.slice (some ⟨k_s, 0, none⟩) 9 9) := by rw [hb.cell ts_2]; exact bs_1_2
  have ts_3 : w1.heap.size < w3.heap.size := Nat.lt_of_lt_of_le ts_2 hs3
  clear bs_0_2 bs_1_2 ts_2
  have Os_3 := hide (rdM_at Os_2.out hb)
  clear Os_2
  have Ps_3 := hide (rdM_at Ps_2.out hb)
  clear Ps_2
  clear hb
  have Og_3 := hide ho
  have Pg_3 := hide ho'
  clear ho ho'
  go_wp2_with fail
  obtain ⟨w4, hW⟩ : ∃ W : World, W = w3.alloc (.cells #[(.slice (some ⟨g_g, 0, none⟩) 3 3), (.slice (some ⟨k_g, 0, none⟩) 9 9)] 24) := ⟨_, rfl⟩
  rw [← hW]
  have hb : Below w3.heap.size w3 w4 := by rw [hW]; exact (Below.refl _ _).alloc (Nat.le_refl _) _
  have nb0 : w4.cell? ⟨w3.heap.size, 0, none⟩ = some (.slice (some ⟨g_g, 0, none⟩) 3 3) := by rw [hW]; go_simp
  have nb1 : w4.cell? ⟨w3.heap.size, 1, none⟩ = some (.slice (some ⟨k_g, 0, none⟩) 9 9) := by rw [hW]; go_simp
  have nt : w3.heap.size < w4.heap.size := by rw [hW]; simp
  clear hW
  have HB4 := hide (HB3.out.trans (hb.mono HB3.out.size))
  have hs4 : w3.heap.size ≤ w4.heap.size := hb.size
  have bs_0_4 : w4.cell? ⟨w1.heap.size, 0, none⟩ = some (.slice (some ⟨g_s, 0, none⟩) 3 3) := by rw [hb.cell ts_3]; exact bs_0_3
  have bs_1_4 : w4.cell? ⟨w1.heap.size, 1, none⟩ = some (.slice (some ⟨k_s, 0, none⟩) 9 9) := by rw [hb.cell ts_3]; exact bs_1_3
  have ts_4 : w1.heap.size < w4.heap.size := Nat.lt_of_lt_of_le ts_3 hs4
  clear bs_0_3 bs_1_3 ts_3
  have Os_4 := hide (rdM_at Os_3.out hb)
  clear Os_3
  have Ps_4 := hide (rdM_at Ps_3.out hb)
  clear Ps_3
  have Og_4 := hide (rdM_at Og_3.out hb)
  clear Og_3
  have Pg_4 := hide (rdM_at Pg_3.out hb)
  clear Pg_3
  clear hb
  have bg_0_4 := nb0
  have bg_1_4 := nb1
  have tg_4 := nt
  have ug := nt
  clear nb0 nb1 nt
  refine (eqLists_same _ _ _ _ _ _ _ _ _ _ e3 e9 _ (by rfl) (by rfl) (by decide) Og_4.out Os_4.out Pg_4.out Ps_4.out).mono ?_
  rintro e w5 ⟨rfl, hb⟩
  have HB5 := hide (HB4.out.trans (hb.mono HB4.out.size))
  have hs5 : w4.heap.size ≤ w5.heap.size := hb.size
  have bs_0_5 : w5.cell? ⟨w1.heap.size, 0, none⟩ = some (.slice (some ⟨g_s, 0, none⟩) 3 3) := by rw [hb.cell ts_4]; exact bs_0_4
  have bs_1_5 : w5.cell? ⟨w1.heap.size, 1, none⟩ = some (.slice (some ⟨k_s, 0, none⟩) 9 9) := by rw [hb.cell ts_4]; exact bs_1_4
  have ts_5 : w1.heap.size < w5.heap.size := Nat.lt_of_lt_of_le ts_4 hs5
  clear bs_0_4 bs_1_4 ts_4
  have bg_0_5 : w5.cell? ⟨w3.heap.size, 0, none⟩ = some (.slice (some ⟨g_g, 0, none⟩) 3 3) := by rw [hb.cell tg_4]; exact bg_0_4
  have bg_1_5 : w5.cell? ⟨w3.heap.size, 1, none⟩ = some (.slice (some ⟨k_g, 0, none⟩) 9 9) := by rw [hb.cell tg_4]; exact bg_1_4
  have tg_5 : w3.heap.size < w5.heap.size := Nat.lt_of_lt_of_le tg_4 hs5
  clear bg_0_4 bg_1_4 tg_4
  have Os_5 := hide (rdM_at Os_4.out hb)
  clear Os_4
  have Ps_5 := hide (rdM_at Ps_4.out hb)
  clear Ps_4
  have Og_5 := hide (rdM_at Og_4.out hb)
  clear Og_4
  have Pg_5 := hide (rdM_at Pg_4.out hb)
  clear Pg_4
  clear hb
  go_wp2_with fail
  refine (markLists_nil _ _ 3 _ 9 _ _ (by omega) (by omega) Og_5.out Pg_5.out).mono ?_
  rintro e w6 ⟨rfl, hb⟩
  have HB6 := hide (HB5.out.trans (hb.mono HB5.out.size))
  have hs6 : w5.heap.size ≤ w6.heap.size := hb.size
  have bs_0_6 : w6.cell? ⟨w1.heap.size, 0, none⟩ = some (.slice (some ⟨g_s, 0, none⟩) 3 3) := by rw [hb.cell ts_5]; exact bs_0_5
  have bs_1_6 : w6.cell? ⟨w1.heap.size, 1, none⟩ = some (.slice (some ⟨k_s, 0, none⟩) 9 9) := by rw [hb.cell ts_5]; exact bs_1_5
  have ts_6 : w1.heap.size < w6.heap.size := Nat.lt_of_lt_of_le ts_5 hs6
  clear bs_0_5 bs_1_5 ts_5
  have bg_0_6 : w6.cell? ⟨w3.heap.size, 0, none⟩ = some (.slice (some ⟨g_g, 0, none⟩) 3 3) := by rw [hb.cell tg_5]; exact bg_0_5
  have bg_1_6 : w6.cell? ⟨w3.heap.size, 1, none⟩ = some (.slice (some ⟨k_g, 0, none⟩) 9 9) := by rw [hb.cell tg_5]; exact bg_1_5
  have tg_6 : w3.heap.size < w6.heap.size := Nat.lt_of_lt_of_le tg_5 hs6
  clear bg_0_5 bg_1_5 tg_5
  have Os_6 := hide (rdM_at Os_5.out hb)
  clear Os_5
  have Ps_6 := hide (rdM_at Ps_5.out hb)
  clear Ps_5
  have Og_6 := hide (rdM_at Og_5.out hb)
  clear Og_5
  have Pg_6 := hide (rdM_at Pg_5.out hb)
  clear Pg_5
  clear hb
  go_wp2_with fail
  refine (heldLists_nil _ _ 3 _ 9 _ _ (by omega) (by omega) Og_6.out Pg_6.out).mono ?_
  rintro e w7 ⟨rfl, hb⟩
  have HB7 := hide (HB6.out.trans (hb.mono HB6.out.size))
  have hs7 : w6.heap.size ≤ w7.heap.size := hb.size
  have bs_0_7 : w7.cell? ⟨w1.heap.size, 0, none⟩ = some (.slice (some ⟨g_s, 0, none⟩) 3 3) := by rw [hb.cell ts_6]; exact bs_0_6
  have bs_1_7 : w7.cell? ⟨w1.heap.size, 1, none⟩ = some (.slice (some ⟨k_s, 0, none⟩) 9 9) := by rw [hb.cell ts_6]; exact bs_1_6
  have ts_7 : w1.heap.size < w7.heap.size := Nat.lt_of_lt_of_le ts_6 hs7
  clear bs_0_6 bs_1_6 ts_6
  have bg_0_7 : w7.cell? ⟨w3.heap.size, 0, none⟩ = some (.slice (some ⟨g_g, 0, none⟩) 3 3) := by rw [hb.cell tg_6]; exact bg_0_6
  have bg_1_7 : w7.cell? ⟨w3.heap.size, 1, none⟩ = some (.slice (some ⟨k_g, 0, none⟩) 9 9) := by rw [hb.cell tg_6]; exact bg_1_6
  have tg_7 : w3.heap.size < w7.heap.size := Nat.lt_of_lt_of_le tg_6 hs7
  clear bg_0_6 bg_1_6 tg_6
  have Os_7 := hide (rdM_at Os_6.out hb)
  clear Os_6
  have Ps_7 := hide (rdM_at Ps_6.out hb)
  clear Ps_6
  have Og_7 := hide (rdM_at Og_6.out hb)
  clear Og_6
  have Pg_7 := hide (rdM_at Pg_6.out hb)
  clear Pg_6
  clear hb
  go_wp2_with fail
  refine (implListsNew_any _).mono ?_
  rintro e w8 ⟨g_r, k_r, rfl, ho, ho', hb⟩
  have HB8 := hide (HB7.out.trans (hb.mono HB7.out.size))
  have hs8 : w7.heap.size ≤ w8.heap.size := hb.size
  have bs_0_8 : w8.cell? ⟨w1.heap.size, 0, none⟩ = some (.slice (some ⟨g_s, 0, none⟩) 3 3) := by rw [hb.cell ts_7]; exact bs_0_7
  have bs_1_8 : w8.cell? ⟨w1.heap.size, 1, none⟩ = some (.slice (some ⟨k_s, 0, none⟩) 9 9) := by rw [hb.cell ts_7]; exact bs_1_7
  have ts_8 : w1.heap.size < w8.heap.size := Nat.lt_of_lt_of_le ts_7 hs8
  clear bs_0_7 bs_1_7 ts_7
  have bg_0_8 : w8.cell? ⟨w3.heap.size, 0, none⟩ = some (.slice (some ⟨g_g, 0, none⟩) 3 3) := by rw [hb.cell tg_7]; exact bg_0_7
  have bg_1_8 : w8.cell? ⟨w3.heap.size, 1, none⟩ = some (.slice (some ⟨k_g, 0, none⟩) 9 9) := by rw [hb.cell tg_7]; exact bg_1_7
  have tg_8 : w3.heap.size < w8.heap.size := Nat.lt_of_lt_of_le tg_7 hs8
  clear bg_0_7 bg_1_7 tg_7
  have Os_8 := hide (rdM_at Os_7.out hb)
  clear Os_7
  have Ps_8 := hide (rdM_at Ps_7.out hb)
  clear Ps_7
  have Og_8 := hide (rdM_at Og_7.out hb)
  clear Og_7
  have Pg_8 := hide (rdM_at Pg_7.out hb)
  clear Pg_7
  clear hb
  have Or_8 := hide ho
  have Pr_8 := hide ho'
  clear ho ho'
  go_wp2_with fail
  obtain ⟨w9, hW⟩ : ∃ W : World, W = w8.alloc (.cells #[(.slice (some ⟨g_r, 0, none⟩) 3 3), (.slice (some ⟨k_r, 0, none⟩) 9 9)] 24) := ⟨_, rfl⟩
  rw [← hW]
  have hb : Below w8.heap.size w8 w9 := by rw [hW]; exact (Below.refl _ _).alloc (Nat.le_refl _) _
  have nb0 : w9.cell? ⟨w8.heap.size, 0, none⟩ = some (.slice (some ⟨g_r, 0, none⟩) 3 3) := by rw [hW]; go_simp
  have nb1 : w9.cell? ⟨w8.heap.size, 1, none⟩ = some (.slice (some ⟨k_r, 0, none⟩) 9 9) := by rw [hW]; go_simp
  have nt : w8.heap.size < w9.heap.size := by rw [hW]; simp
  clear hW
  have HB9 := hide (HB8.out.trans (hb.mono HB8.out.size))
  have hs9 : w8.heap.size ≤ w9.heap.size := hb.size
  have bs_0_9 : w9.cell? ⟨w1.heap.size, 0, none⟩ = some (.slice (some ⟨g_s, 0, none⟩) 3 3) := by rw [hb.cell ts_8]; exact bs_0_8
  have bs_1_9 : w9.cell? ⟨w1.heap.size, 1, none⟩ = some (.slice (some ⟨k_s, 0, none⟩) 9 9) := by rw [hb.cell ts_8]; exact bs_1_8
  have ts_9 : w1.heap.size < w9.heap.size := Nat.lt_of_lt_of_le ts_8 hs9
  clear bs_0_8 bs_1_8 ts_8
  have bg_0_9 : w9.cell? ⟨w3.heap.size, 0, none⟩ = some (.slice (some ⟨g_g, 0, none⟩) 3 3) := by rw [hb.cell tg_8]; exact bg_0_8
  have bg_1_9 : w9.cell? ⟨w3.heap.size, 1, none⟩ = some (.slice (some ⟨k_g, 0, none⟩) 9 9) := by rw [hb.cell tg_8]; exact bg_1_8
  have tg_9 : w3.heap.size < w9.heap.size := Nat.lt_of_lt_of_le tg_8 hs9
  clear bg_0_8 bg_1_8 tg_8
  have Os_9 := hide (rdM_at Os_8.out hb)
  clear Os_8
  have Ps_9 := hide (rdM_at Ps_8.out hb)
  clear Ps_8
  have Og_9 := hide (rdM_at Og_8.out hb)
  clear Og_8
  have Pg_9 := hide (rdM_at Pg_8.out hb)
  clear Pg_8
  have Or_9 := hide (rdM_at Or_8.out hb)
  clear Or_8
  have Pr_9 := hide (rdM_at Pr_8.out hb)
  clear Pr_8
  clear hb
  have br_0_9 := nb0
  have br_1_9 := nb1
  have tr_9 := nt
  have ur := nt
  clear nb0 nb1 nt
  refine (eqLists_same _ _ _ _ _ _ _ _ _ _ e3 e9 _ (by rfl) (by rfl) (by decide) Or_9.out Os_9.out Pr_9.out Ps_9.out).mono ?_
  rintro e w10 ⟨rfl, hb⟩
  have HB10 := hide (HB9.out.trans (hb.mono HB9.out.size))
  have hs10 : w9.heap.size ≤ w10.heap.size := hb.size
  have bs_0_10 : w10.cell? ⟨w1.heap.size, 0, none⟩ = some (.slice (some ⟨g_s, 0, none⟩) 3 3) := by rw [hb.cell ts_9]; exact bs_0_9
  have bs_1_10 : w10.cell? ⟨w1.heap.size, 1, none⟩ = some (.slice (some ⟨k_s, 0, none⟩) 9 9) := by rw [hb.cell ts_9]; exact bs_1_9
  have ts_10 : w1.heap.size < w10.heap.size := Nat.lt_of_lt_of_le ts_9 hs10
  clear bs_0_9 bs_1_9 ts_9
  have bg_0_10 : w10.cell? ⟨w3.heap.size, 0, none⟩ = some (.slice (some ⟨g_g, 0, none⟩) 3 3) := by rw [hb.cell tg_9]; exact bg_0_9
  have bg_1_10 : w10.cell? ⟨w3.heap.size, 1, none⟩ = some (.slice (some ⟨k_g, 0, none⟩) 9 9) := by rw [hb.cell tg_9]; exact bg_1_9
  have tg_10 : w3.heap.size < w10.heap.size := Nat.lt_of_lt_of_le tg_9 hs10
  clear bg_0_9 bg_1_9 tg_9
  have br_0_10 : w10.cell? ⟨w8.heap.size, 0, none⟩ = some (.slice (some ⟨g_r, 0, none⟩) 3 3) := by rw [hb.cell tr_9]; exact br_0_9
  have br_1_10 : w10.cell? ⟨w8.heap.size, 1, none⟩ = some (.slice (some ⟨k_r, 0, none⟩) 9 9) := by rw [hb.cell tr_9]; exact br_1_9
  have tr_10 : w8.heap.size < w10.heap.size := Nat.lt_of_lt_of_le tr_9 hs10
  clear br_0_9 br_1_9 tr_9
  have Os_10 := hide (rdM_at Os_9.out hb)
  clear Os_9
  have Ps_10 := hide (rdM_at Ps_9.out hb)
  clear Ps_9
  have Og_10 := hide (rdM_at Og_9.out hb)
  clear Og_9
  have Pg_10 := hide (rdM_at Pg_9.out hb)
  clear Pg_9
  have Or_10 := hide (rdM_at Or_9.out hb)
  clear Or_9
  have Pr_10 := hide (rdM_at Pr_9.out hb)
  clear Pr_9
  clear hb
  clear Or_10 Pr_10
  go_wp2_with fail
  refine (heldLists_nil _ _ 3 _ 9 _ _ (by omega) (by omega) Og_10.out Pg_10.out).mono ?_
  rintro e w11 ⟨rfl, hb⟩
  have HB11 := hide (HB10.out.trans (hb.mono HB10.out.size))
  have hs11 : w10.heap.size ≤ w11.heap.size := hb.size
  have bs_0_11 : w11.cell? ⟨w1.heap.size, 0, none⟩ = some (.slice (some ⟨g_s, 0, none⟩) 3 3) := by rw [hb.cell ts_10]; exact bs_0_10
  have bs_1_11 : w11.cell? ⟨w1.heap.size, 1, none⟩ = some (.slice (some ⟨k_s, 0, none⟩) 9 9) := by rw [hb.cell ts_10]; exact bs_1_10
  have ts_11 : w1.heap.size < w11.heap.size := Nat.lt_of_lt_of_le ts_10 hs11
  clear bs_0_10 bs_1_10 ts_10
  have bg_0_11 : w11.cell? ⟨w3.heap.size, 0, none⟩ = some (.slice (some ⟨g_g, 0, none⟩) 3 3) := by rw [hb.cell tg_10]; exact bg_0_10
  have bg_1_11 : w11.cell? ⟨w3.heap.size, 1, none⟩ = some (.slice (some ⟨k_g, 0, none⟩) 9 9) := by rw [hb.cell tg_10]; exact bg_1_10
  have tg_11 : w3.heap.size < w11.heap.size := Nat.lt_of_lt_of_le tg_10 hs11
  clear bg_0_10 bg_1_10 tg_10
  have br_0_11 : w11.cell? ⟨w8.heap.size, 0, none⟩ = some (.slice (some ⟨g_r, 0, none⟩) 3 3) := by rw [hb.cell tr_10]; exact br_0_10
  have br_1_11 : w11.cell? ⟨w8.heap.size, 1, none⟩ = some (.slice (some ⟨k_r, 0, none⟩) 9 9) := by rw [hb.cell tr_10]; exact br_1_10
  have tr_11 : w8.heap.size < w11.heap.size := Nat.lt_of_lt_of_le tr_10 hs11
  clear br_0_10 br_1_10 tr_10
  have Os_11 := hide (rdM_at Os_10.out hb)
  clear Os_10
  have Ps_11 := hide (rdM_at Ps_10.out hb)
  clear Ps_10
  have Og_11 := hide (rdM_at Og_10.out hb)
  clear Og_10
  have Pg_11 := hide (rdM_at Pg_10.out hb)
  clear Pg_10
  clear hb
  go_wp2
  go_ret
  exact ⟨rfl, HB11.out⟩
end Go.Proofs.Ytafhfikcpgjnaaa
