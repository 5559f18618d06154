/-
  ListsNew: lists with no slot on them. The contracts and the walk of the law.
-/
import Derived.Test.YtdhocncfpapncabLsts
namespace Go.Proofs.Ytdhocncfpapncab
open Go.RowKit
set_option linter.unusedVariables false

def e3 : List (List Int) := List.replicate 3 []
def e9 : List (List Int) := List.replicate 9 []
theorem run_mk (n : Nat) (hn : n ≤ 1000) (w : World) :
    (Instr.makeSlice 24 (.int .i64 (n : Int)) (.int .i64 (n : Int))).run Try.prog w = .ok (.slice (some ⟨w.heap.size, 0, none⟩) n n) (w.alloc (.cells (madeCells #[.slice none 0 0] n) 37)) := by
  obtain ⟨i, hi, hzz⟩ := Option.map_eq_some_iff.1 listInfo
  simp only [Prod.mk.injEq] at hzz
  obtain ⟨hz, hs, hb⟩ := hzz
  have hr := run_make (P := Try.prog) w 24 37 i (.agg #[.slice none 0 0]) Try.underlying24 hi hz .i64 .i64 n n (by omega) (Int.le_refl _) (by rw [hb]; omega) (by omega)
  simp only [Int.toNat_natCast, hs, Nat.mul_one] at hr
  exact hr
/-- Two rows of empty slices, new. -/
def NewRes (w w' : World) (e : Ending) : Prop :=
  ∃ g g', e = .returned (.agg #[.slice (some ⟨g, 0, none⟩) 3 3, .slice (some ⟨g', 0, none⟩) 9 9]) ∧ RdM w' (some ⟨g, 0, none⟩) e3 w'.heap.size ∧ RdM w' (some ⟨g', 0, none⟩) e9 w'.heap.size ∧ Below w.heap.size w w'
theorem rd_made {w : World} {g n : Nat} (h : w.rowIs g 37 n (fun _ => .slice none 0 0)) (hg : g < w.heap.size) : RdM w (some ⟨g, 0, none⟩) (List.replicate n []) w.heap.size := fun j hj => by
  rw [List.length_replicate] at hj
  have hc := h.cell hj
  have e : (List.replicate n ([] : List Int)).getD j [] = [] := by simp [List.getD, hj]
  exact ⟨g, 0, none, 0, 0, rfl, hg, by rw [Nat.zero_add]; exact hc, by rw [e]; rfl, Nat.le_refl _, Nat.zero_le _, by rw [e]; exact RdB.nil⟩
theorem new_rows (w : World) (o : Obj) (n m : Nat) :
    (((w.alloc o).alloc (.cells (madeCells #[.slice none 0 0] n) 37)).alloc (.cells (madeCells #[.slice none 0 0] m) 37)).rowIs (w.heap.size + 1) 37 n (fun _ => .slice none 0 0) ∧
    (((w.alloc o).alloc (.cells (madeCells #[.slice none 0 0] n) 37)).alloc (.cells (madeCells #[.slice none 0 0] m) 37)).rowIs (w.heap.size + 1 + 1) 37 m (fun _ => .slice none 0 0) ∧
    Below w.heap.size w (((w.alloc o).alloc (.cells (madeCells #[.slice none 0 0] n) 37)).alloc (.cells (madeCells #[.slice none 0 0] m) 37)) := by
  have e1 : (w.alloc o).heap.size = w.heap.size + 1 := by simp
  have h1 := World.rowIs_made (w.alloc o) (.slice none 0 0) n 37
  have e2 : ((w.alloc o).alloc (.cells (madeCells #[.slice none 0 0] n) 37)).heap.size = w.heap.size + 1 + 1 := by simp
  have h2 := World.rowIs_made ((w.alloc o).alloc (.cells (madeCells #[.slice none 0 0] n) 37)) (.slice none 0 0) m 37
  rw [e1] at h1
  rw [e2] at h2
  exact ⟨rowIs_below h1 ((Below.refl _ _).alloc (Nat.le_refl _) _) (by rw [e2]; omega), h2, (((Below.refl _ _).alloc (Nat.le_refl _) _).alloc (by simp) _).alloc (by simp <;> omega) _⟩
/-! marks on empty lists -/
theorem nil_at (n j : Nat) : ((List.replicate n ([] : List Int)).getD j []).length = 0 := by
  by_cases hj : j < n
  · simp [List.getD, hj]
  · simp [List.getD, hj]

set_option maxRecDepth 100000 in
set_option maxHeartbeats 1600000 in
theorem specListsNew_any (w : World) : Calls Try.prog 48 #[] w fun e w' => NewRes w w' e := by
  obtain ⟨n, hn⟩ : ∃ n : Nat, n = 3 := ⟨_, rfl⟩
  obtain ⟨m, hm⟩ : ∃ m : Nat, m = 9 := ⟨_, rfl⟩
  have mk3 := run_mk n (by omega)
  have mk9 := run_mk m (by omega)
  have i3 : (n : Int) = 3 := by omega
  have i9 : (m : Int) = 9 := by omega
  rw [i3] at mk3
  rw [i9] at mk9
  have H3 := hide hn
  have H9 := hide hm
  clear i3 i9 hn hm
  go_enter Try.func48, Try.ntmps48
  go_wp2_with fail
  go_region
  all_goals go_wp2_with fail
  · obtain ⟨h1, h2, hb⟩ := new_rows w (.cells #[.slice (some ⟨w.heap.size + 1, 0, none⟩) n n, .slice (some ⟨w.heap.size + 1 + 1, 0, none⟩) m m] 26) n m
    obtain rfl := H3.out
    obtain rfl := H9.out
    exact bodyPost_ret (v := .agg #[.slice (some ⟨w.heap.size + 1, 0, none⟩) 3 3, .slice (some ⟨w.heap.size + 1 + 1, 0, none⟩) 9 9]) (by simp [results, Try.results48, go_sem]) rfl
      ⟨_, _, rfl, rd_made h1 h1.lt, rd_made h2 h2.lt, hb.drew⟩
  · obtain ⟨h1, h2, hb⟩ := new_rows w (.cells #[.slice (some ⟨w.heap.size + 1 + 1, 0, none⟩) n n, .slice (some ⟨w.heap.size + 1, 0, none⟩) m m] 26) m n
    obtain rfl := H3.out
    obtain rfl := H9.out
    exact bodyPost_ret (v := .agg #[.slice (some ⟨w.heap.size + 1 + 1, 0, none⟩) 3 3, .slice (some ⟨w.heap.size + 1, 0, none⟩) 9 9]) (by simp [results, Try.results48, go_sem]) rfl
      ⟨_, _, rfl, rd_made h2 h2.lt, rd_made h1 h1.lt, hb.drew⟩

end Go.Proofs.Ytdhocncfpapncab
