/-
  Small contracts on slots and places, and the draw of two spans (DrawApart).
-/
import Derived.Test.YthgnhdnedenbfacClassL
import Derived.Test.YthgnhdnedenbfacSpan
import Derived.Test.YthgnhdnedenbfacAt
import Derived.Test.YthgnhdnedenbfacDraw0
import Derived.Deep.LoopGhost
import Derived.IntWalk
namespace Go.Proofs.Ythgnhdnedenbfac
open Go.RowKit
set_option linter.unusedVariables false

theorem slotAt_at (p i : Nat) (hp : p < 6) (hi : i < 4) (w : World) : Calls Try.prog 6 #[.int .i64 (p : Int), .int .i64 (i : Int)] w fun e w' => e = .returned (.int .i64 ((p * 4 + i : Nat) : Int)) ∧ w = w' := by
  have h1 : (p : Int) ≤ 5 := by omega
  have h2 : (i : Int) ≤ 3 := by omega
  have e : (p : Int) * 4 + (i : Int) = ((p * 4 + i : Nat) : Int) := by omega
  have H := hide e
  clear e
  go_enter Try.func6, Try.ntmps6
  go_wp2
  go_ret
  exact ⟨ret_int H.out, rfl⟩
theorem pageOf_at (p i S : Nat) (hS : S = p * 4 + i) (hp : p < 6) (hi : i < 4) (w : World) : Calls Try.prog 7 #[.int .i64 (S : Int)] w fun e w' => e = .returned (.int .i64 (p : Int)) ∧ w = w' := by
  have h1 : (S : Int) ≤ 23 := by omega
  have H : Hid ((S : Int) / 4 = (p : Int)) := hide (by omega)
  clear hS
  go_enter Try.func7, Try.ntmps7
  go_wp2
  go_ret
  exact ⟨ret_int H.out, rfl⟩
theorem indexOf_at (p i S : Nat) (hS : S = p * 4 + i) (hp : p < 6) (hi : i < 4) (w : World) : Calls Try.prog 8 #[.int .i64 (S : Int)] w fun e w' => e = .returned (.int .i64 (i : Int)) ∧ w = w' := by
  have h1 : (S : Int) ≤ 23 := by omega
  have H : Hid ((S : Int) % 4 = (i : Int)) := hide (by omega)
  clear hS
  go_enter Try.func8, Try.ntmps8
  go_wp2
  go_ret
  exact ⟨ret_int H.out, rfl⟩
theorem apart_yes {a b c d : Int} (h : b ≤ c ∨ d ≤ a) : apartB a b c d = true := by unfold apartB; rcases h with h | h <;> simp [h]
theorem apart_sym (a b c d : Int) : apartB a b c d = apartB c d a b := by
  unfold apartB
  cases decide (b ≤ a) <;> cases decide (d ≤ c) <;> cases decide (b ≤ c) <;> cases decide (d ≤ a) <;> rfl
/-- A class with its numbers. -/
def Cls (c : Int) (P Z : Nat) : Prop := (c = 0 ∧ P = 4 ∧ Z = 8) ∨ (c = 1 ∧ P = 2 ∧ Z = 16) ∨ (c = 2 ∧ P = 1 ∧ Z = 40)
theorem Cls.per {c : Int} {P Z : Nat} (h : Cls c P Z) : perC c = P ∧ sizeC c = Z ∧ strideC c = 4 + Z := by
  rcases h with ⟨rfl, rfl, rfl⟩ | ⟨rfl, rfl, rfl⟩ | ⟨rfl, rfl, rfl⟩ <;> decide
/-- Where slot i of page p begins. -/
def genP (p Z i : Nat) : Nat := p * 64 + 8 + i * (4 + Z)
theorem gen_in {c : Int} {P Z p i : Nat} (h : Cls c P Z) (hp : p < 6) (hi : i < P) : genAtC ((p * 4 + i : Nat) : Int) c = (genP p Z i : Int) ∧ genP p Z i + 4 + Z ≤ (p + 1) * 64 ∧ P ≤ 4 ∧ 8 ≤ Z := by
  obtain ⟨h1, h2, h3⟩ := h.per
  have hP : P ≤ 4 ∧ 8 ≤ Z := by rcases h with ⟨_, rfl, rfl⟩ | ⟨_, rfl, rfl⟩ | ⟨_, rfl, rfl⟩ <;> omega
  have hb : i * (4 + Z) + 4 + Z ≤ 56 := by rcases h with ⟨_, rfl, rfl⟩ | ⟨_, rfl, rfl⟩ | ⟨_, rfl, rfl⟩ <;> omega
  refine ⟨?_, by unfold genP; omega, hP⟩
  have e4 : ((p * 4 + i : Nat) : Int) % 4 = (i : Int) := by omega
  have e5 : ((p * 4 + i : Nat) : Int) / 4 = (p : Int) := by omega
  rw [genAtC_in (by omega) (by omega) (by rw [h1, e4]; omega), e4, e5, h3]
  unfold genP
  push_cast
  rfl
theorem gen_out {c : Int} {P Z p i : Nat} (h : Cls c P Z) (hp : p < 6) (hi : P ≤ i) (h4 : i < 4) : genAtC ((p * 4 + i : Nat) : Int) c = -1 := by
  obtain ⟨h1, _, _⟩ := h.per
  exact genAtC_out (.inr (.inr (by rw [h1]; omega)))
theorem genP_apart {p Z k i : Nat} (h : k < i) : genP p Z k + 4 + Z ≤ genP p Z i := by
  unfold genP
  have : (k + 1) * (4 + Z) ≤ i * (4 + Z) := Nat.mul_le_mul_right _ h
  rw [Nat.add_mul] at this
  omega
structure DA (w wr : World) (cb : Nat) : Prop where
  cur : Cur wr cb
  r1 : wr.rowIs w.heap.size 28 2 (fun _ => .int .i64 0)
  r2 : wr.rowIs (w.heap.size + 1) 28 2 (fun _ => .int .i64 0)
  bel : Below w.heap.size w wr
  lt : w.heap.size + 1 < cb
theorem DA.drawn {w wr w' : World} {cb : Nat} (h : DA w wr cb) (hc : Cur w' cb) (hg : wr.grownBy w' (some cb)) : DA w w' cb :=
  ⟨hc, h.r1.of_block (hg.block _ h.r1.lt (by have := h.lt; simp; omega)), h.r2.of_block (hg.block _ h.r2.lt (by have := h.lt; simp; omega)), h.bel.grown hg h.bel.size (fun k e => by have := h.lt; simp only [Option.some.injEq] at e; omega), h.lt⟩
theorem DA.alloc {w wr : World} {cb : Nat} (h : DA w wr cb) (o : Obj) : DA w (wr.alloc o) cb :=
  ⟨h.cur.below ((Below.refl wr.heap.size wr).alloc (Nat.le_refl _) o) h.cur.lt, h.r1.alloc o, h.r2.alloc o, h.bel.alloc h.bel.size o, h.lt⟩
theorem DA.drew {w wr : World} {cb : Nat} (h : DA w wr cb) : DA w wr.drew cb := ⟨h.cur, h.r1, h.r2, h.bel.drew, h.lt⟩
set_option maxRecDepth 100000 in
set_option maxHeartbeats 3200000 in
theorem drawApart_any (A : Option Addr) (n c : Nat) (zs : List Int) (w : World) (hn : n = zs.length) (hz : n ≤ 1048580) (hr : RdB .u8 w A zs w.heap.size) :
    Calls Try.prog 15 #[.slice A n c] w fun e w' => (∃ a b c d : Int, e = .returned (.tuple #[.agg #[.int .i64 a, .int .i64 b], .agg #[.int .i64 c, .int .i64 d]])) ∧ Below w.heap.size w w' := by
  obtain ⟨w0, h0⟩ : ∃ W : World, W = (w.alloc (.cells #[.int .i64 0, .int .i64 0] 28)).alloc (.cells #[.int .i64 0, .int .i64 0] 28) := ⟨_, rfl⟩
  have hb0 : Below w.heap.size w w0 := by rw [h0]; exact ((Below.refl _ _).alloc (Nat.le_refl _) _).alloc (by simp) _
  have s0 : w0.heap.size = w.heap.size + 2 := by rw [h0]; simp
  have q1 : w0.rowIs w.heap.size 28 2 (fun _ => .int .i64 0) := by
    rw [h0]
    exact (World.rowIs_alloc w #[.int .i64 0, .int .i64 0] 28 (fun _ => .int .i64 0) (fun i hi => by
      have : i = 0 ∨ i = 1 := by simp at hi; omega
      rcases this with rfl | rfl <;> rfl)).alloc _
  have q2 : w0.rowIs (w.heap.size + 1) 28 2 (fun _ => .int .i64 0) := by
    have h5 := World.rowIs_alloc (w.alloc (.cells #[.int .i64 0, .int .i64 0] 28)) #[.int .i64 0, .int .i64 0] 28 (fun _ => .int .i64 0) (fun i hi => by
      have : i = 0 ∨ i = 1 := by simp at hi; omega
      rcases this with rfl | rfl <;> rfl)
    have e5 : (w.alloc (.cells #[.int .i64 0, .int .i64 0] 28)).heap.size = w.heap.size + 1 := by simp
    rw [e5] at h5
    rw [h0]; exact h5
  have HC := hide (l1New_any A n c zs w0 hn hz ((hr.below hb0 (Nat.le_refl _)).more hb0.size))
  have H0 := hide h0
  have HB0 := hide hb0
  have S0 := hide s0
  have Q1 := hide q1
  have Q2 := hide q2
  clear hn hz hr h0 hb0 s0 q1 q2
  go_enter Try.func15, Try.ntmps15
  go_wp2_with fail
  rw [← H0.out]
  refine HC.out.mono ?_
  rintro e w1 ⟨rfl, hc, hb⟩
  obtain ⟨cb, hcb⟩ : ∃ cb, cb = w0.heap.size := ⟨_, rfl⟩
  rw [← hcb] at hc ⊢
  have HD1 : Hid (DA w w1 cb) := hide ⟨hc, rowIs_below Q1.out hb Q1.out.lt, rowIs_below Q2.out hb Q2.out.lt, HB0.out.trans (hb.mono HB0.out.size), by have := S0.out; omega⟩
  clear hc hb hcb HC H0 Q1 Q2
  go_wp2_with fail
  refine (l1Below_any cb 9 _ HD1.out.cur (by omega)).mono ?_
  rintro e w2 ⟨⟨ka, rfl, hka⟩, hc, hg⟩
  have HD2 := hide (HD1.out.drawn hc hg)
  have hka2 : (ka : Int) < 9 := by omega
  clear hc hg hka
  go_wp2_with fail
  refine (l1Below_any cb 12 _ HD2.out.cur (by omega)).mono ?_
  rintro e w3 ⟨⟨kb, rfl, hkb⟩, hc, hg⟩
  have HD3 := hide (HD2.out.drawn hc hg)
  have hkb2 : (kb : Int) < 12 := by omega
  clear hc hg hkb
  go_wp2_with fail
  obtain ⟨w4, h4⟩ : ∃ W : World, W = w3.alloc (.cells #[.int .i64 (ka : Int), .int .i64 (kb : Int)] 28) := ⟨_, rfl⟩
  rw [← h4]
  have HD4 : Hid (DA w w4 cb) := hide (by rw [h4]; exact HD3.out.alloc _)
  have b0 : w4.cell? ⟨w3.heap.size, 0, none⟩ = some (.int .i64 (ka : Int)) := by rw [h4]; go_simp
  have b1 : w4.cell? ⟨w3.heap.size, 1, none⟩ = some (.int .i64 (kb : Int)) := by rw [h4]; go_simp
  have hne : w3.heap.size ≠ cb := by have := HD3.out.cur.lt; omega
  have hne1 : w.heap.size ≠ cb := by have := HD3.out.lt; omega
  have hne2 : w.heap.size + 1 ≠ cb := by have := HD3.out.lt; omega
  have hne3 : w3.heap.size ≠ w.heap.size := by have := HD3.out.r2.lt; omega
  have hne4 : w3.heap.size ≠ w.heap.size + 1 := by have := HD3.out.r2.lt; omega
  have hne5 : w.heap.size ≠ w3.heap.size := by omega
  have hne6 : w.heap.size + 1 ≠ w3.heap.size := by omega
  clear h4 HD1 HD2
  go_region_with (first | (go_at_call 25; (with_reducible refine (l1Below_any cb 5 _ (by first | exact HD4.out.cur | exact HD4.out.drew.cur | exact DA.cur (by assumption)) (by omega)).mono ?_); rintro e w5 ⟨⟨k5, rfl, hk⟩, hc, hg⟩; have hD5 : DA w w5 cb := DA.drawn (by first | exact HD4.out | exact HD4.out.drew | assumption) hc hg; have y0 := hD5.r1.cell (i := 0) (by omega); have y1 := hD5.r1.cell (i := 1) (by omega); have y2 := hD5.r2.cell (i := 0) (by omega); have y3 := hD5.r2.cell (i := 1) (by omega); have y4 := hD5.r1.frozen 0; have y5 := hD5.r1.frozen 1; have y6 := hD5.r2.frozen 0; have y7 := hD5.r2.frozen 1; have x0 := hg.cell (a := ⟨w3.heap.size, 0, none⟩) (v := .int .i64 (ka : Int)) (by go_simp) (by simp; omega); have x1 := hg.cell (a := ⟨w3.heap.size, 1, none⟩) (v := .int .i64 (kb : Int)) (by go_simp) (by simp; omega)) | (go_at_call 25; (with_reducible refine (l1Below_any cb 14 _ (by first | exact HD4.out.cur | exact HD4.out.drew.cur | exact DA.cur (by assumption)) (by omega)).mono ?_); rintro e w5 ⟨⟨k14, rfl, hk⟩, hc, hg⟩; have hD5 : DA w w5 cb := DA.drawn (by first | exact HD4.out | exact HD4.out.drew | assumption) hc hg; have y0 := hD5.r1.cell (i := 0) (by omega); have y1 := hD5.r1.cell (i := 1) (by omega); have y2 := hD5.r2.cell (i := 0) (by omega); have y3 := hD5.r2.cell (i := 1) (by omega); have y4 := hD5.r1.frozen 0; have y5 := hD5.r1.frozen 1; have y6 := hD5.r2.frozen 0; have y7 := hD5.r2.frozen 1; have x0 := hg.cell (a := ⟨w3.heap.size, 0, none⟩) (v := .int .i64 (ka : Int)) (by go_simp) (by simp; omega); have x1 := hg.cell (a := ⟨w3.heap.size, 1, none⟩) (v := .int .i64 (kb : Int)) (by go_simp) (by simp; omega)))
  all_goals
    have hfin := (((hD5.bel.setCell (p := ⟨w.heap.size, 0, none⟩) (Nat.le_refl _) (.int .i64 (ka : Int))).setCell (p := ⟨w.heap.size, 1, none⟩) (Nat.le_refl _) (.int .i64 (kb : Int))).setCell (p := ⟨w.heap.size + 1, 0, none⟩) (Nat.le_succ _) (.int .i64 (IntKind.i64.wrap (IntKind.i64.wrap ((kb : Int) + (k5 : Int)) - 2)))).setCell (p := ⟨w.heap.size + 1, 1, none⟩) (Nat.le_succ _) (.int .i64 (k14 : Int))
    have HFIN := hide hfin
    clear hfin
    go_wp2
    exact bodyPost_ret (v := .tuple #[.agg #[.int .i64 (ka : Int), .int .i64 (kb : Int)], .agg #[.int .i64 (IntKind.i64.wrap (IntKind.i64.wrap ((kb : Int) + (k5 : Int)) - 2)), .int .i64 (k14 : Int)]]) (by simp [results, Try.results15, go_sem, y0, y1, y2, y3]) rfl ⟨⟨_, _, _, _, rfl⟩, HFIN.out⟩
end Go.Proofs.Ythgnhdnedenbfac
