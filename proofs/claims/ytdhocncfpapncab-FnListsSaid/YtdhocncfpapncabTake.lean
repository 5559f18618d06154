/-
  TakeOwn and TakeGlobal: the last slot of a list taken: the contracts of both sides.
-/
import Derived.Test.YtdhocncfpapncabTake0
namespace Go.Proofs.Ytdhocncfpapncab
open Go.RowKit
set_option linter.unusedVariables false

/-- The boxes of such a function: what came in at w's end, the result behind it, the copy at p. -/
structure TB (w wr : World) (p : Nat) (u0 u1 x0 x1 : Value) : Prop where
  b0 : wr.cell? ⟨w.heap.size, 0, none⟩ = some u0
  b1 : wr.cell? ⟨w.heap.size, 1, none⟩ = some u1
  r0 : wr.cell? ⟨w.heap.size + 1, 0, none⟩ = some (.slice none 0 0)
  r1 : wr.cell? ⟨w.heap.size + 1, 1, none⟩ = some (.slice none 0 0)
  f0 : wr.frozen? ⟨w.heap.size + 1, 0, none⟩ = false
  f1 : wr.frozen? ⟨w.heap.size + 1, 1, none⟩ = false
  e0 : wr.cell? ⟨p, 0, none⟩ = some x0
  e1 : wr.cell? ⟨p, 1, none⟩ = some x1
  lt : p < wr.heap.size
  hp : w.heap.size + 1 < p
theorem TB.keep {w wr w' : World} {p : Nat} {u0 u1 x0 x1 : Value} (h : TB w wr p u0 u1 x0 x1) (hs : wr.heap.size ≤ w'.heap.size) (hk : ∀ g, g = w.heap.size ∨ g = w.heap.size + 1 ∨ g = p → w'.heap[g]? = wr.heap[g]?) : TB w w' p u0 u1 x0 x1 :=
  ⟨(World.cell?_of_block (hk _ (.inl rfl))).trans h.b0, (World.cell?_of_block (hk _ (.inl rfl))).trans h.b1, (World.cell?_of_block (hk _ (.inr (.inl rfl)))).trans h.r0, (World.cell?_of_block (hk _ (.inr (.inl rfl)))).trans h.r1,
    (World.frozen?_of_block (hk _ (.inr (.inl rfl)))).trans h.f0, (World.frozen?_of_block (hk _ (.inr (.inl rfl)))).trans h.f1, (World.cell?_of_block (hk _ (.inr (.inr rfl)))).trans h.e0, (World.cell?_of_block (hk _ (.inr (.inr rfl)))).trans h.e1, Nat.lt_of_lt_of_le h.lt hs, h.hp⟩
theorem TB.below {w wr w' : World} {p : Nat} {u0 u1 x0 x1 : Value} (h : TB w wr p u0 u1 x0 x1) (hb : Below wr.heap.size wr w') : TB w w' p u0 u1 x0 x1 :=
  h.keep hb.size fun g hg => hb.block g (by have := h.lt; have := h.hp; omega)
theorem TB.set {w wr : World} {p : Nat} {u0 u1 x0 x1 : Value} (h : TB w wr p u0 u1 x0 x1) {g k : Nat} (hg : w.heap.size + 1 < g) (hgp : g ≠ p) (u : Value) : TB w (wr.setCell ⟨g, k, none⟩ u) p u0 u1 x0 x1 :=
  h.keep (by simp [World.setCell]) fun x hx => Below.heap_setCell _ _ _ _ (by show x ≠ g; omega)
theorem TB.start {w w0 w1 w2 : World} {u0 u1 x0 x1 : Value} {t : TypeId} (h0 : w0 = (w.alloc (.cells #[u0, u1] t)).alloc (.cells #[.slice none 0 0, .slice none 0 0] t)) (hb : Below w0.heap.size w0 w1) (h2 : w2 = w1.alloc (.cells #[x0, x1] t)) :
    TB w w2 w1.heap.size u0 u1 x0 x1 ∧ Below w.heap.size w w0 ∧ Below w1.heap.size w1 w2 ∧ w0.heap.size = w.heap.size + 2 := by
  have s0 : w0.heap.size = w.heap.size + 2 := by rw [h0]; simp
  have s1 := hb.size
  have hb2 : Below w1.heap.size w1 w2 := by rw [h2]; exact (Below.refl _ _).alloc (Nat.le_refl _) _
  have hc : ∀ q : Addr, q.block < w0.heap.size → w2.cell? q = w0.cell? q := fun q hq => (hb2.cell (by omega)).trans (hb.cell hq)
  have hf : ∀ q : Addr, q.block < w0.heap.size → w2.frozen? q = w0.frozen? q := fun q hq => (hb2.frozen (by omega)).trans (hb.frozen hq)
  refine ⟨⟨?_, ?_, ?_, ?_, ?_, ?_, by rw [h2]; go_simp, by rw [h2]; go_simp, by rw [h2]; simp, by omega⟩, by rw [h0]; exact ((Below.refl _ _).alloc (Nat.le_refl _) _).alloc (by simp) _, hb2, s0⟩
  · rw [hc _ (by show w.heap.size < _; omega), h0]; go_simp
  · rw [hc _ (by show w.heap.size < _; omega), h0]; go_simp
  · rw [hc _ (by show w.heap.size + 1 < _; omega), h0]; go_simp
  · rw [hc _ (by show w.heap.size + 1 < _; omega), h0]; go_simp
  · rw [hf _ (by show w.heap.size + 1 < _; omega), h0]; go_simp
  · rw [hf _ (by show w.heap.size + 1 < _; omega), h0]; go_simp
theorem sz_set (w : World) (a : Addr) (u : Value) : (w.setCell a u).heap.size = w.heap.size := by simp [World.setCell]
def TakeRes (w w' : World) (e : Ending) (z y : List (List Int)) (s : Int) : Prop := ∃ v, e = .returned (.tuple #[v, .int .i64 s]) ∧ LRes false w w' v z y
/-- Behind the store of the result. -/
theorem TakeRes.fin {full : Bool} {w w0 wr : World} {C D : Option Addr} {n n' k m : Nat} {z y : List (List Int)} (h : LRes full w0 wr (.agg #[.slice C n k, .slice D n' m]) z y) (hb : Below w.heap.size w w0) (h2 : w0.heap.size = w.heap.size + 2) (s : Int) :
    TakeRes w ((wr.setCell ⟨w.heap.size + 1, 0, none⟩ (.slice C n k)).setCell ⟨w.heap.size + 1, 1, none⟩ (.slice D n' m)) (.returned (.tuple #[.agg #[.slice C n k, .slice D n' m], .int .i64 s])) z y s :=
  ⟨_, rfl, h.weak.touch hb (((Touch.refl _ _).setCell (by simp) _).setCell (by simp) _) (Nat.le_succ _) (by omega)⟩
theorem TakeRes.alloc {w wr : World} {e : Ending} {z y : List (List Int)} {s : Int} (h : TakeRes w wr e z y s) (o : Obj) : TakeRes w (wr.alloc o) e z y s := by
  obtain ⟨v, rfl, h⟩ := h
  exact ⟨v, rfl, h.below ((Below.refl _ _).alloc (Nat.le_refl _) _)⟩
theorem okR_lens' {z y : List (List Int)} (h : okR z y = true) : z.length = 3 ∧ y.length = 9 := by
  unfold okR at h
  simp only [Bool.and_eq_true, decide_eq_true_eq] at h
  exact h.1
def okOwn (z y : List (List Int)) (a c : Int) : Bool := okR z y && (in02 a && in02 c)
def ownY (z y : List (List Int)) (a c : Int) : List (List Int) := if okOwn z y a c = true then takeZ y (a * 3 + c).toNat else y
def ownS (z y : List (List Int)) (a c : Int) : Int := if okOwn z y a c = true then lastR (y.getD (a * 3 + c).toNat []) else -1
def okGlob (z y : List (List Int)) (c : Int) : Bool := okR z y && in02 c
def globZ (z y : List (List Int)) (c : Int) : List (List Int) := if okGlob z y c = true then takeZ z c.toNat else z
def globS (z y : List (List Int)) (c : Int) : Int := if okGlob z y c = true then lastR (z.getD c.toNat []) else -1
set_option maxRecDepth 100000 in
set_option maxHeartbeats 3200000 in
theorem implTakeOwn_any (A A' : Option Addr) (n c n' c' : Nat) (z y : List (List Int)) (a c1 : Int) (w : World) (hn : n = z.length) (hn' : n' = y.length) (hm : n + sumL z n + n' + sumL y n' ≤ 1048576) (ha : RdM w A z w.heap.size) (ha' : RdM w A' y w.heap.size) :
    Calls Try.prog 14 #[.agg #[.slice A n c, .slice A' n' c'], .int .i64 a, .int .i64 c1] w fun e w' => TakeRes w w' e z (ownY z y a c1) (ownS z y a c1) := by
  have HCP : Hid (∀ W : World, RdM W A z W.heap.size → RdM W A' y W.heap.size → Calls Try.prog 21 #[.agg #[.slice A n c, .slice A' n' c']] W fun e w' => ∃ v, e = .returned v ∧ LRes true W w' v z y) := hide (fun W h1 h2 => copyLists_any A A' n c n' c' z y W hn hn' hm h1 h2)
  have HOK : Hid (∀ W : World, RdM W A z W.heap.size → RdM W A' y W.heap.size → ∀ r, okR z y = r → Calls Try.prog 23 #[.agg #[.slice A n c, .slice A' n' c']] W fun e w' => e = .returned (.bool r) ∧ Below W.heap.size W w') := hide (fun W h1 h2 r hr => by subst hr; exact implListsOk_any A A' n c n' c' z y W hn hn' hm h1 h2)
  have HN := hide hn
  have HN' := hide hn'
  have HA := hide ha
  have HA' := hide ha'
  clear hn hn' ha ha' hm
  cases hok : okR z y
  · have hno : ¬ okOwn z y a c1 = true := by unfold okOwn; rw [hok]; simp
    have HY : Hid (ownY z y a c1 = y) := hide (by unfold ownY; rw [if_neg hno])
    have HV : Hid (ownS z y a c1 = -1) := hide (by unfold ownS; rw [if_neg hno])
    have HQ := hide hok
    have HOA : Hid (∀ W : World, Calls Try.prog 22 #[.int .i64 a, .int .i64 c1] W fun e w' => e = .returned (.int .i64 (ownR a c1)) ∧ W = w') := hide (fun W => implOwnAt_any a c1 W)
    clear hno hok
    go_enter Try.func14, Try.ntmps14
    go_wp2_with fail
    obtain ⟨w0, h0⟩ : ∃ W : World, W = (w.alloc (.cells #[.slice A n c, .slice A' n' c'] 26)).alloc (.cells #[.slice none 0 0, .slice none 0 0] 26) := ⟨_, rfl⟩
    rw [← h0]
    have hb0 : Below w.heap.size w w0 := by rw [h0]; exact ((Below.refl _ _).alloc (Nat.le_refl _) _).alloc (by simp) _
    have b0 : w0.cell? ⟨w.heap.size, 0, none⟩ = some (.slice A n c) := by rw [h0]; go_simp
    have b1 : w0.cell? ⟨w.heap.size, 1, none⟩ = some (.slice A' n' c') := by rw [h0]; go_simp
    have lw0 : w.heap.size < w0.heap.size := by rw [h0]; simp <;> omega
    have H0 := hide h0
    have HB0 := hide hb0
    clear h0 hb0
    refine (HCP.out w0 (rdM_at HA.out HB0.out) (rdM_at HA'.out HB0.out)).mono ?_
    rintro e w1 ⟨v, rfl, hL⟩
    obtain ⟨C, k, D, m, ev⟩ := hL.shape
    subst ev
    have hb01 : Below w0.heap.size w0 w1 := by obtain ⟨_, _, _, _, _, _, _, _, _, _, _, _, _, _, _, _, h⟩ := hL; exact h
    have hz1 : (z.length : Int) ≤ 9223372036854775807 := by have := hL.lens; unfold maxLen at this; omega
    have hy1 : (y.length : Int) ≤ 9223372036854775807 := by have := hL.lens; unfold maxLen at this; omega
    have c0 : w1.cell? ⟨w.heap.size, 0, none⟩ = some (.slice A n c) := (hb01.cell lw0).trans b0
    have c1' : w1.cell? ⟨w.heap.size, 1, none⟩ = some (.slice A' n' c') := (hb01.cell lw0).trans b1
    have lw1 : w.heap.size < w1.heap.size := Nat.lt_of_lt_of_le lw0 hb01.size
    have HL := hide hL
    have HB01 := hide hb01
    clear hL hb01 b0 b1 lw0
    go_wp2_with fail
    refine (HOA.out _).mono ?_
    rintro e wq ⟨rfl, rfl⟩
    go_wp2_with fail
    obtain ⟨w2, h2⟩ : ∃ W : World, W = w1.alloc (.cells #[.slice C z.length k, .slice D y.length m] 26) := ⟨_, rfl⟩
    rw [← h2]
    obtain ⟨hT, hbw, hb12, hs0⟩ := TB.start H0.out HB01.out h2
    have HT := hide hT
    have HS0 := hide hs0
    have HL2 := hide (HL.out.below hb12)
    have HB2 := hide (below_go HB0.out (below_go HB01.out hb12))
    have hL1 : w0.heap.size ≤ w1.heap.size := HB01.out.size
    have HB12 := hide hb12
    clear h2 hT hbw hb12 hs0 c0 c1' lw1
    refine (HOK.out w2 (rdM_at HA.out HB2.out) (rdM_at HA'.out HB2.out) false HQ.out).mono ?_
    rintro e w3 ⟨rfl, hb⟩
    have HT3 := hide (HT.out.below hb)
    have HL3 := hide (HL2.out.below hb)
    have HB13 := hide (below_go HB12.out hb)
    clear hb HT HL2 HB12
    have b0 := HT3.out.b0
    have b1 := HT3.out.b1
    have r0 := HT3.out.r0
    have r1 := HT3.out.r1
    have f0 := HT3.out.f0
    have f1 := HT3.out.f1
    have e0 := HT3.out.e0
    have e1 := HT3.out.e1
    have HFIN := hide (TakeRes.fin HL3.out HB0.out HS0.out (-1))
    go_wp2
    exact bodyPost_ret (v := .tuple #[.agg #[.slice C z.length k, .slice D y.length m], .int .i64 (-1)]) (by simp [results, Try.results14, go_sem, r0, r1]) rfl (by rw [HY.out, HV.out]; exact HFIN.out)
  by_cases hin : in02 a = true ∧ in02 c1 = true
  case neg =>
    have hno : ¬ okOwn z y a c1 = true := by unfold okOwn; rw [hok]; simpa using hin
    have HY : Hid (ownY z y a c1 = y) := hide (by unfold ownY; rw [if_neg hno])
    have HV : Hid (ownS z y a c1 = -1) := hide (by unfold ownS; rw [if_neg hno])
    have HQ := hide hok
    have HOA : Hid (∀ W : World, Calls Try.prog 22 #[.int .i64 a, .int .i64 c1] W fun e w' => e = .returned (.int .i64 (-1)) ∧ W = w') := hide (fun W => by rw [← ownR_neg hin]; exact implOwnAt_any a c1 W)
    clear hno hok hin
    go_enter Try.func14, Try.ntmps14
    go_wp2_with fail
    obtain ⟨w0, h0⟩ : ∃ W : World, W = (w.alloc (.cells #[.slice A n c, .slice A' n' c'] 26)).alloc (.cells #[.slice none 0 0, .slice none 0 0] 26) := ⟨_, rfl⟩
    rw [← h0]
    have hb0 : Below w.heap.size w w0 := by rw [h0]; exact ((Below.refl _ _).alloc (Nat.le_refl _) _).alloc (by simp) _
    have b0 : w0.cell? ⟨w.heap.size, 0, none⟩ = some (.slice A n c) := by rw [h0]; go_simp
    have b1 : w0.cell? ⟨w.heap.size, 1, none⟩ = some (.slice A' n' c') := by rw [h0]; go_simp
    have lw0 : w.heap.size < w0.heap.size := by rw [h0]; simp <;> omega
    have H0 := hide h0
    have HB0 := hide hb0
    clear h0 hb0
    refine (HCP.out w0 (rdM_at HA.out HB0.out) (rdM_at HA'.out HB0.out)).mono ?_
    rintro e w1 ⟨v, rfl, hL⟩
    obtain ⟨C, k, D, m, ev⟩ := hL.shape
    subst ev
    have hb01 : Below w0.heap.size w0 w1 := by obtain ⟨_, _, _, _, _, _, _, _, _, _, _, _, _, _, _, _, h⟩ := hL; exact h
    have hz1 : (z.length : Int) ≤ 9223372036854775807 := by have := hL.lens; unfold maxLen at this; omega
    have hy1 : (y.length : Int) ≤ 9223372036854775807 := by have := hL.lens; unfold maxLen at this; omega
    have c0 : w1.cell? ⟨w.heap.size, 0, none⟩ = some (.slice A n c) := (hb01.cell lw0).trans b0
    have c1' : w1.cell? ⟨w.heap.size, 1, none⟩ = some (.slice A' n' c') := (hb01.cell lw0).trans b1
    have lw1 : w.heap.size < w1.heap.size := Nat.lt_of_lt_of_le lw0 hb01.size
    have HL := hide hL
    have HB01 := hide hb01
    clear hL hb01 b0 b1 lw0
    go_wp2_with fail
    refine (HOA.out _).mono ?_
    rintro e wq ⟨rfl, rfl⟩
    go_wp2_with fail
    obtain ⟨w2, h2⟩ : ∃ W : World, W = w1.alloc (.cells #[.slice C z.length k, .slice D y.length m] 26) := ⟨_, rfl⟩
    rw [← h2]
    obtain ⟨hT, hbw, hb12, hs0⟩ := TB.start H0.out HB01.out h2
    have HT := hide hT
    have HS0 := hide hs0
    have HL2 := hide (HL.out.below hb12)
    have HB2 := hide (below_go HB0.out (below_go HB01.out hb12))
    have hL1 : w0.heap.size ≤ w1.heap.size := HB01.out.size
    have HB12 := hide hb12
    clear h2 hT hbw hb12 hs0 c0 c1' lw1
    refine (HOK.out w2 (rdM_at HA.out HB2.out) (rdM_at HA'.out HB2.out) true HQ.out).mono ?_
    rintro e w3 ⟨rfl, hb⟩
    have HT3 := hide (HT.out.below hb)
    have HL3 := hide (HL2.out.below hb)
    have HB13 := hide (below_go HB12.out hb)
    clear hb HT HL2 HB12
    have b0 := HT3.out.b0
    have b1 := HT3.out.b1
    have r0 := HT3.out.r0
    have r1 := HT3.out.r1
    have f0 := HT3.out.f0
    have f1 := HT3.out.f1
    have e0 := HT3.out.e0
    have e1 := HT3.out.e1
    have HFIN := hide (TakeRes.fin HL3.out HB0.out HS0.out (-1))
    go_wp2
    exact bodyPost_ret (v := .tuple #[.agg #[.slice C z.length k, .slice D y.length m], .int .i64 (-1)]) (by simp [results, Try.results14, go_sem, r0, r1]) rfl (by rw [HY.out, HV.out]; exact HFIN.out)
  obtain ⟨hi1, hi2⟩ := hin
  have hyes : okOwn z y a c1 = true := by unfold okOwn; rw [hok, hi1, hi2]; rfl
  obtain ⟨i, rfl, hi⟩ := in02_nat hi1
  obtain ⟨j, rfl, hj⟩ := in02_nat hi2
  obtain ⟨q, hq⟩ : ∃ q : Nat, q = i * 3 + j := ⟨_, rfl⟩
  have hqn : ((i : Int) * 3 + (j : Int)).toNat = q := by omega
  have HY : Hid (ownY z y i j = takeZ y q) := hide (by unfold ownY; rw [if_pos hyes, hqn])
  have HV : Hid (ownS z y i j = lastR (y.getD q [])) := hide (by unfold ownS; rw [if_pos hyes, hqn])
  have hq9 : q < 9 := by omega
  have HOA : Hid (∀ W : World, Calls Try.prog 22 #[.int .i64 (i : Int), .int .i64 (j : Int)] W fun e w' => e = .returned (.int .i64 (q : Int)) ∧ W = w') := hide (fun W => by rw [hq, ← ownR_nat hi hj]; exact implOwnAt_any i j W)
  have H39 := hide (okR_lens' hok)
  have HQ := hide hok
  clear hok hi1 hi2 hyes hq hqn
  go_enter Try.func14, Try.ntmps14
  go_wp2_with fail
  obtain ⟨w0, h0⟩ : ∃ W : World, W = (w.alloc (.cells #[.slice A n c, .slice A' n' c'] 26)).alloc (.cells #[.slice none 0 0, .slice none 0 0] 26) := ⟨_, rfl⟩
  rw [← h0]
  have hb0 : Below w.heap.size w w0 := by rw [h0]; exact ((Below.refl _ _).alloc (Nat.le_refl _) _).alloc (by simp) _
  have b0 : w0.cell? ⟨w.heap.size, 0, none⟩ = some (.slice A n c) := by rw [h0]; go_simp
  have b1 : w0.cell? ⟨w.heap.size, 1, none⟩ = some (.slice A' n' c') := by rw [h0]; go_simp
  have lw0 : w.heap.size < w0.heap.size := by rw [h0]; simp <;> omega
  have H0 := hide h0
  have HB0 := hide hb0
  clear h0 hb0
  refine (HCP.out w0 (rdM_at HA.out HB0.out) (rdM_at HA'.out HB0.out)).mono ?_
  rintro e w1 ⟨v, rfl, hL⟩
  obtain ⟨C, k, D, m, ev⟩ := hL.shape
  subst ev
  have hb01 : Below w0.heap.size w0 w1 := by obtain ⟨_, _, _, _, _, _, _, _, _, _, _, _, _, _, _, _, h⟩ := hL; exact h
  have hz1 : (z.length : Int) ≤ 9223372036854775807 := by have := hL.lens; unfold maxLen at this; omega
  have hy1 : (y.length : Int) ≤ 9223372036854775807 := by have := hL.lens; unfold maxLen at this; omega
  have c0 : w1.cell? ⟨w.heap.size, 0, none⟩ = some (.slice A n c) := (hb01.cell lw0).trans b0
  have c1' : w1.cell? ⟨w.heap.size, 1, none⟩ = some (.slice A' n' c') := (hb01.cell lw0).trans b1
  have lw1 : w.heap.size < w1.heap.size := Nat.lt_of_lt_of_le lw0 hb01.size
  have HL := hide hL
  have HB01 := hide hb01
  clear hL hb01 b0 b1 lw0
  go_wp2_with fail
  refine (HOA.out _).mono ?_
  rintro e wq ⟨rfl, rfl⟩
  go_wp2_with fail
  obtain ⟨w2, h2⟩ : ∃ W : World, W = w1.alloc (.cells #[.slice C z.length k, .slice D y.length m] 26) := ⟨_, rfl⟩
  rw [← h2]
  obtain ⟨hT, hbw, hb12, hs0⟩ := TB.start H0.out HB01.out h2
  have HT := hide hT
  have HS0 := hide hs0
  have HL2 := hide (HL.out.below hb12)
  have HB2 := hide (below_go HB0.out (below_go HB01.out hb12))
  have hL1 : w0.heap.size ≤ w1.heap.size := HB01.out.size
  have HB12 := hide hb12
  clear h2 hT hbw hb12 hs0 c0 c1' lw1
  refine (HOK.out w2 (rdM_at HA.out HB2.out) (rdM_at HA'.out HB2.out) true HQ.out).mono ?_
  rintro e w3 ⟨rfl, hb⟩
  have HT3 := hide (HT.out.below hb)
  have HL3 := hide (HL2.out.below hb)
  have HB13 := hide (below_go HB12.out hb)
  clear hb HT HL2 HB12
  have b0 := HT3.out.b0
  have b1 := HT3.out.b1
  have r0 := HT3.out.r0
  have r1 := HT3.out.r1
  have f0 := HT3.out.f0
  have f1 := HT3.out.f1
  have e0 := HT3.out.e0
  have e1 := HT3.out.e1
  obtain ⟨g, A2, n2, c2, rfl, hg0, hg1, hcell, hfz, hn2, hnc2, hcm2, hrd, hput⟩ := HL.out.put1 (i := q) (by have := H39.out; omega)
  have hlen := HL3.out.lens
  have hqk : q < m := by have := H39.out; omega
  have hqz : (q : Int) < (y.length : Int) := by have := H39.out; omega
  have hq0 : ¬ (q : Int) < 0 := by omega
  have hgp : g ≠ w1.heap.size := Nat.ne_of_lt hg1
  have hcell := (HB13.out.cell (p := ⟨g, q, none⟩) hg1).trans hcell
  have hfz := (HB13.out.frozen (p := ⟨g, q, none⟩) hg1).trans hfz
  have hrd := (hrd.below HB13.out (Nat.le_refl _)).more HB13.out.size
  have HPUT := hide hput
  have HRD := hide hrd
  have HN2 := hide hn2
  clear hlen hput hrd hn2
  have hng : w.heap.size + 1 ≠ g := by have := HS0.out; omega
  have hgn : g ≠ w.heap.size + 1 := fun e => hng e.symm
  have hpg : w1.heap.size ≠ g := fun e => hgp e.symm
  obtain ⟨x, hx⟩ : ∃ x, x = lastR (y.getD q []) := ⟨_, rfl⟩
  have HX := hide hx
  clear hx
  go_wp2_with fail
  refine (pop_any g q A2 n2 c2 _ w3 hcell hfz HN2.out hnc2 hcm2 HRD.out).mono ?_
  rintro e w4 ⟨rfl, ⟨hn0, rfl⟩ | rfl⟩
  · rw [← HX.out]
    have HFIN := hide (TakeRes.fin HL3.out HB0.out HS0.out x)
    have HNIL : Hid (takeZ y q = y) := hide (takeZ_nil y (by rw [← HN2.out]; exact hn0))
    clear hcell hfz hrd hn0
    go_wp2
    exact bodyPost_ret (v := .tuple #[.agg #[.slice C z.length k, .slice (some ⟨g, 0, none⟩) y.length m], .int .i64 x]) (by simp [results, Try.results14, go_sem, r0, r1]) rfl (by rw [HY.out, HV.out, ← HX.out, HNIL.out]; exact HFIN.out)
  · rw [← HX.out]
    obtain ⟨n3, hn3⟩ : ∃ n3, n3 = n2 - 1 := ⟨_, rfl⟩
    have hL5 := HPUT.out w3 HB13.out (n2 - 1) (Nat.le_refl _) (by omega)
    rw [← hn3] at hL5
    rw [← hn3]
    have HFIN := hide (TakeRes.fin hL5 HB0.out HS0.out x)
    clear hcell hfz hrd hn3 hL5
    go_wp2
    exact bodyPost_ret (v := .tuple #[.agg #[.slice C z.length k, .slice (some ⟨g, 0, none⟩) y.length m], .int .i64 x]) (by simp [results, Try.results14, go_sem, r0, r1]) rfl (by rw [HY.out, HV.out, ← HX.out]; exact HFIN.out)
set_option maxRecDepth 100000 in
set_option maxHeartbeats 3200000 in
theorem implTakeGlobal_any (A A' : Option Addr) (n c n' c' : Nat) (z y : List (List Int)) (c1 : Int) (w : World) (hn : n = z.length) (hn' : n' = y.length) (hm : n + sumL z n + n' + sumL y n' ≤ 1048576) (ha : RdM w A z w.heap.size) (ha' : RdM w A' y w.heap.size) :
    Calls Try.prog 15 #[.agg #[.slice A n c, .slice A' n' c'], .int .i64 c1] w fun e w' => TakeRes w w' e (globZ z y c1) y (globS z y c1) := by
  have HCP : Hid (∀ W : World, RdM W A z W.heap.size → RdM W A' y W.heap.size → Calls Try.prog 21 #[.agg #[.slice A n c, .slice A' n' c']] W fun e w' => ∃ v, e = .returned v ∧ LRes true W w' v z y) := hide (fun W h1 h2 => copyLists_any A A' n c n' c' z y W hn hn' hm h1 h2)
  have HOK : Hid (∀ W : World, RdM W A z W.heap.size → RdM W A' y W.heap.size → ∀ r, okR z y = r → Calls Try.prog 23 #[.agg #[.slice A n c, .slice A' n' c']] W fun e w' => e = .returned (.bool r) ∧ Below W.heap.size W w') := hide (fun W h1 h2 r hr => by subst hr; exact implListsOk_any A A' n c n' c' z y W hn hn' hm h1 h2)
  have HN := hide hn
  have HN' := hide hn'
  have HA := hide ha
  have HA' := hide ha'
  clear hn hn' ha ha' hm
  cases hok : okR z y
  · have hno : ¬ okGlob z y c1 = true := by unfold okGlob; rw [hok]; simp
    have HY : Hid (globZ z y c1 = z) := hide (by unfold globZ; rw [if_neg hno])
    have HV : Hid (globS z y c1 = -1) := hide (by unfold globS; rw [if_neg hno])
    have HQ := hide hok
    clear hno hok
    go_enter Try.func15, Try.ntmps15
    go_wp2_with fail
    obtain ⟨w0, h0⟩ : ∃ W : World, W = (w.alloc (.cells #[.slice A n c, .slice A' n' c'] 26)).alloc (.cells #[.slice none 0 0, .slice none 0 0] 26) := ⟨_, rfl⟩
    rw [← h0]
    have hb0 : Below w.heap.size w w0 := by rw [h0]; exact ((Below.refl _ _).alloc (Nat.le_refl _) _).alloc (by simp) _
    have b0 : w0.cell? ⟨w.heap.size, 0, none⟩ = some (.slice A n c) := by rw [h0]; go_simp
    have b1 : w0.cell? ⟨w.heap.size, 1, none⟩ = some (.slice A' n' c') := by rw [h0]; go_simp
    have lw0 : w.heap.size < w0.heap.size := by rw [h0]; simp <;> omega
    have H0 := hide h0
    have HB0 := hide hb0
    clear h0 hb0
    refine (HCP.out w0 (rdM_at HA.out HB0.out) (rdM_at HA'.out HB0.out)).mono ?_
    rintro e w1 ⟨v, rfl, hL⟩
    obtain ⟨C, k, D, m, ev⟩ := hL.shape
    subst ev
    have hb01 : Below w0.heap.size w0 w1 := by obtain ⟨_, _, _, _, _, _, _, _, _, _, _, _, _, _, _, _, h⟩ := hL; exact h
    have hz1 : (z.length : Int) ≤ 9223372036854775807 := by have := hL.lens; unfold maxLen at this; omega
    have hy1 : (y.length : Int) ≤ 9223372036854775807 := by have := hL.lens; unfold maxLen at this; omega
    have c0 : w1.cell? ⟨w.heap.size, 0, none⟩ = some (.slice A n c) := (hb01.cell lw0).trans b0
    have c1' : w1.cell? ⟨w.heap.size, 1, none⟩ = some (.slice A' n' c') := (hb01.cell lw0).trans b1
    have lw1 : w.heap.size < w1.heap.size := Nat.lt_of_lt_of_le lw0 hb01.size
    have HL := hide hL
    have HB01 := hide hb01
    clear hL hb01 b0 b1 lw0
    go_wp2_with fail
    obtain ⟨w2, h2⟩ : ∃ W : World, W = w1.alloc (.cells #[.slice C z.length k, .slice D y.length m] 26) := ⟨_, rfl⟩
    rw [← h2]
    obtain ⟨hT, hbw, hb12, hs0⟩ := TB.start H0.out HB01.out h2
    have HT := hide hT
    have HS0 := hide hs0
    have HL2 := hide (HL.out.below hb12)
    have HB2 := hide (below_go HB0.out (below_go HB01.out hb12))
    have hL1 : w0.heap.size ≤ w1.heap.size := HB01.out.size
    have HB12 := hide hb12
    clear h2 hT hbw hb12 hs0 c0 c1' lw1
    refine (HOK.out w2 (rdM_at HA.out HB2.out) (rdM_at HA'.out HB2.out) false HQ.out).mono ?_
    rintro e w3 ⟨rfl, hb⟩
    have HT3 := hide (HT.out.below hb)
    have HL3 := hide (HL2.out.below hb)
    have HB13 := hide (below_go HB12.out hb)
    clear hb HT HL2 HB12
    have b0 := HT3.out.b0
    have b1 := HT3.out.b1
    have r0 := HT3.out.r0
    have r1 := HT3.out.r1
    have f0 := HT3.out.f0
    have f1 := HT3.out.f1
    have e0 := HT3.out.e0
    have e1 := HT3.out.e1
    have HFIN := hide (TakeRes.fin HL3.out HB0.out HS0.out (-1))
    go_wp2
    exact bodyPost_ret (v := .tuple #[.agg #[.slice C z.length k, .slice D y.length m], .int .i64 (-1)]) (by simp [results, Try.results15, go_sem, r0, r1]) rfl (by rw [HY.out, HV.out]; exact HFIN.out)
  by_cases hin : in02 c1 = true
  case neg =>
    have hno : ¬ okGlob z y c1 = true := by unfold okGlob; rw [hok]; simpa using hin
    have HY : Hid (globZ z y c1 = z) := hide (by unfold globZ; rw [if_neg hno])
    have HV : Hid (globS z y c1 = -1) := hide (by unfold globS; rw [if_neg hno])
    have HQ := hide hok
    have HI : Hid (in02 c1 = false) := hide (by simpa using hin)
    clear hno hok hin
    go_enter Try.func15, Try.ntmps15
    go_wp2_with fail
    obtain ⟨w0, h0⟩ : ∃ W : World, W = (w.alloc (.cells #[.slice A n c, .slice A' n' c'] 26)).alloc (.cells #[.slice none 0 0, .slice none 0 0] 26) := ⟨_, rfl⟩
    rw [← h0]
    have hb0 : Below w.heap.size w w0 := by rw [h0]; exact ((Below.refl _ _).alloc (Nat.le_refl _) _).alloc (by simp) _
    have b0 : w0.cell? ⟨w.heap.size, 0, none⟩ = some (.slice A n c) := by rw [h0]; go_simp
    have b1 : w0.cell? ⟨w.heap.size, 1, none⟩ = some (.slice A' n' c') := by rw [h0]; go_simp
    have lw0 : w.heap.size < w0.heap.size := by rw [h0]; simp <;> omega
    have H0 := hide h0
    have HB0 := hide hb0
    clear h0 hb0
    refine (HCP.out w0 (rdM_at HA.out HB0.out) (rdM_at HA'.out HB0.out)).mono ?_
    rintro e w1 ⟨v, rfl, hL⟩
    obtain ⟨C, k, D, m, ev⟩ := hL.shape
    subst ev
    have hb01 : Below w0.heap.size w0 w1 := by obtain ⟨_, _, _, _, _, _, _, _, _, _, _, _, _, _, _, _, h⟩ := hL; exact h
    have hz1 : (z.length : Int) ≤ 9223372036854775807 := by have := hL.lens; unfold maxLen at this; omega
    have hy1 : (y.length : Int) ≤ 9223372036854775807 := by have := hL.lens; unfold maxLen at this; omega
    have c0 : w1.cell? ⟨w.heap.size, 0, none⟩ = some (.slice A n c) := (hb01.cell lw0).trans b0
    have c1' : w1.cell? ⟨w.heap.size, 1, none⟩ = some (.slice A' n' c') := (hb01.cell lw0).trans b1
    have lw1 : w.heap.size < w1.heap.size := Nat.lt_of_lt_of_le lw0 hb01.size
    have HL := hide hL
    have HB01 := hide hb01
    clear hL hb01 b0 b1 lw0
    go_wp2_with fail
    obtain ⟨w2, h2⟩ : ∃ W : World, W = w1.alloc (.cells #[.slice C z.length k, .slice D y.length m] 26) := ⟨_, rfl⟩
    rw [← h2]
    obtain ⟨hT, hbw, hb12, hs0⟩ := TB.start H0.out HB01.out h2
    have HT := hide hT
    have HS0 := hide hs0
    have HL2 := hide (HL.out.below hb12)
    have HB2 := hide (below_go HB0.out (below_go HB01.out hb12))
    have hL1 : w0.heap.size ≤ w1.heap.size := HB01.out.size
    have HB12 := hide hb12
    clear h2 hT hbw hb12 hs0 c0 c1' lw1
    refine (HOK.out w2 (rdM_at HA.out HB2.out) (rdM_at HA'.out HB2.out) true HQ.out).mono ?_
    rintro e w3 ⟨rfl, hb⟩
    have HT3 := hide (HT.out.below hb)
    have HL3 := hide (HL2.out.below hb)
    have HB13 := hide (below_go HB12.out hb)
    clear hb HT HL2 HB12
    have b0 := HT3.out.b0
    have b1 := HT3.out.b1
    have r0 := HT3.out.r0
    have r1 := HT3.out.r1
    have f0 := HT3.out.f0
    have f1 := HT3.out.f1
    have e0 := HT3.out.e0
    have e1 := HT3.out.e1
    go_wp2_with fail
    refine (isClass_q HI.out _).mono ?_
    rintro e wq ⟨rfl, rfl⟩
    have HFIN := hide (TakeRes.fin HL3.out HB0.out HS0.out (-1))
    go_wp2
    exact bodyPost_ret (v := .tuple #[.agg #[.slice C z.length k, .slice D y.length m], .int .i64 (-1)]) (by simp [results, Try.results15, go_sem, r0, r1]) rfl (by rw [HY.out, HV.out]; exact HFIN.out)
  have hyes : okGlob z y c1 = true := by unfold okGlob; rw [hok, hin]; rfl
  obtain ⟨q, rfl, hq⟩ := in02_nat hin
  have HI := hide hin
  have HY : Hid (globZ z y q = takeZ z q) := hide (by unfold globZ; rw [if_pos hyes]; rfl)
  have HV : Hid (globS z y q = lastR (z.getD q [])) := hide (by unfold globS; rw [if_pos hyes]; rfl)
  have H39 := hide (okR_lens' hok)
  have HQ := hide hok
  clear hok hyes hin
  go_enter Try.func15, Try.ntmps15
  go_wp2_with fail
  obtain ⟨w0, h0⟩ : ∃ W : World, W = (w.alloc (.cells #[.slice A n c, .slice A' n' c'] 26)).alloc (.cells #[.slice none 0 0, .slice none 0 0] 26) := ⟨_, rfl⟩
  rw [← h0]
  have hb0 : Below w.heap.size w w0 := by rw [h0]; exact ((Below.refl _ _).alloc (Nat.le_refl _) _).alloc (by simp) _
  have b0 : w0.cell? ⟨w.heap.size, 0, none⟩ = some (.slice A n c) := by rw [h0]; go_simp
  have b1 : w0.cell? ⟨w.heap.size, 1, none⟩ = some (.slice A' n' c') := by rw [h0]; go_simp
  have lw0 : w.heap.size < w0.heap.size := by rw [h0]; simp <;> omega
  have H0 := hide h0
  have HB0 := hide hb0
  clear h0 hb0
  refine (HCP.out w0 (rdM_at HA.out HB0.out) (rdM_at HA'.out HB0.out)).mono ?_
  rintro e w1 ⟨v, rfl, hL⟩
  obtain ⟨C, k, D, m, ev⟩ := hL.shape
  subst ev
  have hb01 : Below w0.heap.size w0 w1 := by obtain ⟨_, _, _, _, _, _, _, _, _, _, _, _, _, _, _, _, h⟩ := hL; exact h
  have hz1 : (z.length : Int) ≤ 9223372036854775807 := by have := hL.lens; unfold maxLen at this; omega
  have hy1 : (y.length : Int) ≤ 9223372036854775807 := by have := hL.lens; unfold maxLen at this; omega
  have c0 : w1.cell? ⟨w.heap.size, 0, none⟩ = some (.slice A n c) := (hb01.cell lw0).trans b0
  have c1' : w1.cell? ⟨w.heap.size, 1, none⟩ = some (.slice A' n' c') := (hb01.cell lw0).trans b1
  have lw1 : w.heap.size < w1.heap.size := Nat.lt_of_lt_of_le lw0 hb01.size
  have HL := hide hL
  have HB01 := hide hb01
  clear hL hb01 b0 b1 lw0
  go_wp2_with fail
  obtain ⟨w2, h2⟩ : ∃ W : World, W = w1.alloc (.cells #[.slice C z.length k, .slice D y.length m] 26) := ⟨_, rfl⟩
  rw [← h2]
  obtain ⟨hT, hbw, hb12, hs0⟩ := TB.start H0.out HB01.out h2
  have HT := hide hT
  have HS0 := hide hs0
  have HL2 := hide (HL.out.below hb12)
  have HB2 := hide (below_go HB0.out (below_go HB01.out hb12))
  have hL1 : w0.heap.size ≤ w1.heap.size := HB01.out.size
  have HB12 := hide hb12
  clear h2 hT hbw hb12 hs0 c0 c1' lw1
  refine (HOK.out w2 (rdM_at HA.out HB2.out) (rdM_at HA'.out HB2.out) true HQ.out).mono ?_
  rintro e w3 ⟨rfl, hb⟩
  have HT3 := hide (HT.out.below hb)
  have HL3 := hide (HL2.out.below hb)
  have HB13 := hide (below_go HB12.out hb)
  clear hb HT HL2 HB12
  have b0 := HT3.out.b0
  have b1 := HT3.out.b1
  have r0 := HT3.out.r0
  have r1 := HT3.out.r1
  have f0 := HT3.out.f0
  have f1 := HT3.out.f1
  have e0 := HT3.out.e0
  have e1 := HT3.out.e1
  go_wp2_with fail
  refine (isClass_q HI.out _).mono ?_
  rintro e wq ⟨rfl, rfl⟩
  obtain ⟨g, A2, n2, c2, rfl, hg0, hg1, hcell, hfz, hn2, hnc2, hcm2, hrd, hput⟩ := HL.out.put0 (i := q) (by have := H39.out; omega)
  have hlen := HL3.out.lens
  have hqk : q < k := by have := H39.out; omega
  have hqz : (q : Int) < (z.length : Int) := by have := H39.out; omega
  have hq0 : ¬ (q : Int) < 0 := by omega
  have hgp : g ≠ w1.heap.size := Nat.ne_of_lt hg1
  have hcell := (HB13.out.cell (p := ⟨g, q, none⟩) hg1).trans hcell
  have hfz := (HB13.out.frozen (p := ⟨g, q, none⟩) hg1).trans hfz
  have hrd := (hrd.below HB13.out (Nat.le_refl _)).more HB13.out.size
  have HPUT := hide hput
  have HRD := hide hrd
  have HN2 := hide hn2
  clear hlen hput hrd hn2
  have hng : w.heap.size + 1 ≠ g := by have := HS0.out; omega
  have hgn : g ≠ w.heap.size + 1 := fun e => hng e.symm
  have hpg : w1.heap.size ≠ g := fun e => hgp e.symm
  obtain ⟨x, hx⟩ : ∃ x, x = lastR (z.getD q []) := ⟨_, rfl⟩
  have HX := hide hx
  clear hx
  go_wp2_with fail
  refine (pop_any g q A2 n2 c2 _ w3 hcell hfz HN2.out hnc2 hcm2 HRD.out).mono ?_
  rintro e w4 ⟨rfl, ⟨hn0, rfl⟩ | rfl⟩
  · rw [← HX.out]
    have HFIN := hide (TakeRes.fin HL3.out HB0.out HS0.out x)
    have HNIL : Hid (takeZ z q = z) := hide (takeZ_nil z (by rw [← HN2.out]; exact hn0))
    clear hcell hfz hrd hn0
    go_wp2
    exact bodyPost_ret (v := .tuple #[.agg #[.slice (some ⟨g, 0, none⟩) z.length k, .slice D y.length m], .int .i64 x]) (by simp [results, Try.results15, go_sem, r0, r1]) rfl (by rw [HY.out, HV.out, ← HX.out, HNIL.out]; exact HFIN.out)
  · rw [← HX.out]
    obtain ⟨n3, hn3⟩ : ∃ n3, n3 = n2 - 1 := ⟨_, rfl⟩
    have hL5 := HPUT.out w3 HB13.out (n2 - 1) (Nat.le_refl _) (by omega)
    rw [← hn3] at hL5
    rw [← hn3]
    have HFIN := hide (TakeRes.fin hL5 HB0.out HS0.out x)
    clear hcell hfz hrd hn3 hL5
    go_wp2
    exact bodyPost_ret (v := .tuple #[.agg #[.slice (some ⟨g, 0, none⟩) z.length k, .slice D y.length m], .int .i64 x]) (by simp [results, Try.results15, go_sem, r0, r1]) rfl (by rw [HY.out, HV.out, ← HX.out]; exact HFIN.out)
end Go.Proofs.Ytdhocncfpapncab
