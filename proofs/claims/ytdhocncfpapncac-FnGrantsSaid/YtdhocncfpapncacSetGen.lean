/-
  SetGen: four bytes laid at a slot's place, in a copy of the heap. The contracts.
-/
import Derived.Test.YtdhocncfpapncacCopyH
import Derived.Deep.DeepCutAuto
namespace Go.Proofs.Ytdhocncfpapncac
open Go.RowKit
set_option linter.unusedVariables false

/-- What stands beside the walk: the parameter's box b, the result's cells r, the copy's box t, the copy itself. -/
structure St (w W : World) (b r t : Nat) (u0 u1 : Value) (B : Option Addr) (n d : Nat) (B' : Option Addr) (n' d' : Nat) (F F' : List Nat) (x y : List Int) : Prop where
  c0 : W.cell? ⟨b, 0, none⟩ = some u0
  c1 : W.cell? ⟨b, 1, none⟩ = some u1
  r0 : W.cell? ⟨r, 0, none⟩ = some (.slice none 0 0)
  r1 : W.cell? ⟨r, 1, none⟩ = some (.slice none 0 0)
  f0 : W.frozen? ⟨r, 0, none⟩ = false
  f1 : W.frozen? ⟨r, 1, none⟩ = false
  s0 : W.cell? ⟨t, 0, none⟩ = some (.slice B n d)
  s1 : W.cell? ⟨t, 1, none⟩ = some (.slice B' n' d')
  g0 : W.frozen? ⟨t, 0, none⟩ = false
  g1 : W.frozen? ⟨t, 1, none⟩ = false
  own : Own 3 W (.slice B n d) (ints x) F
  own' : Own 3 W (.slice B' n' d') (ints y) F'
  lb : b < W.heap.size
  lr : r < W.heap.size
  lt : t < W.heap.size
  nb : b ∉ F
  nr : r ∉ F
  nt : t ∉ F
  nr' : r ∉ F'
  nt' : t ∉ F'
  rt : r ≠ t
  ff : ∀ g, g ∈ F → g ∉ F'
  lo : ∀ g, g ∈ F ++ F' → w.heap.size ≤ g
  lor : w.heap.size ≤ r
  lot : w.heap.size ≤ t
  bel : Below w.heap.size w W
theorem St.below {w W W' : World} {b r t : Nat} {u0 u1 : Value} {B : Option Addr} {n d : Nat} {B' : Option Addr} {n' d' : Nat} {F F' : List Nat} {x y : List Int} (h : St w W b r t u0 u1 B n d B' n' d' F F' x y) (hb : Below W.heap.size W W') : St w W' b r t u0 u1 B n d B' n' d' F F' x y :=
  ⟨(hb.cell h.lb).trans h.c0, (hb.cell h.lb).trans h.c1, (hb.cell h.lr).trans h.r0, (hb.cell h.lr).trans h.r1, (hb.frozen h.lr).trans h.f0, (hb.frozen h.lr).trans h.f1, (hb.cell h.lt).trans h.s0, (hb.cell h.lt).trans h.s1, (hb.frozen h.lt).trans h.g0, (hb.frozen h.lt).trans h.g1,
   h.own.below hb, h.own'.below hb, Nat.lt_of_lt_of_le h.lb hb.size, Nat.lt_of_lt_of_le h.lr hb.size, Nat.lt_of_lt_of_le h.lt hb.size, h.nb, h.nr, h.nt, h.nr', h.nt', h.rt, h.ff, h.lo, h.lor, h.lot, h.bel.trans (hb.mono h.bel.size)⟩
theorem St.drew {w W : World} {b r t : Nat} {u0 u1 : Value} {B : Option Addr} {n d : Nat} {B' : Option Addr} {n' d' : Nat} {F F' : List Nat} {x y : List Int} (h : St w W b r t u0 u1 B n d B' n' d' F F' x y) : St w W.drew b r t u0 u1 B n d B' n' d' F F' x y := h.below (Below.refl _ _).drew
theorem St.touch {w W W' : World} {b r t : Nat} {u0 u1 : Value} {B : Option Addr} {n d : Nat} {B' : Option Addr} {n' d' : Nat} {F F' : List Nat} {x y x' : List Int} (h : St w W b r t u0 u1 B n d B' n' d' F F' x y) (ht : Touch F W W') (ho : Own 3 W' (.slice B n d) (ints x') F) : St w W' b r t u0 u1 B n d B' n' d' F F' x' y :=
  have q : ∀ k j, k < W.heap.size → k ∉ F → W'.cell? ⟨k, j, none⟩ = W.cell? ⟨k, j, none⟩ := fun k j hk hn => World.cell?_of_block (ht.block k hk hn)
  have p : ∀ k j, k < W.heap.size → k ∉ F → W'.frozen? ⟨k, j, none⟩ = W.frozen? ⟨k, j, none⟩ := fun k j hk hn => World.frozen?_of_block (ht.block k hk hn)
  ⟨(q _ _ h.lb h.nb).trans h.c0, (q _ _ h.lb h.nb).trans h.c1, (q _ _ h.lr h.nr).trans h.r0, (q _ _ h.lr h.nr).trans h.r1, (p _ _ h.lr h.nr).trans h.f0, (p _ _ h.lr h.nr).trans h.f1, (q _ _ h.lt h.nt).trans h.s0, (q _ _ h.lt h.nt).trans h.s1, (p _ _ h.lt h.nt).trans h.g0, (p _ _ h.lt h.nt).trans h.g1,
   ho, h.own'.touch ht (fun g hg hg' => h.ff g hg' hg), Nat.lt_of_lt_of_le h.lb ht.size, Nat.lt_of_lt_of_le h.lr ht.size, Nat.lt_of_lt_of_le h.lt ht.size, h.nb, h.nr, h.nt, h.nr', h.nt', h.rt, h.ff, h.lo, h.lor, h.lot, Below.touch h.bel ht (fun g hg => h.lo g (List.mem_append_left _ hg)) h.bel.size⟩
/-- Behind a copy that has been boxed. -/
theorem St.of_copy {w w1 w2 : World} {b r : Nat} {u0 u1 : Value} {B : Option Addr} {n d : Nat} {B' : Option Addr} {n' d' : Nat} {F F' : List Nat} {x y : List Int} (hC : CopyH w1 w2 n n' x y B d F B' d' F') (hB1 : Below w.heap.size w w1)
    (lb : b < w1.heap.size) (lr : r < w1.heap.size) (lor : w.heap.size ≤ r)
    (c0 : w1.cell? ⟨b, 0, none⟩ = some u0) (c1 : w1.cell? ⟨b, 1, none⟩ = some u1) (r0 : w1.cell? ⟨r, 0, none⟩ = some (.slice none 0 0)) (r1 : w1.cell? ⟨r, 1, none⟩ = some (.slice none 0 0)) (f0 : w1.frozen? ⟨r, 0, none⟩ = false) (f1 : w1.frozen? ⟨r, 1, none⟩ = false) :
    St w (w2.alloc (.cells #[.slice B n d, .slice B' n' d'] 26)) b r w2.heap.size u0 u1 B n d B' n' d' F F' x y := by
  obtain ⟨ho, ho', hlo, hff, hb⟩ := hC
  have hz := hb.size
  have hw := hB1.size
  have ha : Below w2.heap.size w2 (w2.alloc (.cells #[.slice B n d, .slice B' n' d'] 26)) := (Below.refl _ _).alloc (Nat.le_refl _) _
  have hc := below_of hb ha
  refine ⟨(hc.cell lb).trans c0, (hc.cell lb).trans c1, (hc.cell lr).trans r0, (hc.cell lr).trans r1, (hc.frozen lr).trans f0, (hc.frozen lr).trans f1, by go_simp, by go_simp, by go_simp, by go_simp, ho.below ha, ho'.below ha, by simp; omega, by simp; omega, by simp, ?_, ?_, ?_, ?_, ?_, by omega, hff, fun g hg => by have := hlo g hg; omega, lor, by omega, hB1.trans (hc.mono hw)⟩
  · intro h; have := hlo b (List.mem_append_left _ h); omega
  · intro h; have := hlo r (List.mem_append_left _ h); omega
  · intro h; have := ho.lt _ h; omega
  · intro h; have := hlo r (List.mem_append_right _ h); omega
  · intro h; have := ho'.lt _ h; omega

/-! what it answers -/
def vOk (v : Int) : Bool := decide (1 ≤ v ∧ v ≤ 7)
def setOk (x y : List Int) (i v : Int) : Bool := decide (¬ classAtR x y i < 0) && vOk v
def setR (x y : List Int) (i v : Int) : List Int := if setOk x y i v then upd x (genAtC i (classAtR x y i)).toNat ((genAtC i (classAtR x y i)).toNat + 4) (dgt 4 (genAtC i (classAtR x y i)).toNat v.toNat) else x
theorem setR_length (x y : List Int) (i v : Int) : (setR x y i v).length = x.length := by unfold setR; split <;> simp [upd_length]
theorem l1InV_any (v : Int) (w : World) : Calls Try.prog 34 #[.int .i64 v, .int .i64 1, .int .i64 7] w fun e w' => e = .returned (.bool (vOk v)) ∧ w = w' := by
  by_cases h : 1 ≤ v ∧ v ≤ 7
  · have HT : vOk v = true := by simpa [vOk] using h
    rw [HT]; exact l1In_yes _ _ _ _ h.1 h.2
  · have HT : vOk v = false := by simpa [vOk] using h
    rw [HT]; exact l1In_no _ _ _ _ h
theorem withinV_any (v : Int) (w : World) : Calls Try.prog 40 #[.int .i64 v, .int .i64 1, .int .i64 7] w fun e w' => e = .returned (.bool (vOk v)) ∧ w = w' := by
  by_cases h : 1 ≤ v ∧ v ≤ 7
  · have HT : vOk v = true := by simpa [vOk] using h
    rw [HT]; exact within_yes _ _ _ _ h.1 h.2
  · have HT : vOk v = false := by simpa [vOk] using h
    rw [HT]; exact within_no _ _ _ _ h
/-- What a function that answers a heap and a bool leaves. -/
def HRes (w w' : World) (e : Ending) (n n' : Nat) (z z' : List Int) (ok : Bool) : Prop :=
  ∃ B d F B' d' F', e = .returned (.tuple #[.agg #[.slice B n d, .slice B' n' d'], .bool ok]) ∧ CopyH w w' n n' z z' B d F B' d' F'
/-- The result's cells laid: the end. -/
theorem St.fin {w W : World} {b r t : Nat} {u0 u1 : Value} {B : Option Addr} {n d : Nat} {B' : Option Addr} {n' d' : Nat} {F F' : List Nat} {x y : List Int} (h : St w W b r t u0 u1 B n d B' n' d' F F' x y) (v0 v1 : Value) :
    CopyH w ((W.setCell ⟨r, 0, none⟩ v0).setCell ⟨r, 1, none⟩ v1) n n' x y B d F B' d' F' := by
  have ht : Touch [r] W ((W.setCell ⟨r, 0, none⟩ v0).setCell ⟨r, 1, none⟩ v1) := ((Touch.refl _ _).setCell (by simp) _).setCell (by simp) _
  exact ⟨h.own.touch ht (fun g hg hg' => h.nr (by simp at hg'; rwa [← hg'])), h.own'.touch ht (fun g hg hg' => h.nr' (by simp at hg'; rwa [← hg'])), h.lo, h.ff, Below.touch h.bel ht (fun g hg => by simp at hg; rw [hg]; exact h.lor) h.bel.size⟩


theorem St.fin2 {w W : World} {b r t : Nat} {u0 u1 : Value} {B : Option Addr} {n d : Nat} {B' : Option Addr} {n' d' : Nat} {F F' : List Nat} {x y : List Int} (h : St w W b r t u0 u1 B n d B' n' d' F F' x y) (j : Nat) (v v0 v1 : Value) :
    CopyH w (((W.setCell ⟨t, j, none⟩ v).setCell ⟨r, 0, none⟩ v0).setCell ⟨r, 1, none⟩ v1) n n' x y B d F B' d' F' := by
  have ht : Touch [t, r] W (((W.setCell ⟨t, j, none⟩ v).setCell ⟨r, 0, none⟩ v0).setCell ⟨r, 1, none⟩ v1) := (((Touch.refl _ _).setCell (by simp) _).setCell (by simp) _).setCell (by simp) _
  refine ⟨h.own.touch ht (fun g hg hg' => ?_), h.own'.touch ht (fun g hg hg' => ?_), h.lo, h.ff, Below.touch h.bel ht (fun g hg => ?_) h.bel.size⟩
  · simp at hg'; rcases hg' with rfl | rfl
    · exact h.nt hg
    · exact h.nr hg
  · simp at hg'; rcases hg' with rfl | rfl
    · exact h.nt' hg
    · exact h.nr' hg
  · simp at hg; rcases hg with rfl | rfl
    · exact h.lot
    · exact h.lor

set_option maxRecDepth 100000 in
set_option maxHeartbeats 3200000 in
theorem specSetGen_any (A A' : Option Addr) (n c n' c' : Nat) (x y : List Int) (i v : Int) (w : World) (hn : n = x.length) (hn' : n' = y.length) (hz : n ≤ 1048576) (hz' : n' ≤ 1048576) (hc : n ≤ c) (hcm : c ≤ maxLen) (ha : RdB .i64 w A x w.heap.size) (ha' : RdB .i64 w A' y w.heap.size) :
    Calls Try.prog 61 #[.agg #[.slice A n c, .slice A' n' c'], .int .i64 i, .int .i64 v] w fun e w' => HRes w w' e n n' (setR x y i v) y (setOk x y i v) := by
  have HN := hide hn
  have HN' := hide hn'
  have HA := hide ha
  have HA' := hide ha'
  clear hn hn' ha ha'
  go_enter Try.func61, Try.ntmps61
  go_wp2_with fail
  obtain ⟨w1, hW⟩ : ∃ W : World, W = (w.alloc (.cells #[.slice A n c, .slice A' n' c'] 26)).alloc (.cells #[.slice none 0 0, .slice none 0 0] 26) := ⟨_, rfl⟩
  rw [← hW]
  have HB1 : Hid (Below w.heap.size w w1) := hide (by rw [hW]; exact ((Below.refl _ _).alloc (Nat.le_refl _) _).alloc (by simp) _)
  have b0 : w1.cell? ⟨w.heap.size, 0, none⟩ = some (.slice A n c) := by rw [hW]; go_simp
  have b1 : w1.cell? ⟨w.heap.size, 1, none⟩ = some (.slice A' n' c') := by rw [hW]; go_simp
  have r0 : w1.cell? ⟨w.heap.size + 1, 0, none⟩ = some (.slice none 0 0) := by rw [hW]; go_simp
  have r1 : w1.cell? ⟨w.heap.size + 1, 1, none⟩ = some (.slice none 0 0) := by rw [hW]; go_simp
  have f0 : w1.frozen? ⟨w.heap.size + 1, 0, none⟩ = false := by rw [hW]; go_simp
  have f1 : w1.frozen? ⟨w.heap.size + 1, 1, none⟩ = false := by rw [hW]; go_simp
  have t0 : w.heap.size < w1.heap.size := by rw [hW]; simp <;> omega
  have t1 : w.heap.size + 1 < w1.heap.size := by rw [hW]; simp <;> omega
  clear hW
  refine (l7Copy_any A A' n c n' c' x y w1 HN.out HN'.out hz hz' ((HA.out.below HB1.out (Nat.le_refl _)).more HB1.out.size) ((HA'.out.below HB1.out (Nat.le_refl _)).more HB1.out.size)).mono ?_
  rintro e w2 ⟨B, d, F, B', d', F', rfl, hC⟩
  have k0 : w2.cell? ⟨w.heap.size, 0, none⟩ = some (.slice A n c) := (hC.2.2.2.2.cell t0).trans b0
  have k1 : w2.cell? ⟨w.heap.size, 1, none⟩ = some (.slice A' n' c') := (hC.2.2.2.2.cell t0).trans b1
  have HST := hide (St.of_copy hC HB1.out t0 t1 (by omega) b0 b1 r0 r1 f0 f1)
  have tz2 := hC.2.2.2.2.size
  have t2 : w.heap.size < w2.heap.size := by omega
  clear hC b0 b1 r0 r1 f0 f1
  go_wp2_with fail
  obtain ⟨w3, hW⟩ : ∃ W : World, W = w2.alloc (.cells #[.slice B n d, .slice B' n' d'] 26) := ⟨_, rfl⟩
  rw [← hW] at HST ⊢
  clear hW k0 k1
  have hbw3 := HST.out.bel
  refine (specClassAt_any _ _ _ _ _ _ x y i _ HN.out HN'.out hz hz' (rdB_at HA.out hbw3) (rdB_at HA'.out hbw3)).mono ?_
  rintro e w4 ⟨rfl, hb⟩
  have HS4 := hide (HST.out.below hb)
  clear hb hbw3 HST
  obtain ⟨cv, hcv⟩ : ∃ cv, cv = classAtR x y i := ⟨_, rfl⟩
  rw [← hcv]
  have HV := hide hcv
  have s0 := HS4.out.s0
  have s1 := HS4.out.s1
  have r0 := HS4.out.r0
  have r1 := HS4.out.r1
  have f0 := HS4.out.f0
  have f1 := HS4.out.f1
  clear hcv
  by_cases hv0 : cv < 0
  · have dv : decide (cv < 0) = true := by simpa using hv0
    have HX : Hid (setOk x y i v = false) := hide (by unfold setOk; rw [← HV.out]; simp [hv0])
    have HR : Hid (setR x y i v = x) := hide (by unfold setR; rw [HX.out]; rfl)
    go_wp2
    exact bodyPost_ret (v := .tuple #[.agg #[.slice B n d, .slice B' n' d'], .bool false]) (by simp [results, Try.results61, go_sem, r0, r1]) rfl
      ⟨B, d, F, B', d', F', by rw [HX.out], by rw [HR.out]; exact HS4.out.fin _ _⟩
  have dv : decide (cv < 0) = false := by simpa using hv0
  go_wp2_with fail
  refine (l1InV_any _ _).mono ?_
  rintro e w5 ⟨rfl, rfl⟩
  cases hvk : vOk v
  · have HX : Hid (setOk x y i v = false) := hide (by unfold setOk; rw [hvk]; simp)
    have HR : Hid (setR x y i v = x) := hide (by unfold setR; rw [HX.out]; rfl)
    clear hvk
    go_wp2
    exact bodyPost_ret (v := .tuple #[.agg #[.slice B n d, .slice B' n' d'], .bool false]) (by simp [results, Try.results61, go_sem, r0, r1]) rfl
      ⟨B, d, F, B', d', F', by rw [HX.out], by rw [HR.out]; exact HS4.out.fin _ _⟩
  have HX : Hid (setOk x y i v = true) := hide (by unfold setOk; rw [hvk, ← HV.out]; simp [hv0])
  have hvb : 1 ≤ v ∧ v ≤ 7 := by simpa [vOk] using hvk
  obtain ⟨N, rfl⟩ := Int.eq_ofNat_of_zero_le (show 0 ≤ v by omega)
  obtain ⟨hbk, h384, h6, hcl, r, hg, hr⟩ := genIn_parts HV.out.symm (by omega)
  have HR : Hid (setR x y i N = upd x r (r + 4) (dgt 4 r N)) := hide (by unfold setR; rw [HX.out, ← HV.out, hg]; simp)
  have e6 : n' = 6 := by have := HN'.out; omega
  have e384 : n = 384 := by have := HN.out; omega
  subst e6 e384
  have HCL := hide hcl
  have HG := hide hg
  have c0 := HS4.out.c0
  have c1 := HS4.out.c1
  have g0 := HS4.out.g0
  have hst4 := HS4.out
  clear hvk hbk h384 h6 hcl hg
  go_wp2_with fail
  go_region_with (first
    | (go_at_call 38; refine (specClass_as HN'.out (rdB_at HA'.out (St.bel (by first | assumption | exact St.drew (by assumption)))) HCL.out).mono ?_; rintro e w' ⟨rfl, hb⟩; have hst := St.below (by first | assumption | exact St.drew (by assumption)) hb; have q0 := hst.s0; have q1 := hst.s1; have q2 := hst.c0; have q3 := hst.c1; have q4 := hst.g0)
    | (go_at_call 51; refine (specGenAt_as HG.out _).mono ?_; rintro e w' ⟨rfl, rfl⟩)
    | (go_at_call 70; refine (l3Store_any _ _ _ x _ r 4 N _ (St.own (by first | assumption | exact St.drew (by assumption))) (by omega) (by omega) (by omega) hr (by omega)).mono ?_; rintro e w' ⟨rfl, ho, ht⟩; have hst2 := St.touch (by first | assumption | exact St.drew (by assumption)) ht ho; have q0 := hst2.s0; have q1 := hst2.s1; have q4 := hst2.g0; have q5 := hst2.r0; have q6 := hst2.r1; have q7 := hst2.f0; have q8 := hst2.f1))
  all_goals
    have hne : w.heap.size + 1 ≠ w2.heap.size := HS4.out.rt
    have hne' : w2.heap.size ≠ w.heap.size + 1 := fun h => hne h.symm
    go_wp2
    exact bodyPost_ret (v := .tuple #[.agg #[.slice B 384 d, .slice B' 6 d'], .bool true]) (by simp [results, Try.results61, go_sem, q5, q6]) rfl
      ⟨B, d, F, B', d', F', by rw [HX.out], by rw [HR.out]; exact hst2.fin2 0 _ _ _⟩

end Go.Proofs.Ytdhocncfpapncac
