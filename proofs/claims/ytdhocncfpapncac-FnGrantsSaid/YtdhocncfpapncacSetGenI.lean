/-
  SetGen: four bytes laid at a slot's place, in a copy of the heap. The implementation's contract.
-/
import Derived.Test.YtdhocncfpapncacSetGen
import Derived.Deep.DeepCutAuto
namespace Go.Proofs.Ytdhocncfpapncac
open Go.RowKit
set_option linter.unusedVariables false

theorem bel_cell {B : Nat} {w w' : World} (h : Below B w w') : ∀ g j, g < B → w'.cell? ⟨g, j, none⟩ = w.cell? ⟨g, j, none⟩ := fun _ _ hp => h.cell hp
theorem bel_frozen {B : Nat} {w w' : World} (h : Below B w w') : ∀ g j, g < B → w'.frozen? ⟨g, j, none⟩ = w.frozen? ⟨g, j, none⟩ := fun _ _ hp => h.frozen hp
theorem below_go {w W W' : World} (h : Below w.heap.size w W) (hb : Below W.heap.size W W') : Below w.heap.size w W' := h.trans (hb.mono h.size)
/-- The state, when the copy's box stands at t with the copy's slices just laid in it. -/
theorem St.of_set {w W : World} {b r t : Nat} {u0 u1 z0 z1 : Value} {B : Option Addr} {n d : Nat} {B' : Option Addr} {n' d' : Nat} {F F' : List Nat} {x y : List Int}
    (ho : Own 3 W (.slice B n d) (ints x) F) (ho' : Own 3 W (.slice B' n' d') (ints y) F') (hlo : ∀ g, g ∈ F ++ F' → r < g) (hff : ∀ g, g ∈ F → g ∉ F') (hB : Below w.heap.size w W)
    (q0 : W.cell? ⟨b, 0, none⟩ = some u0) (q1 : W.cell? ⟨b, 1, none⟩ = some u1) (q2 : W.cell? ⟨r, 0, none⟩ = some (.slice none 0 0)) (q3 : W.cell? ⟨r, 1, none⟩ = some (.slice none 0 0)) (q4 : W.frozen? ⟨r, 0, none⟩ = false) (q5 : W.frozen? ⟨r, 1, none⟩ = false)
    (q6 : W.cell? ⟨t, 0, none⟩ = some z0) (q7 : W.cell? ⟨t, 1, none⟩ = some z1) (q8 : W.frozen? ⟨t, 0, none⟩ = false) (q9 : W.frozen? ⟨t, 1, none⟩ = false)
    (hb : w.heap.size ≤ b) (hbr : b < r) (hrt : r < t) (nt : ∀ g, g ∈ F ++ F' → t ≠ g) :
    St w ((W.setCell ⟨t, 0, none⟩ (.slice B n d)).setCell ⟨t, 1, none⟩ (.slice B' n' d')) b r t u0 u1 B n d B' n' d' F F' x y := by
  have ht : Touch [t] W ((W.setCell ⟨t, 0, none⟩ (.slice B n d)).setCell ⟨t, 1, none⟩ (.slice B' n' d')) := ((Touch.refl _ _).setCell (by simp) _).setCell (by simp) _
  have l0 := World.block_lt_of_cell? W _ q0
  have l2 := World.block_lt_of_cell? W _ q2
  have l6 := World.block_lt_of_cell? W _ q6
  have n1 : t ≠ b := by omega
  have n2 : t ≠ r := by omega
  have n3 : b ≠ t := by omega
  have n4 : r ≠ t := by omega
  have hz := ht.size
  have qc : ∀ k j, k < W.heap.size → k ∉ [t] → ((W.setCell ⟨t, 0, none⟩ (.slice B n d)).setCell ⟨t, 1, none⟩ (.slice B' n' d')).cell? ⟨k, j, none⟩ = W.cell? ⟨k, j, none⟩ := fun k j hk hn => World.cell?_of_block (ht.block k hk hn)
  have qf : ∀ k j, k < W.heap.size → k ∉ [t] → ((W.setCell ⟨t, 0, none⟩ (.slice B n d)).setCell ⟨t, 1, none⟩ (.slice B' n' d')).frozen? ⟨k, j, none⟩ = W.frozen? ⟨k, j, none⟩ := fun k j hk hn => World.frozen?_of_block (ht.block k hk hn)
  refine ⟨(qc _ _ l0 (by simpa using n3)).trans q0, (qc _ _ l0 (by simpa using n3)).trans q1, (qc _ _ l2 (by simpa using n4)).trans q2, (qc _ _ l2 (by simpa using n4)).trans q3, (qf _ _ l2 (by simpa using n4)).trans q4, (qf _ _ l2 (by simpa using n4)).trans q5, by go_simp, by go_simp, by go_simp, by go_simp,
    ho.touch ht (fun g hg hg' => nt g (List.mem_append_left _ hg) (by simp at hg'; exact hg'.symm)), ho'.touch ht (fun g hg hg' => nt g (List.mem_append_right _ hg) (by simp at hg'; exact hg'.symm)),
    Nat.lt_of_lt_of_le l0 hz, Nat.lt_of_lt_of_le l2 hz, Nat.lt_of_lt_of_le l6 hz, ?_, ?_, ?_, ?_, ?_, n4, hff, fun g hg => by have := hlo g hg; omega, by omega, by omega, Below.touch hB ht (fun g hg => by simp at hg; omega) hB.size⟩
  · intro h; have := hlo b (List.mem_append_left _ h); omega
  · intro h; have := hlo r (List.mem_append_left _ h); omega
  · intro h; exact nt t (List.mem_append_left _ h) rfl
  · intro h; have := hlo r (List.mem_append_right _ h); omega
  · intro h; exact nt t (List.mem_append_right _ h) rfl
theorem St.of_alloc {w W : World} {b r : Nat} {u0 u1 : Value} {B : Option Addr} {n d : Nat} {B' : Option Addr} {n' d' : Nat} {F F' : List Nat} {x y : List Int}
    (ho : Own 3 W (.slice B n d) (ints x) F) (ho' : Own 3 W (.slice B' n' d') (ints y) F') (hlo : ∀ g, g ∈ F ++ F' → r < g) (hff : ∀ g, g ∈ F → g ∉ F') (hB : Below w.heap.size w W)
    (q0 : W.cell? ⟨b, 0, none⟩ = some u0) (q1 : W.cell? ⟨b, 1, none⟩ = some u1) (q2 : W.cell? ⟨r, 0, none⟩ = some (.slice none 0 0)) (q3 : W.cell? ⟨r, 1, none⟩ = some (.slice none 0 0)) (q4 : W.frozen? ⟨r, 0, none⟩ = false) (q5 : W.frozen? ⟨r, 1, none⟩ = false)
    (hb : w.heap.size ≤ b) (hbr : b < r) :
    St w (W.alloc (.cells #[.slice B n d, .slice B' n' d'] 26)) b r W.heap.size u0 u1 B n d B' n' d' F F' x y := by
  have l0 := World.block_lt_of_cell? W _ q0
  have l2 := World.block_lt_of_cell? W _ q2
  have ha : Below W.heap.size W (W.alloc (.cells #[.slice B n d, .slice B' n' d'] 26)) := (Below.refl _ _).alloc (Nat.le_refl _) _
  refine ⟨(ha.cell l0).trans q0, (bel_cell ha b 1 l0).trans q1, (ha.cell l2).trans q2, (bel_cell ha r 1 l2).trans q3, (ha.frozen l2).trans q4, (bel_frozen ha r 1 l2).trans q5, by go_simp, by go_simp, by go_simp, by go_simp,
    ho.below ha, ho'.below ha, Nat.lt_of_lt_of_le l0 ha.size, Nat.lt_of_lt_of_le l2 ha.size, by simp, ?_, ?_, ?_, ?_, ?_, Nat.ne_of_lt l2, hff, fun g hg => by have := hlo g hg; omega, by omega, hB.size, hB.trans (ha.mono hB.size)⟩
  · intro h; have := hlo b (List.mem_append_left _ h); omega
  · intro h; have := hlo r (List.mem_append_left _ h); omega
  · intro h; have := ho.lt _ h; omega
  · intro h; have := hlo r (List.mem_append_right _ h); omega
  · intro h; have := ho'.lt _ h; omega
theorem fixN_size4 (m N : Nat) : (⟨(fixN m N).toArray⟩ : ByteArray).size = m := by
  show (fixN m N).toArray.size = m
  simp [fixN_length]
theorem put_fix (zs : List Int) (off m N : Nat) : upd zs off (off + m) (fun i => (((⟨(fixN m N).toArray⟩ : ByteArray).data.toList.getD (i - off) 0).toNat : Int)) = upd zs off (off + m) (dgt m off N) := by
  refine upd_congr _ _ _ _ _ fun i h1 h2 => ?_
  unfold dgt
  show (((fixN m N).toArray.toList.getD (i - off) 0).toNat : Int) = _
  rw [List.toList_toArray, fixN_get m N _ (by omega)]
  simp
theorem fix4_any (N : Nat) (h7 : (N : Int) ≤ 7) (w : World) : Calls Try.prog 30 #[.int .i64 (N : Int), .int .i64 4] w fun e w' => e = .returned (.string ⟨(fixN 4 N).toArray⟩) ∧ Below w.heap.size w w' := by
  have hp : (N : Int) < (pw (4 : Int).toNat : Int) := by
    have : pw (4 : Int).toNat = 4294967296 := by decide
    omega
  refine (implFixed_any (N : Int) 4 w (by omega) (by omega)).mono fun e w' k => ?_
  rw [fixS_yes ⟨by decide, by decide, by omega, hp⟩] at k
  exact k
theorem put4_any (A : Option Addr) (n c : Nat) (zs : List Int) (F : List Nat) (r N : Nat) (w : World) (ho : Own 3 w (.slice A n c) (ints zs) F) (hz : n ≤ 1000) (hom : r + 4 ≤ n) :
    Calls Try.prog 28 #[.slice A n c, .int .i64 (r : Int), .string ⟨(fixN 4 N).toArray⟩] w fun e w' => e = .returned (.tuple #[]) ∧ Own 3 w' (.slice A n c) (ints (upd zs r (r + 4) (dgt 4 r N))) F ∧ Touch F w w' := by
  refine (putNum_any A n c zs F r ⟨(fixN 4 N).toArray⟩ w ho hz (by rw [fixN_size4]; omega) (by rw [fixN_size4]; omega)).mono fun e w' k => ?_
  rw [fixN_size4, put_fix] at k
  exact k
set_option maxRecDepth 100000 in
set_option maxHeartbeats 3200000 in
theorem implSetGen_any (a a' : Addr) (n c n' c' : Nat) (x y : List Int) (i v : Int) (w : World) (hn : n = x.length) (hn' : n' = y.length) (hz : n ≤ 1048576) (hz' : n' ≤ 1048576) (hc : n ≤ c) (hcm : c ≤ maxLen) (ha : RdB .i64 w (some a) x w.heap.size) (ha' : RdB .i64 w (some a') y w.heap.size) :
    Calls Try.prog 18 #[.agg #[.slice (some a) n c, .slice (some a') n' c'], .int .i64 i, .int .i64 v] w fun e w' => HRes w w' e n n' (setR x y i v) y (setOk x y i v) := by
  have HN := hide hn
  have HN' := hide hn'
  have HA := hide ha
  have HA' := hide ha'
  clear hn hn' ha ha'
  go_enter Try.func18, Try.ntmps18
  go_wp2_with fail
  obtain ⟨w1, hW⟩ : ∃ W : World, W = (w.alloc (.cells #[.slice (some a) n c, .slice (some a') n' c'] 26)).alloc (.cells #[.slice none 0 0, .slice none 0 0] 26) := ⟨_, rfl⟩
  rw [← hW]
  have HB1 : Hid (Below w.heap.size w w1) := hide (by rw [hW]; exact ((Below.refl _ _).alloc (Nat.le_refl _) _).alloc (by simp) _)
  have b0 : w1.cell? ⟨w.heap.size, 0, none⟩ = some (.slice (some a) n c) := by rw [hW]; go_simp
  have b1 : w1.cell? ⟨w.heap.size, 1, none⟩ = some (.slice (some a') n' c') := by rw [hW]; go_simp
  have r0 : w1.cell? ⟨w.heap.size + 1, 0, none⟩ = some (.slice none 0 0) := by rw [hW]; go_simp
  have r1 : w1.cell? ⟨w.heap.size + 1, 1, none⟩ = some (.slice none 0 0) := by rw [hW]; go_simp
  have f0 : w1.frozen? ⟨w.heap.size + 1, 0, none⟩ = false := by rw [hW]; go_simp
  have f1 : w1.frozen? ⟨w.heap.size + 1, 1, none⟩ = false := by rw [hW]; go_simp
  have t0 : w.heap.size < w1.heap.size := by rw [hW]; simp <;> omega
  have t1 : w.heap.size + 1 < w1.heap.size := by rw [hW]; simp <;> omega
  clear hW
  go_upto_region 1 with fail
  go_cut [8, 9] (fun s8 s9 wx => ∃ t B d F B' d' F', s8 = .pointer (some ⟨t, 0, none⟩) ∧ s9 = .int .i64 (classAtR x y i) ∧ St w wx w.heap.size (w.heap.size + 1) t (.slice (some a) n c) (.slice (some a') n' c') B n d B' n' d' F F' x y)
  case first =>
    go_region_with (first
      | (go_at_call 22; refine (copyHeap_any a a' n c n' c' x y _ HN.out HN'.out hz hz' (rdB_at HA.out (by first | exact HB1.out.drew | exact (HB1.out.alloc (by omega) _).drew)) (rdB_at HA'.out (by first | exact HB1.out.drew | exact (HB1.out.alloc (by omega) _).drew))).mono ?_; rintro e w2 ⟨B, d, F, B', d', F', rfl, hC⟩; have hw2 : Below w.heap.size w w2 := below_go (by first | exact HB1.out.drew | exact (HB1.out.alloc (by omega) _).drew) hC.2.2.2.2; have z2 := hC.2.2.2.2.size; (try simp at z2); (first | (rw [Nat.succ_le_iff] at z2) | skip); have n_w2 : w.heap.size < w2.heap.size := (by omega); have m_w2 : w.heap.size + 1 < w2.heap.size := (by omega); have k0 : w2.cell? ⟨w.heap.size, 0, none⟩ = some (.slice (some a) n c) := (Below.cell (hC.2.2.2.2) (by simp <;> omega)).trans (by go_simp); have k1 : w2.cell? ⟨w.heap.size, 1, none⟩ = some (.slice (some a') n' c') := (Below.cell (hC.2.2.2.2) (by simp <;> omega)).trans (by go_simp); have k2 : w2.cell? ⟨w.heap.size + 1, 0, none⟩ = some (.slice none 0 0) := (Below.cell (hC.2.2.2.2) (by simp <;> omega)).trans (by go_simp); have k3 : w2.cell? ⟨w.heap.size + 1, 1, none⟩ = some (.slice none 0 0) := (Below.cell (hC.2.2.2.2) (by simp <;> omega)).trans (by go_simp); have k4 : w2.frozen? ⟨w.heap.size + 1, 0, none⟩ = false := (Below.frozen (hC.2.2.2.2) (by simp <;> omega)).trans (by go_simp); have k5 : w2.frozen? ⟨w.heap.size + 1, 1, none⟩ = false := (Below.frozen (hC.2.2.2.2) (by simp <;> omega)).trans (by go_simp); have k6 := bel_cell (hC.2.2.2.2) w1.heap.size 0; (try simp [go_sem, *] at k6); have k7 := bel_cell (hC.2.2.2.2) w1.heap.size 1; (try simp [go_sem, *] at k7); have k8 := bel_frozen (hC.2.2.2.2) w1.heap.size 0; (try simp [go_sem, *] at k8); have k9 := bel_frozen (hC.2.2.2.2) w1.heap.size 1; (try simp [go_sem, *] at k9))
      | (go_at_call 15; refine (implClassAt_any _ _ _ _ _ _ x y i _ HN.out HN'.out hz hz' (rdB_at HA.out (by first | exact hw2 | exact hw2.alloc (by omega) _)) (rdB_at HA'.out (by first | exact hw2 | exact hw2.alloc (by omega) _))).mono ?_; rintro e w4 ⟨rfl, hb⟩; have hw4 : Below w.heap.size w w4 := below_go (by first | exact hw2 | exact hw2.alloc (by omega) _) hb; have hX := (⟨by first | exact hC.1.below hb | exact (hC.1.below ((Below.refl _ _).alloc (Nat.le_refl _) _)).below hb, by first | exact hC.2.1.below hb | exact (hC.2.1.below ((Below.refl _ _).alloc (Nat.le_refl _) _)).below hb⟩ : Own 3 w4 (.slice B n d) (ints x) F ∧ Own 3 w4 (.slice B' n' d') (ints y) F'); have z4 := hb.size; (try simp at z4); have n_w4 : w.heap.size < w4.heap.size := (by omega); have m_w4 : w.heap.size + 1 < w4.heap.size := (by omega); have q0 : w4.cell? ⟨w.heap.size, 0, none⟩ = some (.slice (some a) n c) := (Below.cell (hb) (by simp <;> omega)).trans (by go_simp); have q1 : w4.cell? ⟨w.heap.size, 1, none⟩ = some (.slice (some a') n' c') := (Below.cell (hb) (by simp <;> omega)).trans (by go_simp); have q2 : w4.cell? ⟨w.heap.size + 1, 0, none⟩ = some (.slice none 0 0) := (Below.cell (hb) (by simp <;> omega)).trans (by go_simp); have q3 : w4.cell? ⟨w.heap.size + 1, 1, none⟩ = some (.slice none 0 0) := (Below.cell (hb) (by simp <;> omega)).trans (by go_simp); have q4 : w4.frozen? ⟨w.heap.size + 1, 0, none⟩ = false := (Below.frozen (hb) (by simp <;> omega)).trans (by go_simp); have q5 : w4.frozen? ⟨w.heap.size + 1, 1, none⟩ = false := (Below.frozen (hb) (by simp <;> omega)).trans (by go_simp); have q6 := bel_cell (hb) w1.heap.size 0; (try simp [go_sem, *] at q6); have q7 := bel_cell (hb) w1.heap.size 1; (try simp [go_sem, *] at q7); have q8 := bel_frozen (hb) w1.heap.size 0; (try simp [go_sem, *] at q8); have q9 := bel_frozen (hb) w1.heap.size 1; (try simp [go_sem, *] at q9); have p6 := bel_cell (hb) w2.heap.size 0; (try simp [go_sem, *] at p6); have p7 := bel_cell (hb) w2.heap.size 1; (try simp [go_sem, *] at p7); have p8 := bel_frozen (hb) w2.heap.size 0; (try simp [go_sem, *] at p8); have p9 := bel_frozen (hb) w2.heap.size 1; (try simp [go_sem, *] at p9)))
    all_goals (go_wp2_with fail; go_meet)
    all_goals
      have hlo1 : ∀ g, g ∈ F ++ F' → w.heap.size + 1 < g := fun g hg => by have h1 := hC.2.2.1 g hg; simp at h1; omega
      have hlt : ∀ g, g ∈ F ++ F' → g < w2.heap.size := fun g hg => by
        rcases List.mem_append.1 hg with h | h
        · exact hC.1.lt g h
        · exact hC.2.1.lt g h
      first
      | exact ⟨_, B, d, F, B', d', F', rfl, rfl, St.of_alloc hX.1 hX.2 hlo1 hC.2.2.2.1 hw4 q0 q1 q2 q3 q4 q5 (Nat.le_refl _) (Nat.lt_succ_self _)⟩
      | exact ⟨_, B, d, F, B', d', F', rfl, rfl, St.of_set hX.1 hX.2 hlo1 hC.2.2.2.1 hw4 q0 q1 q2 q3 q4 q5 p6 p7 p8 p9 (Nat.le_refl _) (Nat.lt_succ_self _) m_w2 (fun g hg he => by have := hlt g hg; omega)⟩
      | exact ⟨_, B, d, F, B', d', F', rfl, rfl, St.of_set hX.1 hX.2 hlo1 hC.2.2.2.1 hw4 q0 q1 q2 q3 q4 q5 q6 q7 q8 q9 (Nat.le_refl _) (Nat.lt_succ_self _) t1 (fun g hg he => by have h1 := hC.2.2.1 g hg; simp at h1; omega)⟩
  case rest =>
  obtain ⟨t, B, d, F, B', d', F', rfl, rfl, hS⟩ := hcut
  have HS4 := hide hS
  clear hS b0 b1 r0 r1 f0 f1
  obtain ⟨cv, hcv⟩ : ∃ cv, cv = classAtR x y i := ⟨_, rfl⟩
  rw [← hcv]
  have HV := hide hcv
  have s0 := HS4.out.s0
  have s1 := HS4.out.s1
  have r0 := HS4.out.r0
  have r1 := HS4.out.r1
  have f0 := HS4.out.f0
  have f1 := HS4.out.f1
  clear hcv
  by_cases hv0 : cv < 0
  · have dv : decide (cv < 0) = true := by simpa using hv0
    have HX : Hid (setOk x y i v = false) := hide (by unfold setOk; rw [← HV.out]; simp [hv0])
    have HR : Hid (setR x y i v = x) := hide (by unfold setR; rw [HX.out]; rfl)
    go_wp2
    exact bodyPost_ret (v := .tuple #[.agg #[.slice B n d, .slice B' n' d'], .bool false]) (by simp [results, Try.results18, go_sem, r0, r1]) rfl
      ⟨B, d, F, B', d', F', by rw [HX.out], by rw [HR.out]; exact HS4.out.fin _ _⟩
  have dv : decide (cv < 0) = false := by simpa using hv0
  go_wp2_with fail
  refine (withinV_any _ _).mono ?_
  rintro e w5 ⟨rfl, rfl⟩
  cases hvk : vOk v
  · have HX : Hid (setOk x y i v = false) := hide (by unfold setOk; rw [hvk]; simp)
    have HR : Hid (setR x y i v = x) := hide (by unfold setR; rw [HX.out]; rfl)
    clear hvk
    go_wp2
    exact bodyPost_ret (v := .tuple #[.agg #[.slice B n d, .slice B' n' d'], .bool false]) (by simp [results, Try.results18, go_sem, r0, r1]) rfl
      ⟨B, d, F, B', d', F', by rw [HX.out], by rw [HR.out]; exact HS4.out.fin _ _⟩
  have HX : Hid (setOk x y i v = true) := hide (by unfold setOk; rw [hvk, ← HV.out]; simp [hv0])
  have hvb : 1 ≤ v ∧ v ≤ 7 := by simpa [vOk] using hvk
  obtain ⟨N, rfl⟩ := Int.eq_ofNat_of_zero_le (show 0 ≤ v by omega)
  obtain ⟨hbk, h384, h6, hcl, r, hg, hr⟩ := genIn_parts HV.out.symm (by omega)
  have HR : Hid (setR x y i N = upd x r (r + 4) (dgt 4 r N)) := hide (by unfold setR; rw [HX.out, ← HV.out, hg]; simp)
  have e6 : n' = 6 := by have := HN'.out; omega
  have e384 : n = 384 := by have := HN.out; omega
  subst e6 e384
  have HG := hide hg
  have hst4 := HS4.out
  clear hvk hbk h384 h6 hcl hg
  go_wp2_with fail
  go_region_with (first
    | (go_at_call 29; refine (implGenAt_as HG.out _).mono ?_; rintro e w' ⟨rfl, rfl⟩)
    | (go_at_call 30; refine (fix4_any N hvb.2 _).mono ?_; rintro e w' ⟨rfl, hb⟩; have hst := St.below (by first | assumption | exact St.drew (by assumption)) hb; have q0 := hst.s0; have q1 := hst.s1)
    | (go_at_call 28; refine (put4_any _ _ _ x _ r N _ (St.own (by first | assumption | exact St.drew (by assumption))) (by omega) hr).mono ?_; rintro e w' ⟨rfl, ho, ht⟩; have hst2 := St.touch (by first | assumption | exact St.drew (by assumption)) ht ho; have q0 := hst2.s0; have q1 := hst2.s1; have q5 := hst2.r0; have q6 := hst2.r1; have q7 := hst2.f0; have q8 := hst2.f1))
  all_goals
    go_wp2
    exact bodyPost_ret (v := .tuple #[.agg #[.slice B 384 d, .slice B' 6 d'], .bool true]) (by simp [results, Try.results18, go_sem, q5, q6]) rfl
      ⟨B, d, F, B', d', F', by rw [HX.out], by rw [HR.out]; exact hst2.fin _ _⟩
end Go.Proofs.Ytdhocncfpapncac
