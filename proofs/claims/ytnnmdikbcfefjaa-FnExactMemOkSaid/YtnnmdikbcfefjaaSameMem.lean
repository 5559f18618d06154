/-
  SameMem: are two memories equal? The contracts and the walk of the law.
-/
import Derived.Test.YtnnmdikbcfefjaaSameHeapM
import Derived.Test.YtnnmdikbcfefjaaSameListsM
namespace Go.Proofs.Ytnnmdikbcfefjaa
open Go.RowKit
set_option linter.unusedVariables false

/-- A memory that reads so. -/
structure MR (w : World) (A A' L L' : Option Addr) (n n' m m' : Nat) (x x' : List Int) (z z' : List (List Int)) : Prop where
  hn : n = x.length
  hn' : n' = x'.length
  hm : m = z.length
  hm' : m' = z'.length
  q : n + n' + (m + sumL z m + m' + sumL z' m') ≤ 1048576
  a : RdB .i64 w A x w.heap.size
  a' : RdB .i64 w A' x' w.heap.size
  l : RdM w L z w.heap.size
  l' : RdM w L' z' w.heap.size
theorem rdB_up {w W : World} {A : Option Addr} {z : List Int} (h : RdB .i64 w A z w.heap.size) (hb : Below w.heap.size w W) : RdB .i64 W A z W.heap.size := (h.below hb (Nat.le_refl _)).more hb.size
theorem MR.up {w W : World} {A A' L L' : Option Addr} {n n' m m' : Nat} {x x' : List Int} {z z' : List (List Int)} (h : MR w A A' L L' n n' m m' x x' z z') (hb : Below w.heap.size w W) : MR W A A' L L' n n' m m' x x' z z' :=
  ⟨h.hn, h.hn', h.hm, h.hm', h.q, rdB_up h.a hb, rdB_up h.a' hb, rdM_at h.l hb, rdM_at h.l' hb⟩
/-- A memory that came in. -/
structure MI (w : World) (A A' L L' : Option Addr) (n n' m m' c c' d d' : Nat) (x x' : List Int) (z z' : List (List Int)) : Prop where
  hn : n = x.length
  hn' : n' = x'.length
  hm : m = z.length
  hm' : m' = z'.length
  c1 : n ≤ c
  c2 : c ≤ maxLen
  c3 : n' ≤ c'
  c4 : c' ≤ maxLen
  d1 : m ≤ d
  d2 : d ≤ maxLen
  d3 : m' ≤ d'
  d4 : d' ≤ maxLen
  a : RdB .i64 w A x w.heap.size
  a' : RdB .i64 w A' x' w.heap.size
  l : RdL w L z w.heap.size
  l' : RdL w L' z' w.heap.size
theorem MI.up {w W : World} {A A' L L' : Option Addr} {n n' m m' c c' d d' : Nat} {x x' : List Int} {z z' : List (List Int)} (h : MI w A A' L L' n n' m m' c c' d d' x x' z z') (hb : Below w.heap.size w W) : MI W A A' L L' n n' m m' c c' d d' x x' z z' :=
  ⟨h.hn, h.hn', h.hm, h.hm', h.c1, h.c2, h.c3, h.c4, h.d1, h.d2, h.d3, h.d4, rdB_up h.a hb, rdB_up h.a' hb, rdL_at h.l hb, rdL_at h.l' hb⟩
def MSum (n n' m m' : Nat) (z z' : List (List Int)) : Int := (n : Int) + n' + ((m : Int) + sumL z m + m' + sumL z' m')
set_option maxRecDepth 100000 in
set_option maxHeartbeats 1600000 in
theorem szMem_any (A A' L L' : Option Addr) (n n' m m' c c' d d' : Nat) (x x' : List Int) (z z' : List (List Int)) (k : Int) (w : World) (h0 : 0 ≤ k) (h1 : k ≤ 2097152) (h : MI w A A' L L' n n' m m' c c' d d' x x' z z') :
    Calls Try.prog 4 #[.agg #[.slice A n c, .slice A' n' c', .slice L m d, .slice L' m' d'], .int .i64 k] w fun e w' => SzRes e (MSum n n' m m' z z') k ∧ Below w.heap.size w w' := by
  have H := hide h
  clear h
  go_enter Try.func4, Try.ntmps4
  go_wp2_with fail
  obtain ⟨w1, hW⟩ : ∃ W : World, W = w.alloc (.cells #[.slice A n c, .slice A' n' c', .slice L m d, .slice L' m' d'] 29) := ⟨_, rfl⟩
  rw [← hW]
  have hb1 : Below w.heap.size w w1 := by rw [hW]; exact (Below.refl _ _).alloc (Nat.le_refl _) _
  have t1 : w.heap.size < w1.heap.size := by rw [hW]; simp
  have b2 : w1.cell? ⟨w.heap.size, 2, none⟩ = some (.slice L m d) := by rw [hW]; go_simp
  have b3 : w1.cell? ⟨w.heap.size, 3, none⟩ = some (.slice L' m' d') := by rw [hW]; go_simp
  clear hW
  have HB1 := hide hb1
  by_cases hs : (n : Int) + n' ≤ k
  case neg =>
    refine (szHeap_no A A' n c n' c' k w1 h0 h1 H.out.c1 H.out.c2 H.out.c3 H.out.c4 hs).mono ?_
    rintro e w2 ⟨rfl, hb⟩
    have HB2 := hide (below_go hb1 hb)
    have HX : Hid (k < MSum n n' m m' z z') := hide (by unfold MSum; omega)
    clear hb hb1 b2 b3
    go_wp2
    go_ret
    exact ⟨⟨-1, rfl, .inr ⟨HX.out, rfl⟩⟩, HB2.out⟩
  refine (szHeap_yes A A' n c n' c' k w1 h0 h1 hs).mono ?_
  rintro e w2 ⟨rfl, hb⟩
  have k2 : w2.cell? ⟨w.heap.size, 2, none⟩ = some (.slice L m d) := (hb.cell t1).trans b2
  have k3 : w2.cell? ⟨w.heap.size, 3, none⟩ = some (.slice L' m' d') := (hb.cell t1).trans b3
  have HB2 := hide (below_go hb1 hb)
  obtain ⟨r, hr⟩ : ∃ r : Int, r = k - (n : Int) - (n' : Int) := ⟨_, rfl⟩
  rw [← hr]
  have hr0 : 0 ≤ r := by omega
  have hr1 : r ≤ 2097152 := by omega
  have HR := hide hr
  clear hb hb1 b2 b3 hr
  go_wp2_with fail
  refine (szLists_any L L' m d m' d' z z' r w2 H.out.hm H.out.hm' hr0 hr1 H.out.d1 H.out.d2 H.out.d3 H.out.d4 (rdL_at H.out.l HB2.out) (rdL_at H.out.l' HB2.out)).mono ?_
  rintro e w3 ⟨⟨r', rfl, hr'⟩, hb⟩
  have HB3 := hide (below_go HB2.out hb)
  have HR' := hide hr'
  clear hb hr'
  by_cases hlt : r' < 0
  · have HX : Hid (k < MSum n n' m m' z z') := hide (by unfold MSum; have := HR.out; have := HR'.out; omega)
    go_wp2
    go_ret
    exact ⟨⟨-1, rfl, .inr ⟨HX.out, rfl⟩⟩, HB3.out⟩
  · have HX : Hid (MSum n n' m m' z z' ≤ k ∧ r' = k - MSum n n' m m' z z') := hide (by unfold MSum; have := HR.out; have := HR'.out; omega)
    go_wp2
    go_ret
    exact ⟨⟨r', rfl, .inl HX.out⟩, HB3.out⟩
def ToM (w w' : World) (e : Ending) (n n' m m' : Nat) (x x' : List Int) (z z' : List (List Int)) : Prop :=
  ∃ A A' L L', e = .returned (.agg #[.slice A n n, .slice A' n' n', .slice L m m, .slice L' m' m']) ∧ MR w' A A' L L' n n' m m' x x' z z' ∧ Below w.heap.size w w'
set_option maxRecDepth 100000 in
set_option maxHeartbeats 3200000 in
theorem toMem_any (A A' L L' : Option Addr) (n n' m m' c c' d d' : Nat) (x x' : List Int) (z z' : List (List Int)) (w : World) (h : MI w A A' L L' n n' m m' c c' d d' x x' z z') (hq : n + n' + (m + sumL z m + m' + sumL z' m') ≤ 1048576) :
    Calls Try.prog 6 #[.agg #[.slice A n c, .slice A' n' c', .slice L m d, .slice L' m' d']] w fun e w' => ToM w w' e n n' m m' x x' z z' := by
  have H := hide h
  have HQ := hide hq
  clear h
  go_enter Try.func6, Try.ntmps6
  go_wp2_with fail
  obtain ⟨w1, hW⟩ : ∃ W : World, W = ((w.alloc (.cells #[.slice A n c, .slice A' n' c', .slice L m d, .slice L' m' d'] 29)).alloc (.cells #[.slice none 0 0, .slice none 0 0, .slice none 0 0, .slice none 0 0] 37)).alloc (.cells #[.slice none 0 0, .slice none 0 0, .slice none 0 0, .slice none 0 0] 37) := ⟨_, rfl⟩
  rw [← hW]
  have hb1 : Below w.heap.size w w1 := by rw [hW]; exact (((Below.refl _ _).alloc (Nat.le_refl _) _).alloc (by simp) _).alloc (by simp <;> omega) _
  have t0 : w.heap.size < w1.heap.size := by rw [hW]; simp <;> omega
  have t1 : w.heap.size + 1 < w1.heap.size := by rw [hW]; simp <;> omega
  have t2 : w.heap.size + 1 + 1 < w1.heap.size := by rw [hW]; simp <;> omega
  have a2 : w1.cell? ⟨w.heap.size, 2, none⟩ = some (.slice L m d) := by rw [hW]; go_simp
  have a3 : w1.cell? ⟨w.heap.size, 3, none⟩ = some (.slice L' m' d') := by rw [hW]; go_simp
  have r0 : w1.cell? ⟨w.heap.size + 1, 0, none⟩ = some (.slice none 0 0) := by rw [hW]; go_simp
  have r1 : w1.cell? ⟨w.heap.size + 1, 1, none⟩ = some (.slice none 0 0) := by rw [hW]; go_simp
  have r2 : w1.cell? ⟨w.heap.size + 1, 2, none⟩ = some (.slice none 0 0) := by rw [hW]; go_simp
  have r3 : w1.cell? ⟨w.heap.size + 1, 3, none⟩ = some (.slice none 0 0) := by rw [hW]; go_simp
  have s0 : w1.cell? ⟨w.heap.size + 1 + 1, 0, none⟩ = some (.slice none 0 0) := by rw [hW]; go_simp
  have s1 : w1.cell? ⟨w.heap.size + 1 + 1, 1, none⟩ = some (.slice none 0 0) := by rw [hW]; go_simp
  have s2 : w1.cell? ⟨w.heap.size + 1 + 1, 2, none⟩ = some (.slice none 0 0) := by rw [hW]; go_simp
  have s3 : w1.cell? ⟨w.heap.size + 1 + 1, 3, none⟩ = some (.slice none 0 0) := by rw [hW]; go_simp
  have fr : ∀ j, w1.frozen? ⟨w.heap.size + 1, j, none⟩ = false := fun j => by rw [hW]; go_simp
  have fs : ∀ j, w1.frozen? ⟨w.heap.size + 1 + 1, j, none⟩ = false := fun j => by rw [hW]; go_simp
  clear hW
  have HB1 := hide hb1
  have HFR := hide fr
  have HFS := hide fs
  clear hb1 fr fs
  refine (toHeap_any A A' n c n' c' x x' w1 H.out.hn (by omega) H.out.hn' (by omega) (rdB_up H.out.a HB1.out) (rdB_up H.out.a' HB1.out)).mono ?_
  rintro e w2 ⟨g, g', rfl, hg, hg', lg, lgg, lg', hb⟩
  have k2 : w2.cell? ⟨w.heap.size, 2, none⟩ = some (.slice L m d) := (hb.cell t0).trans a2
  have k3 : w2.cell? ⟨w.heap.size, 3, none⟩ = some (.slice L' m' d') := (hb.cell t0).trans a3
  have p0 := (hb.cell t1).trans r0
  have p1 := (hb.cell t1).trans r1
  have p2 := (hb.cell t1).trans r2
  have p3 := (hb.cell t1).trans r3
  have q0 := (hb.cell t2).trans s0
  have q1 := (hb.cell t2).trans s1
  have q2 := (hb.cell t2).trans s2
  have q3 := (hb.cell t2).trans s3
  have HFR2 : Hid (∀ j, w2.frozen? ⟨w.heap.size + 1, j, none⟩ = false) := hide (fun j => (hb.frozen t1).trans (HFR.out j))
  have HFS2 : Hid (∀ j, w2.frozen? ⟨w.heap.size + 1 + 1, j, none⟩ = false) := hide (fun j => (hb.frozen t2).trans (HFS.out j))
  have i0 := HFS2.out 0
  have i1 := HFS2.out 1
  have u0 : w.heap.size < w2.heap.size := Nat.lt_of_lt_of_le t0 hb.size
  have u1 : w.heap.size + 1 < w2.heap.size := Nat.lt_of_lt_of_le t1 hb.size
  have u2 : w.heap.size + 1 + 1 < w2.heap.size := Nat.lt_of_lt_of_le t2 hb.size
  have HB2 := hide (below_go HB1.out hb)
  have HG := hide hg
  have HG' := hide hg'
  have HLG : Hid (w.heap.size + 1 + 1 < g ∧ g < g' ∧ g' < w2.heap.size) := hide ⟨by omega, lgg, lg'⟩
  clear hb a2 a3 r0 r1 r2 r3 s0 s1 s2 s3 HFR HFS hg hg' lg lgg lg' t0 t1 t2
  go_wp2_with fail
  obtain ⟨w3, hW⟩ : ∃ W : World, W = (w2.setCell ⟨w.heap.size + 1 + 1, 0, none⟩ (.slice (some ⟨g, 0, none⟩) n n)).setCell ⟨w.heap.size + 1 + 1, 1, none⟩ (.slice (some ⟨g', 0, none⟩) n' n') := ⟨_, rfl⟩
  rw [← hW]
  have ht : Touch [w.heap.size + 1 + 1] w2 w3 := by rw [hW]; exact ((Touch.refl _ _).setCell (by simp) _).setCell (by simp) _
  have hz3 : w3.heap.size = w2.heap.size := by rw [hW]; simp [World.setCell]
  have c0 : w3.cell? ⟨w.heap.size + 1 + 1, 0, none⟩ = some (.slice (some ⟨g, 0, none⟩) n n) := by rw [hW]; go_simp
  have c1 : w3.cell? ⟨w.heap.size + 1 + 1, 1, none⟩ = some (.slice (some ⟨g', 0, none⟩) n' n') := by rw [hW]; go_simp
  have c2 : w3.cell? ⟨w.heap.size + 1 + 1, 2, none⟩ = some (.slice none 0 0) := by rw [hW]; go_simp
  have c3 : w3.cell? ⟨w.heap.size + 1 + 1, 3, none⟩ = some (.slice none 0 0) := by rw [hW]; go_simp
  have x0 : w3.cell? ⟨w.heap.size + 1, 0, none⟩ = some (.slice none 0 0) := by rw [hW]; go_simp
  have x1 : w3.cell? ⟨w.heap.size + 1, 1, none⟩ = some (.slice none 0 0) := by rw [hW]; go_simp
  have x2 : w3.cell? ⟨w.heap.size + 1, 2, none⟩ = some (.slice none 0 0) := by rw [hW]; go_simp
  have x3 : w3.cell? ⟨w.heap.size + 1, 3, none⟩ = some (.slice none 0 0) := by rw [hW]; go_simp
  have HFS3 : Hid (∀ j, w3.frozen? ⟨w.heap.size + 1 + 1, j, none⟩ = false) := hide (fun j => by rw [hW]; have := HFS2.out j; go_simp)
  have HFR3 : Hid (∀ j, w3.frozen? ⟨w.heap.size + 1, j, none⟩ = false) := hide (fun j => by rw [hW]; have := HFR2.out j; go_simp)
  clear hW
  have HG3 := hide (HG.out.touch ht (fun y hy => by have := HLG.out; simp at hy ⊢; omega))
  have HG3' := hide (HG'.out.touch ht (fun y hy => by have := HLG.out; simp at hy ⊢; omega))
  have HB3 := hide (Below.touch HB2.out ht (by simp <;> omega) HB2.out.size)
  clear ht k2 k3 p0 p1 p2 p3 q0 q1 q2 q3 i0 i1 HFS2 HFR2 HG HG' HB2
  refine (toLists_own L L' m d m' d' z z' w3 H.out.hm H.out.hm' (by omega) (by omega) (fun j hj => by have := len_le z m j (by rw [H.out.hm]; exact hj); have := HQ.out; omega) (fun j hj => by have := len_le z' m' j (by rw [H.out.hm']; exact hj); have := HQ.out; omega) (rdL_at H.out.l HB3.out) (rdL_at H.out.l' HB3.out)).mono ?_
  rintro e w4 ⟨b, b', G, G', rfl, ho, ho', lb, lbb, lG, lb', hb⟩
  rw [← H.out.hm, ← H.out.hm']
  have h2 : w.heap.size + 1 + 1 < w3.heap.size := by omega
  have h1 : w.heap.size + 1 < w3.heap.size := by omega
  have y0 := (hb.cell h2).trans c0
  have y1 := (hb.cell h2).trans c1
  have y2 := (hb.cell h2).trans c2
  have y3 := (hb.cell h2).trans c3
  have z0 := (hb.cell h1).trans x0
  have z1 := (hb.cell h1).trans x1
  have z2 := (hb.cell h1).trans x2
  have z3 := (hb.cell h1).trans x3
  have j2 := (hb.frozen h2).trans (HFS3.out 2)
  have j3 := (hb.frozen h2).trans (HFS3.out 3)
  have l0 := (hb.frozen h1).trans (HFR3.out 0)
  have l1 := (hb.frozen h1).trans (HFR3.out 1)
  have l2 := (hb.frozen h1).trans (HFR3.out 2)
  have l3 := (hb.frozen h1).trans (HFR3.out 3)
  have HB4 := hide (below_go HB3.out hb)
  have HO := hide ho
  have HO' := hide ho'
  have HGL : Hid (∀ j, j < z.length → b < G j ∧ G j < b') := hide (fun j hj => ⟨(ho.2.1 j hj).1, lG j hj⟩)
  have HGL' : Hid (∀ j, j < z'.length → b' < G' j) := hide (fun j hj => (ho'.2.1 j hj).1)
  have HG4 := hide (HG3.out.below hb)
  have HG4' := hide (HG3'.out.below hb)
  have HLB : Hid (w.heap.size + 1 + 1 < b ∧ b < b' ∧ b' < w4.heap.size) := hide ⟨by omega, lbb, lb'⟩
  clear hb c0 c1 c2 c3 x0 x1 x2 x3 HFS3 HFR3 HG3 HG3' ho ho' lb lbb lG lb' h1 h2 HB3 HB1
  have HT : Hid (ToM w (((((((w4.setCell ⟨w.heap.size + 1 + 1, 2, none⟩ (.slice (some ⟨b, 0, none⟩) m m)).setCell ⟨w.heap.size + 1 + 1, 3, none⟩ (.slice (some ⟨b', 0, none⟩) m' m')).setCell ⟨w.heap.size + 1, 0, none⟩ (.slice (some ⟨g, 0, none⟩) n n)).setCell ⟨w.heap.size + 1, 1, none⟩ (.slice (some ⟨g', 0, none⟩) n' n')).setCell ⟨w.heap.size + 1, 2, none⟩ (.slice (some ⟨b, 0, none⟩) m m)).setCell ⟨w.heap.size + 1, 3, none⟩ (.slice (some ⟨b', 0, none⟩) m' m'))) (.returned (.agg #[.slice (some ⟨g, 0, none⟩) n n, .slice (some ⟨g', 0, none⟩) n' n', .slice (some ⟨b, 0, none⟩) m m, .slice (some ⟨b', 0, none⟩) m' m'])) n n' m m' x x' z z') := hide (by
    have ht : Touch [w.heap.size + 1, w.heap.size + 1 + 1] w4 (((((((w4.setCell ⟨w.heap.size + 1 + 1, 2, none⟩ (.slice (some ⟨b, 0, none⟩) m m)).setCell ⟨w.heap.size + 1 + 1, 3, none⟩ (.slice (some ⟨b', 0, none⟩) m' m')).setCell ⟨w.heap.size + 1, 0, none⟩ (.slice (some ⟨g, 0, none⟩) n n)).setCell ⟨w.heap.size + 1, 1, none⟩ (.slice (some ⟨g', 0, none⟩) n' n')).setCell ⟨w.heap.size + 1, 2, none⟩ (.slice (some ⟨b, 0, none⟩) m m)).setCell ⟨w.heap.size + 1, 3, none⟩ (.slice (some ⟨b', 0, none⟩) m' m'))) := ((((((Touch.refl _ _).setCell (by simp) _).setCell (by simp) _).setCell (by simp) _).setCell (by simp) _).setCell (by simp) _).setCell (by simp) _
    have e1 := HLG.out
    have e2 := HLB.out
    have e3 := HQ.out
    have e4 := HGL.out
    have e5 := HGL'.out
    exact ⟨_, _, _, _, rfl, ⟨H.out.hn, H.out.hn', H.out.hm, H.out.hm', HQ.out, ownR (HG4.out.touch ht (fun y hy => by simp at hy ⊢; omega)), ownR (HG4'.out.touch ht (fun y hy => by simp at hy ⊢; omega)),
      (HO.out.touch ht (by simp; omega) (fun j hj => by have := e4 j hj; simp; omega)).rd (Nat.lt_of_lt_of_le (by omega) ht.size) (fun j hj => by have := len_le z m j (by rw [H.out.hm]; exact hj); omega),
      (HO'.out.touch ht (by simp; omega) (fun j hj => by have := e5 j hj; simp; omega)).rd (Nat.lt_of_lt_of_le (by omega) ht.size) (fun j hj => by have := len_le z' m' j (by rw [H.out.hm']; exact hj); omega)⟩,
      Below.touch HB4.out ht (by simp <;> omega) HB4.out.size⟩)
  clear HO HO' HGL HGL' HG4 HG4'
  go_wp2
  exact bodyPost_ret (v := .agg #[.slice (some ⟨g, 0, none⟩) n n, .slice (some ⟨g', 0, none⟩) n' n', .slice (some ⟨b, 0, none⟩) m m, .slice (some ⟨b', 0, none⟩) m' m']) (by simp [results, Try.results6, go_sem, z0, z1, z2, z3]) rfl HT.out

/-! two memories compared -/
def memR (x x' y y' : List Int) (z z' t t' : List (List Int)) : Bool := (decide (x = y) && decide (x' = y')) && sameR z z' t t'
set_option maxRecDepth 100000 in
set_option maxHeartbeats 1600000 in
theorem eqMem_any (A A' L L' B B' K K' : Option Addr) (n n' m m' c c' d d' e1 e2 e3 e4 : Nat) (x x' : List Int) (z z' : List (List Int)) (w : World) (ha : MR w A A' L L' n n' m m' x x' z z') (hb : MR w B B' K K' n n' m m' x x' z z') :
    Calls Try.prog 8 #[.agg #[.slice A n c, .slice A' n' c', .slice L m d, .slice L' m' d'], .agg #[.slice B n e1, .slice B' n' e2, .slice K m e3, .slice K' m' e4]] w fun e w' => e = .returned (.bool true) ∧ Below w.heap.size w w' := by
  have H1 := hide ha
  have H2 := hide hb
  clear ha hb
  go_enter Try.func8, Try.ntmps8
  go_wp2_with fail
  obtain ⟨w1, hW⟩ : ∃ W : World, W = (w.alloc (.cells #[.slice A n c, .slice A' n' c', .slice L m d, .slice L' m' d'] 37)).alloc (.cells #[.slice B n e1, .slice B' n' e2, .slice K m e3, .slice K' m' e4] 37) := ⟨_, rfl⟩
  rw [← hW]
  have hb1 : Below w.heap.size w w1 := by rw [hW]; exact ((Below.refl _ _).alloc (Nat.le_refl _) _).alloc (by simp) _
  have t1 : w.heap.size < w1.heap.size := by rw [hW]; simp <;> omega
  have t2 : w.heap.size + 1 < w1.heap.size := by rw [hW]; simp <;> omega
  have b2 : w1.cell? ⟨w.heap.size, 2, none⟩ = some (.slice L m d) := by rw [hW]; go_simp
  have b3 : w1.cell? ⟨w.heap.size, 3, none⟩ = some (.slice L' m' d') := by rw [hW]; go_simp
  have c2 : w1.cell? ⟨w.heap.size + 1, 2, none⟩ = some (.slice K m e3) := by rw [hW]; go_simp
  have c3 : w1.cell? ⟨w.heap.size + 1, 3, none⟩ = some (.slice K' m' e4) := by rw [hW]; go_simp
  clear hW
  have HB1 := hide hb1
  have hq := H1.out.q
  refine (eqHeap_same A B A' B' n c e1 n' c' e2 x x' w.heap.size w1 H1.out.hn (by omega) H1.out.hn' (by omega) hb1.size (H1.out.a.below hb1 (Nat.le_refl _)) (H2.out.a.below hb1 (Nat.le_refl _)) (H1.out.a'.below hb1 (Nat.le_refl _)) (H2.out.a'.below hb1 (Nat.le_refl _))).mono ?_
  rintro e w2 ⟨rfl, hb⟩
  have k2 : w2.cell? ⟨w.heap.size, 2, none⟩ = some (.slice L m d) := (hb.cell t1).trans b2
  have k3 : w2.cell? ⟨w.heap.size, 3, none⟩ = some (.slice L' m' d') := (hb.cell t1).trans b3
  have j2 : w2.cell? ⟨w.heap.size + 1, 2, none⟩ = some (.slice K m e3) := (hb.cell t2).trans c2
  have j3 : w2.cell? ⟨w.heap.size + 1, 3, none⟩ = some (.slice K' m' e4) := (hb.cell t2).trans c3
  have HB2 := hide (below_go hb1 hb)
  have HQ := hide hq
  clear hb hb1 b2 b3 c2 c3 hq
  go_wp2_with fail
  refine (eqLists_same L K L' K' m d e3 m' d' e4 z z' w2 H1.out.hm H1.out.hm' (by have := HQ.out; omega) (rdM_at H1.out.l HB2.out) (rdM_at H2.out.l HB2.out) (rdM_at H1.out.l' HB2.out) (rdM_at H2.out.l' HB2.out)).mono ?_
  rintro e w3 ⟨rfl, hb⟩
  have HB3 := hide (below_go HB2.out hb)
  clear hb
  go_wp2
  go_ret
  exact ⟨rfl, HB3.out⟩
/-! the law -/
theorem MI.of {w : World} {v0 v1 v2 v3 : Value} (h : HeapArg w v0 v1 ∧ ListsArg w v2 v3) : ∃ A A' L L' n n' m m' c c' d d' x x' z z', v0 = .slice A n c ∧ v1 = .slice A' n' c' ∧ v2 = .slice L m d ∧ v3 = .slice L' m' d' ∧ MI w A A' L L' n n' m m' c c' d d' x x' z z' := by
  obtain ⟨⟨A, n, c, x, A', n', c', x', rfl, rfl, ⟨h1, h2, h3, h4, h5⟩, ⟨i1, i2, i3, i4, i5⟩⟩, z, z', ⟨L, m, d, rfl, j1, j2, j3, j4⟩, ⟨L', m', d', rfl, k1, k2, k3, k4⟩⟩ := h
  exact ⟨A, A', L, L', n, n', m, m', c, c', d, d', x, x', z, z', rfl, rfl, rfl, rfl, ⟨h1, i1, j1, k1, h2, h3, i2, i3, j2, j3, k2, k3, h4, i4, j4, k4⟩⟩
def Cells8 (b b' : Nat) (u0 u1 u2 u3 v0 v1 v2 v3 : Value) (W : World) : Prop :=
  W.cell? ⟨b, 0, none⟩ = some u0 ∧ W.cell? ⟨b, 1, none⟩ = some u1 ∧ W.cell? ⟨b, 2, none⟩ = some u2 ∧ W.cell? ⟨b, 3, none⟩ = some u3 ∧ W.cell? ⟨b', 0, none⟩ = some v0 ∧ W.cell? ⟨b', 1, none⟩ = some v1 ∧ W.cell? ⟨b', 2, none⟩ = some v2 ∧ W.cell? ⟨b', 3, none⟩ = some v3
theorem keep44 {wK W W' : World} {b b' : Nat} {u0 u1 u2 u3 v0 v1 v2 v3 : Value} (hp : b < wK.heap.size) (hq : b' < wK.heap.size) (hb : Below W.heap.size W W')
    (h : (W.cell? ⟨b, 0, none⟩ = some u0 ∧ W.cell? ⟨b, 1, none⟩ = some u1 ∧ W.cell? ⟨b, 2, none⟩ = some u2 ∧ W.cell? ⟨b, 3, none⟩ = some u3 ∧ W.cell? ⟨b', 0, none⟩ = some v0 ∧ W.cell? ⟨b', 1, none⟩ = some v1 ∧ W.cell? ⟨b', 2, none⟩ = some v2 ∧ W.cell? ⟨b', 3, none⟩ = some v3) ∧ Below wK.heap.size wK W) :
    (W'.cell? ⟨b, 0, none⟩ = some u0 ∧ W'.cell? ⟨b, 1, none⟩ = some u1 ∧ W'.cell? ⟨b, 2, none⟩ = some u2 ∧ W'.cell? ⟨b, 3, none⟩ = some u3 ∧ W'.cell? ⟨b', 0, none⟩ = some v0 ∧ W'.cell? ⟨b', 1, none⟩ = some v1 ∧ W'.cell? ⟨b', 2, none⟩ = some v2 ∧ W'.cell? ⟨b', 3, none⟩ = some v3) ∧ Below wK.heap.size wK W' := by
  have hz := h.2.size
  obtain ⟨⟨h0, h1, h2, h3, h4, h5, h6, h7⟩, hB⟩ := h
  exact ⟨⟨(hb.cell (by show b < _; omega)).trans h0, (hb.cell (by show b < _; omega)).trans h1, (hb.cell (by show b < _; omega)).trans h2, (hb.cell (by show b < _; omega)).trans h3, (hb.cell (by show b' < _; omega)).trans h4, (hb.cell (by show b' < _; omega)).trans h5, (hb.cell (by show b' < _; omega)).trans h6, (hb.cell (by show b' < _; omega)).trans h7⟩, hB.trans (hb.mono hz)⟩
theorem MI.at {w wK W : World} {A A' L L' : Option Addr} {n n' m m' c c' d d' : Nat} {x x' : List Int} {z z' : List (List Int)} {C : Prop} (h : MI w A A' L L' n n' m m' c c' d d' x x' z z') (hB : Below w.heap.size w wK) (hS : C ∧ Below wK.heap.size wK W) : MI W A A' L L' n n' m m' c c' d d' x x' z z' :=
  h.up (hB.trans (hS.2.mono hB.size))
theorem MR.at {wK W : World} {A A' L L' : Option Addr} {n n' m m' : Nat} {x x' : List Int} {z z' : List (List Int)} {C : Prop} (h : MR wK A A' L L' n n' m m' x x' z z') (hS : C ∧ Below wK.heap.size wK W) : MR W A A' L L' n n' m m' x x' z z' := h.up hS.2
theorem mnamed {C : World → Prop} {wK W : World} (h : C W ∧ Below wK.heap.size wK W) : ∃ V, V = W ∧ C V ∧ Below wK.heap.size wK V := ⟨W, rfl, h.1, h.2⟩
end Go.Proofs.Ytnnmdikbcfefjaa
