/-
  SameMem: are two memories equal? The contracts and the walk of the law.
-/
import Derived.Test.YtpjlbpmlddjddaaSameHeapM
import Derived.Test.YtpjlbpmlddjddaaSameListsM
namespace Go.Proofs.Ytpjlbpmlddjddaa
open Go.RowKit
set_option linter.unusedVariables false

/-- A memory that reads so. -/
structure MR (w : World) (A A' L L' : Option Addr) (n n' m m' : Nat) (x x' : List Int) (z z' : List (List Int)) : Prop where
  hn : n = x.length
  hn' : n' = x'.length
  hm : m = z.length
  hm' : m' = z'.length
  q : n + n' + (m + sumL z m + m' + sumL z' m') ≤ 1048576
  a : RdB .i64 w A x w.heap.size
  a' : RdB .i64 w A' x' w.heap.size
  l : RdM w L z w.heap.size
  l' : RdM w L' z' w.heap.size
theorem rdB_up {w W : World} {A : Option Addr} {z : List Int} (h : RdB .i64 w A z w.heap.size) (hb : Below w.heap.size w W) : RdB .i64 W A z W.heap.size := (h.below hb (Nat.le_refl _)).more hb.size
theorem MR.up {w W : World} {A A' L L' : Option Addr} {n n' m m' : Nat} {x x' : List Int} {z z' : List (List Int)} (h : MR w A A' L L' n n' m m' x x' z z') (hb : Below w.heap.size w W) : MR W A A' L L' n n' m m' x x' z z' :=
  ⟨h.hn, h.hn', h.hm, h.hm', h.q, rdB_up h.a hb, rdB_up h.a' hb, rdM_at h.l hb, rdM_at h.l' hb⟩
/-- A memory that came in. -/
structure MI (w : World) (A A' L L' : Option Addr) (n n' m m' c c' d d' : Nat) (x x' : List Int) (z z' : List (List Int)) : Prop where
  hn : n = x.length
  hn' : n' = x'.length
  hm : m = z.length
  hm' : m' = z'.length
  c1 : n ≤ c
  c2 : c ≤ maxLen
  c3 : n' ≤ c'
  c4 : c' ≤ maxLen
  d1 : m ≤ d
  d2 : d ≤ maxLen
  d3 : m' ≤ d'
  d4 : d' ≤ maxLen
  a : RdB .i64 w A x w.heap.size
  a' : RdB .i64 w A' x' w.heap.size
  l : RdL w L z w.heap.size
  l' : RdL w L' z' w.heap.size
theorem MI.up {w W : World} {A A' L L' : Option Addr} {n n' m m' c c' d d' : Nat} {x x' : List Int} {z z' : List (List Int)} (h : MI w A A' L L' n n' m m' c c' d d' x x' z z') (hb : Below w.heap.size w W) : MI W A A' L L' n n' m m' c c' d d' x x' z z' :=
  ⟨h.hn, h.hn', h.hm, h.hm', h.c1, h.c2, h.c3, h.c4, h.d1, h.d2, h.d3, h.d4, rdB_up h.a hb, rdB_up h.a' hb, rdL_at h.l hb, rdL_at h.l' hb⟩
def MSum (n n' m m' : Nat) (z z' : List (List Int)) : Int := (n : Int) + n' + ((m : Int) + sumL z m + m' + sumL z' m')
set_option maxRecDepth 100000 in
set_option maxHeartbeats 1600000 in
theorem szMem_any (A A' L L' : Option Addr) (n n' m m' c c' d d' : Nat) (x x' : List Int) (z z' : List (List Int)) (k : Int) (w : World) (h0 : 0 ≤ k) (h1 : k ≤ 2097152) (h : MI w A A' L L' n n' m m' c c' d d' x x' z z') :
    Calls Try.prog 10 #[.agg #[.slice A n c, .slice A' n' c', .slice L m d, .slice L' m' d'], .int .i64 k] w fun e w' => SzRes e (MSum n n' m m' z z') k ∧ Below w.heap.size w w' := by
  have H := hide h
  clear h
  go_enter Try.func10, Try.ntmps10
  go_wp2_with fail
  obtain ⟨w1, hW⟩ : ∃ W : World, W = w.alloc (.cells #[.slice A n c, .slice A' n' c', .slice L m d, .slice L' m' d'] 39) := ⟨_, rfl⟩
  rw [← hW]
  have hb1 : Below w.heap.size w w1 := by rw [hW]; exact (Below.refl _ _).alloc (Nat.le_refl _) _
  have t1 : w.heap.size < w1.heap.size := by rw [hW]; simp
  have b2 : w1.cell? ⟨w.heap.size, 2, none⟩ = some (.slice L m d) := by rw [hW]; go_simp
  have b3 : w1.cell? ⟨w.heap.size, 3, none⟩ = some (.slice L' m' d') := by rw [hW]; go_simp
  clear hW
  have HB1 := hide hb1
  by_cases hs : (n : Int) + n' ≤ k
  case neg =>
    refine (szHeap_no A A' n c n' c' k w1 h0 h1 H.out.c1 H.out.c2 H.out.c3 H.out.c4 hs).mono ?_
    rintro e w2 ⟨rfl, hb⟩
    have HB2 := hide (below_go hb1 hb)
    have HX : Hid (k < MSum n n' m m' z z') := hide (by unfold MSum; omega)
    clear hb hb1 b2 b3
    go_wp2
    go_ret
    exact ⟨⟨-1, rfl, .inr ⟨HX.out, rfl⟩⟩, HB2.out⟩
  refine (szHeap_yes A A' n c n' c' k w1 h0 h1 hs).mono ?_
  rintro e w2 ⟨rfl, hb⟩
  have k2 : w2.cell? ⟨w.heap.size, 2, none⟩ = some (.slice L m d) := (hb.cell t1).trans b2
  have k3 : w2.cell? ⟨w.heap.size, 3, none⟩ = some (.slice L' m' d') := (hb.cell t1).trans b3
  have HB2 := hide (below_go hb1 hb)
  obtain ⟨r, hr⟩ : ∃ r : Int, r = k - (n : Int) - (n' : Int) := ⟨_, rfl⟩
  rw [← hr]
  have hr0 : 0 ≤ r := by omega
  have hr1 : r ≤ 2097152 := by omega
  have HR := hide hr
  clear hb hb1 b2 b3 hr
  go_wp2_with fail
  refine (szLists_any L L' m d m' d' z z' r w2 H.out.hm H.out.hm' hr0 hr1 H.out.d1 H.out.d2 H.out.d3 H.out.d4 (rdL_at H.out.l HB2.out) (rdL_at H.out.l' HB2.out)).mono ?_
  rintro e w3 ⟨⟨r', rfl, hr'⟩, hb⟩
  have HB3 := hide (below_go HB2.out hb)
  have HR' := hide hr'
  clear hb hr'
  by_cases hlt : r' < 0
  · have HX : Hid (k < MSum n n' m m' z z') := hide (by unfold MSum; have := HR.out; have := HR'.out; omega)
    go_wp2
    go_ret
    exact ⟨⟨-1, rfl, .inr ⟨HX.out, rfl⟩⟩, HB3.out⟩
  · have HX : Hid (MSum n n' m m' z z' ≤ k ∧ r' = k - MSum n n' m m' z z') := hide (by unfold MSum; have := HR.out; have := HR'.out; omega)
    go_wp2
    go_ret
    exact ⟨⟨r', rfl, .inl HX.out⟩, HB3.out⟩
def ToM (w w' : World) (e : Ending) (n n' m m' : Nat) (x x' : List Int) (z z' : List (List Int)) : Prop :=
  ∃ A A' L L', e = .returned (.agg #[.slice A n n, .slice A' n' n', .slice L m m, .slice L' m' m']) ∧ MR w' A A' L L' n n' m m' x x' z z' ∧ Below w.heap.size w w'
set_option maxRecDepth 100000 in
set_option maxHeartbeats 3200000 in
theorem toMem_any (A A' L L' : Option Addr) (n n' m m' c c' d d' : Nat) (x x' : List Int) (z z' : List (List Int)) (w : World) (h : MI w A A' L L' n n' m m' c c' d d' x x' z z') (hq : n + n' + (m + sumL z m + m' + sumL z' m') ≤ 1048576) :
    Calls Try.prog 12 #[.agg #[.slice A n c, .slice A' n' c', .slice L m d, .slice L' m' d']] w fun e w' => ToM w w' e n n' m m' x x' z z' := by
  have H := hide h
  have HQ := hide hq
  clear h
  go_enter Try.func12, Try.ntmps12
  go_wp2_with fail
  obtain ⟨w1, hW⟩ : ∃ W : World, W = ((w.alloc (.cells #[.slice A n c, .slice A' n' c', .slice L m d, .slice L' m' d'] 39)).alloc (.cells #[.slice none 0 0, .slice none 0 0, .slice none 0 0, .slice none 0 0] 29)).alloc (.cells #[.slice none 0 0, .slice none 0 0, .slice none 0 0, .slice none 0 0] 29) := ⟨_, rfl⟩
  rw [← hW]
  have hb1 : Below w.heap.size w w1 := by rw [hW]; exact (((Below.refl _ _).alloc (Nat.le_refl _) _).alloc (by simp) _).alloc (by simp <;> omega) _
  have t0 : w.heap.size < w1.heap.size := by rw [hW]; simp <;> omega
  have t1 : w.heap.size + 1 < w1.heap.size := by rw [hW]; simp <;> omega
  have t2 : w.heap.size + 1 + 1 < w1.heap.size := by rw [hW]; simp <;> omega
  have a2 : w1.cell? ⟨w.heap.size, 2, none⟩ = some (.slice L m d) := by rw [hW]; go_simp
  have a3 : w1.cell? ⟨w.heap.size, 3, none⟩ = some (.slice L' m' d') := by rw [hW]; go_simp
  have r0 : w1.cell? ⟨w.heap.size + 1, 0, none⟩ = some (.slice none 0 0) := by rw [hW]; go_simp
  have r1 : w1.cell? ⟨w.heap.size + 1, 1, none⟩ = some (.slice none 0 0) := by rw [hW]; go_simp
  have r2 : w1.cell? ⟨w.heap.size + 1, 2, none⟩ = some (.slice none 0 0) := by rw [hW]; go_simp
  have r3 : w1.cell? ⟨w.heap.size + 1, 3, none⟩ = some (.slice none 0 0) := by rw [hW]; go_simp
  have s0 : w1.cell? ⟨w.heap.size + 1 + 1, 0, none⟩ = some (.slice none 0 0) := by rw [hW]; go_simp
  have s1 : w1.cell? ⟨w.heap.size + 1 + 1, 1, none⟩ = some (.slice none 0 0) := by rw [hW]; go_simp
  have s2 : w1.cell? ⟨w.heap.size + 1 + 1, 2, none⟩ = some (.slice none 0 0) := by rw [hW]; go_simp
  have s3 : w1.cell? ⟨w.heap.size + 1 + 1, 3, none⟩ = some (.slice none 0 0) := by rw [hW]; go_simp
  have fr : ∀ j, w1.frozen? ⟨w.heap.size + 1, j, none⟩ = false := fun j => by rw [hW]; go_simp
  have fs : ∀ j, w1.frozen? ⟨w.heap.size + 1 + 1, j, none⟩ = false := fun j => by rw [hW]; go_simp
  clear hW
  have HB1 := hide hb1
  have HFR := hide fr
  have HFS := hide fs
  clear hb1 fr fs
  refine (toHeap_any A A' n c n' c' x x' w1 H.out.hn (by omega) H.out.hn' (by omega) (rdB_up H.out.a HB1.out) (rdB_up H.out.a' HB1.out)).mono ?_
  rintro e w2 ⟨g, g', rfl, hg, hg', lg, lgg, lg', hb⟩
  have k2 : w2.cell? ⟨w.heap.size, 2, none⟩ = some (.slice L m d) := (hb.cell t0).trans a2
  have k3 : w2.cell? ⟨w.heap.size, 3, none⟩ = some (.slice L' m' d') := (hb.cell t0).trans a3
  have p0 := (hb.cell t1).trans r0
  have p1 := (hb.cell t1).trans r1
  have p2 := (hb.cell t1).trans r2
  have p3 := (hb.cell t1).trans r3
  have q0 := (hb.cell t2).trans s0
  have q1 := (hb.cell t2).trans s1
  have q2 := (hb.cell t2).trans s2
  have q3 := (hb.cell t2).trans s3
  have HFR2 : Hid (∀ j, w2.frozen? ⟨w.heap.size + 1, j, none⟩ = false) := hide (fun j => (hb.frozen t1).trans (HFR.out j))
  have HFS2 : Hid (∀ j, w2.frozen? ⟨w.heap.size + 1 + 1, j, none⟩ = false) := hide (fun j => (hb.frozen t2).trans (HFS.out j))
  have i0 := HFS2.out 0
  have i1 := HFS2.out 1
  have u0 : w.heap.size < w2.heap.size := Nat.lt_of_lt_of_le t0 hb.size
  have u1 : w.heap.size + 1 < w2.heap.size := Nat.lt_of_lt_of_le t1 hb.size
  have u2 : w.heap.size + 1 + 1 < w2.heap.size := Nat.lt_of_lt_of_le t2 hb.size
  have HB2 := hide (below_go HB1.out hb)
  have HG := hide hg
  have HG' := hide hg'
  have HLG : Hid (w.heap.size + 1 + 1 < g ∧ g < g' ∧ g' < w2.heap.size) := hide ⟨by omega, lgg, lg'⟩
  clear hb a2 a3 r0 r1 r2 r3 s0 s1 s2 s3 HFR HFS hg hg' lg lgg lg' t0 t1 t2
  go_wp2_with fail
  obtain ⟨w3, hW⟩ : ∃ W : World, W = (w2.setCell ⟨w.heap.size + 1 + 1, 0, none⟩ (.slice (some ⟨g, 0, none⟩) n n)).setCell ⟨w.heap.size + 1 + 1, 1, none⟩ (.slice (some ⟨g', 0, none⟩) n' n') := ⟨_, rfl⟩
  rw [← hW]
  have ht : Touch [w.heap.size + 1 + 1] w2 w3 := by rw [hW]; exact ((Touch.refl _ _).setCell (by simp) _).setCell (by simp) _
  have hz3 : w3.heap.size = w2.heap.size := by rw [hW]; simp [World.setCell]
  have c0 : w3.cell? ⟨w.heap.size + 1 + 1, 0, none⟩ = some (.slice (some ⟨g, 0, none⟩) n n) := by rw [hW]; go_simp
  have c1 : w3.cell? ⟨w.heap.size + 1 + 1, 1, none⟩ = some (.slice (some ⟨g', 0, none⟩) n' n') := by rw [hW]; go_simp
  have c2 : w3.cell? ⟨w.heap.size + 1 + 1, 2, none⟩ = some (.slice none 0 0) := by rw [hW]; go_simp
  have c3 : w3.cell? ⟨w.heap.size + 1 + 1, 3, none⟩ = some (.slice none 0 0) := by rw [hW]; go_simp
  have x0 : w3.cell? ⟨w.heap.size + 1, 0, none⟩ = some (.slice none 0 0) := by rw [hW]; go_simp
  have x1 : w3.cell? ⟨w.heap.size + 1, 1, none⟩ = some (.slice none 0 0) := by rw [hW]; go_simp
  have x2 : w3.cell? ⟨w.heap.size + 1, 2, none⟩ = some (.slice none 0 0) := by rw [hW]; go_simp
  have x3 : w3.cell? ⟨w.heap.size + 1, 3, none⟩ = some (.slice none 0 0) := by rw [hW]; go_simp
  have HFS3 : Hid (∀ j, w3.frozen? ⟨w.heap.size + 1 + 1, j, none⟩ = false) := hide (fun j => by rw [hW]; have := HFS2.out j; go_simp)
  have HFR3 : Hid (∀ j, w3.frozen? ⟨w.heap.size + 1, j, none⟩ = false) := hide (fun j => by rw [hW]; have := HFR2.out j; go_simp)
  clear hW
  have HG3 := hide (HG.out.touch ht (fun y hy => by have := HLG.out; simp at hy ⊢; omega))
  have HG3' := hide (HG'.out.touch ht (fun y hy => by have := HLG.out; simp at hy ⊢; omega))
  have HB3 := hide (Below.touch HB2.out ht (by simp <;> omega) HB2.out.size)
  clear ht k2 k3 p0 p1 p2 p3 q0 q1 q2 q3 i0 i1 HFS2 HFR2 HG HG' HB2
  refine (toLists_own L L' m d m' d' z z' w3 H.out.hm H.out.hm' (by omega) (by omega) (fun j hj => by have := len_le z m j (by rw [H.out.hm]; exact hj); have := HQ.out; omega) (fun j hj => by have := len_le z' m' j (by rw [H.out.hm']; exact hj); have := HQ.out; omega) (rdL_at H.out.l HB3.out) (rdL_at H.out.l' HB3.out)).mono ?_
  rintro e w4 ⟨b, b', G, G', rfl, ho, ho', lb, lbb, lG, lb', hb⟩
  rw [← H.out.hm, ← H.out.hm']
  have h2 : w.heap.size + 1 + 1 < w3.heap.size := by omega
  have h1 : w.heap.size + 1 < w3.heap.size := by omega
  have y0 := (hb.cell h2).trans c0
  have y1 := (hb.cell h2).trans c1
  have y2 := (hb.cell h2).trans c2
  have y3 := (hb.cell h2).trans c3
  have z0 := (hb.cell h1).trans x0
  have z1 := (hb.cell h1).trans x1
  have z2 := (hb.cell h1).trans x2
  have z3 := (hb.cell h1).trans x3
  have j2 := (hb.frozen h2).trans (HFS3.out 2)
  have j3 := (hb.frozen h2).trans (HFS3.out 3)
  have l0 := (hb.frozen h1).trans (HFR3.out 0)
  have l1 := (hb.frozen h1).trans (HFR3.out 1)
  have l2 := (hb.frozen h1).trans (HFR3.out 2)
  have l3 := (hb.frozen h1).trans (HFR3.out 3)
  have HB4 := hide (below_go HB3.out hb)
  have HO := hide ho
  have HO' := hide ho'
  have HGL : Hid (∀ j, j < z.length → b < G j ∧ G j < b') := hide (fun j hj => ⟨(ho.2.1 j hj).1, lG j hj⟩)
  have HGL' : Hid (∀ j, j < z'.length → b' < G' j) := hide (fun j hj => (ho'.2.1 j hj).1)
  have HG4 := hide (HG3.out.below hb)
  have HG4' := hide (HG3'.out.below hb)
  have HLB : Hid (w.heap.size + 1 + 1 < b ∧ b < b' ∧ b' < w4.heap.size) := hide ⟨by omega, lbb, lb'⟩
  clear hb c0 c1 c2 c3 x0 x1 x2 x3 HFS3 HFR3 HG3 HG3' ho ho' lb lbb lG lb' h1 h2 HB3 HB1
  have HT : Hid (ToM w (((((((w4.setCell ⟨w.heap.size + 1 + 1, 2, none⟩ (.slice (some ⟨b, 0, none⟩) m m)).setCell ⟨w.heap.size + 1 + 1, 3, none⟩ (.slice (some ⟨b', 0, none⟩) m' m')).setCell ⟨w.heap.size + 1, 0, none⟩ (.slice (some ⟨g, 0, none⟩) n n)).setCell ⟨w.heap.size + 1, 1, none⟩ (.slice (some ⟨g', 0, none⟩) n' n')).setCell ⟨w.heap.size + 1, 2, none⟩ (.slice (some ⟨b, 0, none⟩) m m)).setCell ⟨w.heap.size + 1, 3, none⟩ (.slice (some ⟨b', 0, none⟩) m' m'))) (.returned (.agg #[.slice (some ⟨g, 0, none⟩) n n, .slice (some ⟨g', 0, none⟩) n' n', .slice (some ⟨b, 0, none⟩) m m, .slice (some ⟨b', 0, none⟩) m' m'])) n n' m m' x x' z z') := hide (by
    have ht : Touch [w.heap.size + 1, w.heap.size + 1 + 1] w4 (((((((w4.setCell ⟨w.heap.size + 1 + 1, 2, none⟩ (.slice (some ⟨b, 0, none⟩) m m)).setCell ⟨w.heap.size + 1 + 1, 3, none⟩ (.slice (some ⟨b', 0, none⟩) m' m')).setCell ⟨w.heap.size + 1, 0, none⟩ (.slice (some ⟨g, 0, none⟩) n n)).setCell ⟨w.heap.size + 1, 1, none⟩ (.slice (some ⟨g', 0, none⟩) n' n')).setCell ⟨w.heap.size + 1, 2, none⟩ (.slice (some ⟨b, 0, none⟩) m m)).setCell ⟨w.heap.size + 1, 3, none⟩ (.slice (some ⟨b', 0, none⟩) m' m'))) := ((((((Touch.refl _ _).setCell (by simp) _).setCell (by simp) _).setCell (by simp) _).setCell (by simp) _).setCell (by simp) _).setCell (by simp) _
    have e1 := HLG.out
    have e2 := HLB.out
    have e3 := HQ.out
    have e4 := HGL.out
    have e5 := HGL'.out
    exact ⟨_, _, _, _, rfl, ⟨H.out.hn, H.out.hn', H.out.hm, H.out.hm', HQ.out, ownR (HG4.out.touch ht (fun y hy => by simp at hy ⊢; omega)), ownR (HG4'.out.touch ht (fun y hy => by simp at hy ⊢; omega)),
      (HO.out.touch ht (by simp; omega) (fun j hj => by have := e4 j hj; simp; omega)).rd (Nat.lt_of_lt_of_le (by omega) ht.size) (fun j hj => by have := len_le z m j (by rw [H.out.hm]; exact hj); omega),
      (HO'.out.touch ht (by simp; omega) (fun j hj => by have := e5 j hj; simp; omega)).rd (Nat.lt_of_lt_of_le (by omega) ht.size) (fun j hj => by have := len_le z' m' j (by rw [H.out.hm']; exact hj); omega)⟩,
      Below.touch HB4.out ht (by simp <;> omega) HB4.out.size⟩)
  clear HO HO' HGL HGL' HG4 HG4'
  go_wp2
  exact bodyPost_ret (v := .agg #[.slice (some ⟨g, 0, none⟩) n n, .slice (some ⟨g', 0, none⟩) n' n', .slice (some ⟨b, 0, none⟩) m m, .slice (some ⟨b', 0, none⟩) m' m']) (by simp [results, Try.results12, go_sem, z0, z1, z2, z3]) rfl HT.out

/-! two memories compared -/
def memR (x x' y y' : List Int) (z z' t t' : List (List Int)) : Bool := (decide (x = y) && decide (x' = y')) && sameR z z' t t'
set_option maxRecDepth 100000 in
set_option maxHeartbeats 1600000 in
theorem eqMem_any (A A' L L' B B' K K' : Option Addr) (n n' m m' c c' d d' e1 e2 e3 e4 : Nat) (x x' : List Int) (z z' : List (List Int)) (w : World) (ha : MR w A A' L L' n n' m m' x x' z z') (hb : MR w B B' K K' n n' m m' x x' z z') :
    Calls Try.prog 7 #[.agg #[.slice A n c, .slice A' n' c', .slice L m d, .slice L' m' d'], .agg #[.slice B n e1, .slice B' n' e2, .slice K m e3, .slice K' m' e4]] w fun e w' => e = .returned (.bool true) ∧ Below w.heap.size w w' := by
  have H1 := hide ha
  have H2 := hide hb
  clear ha hb
  go_enter Try.func7, Try.ntmps7
  go_wp2_with fail
  obtain ⟨w1, hW⟩ : ∃ W : World, W = (w.alloc (.cells #[.slice A n c, .slice A' n' c', .slice L m d, .slice L' m' d'] 29)).alloc (.cells #[.slice B n e1, .slice B' n' e2, .slice K m e3, .slice K' m' e4] 29) := ⟨_, rfl⟩
  rw [← hW]
  have hb1 : Below w.heap.size w w1 := by rw [hW]; exact ((Below.refl _ _).alloc (Nat.le_refl _) _).alloc (by simp) _
  have t1 : w.heap.size < w1.heap.size := by rw [hW]; simp <;> omega
  have t2 : w.heap.size + 1 < w1.heap.size := by rw [hW]; simp <;> omega
  have b2 : w1.cell? ⟨w.heap.size, 2, none⟩ = some (.slice L m d) := by rw [hW]; go_simp
  have b3 : w1.cell? ⟨w.heap.size, 3, none⟩ = some (.slice L' m' d') := by rw [hW]; go_simp
  have c2 : w1.cell? ⟨w.heap.size + 1, 2, none⟩ = some (.slice K m e3) := by rw [hW]; go_simp
  have c3 : w1.cell? ⟨w.heap.size + 1, 3, none⟩ = some (.slice K' m' e4) := by rw [hW]; go_simp
  clear hW
  have HB1 := hide hb1
  have hq := H1.out.q
  refine (eqHeap_same A B A' B' n c e1 n' c' e2 x x' w.heap.size w1 H1.out.hn (by omega) H1.out.hn' (by omega) hb1.size (H1.out.a.below hb1 (Nat.le_refl _)) (H2.out.a.below hb1 (Nat.le_refl _)) (H1.out.a'.below hb1 (Nat.le_refl _)) (H2.out.a'.below hb1 (Nat.le_refl _))).mono ?_
  rintro e w2 ⟨rfl, hb⟩
  have k2 : w2.cell? ⟨w.heap.size, 2, none⟩ = some (.slice L m d) := (hb.cell t1).trans b2
  have k3 : w2.cell? ⟨w.heap.size, 3, none⟩ = some (.slice L' m' d') := (hb.cell t1).trans b3
  have j2 : w2.cell? ⟨w.heap.size + 1, 2, none⟩ = some (.slice K m e3) := (hb.cell t2).trans c2
  have j3 : w2.cell? ⟨w.heap.size + 1, 3, none⟩ = some (.slice K' m' e4) := (hb.cell t2).trans c3
  have HB2 := hide (below_go hb1 hb)
  have HQ := hide hq
  clear hb hb1 b2 b3 c2 c3 hq
  go_wp2_with fail
  refine (eqLists_same L K L' K' m d e3 m' d' e4 z z' w2 H1.out.hm H1.out.hm' (by have := HQ.out; omega) (rdM_at H1.out.l HB2.out) (rdM_at H2.out.l HB2.out) (rdM_at H1.out.l' HB2.out) (rdM_at H2.out.l' HB2.out)).mono ?_
  rintro e w3 ⟨rfl, hb⟩
  have HB3 := hide (below_go HB2.out hb)
  clear hb
  go_wp2
  go_ret
  exact ⟨rfl, HB3.out⟩
set_option maxRecDepth 100000 in
set_option maxHeartbeats 1600000 in
theorem specSameMem_any (A A' L L' B B' K K' : Option Addr) (n n' m m' c c' d d' r r' s s' e1 e2 e3 e4 : Nat) (x x' y y' : List Int) (z z' t t' : List (List Int)) (w : World) (ha : MR w A A' L L' n n' m m' x x' z z') (hb : MR w B B' K K' r r' s s' y y' t t') :
    Calls Try.prog 11 #[.agg #[.slice A n c, .slice A' n' c', .slice L m d, .slice L' m' d'], .agg #[.slice B r e1, .slice B' r' e2, .slice K s e3, .slice K' s' e4]] w fun e w' => e = .returned (.bool (memR x x' y y' z z' t t')) ∧ Below w.heap.size w w' := by
  have H1 := hide ha
  have H2 := hide hb
  clear ha hb
  go_enter Try.func11, Try.ntmps11
  go_wp2_with fail
  obtain ⟨w1, hW⟩ : ∃ W : World, W = (w.alloc (.cells #[.slice A n c, .slice A' n' c', .slice L m d, .slice L' m' d'] 29)).alloc (.cells #[.slice B r e1, .slice B' r' e2, .slice K s e3, .slice K' s' e4] 29) := ⟨_, rfl⟩
  rw [← hW]
  have hb1 : Below w.heap.size w w1 := by rw [hW]; exact ((Below.refl _ _).alloc (Nat.le_refl _) _).alloc (by simp) _
  have t1 : w.heap.size < w1.heap.size := by rw [hW]; simp <;> omega
  have t2 : w.heap.size + 1 < w1.heap.size := by rw [hW]; simp <;> omega
  have b2 : w1.cell? ⟨w.heap.size, 2, none⟩ = some (.slice L m d) := by rw [hW]; go_simp
  have b3 : w1.cell? ⟨w.heap.size, 3, none⟩ = some (.slice L' m' d') := by rw [hW]; go_simp
  have c2 : w1.cell? ⟨w.heap.size + 1, 2, none⟩ = some (.slice K s e3) := by rw [hW]; go_simp
  have c3 : w1.cell? ⟨w.heap.size + 1, 3, none⟩ = some (.slice K' s' e4) := by rw [hW]; go_simp
  clear hW
  have HB1 := hide hb1
  have hq := H1.out.q
  have hq2 := H2.out.q
  refine (specSameHeap_any A B A' B' n c r e1 n' c' r' e2 x x' y y' w1 H1.out.hn H1.out.hn' H2.out.hn H2.out.hn' (by omega) (by omega) (by omega) (by omega) (rdB_up H1.out.a hb1) (rdB_up H1.out.a' hb1) (rdB_up H2.out.a hb1) (rdB_up H2.out.a' hb1)).mono ?_
  rintro e w2 ⟨rfl, hb⟩
  have k2 : w2.cell? ⟨w.heap.size, 2, none⟩ = some (.slice L m d) := (hb.cell t1).trans b2
  have k3 : w2.cell? ⟨w.heap.size, 3, none⟩ = some (.slice L' m' d') := (hb.cell t1).trans b3
  have j2 : w2.cell? ⟨w.heap.size + 1, 2, none⟩ = some (.slice K s e3) := (hb.cell t2).trans c2
  have j3 : w2.cell? ⟨w.heap.size + 1, 3, none⟩ = some (.slice K' s' e4) := (hb.cell t2).trans c3
  have HB2 := hide (below_go hb1 hb)
  have HQ := hide hq
  have HQ2 := hide hq2
  have HX : Hid (∀ b, (decide (x = y) && decide (x' = y')) = b → memR x x' y y' z z' t t' = (b && sameR z z' t t')) := hide (fun b h => by unfold memR; rw [h])
  clear hb hb1 b2 b3 c2 c3 hq hq2
  generalize hb : (decide (x = y) && decide (x' = y')) = b
  cases b
  · have HY := hide (HX.out _ hb)
    clear HX hb
    go_wp2
    go_ret
    exact ⟨retB (by rw [HY.out]; rfl), HB2.out⟩
  · have HY := hide (HX.out _ hb)
    clear HX hb
    go_wp2_with fail
    refine (specSameLists_any L L' K K' m d m' d' s e3 s' e4 z z' t t' w2 H1.out.hm H1.out.hm' H2.out.hm H2.out.hm' (by have := HQ.out; omega) (by have := HQ2.out; omega) (rdM_at H1.out.l HB2.out) (rdM_at H1.out.l' HB2.out) (rdM_at H2.out.l HB2.out) (rdM_at H2.out.l' HB2.out)).mono ?_
    rintro e w3 ⟨rfl, hb⟩
    have HB3 := hide (below_go HB2.out hb)
    clear hb
    go_wp2
    go_ret
    exact ⟨retB (by rw [HY.out]; simp), HB3.out⟩
set_option maxRecDepth 100000 in
set_option maxHeartbeats 1600000 in
theorem implSameMem_any (A A' L L' B B' K K' : Option Addr) (n n' m m' c c' d d' r r' s s' e1 e2 e3 e4 : Nat) (x x' y y' : List Int) (z z' t t' : List (List Int)) (w : World) (ha : MR w A A' L L' n n' m m' x x' z z') (hb : MR w B B' K K' r r' s s' y y' t t') :
    Calls Try.prog 13 #[.agg #[.slice A n c, .slice A' n' c', .slice L m d, .slice L' m' d'], .agg #[.slice B r e1, .slice B' r' e2, .slice K s e3, .slice K' s' e4]] w fun e w' => e = .returned (.bool (memR x x' y y' z z' t t')) ∧ Below w.heap.size w w' := by
  have H1 := hide ha
  have H2 := hide hb
  clear ha hb
  go_enter Try.func13, Try.ntmps13
  go_wp2_with fail
  obtain ⟨w1, hW⟩ : ∃ W : World, W = (w.alloc (.cells #[.slice A n c, .slice A' n' c', .slice L m d, .slice L' m' d'] 29)).alloc (.cells #[.slice B r e1, .slice B' r' e2, .slice K s e3, .slice K' s' e4] 29) := ⟨_, rfl⟩
  rw [← hW]
  have hb1 : Below w.heap.size w w1 := by rw [hW]; exact ((Below.refl _ _).alloc (Nat.le_refl _) _).alloc (by simp) _
  have t1 : w.heap.size < w1.heap.size := by rw [hW]; simp <;> omega
  have t2 : w.heap.size + 1 < w1.heap.size := by rw [hW]; simp <;> omega
  have b2 : w1.cell? ⟨w.heap.size, 2, none⟩ = some (.slice L m d) := by rw [hW]; go_simp
  have b3 : w1.cell? ⟨w.heap.size, 3, none⟩ = some (.slice L' m' d') := by rw [hW]; go_simp
  have c2 : w1.cell? ⟨w.heap.size + 1, 2, none⟩ = some (.slice K s e3) := by rw [hW]; go_simp
  have c3 : w1.cell? ⟨w.heap.size + 1, 3, none⟩ = some (.slice K' s' e4) := by rw [hW]; go_simp
  clear hW
  have HB1 := hide hb1
  have hq := H1.out.q
  have hq2 := H2.out.q
  refine (implSameHeap_any A B A' B' n c r e1 n' c' r' e2 x x' y y' w1 H1.out.hn H1.out.hn' H2.out.hn H2.out.hn' (by omega) (by omega) (by omega) (by omega) (rdB_up H1.out.a hb1) (rdB_up H1.out.a' hb1) (rdB_up H2.out.a hb1) (rdB_up H2.out.a' hb1)).mono ?_
  rintro e w2 ⟨rfl, hb⟩
  have k2 : w2.cell? ⟨w.heap.size, 2, none⟩ = some (.slice L m d) := (hb.cell t1).trans b2
  have k3 : w2.cell? ⟨w.heap.size, 3, none⟩ = some (.slice L' m' d') := (hb.cell t1).trans b3
  have j2 : w2.cell? ⟨w.heap.size + 1, 2, none⟩ = some (.slice K s e3) := (hb.cell t2).trans c2
  have j3 : w2.cell? ⟨w.heap.size + 1, 3, none⟩ = some (.slice K' s' e4) := (hb.cell t2).trans c3
  have HB2 := hide (below_go hb1 hb)
  have HQ := hide hq
  have HQ2 := hide hq2
  have HX : Hid (∀ b, (decide (x = y) && decide (x' = y')) = b → memR x x' y y' z z' t t' = (b && sameR z z' t t')) := hide (fun b h => by unfold memR; rw [h])
  clear hb hb1 b2 b3 c2 c3 hq hq2
  generalize hb : (decide (x = y) && decide (x' = y')) = b
  cases b
  · have HY := hide (HX.out _ hb)
    clear HX hb
    go_wp2
    go_ret
    exact ⟨retB (by rw [HY.out]; rfl), HB2.out⟩
  · have HY := hide (HX.out _ hb)
    clear HX hb
    go_wp2_with fail
    refine (implSameLists_any L L' K K' m d m' d' s e3 s' e4 z z' t t' w2 H1.out.hm H1.out.hm' H2.out.hm H2.out.hm' (by have := HQ.out; omega) (by have := HQ2.out; omega) (rdM_at H1.out.l HB2.out) (rdM_at H1.out.l' HB2.out) (rdM_at H2.out.l HB2.out) (rdM_at H2.out.l' HB2.out)).mono ?_
    rintro e w3 ⟨rfl, hb⟩
    have HB3 := hide (below_go HB2.out hb)
    clear hb
    go_wp2
    go_ret
    exact ⟨retB (by rw [HY.out]; simp), HB3.out⟩

/-! the law -/
theorem MI.of {w : World} {v0 v1 v2 v3 : Value} (h : HeapArg w v0 v1 ∧ ListsArg w v2 v3) : ∃ A A' L L' n n' m m' c c' d d' x x' z z', v0 = .slice A n c ∧ v1 = .slice A' n' c' ∧ v2 = .slice L m d ∧ v3 = .slice L' m' d' ∧ MI w A A' L L' n n' m m' c c' d d' x x' z z' := by
  obtain ⟨⟨A, n, c, x, A', n', c', x', rfl, rfl, ⟨h1, h2, h3, h4, h5⟩, ⟨i1, i2, i3, i4, i5⟩⟩, z, z', ⟨L, m, d, rfl, j1, j2, j3, j4⟩, ⟨L', m', d', rfl, k1, k2, k3, k4⟩⟩ := h
  exact ⟨A, A', L, L', n, n', m, m', c, c', d, d', x, x', z, z', rfl, rfl, rfl, rfl, ⟨h1, i1, j1, k1, h2, h3, i2, i3, j2, j3, k2, k3, h4, i4, j4, k4⟩⟩
def Cells8 (b b' : Nat) (u0 u1 u2 u3 v0 v1 v2 v3 : Value) (W : World) : Prop :=
  W.cell? ⟨b, 0, none⟩ = some u0 ∧ W.cell? ⟨b, 1, none⟩ = some u1 ∧ W.cell? ⟨b, 2, none⟩ = some u2 ∧ W.cell? ⟨b, 3, none⟩ = some u3 ∧ W.cell? ⟨b', 0, none⟩ = some v0 ∧ W.cell? ⟨b', 1, none⟩ = some v1 ∧ W.cell? ⟨b', 2, none⟩ = some v2 ∧ W.cell? ⟨b', 3, none⟩ = some v3
theorem keep44 {wK W W' : World} {b b' : Nat} {u0 u1 u2 u3 v0 v1 v2 v3 : Value} (hp : b < wK.heap.size) (hq : b' < wK.heap.size) (hb : Below W.heap.size W W')
    (h : (W.cell? ⟨b, 0, none⟩ = some u0 ∧ W.cell? ⟨b, 1, none⟩ = some u1 ∧ W.cell? ⟨b, 2, none⟩ = some u2 ∧ W.cell? ⟨b, 3, none⟩ = some u3 ∧ W.cell? ⟨b', 0, none⟩ = some v0 ∧ W.cell? ⟨b', 1, none⟩ = some v1 ∧ W.cell? ⟨b', 2, none⟩ = some v2 ∧ W.cell? ⟨b', 3, none⟩ = some v3) ∧ Below wK.heap.size wK W) :
    (W'.cell? ⟨b, 0, none⟩ = some u0 ∧ W'.cell? ⟨b, 1, none⟩ = some u1 ∧ W'.cell? ⟨b, 2, none⟩ = some u2 ∧ W'.cell? ⟨b, 3, none⟩ = some u3 ∧ W'.cell? ⟨b', 0, none⟩ = some v0 ∧ W'.cell? ⟨b', 1, none⟩ = some v1 ∧ W'.cell? ⟨b', 2, none⟩ = some v2 ∧ W'.cell? ⟨b', 3, none⟩ = some v3) ∧ Below wK.heap.size wK W' := by
  have hz := h.2.size
  obtain ⟨⟨h0, h1, h2, h3, h4, h5, h6, h7⟩, hB⟩ := h
  exact ⟨⟨(hb.cell (by show b < _; omega)).trans h0, (hb.cell (by show b < _; omega)).trans h1, (hb.cell (by show b < _; omega)).trans h2, (hb.cell (by show b < _; omega)).trans h3, (hb.cell (by show b' < _; omega)).trans h4, (hb.cell (by show b' < _; omega)).trans h5, (hb.cell (by show b' < _; omega)).trans h6, (hb.cell (by show b' < _; omega)).trans h7⟩, hB.trans (hb.mono hz)⟩
theorem MI.at {w wK W : World} {A A' L L' : Option Addr} {n n' m m' c c' d d' : Nat} {x x' : List Int} {z z' : List (List Int)} {C : Prop} (h : MI w A A' L L' n n' m m' c c' d d' x x' z z') (hB : Below w.heap.size w wK) (hS : C ∧ Below wK.heap.size wK W) : MI W A A' L L' n n' m m' c c' d d' x x' z z' :=
  h.up (hB.trans (hS.2.mono hB.size))
theorem MR.at {wK W : World} {A A' L L' : Option Addr} {n n' m m' : Nat} {x x' : List Int} {z z' : List (List Int)} {C : Prop} (h : MR wK A A' L L' n n' m m' x x' z z') (hS : C ∧ Below wK.heap.size wK W) : MR W A A' L L' n n' m m' x x' z z' := h.up hS.2
theorem mnamed {C : World → Prop} {wK W : World} (h : C W ∧ Below wK.heap.size wK W) : ∃ V, V = W ∧ C V ∧ Below wK.heap.size wK V := ⟨W, rfl, h.1, h.2⟩
set_option maxRecDepth 100000 in
set_option maxHeartbeats 6400000 in
theorem fnExactSameMem_walk (v0 v1 v2 v3 u0 u1 u2 u3 : Value) (w : World) (h0 : HeapArg w v0 v1 ∧ ListsArg w v2 v3) (h1 : HeapArg w u0 u1 ∧ ListsArg w u2 u3) :
    Calls Try.prog 4 #[.agg #[v0, v1, v2, v3], .agg #[u0, u1, u2, u3]] w fun e w' => e = .returned (.bool true) ∧ Below w.heap.size w w' := by
  obtain ⟨A_0, B_0, L_0, K_0, n_0, p_0, m_0, q_0, c_0, e_0, d_0, f_0, x_0, y_0, z_0, t_0, rfl, rfl, rfl, rfl, hm0⟩ := MI.of h0
  have M0 := hide hm0
  clear hm0
  obtain ⟨A_1, B_1, L_1, K_1, n_1, p_1, m_1, q_1, c_1, e_1, d_1, f_1, x_1, y_1, z_1, t_1, rfl, rfl, rfl, rfl, hm1⟩ := MI.of h1
  have M1 := hide hm1
  clear hm1
  go_enter Try.func4, Try.ntmps4
  go_wp2_with fail
  obtain ⟨w1, hW⟩ : ∃ W : World, W = (w.alloc (.cells #[.slice A_0 n_0 c_0, .slice B_0 p_0 e_0, .slice L_0 m_0 d_0, .slice K_0 q_0 f_0] 39)).alloc (.cells #[.slice A_1 n_1 c_1, .slice B_1 p_1 e_1, .slice L_1 m_1 d_1, .slice K_1 q_1 f_1] 39) := ⟨_, rfl⟩
  rw [← hW]
  have hb1 : Below w.heap.size w w1 := by rw [hW]; exact ((Below.refl _ _).alloc (Nat.le_refl _) _).alloc (by simp) _
  have ta_1 : w.heap.size < w1.heap.size := by rw [hW]; simp <;> omega
  have tb_1 : w.heap.size + 1 < w1.heap.size := by rw [hW]; simp <;> omega
  have a0_1 : w1.cell? ⟨w.heap.size, 0, none⟩ = some (.slice A_0 n_0 c_0) := by rw [hW]; go_simp
  have b0_1 : w1.cell? ⟨w.heap.size + 1, 0, none⟩ = some (.slice A_1 n_1 c_1) := by rw [hW]; go_simp
  have a1_1 : w1.cell? ⟨w.heap.size, 1, none⟩ = some (.slice B_0 p_0 e_0) := by rw [hW]; go_simp
  have b1_1 : w1.cell? ⟨w.heap.size + 1, 1, none⟩ = some (.slice B_1 p_1 e_1) := by rw [hW]; go_simp
  have a2_1 : w1.cell? ⟨w.heap.size, 2, none⟩ = some (.slice L_0 m_0 d_0) := by rw [hW]; go_simp
  have b2_1 : w1.cell? ⟨w.heap.size + 1, 2, none⟩ = some (.slice L_1 m_1 d_1) := by rw [hW]; go_simp
  have a3_1 : w1.cell? ⟨w.heap.size, 3, none⟩ = some (.slice K_0 q_0 f_0) := by rw [hW]; go_simp
  have b3_1 : w1.cell? ⟨w.heap.size + 1, 3, none⟩ = some (.slice K_1 q_1 f_1) := by rw [hW]; go_simp
  clear hW
  have HB1 := hide hb1
  clear hb1
  refine (szMem_any A_0 B_0 L_0 K_0 n_0 p_0 m_0 q_0 c_0 e_0 d_0 f_0 x_0 y_0 z_0 t_0 1048576 w1 (by omega) (by omega) (M0.out.up HB1.out)).mono ?_
  rintro e w2 ⟨⟨r0, rfl, hr0⟩, hb⟩
  have HB2 := hide (below_go HB1.out hb)
  have hs2 : w1.heap.size ≤ w2.heap.size := hb.size
  have a0_2 : w2.cell? ⟨w.heap.size, 0, none⟩ = some (.slice A_0 n_0 c_0) := (hb.cell ta_1).trans a0_1
  have a1_2 : w2.cell? ⟨w.heap.size, 1, none⟩ = some (.slice B_0 p_0 e_0) := (hb.cell ta_1).trans a1_1
  have a2_2 : w2.cell? ⟨w.heap.size, 2, none⟩ = some (.slice L_0 m_0 d_0) := (hb.cell ta_1).trans a2_1
  have a3_2 : w2.cell? ⟨w.heap.size, 3, none⟩ = some (.slice K_0 q_0 f_0) := (hb.cell ta_1).trans a3_1
  have ta_2 : w.heap.size < w2.heap.size := Nat.lt_of_lt_of_le ta_1 hs2
  clear a0_1 a1_1 a2_1 a3_1 ta_1
  have b0_2 : w2.cell? ⟨w.heap.size + 1, 0, none⟩ = some (.slice A_1 n_1 c_1) := (hb.cell tb_1).trans b0_1
  have b1_2 : w2.cell? ⟨w.heap.size + 1, 1, none⟩ = some (.slice B_1 p_1 e_1) := (hb.cell tb_1).trans b1_1
  have b2_2 : w2.cell? ⟨w.heap.size + 1, 2, none⟩ = some (.slice L_1 m_1 d_1) := (hb.cell tb_1).trans b2_1
  have b3_2 : w2.cell? ⟨w.heap.size + 1, 3, none⟩ = some (.slice K_1 q_1 f_1) := (hb.cell tb_1).trans b3_1
  have tb_2 : w.heap.size + 1 < w2.heap.size := Nat.lt_of_lt_of_le tb_1 hs2
  clear b0_1 b1_1 b2_1 b3_1 tb_1
  clear hb
  by_cases hn0 : r0 < 0
  case pos =>
    go_wp2
    go_ret
    exact ⟨rfl, HB2.out⟩
  have hq0 : n_0 + p_0 + (m_0 + sumL z_0 m_0 + q_0 + sumL t_0 q_0) ≤ 1048576 := by unfold MSum at hr0; omega
  have HQ0 := hide hq0
  have hl0 : 0 ≤ r0 ∧ r0 ≤ 1048576 := by unfold MSum at hr0; omega
  clear hq0 hr0
  go_wp2_with fail
  refine (szMem_any A_1 B_1 L_1 K_1 n_1 p_1 m_1 q_1 c_1 e_1 d_1 f_1 x_1 y_1 z_1 t_1 r0 w2 (by omega) (by omega) (M1.out.up HB2.out)).mono ?_
  rintro e w3 ⟨⟨r1, rfl, hr1⟩, hb⟩
  have HB3 := hide (below_go HB2.out hb)
  have hs3 : w2.heap.size ≤ w3.heap.size := hb.size
  have a0_3 : w3.cell? ⟨w.heap.size, 0, none⟩ = some (.slice A_0 n_0 c_0) := (hb.cell ta_2).trans a0_2
  have a1_3 : w3.cell? ⟨w.heap.size, 1, none⟩ = some (.slice B_0 p_0 e_0) := (hb.cell ta_2).trans a1_2
  have a2_3 : w3.cell? ⟨w.heap.size, 2, none⟩ = some (.slice L_0 m_0 d_0) := (hb.cell ta_2).trans a2_2
  have a3_3 : w3.cell? ⟨w.heap.size, 3, none⟩ = some (.slice K_0 q_0 f_0) := (hb.cell ta_2).trans a3_2
  have ta_3 : w.heap.size < w3.heap.size := Nat.lt_of_lt_of_le ta_2 hs3
  clear a0_2 a1_2 a2_2 a3_2 ta_2
  have b0_3 : w3.cell? ⟨w.heap.size + 1, 0, none⟩ = some (.slice A_1 n_1 c_1) := (hb.cell tb_2).trans b0_2
  have b1_3 : w3.cell? ⟨w.heap.size + 1, 1, none⟩ = some (.slice B_1 p_1 e_1) := (hb.cell tb_2).trans b1_2
  have b2_3 : w3.cell? ⟨w.heap.size + 1, 2, none⟩ = some (.slice L_1 m_1 d_1) := (hb.cell tb_2).trans b2_2
  have b3_3 : w3.cell? ⟨w.heap.size + 1, 3, none⟩ = some (.slice K_1 q_1 f_1) := (hb.cell tb_2).trans b3_2
  have tb_3 : w.heap.size + 1 < w3.heap.size := Nat.lt_of_lt_of_le tb_2 hs3
  clear b0_2 b1_2 b2_2 b3_2 tb_2
  clear hb
  by_cases hn1 : r1 < 0
  case pos =>
    go_wp2
    go_ret
    exact ⟨rfl, HB3.out⟩
  have hq1 : n_1 + p_1 + (m_1 + sumL z_1 m_1 + q_1 + sumL t_1 q_1) ≤ 1048576 := by unfold MSum at hr1; omega
  have HQ1 := hide hq1
  have hl1 : 0 ≤ r1 ∧ r1 ≤ 1048576 := by unfold MSum at hr1; omega
  clear hq1 hr1
  go_wp2_with fail
  go_region_held3 (fun w' => (w'.cell? ⟨w.heap.size, 0, none⟩ = some (.slice A_0 n_0 c_0) ∧ w'.cell? ⟨w.heap.size, 1, none⟩ = some (.slice B_0 p_0 e_0) ∧ w'.cell? ⟨w.heap.size, 2, none⟩ = some (.slice L_0 m_0 d_0) ∧ w'.cell? ⟨w.heap.size, 3, none⟩ = some (.slice K_0 q_0 f_0) ∧ w'.cell? ⟨w.heap.size + 1, 0, none⟩ = some (.slice A_1 n_1 c_1) ∧ w'.cell? ⟨w.heap.size + 1, 1, none⟩ = some (.slice B_1 p_1 e_1) ∧ w'.cell? ⟨w.heap.size + 1, 2, none⟩ = some (.slice L_1 m_1 d_1) ∧ w'.cell? ⟨w.heap.size + 1, 3, none⟩ = some (.slice K_1 q_1 f_1)) ∧ Below w3.heap.size w3 w')
    (first | (exact keep44 ta_3 tb_3 (by assumption) (by assumption)) | (exact ⟨⟨a0_3, a1_3, a2_3, a3_3, b0_3, b1_3, b2_3, b3_3⟩, (Below.refl _ _).drew⟩))
    (first
      | (go_at_call 12; refine (toMem_any _ _ _ _ _ _ _ _ _ _ _ _ _ _ _ _ _ (by first | exact M0.out.at HB3.out (by assumption) | exact M1.out.at HB3.out (by assumption)) (by first | exact HQ0.out | exact HQ1.out)).mono ?_; rintro e w_p ⟨Ap, Bp, Lp, Kp, rfl, hmr, hb⟩)
      | (go_at_call 11; refine (specSameMem_any _ _ _ _ _ _ _ _ _ _ _ _ _ _ _ _ _ _ _ _ _ _ _ _ x_0 y_0 x_1 y_1 z_0 t_0 z_1 t_1 _ (by first | assumption | exact MR.up (by assumption) (by assumption)) (by first | assumption | exact MR.up (by assumption) (by assumption))).mono ?_; rintro e w_r ⟨rfl, hb⟩))
  have hS := ‹(_ ∧ _) ∧ Below w3.heap.size w3 _›
  obtain ⟨w4, rfl, -, hb⟩ := mnamed (C := fun W => (W.cell? ⟨w.heap.size, 0, none⟩ = some (.slice A_0 n_0 c_0) ∧ W.cell? ⟨w.heap.size, 1, none⟩ = some (.slice B_0 p_0 e_0) ∧ W.cell? ⟨w.heap.size, 2, none⟩ = some (.slice L_0 m_0 d_0) ∧ W.cell? ⟨w.heap.size, 3, none⟩ = some (.slice K_0 q_0 f_0) ∧ W.cell? ⟨w.heap.size + 1, 0, none⟩ = some (.slice A_1 n_1 c_1) ∧ W.cell? ⟨w.heap.size + 1, 1, none⟩ = some (.slice B_1 p_1 e_1) ∧ W.cell? ⟨w.heap.size + 1, 2, none⟩ = some (.slice L_1 m_1 d_1) ∧ W.cell? ⟨w.heap.size + 1, 3, none⟩ = some (.slice K_1 q_1 f_1))) hS
  clear hS
  have HB4 := hide (below_go HB3.out hb)
  have hs4 : w3.heap.size ≤ w4.heap.size := hb.size
  have a0_4 : w4.cell? ⟨w.heap.size, 0, none⟩ = some (.slice A_0 n_0 c_0) := (hb.cell ta_3).trans a0_3
  have a1_4 : w4.cell? ⟨w.heap.size, 1, none⟩ = some (.slice B_0 p_0 e_0) := (hb.cell ta_3).trans a1_3
  have a2_4 : w4.cell? ⟨w.heap.size, 2, none⟩ = some (.slice L_0 m_0 d_0) := (hb.cell ta_3).trans a2_3
  have a3_4 : w4.cell? ⟨w.heap.size, 3, none⟩ = some (.slice K_0 q_0 f_0) := (hb.cell ta_3).trans a3_3
  have ta_4 : w.heap.size < w4.heap.size := Nat.lt_of_lt_of_le ta_3 hs4
  clear a0_3 a1_3 a2_3 a3_3 ta_3
  have b0_4 : w4.cell? ⟨w.heap.size + 1, 0, none⟩ = some (.slice A_1 n_1 c_1) := (hb.cell tb_3).trans b0_3
  have b1_4 : w4.cell? ⟨w.heap.size + 1, 1, none⟩ = some (.slice B_1 p_1 e_1) := (hb.cell tb_3).trans b1_3
  have b2_4 : w4.cell? ⟨w.heap.size + 1, 2, none⟩ = some (.slice L_1 m_1 d_1) := (hb.cell tb_3).trans b2_3
  have b3_4 : w4.cell? ⟨w.heap.size + 1, 3, none⟩ = some (.slice K_1 q_1 f_1) := (hb.cell tb_3).trans b3_3
  have tb_4 : w.heap.size + 1 < w4.heap.size := Nat.lt_of_lt_of_le tb_3 hs4
  clear b0_3 b1_3 b2_3 b3_3 tb_3
  clear hb
  go_wp2_with fail
  refine (toMem_any A_0 B_0 L_0 K_0 n_0 p_0 m_0 q_0 c_0 e_0 d_0 f_0 x_0 y_0 z_0 t_0 w4 (M0.out.up HB4.out) HQ0.out).mono ?_
  rintro e w5 ⟨A_x, B_x, L_x, K_x, rfl, hmr, hb⟩
  have HB5 := hide (below_go HB4.out hb)
  have hs5 : w4.heap.size ≤ w5.heap.size := hb.size
  have a0_5 : w5.cell? ⟨w.heap.size, 0, none⟩ = some (.slice A_0 n_0 c_0) := (hb.cell ta_4).trans a0_4
  have a1_5 : w5.cell? ⟨w.heap.size, 1, none⟩ = some (.slice B_0 p_0 e_0) := (hb.cell ta_4).trans a1_4
  have a2_5 : w5.cell? ⟨w.heap.size, 2, none⟩ = some (.slice L_0 m_0 d_0) := (hb.cell ta_4).trans a2_4
  have a3_5 : w5.cell? ⟨w.heap.size, 3, none⟩ = some (.slice K_0 q_0 f_0) := (hb.cell ta_4).trans a3_4
  have ta_5 : w.heap.size < w5.heap.size := Nat.lt_of_lt_of_le ta_4 hs5
  clear a0_4 a1_4 a2_4 a3_4 ta_4
  have b0_5 : w5.cell? ⟨w.heap.size + 1, 0, none⟩ = some (.slice A_1 n_1 c_1) := (hb.cell tb_4).trans b0_4
  have b1_5 : w5.cell? ⟨w.heap.size + 1, 1, none⟩ = some (.slice B_1 p_1 e_1) := (hb.cell tb_4).trans b1_4
  have b2_5 : w5.cell? ⟨w.heap.size + 1, 2, none⟩ = some (.slice L_1 m_1 d_1) := (hb.cell tb_4).trans b2_4
  have b3_5 : w5.cell? ⟨w.heap.size + 1, 3, none⟩ = some (.slice K_1 q_1 f_1) := (hb.cell tb_4).trans b3_4
  have tb_5 : w.heap.size + 1 < w5.heap.size := Nat.lt_of_lt_of_le tb_4 hs5
  clear b0_4 b1_4 b2_4 b3_4 tb_4
  clear hb
  have Rx_5 := hide hmr
  clear hmr
  go_wp2_with fail
  obtain ⟨w6, hW⟩ : ∃ W : World, W = w5.alloc (.cells #[.slice A_x n_0 n_0, .slice B_x p_0 p_0, .slice L_x m_0 m_0, .slice K_x q_0 q_0] 29) := ⟨_, rfl⟩
  rw [← hW]
  have hb : Below w5.heap.size w5 w6 := by rw [hW]; exact (Below.refl _ _).alloc (Nat.le_refl _) _
  have o0 : w6.cell? ⟨w5.heap.size, 0, none⟩ = some (.slice A_x n_0 n_0) := by rw [hW]; go_simp
  have o1 : w6.cell? ⟨w5.heap.size, 1, none⟩ = some (.slice B_x p_0 p_0) := by rw [hW]; go_simp
  have o2 : w6.cell? ⟨w5.heap.size, 2, none⟩ = some (.slice L_x m_0 m_0) := by rw [hW]; go_simp
  have o3 : w6.cell? ⟨w5.heap.size, 3, none⟩ = some (.slice K_x q_0 q_0) := by rw [hW]; go_simp
  have ot : w5.heap.size < w6.heap.size := by rw [hW]; simp
  clear hW
  have HB6 := hide (below_go HB5.out hb)
  have hs6 : w5.heap.size ≤ w6.heap.size := hb.size
  have a0_6 : w6.cell? ⟨w.heap.size, 0, none⟩ = some (.slice A_0 n_0 c_0) := (hb.cell ta_5).trans a0_5
  have a1_6 : w6.cell? ⟨w.heap.size, 1, none⟩ = some (.slice B_0 p_0 e_0) := (hb.cell ta_5).trans a1_5
  have a2_6 : w6.cell? ⟨w.heap.size, 2, none⟩ = some (.slice L_0 m_0 d_0) := (hb.cell ta_5).trans a2_5
  have a3_6 : w6.cell? ⟨w.heap.size, 3, none⟩ = some (.slice K_0 q_0 f_0) := (hb.cell ta_5).trans a3_5
  have ta_6 : w.heap.size < w6.heap.size := Nat.lt_of_lt_of_le ta_5 hs6
  clear a0_5 a1_5 a2_5 a3_5 ta_5
  have b0_6 : w6.cell? ⟨w.heap.size + 1, 0, none⟩ = some (.slice A_1 n_1 c_1) := (hb.cell tb_5).trans b0_5
  have b1_6 : w6.cell? ⟨w.heap.size + 1, 1, none⟩ = some (.slice B_1 p_1 e_1) := (hb.cell tb_5).trans b1_5
  have b2_6 : w6.cell? ⟨w.heap.size + 1, 2, none⟩ = some (.slice L_1 m_1 d_1) := (hb.cell tb_5).trans b2_5
  have b3_6 : w6.cell? ⟨w.heap.size + 1, 3, none⟩ = some (.slice K_1 q_1 f_1) := (hb.cell tb_5).trans b3_5
  have tb_6 : w.heap.size + 1 < w6.heap.size := Nat.lt_of_lt_of_le tb_5 hs6
  clear b0_5 b1_5 b2_5 b3_5 tb_5
  have Rx_6 := hide (Rx_5.out.up hb)
  clear Rx_5
  clear hb
  have x0_6 := o0
  have x1_6 := o1
  have x2_6 := o2
  have x3_6 := o3
  have tx_6 := ot
  clear o0 o1 o2 o3 ot
  go_wp2_with fail
  refine (toMem_any A_1 B_1 L_1 K_1 n_1 p_1 m_1 q_1 c_1 e_1 d_1 f_1 x_1 y_1 z_1 t_1 w6 (M1.out.up HB6.out) HQ1.out).mono ?_
  rintro e w7 ⟨A_y, B_y, L_y, K_y, rfl, hmr, hb⟩
  have HB7 := hide (below_go HB6.out hb)
  have hs7 : w6.heap.size ≤ w7.heap.size := hb.size
  have a0_7 : w7.cell? ⟨w.heap.size, 0, none⟩ = some (.slice A_0 n_0 c_0) := (hb.cell ta_6).trans a0_6
  have a1_7 : w7.cell? ⟨w.heap.size, 1, none⟩ = some (.slice B_0 p_0 e_0) := (hb.cell ta_6).trans a1_6
  have a2_7 : w7.cell? ⟨w.heap.size, 2, none⟩ = some (.slice L_0 m_0 d_0) := (hb.cell ta_6).trans a2_6
  have a3_7 : w7.cell? ⟨w.heap.size, 3, none⟩ = some (.slice K_0 q_0 f_0) := (hb.cell ta_6).trans a3_6
  have ta_7 : w.heap.size < w7.heap.size := Nat.lt_of_lt_of_le ta_6 hs7
  clear a0_6 a1_6 a2_6 a3_6 ta_6
  have b0_7 : w7.cell? ⟨w.heap.size + 1, 0, none⟩ = some (.slice A_1 n_1 c_1) := (hb.cell tb_6).trans b0_6
  have b1_7 : w7.cell? ⟨w.heap.size + 1, 1, none⟩ = some (.slice B_1 p_1 e_1) := (hb.cell tb_6).trans b1_6
  have b2_7 : w7.cell? ⟨w.heap.size + 1, 2, none⟩ = some (.slice L_1 m_1 d_1) := (hb.cell tb_6).trans b2_6
  have b3_7 : w7.cell? ⟨w.heap.size + 1, 3, none⟩ = some (.slice K_1 q_1 f_1) := (hb.cell tb_6).trans b3_6
  have tb_7 : w.heap.size + 1 < w7.heap.size := Nat.lt_of_lt_of_le tb_6 hs7
  clear b0_6 b1_6 b2_6 b3_6 tb_6
  have x0_7 : w7.cell? ⟨w5.heap.size, 0, none⟩ = some (.slice A_x n_0 n_0) := (hb.cell tx_6).trans x0_6
  have x1_7 : w7.cell? ⟨w5.heap.size, 1, none⟩ = some (.slice B_x p_0 p_0) := (hb.cell tx_6).trans x1_6
  have x2_7 : w7.cell? ⟨w5.heap.size, 2, none⟩ = some (.slice L_x m_0 m_0) := (hb.cell tx_6).trans x2_6
  have x3_7 : w7.cell? ⟨w5.heap.size, 3, none⟩ = some (.slice K_x q_0 q_0) := (hb.cell tx_6).trans x3_6
  have tx_7 : w5.heap.size < w7.heap.size := Nat.lt_of_lt_of_le tx_6 hs7
  clear x0_6 x1_6 x2_6 x3_6 tx_6
  have Rx_7 := hide (Rx_6.out.up hb)
  clear Rx_6
  clear hb
  have Ry_7 := hide hmr
  clear hmr
  go_wp2_with fail
  obtain ⟨w8, hW⟩ : ∃ W : World, W = w7.alloc (.cells #[.slice A_y n_1 n_1, .slice B_y p_1 p_1, .slice L_y m_1 m_1, .slice K_y q_1 q_1] 29) := ⟨_, rfl⟩
  rw [← hW]
  have hb : Below w7.heap.size w7 w8 := by rw [hW]; exact (Below.refl _ _).alloc (Nat.le_refl _) _
  have o0 : w8.cell? ⟨w7.heap.size, 0, none⟩ = some (.slice A_y n_1 n_1) := by rw [hW]; go_simp
  have o1 : w8.cell? ⟨w7.heap.size, 1, none⟩ = some (.slice B_y p_1 p_1) := by rw [hW]; go_simp
  have o2 : w8.cell? ⟨w7.heap.size, 2, none⟩ = some (.slice L_y m_1 m_1) := by rw [hW]; go_simp
  have o3 : w8.cell? ⟨w7.heap.size, 3, none⟩ = some (.slice K_y q_1 q_1) := by rw [hW]; go_simp
  have ot : w7.heap.size < w8.heap.size := by rw [hW]; simp
  clear hW
  have HB8 := hide (below_go HB7.out hb)
  have hs8 : w7.heap.size ≤ w8.heap.size := hb.size
  have a0_8 : w8.cell? ⟨w.heap.size, 0, none⟩ = some (.slice A_0 n_0 c_0) := (hb.cell ta_7).trans a0_7
  have a1_8 : w8.cell? ⟨w.heap.size, 1, none⟩ = some (.slice B_0 p_0 e_0) := (hb.cell ta_7).trans a1_7
  have a2_8 : w8.cell? ⟨w.heap.size, 2, none⟩ = some (.slice L_0 m_0 d_0) := (hb.cell ta_7).trans a2_7
  have a3_8 : w8.cell? ⟨w.heap.size, 3, none⟩ = some (.slice K_0 q_0 f_0) := (hb.cell ta_7).trans a3_7
  have ta_8 : w.heap.size < w8.heap.size := Nat.lt_of_lt_of_le ta_7 hs8
  clear a0_7 a1_7 a2_7 a3_7 ta_7
  have b0_8 : w8.cell? ⟨w.heap.size + 1, 0, none⟩ = some (.slice A_1 n_1 c_1) := (hb.cell tb_7).trans b0_7
  have b1_8 : w8.cell? ⟨w.heap.size + 1, 1, none⟩ = some (.slice B_1 p_1 e_1) := (hb.cell tb_7).trans b1_7
  have b2_8 : w8.cell? ⟨w.heap.size + 1, 2, none⟩ = some (.slice L_1 m_1 d_1) := (hb.cell tb_7).trans b2_7
  have b3_8 : w8.cell? ⟨w.heap.size + 1, 3, none⟩ = some (.slice K_1 q_1 f_1) := (hb.cell tb_7).trans b3_7
  have tb_8 : w.heap.size + 1 < w8.heap.size := Nat.lt_of_lt_of_le tb_7 hs8
  clear b0_7 b1_7 b2_7 b3_7 tb_7
  have x0_8 : w8.cell? ⟨w5.heap.size, 0, none⟩ = some (.slice A_x n_0 n_0) := (hb.cell tx_7).trans x0_7
  have x1_8 : w8.cell? ⟨w5.heap.size, 1, none⟩ = some (.slice B_x p_0 p_0) := (hb.cell tx_7).trans x1_7
  have x2_8 : w8.cell? ⟨w5.heap.size, 2, none⟩ = some (.slice L_x m_0 m_0) := (hb.cell tx_7).trans x2_7
  have x3_8 : w8.cell? ⟨w5.heap.size, 3, none⟩ = some (.slice K_x q_0 q_0) := (hb.cell tx_7).trans x3_7
  have tx_8 : w5.heap.size < w8.heap.size := Nat.lt_of_lt_of_le tx_7 hs8
  clear x0_7 x1_7 x2_7 x3_7 tx_7
  have Rx_8 := hide (Rx_7.out.up hb)
  clear Rx_7
  have Ry_8 := hide (Ry_7.out.up hb)
  clear Ry_7
  clear hb
  have y0_8 := o0
  have y1_8 := o1
  have y2_8 := o2
  have y3_8 := o3
  have ty_8 := ot
  clear o0 o1 o2 o3 ot
  refine (implSameMem_any _ _ _ _ _ _ _ _ _ _ _ _ _ _ _ _ _ _ _ _ _ _ _ _ x_0 y_0 x_1 y_1 z_0 t_0 z_1 t_1 _ Rx_8.out Ry_8.out).mono ?_
  rintro e w9 ⟨rfl, hb⟩
  have HB9 := hide (below_go HB8.out hb)
  have hs9 : w8.heap.size ≤ w9.heap.size := hb.size
  have a0_9 : w9.cell? ⟨w.heap.size, 0, none⟩ = some (.slice A_0 n_0 c_0) := (hb.cell ta_8).trans a0_8
  have a1_9 : w9.cell? ⟨w.heap.size, 1, none⟩ = some (.slice B_0 p_0 e_0) := (hb.cell ta_8).trans a1_8
  have a2_9 : w9.cell? ⟨w.heap.size, 2, none⟩ = some (.slice L_0 m_0 d_0) := (hb.cell ta_8).trans a2_8
  have a3_9 : w9.cell? ⟨w.heap.size, 3, none⟩ = some (.slice K_0 q_0 f_0) := (hb.cell ta_8).trans a3_8
  have ta_9 : w.heap.size < w9.heap.size := Nat.lt_of_lt_of_le ta_8 hs9
  clear a0_8 a1_8 a2_8 a3_8 ta_8
  have b0_9 : w9.cell? ⟨w.heap.size + 1, 0, none⟩ = some (.slice A_1 n_1 c_1) := (hb.cell tb_8).trans b0_8
  have b1_9 : w9.cell? ⟨w.heap.size + 1, 1, none⟩ = some (.slice B_1 p_1 e_1) := (hb.cell tb_8).trans b1_8
  have b2_9 : w9.cell? ⟨w.heap.size + 1, 2, none⟩ = some (.slice L_1 m_1 d_1) := (hb.cell tb_8).trans b2_8
  have b3_9 : w9.cell? ⟨w.heap.size + 1, 3, none⟩ = some (.slice K_1 q_1 f_1) := (hb.cell tb_8).trans b3_8
  have tb_9 : w.heap.size + 1 < w9.heap.size := Nat.lt_of_lt_of_le tb_8 hs9
  clear b0_8 b1_8 b2_8 b3_8 tb_8
  have x0_9 : w9.cell? ⟨w5.heap.size, 0, none⟩ = some (.slice A_x n_0 n_0) := (hb.cell tx_8).trans x0_8
  have x1_9 : w9.cell? ⟨w5.heap.size, 1, none⟩ = some (.slice B_x p_0 p_0) := (hb.cell tx_8).trans x1_8
  have x2_9 : w9.cell? ⟨w5.heap.size, 2, none⟩ = some (.slice L_x m_0 m_0) := (hb.cell tx_8).trans x2_8
  have x3_9 : w9.cell? ⟨w5.heap.size, 3, none⟩ = some (.slice K_x q_0 q_0) := (hb.cell tx_8).trans x3_8
  have tx_9 : w5.heap.size < w9.heap.size := Nat.lt_of_lt_of_le tx_8 hs9
  clear x0_8 x1_8 x2_8 x3_8 tx_8
  have y0_9 : w9.cell? ⟨w7.heap.size, 0, none⟩ = some (.slice A_y n_1 n_1) := (hb.cell ty_8).trans y0_8
  have y1_9 : w9.cell? ⟨w7.heap.size, 1, none⟩ = some (.slice B_y p_1 p_1) := (hb.cell ty_8).trans y1_8
  have y2_9 : w9.cell? ⟨w7.heap.size, 2, none⟩ = some (.slice L_y m_1 m_1) := (hb.cell ty_8).trans y2_8
  have y3_9 : w9.cell? ⟨w7.heap.size, 3, none⟩ = some (.slice K_y q_1 q_1) := (hb.cell ty_8).trans y3_8
  have ty_9 : w7.heap.size < w9.heap.size := Nat.lt_of_lt_of_le ty_8 hs9
  clear y0_8 y1_8 y2_8 y3_8 ty_8
  have Rx_9 := hide (Rx_8.out.up hb)
  clear Rx_8
  have Ry_9 := hide (Ry_8.out.up hb)
  clear Ry_8
  clear hb
  go_wp2_with fail
  go_region_held3 (fun w' => (w'.cell? ⟨w5.heap.size, 0, none⟩ = some (.slice A_x n_0 n_0) ∧ w'.cell? ⟨w5.heap.size, 1, none⟩ = some (.slice B_x p_0 p_0) ∧ w'.cell? ⟨w5.heap.size, 2, none⟩ = some (.slice L_x m_0 m_0) ∧ w'.cell? ⟨w5.heap.size, 3, none⟩ = some (.slice K_x q_0 q_0) ∧ w'.cell? ⟨w.heap.size, 0, none⟩ = some (.slice A_0 n_0 c_0) ∧ w'.cell? ⟨w.heap.size, 1, none⟩ = some (.slice B_0 p_0 e_0) ∧ w'.cell? ⟨w.heap.size, 2, none⟩ = some (.slice L_0 m_0 d_0) ∧ w'.cell? ⟨w.heap.size, 3, none⟩ = some (.slice K_0 q_0 f_0)) ∧ Below w9.heap.size w9 w')
    (first | (exact keep44 tx_9 ta_9 (by assumption) (by assumption)) | (exact ⟨⟨x0_9, x1_9, x2_9, x3_9, a0_9, a1_9, a2_9, a3_9⟩, (Below.refl _ _).drew⟩))
    (first
      | (go_at_call 12; refine (toMem_any A_0 B_0 L_0 K_0 n_0 p_0 m_0 q_0 c_0 e_0 d_0 f_0 x_0 y_0 z_0 t_0 _ (M0.out.at HB9.out (by assumption)) HQ0.out).mono ?_; rintro e w_p ⟨Ap, Bp, Lp, Kp, rfl, hmr, hb⟩)
      | (go_at_call 7; refine (eqMem_any _ _ _ _ _ _ _ _ _ _ _ _ _ _ _ _ _ _ _ _ x_0 y_0 z_0 t_0 _ (Rx_9.out.at (by assumption)) (by assumption)).mono ?_; rintro e w_r ⟨rfl, hb⟩))
  have hS := ‹(_ ∧ _) ∧ Below w9.heap.size w9 _›
  obtain ⟨w10, rfl, -, hb⟩ := mnamed (C := fun W => (W.cell? ⟨w5.heap.size, 0, none⟩ = some (.slice A_x n_0 n_0) ∧ W.cell? ⟨w5.heap.size, 1, none⟩ = some (.slice B_x p_0 p_0) ∧ W.cell? ⟨w5.heap.size, 2, none⟩ = some (.slice L_x m_0 m_0) ∧ W.cell? ⟨w5.heap.size, 3, none⟩ = some (.slice K_x q_0 q_0) ∧ W.cell? ⟨w.heap.size, 0, none⟩ = some (.slice A_0 n_0 c_0) ∧ W.cell? ⟨w.heap.size, 1, none⟩ = some (.slice B_0 p_0 e_0) ∧ W.cell? ⟨w.heap.size, 2, none⟩ = some (.slice L_0 m_0 d_0) ∧ W.cell? ⟨w.heap.size, 3, none⟩ = some (.slice K_0 q_0 f_0))) hS
  clear hS
  have HB10 := hide (below_go HB9.out hb)
  have hs10 : w9.heap.size ≤ w10.heap.size := hb.size
  have a0_10 : w10.cell? ⟨w.heap.size, 0, none⟩ = some (.slice A_0 n_0 c_0) := (hb.cell ta_9).trans a0_9
  have a1_10 : w10.cell? ⟨w.heap.size, 1, none⟩ = some (.slice B_0 p_0 e_0) := (hb.cell ta_9).trans a1_9
  have a2_10 : w10.cell? ⟨w.heap.size, 2, none⟩ = some (.slice L_0 m_0 d_0) := (hb.cell ta_9).trans a2_9
  have a3_10 : w10.cell? ⟨w.heap.size, 3, none⟩ = some (.slice K_0 q_0 f_0) := (hb.cell ta_9).trans a3_9
  have ta_10 : w.heap.size < w10.heap.size := Nat.lt_of_lt_of_le ta_9 hs10
  clear a0_9 a1_9 a2_9 a3_9 ta_9
  have b0_10 : w10.cell? ⟨w.heap.size + 1, 0, none⟩ = some (.slice A_1 n_1 c_1) := (hb.cell tb_9).trans b0_9
  have b1_10 : w10.cell? ⟨w.heap.size + 1, 1, none⟩ = some (.slice B_1 p_1 e_1) := (hb.cell tb_9).trans b1_9
  have b2_10 : w10.cell? ⟨w.heap.size + 1, 2, none⟩ = some (.slice L_1 m_1 d_1) := (hb.cell tb_9).trans b2_9
  have b3_10 : w10.cell? ⟨w.heap.size + 1, 3, none⟩ = some (.slice K_1 q_1 f_1) := (hb.cell tb_9).trans b3_9
  have tb_10 : w.heap.size + 1 < w10.heap.size := Nat.lt_of_lt_of_le tb_9 hs10
  clear b0_9 b1_9 b2_9 b3_9 tb_9
  have x0_10 : w10.cell? ⟨w5.heap.size, 0, none⟩ = some (.slice A_x n_0 n_0) := (hb.cell tx_9).trans x0_9
  have x1_10 : w10.cell? ⟨w5.heap.size, 1, none⟩ = some (.slice B_x p_0 p_0) := (hb.cell tx_9).trans x1_9
  have x2_10 : w10.cell? ⟨w5.heap.size, 2, none⟩ = some (.slice L_x m_0 m_0) := (hb.cell tx_9).trans x2_9
  have x3_10 : w10.cell? ⟨w5.heap.size, 3, none⟩ = some (.slice K_x q_0 q_0) := (hb.cell tx_9).trans x3_9
  have tx_10 : w5.heap.size < w10.heap.size := Nat.lt_of_lt_of_le tx_9 hs10
  clear x0_9 x1_9 x2_9 x3_9 tx_9
  have y0_10 : w10.cell? ⟨w7.heap.size, 0, none⟩ = some (.slice A_y n_1 n_1) := (hb.cell ty_9).trans y0_9
  have y1_10 : w10.cell? ⟨w7.heap.size, 1, none⟩ = some (.slice B_y p_1 p_1) := (hb.cell ty_9).trans y1_9
  have y2_10 : w10.cell? ⟨w7.heap.size, 2, none⟩ = some (.slice L_y m_1 m_1) := (hb.cell ty_9).trans y2_9
  have y3_10 : w10.cell? ⟨w7.heap.size, 3, none⟩ = some (.slice K_y q_1 q_1) := (hb.cell ty_9).trans y3_9
  have ty_10 : w7.heap.size < w10.heap.size := Nat.lt_of_lt_of_le ty_9 hs10
  clear y0_9 y1_9 y2_9 y3_9 ty_9
  have Rx_10 := hide (Rx_9.out.up hb)
  clear Rx_9
  have Ry_10 := hide (Ry_9.out.up hb)
  clear Ry_9
  clear hb
  go_wp2_with fail
  go_region_held3 (fun w' => (w'.cell? ⟨w7.heap.size, 0, none⟩ = some (.slice A_y n_1 n_1) ∧ w'.cell? ⟨w7.heap.size, 1, none⟩ = some (.slice B_y p_1 p_1) ∧ w'.cell? ⟨w7.heap.size, 2, none⟩ = some (.slice L_y m_1 m_1) ∧ w'.cell? ⟨w7.heap.size, 3, none⟩ = some (.slice K_y q_1 q_1) ∧ w'.cell? ⟨w.heap.size + 1, 0, none⟩ = some (.slice A_1 n_1 c_1) ∧ w'.cell? ⟨w.heap.size + 1, 1, none⟩ = some (.slice B_1 p_1 e_1) ∧ w'.cell? ⟨w.heap.size + 1, 2, none⟩ = some (.slice L_1 m_1 d_1) ∧ w'.cell? ⟨w.heap.size + 1, 3, none⟩ = some (.slice K_1 q_1 f_1)) ∧ Below w10.heap.size w10 w')
    (first | (exact keep44 ty_10 tb_10 (by assumption) (by assumption)) | (exact ⟨⟨y0_10, y1_10, y2_10, y3_10, b0_10, b1_10, b2_10, b3_10⟩, (Below.refl _ _).drew⟩))
    (first
      | (go_at_call 12; refine (toMem_any A_1 B_1 L_1 K_1 n_1 p_1 m_1 q_1 c_1 e_1 d_1 f_1 x_1 y_1 z_1 t_1 _ (M1.out.at HB10.out (by assumption)) HQ1.out).mono ?_; rintro e w_p ⟨Ap, Bp, Lp, Kp, rfl, hmr, hb⟩)
      | (go_at_call 7; refine (eqMem_any _ _ _ _ _ _ _ _ _ _ _ _ _ _ _ _ _ _ _ _ x_1 y_1 z_1 t_1 _ (Ry_10.out.at (by assumption)) (by assumption)).mono ?_; rintro e w_r ⟨rfl, hb⟩))
  have hS := ‹(_ ∧ _) ∧ Below w10.heap.size w10 _›
  obtain ⟨w11, rfl, -, hb⟩ := mnamed (C := fun W => (W.cell? ⟨w7.heap.size, 0, none⟩ = some (.slice A_y n_1 n_1) ∧ W.cell? ⟨w7.heap.size, 1, none⟩ = some (.slice B_y p_1 p_1) ∧ W.cell? ⟨w7.heap.size, 2, none⟩ = some (.slice L_y m_1 m_1) ∧ W.cell? ⟨w7.heap.size, 3, none⟩ = some (.slice K_y q_1 q_1) ∧ W.cell? ⟨w.heap.size + 1, 0, none⟩ = some (.slice A_1 n_1 c_1) ∧ W.cell? ⟨w.heap.size + 1, 1, none⟩ = some (.slice B_1 p_1 e_1) ∧ W.cell? ⟨w.heap.size + 1, 2, none⟩ = some (.slice L_1 m_1 d_1) ∧ W.cell? ⟨w.heap.size + 1, 3, none⟩ = some (.slice K_1 q_1 f_1))) hS
  clear hS
  have HB11 := hide (below_go HB10.out hb)
  have hs11 : w10.heap.size ≤ w11.heap.size := hb.size
  have a0_11 : w11.cell? ⟨w.heap.size, 0, none⟩ = some (.slice A_0 n_0 c_0) := (hb.cell ta_10).trans a0_10
  have a1_11 : w11.cell? ⟨w.heap.size, 1, none⟩ = some (.slice B_0 p_0 e_0) := (hb.cell ta_10).trans a1_10
  have a2_11 : w11.cell? ⟨w.heap.size, 2, none⟩ = some (.slice L_0 m_0 d_0) := (hb.cell ta_10).trans a2_10
  have a3_11 : w11.cell? ⟨w.heap.size, 3, none⟩ = some (.slice K_0 q_0 f_0) := (hb.cell ta_10).trans a3_10
  have ta_11 : w.heap.size < w11.heap.size := Nat.lt_of_lt_of_le ta_10 hs11
  clear a0_10 a1_10 a2_10 a3_10 ta_10
  have b0_11 : w11.cell? ⟨w.heap.size + 1, 0, none⟩ = some (.slice A_1 n_1 c_1) := (hb.cell tb_10).trans b0_10
  have b1_11 : w11.cell? ⟨w.heap.size + 1, 1, none⟩ = some (.slice B_1 p_1 e_1) := (hb.cell tb_10).trans b1_10
  have b2_11 : w11.cell? ⟨w.heap.size + 1, 2, none⟩ = some (.slice L_1 m_1 d_1) := (hb.cell tb_10).trans b2_10
  have b3_11 : w11.cell? ⟨w.heap.size + 1, 3, none⟩ = some (.slice K_1 q_1 f_1) := (hb.cell tb_10).trans b3_10
  have tb_11 : w.heap.size + 1 < w11.heap.size := Nat.lt_of_lt_of_le tb_10 hs11
  clear b0_10 b1_10 b2_10 b3_10 tb_10
  have x0_11 : w11.cell? ⟨w5.heap.size, 0, none⟩ = some (.slice A_x n_0 n_0) := (hb.cell tx_10).trans x0_10
  have x1_11 : w11.cell? ⟨w5.heap.size, 1, none⟩ = some (.slice B_x p_0 p_0) := (hb.cell tx_10).trans x1_10
  have x2_11 : w11.cell? ⟨w5.heap.size, 2, none⟩ = some (.slice L_x m_0 m_0) := (hb.cell tx_10).trans x2_10
  have x3_11 : w11.cell? ⟨w5.heap.size, 3, none⟩ = some (.slice K_x q_0 q_0) := (hb.cell tx_10).trans x3_10
  have tx_11 : w5.heap.size < w11.heap.size := Nat.lt_of_lt_of_le tx_10 hs11
  clear x0_10 x1_10 x2_10 x3_10 tx_10
  have y0_11 : w11.cell? ⟨w7.heap.size, 0, none⟩ = some (.slice A_y n_1 n_1) := (hb.cell ty_10).trans y0_10
  have y1_11 : w11.cell? ⟨w7.heap.size, 1, none⟩ = some (.slice B_y p_1 p_1) := (hb.cell ty_10).trans y1_10
  have y2_11 : w11.cell? ⟨w7.heap.size, 2, none⟩ = some (.slice L_y m_1 m_1) := (hb.cell ty_10).trans y2_10
  have y3_11 : w11.cell? ⟨w7.heap.size, 3, none⟩ = some (.slice K_y q_1 q_1) := (hb.cell ty_10).trans y3_10
  have ty_11 : w7.heap.size < w11.heap.size := Nat.lt_of_lt_of_le ty_10 hs11
  clear y0_10 y1_10 y2_10 y3_10 ty_10
  have Rx_11 := hide (Rx_10.out.up hb)
  clear Rx_10
  have Ry_11 := hide (Ry_10.out.up hb)
  clear Ry_10
  clear hb
  go_wp2
  go_ret
  exact ⟨rfl, HB11.out⟩
end Go.Proofs.Ytpjlbpmlddjddaa
