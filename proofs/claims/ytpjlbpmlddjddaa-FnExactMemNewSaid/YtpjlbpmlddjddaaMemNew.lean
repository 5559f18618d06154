/-
  MemNew: a new memory. The contracts and the walk of the law.
-/
import Derived.Test.YtpjlbpmlddjddaaHeapNewM
import Derived.Test.YtpjlbpmlddjddaaListsNewM
namespace Go.Proofs.Ytpjlbpmlddjddaa
open Go.RowKit
set_option linter.unusedVariables false

/-- A new memory's parts, in blocks of their own. -/
structure MemS (w W : World) (B : Option Addr) (d : Nat) (F : List Nat) (B' : Option Addr) (d' : Nat) (F' : List Nat) (g g' : Nat) : Prop where
  own : Own 3 W (.slice B 384 d) (ints zs384) F
  own' : Own 3 W (.slice B' 6 d') (ints ms6) F'
  lo : ∀ x, x ∈ F ++ F' → w.heap.size ≤ x
  ff : ∀ x, x ∈ F → x ∉ F'
  row : W.rowIs g 62 3 (fun _ => .slice none 0 0)
  row' : W.rowIs g' 62 9 (fun _ => .slice none 0 0)
  lg : w.heap.size ≤ g ∧ w.heap.size ≤ g'
  ng : g ∉ F ++ F' ∧ g' ∉ F ++ F'
  bel : Below w.heap.size w W
def MNew (w w' : World) (e : Ending) : Prop :=
  ∃ B d F B' d' F' g g', e = .returned (.agg #[.slice B 384 d, .slice B' 6 d', .slice (some ⟨g, 0, none⟩) 3 3, .slice (some ⟨g', 0, none⟩) 9 9]) ∧ MemS w w' B d F B' d' F' g g'

set_option maxRecDepth 100000 in
set_option maxHeartbeats 1600000 in
theorem specMemNew_any (w : World) : Calls Try.prog 5 #[] w fun e w' => MNew w w' e := by
  go_enter Try.func5, Try.ntmps5
  go_wp2_with fail
  obtain ⟨w0, hW⟩ : ∃ W : World, W = w.alloc (.cells #[.slice none 0 0, .slice none 0 0, .slice none 0 0, .slice none 0 0] 29) := ⟨_, rfl⟩
  rw [← hW]
  have hb0 : Below w.heap.size w w0 := by rw [hW]; exact (Below.refl _ _).alloc (Nat.le_refl _) _
  have t0 : w.heap.size < w0.heap.size := by rw [hW]; simp
  have c0 : w0.cell? ⟨w.heap.size, 0, none⟩ = some (.slice none 0 0) := by rw [hW]; go_simp
  have c1 : w0.cell? ⟨w.heap.size, 1, none⟩ = some (.slice none 0 0) := by rw [hW]; go_simp
  have c2 : w0.cell? ⟨w.heap.size, 2, none⟩ = some (.slice none 0 0) := by rw [hW]; go_simp
  have c3 : w0.cell? ⟨w.heap.size, 3, none⟩ = some (.slice none 0 0) := by rw [hW]; go_simp
  have f0 : ∀ j, w0.frozen? ⟨w.heap.size, j, none⟩ = false := fun j => by rw [hW]; go_simp
  clear hW
  refine (specHeapNew_any w0).mono ?_
  rintro e w1 ⟨B, d, F, B', d', F', rfl, hC⟩
  obtain ⟨h1, h2, h3, h4, h5⟩ := hC
  have hz1 := h5.size
  go_wp2_with fail
  refine (specListsNew_any w1).mono ?_
  rintro e w2 ⟨g, g', rfl, hr, hr', hg, hg', hb⟩
  have hz2 := hb.size
  have hbw := hb0.trans ((h5.trans (hb.mono h5.size)).mono hb0.size)
  have hcc : ∀ j, w2.cell? ⟨w.heap.size, j, none⟩ = w0.cell? ⟨w.heap.size, j, none⟩ := fun j => (hb.cell (show w.heap.size < _ by omega)).trans (h5.cell t0)
  have hfc : ∀ j, w2.frozen? ⟨w.heap.size, j, none⟩ = w0.frozen? ⟨w.heap.size, j, none⟩ := fun j => (hb.frozen (show w.heap.size < _ by omega)).trans (h5.frozen t0)
  have k0 := (hcc 0).trans c0
  have k1 := (hcc 1).trans c1
  have k2 := (hcc 2).trans c2
  have k3 := (hcc 3).trans c3
  have m0 := (hfc 0).trans (f0 0)
  have m1 := (hfc 1).trans (f0 1)
  have m2 := (hfc 2).trans (f0 2)
  have m3 := (hfc 3).trans (f0 3)
  have hlt : ∀ x, x ∈ F ++ F' → x < w1.heap.size := fun x hx => (List.mem_append.1 hx).elim (h1.lt x) (h2.lt x)
  have HM : Hid (MemS w ((((w2.setCell ⟨w.heap.size, 0, none⟩ (.slice B 384 d)).setCell ⟨w.heap.size, 1, none⟩ (.slice B' 6 d')).setCell ⟨w.heap.size, 2, none⟩ (.slice (some ⟨g, 0, none⟩) 3 3)).setCell ⟨w.heap.size, 3, none⟩ (.slice (some ⟨g', 0, none⟩) 9 9)) B d F B' d' F' g g') := hide (by
    have ht : Touch [w.heap.size] w2 ((((w2.setCell ⟨w.heap.size, 0, none⟩ (.slice B 384 d)).setCell ⟨w.heap.size, 1, none⟩ (.slice B' 6 d')).setCell ⟨w.heap.size, 2, none⟩ (.slice (some ⟨g, 0, none⟩) 3 3)).setCell ⟨w.heap.size, 3, none⟩ (.slice (some ⟨g', 0, none⟩) 9 9)) := ((((Touch.refl _ _).setCell (by simp) _).setCell (by simp) _).setCell (by simp) _).setCell (by simp) _
    exact ⟨(h1.below hb).touch ht (fun x hx => by have := h3 x (List.mem_append_left _ hx); simp; omega), (h2.below hb).touch ht (fun x hx => by have := h3 x (List.mem_append_right _ hx); simp; omega), fun x hx => by have := h3 x hx; omega, h4,
      rowIs_touch hr ht (by simp; omega), rowIs_touch hr' ht (by simp; omega), ⟨by omega, by omega⟩, ⟨fun hm => by have := hlt g hm; omega, fun hm => by have := hlt g' hm; omega⟩, Below.touch hbw ht (by simp) hbw.size⟩)
  clear hcc hfc c0 c1 c2 c3 f0 hr hr' h1 h2 h3 h4 h5 hb hlt hbw hb0
  go_wp2
  exact bodyPost_ret (v := .agg #[.slice B 384 d, .slice B' 6 d', .slice (some ⟨g, 0, none⟩) 3 3, .slice (some ⟨g', 0, none⟩) 9 9]) (by simp [results, Try.results5, go_sem, k0, k1, k2, k3]) rfl
    ⟨B, d, F, B', d', F', g, g', rfl, HM.out⟩

set_option maxRecDepth 100000 in
set_option maxHeartbeats 1600000 in
theorem implMemNew_any (w : World) : Calls Try.prog 6 #[] w fun e w' => MNew w w' e := by
  go_enter Try.func6, Try.ntmps6
  go_wp2_with fail
  obtain ⟨w0, hW⟩ : ∃ W : World, W = w.alloc (.cells #[.slice none 0 0, .slice none 0 0, .slice none 0 0, .slice none 0 0] 29) := ⟨_, rfl⟩
  rw [← hW]
  have hb0 : Below w.heap.size w w0 := by rw [hW]; exact (Below.refl _ _).alloc (Nat.le_refl _) _
  have t0 : w.heap.size < w0.heap.size := by rw [hW]; simp
  have c0 : w0.cell? ⟨w.heap.size, 0, none⟩ = some (.slice none 0 0) := by rw [hW]; go_simp
  have c1 : w0.cell? ⟨w.heap.size, 1, none⟩ = some (.slice none 0 0) := by rw [hW]; go_simp
  have c2 : w0.cell? ⟨w.heap.size, 2, none⟩ = some (.slice none 0 0) := by rw [hW]; go_simp
  have c3 : w0.cell? ⟨w.heap.size, 3, none⟩ = some (.slice none 0 0) := by rw [hW]; go_simp
  have f0 : ∀ j, w0.frozen? ⟨w.heap.size, j, none⟩ = false := fun j => by rw [hW]; go_simp
  clear hW
  refine (implHeapNew_any w0).mono ?_
  rintro e w1 ⟨B, d, F, B', d', F', rfl, hC⟩
  obtain ⟨h1, h2, h3, h4, h5⟩ := hC
  have hz1 := h5.size
  go_wp2_with fail
  refine (implListsNew_any w1).mono ?_
  rintro e w2 ⟨g, g', rfl, hr, hr', hg, hg', hb⟩
  have hz2 := hb.size
  have hbw := hb0.trans ((h5.trans (hb.mono h5.size)).mono hb0.size)
  have hcc : ∀ j, w2.cell? ⟨w.heap.size, j, none⟩ = w0.cell? ⟨w.heap.size, j, none⟩ := fun j => (hb.cell (show w.heap.size < _ by omega)).trans (h5.cell t0)
  have hfc : ∀ j, w2.frozen? ⟨w.heap.size, j, none⟩ = w0.frozen? ⟨w.heap.size, j, none⟩ := fun j => (hb.frozen (show w.heap.size < _ by omega)).trans (h5.frozen t0)
  have k0 := (hcc 0).trans c0
  have k1 := (hcc 1).trans c1
  have k2 := (hcc 2).trans c2
  have k3 := (hcc 3).trans c3
  have m0 := (hfc 0).trans (f0 0)
  have m1 := (hfc 1).trans (f0 1)
  have m2 := (hfc 2).trans (f0 2)
  have m3 := (hfc 3).trans (f0 3)
  have hlt : ∀ x, x ∈ F ++ F' → x < w1.heap.size := fun x hx => (List.mem_append.1 hx).elim (h1.lt x) (h2.lt x)
  have HM : Hid (MemS w ((((w2.setCell ⟨w.heap.size, 0, none⟩ (.slice B 384 d)).setCell ⟨w.heap.size, 1, none⟩ (.slice B' 6 d')).setCell ⟨w.heap.size, 2, none⟩ (.slice (some ⟨g, 0, none⟩) 3 3)).setCell ⟨w.heap.size, 3, none⟩ (.slice (some ⟨g', 0, none⟩) 9 9)) B d F B' d' F' g g') := hide (by
    have ht : Touch [w.heap.size] w2 ((((w2.setCell ⟨w.heap.size, 0, none⟩ (.slice B 384 d)).setCell ⟨w.heap.size, 1, none⟩ (.slice B' 6 d')).setCell ⟨w.heap.size, 2, none⟩ (.slice (some ⟨g, 0, none⟩) 3 3)).setCell ⟨w.heap.size, 3, none⟩ (.slice (some ⟨g', 0, none⟩) 9 9)) := ((((Touch.refl _ _).setCell (by simp) _).setCell (by simp) _).setCell (by simp) _).setCell (by simp) _
    exact ⟨(h1.below hb).touch ht (fun x hx => by have := h3 x (List.mem_append_left _ hx); simp; omega), (h2.below hb).touch ht (fun x hx => by have := h3 x (List.mem_append_right _ hx); simp; omega), fun x hx => by have := h3 x hx; omega, h4,
      rowIs_touch hr ht (by simp; omega), rowIs_touch hr' ht (by simp; omega), ⟨by omega, by omega⟩, ⟨fun hm => by have := hlt g hm; omega, fun hm => by have := hlt g' hm; omega⟩, Below.touch hbw ht (by simp) hbw.size⟩)
  clear hcc hfc c0 c1 c2 c3 f0 hr hr' h1 h2 h3 h4 h5 hb hlt hbw hb0
  go_wp2
  exact bodyPost_ret (v := .agg #[.slice B 384 d, .slice B' 6 d', .slice (some ⟨g, 0, none⟩) 3 3, .slice (some ⟨g', 0, none⟩) 9 9]) (by simp [results, Try.results6, go_sem, k0, k1, k2, k3]) rfl
    ⟨B, d, F, B', d', F', g, g', rfl, HM.out⟩

theorem MemS.below {w W W' : World} {B : Option Addr} {d : Nat} {F : List Nat} {B' : Option Addr} {d' : Nat} {F' : List Nat} {g g' : Nat} (h : MemS w W B d F B' d' F' g g') (hb : Below W.heap.size W W') : MemS w W' B d F B' d' F' g g' :=
  ⟨h.own.below hb, h.own'.below hb, h.lo, h.ff, rowIs_below h.row hb h.row.lt, rowIs_below h.row' hb h.row'.lt, h.lg, h.ng, h.bel.trans (hb.mono h.bel.size)⟩
theorem MemS.touch {w W W' : World} {B : Option Addr} {d : Nat} {F : List Nat} {B' : Option Addr} {d' : Nat} {F' : List Nat} {g g' : Nat} {G : List Nat} (h : MemS w W B d F B' d' F' g g') (ht : Touch G W W') (hF : ∀ x, x ∈ F ++ F' → x ∉ G) (hg : g ∉ G) (hg' : g' ∉ G) (hG : ∀ x, x ∈ G → w.heap.size ≤ x) : MemS w W' B d F B' d' F' g g' :=
  ⟨h.own.touch ht (fun x hx => hF x (List.mem_append_left _ hx)), h.own'.touch ht (fun x hx => hF x (List.mem_append_right _ hx)), h.lo, h.ff, rowIs_touch h.row ht hg, rowIs_touch h.row' ht hg', h.lg, h.ng, Below.touch h.bel ht hG h.bel.size⟩
set_option maxRecDepth 100000 in
set_option maxHeartbeats 1600000 in
theorem eqMem_same (A A' L L' B B' K K' : Option Addr) (c c' d d' : Nat) (w : World) (ha : RdB .i64 w A zs384 w.heap.size) (hb : RdB .i64 w B zs384 w.heap.size) (ha' : RdB .i64 w A' ms6 w.heap.size) (hb' : RdB .i64 w B' ms6 w.heap.size) (hl : RdM w L e3 w.heap.size) (hk : RdM w K e3 w.heap.size) (hl' : RdM w L' e9 w.heap.size) (hk' : RdM w K' e9 w.heap.size) :
    Calls Try.prog 7 #[.agg #[.slice A 384 c, .slice A' 6 c', .slice L 3 3, .slice L' 9 9], .agg #[.slice B 384 d, .slice B' 6 d', .slice K 3 3, .slice K' 9 9]] w fun e w' => e = .returned (.bool true) ∧ Below w.heap.size w w' := by
  have H1 := hide ha
  have H2 := hide hb
  have H3 := hide ha'
  have H4 := hide hb'
  have H5 := hide hl
  have H6 := hide hk
  have H7 := hide hl'
  have H8 := hide hk'
  clear ha hb ha' hb' hl hk hl' hk'
  go_enter Try.func7, Try.ntmps7
  go_wp2_with fail
  obtain ⟨w1, hW⟩ : ∃ W : World, W = (w.alloc (.cells #[.slice A 384 c, .slice A' 6 c', .slice L 3 3, .slice L' 9 9] 29)).alloc (.cells #[.slice B 384 d, .slice B' 6 d', .slice K 3 3, .slice K' 9 9] 29) := ⟨_, rfl⟩
  rw [← hW]
  have hb1 : Below w.heap.size w w1 := by rw [hW]; exact ((Below.refl _ _).alloc (Nat.le_refl _) _).alloc (by simp) _
  have t1 : w.heap.size < w1.heap.size := by rw [hW]; simp <;> omega
  have t2 : w.heap.size + 1 < w1.heap.size := by rw [hW]; simp <;> omega
  have b2 : w1.cell? ⟨w.heap.size, 2, none⟩ = some (.slice L 3 3) := by rw [hW]; go_simp
  have b3 : w1.cell? ⟨w.heap.size, 3, none⟩ = some (.slice L' 9 9) := by rw [hW]; go_simp
  have c2 : w1.cell? ⟨w.heap.size + 1, 2, none⟩ = some (.slice K 3 3) := by rw [hW]; go_simp
  have c3 : w1.cell? ⟨w.heap.size + 1, 3, none⟩ = some (.slice K' 9 9) := by rw [hW]; go_simp
  clear hW
  have HB1 := hide hb1
  refine (eqHeap_same A B A' B' 384 c d 6 c' d' zs384 ms6 w.heap.size w1 (by rfl) (by omega) (by rfl) (by omega) hb1.size (H1.out.below hb1 (Nat.le_refl _)) (H2.out.below hb1 (Nat.le_refl _)) (H3.out.below hb1 (Nat.le_refl _)) (H4.out.below hb1 (Nat.le_refl _))).mono ?_
  rintro e w2 ⟨rfl, hb⟩
  have k2 : w2.cell? ⟨w.heap.size, 2, none⟩ = some (.slice L 3 3) := (hb.cell t1).trans b2
  have k3 : w2.cell? ⟨w.heap.size, 3, none⟩ = some (.slice L' 9 9) := (hb.cell t1).trans b3
  have j2 : w2.cell? ⟨w.heap.size + 1, 2, none⟩ = some (.slice K 3 3) := (hb.cell t2).trans c2
  have j3 : w2.cell? ⟨w.heap.size + 1, 3, none⟩ = some (.slice K' 9 9) := (hb.cell t2).trans c3
  have HB2 := hide (below_go hb1 hb)
  clear hb hb1 b2 b3 c2 c3
  go_wp2_with fail
  refine (eqLists_same L K L' K' 3 3 3 9 9 9 e3 e9 w2 (by rfl) (by rfl) (by decide) (rdM_at H5.out HB2.out) (rdM_at H6.out HB2.out) (rdM_at H7.out HB2.out) (rdM_at H8.out HB2.out)).mono ?_
  rintro e w3 ⟨rfl, hb⟩
  have HB3 := hide (below_go HB2.out hb)
  clear hb
  go_wp2
  go_ret
  exact ⟨rfl, HB3.out⟩
set_option maxRecDepth 100000 in
set_option maxHeartbeats 1600000 in
theorem markMem_any (A A' : Option Addr) (c c' g g' : Nat) (z z' : List Int) (F F' : List Nat) (w : World) (ho : Own 3 w (.slice A 384 c) (ints z) F) (ho' : Own 3 w (.slice A' 6 c') (ints z') F') (hd : ∀ g, g ∈ F → g ∉ F') (hr : w.rowIs g 62 3 (fun _ => .slice none 0 0)) (hr' : w.rowIs g' 62 9 (fun _ => .slice none 0 0)) (hg : g ∉ F ++ F') (hg' : g' ∉ F ++ F') :
    Calls Try.prog 8 #[.agg #[.slice A 384 c, .slice A' 6 c', .slice (some ⟨g, 0, none⟩) 3 3, .slice (some ⟨g', 0, none⟩) 9 9], .int .i64 1] w fun e w' => e = .returned (.int .i64 391) ∧ Own 3 w' (.slice A 384 c) (ints (marks 1 384)) F ∧ Own 3 w' (.slice A' 6 c') (ints (marks (1 + (384 : Nat)) 6)) F' ∧ Touch (F ++ F') w w' := by
  have H1 := hide ho
  have H2 := hide ho'
  have H3 := hide hd
  have H4 := hide hr
  have H5 := hide hr'
  have H6 := hide hg
  have H7 := hide hg'
  clear ho ho' hd hr hr' hg hg'
  go_enter Try.func8, Try.ntmps8
  go_wp2_with fail
  obtain ⟨w1, hW⟩ : ∃ W : World, W = w.alloc (.cells #[.slice A 384 c, .slice A' 6 c', .slice (some ⟨g, 0, none⟩) 3 3, .slice (some ⟨g', 0, none⟩) 9 9] 29) := ⟨_, rfl⟩
  rw [← hW]
  have hb1 : Below w.heap.size w w1 := by rw [hW]; exact (Below.refl _ _).alloc (Nat.le_refl _) _
  have t1 : w.heap.size < w1.heap.size := by rw [hW]; simp
  have b2 : w1.cell? ⟨w.heap.size, 2, none⟩ = some (.slice (some ⟨g, 0, none⟩) 3 3) := by rw [hW]; go_simp
  have b3 : w1.cell? ⟨w.heap.size, 3, none⟩ = some (.slice (some ⟨g', 0, none⟩) 9 9) := by rw [hW]; go_simp
  clear hW
  refine (markHeap_any A A' 384 c 6 c' z z' F F' 1 w1 (H1.out.below hb1) (H2.out.below hb1) H3.out (by omega) (by omega) (by omega)).mono ?_
  rintro e w2 ⟨rfl, ho, ho', ht⟩
  have hn : w.heap.size ∉ F ++ F' := fun hm => by rcases List.mem_append.1 hm with h | h; · have := H1.out.lt _ h; omega
                                                  · have := H2.out.lt _ h; omega
  have k2 : w2.cell? ⟨w.heap.size, 2, none⟩ = some (.slice (some ⟨g, 0, none⟩) 3 3) := (World.cell?_of_block (ht.block _ t1 hn)).trans b2
  have k3 : w2.cell? ⟨w.heap.size, 3, none⟩ = some (.slice (some ⟨g', 0, none⟩) 9 9) := (World.cell?_of_block (ht.block _ t1 hn)).trans b3
  have hr2 := rowIs_touch (rowIs_below H4.out hb1 H4.out.lt) ht H6.out
  have hr3 := rowIs_touch (rowIs_below H5.out hb1 H5.out.lt) ht H7.out
  have R2 := hide (rd_made hr2 hr2.lt)
  have R3 := hide (rd_made hr3 hr3.lt)
  have HO := hide ho
  have HO' := hide ho'
  have HT := hide ((Touch.of_below (F := F ++ F') hb1).trans ht)
  clear ho ho' ht hr2 hr3 hb1 b2 b3 hn
  go_wp2_with fail
  refine (markLists_nil 391 (by decide) (some ⟨g, 0, none⟩) (some ⟨g', 0, none⟩) 3 3 9 9 _ (by omega) (by omega) R2.out R3.out).mono ?_
  rintro e w3 ⟨rfl, hb⟩
  have HO3 := hide (HO.out.below hb)
  have HO3' := hide (HO'.out.below hb)
  have HT3 := hide (HT.out.trans (.of_below hb))
  clear hb
  go_wp2
  go_ret
  exact ⟨rfl, HO3.out, HO3'.out, HT3.out⟩
set_option maxRecDepth 100000 in
set_option maxHeartbeats 1600000 in
theorem heldMem_any (A A' : Option Addr) (c c' g g' : Nat) (w : World) (ha : RdB .i64 w A (marks 1 384) w.heap.size) (ha' : RdB .i64 w A' (marks (1 + (384 : Nat)) 6) w.heap.size) (hr : w.rowIs g 62 3 (fun _ => .slice none 0 0)) (hr' : w.rowIs g' 62 9 (fun _ => .slice none 0 0)) :
    Calls Try.prog 9 #[.agg #[.slice A 384 c, .slice A' 6 c', .slice (some ⟨g, 0, none⟩) 3 3, .slice (some ⟨g', 0, none⟩) 9 9], .int .i64 1] w fun e w' => e = .returned (.int .i64 391) ∧ Below w.heap.size w w' := by
  have H1 := hide ha
  have H2 := hide ha'
  have H4 := hide hr
  have H5 := hide hr'
  clear ha ha' hr hr'
  go_enter Try.func9, Try.ntmps9
  go_wp2_with fail
  obtain ⟨w1, hW⟩ : ∃ W : World, W = w.alloc (.cells #[.slice A 384 c, .slice A' 6 c', .slice (some ⟨g, 0, none⟩) 3 3, .slice (some ⟨g', 0, none⟩) 9 9] 29) := ⟨_, rfl⟩
  rw [← hW]
  have hb1 : Below w.heap.size w w1 := by rw [hW]; exact (Below.refl _ _).alloc (Nat.le_refl _) _
  have t1 : w.heap.size < w1.heap.size := by rw [hW]; simp
  have b2 : w1.cell? ⟨w.heap.size, 2, none⟩ = some (.slice (some ⟨g, 0, none⟩) 3 3) := by rw [hW]; go_simp
  have b3 : w1.cell? ⟨w.heap.size, 3, none⟩ = some (.slice (some ⟨g', 0, none⟩) 9 9) := by rw [hW]; go_simp
  clear hW
  refine (heldHeap_same A A' 384 c 6 c' 1 w1 ((H1.out.below hb1 (Nat.le_refl _)).more hb1.size) ((H2.out.below hb1 (Nat.le_refl _)).more hb1.size) (by omega) (by omega) (by omega)).mono ?_
  rintro e w2 ⟨rfl, hb⟩
  have k2 : w2.cell? ⟨w.heap.size, 2, none⟩ = some (.slice (some ⟨g, 0, none⟩) 3 3) := (hb.cell t1).trans b2
  have k3 : w2.cell? ⟨w.heap.size, 3, none⟩ = some (.slice (some ⟨g', 0, none⟩) 9 9) := (hb.cell t1).trans b3
  have hbw := below_go hb1 hb
  have hr2 := rowIs_below H4.out hbw H4.out.lt
  have hr3 := rowIs_below H5.out hbw H5.out.lt
  have R2 := hide (rd_made hr2 hr2.lt)
  have R3 := hide (rd_made hr3 hr3.lt)
  have HB2 := hide hbw
  clear hb hb1 b2 b3 hr2 hr3 hbw
  go_wp2_with fail
  refine (heldLists_nil 391 (by decide) (some ⟨g, 0, none⟩) (some ⟨g', 0, none⟩) 3 3 9 9 _ (by omega) (by omega) R2.out R3.out).mono ?_
  rintro e w3 ⟨rfl, hb⟩
  have HB3 := hide (below_go HB2.out hb)
  clear hb
  go_wp2
  go_ret
  exact ⟨rfl, HB3.out⟩

set_option maxRecDepth 100000 in
set_option maxHeartbeats 3200000 in
theorem fnExactMemNew_walk (w : World) : Calls Try.prog 3 #[] w fun e w' => e = .returned (.bool true) ∧ Below w.heap.size w w' := by
  have HB0 := hide (Below.refl w.heap.size w)
  go_enter Try.func3, Try.ntmps3
  go_wp2_with fail
  refine (specMemNew_any _).mono ?_
  rintro e w1 ⟨B_s, d_s, F_s, C_s, e_s, G_s, g_s, h_s, rfl, hm⟩
  have hb := hm.bel
  have Ns := hide hm
  clear hm
  have hs1 : w.heap.size ≤ w1.heap.size := hb.size
  have HB1 := hide (HB0.out.trans (hb.mono HB0.out.size))
  clear hb
  have Hs_1 := Ns
  have Ls : Hid (∀ z, z ∈ F_s ++ G_s → w.heap.size ≤ z ∧ z < w1.heap.size) := hide (fun z hz => ⟨Ns.out.lo z hz, (List.mem_append.1 hz).elim (Ns.out.own.lt z) (Ns.out.own'.lt z)⟩)
  have lgs : g_s < w1.heap.size ∧ h_s < w1.heap.size := ⟨Ns.out.row.lt, Ns.out.row'.lt⟩
  go_wp2_with fail
  obtain ⟨w2, hW⟩ : ∃ W : World, W = w1.alloc (.cells #[.slice B_s 384 d_s, .slice C_s 6 e_s, .slice (some ⟨g_s, 0, none⟩) 3 3, .slice (some ⟨h_s, 0, none⟩) 9 9] 29) := ⟨_, rfl⟩
  rw [← hW]
  have hb : Below w1.heap.size w1 w2 := by rw [hW]; exact (Below.refl _ _).alloc (Nat.le_refl _) _
  have n0 : w2.cell? ⟨w1.heap.size, 0, none⟩ = some (.slice B_s 384 d_s) := by rw [hW]; go_simp
  have n1 : w2.cell? ⟨w1.heap.size, 1, none⟩ = some (.slice C_s 6 e_s) := by rw [hW]; go_simp
  have n2 : w2.cell? ⟨w1.heap.size, 2, none⟩ = some (.slice (some ⟨g_s, 0, none⟩) 3 3) := by rw [hW]; go_simp
  have n3 : w2.cell? ⟨w1.heap.size, 3, none⟩ = some (.slice (some ⟨h_s, 0, none⟩) 9 9) := by rw [hW]; go_simp
  have nt : w1.heap.size < w2.heap.size := by rw [hW]; simp
  clear hW
  have hs2 : w1.heap.size ≤ w2.heap.size := hb.size
  have HB2 := hide (HB1.out.trans (hb.mono HB1.out.size))
  have Hs_2 := hide (Hs_1.out.below hb)
  clear Hs_1
  clear hb
  have bs0_2 := n0
  have bs1_2 := n1
  have bs2_2 := n2
  have bs3_2 := n3
  have ts_2 := nt
  have us := nt
  clear n0 n1 n2 n3 nt
  refine (implMemNew_any _).mono ?_
  rintro e w3 ⟨B_g, d_g, F_g, C_g, e_g, G_g, g_g, h_g, rfl, hm⟩
  have hb := hm.bel
  have Ng := hide hm
  clear hm
  have hs3 : w2.heap.size ≤ w3.heap.size := hb.size
  have HB3 := hide (HB2.out.trans (hb.mono HB2.out.size))
  have bs0_3 : w3.cell? ⟨w1.heap.size, 0, none⟩ = some (.slice B_s 384 d_s) := (hb.cell ts_2).trans bs0_2
  have bs1_3 : w3.cell? ⟨w1.heap.size, 1, none⟩ = some (.slice C_s 6 e_s) := (hb.cell ts_2).trans bs1_2
  have bs2_3 : w3.cell? ⟨w1.heap.size, 2, none⟩ = some (.slice (some ⟨g_s, 0, none⟩) 3 3) := (hb.cell ts_2).trans bs2_2
  have bs3_3 : w3.cell? ⟨w1.heap.size, 3, none⟩ = some (.slice (some ⟨h_s, 0, none⟩) 9 9) := (hb.cell ts_2).trans bs3_2
  have ts_3 : w1.heap.size < w3.heap.size := Nat.lt_of_lt_of_le ts_2 hs3
  clear bs0_2 bs1_2 bs2_2 bs3_2 ts_2
  have Hs_3 := hide (Hs_2.out.below hb)
  clear Hs_2
  clear hb
  have Hg_3 := Ng
  have Lg : Hid (∀ z, z ∈ F_g ++ G_g → w2.heap.size ≤ z ∧ z < w3.heap.size) := hide (fun z hz => ⟨Ng.out.lo z hz, (List.mem_append.1 hz).elim (Ng.out.own.lt z) (Ng.out.own'.lt z)⟩)
  have lgg : g_g < w3.heap.size ∧ h_g < w3.heap.size := ⟨Ng.out.row.lt, Ng.out.row'.lt⟩
  go_wp2_with fail
  obtain ⟨w4, hW⟩ : ∃ W : World, W = w3.alloc (.cells #[.slice B_g 384 d_g, .slice C_g 6 e_g, .slice (some ⟨g_g, 0, none⟩) 3 3, .slice (some ⟨h_g, 0, none⟩) 9 9] 29) := ⟨_, rfl⟩
  rw [← hW]
  have hb : Below w3.heap.size w3 w4 := by rw [hW]; exact (Below.refl _ _).alloc (Nat.le_refl _) _
  have n0 : w4.cell? ⟨w3.heap.size, 0, none⟩ = some (.slice B_g 384 d_g) := by rw [hW]; go_simp
  have n1 : w4.cell? ⟨w3.heap.size, 1, none⟩ = some (.slice C_g 6 e_g) := by rw [hW]; go_simp
  have n2 : w4.cell? ⟨w3.heap.size, 2, none⟩ = some (.slice (some ⟨g_g, 0, none⟩) 3 3) := by rw [hW]; go_simp
  have n3 : w4.cell? ⟨w3.heap.size, 3, none⟩ = some (.slice (some ⟨h_g, 0, none⟩) 9 9) := by rw [hW]; go_simp
  have nt : w3.heap.size < w4.heap.size := by rw [hW]; simp
  clear hW
  have hs4 : w3.heap.size ≤ w4.heap.size := hb.size
  have HB4 := hide (HB3.out.trans (hb.mono HB3.out.size))
  have bs0_4 : w4.cell? ⟨w1.heap.size, 0, none⟩ = some (.slice B_s 384 d_s) := (hb.cell ts_3).trans bs0_3
  have bs1_4 : w4.cell? ⟨w1.heap.size, 1, none⟩ = some (.slice C_s 6 e_s) := (hb.cell ts_3).trans bs1_3
  have bs2_4 : w4.cell? ⟨w1.heap.size, 2, none⟩ = some (.slice (some ⟨g_s, 0, none⟩) 3 3) := (hb.cell ts_3).trans bs2_3
  have bs3_4 : w4.cell? ⟨w1.heap.size, 3, none⟩ = some (.slice (some ⟨h_s, 0, none⟩) 9 9) := (hb.cell ts_3).trans bs3_3
  have ts_4 : w1.heap.size < w4.heap.size := Nat.lt_of_lt_of_le ts_3 hs4
  clear bs0_3 bs1_3 bs2_3 bs3_3 ts_3
  have Hs_4 := hide (Hs_3.out.below hb)
  clear Hs_3
  have Hg_4 := hide (Hg_3.out.below hb)
  clear Hg_3
  clear hb
  have bg0_4 := n0
  have bg1_4 := n1
  have bg2_4 := n2
  have bg3_4 := n3
  have tg_4 := nt
  have ug := nt
  clear n0 n1 n2 n3 nt
  refine (eqMem_same _ _ _ _ _ _ _ _ _ _ _ _ _ (Hg_4.out.own.rd).2 (Hs_4.out.own.rd).2 (Hg_4.out.own'.rd).2 (Hs_4.out.own'.rd).2 (rd_made Hg_4.out.row Hg_4.out.row.lt) (rd_made Hs_4.out.row Hs_4.out.row.lt) (rd_made Hg_4.out.row' Hg_4.out.row'.lt) (rd_made Hs_4.out.row' Hs_4.out.row'.lt)).mono ?_
  rintro e w5 ⟨rfl, hb⟩
  have hs5 : w4.heap.size ≤ w5.heap.size := hb.size
  have HB5 := hide (HB4.out.trans (hb.mono HB4.out.size))
  have bs0_5 : w5.cell? ⟨w1.heap.size, 0, none⟩ = some (.slice B_s 384 d_s) := (hb.cell ts_4).trans bs0_4
  have bs1_5 : w5.cell? ⟨w1.heap.size, 1, none⟩ = some (.slice C_s 6 e_s) := (hb.cell ts_4).trans bs1_4
  have bs2_5 : w5.cell? ⟨w1.heap.size, 2, none⟩ = some (.slice (some ⟨g_s, 0, none⟩) 3 3) := (hb.cell ts_4).trans bs2_4
  have bs3_5 : w5.cell? ⟨w1.heap.size, 3, none⟩ = some (.slice (some ⟨h_s, 0, none⟩) 9 9) := (hb.cell ts_4).trans bs3_4
  have ts_5 : w1.heap.size < w5.heap.size := Nat.lt_of_lt_of_le ts_4 hs5
  clear bs0_4 bs1_4 bs2_4 bs3_4 ts_4
  have bg0_5 : w5.cell? ⟨w3.heap.size, 0, none⟩ = some (.slice B_g 384 d_g) := (hb.cell tg_4).trans bg0_4
  have bg1_5 : w5.cell? ⟨w3.heap.size, 1, none⟩ = some (.slice C_g 6 e_g) := (hb.cell tg_4).trans bg1_4
  have bg2_5 : w5.cell? ⟨w3.heap.size, 2, none⟩ = some (.slice (some ⟨g_g, 0, none⟩) 3 3) := (hb.cell tg_4).trans bg2_4
  have bg3_5 : w5.cell? ⟨w3.heap.size, 3, none⟩ = some (.slice (some ⟨h_g, 0, none⟩) 9 9) := (hb.cell tg_4).trans bg3_4
  have tg_5 : w3.heap.size < w5.heap.size := Nat.lt_of_lt_of_le tg_4 hs5
  clear bg0_4 bg1_4 bg2_4 bg3_4 tg_4
  have Hs_5 := hide (Hs_4.out.below hb)
  clear Hs_4
  have Hg_5 := hide (Hg_4.out.below hb)
  clear Hg_4
  clear hb
  go_wp2_with fail
  refine (markMem_any _ _ _ _ _ _ _ _ F_g G_g _ Hg_5.out.own Hg_5.out.own' Hg_5.out.ff Hg_5.out.row Hg_5.out.row' Hg_5.out.ng.1 Hg_5.out.ng.2).mono ?_
  rintro e w6 ⟨rfl, ho, ho', ht⟩
  have OG_6 := hide ho
  have PG_6 := hide ho'
  have RG_6 := hide (rowIs_touch Hg_5.out.row ht Hg_5.out.ng.1)
  have SG_6 := hide (rowIs_touch Hg_5.out.row' ht Hg_5.out.ng.2)
  clear ho ho' Hg_5
  have hs6 : w5.heap.size ≤ w6.heap.size := ht.size
  have HB6 := hide (Below.touch HB5.out ht (fun z hz => by have := Lg.out z hz; omega) HB5.out.size)
  have bs0_6 : w6.cell? ⟨w1.heap.size, 0, none⟩ = some (.slice B_s 384 d_s) := (World.cell?_of_block (w := w5) (ht.block _ ts_5 (fun hz => by have h5 := Lg.out (w1.heap.size) hz; omega))).trans bs0_5
  have bs1_6 : w6.cell? ⟨w1.heap.size, 1, none⟩ = some (.slice C_s 6 e_s) := (World.cell?_of_block (w := w5) (ht.block _ ts_5 (fun hz => by have h5 := Lg.out (w1.heap.size) hz; omega))).trans bs1_5
  have bs2_6 : w6.cell? ⟨w1.heap.size, 2, none⟩ = some (.slice (some ⟨g_s, 0, none⟩) 3 3) := (World.cell?_of_block (w := w5) (ht.block _ ts_5 (fun hz => by have h5 := Lg.out (w1.heap.size) hz; omega))).trans bs2_5
  have bs3_6 : w6.cell? ⟨w1.heap.size, 3, none⟩ = some (.slice (some ⟨h_s, 0, none⟩) 9 9) := (World.cell?_of_block (w := w5) (ht.block _ ts_5 (fun hz => by have h5 := Lg.out (w1.heap.size) hz; omega))).trans bs3_5
  have ts_6 : w1.heap.size < w6.heap.size := Nat.lt_of_lt_of_le ts_5 hs6
  clear bs0_5 bs1_5 bs2_5 bs3_5 ts_5
  have bg0_6 : w6.cell? ⟨w3.heap.size, 0, none⟩ = some (.slice B_g 384 d_g) := (World.cell?_of_block (w := w5) (ht.block _ tg_5 (fun hz => by have h5 := Lg.out (w3.heap.size) hz; omega))).trans bg0_5
  have bg1_6 : w6.cell? ⟨w3.heap.size, 1, none⟩ = some (.slice C_g 6 e_g) := (World.cell?_of_block (w := w5) (ht.block _ tg_5 (fun hz => by have h5 := Lg.out (w3.heap.size) hz; omega))).trans bg1_5
  have bg2_6 : w6.cell? ⟨w3.heap.size, 2, none⟩ = some (.slice (some ⟨g_g, 0, none⟩) 3 3) := (World.cell?_of_block (w := w5) (ht.block _ tg_5 (fun hz => by have h5 := Lg.out (w3.heap.size) hz; omega))).trans bg2_5
  have bg3_6 : w6.cell? ⟨w3.heap.size, 3, none⟩ = some (.slice (some ⟨h_g, 0, none⟩) 9 9) := (World.cell?_of_block (w := w5) (ht.block _ tg_5 (fun hz => by have h5 := Lg.out (w3.heap.size) hz; omega))).trans bg3_5
  have tg_6 : w3.heap.size < w6.heap.size := Nat.lt_of_lt_of_le tg_5 hs6
  clear bg0_5 bg1_5 bg2_5 bg3_5 tg_5
  have Hs_6 := hide (Hs_5.out.touch ht (fun z hz hz2 => by have h1 := Ls.out z hz; have h2 := Lg.out z hz2; omega) (fun hz => by have h2 := Lg.out _ hz; omega) (fun hz => by have h2 := Lg.out _ hz; omega) (fun z hz => by have h2 := Lg.out z hz; omega))
  clear Hs_5
  clear ht
  go_wp2_with fail
  refine (heldMem_any _ _ _ _ _ _ _ (OG_6.out.rd).2 (PG_6.out.rd).2 RG_6.out SG_6.out).mono ?_
  rintro e w7 ⟨rfl, hb⟩
  have hs7 : w6.heap.size ≤ w7.heap.size := hb.size
  have HB7 := hide (HB6.out.trans (hb.mono HB6.out.size))
  have bs0_7 : w7.cell? ⟨w1.heap.size, 0, none⟩ = some (.slice B_s 384 d_s) := (hb.cell ts_6).trans bs0_6
  have bs1_7 : w7.cell? ⟨w1.heap.size, 1, none⟩ = some (.slice C_s 6 e_s) := (hb.cell ts_6).trans bs1_6
  have bs2_7 : w7.cell? ⟨w1.heap.size, 2, none⟩ = some (.slice (some ⟨g_s, 0, none⟩) 3 3) := (hb.cell ts_6).trans bs2_6
  have bs3_7 : w7.cell? ⟨w1.heap.size, 3, none⟩ = some (.slice (some ⟨h_s, 0, none⟩) 9 9) := (hb.cell ts_6).trans bs3_6
  have ts_7 : w1.heap.size < w7.heap.size := Nat.lt_of_lt_of_le ts_6 hs7
  clear bs0_6 bs1_6 bs2_6 bs3_6 ts_6
  have bg0_7 : w7.cell? ⟨w3.heap.size, 0, none⟩ = some (.slice B_g 384 d_g) := (hb.cell tg_6).trans bg0_6
  have bg1_7 : w7.cell? ⟨w3.heap.size, 1, none⟩ = some (.slice C_g 6 e_g) := (hb.cell tg_6).trans bg1_6
  have bg2_7 : w7.cell? ⟨w3.heap.size, 2, none⟩ = some (.slice (some ⟨g_g, 0, none⟩) 3 3) := (hb.cell tg_6).trans bg2_6
  have bg3_7 : w7.cell? ⟨w3.heap.size, 3, none⟩ = some (.slice (some ⟨h_g, 0, none⟩) 9 9) := (hb.cell tg_6).trans bg3_6
  have tg_7 : w3.heap.size < w7.heap.size := Nat.lt_of_lt_of_le tg_6 hs7
  clear bg0_6 bg1_6 bg2_6 bg3_6 tg_6
  have Hs_7 := hide (Hs_6.out.below hb)
  clear Hs_6
  have OG_7 := hide (OG_6.out.below hb)
  have PG_7 := hide (PG_6.out.below hb)
  have RG_7 := hide (rowIs_below RG_6.out hb RG_6.out.lt)
  have SG_7 := hide (rowIs_below SG_6.out hb SG_6.out.lt)
  clear OG_6 PG_6 RG_6 SG_6
  clear hb
  go_wp2_with fail
  refine (implMemNew_any _).mono ?_
  rintro e w8 ⟨B_r, d_r, F_r, C_r, e_r, G_r, g_r, h_r, rfl, hm⟩
  have hb := hm.bel
  have Nr := hide hm
  clear hm
  have hs8 : w7.heap.size ≤ w8.heap.size := hb.size
  have HB8 := hide (HB7.out.trans (hb.mono HB7.out.size))
  have bs0_8 : w8.cell? ⟨w1.heap.size, 0, none⟩ = some (.slice B_s 384 d_s) := (hb.cell ts_7).trans bs0_7
  have bs1_8 : w8.cell? ⟨w1.heap.size, 1, none⟩ = some (.slice C_s 6 e_s) := (hb.cell ts_7).trans bs1_7
  have bs2_8 : w8.cell? ⟨w1.heap.size, 2, none⟩ = some (.slice (some ⟨g_s, 0, none⟩) 3 3) := (hb.cell ts_7).trans bs2_7
  have bs3_8 : w8.cell? ⟨w1.heap.size, 3, none⟩ = some (.slice (some ⟨h_s, 0, none⟩) 9 9) := (hb.cell ts_7).trans bs3_7
  have ts_8 : w1.heap.size < w8.heap.size := Nat.lt_of_lt_of_le ts_7 hs8
  clear bs0_7 bs1_7 bs2_7 bs3_7 ts_7
  have bg0_8 : w8.cell? ⟨w3.heap.size, 0, none⟩ = some (.slice B_g 384 d_g) := (hb.cell tg_7).trans bg0_7
  have bg1_8 : w8.cell? ⟨w3.heap.size, 1, none⟩ = some (.slice C_g 6 e_g) := (hb.cell tg_7).trans bg1_7
  have bg2_8 : w8.cell? ⟨w3.heap.size, 2, none⟩ = some (.slice (some ⟨g_g, 0, none⟩) 3 3) := (hb.cell tg_7).trans bg2_7
  have bg3_8 : w8.cell? ⟨w3.heap.size, 3, none⟩ = some (.slice (some ⟨h_g, 0, none⟩) 9 9) := (hb.cell tg_7).trans bg3_7
  have tg_8 : w3.heap.size < w8.heap.size := Nat.lt_of_lt_of_le tg_7 hs8
  clear bg0_7 bg1_7 bg2_7 bg3_7 tg_7
  have Hs_8 := hide (Hs_7.out.below hb)
  clear Hs_7
  have OG_8 := hide (OG_7.out.below hb)
  have PG_8 := hide (PG_7.out.below hb)
  have RG_8 := hide (rowIs_below RG_7.out hb RG_7.out.lt)
  have SG_8 := hide (rowIs_below SG_7.out hb SG_7.out.lt)
  clear OG_7 PG_7 RG_7 SG_7
  clear hb
  have Hr_8 := Nr
  have Lr : Hid (∀ z, z ∈ F_r ++ G_r → w7.heap.size ≤ z ∧ z < w8.heap.size) := hide (fun z hz => ⟨Nr.out.lo z hz, (List.mem_append.1 hz).elim (Nr.out.own.lt z) (Nr.out.own'.lt z)⟩)
  have lgr : g_r < w8.heap.size ∧ h_r < w8.heap.size := ⟨Nr.out.row.lt, Nr.out.row'.lt⟩
  go_wp2_with fail
  obtain ⟨w9, hW⟩ : ∃ W : World, W = w8.alloc (.cells #[.slice B_r 384 d_r, .slice C_r 6 e_r, .slice (some ⟨g_r, 0, none⟩) 3 3, .slice (some ⟨h_r, 0, none⟩) 9 9] 29) := ⟨_, rfl⟩
  rw [← hW]
  have hb : Below w8.heap.size w8 w9 := by rw [hW]; exact (Below.refl _ _).alloc (Nat.le_refl _) _
  have n0 : w9.cell? ⟨w8.heap.size, 0, none⟩ = some (.slice B_r 384 d_r) := by rw [hW]; go_simp
  have n1 : w9.cell? ⟨w8.heap.size, 1, none⟩ = some (.slice C_r 6 e_r) := by rw [hW]; go_simp
  have n2 : w9.cell? ⟨w8.heap.size, 2, none⟩ = some (.slice (some ⟨g_r, 0, none⟩) 3 3) := by rw [hW]; go_simp
  have n3 : w9.cell? ⟨w8.heap.size, 3, none⟩ = some (.slice (some ⟨h_r, 0, none⟩) 9 9) := by rw [hW]; go_simp
  have nt : w8.heap.size < w9.heap.size := by rw [hW]; simp
  clear hW
  have hs9 : w8.heap.size ≤ w9.heap.size := hb.size
  have HB9 := hide (HB8.out.trans (hb.mono HB8.out.size))
  have bs0_9 : w9.cell? ⟨w1.heap.size, 0, none⟩ = some (.slice B_s 384 d_s) := (hb.cell ts_8).trans bs0_8
  have bs1_9 : w9.cell? ⟨w1.heap.size, 1, none⟩ = some (.slice C_s 6 e_s) := (hb.cell ts_8).trans bs1_8
  have bs2_9 : w9.cell? ⟨w1.heap.size, 2, none⟩ = some (.slice (some ⟨g_s, 0, none⟩) 3 3) := (hb.cell ts_8).trans bs2_8
  have bs3_9 : w9.cell? ⟨w1.heap.size, 3, none⟩ = some (.slice (some ⟨h_s, 0, none⟩) 9 9) := (hb.cell ts_8).trans bs3_8
  have ts_9 : w1.heap.size < w9.heap.size := Nat.lt_of_lt_of_le ts_8 hs9
  clear bs0_8 bs1_8 bs2_8 bs3_8 ts_8
  have bg0_9 : w9.cell? ⟨w3.heap.size, 0, none⟩ = some (.slice B_g 384 d_g) := (hb.cell tg_8).trans bg0_8
  have bg1_9 : w9.cell? ⟨w3.heap.size, 1, none⟩ = some (.slice C_g 6 e_g) := (hb.cell tg_8).trans bg1_8
  have bg2_9 : w9.cell? ⟨w3.heap.size, 2, none⟩ = some (.slice (some ⟨g_g, 0, none⟩) 3 3) := (hb.cell tg_8).trans bg2_8
  have bg3_9 : w9.cell? ⟨w3.heap.size, 3, none⟩ = some (.slice (some ⟨h_g, 0, none⟩) 9 9) := (hb.cell tg_8).trans bg3_8
  have tg_9 : w3.heap.size < w9.heap.size := Nat.lt_of_lt_of_le tg_8 hs9
  clear bg0_8 bg1_8 bg2_8 bg3_8 tg_8
  have Hs_9 := hide (Hs_8.out.below hb)
  clear Hs_8
  have OG_9 := hide (OG_8.out.below hb)
  have PG_9 := hide (PG_8.out.below hb)
  have RG_9 := hide (rowIs_below RG_8.out hb RG_8.out.lt)
  have SG_9 := hide (rowIs_below SG_8.out hb SG_8.out.lt)
  clear OG_8 PG_8 RG_8 SG_8
  have Hr_9 := hide (Hr_8.out.below hb)
  clear Hr_8
  clear hb
  have br0_9 := n0
  have br1_9 := n1
  have br2_9 := n2
  have br3_9 := n3
  have tr_9 := nt
  have ur := nt
  clear n0 n1 n2 n3 nt
  refine (eqMem_same _ _ _ _ _ _ _ _ _ _ _ _ _ (Hr_9.out.own.rd).2 (Hs_9.out.own.rd).2 (Hr_9.out.own'.rd).2 (Hs_9.out.own'.rd).2 (rd_made Hr_9.out.row Hr_9.out.row.lt) (rd_made Hs_9.out.row Hs_9.out.row.lt) (rd_made Hr_9.out.row' Hr_9.out.row'.lt) (rd_made Hs_9.out.row' Hs_9.out.row'.lt)).mono ?_
  rintro e w10 ⟨rfl, hb⟩
  have hs10 : w9.heap.size ≤ w10.heap.size := hb.size
  have HB10 := hide (HB9.out.trans (hb.mono HB9.out.size))
  have bs0_10 : w10.cell? ⟨w1.heap.size, 0, none⟩ = some (.slice B_s 384 d_s) := (hb.cell ts_9).trans bs0_9
  have bs1_10 : w10.cell? ⟨w1.heap.size, 1, none⟩ = some (.slice C_s 6 e_s) := (hb.cell ts_9).trans bs1_9
  have bs2_10 : w10.cell? ⟨w1.heap.size, 2, none⟩ = some (.slice (some ⟨g_s, 0, none⟩) 3 3) := (hb.cell ts_9).trans bs2_9
  have bs3_10 : w10.cell? ⟨w1.heap.size, 3, none⟩ = some (.slice (some ⟨h_s, 0, none⟩) 9 9) := (hb.cell ts_9).trans bs3_9
  have ts_10 : w1.heap.size < w10.heap.size := Nat.lt_of_lt_of_le ts_9 hs10
  clear bs0_9 bs1_9 bs2_9 bs3_9 ts_9
  have bg0_10 : w10.cell? ⟨w3.heap.size, 0, none⟩ = some (.slice B_g 384 d_g) := (hb.cell tg_9).trans bg0_9
  have bg1_10 : w10.cell? ⟨w3.heap.size, 1, none⟩ = some (.slice C_g 6 e_g) := (hb.cell tg_9).trans bg1_9
  have bg2_10 : w10.cell? ⟨w3.heap.size, 2, none⟩ = some (.slice (some ⟨g_g, 0, none⟩) 3 3) := (hb.cell tg_9).trans bg2_9
  have bg3_10 : w10.cell? ⟨w3.heap.size, 3, none⟩ = some (.slice (some ⟨h_g, 0, none⟩) 9 9) := (hb.cell tg_9).trans bg3_9
  have tg_10 : w3.heap.size < w10.heap.size := Nat.lt_of_lt_of_le tg_9 hs10
  clear bg0_9 bg1_9 bg2_9 bg3_9 tg_9
  have br0_10 : w10.cell? ⟨w8.heap.size, 0, none⟩ = some (.slice B_r 384 d_r) := (hb.cell tr_9).trans br0_9
  have br1_10 : w10.cell? ⟨w8.heap.size, 1, none⟩ = some (.slice C_r 6 e_r) := (hb.cell tr_9).trans br1_9
  have br2_10 : w10.cell? ⟨w8.heap.size, 2, none⟩ = some (.slice (some ⟨g_r, 0, none⟩) 3 3) := (hb.cell tr_9).trans br2_9
  have br3_10 : w10.cell? ⟨w8.heap.size, 3, none⟩ = some (.slice (some ⟨h_r, 0, none⟩) 9 9) := (hb.cell tr_9).trans br3_9
  have tr_10 : w8.heap.size < w10.heap.size := Nat.lt_of_lt_of_le tr_9 hs10
  clear br0_9 br1_9 br2_9 br3_9 tr_9
  have Hs_10 := hide (Hs_9.out.below hb)
  clear Hs_9
  have OG_10 := hide (OG_9.out.below hb)
  have PG_10 := hide (PG_9.out.below hb)
  have RG_10 := hide (rowIs_below RG_9.out hb RG_9.out.lt)
  have SG_10 := hide (rowIs_below SG_9.out hb SG_9.out.lt)
  clear OG_9 PG_9 RG_9 SG_9
  have Hr_10 := hide (Hr_9.out.below hb)
  clear Hr_9
  clear hb
  go_wp2_with fail
  refine (heldMem_any _ _ _ _ _ _ _ (OG_10.out.rd).2 (PG_10.out.rd).2 RG_10.out SG_10.out).mono ?_
  rintro e w11 ⟨rfl, hb⟩
  have hs11 : w10.heap.size ≤ w11.heap.size := hb.size
  have HB11 := hide (HB10.out.trans (hb.mono HB10.out.size))
  have bs0_11 : w11.cell? ⟨w1.heap.size, 0, none⟩ = some (.slice B_s 384 d_s) := (hb.cell ts_10).trans bs0_10
  have bs1_11 : w11.cell? ⟨w1.heap.size, 1, none⟩ = some (.slice C_s 6 e_s) := (hb.cell ts_10).trans bs1_10
  have bs2_11 : w11.cell? ⟨w1.heap.size, 2, none⟩ = some (.slice (some ⟨g_s, 0, none⟩) 3 3) := (hb.cell ts_10).trans bs2_10
  have bs3_11 : w11.cell? ⟨w1.heap.size, 3, none⟩ = some (.slice (some ⟨h_s, 0, none⟩) 9 9) := (hb.cell ts_10).trans bs3_10
  have ts_11 : w1.heap.size < w11.heap.size := Nat.lt_of_lt_of_le ts_10 hs11
  clear bs0_10 bs1_10 bs2_10 bs3_10 ts_10
  have bg0_11 : w11.cell? ⟨w3.heap.size, 0, none⟩ = some (.slice B_g 384 d_g) := (hb.cell tg_10).trans bg0_10
  have bg1_11 : w11.cell? ⟨w3.heap.size, 1, none⟩ = some (.slice C_g 6 e_g) := (hb.cell tg_10).trans bg1_10
  have bg2_11 : w11.cell? ⟨w3.heap.size, 2, none⟩ = some (.slice (some ⟨g_g, 0, none⟩) 3 3) := (hb.cell tg_10).trans bg2_10
  have bg3_11 : w11.cell? ⟨w3.heap.size, 3, none⟩ = some (.slice (some ⟨h_g, 0, none⟩) 9 9) := (hb.cell tg_10).trans bg3_10
  have tg_11 : w3.heap.size < w11.heap.size := Nat.lt_of_lt_of_le tg_10 hs11
  clear bg0_10 bg1_10 bg2_10 bg3_10 tg_10
  have br0_11 : w11.cell? ⟨w8.heap.size, 0, none⟩ = some (.slice B_r 384 d_r) := (hb.cell tr_10).trans br0_10
  have br1_11 : w11.cell? ⟨w8.heap.size, 1, none⟩ = some (.slice C_r 6 e_r) := (hb.cell tr_10).trans br1_10
  have br2_11 : w11.cell? ⟨w8.heap.size, 2, none⟩ = some (.slice (some ⟨g_r, 0, none⟩) 3 3) := (hb.cell tr_10).trans br2_10
  have br3_11 : w11.cell? ⟨w8.heap.size, 3, none⟩ = some (.slice (some ⟨h_r, 0, none⟩) 9 9) := (hb.cell tr_10).trans br3_10
  have tr_11 : w8.heap.size < w11.heap.size := Nat.lt_of_lt_of_le tr_10 hs11
  clear br0_10 br1_10 br2_10 br3_10 tr_10
  have Hs_11 := hide (Hs_10.out.below hb)
  clear Hs_10
  have OG_11 := hide (OG_10.out.below hb)
  have PG_11 := hide (PG_10.out.below hb)
  have RG_11 := hide (rowIs_below RG_10.out hb RG_10.out.lt)
  have SG_11 := hide (rowIs_below SG_10.out hb SG_10.out.lt)
  clear OG_10 PG_10 RG_10 SG_10
  have Hr_11 := hide (Hr_10.out.below hb)
  clear Hr_10
  clear hb
  go_wp2
  go_ret
  exact ⟨rfl, HB11.out⟩
end Go.Proofs.Ytpjlbpmlddjddaa
