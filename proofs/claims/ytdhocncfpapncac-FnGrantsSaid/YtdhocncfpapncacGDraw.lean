/-
  Draws of heaps: l7Heap.
-/
import Derived.Test.YtdhocncfpapncacGDraw0
import Derived.Deep.RegionHeld3
namespace Go.Proofs.Ytdhocncfpapncac
open Go.RowKit
set_option linter.unusedVariables false

/-- The box's two cells and a third one, wherever a round stands. -/
def SC (b cb : Nat) (q : Addr) (u0 u1 : Value) (wr W : World) : Prop := SB b cb u0 u1 wr W ∧ q.block < wr.heap.size ∧ q.block ≠ cb
theorem C3.two {wr W : World} {cb b : Nat} {q : Addr} {u0 u1 u2 : Value} (h : (W.cell? ⟨b, 0, none⟩ = some u0 ∧ W.cell? ⟨b, 1, none⟩ = some u1 ∧ W.cell? q = some u2) ∧ SC b cb q u0 u1 wr W) :
    (W.cell? ⟨b, 0, none⟩ = some u0 ∧ W.cell? ⟨b, 1, none⟩ = some u1) ∧ SB b cb u0 u1 wr W := ⟨⟨h.1.1, h.1.2.1⟩, h.2.1⟩
theorem keepCL {wr W W' : World} {cb b : Nat} {q : Addr} {u0 u1 u2 : Value} (hc : Cur W' cb) (hg : W.grownBy W' (some cb)) (h : (W.cell? ⟨b, 0, none⟩ = some u0 ∧ W.cell? ⟨b, 1, none⟩ = some u1 ∧ W.cell? q = some u2) ∧ SC b cb q u0 u1 wr W) :
    (W'.cell? ⟨b, 0, none⟩ = some u0 ∧ W'.cell? ⟨b, 1, none⟩ = some u1 ∧ W'.cell? q = some u2) ∧ SC b cb q u0 u1 wr W' := by
  have h2 := keepLL hc hg (C3.two h)
  have hq := hg.block q.block (Nat.lt_of_lt_of_le h.2.2.1 (sizeS (C3.two h))) (by have := h.2.2.2; simp; omega)
  exact ⟨⟨h2.1.1, h2.1.2, (World.cell?_of_block hq).trans h.1.2.2⟩, h2.2, h.2.2⟩
theorem keepCB {wr W W' : World} {cb b : Nat} {q : Addr} {u0 u1 u2 : Value} (hB : Below W.heap.size W W') (h : (W.cell? ⟨b, 0, none⟩ = some u0 ∧ W.cell? ⟨b, 1, none⟩ = some u1 ∧ W.cell? q = some u2) ∧ SC b cb q u0 u1 wr W) :
    (W'.cell? ⟨b, 0, none⟩ = some u0 ∧ W'.cell? ⟨b, 1, none⟩ = some u1 ∧ W'.cell? q = some u2) ∧ SC b cb q u0 u1 wr W' := by
  have h2 := keepLB hB (C3.two h)
  have hq := hB.block q.block (Nat.lt_of_lt_of_le h.2.2.1 (sizeS (C3.two h)))
  exact ⟨⟨h2.1.1, h2.1.2, (World.cell?_of_block hq).trans h.1.2.2⟩, h2.2, h.2.2⟩
theorem keepCA {wr W : World} {cb b : Nat} {q : Addr} {u0 u1 u2 : Value} (h : (W.cell? ⟨b, 0, none⟩ = some u0 ∧ W.cell? ⟨b, 1, none⟩ = some u1 ∧ W.cell? q = some u2) ∧ SC b cb q u0 u1 wr W) (o : Obj) :
    ((W.alloc o).cell? ⟨b, 0, none⟩ = some u0 ∧ (W.alloc o).cell? ⟨b, 1, none⟩ = some u1 ∧ (W.alloc o).cell? q = some u2) ∧ SC b cb q u0 u1 wr (W.alloc o) := keepCB ((Below.refl _ _).alloc (Nat.le_refl _) _) h
theorem keepCD {wr W : World} {cb b : Nat} {q : Addr} {u0 u1 u2 : Value} (h : (W.cell? ⟨b, 0, none⟩ = some u0 ∧ W.cell? ⟨b, 1, none⟩ = some u1 ∧ W.cell? q = some u2) ∧ SC b cb q u0 u1 wr W) :
    (W.drew.cell? ⟨b, 0, none⟩ = some u0 ∧ W.drew.cell? ⟨b, 1, none⟩ = some u1 ∧ W.drew.cell? q = some u2) ∧ SC b cb q u0 u1 wr W.drew := keepCB (Below.refl _ _).drew h
theorem keepCS {wr W : World} {cb b : Nat} {q : Addr} {u0 u1 u2 : Value} (h : (W.cell? ⟨b, 0, none⟩ = some u0 ∧ W.cell? ⟨b, 1, none⟩ = some u1 ∧ W.cell? q = some u2) ∧ SC b cb q u0 u1 wr W) {p : Addr} (hp : wr.heap.size ≤ p.block) (u : Value) :
    ((W.setCell p u).cell? ⟨b, 0, none⟩ = some u0 ∧ (W.setCell p u).cell? ⟨b, 1, none⟩ = some u1 ∧ (W.setCell p u).cell? q = some u2) ∧ SC b cb q u0 u1 wr (W.setCell p u) := by
  have h2 := keepLS (C3.two h) hp u
  have hq : (W.setCell p u).heap[q.block]? = W.heap[q.block]? := Below.heap_setCell _ _ _ _ (by have := h.2.2.1; omega)
  exact ⟨⟨h2.1.1, h2.1.2, (World.cell?_of_block hq).trans h.1.2.2⟩, h2.2, h.2.2⟩
theorem GL.s0 {w wr : World} {cb b : Nat} {C D : Option Addr} {k q : Nat} (h : GL w wr cb b C D k q) : (wr.cell? ⟨b, 0, none⟩ = some (.slice C 384 k) ∧ wr.cell? ⟨b, 1, none⟩ = some (.slice D 6 q)) ∧ SB b cb (.slice C 384 k) (.slice D 6 q) wr wr :=
  ⟨⟨h.c0, h.c1⟩, h.f0, h.f1, ⟨h.cur, grown_refl _ _⟩, h.lt, by have := h.hb; have := h.cw; omega, by have := h.lt; have := h.hb; have := h.cw; omega⟩

set_option maxRecDepth 100000 in
set_option maxHeartbeats 6400000 in
theorem l7Heap_any (cb : Nat) (w : World) (hcur : Cur w cb) :
    Calls Try.prog 41 #[.pointer (some ⟨cb, 0, none⟩)] w fun e w' => ∃ v, e = .returned v ∧ HV w' v w.heap.size w'.heap.size ∧ Cur w' cb ∧ w.grownBy w' (some cb) := by
  have HC := hide hcur
  clear hcur
  go_enter Try.func41, Try.ntmps41
  go_wp2_with fail
  obtain ⟨w1, h1⟩ : ∃ W : World, W = w.alloc (.cells #[.slice none 0 0, .slice none 0 0] 26) := ⟨_, rfl⟩
  rw [← h1]
  have H1 := hide h1
  have hc1 : Cur w1 cb := by rw [h1]; exact HC.out.alloc _
  have HC1 := hide hc1
  clear h1 hc1
  refine (specHeapNew_any w1).mono ?_
  rintro e w2 ⟨C, k, F, D, q, F', rfl, hC⟩
  have HV2 := hide (HV.of_copy hC)
  have HB2 := hide hC.2.2.2.2
  clear hC
  go_wp2_with fail
  obtain ⟨w3, h3⟩ : ∃ W : World, W = w2.alloc (.cells #[.slice C 384 k, .slice D 6 q] 26) := ⟨_, rfl⟩
  rw [← h3]
  have HL3 := hide (GL.start H1.out HV2.out (HC1.out.below HB2.out HC1.out.lt) (grown_below HB2.out _) h3 HC.out)
  clear h3
  obtain ⟨b, hb⟩ : ∃ b, b = w2.heap.size := ⟨_, rfl⟩
  rw [← hb] at HL3 ⊢
  clear hb HV2 HB2 H1 HC1
  refine (l1Below_any _ _ _ HL3.out.cur (by omega)).mono ?_
  rintro e w4 ⟨⟨m, rfl, hm⟩, hc, hg⟩
  have hm1 : m ≤ 7 := by omega
  have HL4 := hide (HL3.out.keep ⟨hc, hg⟩)
  clear hc hg hm HL3
  go_wp2
  go_loopg [4] (m + 1) (fun g i wo => ∃ wr : World, wr = wo ∧ ∃ j C D k q, j ≤ 7 ∧ g = j + 1 ∧ i = .int .i64 (j : Int) ∧ GL w wr cb b C D k q)
  case atStart => exact ⟨_, rfl, m, C, D, k, q, hm1, rfl, rfl, HL4.out⟩
  case round =>
    clear HL4
    obtain ⟨wr, rfl, j, C, D, k, q, hj, hg, rfl, hL⟩ := hrel
    have HG := hide hg
    have HL := hide hL
    have x0 := hL.c0
    have x1 := hL.c1
    have x2 := hL.f0
    have x3 := hL.f1
    have x4 := hL.d0
    have x5 := hL.d1
    have x6 := hL.g0
    have x7 := hL.g1
    clear hg hL
    by_cases h0 : 0 < j
    · have hi : (0 : Int) < (j : Int) := by omega
      have HK : Hid (∀ (k2 : Int) (W : World), ((W.cell? ⟨b, 0, none⟩ = some (.slice C 384 k) ∧ W.cell? ⟨b, 1, none⟩ = some (.slice D 6 q)) ∧ SB b cb (.slice C 384 k) (.slice D 6 q) wr W) → Calls Try.prog 59 #[.agg #[.slice C 384 k, .slice D 6 q], .int .i64 k2] W fun e w' => GrantV W w' e) :=
        hide (fun k2 W hS => HL.out.grant k2 W hS.2.2.2.1)
      have H00 := hide HL.out.s0
      have lcb : cb < wr.heap.size := HL.out.cur.lt
      go_wp2_with fail
      go_region_held3 (fun w' => (w'.cell? ⟨b, 0, none⟩ = some (.slice C 384 k) ∧ w'.cell? ⟨b, 1, none⟩ = some (.slice D 6 q)) ∧ SB b cb (.slice C 384 k) (.slice D 6 q) wr w')
        (first
          | exact H00.out
          | exact keepLD H00.out
          | assumption
          | exact keepLA H00.out _
          | exact keepLA (keepLD H00.out) _
          | exact keepLA (by assumption) _
          | exact keepLS (keepLS (by assumption) (NB.ge (by assumption)) _) (NB.ge (by assumption)) _)
        (first
          | (go_at_call 42; (with_reducible refine (l1Below_any cb 3 _ (by first | exact curS H00.out | exact curS (keepLD H00.out) | exact curS (by assumption)) (by omega)).mono ?_); rintro e w' ⟨⟨k3, rfl, hk⟩, hc, hg⟩; have hSk := keepLL hc hg (by first | exact H00.out | exact keepLD H00.out | assumption); (first | (have hX := NB.grown lcb hg (by first | exact NB.new H00.out | exact NB.newD H00.out | exact NB.new (by assumption) | assumption); have y0 := hX.c0; have y1 := hX.c1; have y2 := hX.f0; have y3 := hX.f1) | skip))
          | (go_at_call 59; refine (HK.out _ _ (by assumption)).mono ?_; rintro e w' ⟨C', k', D', q', S, n, cs, rfl, hL', hs', hb'⟩; have hlo := sizeB hb' (by assumption); have hSg := keepLB hb' (by assumption);
              (first | (have hX := NB.below hb' (by first | exact NB.new (by assumption) | assumption); have hN := NE.ofB hlo hSg hL' hs' (by first | exact NB.new (by assumption) | assumption) hX; have y0 := hX.c0; have y1 := hX.c1; have y2 := hX.f0; have y3 := hX.f1) | (have hN := NE.ofA hlo hSg hL' hs'))))
      all_goals
        obtain ⟨X, hXe, hN, hsl⟩ := hN
        rw [← hXe]
        have HN := hide hN
        have HSL := hide hsl
        have z0 := hN.s.1.1
        have z1 := hN.s.1.2
        have z2 := hN.s.2.1
        have z3 := hN.s.2.2.1
        have z4 := hN.e0
        have z5 := hN.e1
        clear hXe hN hsl
        have lcb2 := HL.out.cw
        have lb2 := HL.out.hb
        go_wp2_with fail
        obtain ⟨Y, hY⟩ : ∃ Y : World, Y = (X.setCell ⟨b, 0, none⟩ (.slice C' 384 k')).setCell ⟨b, 1, none⟩ (.slice D' 6 q') := ⟨_, rfl⟩
        have HLY : Hid (GL w Y cb b C' D' k' q') := hide (by obtain ⟨lo, hi', hl, hlo'⟩ := HN.out.l; rw [hY]; exact GL.next HL.out HN.out.s hl hlo')
        have HSY : Hid (SL Y S n cs (b + 1)) := hide (by rw [hY]; exact SL.less (SL.next HSL.out HL.out.lt _ _) HL.out.lt)
        rw [← hY]
        have hn4 : n ≤ 4 := by obtain ⟨sl, G, e1, e2, _⟩ := HSL.out; exact e2
        clear hY HN HSL z0 z1 z2 z3 z4 z5 x0 x1 x2 x3 x4 x5 x6 x7 H00 HK lcb
        go_wp2
        go_loopg [7] (n + 1) (fun g i wo => ∃ wi : World, wi = wo ∧ ∃ (t : Nat) (C : Option Addr) (D : Option Addr) (k q : Nat), t ≤ n ∧ g = n - t + 1 ∧ i = .int .i64 (t : Int) ∧ GL w wi cb b C D k q ∧ SL wi S n cs (b + 1))
        case atStart => exact ⟨_, rfl, 0, C', D', k', q', by omega, by omega, rfl, HLY.out, HSY.out⟩
        case round =>
          clear HLY HSY
          obtain ⟨wi, rfl, t, E, R, ke, qr, ht, hg, rfl, hL, hS⟩ := hrel
          have HG2 := hide hg
          have HI := hide hL
          have HSI := hide hS
          clear hg hL hS
          by_cases h2 : t < n
          · have hi2 : (t : Int) < (n : Int) := by omega
            go_wp2_with fail
            refine (l1Once_any _ _ _ HI.out.cur (by omega)).mono ?_
            rintro e w5 ⟨⟨bb, rfl⟩, hc5, hg5⟩
            have HL5 := hide (HI.out.keep ⟨hc5, hg5⟩)
            have HS5 := hide (HSI.out.grown hg5 (by omega))
            clear hc5 hg5 HI HSI
            cases bb
            · go_wp2
              go_roundg (n - (t + 1) + 1)
              case measure => have := HG2.out; omega
              case rel => exact ⟨_, rfl, t + 1, E, R, ke, qr, by omega, by omega, by go_num, HL5.out, HS5.out⟩
            · obtain ⟨gs, xs, eS, q1, q2, q3⟩ := HS5.out.at h2
              have H0 := hide HL5.out.s0
              have hgc : gs ≠ cb := by have := HL5.out.cur.lt; omega
              have H00 : Hid ((w5.cell? ⟨b, 0, none⟩ = some (.slice E 384 ke) ∧ w5.cell? ⟨b, 1, none⟩ = some (.slice R 6 qr) ∧ w5.cell? ⟨gs, t, none⟩ = some (.int .i64 xs)) ∧ SC b cb ⟨gs, t, none⟩ (.slice E 384 ke) (.slice R 6 qr) w5 w5) := hide ⟨⟨H0.out.1.1, H0.out.1.2, q3⟩, H0.out.2, q2, hgc⟩
              have HK : Hid (∀ (i2 k2 : Int) (W : World), ((W.cell? ⟨b, 0, none⟩ = some (.slice E 384 ke) ∧ W.cell? ⟨b, 1, none⟩ = some (.slice R 6 qr) ∧ W.cell? ⟨gs, t, none⟩ = some (.int .i64 xs)) ∧ SC b cb ⟨gs, t, none⟩ (.slice E 384 ke) (.slice R 6 qr) w5 W) → Calls Try.prog 61 #[.agg #[.slice E 384 ke, .slice R 6 qr], .int .i64 i2, .int .i64 k2] W fun e w' => SetV W w' e) :=
                hide (fun i2 k2 W hS => HL5.out.set i2 k2 W hS.2.1.2.2.1)
              have x0 := H0.out.1.1
              have x1 := H0.out.1.2
              have lcb : cb < w5.heap.size := HL5.out.cur.lt
              have lb : b < w5.heap.size := HL5.out.lt
              have hx0 : (0 : Int) ≤ (t : Int) := by omega
              subst eS
              clear H0
              go_wp2_with fail
              go_region_held3 (fun w' => (w'.cell? ⟨b, 0, none⟩ = some (.slice E 384 ke) ∧ w'.cell? ⟨b, 1, none⟩ = some (.slice R 6 qr) ∧ w'.cell? ⟨gs, t, none⟩ = some (.int .i64 xs)) ∧ SC b cb ⟨gs, t, none⟩ (.slice E 384 ke) (.slice R 6 qr) w5 w')
                (first
                  | exact H00.out
                  | exact keepCD H00.out
                  | assumption
                  | exact keepCA H00.out _
                  | exact keepCA (keepCD H00.out) _
                  | exact keepCA (by assumption) _
                  | exact keepCS (keepCS (by assumption) (NB.ge (by assumption)) _) (NB.ge (by assumption)) _)
                (first
                  | (go_at_call 42; (with_reducible refine (l1Below_any cb 7 _ (by first | exact curS (C3.two H00.out) | exact curS (C3.two (keepCD H00.out)) | exact curS (C3.two (by assumption))) (by omega)).mono ?_); rintro e w' ⟨⟨k3, rfl, hk⟩, hc, hg⟩; have hSk := keepCL hc hg (by first | exact H00.out | exact keepCD H00.out | assumption); (first | (have hX := NB.grown lcb hg (by first | exact NB.new (C3.two H00.out) | exact NB.newD (C3.two H00.out) | exact NB.new (C3.two (by assumption)) | assumption); have y0 := hX.c0; have y1 := hX.c1; have y2 := hX.f0; have y3 := hX.f1) | skip))
                  | (go_at_call 61; refine (HK.out _ _ _ (by assumption)).mono ?_; rintro e w' ⟨C', k', D', q', bb, rfl, hL', hb'⟩; have hlo := sizeB hb' (C3.two (by assumption)); have hSg3 := keepCB hb' (by assumption); have hSg := C3.two hSg3;
                      (first | (have hX := NB.below hb' (by first | exact NB.new (C3.two (by assumption)) | assumption); have hN := ND.ofB hlo hSg hL' (by first | exact NB.new (C3.two (by assumption)) | assumption) hX; have y0 := hX.c0; have y1 := hX.c1; have y2 := hX.f0; have y3 := hX.f1) | (have hN := ND.ofA hlo hSg hL'))))
              all_goals
                obtain ⟨X2, hXe, hN⟩ := hN
                rw [← hXe]
                have HN := hide hN
                have z0 := hN.s.1.1
                have z1 := hN.s.1.2
                have z2 := hN.s.2.1
                have z3 := hN.s.2.2.1
                have z4 := hN.e0
                have z5 := hN.e1
                clear hXe hN
                go_wp2_with fail
                obtain ⟨Y2, hY⟩ : ∃ Y : World, Y = (X2.setCell ⟨b, 0, none⟩ (.slice C' 384 k')).setCell ⟨b, 1, none⟩ (.slice D' 6 q') := ⟨_, rfl⟩
                have HLY : Hid (GL w Y2 cb b C' D' k' q') := hide (by obtain ⟨lo, hi', hl, hlo'⟩ := HN.out.l; rw [hY]; exact GL.next HL5.out HN.out.s hl hlo')
                have HSY : Hid (SL Y2 (some ⟨gs, 0, none⟩) n cs (b + 1)) := hide (by
                  have hs2 := HS5.out.touch (touch_grown (F := [cb]) HN.out.s.2.2.2.1.2 (fun g hg => by simp only [Option.some.injEq] at hg; simp [hg])) (fun g hg => by simp only [List.mem_singleton] at hg; omega)
                  rw [hY]; exact SL.next hs2 (Nat.lt_succ_self _) _ _)
                rw [← hY]
                clear hY HN z0 z1 z2 z3 z4 z5
                go_wp2
                go_roundg (n - (t + 1) + 1)
                case measure => have := HG2.out; omega
                case rel => exact ⟨_, rfl, t + 1, C', D', k', q', by omega, by omega, by go_num, HLY.out, HSY.out⟩
          · have hi2 : ¬ (t : Int) < (n : Int) := by omega
            go_wp2
            go_roundg (j - 1 + 1)
            case measure => have := HG.out; omega
            case rel => exact ⟨_, rfl, j - 1, E, R, ke, qr, by omega, rfl, by go_num, HI.out⟩
    · have hi : ¬ (0 : Int) < (j : Int) := by omega
      go_wp2_with fail
      exact bodyPost_ret (v := .agg #[.slice C 384 k, .slice D 6 q]) (by simp [results, Try.results41, go_sem, x4, x5]) rfl ⟨_, rfl, HL.out.fin⟩
end Go.Proofs.Ytdhocncfpapncac
