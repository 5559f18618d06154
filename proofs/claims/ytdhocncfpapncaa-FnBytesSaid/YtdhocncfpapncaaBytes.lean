/-
  The law FnBytes: its walk.
-/
import Derived.Test.YtdhocncfpapncaaBPlain
import Derived.Test.YtdhocncfpapncaaBDraw
import Derived.Test.YtdhocncfpapncaaSameI
namespace Go.Proofs.Ytdhocncfpapncaa
open Go.RowKit
set_option linter.unusedVariables false

theorem own_cap {E : TypeId} {w : World} {A : Option Addr} {n c : Nat} {xs : List Value} {F : List Nat} (h : Own E w (.slice A n c) xs F) : n ≤ c ∧ c ≤ maxLen := by
  obtain ⟨A', c', e, hc, h⟩ := h
  injection e with e1 e2 e3
  subst e1 e2 e3
  rcases h with ⟨h0, h, _⟩ | ⟨_, _, _, _, _, _, h, _⟩
  · rw [h0]; exact ⟨Nat.zero_le _, hc⟩
  · exact ⟨h, hc⟩
/-- A row of numbers that can be read. -/
structure RS (w : World) (A : Option Addr) (n c : Nat) (zs : List Int) : Prop where
  en : n = zs.length
  hc : n ≤ c
  hm : c ≤ maxLen
  hr : RdB .i64 w A zs w.heap.size
theorem RS.below {w w' : World} {A : Option Addr} {n c : Nat} {zs : List Int} (h : RS w A n c zs) (hb : Below w.heap.size w w') : RS w' A n c zs := ⟨h.en, h.hc, h.hm, (h.hr.below hb (Nat.le_refl _)).more hb.size⟩
theorem SlRes.rs {w w' : World} {e : Ending} {n : Nat} {R : List Int} {b : Bool} (h : SlRes w w' e n R b) : ∃ A c, e = .returned (.tuple #[.slice A n c, .bool b]) ∧ RS w' A n c R ∧ Below w.heap.size w w' := by
  obtain ⟨A, c, F, e, ho, _, hb⟩ := h
  have hr := ho.rd
  have hc := own_cap ho
  exact ⟨A, c, e, ⟨hr.1, hc.1, hc.2, hr.2⟩, hb⟩
set_option maxRecDepth 100000 in
set_option maxHeartbeats 3200000 in
theorem fnBytes_core (A : Option Addr) (n c : Nat) (zs0 : List Int) (w : World) (hn : n = zs0.length) (hz : n ≤ 1048576) (hr : RdB .u8 w A zs0 w.heap.size) :
    Calls Try.prog 3 #[.slice A n c] w fun e w' => e = .returned (.bool true) ∧ Below w.heap.size w w' := by
  have HN := hide hn
  have hzi : ¬ (1048576 : Int) < (n : Int) := by omega
  have HZ := hide hz
  have HR := hide hr
  clear hn hr hz
  go_enter Try.func3, Try.ntmps3
  go_wp2_with (first | (go_at_call 4; go_in))
  refine (drawStore_any A n c zs0 w HN.out (by have := HZ.out; omega) HR.out).mono ?_
  rintro e w1 ⟨g, cap, zs, n0, x, y, v, rfl, i1, i2, i3, i4, i5, i6, i7, hb1⟩
  have B1 := hide (RS.mk (w := w1) i1 i3 i4 i5)
  have HB1 := hide hb1
  clear i1 i3 i4 i5 hb1 HN HZ HR hzi
  go_wp2_with fail
  refine (implStore_any ⟨g, 0, none⟩ n0 cap zs x y v w1 B1.out.en (by omega) B1.out.hc B1.out.hm B1.out.hr (by omega) (by omega)).mono ?_
  rintro e w2 h
  obtain ⟨A2, c2, rfl, hR, hb⟩ := h.rs
  have B2 := hide (B1.out.below hb)
  have R2 := hide hR
  have HB2 := hide (HB1.out.trans (hb.mono HB1.out.size))
  clear hR hb h B1 HB1
  cases hk : okS zs x y v
  · have hs : storeR zs x y v = zs := by unfold storeR; rw [hk]; rfl
    rw [hs] at R2
    have HK := hide (And.intro hk hs)
    clear hk hs
    go_wp2_with fail
    refine (specStore_any _ n0 cap zs x y v w2 B2.out.en (by omega) B2.out.hr (by omega)).mono ?_
    rintro e w3 h
    obtain ⟨A3, c3, rfl, hR, hb⟩ := h.rs
    rw [HK.out.1]
    have B3 := hide (B2.out.below hb)
    have R3 := hide (R2.out.below hb)
    have HB3 := hide (HB2.out.trans (hb.mono HB2.out.size))
    clear hR hb h B2 R2 HB2
    go_wp2_with fail
    refine (sameInts_any A2 _ n0 n0 c2 cap zs zs w3.heap.size w3 R3.out.en B3.out.en (by omega) (by omega) R3.out.hr B3.out.hr).mono ?_
    rintro e w4 ⟨rfl, hb⟩
    rw [show decide (zs = zs) = true from decide_eq_true rfl]
    have HB4 := hide (HB3.out.trans (hb.mono HB3.out.size))
    clear hb
    go_wp2
    go_ret
    exact ⟨rfl, HB4.out⟩
  · obtain ⟨i, m, N, hos⟩ := okS_os hk
    have HO := hide hos
    have HK := hide hk
    obtain rfl := hos.ex
    obtain rfl := hos.ey
    obtain rfl := hos.ev
    have hld := hos.load hk
    have hm7 := hos.h7
    have him := hos.hm
    rw [← B2.out.en] at him
    have HL := hide hld
    obtain ⟨R, hRe⟩ : ∃ R, R = storeR zs (i : Int) (m : Int) (N : Int) := ⟨_, rfl⟩
    rw [← hRe] at R2 HL
    have HRE := hide hRe
    clear hos hk hld hRe
    go_wp2_with fail
    refine (implLoad_any A2 n0 c2 R (i : Int) (m : Int) w2.heap.size w2 R2.out.en (by omega) R2.out.hc R2.out.hm R2.out.hr (Nat.le_refl _)).mono ?_
    rintro e w3 ⟨rfl, hb⟩
    rw [HL.out.1, HL.out.2]
    have B3 := hide (B2.out.below hb)
    have R3 := hide (R2.out.below hb)
    have HB3 := hide (HB2.out.trans (hb.mono HB2.out.size))
    have hw : IntKind.i64.wrap ((i : Int) + (m : Int)) = (i : Int) + (m : Int) := IntWalk.i64_in _ (by omega)
    clear hb B2 R2 HB2 HL
    go_wp2
    go_loopg [13] (n0 + 1) (fun gk i wr => ∃ k : Nat, k ≤ n0 ∧ gk = n0 + 1 - k ∧ i = .int .i64 k ∧ ∃ nd, wr = w3.drewN nd)
    case atStart => exact ⟨0, Nat.zero_le _, rfl, rfl, 0, rfl⟩
    case round =>
      obtain ⟨k, hk, hg, rfl, nd, rfl⟩ := hrel
      have HG := hide hg
      clear hg
      by_cases hlt : k < n0
      · obtain ⟨b, off, e1, hb, hc⟩ := B3.out.hr k (by have := B3.out.en; omega)
        obtain ⟨b2, off2, rfl, hb2, hc2⟩ := R3.out.hr k (by have := R3.out.en; omega)
        simp only [Option.some.injEq, Addr.mk.injEq, and_true] at e1
        obtain ⟨rfl, rfl⟩ := e1
        rw [Nat.zero_add] at hc
        have hi : (k : Int) < (n0 : Int) := by omega
        obtain ⟨p, hp⟩ : ∃ p, p = zs.getD k 0 := ⟨_, rfl⟩
        obtain ⟨q, hq⟩ : ∃ q, q = R.getD k 0 := ⟨_, rfl⟩
        rw [← hp] at hc
        rw [← hq] at hc2
        have HP := hide hp
        have HQ := hide hq
        have hko : k < zs.length := by have := B3.out.en; omega
        clear hp hq hb hb2
        by_cases h1 : k < i
        · have d1 : decide ((k : Int) < (i : Int)) = true := decide_eq_true (by omega)
          have d1' : (k : Int) < (i : Int) := by omega
          have hpq : (q != p) = false := by
            rw [HP.out, HQ.out, HRE.out, HO.out.out HK.out hko (by omega)]; simp
          clear hko h1
          go_wp2_with fail
          go_quiet (fail)
          go_wp2_with fail
          go_roundg (n0 + 1 - (k + 1))
          case measure => have := HG.out; omega
          case rel => exact ⟨k + 1, by omega, rfl, by go_num, ⟨_, rfl⟩⟩
        · have d1 : decide ((k : Int) < (i : Int)) = false := decide_eq_false (by omega)
          have d1' : ¬ (k : Int) < (i : Int) := by omega
          have d1n : decide (k < i) = false := decide_eq_false h1
          by_cases h2 : i + m ≤ k
          · have d2 : decide ((i : Int) + (m : Int) ≤ (k : Int)) = true := decide_eq_true (by omega)
            have d2' : (i : Int) + (m : Int) ≤ (k : Int) := by omega
            have d2n : decide (i + m ≤ k) = true := decide_eq_true h2
            have hpq : (q != p) = false := by
              rw [HP.out, HQ.out, HRE.out, HO.out.out HK.out hko (by omega)]; simp
            clear hko
            go_wp2_with fail
            go_quiet (fail)
            go_wp2_with fail
            go_roundg (n0 + 1 - (k + 1))
            case measure => have := HG.out; omega
            case rel => exact ⟨k + 1, by omega, rfl, by go_num, ⟨_, rfl⟩⟩
          · have d2 : decide ((i : Int) + (m : Int) ≤ (k : Int)) = false := decide_eq_false (by omega)
            have d2' : ¬ (i : Int) + (m : Int) ≤ (k : Int) := by omega
            have d2n : decide (i + m ≤ k) = false := decide_eq_false h2
            clear hko
            go_wp2_with fail
            go_quiet (fail)
            go_wp2_with fail
            go_roundg (n0 + 1 - (k + 1))
            case measure => have := HG.out; omega
            case rel => exact ⟨k + 1, by omega, rfl, by go_num, ⟨_, rfl⟩⟩
      · have hi : ¬ (k : Int) < (n0 : Int) := by omega
        obtain ⟨w4, h4⟩ : ∃ W : World, W = w3.drewN nd := ⟨_, rfl⟩
        rw [← h4]
        have hb : Below w3.heap.size w3 w4 := by rw [h4]; exact ⟨rfl, rfl, rfl, Nat.le_refl _, fun _ _ => rfl⟩
        have B4 := hide (B3.out.below hb)
        have R4 := hide (R3.out.below hb)
        have HB4 := hide (HB3.out.trans (hb.mono HB3.out.size))
        have hlb := HO.out.lb
        obtain ⟨o, ho⟩ : ∃ o, o = loadR zs (i : Int) (m : Int) := ⟨_, rfl⟩
        rw [← ho] at hlb
        have hcas := HO.out.cas HK.out
        rw [← ho, ← HRE.out] at hcas
        have HCAS := hide hcas
        have HOE := hide ho
        have hw2 : IntKind.i64.wrap (o + 1) = o + 1 := IntWalk.i64_in _ (by omega)
        clear hb h4 B3 R3 HB3 hlb hcas ho
        go_wp2_with fail
        refine (specLoad_any _ n0 cap zs (i : Int) (m : Int) w4.heap.size w4 B4.out.en (by omega) B4.out.hc B4.out.hm B4.out.hr (Nat.le_refl _)).mono ?_
        rintro e w5 ⟨rfl, hb⟩
        rw [← HOE.out]
        have B5 := hide (B4.out.below hb)
        have R5 := hide (R4.out.below hb)
        have HB5 := hide (HB4.out.trans (hb.mono HB4.out.size))
        clear hb B4 R4 HB4
        go_wp2_with fail
        refine (implCas_any ⟨g, 0, none⟩ n0 cap zs (i : Int) (m : Int) o (N : Int) w5 B5.out.en (by omega) B5.out.hc B5.out.hm B5.out.hr (by omega) (by omega)).mono ?_
        rintro e w6 h
        obtain ⟨A6, c6, rfl, hR, hb⟩ := h.rs
        rw [HCAS.out.1] at hR
        rw [HCAS.out.2.1]
        have Y6 := hide hR
        have B6 := hide (B5.out.below hb)
        have R6 := hide (R5.out.below hb)
        have HB6 := hide (HB5.out.trans (hb.mono HB5.out.size))
        clear hb B5 R5 HB5 hR h
        go_wp2_with fail
        refine (implCas_any ⟨g, 0, none⟩ n0 cap zs (i : Int) (m : Int) (o + 1) (N : Int) w6 B6.out.en (by omega) B6.out.hc B6.out.hm B6.out.hr (by omega) (by omega)).mono ?_
        rintro e w7 h
        obtain ⟨A7, c7, rfl, hR, hb⟩ := h.rs
        rw [HCAS.out.2.2.1] at hR
        rw [HCAS.out.2.2.2]
        have Z7 := hide hR
        have Y7 := hide (Y6.out.below hb)
        have B7 := hide (B6.out.below hb)
        have R7 := hide (R6.out.below hb)
        have HB7 := hide (HB6.out.trans (hb.mono HB6.out.size))
        clear hb B6 R6 HB6 hR h Y6
        go_wp2_with fail
        refine (sameInts_any A6 A2 n0 n0 c6 c2 R R w7.heap.size w7 Y7.out.en R7.out.en (by omega) (by omega) Y7.out.hr R7.out.hr).mono ?_
        rintro e w8 ⟨rfl, hb⟩
        rw [show decide (R = R) = true from decide_eq_true rfl]
        have Z8 := hide (Z7.out.below hb)
        have B8 := hide (B7.out.below hb)
        have HB8 := hide (HB7.out.trans (hb.mono HB7.out.size))
        clear hb B7 R7 HB7 Y7 Z7
        go_wp2_with fail
        refine (sameInts_any A7 _ n0 n0 c7 cap zs zs w8.heap.size w8 Z8.out.en B8.out.en (by omega) (by omega) Z8.out.hr B8.out.hr).mono ?_
        rintro e w9 ⟨rfl, hb⟩
        rw [show decide (zs = zs) = true from decide_eq_true rfl]
        have HB9 := hide (HB8.out.trans (hb.mono HB8.out.size))
        clear hb
        go_wp2_with fail
        go_ret
        exact ⟨rfl, HB9.out⟩
set_option maxRecDepth 100000 in
theorem fnBytes_walk (A : Option Addr) (n c : Nat) (zs : List Int) (w : World) (h : Sl .u8 w A n c zs) : Calls Try.prog 3 #[.slice A n c] w fun e w' => e = .returned (.bool true) ∧ Below w.heap.size w w' := by
  obtain ⟨hn, _, hm, hr, hwf⟩ := h
  by_cases hz : n ≤ 1048576
  · exact fnBytes_core A n c zs w hn hz hr
  · have hz1 : (1048576 : Int) < (n : Int) := by omega
    clear hn hr hz hwf
    go_enter Try.func3, Try.ntmps3
    go_wp2
    go_ret
    exact ⟨rfl, Below.refl _ _⟩
end Go.Proofs.Ytdhocncfpapncaa
