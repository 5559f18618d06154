/-
  CasNum and Fill: the contracts of the reference and of the program, and the walks of their laws.
-/
import Derived.Test.YtdhocncfpapncaaStoreF
namespace Go.Proofs.Ytdhocncfpapncaa
open Go.RowKit
set_option linter.unusedVariables false

def hitC (zs : List Int) (x y o : Int) : Bool := okL zs x y && decide (loadR zs x y = o)
def okC (zs : List Int) (x y o v : Int) : Bool := hitC zs x y o && okS zs x y v
def casR (zs : List Int) (x y o v : Int) : List Int := if hitC zs x y o then storeR zs x y v else zs
theorem casR_length (zs : List Int) (x y o v : Int) : (casR zs x y o v).length = zs.length := by unfold casR; split <;> simp [storeR_length]

set_option maxRecDepth 100000 in
set_option maxHeartbeats 1600000 in
theorem implCas_any (a : Addr) (n c : Nat) (zs : List Int) (x y o v : Int) (w : World) (hn : n = zs.length) (hz : n ≤ 2097152) (hc : n ≤ c) (hcm : c ≤ maxLen) (ha : RdB .i64 w (some a) zs w.heap.size) (hv0 : -9223372036854775808 ≤ v) (hv : v ≤ 9223372036854775807) :
    Calls Try.prog 11 #[.slice (some a) n c, .int .i64 x, .int .i64 y, .int .i64 o, .int .i64 v] w fun e w' => SlRes w w' e n (casR zs x y o v) (okC zs x y o v) := by
  have HN := hide hn
  have HA := hide ha
  have HL := hide (implLoad_any (some a) n c zs x y w.heap.size w hn hz hc hcm ha (Nat.le_refl _))
  clear hn ha
  go_enter Try.func11, Try.ntmps11
  go_wp2_with fail
  refine HL.out.mono ?_
  rintro e w1 ⟨rfl, hb⟩
  have HB := hide hb
  clear hb HL
  obtain ⟨ld, hld⟩ : ∃ ld, ld = loadR zs x y := ⟨_, rfl⟩
  rw [← hld]
  have HLD := hide hld
  clear hld
  cases h1 : okL zs x y
  · have HX : Hid (hitC zs x y o = false) := hide (by unfold hitC; rw [h1]; rfl)
    clear h1
    go_wp2_with fail
    refine (clone_any a n c zs w1 HN.out hz ((HA.out.below HB.out (Nat.le_refl _)).more HB.out.size)).mono ?_
    rintro e w2 ⟨A', c', F, rfl, ho, hF, hb⟩
    have HO := hide ho
    have HF := hide hF
    have HB2 := hide (HB.out.trans (hb.mono HB.out.size))
    clear ho hF hb
    go_wp2
    go_ret2
    exact ⟨A', c', F, retSl (by unfold okC; rw [HX.out]; rfl), by unfold casR; rw [HX.out]; exact HO.out, fun g hg => by have := HF.out g hg; have := HB.out.size; omega, HB2.out⟩
  have H1 := hide h1
  clear h1
  by_cases h2 : ld = o
  · have hne : (ld != o) = false := by rw [h2]; simp
    have HX : Hid (hitC zs x y o = true) := hide (by unfold hitC; rw [H1.out, ← HLD.out, h2]; simp)
    clear h2
    go_wp2_with fail
    refine (implStore_any a n c zs x y v w1 HN.out hz hc hcm ((HA.out.below HB.out (Nat.le_refl _)).more HB.out.size) hv0 hv).mono ?_
    rintro e w2 ⟨A', c', F, rfl, ho, hF, hb⟩
    have HO := hide ho
    have HF := hide hF
    have HB2 := hide (HB.out.trans (hb.mono HB.out.size))
    clear ho hF hb
    go_wp2
    go_ret2
    exact ⟨A', c', F, retSl (by unfold okC; rw [HX.out]; rfl), by unfold casR; rw [HX.out]; exact HO.out, fun g hg => by have := HF.out g hg; have := HB.out.size; omega, HB2.out⟩
  · have hne : (ld != o) = true := by rw [bne_iff_ne]; exact h2
    have HX : Hid (hitC zs x y o = false) := hide (by unfold hitC; rw [H1.out, ← HLD.out]; simpa using h2)
    clear h2
    go_wp2_with fail
    refine (clone_any a n c zs w1 HN.out hz ((HA.out.below HB.out (Nat.le_refl _)).more HB.out.size)).mono ?_
    rintro e w2 ⟨A', c', F, rfl, ho, hF, hb⟩
    have HO := hide ho
    have HF := hide hF
    have HB2 := hide (HB.out.trans (hb.mono HB.out.size))
    clear ho hF hb
    go_wp2
    go_ret2
    exact ⟨A', c', F, retSl (by unfold okC; rw [HX.out]; rfl), by unfold casR; rw [HX.out]; exact HO.out, fun g hg => by have := HF.out g hg; have := HB.out.size; omega, HB2.out⟩


/-! Fill -/

def okF (zs : List Int) (x y v : Int) : Bool := bokR zs && inR zs.length x y && isB v
def fillR (zs : List Int) (x y v : Int) : List Int := if okF zs x y v then upd zs x.toNat (x.toNat + y.toNat) (fun _ => v) else zs
theorem fillR_length (zs : List Int) (x y v : Int) : (fillR zs x y v).length = zs.length := by unfold fillR; split <;> simp [upd_length]
theorem l1InB_any (v : Int) (w : World) : Calls Try.prog 22 #[.int .i64 v, .int .i64 0, .int .i64 255] w fun e w' => e = .returned (.bool (isB v)) ∧ w = w' := by
  by_cases h : 0 ≤ v ∧ v ≤ 255
  · have HT : isB v = true := by simpa [isB] using h
    rw [HT]
    exact l1In_yes _ _ _ _ h.1 h.2
  · have HT : isB v = false := by simpa [isB] using h
    rw [HT]
    exact l1In_no _ _ _ _ h

end Go.Proofs.Ytdhocncfpapncaa
