/-
  Marks over lists that a function has made: markSListS, markLists; and whether they stand: heldSListS, heldLists.
-/
import Derived.Test.YtafhfikcpgjnaaaOwnM
namespace Go.Proofs.Ytafhfikcpgjnaaa
open Go.RowKit
set_option linter.unusedVariables false

def rg (lo hi : Nat) : List Nat := List.range' lo (hi - lo)
theorem mem_rg {lo hi g : Nat} : g ∈ rg lo hi ↔ lo ≤ g ∧ g < hi := by unfold rg; rw [List.mem_range'_1]; omega
/-- The first i rows marked from k on. -/
def mkL (z : List (List Int)) (k : Int) (i : Nat) : List (List Int) := (List.range z.length).map (fun j => if j < i then marks (k + sumL z j) (z.getD j []).length else z.getD j [])
theorem mkL_length (z : List (List Int)) (k : Int) (i : Nat) : (mkL z k i).length = z.length := by simp [mkL]
theorem mkL_at (z : List (List Int)) (k : Int) (i : Nat) {j : Nat} (hj : j < z.length) : (mkL z k i).getD j [] = if j < i then marks (k + sumL z j) (z.getD j []).length else z.getD j [] := by
  simp [mkL, List.getD, hj]
theorem mkL_zero (z : List (List Int)) (k : Int) : mkL z k 0 = z := by
  apply List.ext_getElem
  · exact mkL_length z k 0
  · intro j h1 h2
    have := mkL_at z k 0 h2
    rw [if_neg (by omega)] at this
    simpa [List.getD, h1, h2] using this
theorem mkL_len (z : List (List Int)) (k : Int) (i : Nat) {j : Nat} (hj : j < z.length) : ((mkL z k i).getD j []).length = (z.getD j []).length := by
  rw [mkL_at z k i hj]
  split
  · exact marks_length _ _
  · rfl
theorem mkL_sum (z : List (List Int)) (k : Int) (i : Nat) : ∀ m, m ≤ z.length → sumL (mkL z k i) m = sumL z m := by
  intro m
  induction m with
  | zero => intro _; rfl
  | succ m ih =>
    intro hm
    simp only [sumL]
    rw [ih (by omega), mkL_len z k i (by omega)]
theorem OwnU.mark {w w' : World} {v : Value} {us : List Value} {z z' : List (List Int)} {lo hi i : Nat} {F : List Nat} {zs : List Int} (h : OwnU false w v us z lo hi) (hi' : i < z.length) (hF : ∀ g, g ∈ F ↔ (us.getD i undef).ownBlock = some g) (ht : Touch F w w')
    (ho : Own 3 w' (us.getD i undef) (ints zs) F) (hl : z'.length = z.length) (hzi : z'.getD i [] = zs) (hzn : ∀ j, j < z.length → j ≠ i → z'.getD j [] = z.getD j []) : OwnU false w' v us z' lo hi := by
  refine ⟨h.out.touch ht fun g hg hm => (h.rows.ins i hi' g ((hF g).1 hm)).2.2 hg, h.ob, ⟨by rw [hl]; exact h.rows.len, fun j hj => ?_, fun j hj b hb => h.rows.ins j (by omega) b hb, fun a b ha hb hne c hc => h.rows.dis a b (by omega) (by omega) hne c hc⟩⟩
  by_cases e : j = i
  · subst e
    rw [hzi]
    exact Sr.of_own ho fun g hg => (hF g).2 hg
  · rw [hzn j (by omega) e]
    exact (h.rows.el j (by omega)).touch ht fun g hg hm => h.rows.dis i j hi' (by omega) (fun e' => e e'.symm) g ((hF g).1 hm) hg
set_option maxRecDepth 100000 in
set_option maxHeartbeats 1600000 in
theorem markSListS_any (A : Option Addr) (n c : Nat) (z : List (List Int)) (lo hi : Nat) (k : Int) (w : World) (h : OwnM false w (.slice A n c) z lo hi) (hm : n ≤ 1048576) (h0 : 0 ≤ k) (h1 : k + sumL z n ≤ 2097152) :
    Calls Try.prog 33 #[.slice A n c, .int .i64 k] w fun e w' => e = .returned (.int .i64 (k + sumL z n)) ∧ OwnM false w' (.slice A n c) (mkL z k n) lo hi ∧ Touch (rg lo hi) w w' := by
  obtain ⟨hn, hnc, hc, -⟩ := h.rd
  have HN := hide hn
  have H0 : Hid (OwnM false w (.slice A n c) (mkL z k 0) lo hi) := hide (by rw [mkL_zero]; exact h)
  have q1 : (n : Int) ≤ 1048576 := by omega
  clear hn hc h
  go_enter Try.func33, Try.ntmps33
  go_wp2
  go_loopg [1, 5] (n + 1) (fun g kk i wo => ∃ wr : World, wr = wo ∧ ∃ j : Nat, j ≤ n ∧ g = n + 1 - j ∧ i = .int .i64 j ∧ kk = .int .i64 (k + sumL z j) ∧ OwnM false wr (.slice A n c) (mkL z k j) lo hi ∧ Touch (rg lo hi) w wr)
  case atStart => exact ⟨_, rfl, 0, Nat.zero_le _, rfl, rfl, by simp [sumL], H0.out, Touch.refl _ _⟩
  case round =>
    obtain ⟨wr, rfl, j, hj, hg, rfl, rfl, hM, hT⟩ := hrel
    have HG := hide hg
    have HT := hide hT
    clear hg hT H0
    by_cases hlt : j < n
    · have hi' : (j : Int) < (n : Int) := by omega
      obtain ⟨us, hU⟩ := hM
      have hjz : j < (mkL z k j).length := by rw [mkL_length]; have := HN.out; omega
      obtain ⟨g, A2, n2, c2, rfl, hg1, hg2, hgl, he, hcell, -, hn2, hc2, hcm2, -⟩ := hU.cell hjz
      obtain ⟨F, hO, hF⟩ := (hU.rows.el j hjz).own
      rw [he] at hO
      have hlz : n2 = (z.getD j []).length := by rw [hn2, mkL_len z k j (by have := HN.out; omega)]
      have hs1 : sumL z (j + 1) ≤ sumL z n := sumL_le z (by omega)
      simp only [sumL] at hs1
      obtain ⟨s, es⟩ : ∃ s : Int, s = k + sumL z j := ⟨_, rfl⟩
      have hs0 : 0 ≤ s := by omega
      have hs2 : s + n2 ≤ 2097152 := by omega
      have HE := hide he
      have HU := hide hU
      have HO := hide hO
      have HF := hide hF
      have HLZ := hide hlz
      have HES := hide es
      have HJZ := hide hjz
      rw [← es]
      have hjc : j < c := by omega
      clear hU hO hF hlz hn2 es hs1 hjz he
      go_wp2_with fail
      refine (markIntS_any A2 n2 c2 _ F s _ HO.out (by omega) hs0 (by omega)).mono ?_
      rintro e w1 ⟨rfl, ho, ht⟩
      have HM : Hid (OwnM false w1 (.slice (some ⟨g, 0, none⟩) n c) (mkL z k (j + 1)) lo hi) := hide ⟨us, HU.out.mark HJZ.out HF.out ht (by rw [HE.out]; exact ho) (by rw [mkL_length, mkL_length])
        (by rw [mkL_at z k (j + 1) (by have := HN.out; omega), if_pos (by omega), ← HES.out, ← HLZ.out]) (fun i hi hne => by
          rw [mkL_length] at hi
          rw [mkL_at z k (j + 1) hi, mkL_at z k j hi]
          by_cases e : i < j
          · rw [if_pos e, if_pos (by omega)]
          · rw [if_neg e, if_neg (by omega)])⟩
      have HT1 := hide (HT.out.trans (ht.mono (G := rg lo hi) (fun g' hg' => by
        rw [mem_rg]
        have := HU.out.rows.ins j HJZ.out g' ((HF.out g').1 hg')
        exact ⟨this.1, this.2.1⟩)))
      have HS1 : Hid (s + (n2 : Int) = k + sumL z (j + 1)) := hide (by rw [HES.out, HLZ.out]; simp only [sumL]; omega)
      clear ho ht hcell
      go_wp2
      go_roundg (n + 1 - (j + 1))
      case measure => have := HG.out; omega
      case rel => exact ⟨_, rfl, j + 1, by omega, rfl, by go_num, by rw [HS1.out], HM.out, HT1.out⟩
    · have hi' : ¬ (j : Int) < (n : Int) := by omega
      obtain rfl : j = n := by omega
      have HM := hide hM
      clear hM
      go_wp2
      go_ret
      exact ⟨rfl, HM.out, HT.out⟩
set_option maxRecDepth 100000 in
set_option maxHeartbeats 1600000 in
theorem heldSListS_any (A : Option Addr) (n c : Nat) (z : List (List Int)) (k : Int) (U : Nat) (w : World) (hn : n = z.length) (hm : n ≤ 1048576) (h : RdM w A (mkL z k n) U) (hc : n ≤ c) (h0 : 0 ≤ k) (h1 : k + sumL z n ≤ 2097152) :
    Calls Try.prog 34 #[.slice A n c, .int .i64 k] w fun e w' => e = .returned (.int .i64 (k + sumL z n)) ∧ w = w' := by
  have HN := hide hn
  have HA := hide h
  have q1 : (n : Int) ≤ 1048576 := by omega
  clear hn h
  go_enter Try.func34, Try.ntmps34
  go_wp2
  go_loopg [1, 5] (n + 1) (fun g kk i wr => wr = w ∧ ∃ j : Nat, j ≤ n ∧ g = n + 1 - j ∧ i = .int .i64 j ∧ kk = .int .i64 (k + sumL z j))
  case atStart => exact ⟨rfl, 0, Nat.zero_le _, rfl, rfl, by simp [sumL]⟩
  case round =>
    obtain ⟨rfl, j, hj, hg, rfl, rfl⟩ := hrel
    have HG := hide hg
    clear hg
    by_cases hlt : j < n
    · have hi' : (j : Int) < (n : Int) := by omega
      obtain ⟨b, off, A2, n2, c2, rfl, hb, hcell, hn2, hc2, hcm2, hrd⟩ := HA.out j (by rw [mkL_length]; have := HN.out; omega)
      rw [mkL_at z k n (by have := HN.out; omega), if_pos (by omega)] at hn2 hrd
      rw [marks_length] at hn2
      have hs1 : sumL z (j + 1) ≤ sumL z n := sumL_le z (by omega)
      simp only [sumL] at hs1
      obtain ⟨s, es⟩ : ∃ s : Int, s = k + sumL z j := ⟨_, rfl⟩
      have hs0 : 0 ≤ s := by omega
      have hs2 : s + n2 ≤ 2097152 := by omega
      have hs3 : ¬ s + (n2 : Int) < 0 := by omega
      rw [← es] at hrd
      rw [← hn2] at hrd
      have HS1 : Hid (s + (n2 : Int) = k + sumL z (j + 1)) := hide (by rw [es, hn2]; simp only [sumL]; omega)
      have HRD := hide hrd
      rw [← es]
      have hjc : j < c := by omega
      clear hn2 hrd es hs1
      go_wp2_with fail
      refine (heldIntS_same A2 n2 c2 s U _ HRD.out (by omega) hs0 (by omega)).mono ?_
      rintro e w1 ⟨rfl, rfl⟩
      go_wp2
      go_roundg (n + 1 - (j + 1))
      case measure => have := HG.out; omega
      case rel => exact ⟨rfl, j + 1, by omega, rfl, by go_num, by rw [HS1.out]⟩
    · have hi' : ¬ (j : Int) < (n : Int) := by omega
      obtain rfl : j = n := by omega
      go_wp2
      go_ret
      exact ⟨rfl, rfl⟩
set_option maxRecDepth 100000 in
set_option maxHeartbeats 1600000 in
theorem markLists_any (A B : Option Addr) (n c m d : Nat) (z y : List (List Int)) (a b p q : Nat) (k : Int) (w : World) (h : OwnM false w (.slice A n c) z a b) (h' : OwnM false w (.slice B m d) y p q) (hd : b ≤ p ∨ q ≤ a) (hbw : b ≤ w.heap.size) (hqw : q ≤ w.heap.size) (hm : n + m ≤ 1048576) (h0 : 0 ≤ k) (h1 : k + sumL z n + sumL y m ≤ 2097152) :
    Calls Try.prog 14 #[.agg #[.slice A n c, .slice B m d], .int .i64 k] w fun e w' => e = .returned (.int .i64 (k + sumL z n + sumL y m)) ∧ OwnM false w' (.slice A n c) (mkL z k n) a b ∧ OwnM false w' (.slice B m d) (mkL y (k + sumL z n) m) p q ∧ Touch (rg a b ++ rg p q) w w' := by
  have hb0 : Below w.heap.size w (w.alloc (.cells #[.slice A n c, .slice B m d] 24)) := (Below.refl _ _).alloc (Nat.le_refl _) _
  have H := hide h
  have H' := hide h'
  have HD := hide hd
  clear h h' hd
  obtain ⟨s, es⟩ : ∃ s : Int, s = k + sumL z n := ⟨_, rfl⟩
  have hs : 0 ≤ s := by omega
  have hs1 : s + sumL y m ≤ 2097152 := by omega
  have HE := hide es
  clear es
  rw [← HE.out]
  go_enter Try.func14, Try.ntmps14
  go_wp2_with fail
  obtain ⟨w1, hW⟩ : ∃ W : World, W = w.alloc (.cells #[.slice A n c, .slice B m d] 24) := ⟨_, rfl⟩
  rw [← hW] at hb0 ⊢
  have b1 : w1.cell? ⟨w.heap.size, 1, none⟩ = some (.slice B m d) := by rw [hW]; go_simp
  have t1 : w.heap.size < w1.heap.size := by rw [hW]; simp
  have HB0 := hide hb0
  clear hW hb0
  refine (markSListS_any A n c z a b k w1 (H.out.below HB0.out) (by omega) h0 (by omega)).mono ?_
  rintro e w2 ⟨rfl, ho, ht⟩
  have HAB : Hid (∀ g, g ∈ rg a b → ¬ (p ≤ g ∧ g < q)) := hide (fun g hg => by rw [mem_rg] at hg; have := HD.out; omega)
  have hO2 := (H'.out.below HB0.out).touch ht HAB.out
  have k1 : w2.cell? ⟨w.heap.size, 1, none⟩ = some (.slice B m d) := by rw [World.cell?_of_block (w := w1) (ht.block _ t1 (by rw [mem_rg]; show ¬ (a ≤ w.heap.size ∧ w.heap.size < b); omega))]; exact b1
  have HO := hide ho
  have HO2 := hide hO2
  have HT0 : Hid (Touch (rg a b ++ rg p q) w w2) := hide ((Touch.of_below HB0.out).trans (ht.mono (fun g hg => List.mem_append_left _ hg)))
  clear ho hO2 ht b1
  rw [← HE.out]
  go_wp2_with fail
  refine (markSListS_any B m d y p q s w2 HO2.out (by omega) hs hs1).mono ?_
  rintro e w3 ⟨rfl, ho, ht⟩
  have HR2 := hide ho
  have HR1 := hide (HO.out.touch ht (fun g hg => by rw [mem_rg] at hg; have := HD.out; omega))
  have HT1 := hide (HT0.out.trans (ht.mono (fun g hg => List.mem_append_right _ hg)))
  clear ho ht
  go_wp2
  go_ret
  exact ⟨rfl, HR1.out, HR2.out, HT1.out⟩
set_option maxRecDepth 100000 in
set_option maxHeartbeats 1600000 in
theorem heldLists_any (A B : Option Addr) (n c m d : Nat) (z y : List (List Int)) (k : Int) (w : World) (hn : n = z.length) (hn' : m = y.length) (hc : n ≤ c) (hc' : m ≤ d) (h : RdM w A (mkL z k n) w.heap.size) (h' : RdM w B (mkL y (k + sumL z n) m) w.heap.size) (hm : n + m ≤ 1048576) (h0 : 0 ≤ k) (h1 : k + sumL z n + sumL y m ≤ 2097152) :
    Calls Try.prog 15 #[.agg #[.slice A n c, .slice B m d], .int .i64 k] w fun e w' => e = .returned (.int .i64 (k + sumL z n + sumL y m)) ∧ Below w.heap.size w w' := by
  have hb0 : Below w.heap.size w (w.alloc (.cells #[.slice A n c, .slice B m d] 24)) := (Below.refl _ _).alloc (Nat.le_refl _) _
  have H1 := hide (rdM_at h hb0)
  have HN := hide hn
  have HN' := hide hn'
  obtain ⟨s, es⟩ : ∃ s : Int, s = k + sumL z n := ⟨_, rfl⟩
  rw [← es] at h' h1
  have H2 := hide (rdM_at h' hb0)
  have hs : 0 ≤ s := by omega
  have hs0 : ¬ s < 0 := by omega
  have hs2 : ¬ s + (sumL y m : Int) < 0 := by omega
  have HE := hide es
  have hkz : k + sumL z n ≤ 2097152 := by omega
  clear es h h' hn hn'
  rw [← HE.out]
  go_enter Try.func15, Try.ntmps15
  go_wp2_with fail
  refine (heldSListS_any A n c z k _ _ HN.out (by omega) H1.out hc h0 hkz).mono ?_
  rintro e w2 ⟨rfl, rfl⟩
  rw [← HE.out]
  go_wp2_with fail
  refine (heldSListS_any B m d y s _ _ HN'.out (by omega) H2.out hc' hs h1).mono ?_
  rintro e w3 ⟨rfl, rfl⟩
  go_wp2
  go_ret
  exact ⟨rfl, hb0⟩
end Go.Proofs.Ytafhfikcpgjnaaa
