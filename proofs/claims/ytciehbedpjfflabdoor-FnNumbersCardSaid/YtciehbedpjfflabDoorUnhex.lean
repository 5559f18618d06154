/-
  Unhex: two digits make a byte. Plain words, the digit's place, the contracts of the reference and of the program, the law's walk.
-/
import Derived.Test.YtciehbedpjfflabDoorVar
import Derived.Lib.Bytealg
import Derived.Deep.RegionHeld3
import Derived.Deep.LoopGhost
import Derived.BigQuiet
namespace Go.Proofs.YtciehbedpjfflabDoor
open Go.RowKit
set_option linter.unusedVariables false

def hexDigU : List UInt8 := [48, 49, 50, 51, 52, 53, 54, 55, 56, 57, 97, 98, 99, 100, 101, 102]
/-- The digit's place, or -1. -/
def hx (b : UInt8) : Int := Lib.indexByte hexDigU b
set_option maxRecDepth 100000 in
theorem hx_all : ∀ n : Fin 256, -1 ≤ hx (UInt8.ofNat n.val) ∧ hx (UInt8.ofNat n.val) ≤ 15 := by decide
theorem hx_bd (b : UInt8) : -1 ≤ hx b ∧ hx b ≤ 15 := by
  have h := hx_all ⟨b.toNat, b.toNat_lt⟩
  simpa using h
def unL : List UInt8 → Option (List UInt8)
  | [] => some []
  | [_] => none
  | a :: b :: l => if hx a < 0 ∨ hx b < 0 then none else (unL l).map (UInt8.ofNat (16 * hx a + hx b).toNat :: ·)
theorem unL_odd : ∀ l : List UInt8, l.length % 2 = 1 → unL l = none
  | [], h => by simp at h
  | [_], _ => rfl
  | a :: b :: l, h => by
    rw [unL, unL_odd l (by simp at h; omega)]
    simp
def unS (s : ByteArray) : ByteArray × Bool := match unL s.data.toList with | none => (⟨#[]⟩, false) | some l => (⟨l.toArray⟩, true)

theorem retSB {a b : ByteArray} {p q : Bool} (h1 : a = b) (h2 : p = q) : Ending.returned (.tuple #[.string a, .bool p]) = .returned (.tuple #[.string b, .bool q]) := by rw [h1, h2]

/-- what is left to read, behind j pairs -/
def UnAt (l : List UInt8) (j : Nat) (acc : List UInt8) : Prop := acc.length = j ∧ unL l = (unL (l.drop (2 * j))).map (acc ++ ·)
theorem unAt_start (l : List UInt8) : UnAt l 0 [] := ⟨rfl, by simp⟩
theorem unAt_drop (s : ByteArray) (j : Nat) (h : 2 * j + 1 < s.size) : s.data.toList.drop (2 * j) = s[2 * j] :: s[2 * j + 1] :: s.data.toList.drop (2 * (j + 1)) := by
  have hl : s.data.toList.length = s.size := by simp
  rw [List.drop_eq_getElem_cons (by omega), List.drop_eq_getElem_cons (by omega)]
  rfl
theorem unAt_bad {s : ByteArray} {j : Nat} {acc : List UInt8} (h : UnAt s.data.toList j acc) (hj : 2 * j + 1 < s.size) (hb : hx s[2 * j] < 0 ∨ hx s[2 * j + 1] < 0) : unS s = (⟨#[]⟩, false) := by
  unfold unS
  rw [h.2, unAt_drop s j hj, unL, if_pos hb]
  rfl
theorem unAt_step {s : ByteArray} {j : Nat} {acc : List UInt8} (h : UnAt s.data.toList j acc) (hj : 2 * j + 1 < s.size) (h1 : 0 ≤ hx s[2 * j]) (h2 : 0 ≤ hx s[2 * j + 1]) : UnAt s.data.toList (j + 1) (acc ++ [UInt8.ofNat (16 * hx s[2 * j] + hx s[2 * j + 1]).toNat]) := by
  refine ⟨by simp [h.1], ?_⟩
  rw [h.2, unAt_drop s j hj, unL, if_neg (by omega), Option.map_map]
  congr 1
  funext l
  simp
theorem unAt_end {s : ByteArray} {j : Nat} {acc : List UInt8} (h : UnAt s.data.toList j acc) (hj : s.size ≤ 2 * j) : unS s = (⟨acc.toArray⟩, true) := by
  have hl : s.data.toList.length = s.size := by simp
  unfold unS
  rw [h.2, List.drop_of_length_le (by omega)]
  simp [unL]
theorem unS_odd {s : ByteArray} (h : s.size % 2 = 1) : unS s = (⟨#[]⟩, false) := by
  have hl : s.data.toList.length = s.size := by simp
  unfold unS
  rw [unL_odd _ (by omega)]

theorem ix_strU {P : Program} {t : TypeId} (ht : P.underlying t = some .string) (s : ByteArray) (k : Nat) (i : Int) (hi : i = k) (h : k < s.size) (W : World) : (Instr.index t (.string s) (.int .i64 i)).run P W = .ok (.int .u8 (s[k].toNat : Int)) W := by
  subst hi
  have e : s[k]? = some s[k] := by simp [h]
  simp [Instr.index, run_underlying ht, asIntOf, e]

/-! the digit's place: the reference's loop, the library's search -/

theorem hx_hit (b : UInt8) (k : Nat) (hk : k < 16) (h : ((hexDigU.getD k 0).toNat : Int) = (b.toNat : Int)) : hx b = k := by
  have e : b = hexDigU.getD k 0 := by rw [← UInt8.toNat_inj]; omega
  subst e
  revert k
  have : ∀ k : Fin 16, hx (hexDigU.getD k.val 0) = (k.val : Int) := by decide
  intro k hk _
  exact this ⟨k, hk⟩
theorem hx_no (b : UInt8) (h : ∀ k, k < 16 → (hexDigU.getD k 0).toNat ≠ b.toNat) : hx b = -1 := by
  have hne : ∀ k, k < 16 → (hexDigU.getD k 0 == b) = false := fun k hk => by
    rw [beq_eq_false_iff_ne]; intro e; exact h k hk (by rw [e])
  have h0 := hne 0 (by omega); have h1 := hne 1 (by omega); have h2 := hne 2 (by omega); have h3 := hne 3 (by omega)
  have h4 := hne 4 (by omega); have h5 := hne 5 (by omega); have h6 := hne 6 (by omega); have h7 := hne 7 (by omega)
  have h8 := hne 8 (by omega); have h9 := hne 9 (by omega); have h10 := hne 10 (by omega); have h11 := hne 11 (by omega)
  have h12 := hne 12 (by omega); have h13 := hne 13 (by omega); have h14 := hne 14 (by omega); have h15 := hne 15 (by omega)
  simp only [hexDigU, List.getD_cons_zero, List.getD_cons_succ] at h0 h1 h2 h3 h4 h5 h6 h7 h8 h9 h10 h11 h12 h13 h14 h15
  simp [hx, hexDigU, Lib.indexByte, h0, h1, h2, h3, h4, h5, h6, h7, h8, h9, h10, h11, h12, h13, h14, h15]

set_option maxRecDepth 100000 in
set_option maxHeartbeats 1000000 in
theorem litIndex_any (s : ByteArray) (c : UInt8) (w : World) :
    Calls Tryd.prog 35 #[.string s, .int .u8 (c.toNat : Int)] w fun e w' => e = .returned (.int .i64 (Lib.indexByte s.data.toList c)) ∧ w = w' := by
  go_enter Tryd.func35, Tryd.ntmps35
  go_wp2
  rw [run_callFunc_extern Tryd.func44 (by kernel_rfl) (by kernel_rfl) (by kernel_rfl) (e := Extern.BytealgIndexByte.indexByte) (by kernel_rfl), Lib.run_indexByteString]
  simp only [Result.andThen]
  rw [Oper.upon_value]
  go_wp2
  go_ret
  exact ⟨by simp, rfl⟩
set_option maxHeartbeats 1000000 in
theorem strIndex_any (s : ByteArray) (c : UInt8) (w : World) :
    Calls Tryd.prog 24 #[.string s, .int .u8 (c.toNat : Int)] w fun e w' => e = .returned (.int .i64 (Lib.indexByte s.data.toList c)) ∧ w = w' := by
  go_enter Tryd.func24, Tryd.ntmps24
  go_wp2_with fail
  refine (litIndex_any _ _ _).mono ?_
  rintro e w1 ⟨rfl, rfl⟩
  go_wp2
  go_ret
  exact ⟨rfl, rfl⟩
theorem hexIdx_any (c : UInt8) (w : World) :
    Calls Tryd.prog 24 #[.string ⟨#[48, 49, 50, 51, 52, 53, 54, 55, 56, 57, 97, 98, 99, 100, 101, 102]⟩, .int .u8 (c.toNat : Int)] w fun e w' => e = .returned (.int .i64 (hx c)) ∧ w = w' := strIndex_any _ c w

theorem byteInfoU : (Tryd.prog.info? 5).map (fun i => (i.zero, i.size, i.bytes)) = some (some (.int .u8 0), 1, 1) := by kernel_rfl
structure UnRel (w wr : World) (l : List UInt8) (v : Value) (j : Nat) (acc : List UInt8) : Prop where
  at_ : UnAt l j acc
  own : wr.ownsRow w.heap.size 5 1 v acc.length (bvals acc)
  bel : Below w.heap.size w wr

set_option maxRecDepth 100000 in
set_option maxHeartbeats 3200000 in
theorem implUnhex_any (s : ByteArray) (w : World) (hb : s.size ≤ 1048576) :
    Calls Tryd.prog 13 #[.string s] w fun e w' => e = .returned (.tuple #[.string (unS s).1, .bool (unS s).2]) ∧ Below w.heap.size w w' := by
  obtain ⟨i0, hi, hz0, hz1, hz2⟩ := info_parts byteInfoU
  by_cases hodd : s.size % 2 = 1
  · have HX := hide (unS_odd hodd)
    have hq : ((s.size : Int) % 2 == 1) = true := by rw [beq_iff_eq]; omega
    clear hodd
    go_enter Tryd.func13, Tryd.ntmps13
    go_wp2
    go_ret2
    exact ⟨retSB (by rw [HX.out]) (by rw [HX.out]), Below.refl _ _⟩
  have hq : ((s.size : Int) % 2 == 1) = false := by rw [beq_eq_false_iff_ne]; omega
  have HS : UnRel w (w.alloc (.cells #[] 5)) s.data.toList (.slice (some ⟨w.heap.size, 0, none⟩) 0 0) 0 [] :=
    ⟨unAt_start _, World.ownsRow_made w #[] 0 (Nat.le_refl _) (by decide) rfl, (Below.refl _ _).alloc (Nat.le_refl _) _⟩
  have HS' := hide HS
  have HODD := hide hodd
  clear HS hodd
  go_enter Tryd.func13, Tryd.ntmps13
  go_wp2
  clear hq
  go_loopg [4, 5, 6, 7] (s.size + 2) (fun g v i _h _l wr => ∃ (j : Nat) (acc : List UInt8), 2 * j ≤ s.size ∧ g = s.size + 2 - 2 * j ∧ i = .int .i64 (2 * (j : Int)) ∧ UnRel w wr s.data.toList v j acc)
  case atStart => exact ⟨0, [], by omega, rfl, rfl, HS'.out⟩
  case round =>
    obtain ⟨j, acc, hj, hg, rfl, hR⟩ := hrel
    have HG := hide hg
    have HR := hide hR
    have hlj : acc.length = j := hR.at_.1
    have HL := hide hlj
    clear hg hR hlj
    by_cases hlt : 2 * j < s.size
    · have hlt1 : 2 * j + 1 < s.size := by have := HODD.out; omega
      have k0 : 2 * (j : Int) < (s.size : Int) := by omega
      have k1 : (0 : Int) ≤ 2 * (j : Int) := by omega
      have k2 : 2 * (j : Int) + 1 < (s.size : Int) := by omega
      have k3 : (0 : Int) ≤ 2 * (j : Int) + 1 := by omega
      have b0 : (s[2 * j].toNat : Int) ≤ 255 := by have := s[2 * j].toNat_lt; omega
      have b1 : (s[2 * j + 1].toNat : Int) ≤ 255 := by have := s[2 * j + 1].toNat_lt; omega
      have HBAD := hide (unAt_bad HR.out.at_ hlt1)
      have HSTEP := hide (unAt_step HR.out.at_ hlt1)
      obtain ⟨hp, hpu⟩ := hx_bd s[2 * j]
      obtain ⟨hq, hqu⟩ := hx_bd s[2 * j + 1]
      go_wp2_with fail
      have x0 := ix_strU Tryd.underlying9 s (2 * j) (2 * (j : Int)) (by omega) (by omega)
      have x1 := ix_strU Tryd.underlying9 s (2 * j + 1) (2 * (j : Int) + 1) (by omega) (by omega)
      have wr1 : IntKind.i64.wrap (2 * (j : Int) + 1) = 2 * (j : Int) + 1 := by rw [IntKind.wrap_i64]; omega
      go_region_held3 (fun w' => w' = wr.drew) (first | rfl | assumption) (first | (go_at_call 24; refine (hexIdx_any _ _).mono ?_; rintro e w' ⟨rfl, rfl⟩))
      all_goals
        have HR0 : UnRel w wr.drew s.data.toList _ j acc := ⟨HR.out.at_, HR.out.own, HR.out.bel.drew⟩
        have HR := hide HR0
        clear HR0

        generalize hx s[2 * j] = p at *
        generalize hx s[2 * j + 1] = q at *
        by_cases hp0 : 0 ≤ p
        · by_cases hq0 : 0 ≤ q
          · have hp1 : ¬ p < 0 := by omega
            have hq1 : ¬ q < 0 := by omega
            go_wp2_with (at_builtin; refine wpList_app _ rfl _ _ 22 rfl w.heap.size 5 i0 (.int .u8 0) 1 Tryd.underlying22 hi hz0 hz1 hz2 rfl _ acc.length (bvals acc) rfl (HR.out.own.alloc _) _ 1 1 [.int .u8 (16 * p + q)] _ rfl rfl rd_one ?c1 ?c2 ?c3 ?c4 ?_)
            case c1 => first | rfl | (intro u hu; simp at hu; subst hu; rfl)
            case c2 => have := HL.out; unfold maxLen; omega
            case c3 => have := HL.out; omega
            case c4 => have := HR.out.bel.size; have hdz : wr.drew.heap.size = wr.heap.size := rfl; simp; omega
            intro v' w1 hown1 hgr _
            have hbs : bvals acc ++ [.int .u8 (16 * p + q)] = bvals (acc ++ [UInt8.ofNat (16 * p + q).toNat]) := by rw [bvals_append]; simp [bvals]; omega
            rw [hbs] at hown1
            have HB1 := hide ((HR.out.bel.alloc HR.out.bel.size _).grown hgr (by have := HR.out.bel.size; have hdz : wr.drew.heap.size = wr.heap.size := rfl; simp; omega) (fun k hk => (HR.out.own.lt k hk).1))
            have HO1 := hide hown1
            clear hown1 hgr hbs
            go_wp2
            go_roundg (s.size + 2 - 2 * (j + 1))
            case measure => have := HG.out; omega
            case rel => exact ⟨j + 1, acc ++ [UInt8.ofNat (16 * p + q).toNat], by omega, rfl, by go_num, HSTEP.out hp0 hq0, by simpa using HO1.out, HB1.out⟩
          · have hp1 : ¬ p < 0 := by omega
            have hq1 : q < 0 := by omega
            have dp : decide (p < 0) = false := by simpa using hp0
            have dq : decide (q < 0) = true := by simpa using hq1
            have HX := hide (HBAD.out (.inr hq1))
            go_wp2
            go_ret2
            exact ⟨retSB (by rw [HX.out]) (by rw [HX.out]), HR.out.bel⟩
        · have hp1 : p < 0 := by omega
          have dp : decide (p < 0) = true := by simpa using hp1
          have HX := hide (HBAD.out (.inl hp1))
          go_wp2
          go_ret2
          exact ⟨retSB (by rw [HX.out]) (by rw [HX.out]), HR.out.bel⟩
    · have k0 : ¬ 2 * (j : Int) < (s.size : Int) := by omega
      have hcv := strOf_row 22 9 5 Tryd.underlying22 Tryd.underlying5 Tryd.underlying9 HR.out.own
      have HX := hide (unAt_end HR.out.at_ (by omega))
      go_wp2
      go_ret2
      exact ⟨retSB (by rw [HX.out]) (by rw [HX.out]), HR.out.bel⟩

end Go.Proofs.YtciehbedpjfflabDoor
