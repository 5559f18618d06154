/-
  Hex: two digits for each byte. The contracts of the reference and of the program, and the walk of the law.
-/
import Derived.Test.YtciehbedpjfflabDoorStr
import Derived.Deep.LoopGhost
import Derived.Deep.RegionLaw
import Derived.BigQuiet
namespace Go.Proofs.YtciehbedpjfflabDoor
open Go.RowKit
set_option linter.unusedVariables false

def hexDigits : List UInt8 := [48, 49, 50, 51, 52, 53, 54, 55, 56, 57, 97, 98, 99, 100, 101, 102]
def hxd (k : Nat) : UInt8 := hexDigits.getD k 0
def hexN (s : ByteArray) : Nat → List UInt8
  | 0 => []
  | k + 1 => hexN s k ++ [hxd ((s.data.toList.getD k 0).toNat / 16), hxd ((s.data.toList.getD k 0).toNat % 16)]
def hexS (s : ByteArray) : ByteArray := ⟨(hexN s s.size).toArray⟩
theorem hexN_length (s : ByteArray) (k : Nat) : (hexN s k).length = 2 * k := by
  induction k with
  | zero => rfl
  | succ k ih => simp only [hexN, List.length_append, ih, List.length_cons, List.length_nil]; omega
theorem ret_string {a b : ByteArray} (h : a = b) : Ending.returned (.string a) = .returned (.string b) := by rw [h]
theorem byteInfoH : (Tryd.prog.info? 5).map (fun i => (i.zero, i.size, i.bytes)) = some (some (.int .u8 0), 1, 1) := by kernel_rfl
theorem ix_str {P : Program} {t : TypeId} (ht : P.underlying t = some .string) (s : ByteArray) (k : Nat) (i : Int) (hi : i = k) (h : k < s.size) (W : World) : (Instr.index t (.string s) (.int .i64 i)).run P W = .ok (.int .u8 ((s.data.toList.getD k 0).toNat : Int)) W := by
  subst hi
  have e : s[k]? = some s[k] := by simp [h]
  have e2 : s.data.toList.getD k 0 = s[k] := by
    have h2 : k < s.data.size := h
    simp only [List.getD, Array.getElem?_toList, Array.getElem?_eq_getElem h2, Option.getD_some]
    rfl
  rw [e2]
  simp [Instr.index, run_underlying ht, asIntOf, e]
theorem rd_two {w : World} {u v : Value} {T : TypeId} : RdV (w.alloc (.cells #[u, v] T)) (some ⟨w.heap.size, 0, none⟩) [u, v] (w.heap.size + 1) := fun j hj => by
  have : j = 0 ∨ j = 1 := by have : j < 2 := hj; omega
  rcases this with rfl | rfl
  · exact ⟨w.heap.size, 0, rfl, by omega, cell_of_row _ _ _ _ _ _ (heap_alloc_new _ _)⟩
  · exact ⟨w.heap.size, 0, rfl, by omega, cell_of_row _ _ _ _ _ _ (heap_alloc_new _ _)⟩
/-- An append as one step of a region that draws its order. -/
theorem step_app {P : Program} {ops : Array Oper} {o : Oper} {a : Act} {w : World} {K : Act → World → Prop} {Q : Exit → Act → World → Prop} {E : Prop} (hgd : o.guard = none) (s x : Operand) (t : TypeId)
    (ho : o.op = .call { callee := .builtin .append, args := #[s, x], argTypes := #[t, t] })
    (base : Nat) (e : TypeId) (i : TypeInfo) (z : Value) (bytes : Nat) (ht : P.underlying t = some (.slice e)) (hi : P.info? e = some i) (hz : i.zero = some z)
    (hsize : i.size = 1) (hby : i.bytes = bytes) (hzs : z.cells.size = 1) (v : Value) (n : Nat) (xs : List Value) (hs : a.eval s = v) (hown : w.ownsRow base e 1 v n xs)
    (A : Option Addr) (m c : Nat) (news : List Value) (B : Nat) (hx : a.eval x = .slice A m c) (hm : m = news.length) (hr : RdV w A news B) (h1 : ∀ u, u ∈ news → u.oneCell' = true)
    (h63 : n + m ≤ maxLen) (hbytes : (n + m) * bytes ≤ 140737488355328) (hbase : base ≤ w.heap.size)
    (h : ∀ v' w', w'.ownsRow base e 1 v' (n + m) (xs ++ news) → w.grownBy w' v.ownBlock → (v'.ownBlock = v.ownBlock ∨ v'.ownBlock = some w.heap.size) → K (a.put o.dst v') w') : if Region.wanted o (yielded ops a.tmps) = true then Oper.wp P o a w K Q else E := by
  have hw : Region.wanted o (yielded ops a.tmps) = true := by simp [Region.wanted, hgd]
  rw [if_pos hw]
  exact wp_app w s x t ho base e i z bytes ht hi hz hsize hby hzs v n xs hs hown A m c news B hx hm hr h1 h63 hbytes hbase h
theorem grown_drew {W W' : World} {row : Option Nat} (h : W.drew.grownBy W' row) : W.grownBy W' row := ⟨h.os, h.tape, h.output, h.size, h.block⟩
set_option maxRecDepth 100000 in
theorem and15 : ∀ n : Fin 256, bits BinOp.and IntKind.u8 ((n.val : Nat) : Int) 15 = ((n.val % 16 : Nat) : Int) := by decide
theorem ix_hex {P : Program} {t : TypeId} (ht : P.underlying t = some .string) (k : Nat) (hk : k < 16) (W : World) : (Instr.index t (.string ⟨#[48, 49, 50, 51, 52, 53, 54, 55, 56, 57, 97, 98, 99, 100, 101, 102]⟩) (.int .u8 (k : Int))).run P W = .ok (.int .u8 ((hxd k).toNat : Int)) W := by
  have h : k = 0 ∨ k = 1 ∨ k = 2 ∨ k = 3 ∨ k = 4 ∨ k = 5 ∨ k = 6 ∨ k = 7 ∨ k = 8 ∨ k = 9 ∨ k = 10 ∨ k = 11 ∨ k = 12 ∨ k = 13 ∨ k = 14 ∨ k = 15 := by omega
  clear hk
  rcases h with rfl | rfl | rfl | rfl | rfl | rfl | rfl | rfl | rfl | rfl | rfl | rfl | rfl | rfl | rfl | rfl
  all_goals (simp [Instr.index, run_underlying ht, asIntOf]; rfl)
structure HxRel (w wr : World) (v : Value) (acc : List UInt8) : Prop where
  own : wr.ownsRow w.heap.size 5 1 v acc.length (bvals acc)
  bel : Below w.heap.size w wr
theorem HxRel.app {w W w' : World} {v v' : Value} {acc : List UInt8} {a b : UInt8} {o : Obj} (h : HxRel w W v acc) (hown : w'.ownsRow w.heap.size 5 1 v' (acc.length + 2) (bvals acc ++ [.int .u8 (a.toNat : Int), .int .u8 (b.toNat : Int)])) (hgr : (W.alloc o).grownBy w' v.ownBlock) : HxRel w w' v' (acc ++ [a, b]) := by
  refine ⟨?_, (h.bel.alloc h.bel.size _).grown hgr (by have := h.bel.size; simp; omega) (fun k hk => (h.own.lt k hk).1)⟩
  rw [List.length_append, bvals_append]
  exact hown

set_option maxRecDepth 100000 in
set_option maxHeartbeats 3200000 in
theorem implHex_any (s : ByteArray) (w : World) (hb : s.size ≤ 1048576) :
    Calls Tryd.prog 14 #[.string s] w fun e w' => e = .returned (.string (hexS s)) ∧ Below w.heap.size w w' := by
  obtain ⟨i0, hinf, hz0, hz1, hz2⟩ := info_parts byteInfoH
  have HS : Hid (HxRel w (w.alloc (.cells #[] 5)) (.slice (some ⟨w.heap.size, 0, none⟩) 0 0) []) :=
    hide ⟨World.ownsRow_made w #[] 0 (Nat.le_refl _) (by decide) rfl, (Below.refl _ _).alloc (Nat.le_refl _) _⟩
  have hbi : (s.size : Int) ≤ 1048576 := by omega
  go_enter Tryd.func14, Tryd.ntmps14
  go_wp2
  go_loopg [3, 4, 8] (s.size + 1) (fun g v _x i wr => ∃ k : Nat, k ≤ s.size ∧ g = s.size + 1 - k ∧ i = .int .i64 k ∧ HxRel w wr v (hexN s k))
  case atStart => exact ⟨0, Nat.zero_le _, rfl, rfl, HS.out⟩
  case round =>
    obtain ⟨k, hk, hg, rfl, hR⟩ := hrel
    have HG := hide hg
    have HR := hide hR
    clear hg hR
    by_cases hlt : k < s.size
    · have hi : (k : Int) < (s.size : Int) := by omega
      obtain ⟨n, hn⟩ : ∃ n : Nat, n = (s.data.toList.getD k 0).toNat := ⟨_, rfl⟩
      have hn256 : n < 256 := by rw [hn]; exact UInt8.toNat_lt _
      have hix := fun W => ix_str (P := Tryd.prog) (t := 9) Tryd.underlying9 s k (k : Int) rfl hlt W
      rw [← hn] at hix
      have HN := hide hn
      obtain ⟨p, hp⟩ : ∃ p : Nat, p = n / 16 := ⟨_, rfl⟩
      obtain ⟨q, hq⟩ : ∃ q : Nat, q = n % 16 := ⟨_, rfl⟩
      have hp16 : p < 16 := by omega
      have hq16 : q < 16 := by omega
      have d1 : (n : Int) / 16 = (p : Int) := by rw [hp]; rfl
      have d2 : bits BinOp.and IntKind.u8 (n : Int) 15 = (q : Int) := by
        rw [hq]
        exact and15 ⟨n, hn256⟩
      have x1 := fun W => ix_hex (P := Tryd.prog) (t := 9) Tryd.underlying9 p hp16 W
      have x2 := fun W => ix_hex (P := Tryd.prog) (t := 9) Tryd.underlying9 q hq16 W
      have hni : (n : Int) ≤ 255 := by omega
      have hl := hexN_length s k
      have HL := hide hl
      have HN2 : Hid (hexN s (k + 1) = hexN s k ++ [hxd p, hxd q]) := hide (by rw [hp, hq, hn]; rfl)
      have h1c : ∀ u : Value, u ∈ [Value.int .u8 ((hxd p).toNat : Int), Value.int .u8 ((hxd q).toNat : Int)] → u.oneCell' = true := fun u hu => by simp at hu; rcases hu with rfl | rfl <;> rfl
      have H1C := hide h1c
      have hws := HR.out.bel.size
      clear hn hp hq hl h1c
      go_wp2_with fail
      go_region_law (first
        | (refine step_app rfl _ _ 22 rfl w.heap.size 5 i0 (.int .u8 0) 1 Tryd.underlying22 hinf hz0 hz1 hz2 rfl u3 (hexN s k).length (bvals (hexN s k)) rfl (HR.out.own.alloc _) _ 2 2 [Value.int .u8 ((hxd p).toNat : Int), Value.int .u8 ((hxd q).toNat : Int)] _ rfl rfl rd_two H1C.out (by have := HL.out; unfold maxLen; omega) (by have := HL.out; omega) (by have e : (wr.alloc (.cells #[Value.int .u8 ((hxd p).toNat : Int), Value.int .u8 ((hxd q).toNat : Int)] 5)).drew.heap.size = wr.heap.size + 1 := (by simp); omega) ?_; intro v' w1 hown hgr hne))
      all_goals
        have HR3 := hide (HR.out.app hown (grown_drew hgr))
        rw [← HN2.out] at HR3
        clear hown hgr hne
        go_wp2
        go_roundg (s.size + 1 - (k + 1))
        case measure => have := HG.out; omega
        case rel => exact ⟨k + 1, by omega, rfl, by go_num, HR3.out⟩
    · have hks : k = s.size := by omega
      subst hks
      have hi : ¬ (s.size : Int) < (s.size : Int) := by omega
      have hcv := strOf_row 22 9 5 Tryd.underlying22 Tryd.underlying5 Tryd.underlying9 HR.out.own
      go_wp2
      go_ret
      exact ⟨rfl, HR.out.bel⟩

end Go.Proofs.YtciehbedpjfflabDoor
