/-
  append onto a slice of the call's own, whatever the source (nil, empty or not): the run, and the law at the operation. Plain lemmas over whatever program.
-/
import Derived.Test.YtciehbedpjfflabDoorMem
import Derived.Maps.AppendAt
namespace Go.Proofs.YtciehbedpjfflabDoor
open Go.RowKit
set_option linter.unusedVariables false

/-- The slice at A reads as the values vs, in blocks below B. -/
def RdV (w : World) (A : Option Addr) (vs : List Value) (B : Nat) : Prop :=
  ∀ j, j < vs.length → ∃ b off, A = some ⟨b, off, none⟩ ∧ b < B ∧ w.cell? ⟨b, off + j, none⟩ = some (vs.getD j undef)
theorem RdB.rv {w : World} {A : Option Addr} {zs : List Int} {B : Nat} (h : RdB .i64 w A zs B) : RdV w A (ints zs) B := fun j hj => by
  rw [ints_length] at hj
  obtain ⟨b, off, e, hb, hc⟩ := h j hj
  exact ⟨b, off, e, hb, by rw [hc, ints_get _ _ hj]⟩
theorem ints_one (zs : List Int) : ∀ u, u ∈ ints zs → u.oneCell' = true := by
  intro u hu
  simp only [ints, List.mem_map] at hu
  obtain ⟨x, _, rfl⟩ := hu
  rfl
theorem rdV_cells {w : World} {A : Addr} {vs : List Value} {B : Nat} (h : RdV w (some A) vs B) : ∀ j u, vs[j]? = some u → w.cell? (A.add j) = some u := by
  intro j u hu
  obtain ⟨hj, e⟩ := List.getElem?_eq_some_iff.1 hu
  obtain ⟨b, off, e1, _, hc⟩ := h j hj
  injection e1 with e1
  subst e1
  have : (⟨b, off, none⟩ : Addr).add j = ⟨b, off + j, none⟩ := by unfold Addr.add; split <;> simp_all
  rw [this, hc, List.getD_eq_getElem?_getD, hu]
  rfl

section
variable {P : Program} (w : World)
theorem run_app (base : Nat) (t ty e : TypeId) (i : TypeInfo) (z : Value) (bytes : Nat) (ht : P.underlying t = some (.slice e)) (hi : P.info? e = some i) (hz : i.zero = some z)
    (hsize : i.size = 1) (hby : i.bytes = bytes) (hzs : z.cells.size = 1) (v : Value) (n : Nat) (xs : List Value) (hown : w.ownsRow base e 1 v n xs)
    (A : Option Addr) (m c : Nat) (news : List Value) (B : Nat) (hm : m = news.length) (hr : RdV w A news B) (h1 : ∀ u, u ∈ news → u.oneCell' = true)
    (h63 : n + m ≤ maxLen) (hbytes : (n + m) * bytes ≤ 140737488355328) (hbase : base ≤ w.heap.size) :
    ∃ v' w', (Builtin.append_ #[t, t] ty #[v, .slice A m c]).run P w = .ok v' w' ∧ w'.ownsRow base e 1 v' (n + m) (xs ++ news) ∧ w.grownBy w' v.ownBlock ∧ (v'.ownBlock = v.ownBlock ∨ v'.ownBlock = some w.heap.size) := by
  cases A with
  | none =>
    have h0 : news = [] := by
      cases news with
      | nil => rfl
      | cons u us => obtain ⟨b, off, e1, _⟩ := hr 0 (by simp); cases e1
    subst h0
    have hm0 : m = 0 := hm
    subst hm0
    refine ⟨v, w, ?_, by simpa using hown, ⟨rfl, rfl, rfl, Nat.le_refl _, fun _ _ _ => rfl⟩, .inl rfl⟩
    rcases hown.2 with ⟨rfl, rfl⟩ | ⟨g, cap, cur, rfl, _, _, hnc, _⟩
    · simp [Builtin.append_, run_underlying ht, sizeOf, typeInfo, hi, Builtin.lenOf, Builtin.firstCells]
    · simp [Builtin.append_, run_underlying ht, sizeOf, typeInfo, hi, Builtin.lenOf, Builtin.firstCells, hnc, storeCells]
  | some a =>
    obtain ⟨v', w', hrun, h2, h3, _, h5⟩ := run_append_own_at (P := P) w base t ty e i z 1 bytes ht hi hz hsize hby hzs (by decide) v n xs hown a m c news (by omega) (rdV_cells hr) h1 h63 hbytes hbase
    exact ⟨v', w', hrun, h2, h3, h5⟩

theorem wp_app {o : Oper} {a : Act} {K : Act → World → Prop} {Q : Exit → Act → World → Prop} (s x : Operand) (t : TypeId)
    (ho : o.op = .call { callee := .builtin .append, args := #[s, x], argTypes := #[t, t] })
    (base : Nat) (e : TypeId) (i : TypeInfo) (z : Value) (bytes : Nat) (ht : P.underlying t = some (.slice e)) (hi : P.info? e = some i) (hz : i.zero = some z)
    (hsize : i.size = 1) (hby : i.bytes = bytes) (hzs : z.cells.size = 1) (v : Value) (n : Nat) (xs : List Value) (hs : a.eval s = v) (hown : w.ownsRow base e 1 v n xs)
    (A : Option Addr) (m c : Nat) (news : List Value) (B : Nat) (hx : a.eval x = .slice A m c) (hm : m = news.length) (hr : RdV w A news B) (h1 : ∀ u, u ∈ news → u.oneCell' = true)
    (h63 : n + m ≤ maxLen) (hbytes : (n + m) * bytes ≤ 140737488355328) (hbase : base ≤ w.heap.size)
    (h : ∀ v' w', w'.ownsRow base e 1 v' (n + m) (xs ++ news) → w.grownBy w' v.ownBlock → (v'.ownBlock = v.ownBlock ∨ v'.ownBlock = some w.heap.size) → K (a.put o.dst v') w') : o.wp P a w K Q := by
  obtain ⟨v', w', hrun, h2, h3, h4⟩ := run_app (P := P) w base t o.type e i z bytes ht hi hz hsize hby hzs v n xs hown A m c news B hm hr h1 h63 hbytes hbase
  unfold Oper.wp execOp
  simp only [ho, resolve, invoke, builtin, Sem.run_bind, Sem.run_pure, Result.andThen_ok, List.map_toArray, List.map_cons, List.map_nil, hs, hx, hrun]
  exact h v' w' h2 h3 h4

theorem wpList_app {ops : Array Oper} {rest : List Oper} {o : Oper} {a : Act} {Q : Exit → Act → World → Prop} (hgd : o.guard = none) (s x : Operand) (t : TypeId)
    (ho : o.op = .call { callee := .builtin .append, args := #[s, x], argTypes := #[t, t] })
    (base : Nat) (e : TypeId) (i : TypeInfo) (z : Value) (bytes : Nat) (ht : P.underlying t = some (.slice e)) (hi : P.info? e = some i) (hz : i.zero = some z)
    (hsize : i.size = 1) (hby : i.bytes = bytes) (hzs : z.cells.size = 1) (v : Value) (n : Nat) (xs : List Value) (hs : a.eval s = v) (hown : w.ownsRow base e 1 v n xs)
    (A : Option Addr) (m c : Nat) (news : List Value) (B : Nat) (hx : a.eval x = .slice A m c) (hm : m = news.length) (hr : RdV w A news B) (h1 : ∀ u, u ∈ news → u.oneCell' = true)
    (h63 : n + m ≤ maxLen) (hbytes : (n + m) * bytes ≤ 140737488355328) (hbase : base ≤ w.heap.size)
    (h : ∀ v' w', w'.ownsRow base e 1 v' (n + m) (xs ++ news) → w.grownBy w' v.ownBlock → (v'.ownBlock = v.ownBlock ∨ v'.ownBlock = some w.heap.size) → wpList P ops Q rest (a.put o.dst v') w') : wpList P ops Q (o :: rest) a w :=
  wpList_plain hgd fun _ hK => wp_app w s x t ho base e i z bytes ht hi hz hsize hby hzs v n xs hs hown A m c news B hx hm hr h1 h63 hbytes hbase fun v' w' h2 h3 h4 => hK _ _ (h v' w' h2 h3 h4)
end

/-- From a row that is owned to a slice in a block of its own. -/
theorem own_of_row {E : TypeId} {w : World} {base : Nat} {v : Value} {n : Nat} {xs : List Value} (h : w.ownsRow base E 1 v n xs) :
    ∃ A c F, v = .slice A n c ∧ n = xs.length ∧ Own E w (.slice A n c) xs F ∧ (∀ g, g ∈ F → base ≤ g ∧ some g = v.ownBlock) := by
  obtain ⟨hl, ⟨rfl, rfl⟩ | ⟨g, cap, cur, rfl, hg, hh, hnc, hcm, hcs, htk⟩⟩ := h
  · have hx : xs = [] := List.eq_nil_of_length_eq_zero (by simpa using hl)
    subst hx
    exact ⟨none, 0, [], rfl, rfl, ⟨none, 0, rfl, by unfold maxLen; omega, .inl ⟨rfl, rfl, rfl⟩⟩, fun g hg => by cases hg⟩
  · have hl' : xs.length = n := by omega
    subst hl'
    refine ⟨some ⟨g, 0, none⟩, cap, [g], rfl, rfl, ⟨some ⟨g, 0, none⟩, cap, rfl, hcm, .inr ⟨g, cap, fun j => cur.getD j undef, rfl, rfl, ⟨cur, hh, by omega, fun j hj => ?_⟩, hnc, Nat.le_refl _, fun j hj => ?_⟩⟩, fun g' hg' => ?_⟩
    · show cur[j]? = some (cur.getD j undef)
      have hjc : j < cur.size := by omega
      simp [Array.getD, hjc]
    · have : xs[j]? = cur.toList[j]? := by
        have e := congrArg (fun l => l[j]?) htk
        simp only [List.getElem?_take] at e
        rw [if_pos (by omega)] at e
        exact e.symm
      have hjc : j < cur.size := by omega
      show cur.getD j undef = _
      rw [List.getD_eq_getElem?_getD, this]
      simp [Array.getD, hjc]
    · simp at hg'; subst hg'; exact ⟨hg, rfl⟩
end Go.Proofs.YtciehbedpjfflabDoor
