/-
  Copies of lists: the program's copyLists.
-/
import Derived.Test.YtdhocncfpapncabOwnL
import Derived.Deep.RegionLaw
namespace Go.Proofs.Ytdhocncfpapncab
open Go.RowKit
set_option linter.unusedVariables false

theorem step_app {P : Program} (w : World) {ops : Array Oper} {o : Oper} {a : Act} {K : Act → World → Prop} {Q : Exit → Act → World → Prop} {E : Prop} (hgd : o.guard = none) (s x : Operand) (t : TypeId)
    (ho : o.op = .call { callee := .builtin .append, args := #[s, x], argTypes := #[t, t] })
    (base : Nat) (e : TypeId) (i : TypeInfo) (z : Value) (bytes : Nat) (ht : P.underlying t = some (.slice e)) (hi : P.info? e = some i) (hz : i.zero = some z)
    (hsize : i.size = 1) (hby : i.bytes = bytes) (hzs : z.cells.size = 1) (v : Value) (n : Nat) (xs : List Value) (hs : a.eval s = v) (hown : w.ownsRow base e 1 v n xs)
    (A : Option Addr) (m c : Nat) (news : List Value) (B : Nat) (hx : a.eval x = .slice A m c) (hm : m = news.length) (hr : RdV w A news B) (h1 : ∀ u, u ∈ news → u.oneCell' = true)
    (h63 : n + m ≤ maxLen) (hbytes : (n + m) * bytes ≤ 140737488355328) (hbase : base ≤ w.heap.size)
    (h : ∀ v' w', w'.ownsRow base e 1 v' (n + m) (xs ++ news) → w.grownBy w' v.ownBlock → (v'.ownBlock = v.ownBlock ∨ v'.ownBlock = some w.heap.size) → K (a.put o.dst v') w') :
    if Region.wanted o (yielded ops a.tmps) = true then Oper.wp P o a w K Q else E := by
  have hw : Region.wanted o (yielded ops a.tmps) = true := by simp [Region.wanted, hgd]
  rw [if_pos hw]
  exact wp_app w s x t ho base e i z bytes ht hi hz hsize hby hzs v n xs hs hown A m c news B hx hm hr h1 h63 hbytes hbase h

/-- The program's copy under way: field q of the copy holds v, the rows copied so far. -/
structure CI (q : Nat) (w wr : World) (v u bv : Value) (us : List Value) (z : List (List Int)) (k lo : Nat) : Prop where
  inv : RInv w wr v us z k lo
  src : wr.cell? ⟨w.heap.size, 1, none⟩ = some bv
  res : wr.rowIs (w.heap.size + 1) 26 2 (fun _ => .slice none 0 0)
  out : wr.rowIs (w.heap.size + 2) 26 2 (fun j => if j = q then v else u)
  le : w.heap.size + 3 ≤ lo
theorem CI.below {q : Nat} {w wr w' : World} {v u bv : Value} {us : List Value} {z : List (List Int)} {k lo : Nat} (h : CI q w wr v u bv us z k lo) (hb : Below wr.heap.size wr w') : CI q w w' v u bv us z k lo :=
  ⟨h.inv.below hb, (hb.cell (Nat.lt_of_lt_of_le (by have := h.le; show w.heap.size < lo; omega) h.inv.le)).trans h.src, rowIs_below h.res hb h.res.lt, rowIs_below h.out hb h.out.lt, h.le⟩
theorem CI.app {q : Nat} {w wr w1 w2 w3 : World} {v v' x u bv : Value} {us : List Value} {z : List (List Int)} {k lo : Nat} (h : CI q w wr v u bv us z k lo) (hk : k < z.length) (hb : Below wr.heap.size wr w1) (hu : w1.ownsRow wr.heap.size 3 1 x (z.getD k []).length (ints (z.getD k [])))
    (hb2 : Below w1.heap.size w1 w2) (hown : w3.ownsRow lo 37 1 v' (k + 1) (us ++ [x])) (hgr : w2.grownBy w3 v.ownBlock) (hv : v'.ownBlock = v.ownBlock ∨ v'.ownBlock = some w2.heap.size) : CI q w (w3.setCell ⟨w.heap.size + 2, q, none⟩ v') v' u bv (us ++ [x]) z (k + 1) lo := by
  have h1 := (h.below hb).below hb2
  have hle := h.le
  have hvl := h.inv.own.lt
  have hi := h.inv.app hk (by omega) hb hu hb2 hown hgr hv
  have hne : ∀ g, g < lo → some g ≠ v.ownBlock := fun g hg e => by have := (hvl g e.symm).1; omega
  have hout : w3.rowIs (w.heap.size + 2) 26 2 (fun j => if j = q then v else u) := h1.out.of_block (hgr.block _ h1.out.lt (hne _ (by omega)))
  have hres : w3.rowIs (w.heap.size + 1) 26 2 (fun _ => .slice none 0 0) := h1.res.of_block (hgr.block _ h1.res.lt (hne _ (by omega)))
  have hsrc : w3.cell? ⟨w.heap.size, 1, none⟩ = some bv := hgr.cell h1.src (hne _ (by show w.heap.size < lo; omega))
  have ht : Touch [w.heap.size + 2] w3 (w3.setCell ⟨w.heap.size + 2, q, none⟩ v') := (Touch.refl _ _).setCell (by simp) _
  refine ⟨⟨?_, ?_, ?_, ?_⟩, ?_, hres.setOther (by show w.heap.size + 1 ≠ w.heap.size + 2; omega) _, ?_, hle⟩
  · obtain ⟨hl, h | ⟨g, cap, cur, e, hg, hh, r⟩⟩ := hi.own
    · exact ⟨hl, .inl h⟩
    · exact ⟨hl, .inr ⟨g, cap, cur, e, hg, by rw [ht.block g (Array.getElem?_eq_some_iff.1 hh).1 (by simp; omega)]; exact hh, r⟩⟩
  · have := hi.rows
    have hs : (w3.setCell ⟨w.heap.size + 2, q, none⟩ v').heap.size = w3.heap.size := by simp [World.setCell]
    rw [hs]
    exact this.keep fun g h1 h2 h3 _ => ht.block g h3 (by simp; omega)
  · exact hi.bel.setCell (by show w.heap.size ≤ w.heap.size + 2; omega) _
  · have hs : (w3.setCell ⟨w.heap.size + 2, q, none⟩ v').heap.size = w3.heap.size := by simp [World.setCell]
    rw [hs]; exact hi.le
  · rw [World.cell?_setCell_other _ _ _ _ (by simp <;> omega)]; exact hsrc
  · exact (hout.set q v').congr fun j _ => by by_cases e : j = q <;> simp [e]
theorem CI.start {w w1 : World} {u0 bv : Value} {z : List (List Int)} (h : w1 = ((w.alloc (.cells #[u0, bv] 26)).alloc (.cells #[.slice none 0 0, .slice none 0 0] 26)).alloc (.cells #[.slice none 0 0, .slice none 0 0] 26)) :
    CI 0 w w1 (.slice none 0 0) (.slice none 0 0) bv [] z 0 (w.heap.size + 3) := by
  subst h
  have hs : (((w.alloc (.cells #[u0, bv] 26)).alloc (.cells #[.slice none 0 0, .slice none 0 0] 26)).alloc (.cells #[.slice none 0 0, .slice none 0 0] 26)).heap.size = w.heap.size + 3 := by simp
  have h1 := World.rowIs_alloc (w.alloc (.cells #[u0, bv] 26)) #[.slice none 0 0, .slice none 0 0] 26 (fun _ => .slice none 0 0) (fun i hi => by
    have : i = 0 ∨ i = 1 := by simp at hi; omega
    rcases this with rfl | rfl <;> rfl)
  have h2 := World.rowIs_alloc ((w.alloc (.cells #[u0, bv] 26)).alloc (.cells #[.slice none 0 0, .slice none 0 0] 26)) #[.slice none 0 0, .slice none 0 0] 26 (fun _ => .slice none 0 0) (fun i hi => by
    have : i = 0 ∨ i = 1 := by simp at hi; omega
    rcases this with rfl | rfl <;> rfl)
  have e1 : (w.alloc (.cells #[u0, bv] 26)).heap.size = w.heap.size + 1 := by simp
  have e2 : ((w.alloc (.cells #[u0, bv] 26)).alloc (.cells #[.slice none 0 0, .slice none 0 0] 26)).heap.size = w.heap.size + 2 := by simp
  rw [e1] at h1
  rw [e2] at h2
  exact ⟨⟨World.ownsRow_nil _ _ _ _, ⟨by simp, fun j hj => by simp at hj, fun j hj => by simp at hj, fun i j hi => by simp at hi⟩, (((Below.refl _ _).alloc (Nat.le_refl _) _).alloc (by simp) _).alloc (by simp <;> omega) _, by rw [hs]; exact Nat.le_refl _⟩, by go_simp, h1.alloc _, h2.congr (fun j _ => by simp), Nat.le_refl _⟩
theorem keepG {wK W W' : World} {p q : Addr} {u0 u1 : Value} {row : Option Nat} (hp : p.block < wK.heap.size) (hq : q.block < wK.heap.size)
    (hb : Below W.heap.size W W') (h : (W.cell? p = some u0 ∧ W.cell? q = some u1 ∧ W.frozen? p = false) ∧ wK.grownBy W row) : (W'.cell? p = some u0 ∧ W'.cell? q = some u1 ∧ W'.frozen? p = false) ∧ wK.grownBy W' row := by
  have hz := h.2.size
  exact ⟨⟨(hb.cell (by omega)).trans h.1.1, (hb.cell (by omega)).trans h.1.2.1, (hb.frozen (by omega)).trans h.1.2.2⟩, grown_trans h.2 (grown_below hb row)⟩
theorem grown_drew (w : World) (row : Option Nat) : w.grownBy w.drew row := ⟨rfl, rfl, rfl, Nat.le_refl _, fun _ _ _ => rfl⟩
theorem keepA {wK W W' : World} {p q : Addr} {u0 u1 : Value} {row : Option Nat} (hp : row ≠ some p.block) (hq : row ≠ some q.block) (hpl : p.block < wK.heap.size)
    (hg : W.grownBy W' row) (h : (W.cell? p = some u0 ∧ W.cell? q = some u1 ∧ W.frozen? p = false) ∧ wK.grownBy W row) : (W'.cell? p = some u0 ∧ W'.cell? q = some u1 ∧ W'.frozen? p = false) ∧ wK.grownBy W' row :=
  ⟨⟨hg.cell h.1.1 (Ne.symm hp), hg.cell h.1.2.1 (Ne.symm hq), (World.frozen?_of_block (hg.block _ (Nat.lt_of_lt_of_le hpl h.2.size) (Ne.symm hp))).trans h.1.2.2⟩, grown_trans h.2 hg⟩
theorem keepL {wK W : World} {p q : Addr} {u0 u1 : Value} {row : Option Nat} (hp : p.block < wK.heap.size) (hq : q.block < wK.heap.size) (o : Obj)
    (h : (W.cell? p = some u0 ∧ W.cell? q = some u1 ∧ W.frozen? p = false) ∧ wK.grownBy W row) : ((W.alloc o).cell? p = some u0 ∧ (W.alloc o).cell? q = some u1 ∧ (W.alloc o).frozen? p = false) ∧ wK.grownBy (W.alloc o) row := keepG hp hq ((Below.refl _ _).alloc (Nat.le_refl _) _) h
theorem grown_cell {W W' : World} {row : Option Nat} {o : Obj} {p : Addr} {u : Value} (hg : (W.alloc o).grownBy W' row) (hr : row ≠ some p.block) (hp : p.block < W.heap.size) (h : W.cell? p = some u) : W'.cell? p = some u :=
  hg.cell (by rw [World.cell?_alloc_lt _ _ _ hp]; exact h) (Ne.symm hr)
theorem grown_frozen {W W' : World} {row : Option Nat} {o : Obj} {p : Addr} (hg : (W.alloc o).grownBy W' row) (hr : row ≠ some p.block) (hp : p.block < W.heap.size) (h : W.frozen? p = false) : W'.frozen? p = false :=
  (World.frozen?_of_block (hg.block _ (by simp <;> omega) (Ne.symm hr))).trans ((((Below.refl W.heap.size W).alloc (Nat.le_refl _) o).frozen hp).trans h)
theorem rdB_go {w W : World} {A : Option Addr} {z : List Int} (h : RdB .i64 w A z w.heap.size) (hb : Below w.heap.size w W) : RdB .i64 W A z W.heap.size := (h.below hb (Nat.le_refl _)).more hb.size
theorem OwnM.appd {full : Bool} {wr w1 w2 w3 : World} {v0 : Value} {z : List (List Int)} {a b p : Nat} {row : Option Nat} (h : OwnM full wr v0 z a b) (hb : Below wr.heap.size wr w1) (hb2 : Below w1.heap.size w1 w2) (hgr : w2.grownBy w3 row) (hrow : ∀ g, row = some g → b ≤ g) (hp : p < a) (q : Nat) (u : Value) :
    OwnM full (w3.setCell ⟨p, q, none⟩ u) v0 z a b := by
  obtain ⟨us, h⟩ := (h.below hb).below hb2
  refine ⟨us, h.keep fun g h1 h2 h3 => ?_⟩
  rw [Below.heap_setCell _ _ _ _ (by show g ≠ p; omega)]
  exact hgr.block g h3 (fun e => by have := hrow g e.symm; omega)
theorem row_le {w : World} {base base' n : Nat} {e : TypeId} {v : Value} {xs : List Value} (h : w.ownsRow base e 1 v n xs) (hb : base' ≤ base) : w.ownsRow base' e 1 v n xs := by
  obtain ⟨hl, h | ⟨g, cap, cur, e, hg, r⟩⟩ := h
  · exact ⟨hl, .inl h⟩
  · exact ⟨hl, .inr ⟨g, cap, cur, e, Nat.le_trans hb hg, r⟩⟩
theorem CI.next {w wr : World} {v u bv : Value} {us : List Value} {z y : List (List Int)} {k lo : Nat} (h : CI 0 w wr v u bv us z k lo) (hu : u = .slice none 0 0 := by rfl) : CI 1 w wr (.slice none 0 0) v bv [] y 0 wr.heap.size := by
  subst hu
  exact ⟨⟨World.ownsRow_nil _ _ _ _, ⟨by simp, fun j hj => by simp at hj, fun j hj => by simp at hj, fun i j hi => by simp at hi⟩, h.inv.bel, Nat.le_refl _⟩, h.src, h.res, h.out.congr (fun j hj => by
    have : j = 0 ∨ j = 1 := by omega
    rcases this with rfl | rfl <;> simp), Nat.le_trans h.le h.inv.le⟩
set_option maxRecDepth 100000 in
set_option maxHeartbeats 3200000 in
theorem copyLists_any (A A' : Option Addr) (n c n' c' : Nat) (z y : List (List Int)) (w : World) (hn : n = z.length) (hn' : n' = y.length) (hm : n + sumL z n + n' + sumL y n' ≤ 1048576) (ha : RdM w A z w.heap.size) (ha' : RdM w A' y w.heap.size) :
    Calls Try.prog 21 #[.agg #[.slice A n c, .slice A' n' c']] w fun e w' => ∃ v, e = .returned v ∧ LRes true w w' v z y := by
  obtain ⟨i0, hi, hz0, hz1, hz2⟩ := conInfo2
  have HN := hide hn
  have HN' := hide hn'
  have HA := hide ha
  have HA' := hide ha'
  have HS : Hid (∀ j, j < z.length → (z.getD j []).length ≤ 1048576) := hide (fun j hj => by have := len_le z n j (by omega); omega)
  have HS' : Hid (∀ j, j < y.length → (y.getD j []).length ≤ 1048576) := hide (fun j hj => by have := len_le y n' j (by omega); omega)
  have hm1 : n ≤ 1048576 := by omega
  have hm2 : n' ≤ 1048576 := by omega
  have hm1i : (n : Int) ≤ 1048576 := by omega
  have hm2i : (n' : Int) ≤ 1048576 := by omega
  clear hn hn' ha ha' hm
  go_enter Try.func21, Try.ntmps21
  go_wp2_with fail
  obtain ⟨w1, hW⟩ : ∃ W : World, W = ((w.alloc (.cells #[.slice A n c, .slice A' n' c'] 26)).alloc (.cells #[.slice none 0 0, .slice none 0 0] 26)).alloc (.cells #[.slice none 0 0, .slice none 0 0] 26) := ⟨_, rfl⟩
  rw [← hW]
  have H0 : Hid (CI 0 w w1 (.slice none 0 0) (.slice none 0 0) (.slice A' n' c') [] z 0 (w.heap.size + 3)) := hide (CI.start hW)
  clear hW
  go_loopg [12] (n + 1) (fun g i wo => ∃ wr : World, wr = wo ∧ ∃ k v us, k ≤ n ∧ g = n + 1 - k ∧ i = .int .i64 k ∧ CI 0 w wr v (.slice none 0 0) (.slice A' n' c') us z k (w.heap.size + 3))
  case atStart => exact ⟨_, rfl, 0, _, [], Nat.zero_le _, rfl, rfl, H0.out⟩
  case round =>
    obtain ⟨wr, rfl, k, v, us, hk, hg, rfl, hC⟩ := hrel
    have HG := hide hg
    have HC := hide hC
    clear hg hC H0
    by_cases hlt : k < n
    · have hi' : (k : Int) < (n : Int) := by omega
      have hbr : Below w.heap.size w wr := HC.out.inv.bel
      obtain ⟨b, off, A2, n2, c2, rfl, hb, hcell, hn2, hc2, hcm2, hrd⟩ := (rdM_at HA.out hbr) k (by have := HN.out; omega)
      have hl := HS.out k (by have := HN.out; omega)
      obtain ⟨zk, hzk⟩ : ∃ zk, zk = z.getD k [] := ⟨_, rfl⟩
      rw [← hzk] at hn2 hrd hl
      have HL := hide hl
      have HZK := hide hzk
      clear hl hzk
      have HN2 := hide hn2
      have hb1 : Below wr.heap.size wr (wr.alloc (.cells #[.slice A2 n2 c2] 37)) := (Below.refl _ _).alloc (Nat.le_refl _) _
      have HRD := hide ((hrd.below hb1 (Nat.le_refl _)).more hb1.size)
      have HB1 := hide hb1
      have ho0 : wr.cell? ⟨w.heap.size + 1 + 1, 0, none⟩ = some v := by have h := HC.out.out.cell (i := 0) (by omega); simpa using h
      have hfo : wr.frozen? ⟨w.heap.size + 1 + 1, 0, none⟩ = false := HC.out.out.frozen 0
      have hlo : w.heap.size + 1 + 1 < wr.heap.size := HC.out.out.lt
      have hvp : v.ownBlock ≠ some (w.heap.size + 1 + 1) := fun e => by have := (HC.out.inv.own.lt _ e).1; omega
      have hvq : v.ownBlock ≠ some wr.heap.size := fun e => by have := (HC.out.inv.own.lt _ e).2; omega
      clear hn2 hrd hcm2 hc2 hb1 hbr
      go_wp2_with fail
      have hg0 : (wr.alloc (.cells #[.slice A2 n2 c2] 37)).cell? ⟨w.heap.size + 1 + 1, 0, none⟩ = some v := by go_simp
      have hg1 : (wr.alloc (.cells #[.slice A2 n2 c2] 37)).cell? ⟨wr.heap.size, 0, none⟩ = some (.slice A2 n2 c2) := by go_simp
      have hg2 : (wr.alloc (.cells #[.slice A2 n2 c2] 37)).frozen? ⟨w.heap.size + 1 + 1, 0, none⟩ = false := by go_simp
      obtain ⟨wb, hwb⟩ : ∃ W : World, W = wr.alloc (.cells #[.slice A2 n2 c2] 37) := ⟨_, rfl⟩
      have tb : wr.heap.size < wb.heap.size := by rw [hwb]; simp
      have to : w.heap.size + 1 + 1 < wb.heap.size := by omega
      rw [← hwb] at hg0 hg1 hg2 ⊢
      have HWB : Hid (Below wr.heap.size wr wb) := hide (by rw [hwb]; exact HB1.out)
      have HRB : Hid (RdB .i64 wb A2 (zk) wb.heap.size) := hide (by rw [hwb]; exact HRD.out)
      clear hwb
      go_region_law (first
        | (refine step_app _ (by rfl) (.tmp 17) (.tmp 22) 24 (by rfl) (w.heap.size + 3) 37 i0 (.agg #[.slice none 0 0]) 24 Try.underlying24 hi hz0 hz1 hz2 rfl v k us (by rfl) (((HC.out.inv.below (bel_of HWB.out hb3)).below ((Below.refl _ _).alloc (Nat.le_refl _) _)).own) _ 1 1 [.slice C zk.length kc] _ (by rfl) rfl (rdV_one (by go_simp)) (by simp [Value.oneCell']) (by unfold maxLen; omega) (by omega) (by have := hb3.size; simp <;> omega) ?_; intro v' w4 hown hgr hv'; obtain ⟨D, kd, ev, -, -⟩ := (Sr.of_row hown).shape; (have ev2 : v' = .slice D (us.length + 1) kd := (by rw [ev]; simp)); clear ev; subst ev2; have k0 := grown_cell hgr hvp (Nat.lt_of_lt_of_le to hb3.size) g0; have k2 := grown_frozen hgr hvp (Nat.lt_of_lt_of_le to hb3.size) g2)
        | (go_simp; go_at_call 40; refine (clone_row A2 n2 c2 (zk) _ HN2.out (by have := HL.out; have := HN2.out; omega) (rdB_go HRB.out (by first | exact (Below.refl _ _).drew | exact Below.refl _ _))).mono ?_; rintro e w3 ⟨x, rfl, hx, hbx⟩; obtain ⟨C, kc, eu, -, -⟩ := (Sr.of_row hx).shape; rw [ints_length] at eu; subst eu; have hb3 : Below wb.heap.size wb w3 := bel_of (by first | exact (Below.refl _ _).drew | exact Below.refl _ _) hbx; have g0 := (hb3.cell to).trans hg0; have g1 := (hb3.cell tb).trans hg1; have g2 := (hb3.frozen to).trans hg2; have n3 : w.heap.size + 1 + 1 < w3.heap.size := Nat.lt_of_lt_of_le to hb3.size; have m3 : wr.heap.size < w3.heap.size := Nat.lt_of_lt_of_le tb hb3.size))
      all_goals
        have HX := hide (HC.out.app (by have := HN.out; omega) (bel_of HWB.out hb3) (by rw [← HZK.out]; exact row_le hx (Nat.le_of_lt tb)) ((Below.refl _ _).alloc (Nat.le_refl _) _) hown hgr hv')
        clear hown hgr hv' k0 k2 hx hbx hb3 g0 g1 g2
        go_wp2
        go_roundg (n + 1 - (k + 1))
        case measure => have := HG.out; omega
        case rel => exact ⟨_, rfl, k + 1, _, _, by omega, rfl, by go_num, HX.out⟩
    · have hi' : ¬ (k : Int) < (n : Int) := by omega
      obtain rfl : k = z.length := by have := HN.out; omega
      have hOM := HC.out.inv.fin
      have hC1 := HC.out.next (y := y)
      obtain ⟨C0, k0', ev, -, -⟩ := (Sr.of_row HC.out.inv.own).shape
      have hl : us.length = z.length := by have := HC.out.inv.rows.len; rwa [List.take_length] at this
      rw [hl] at ev
      subst ev
      have hbv := HC.out.src
      have H1 := hide hC1
      have HOM := hide hOM
      have HLE := hide HC.out.inv.le
      clear hOM hC1 hl HC HG
      obtain ⟨wl, el⟩ : ∃ wl : World, wl = wr := ⟨_, rfl⟩
      obtain rfl := el
      go_wp2_with fail
      go_loopg [29] (n' + 1) (fun g i wo => ∃ wr : World, wr = wo ∧ ∃ k v us, k ≤ n' ∧ g = n' + 1 - k ∧ i = .int .i64 k ∧ CI 1 w wr v (.slice C0 z.length k0') (.slice A' n' c') us y k wl.heap.size ∧ OwnM true wr (.slice C0 z.length k0') z (w.heap.size + 3) wl.heap.size)
      case atStart => exact ⟨_, rfl, 0, _, [], Nat.zero_le _, rfl, rfl, H1.out, HOM.out⟩
      case round =>
        obtain ⟨wr, rfl, k, v, us, hk, hg, rfl, hC, hM⟩ := hrel
        have HG := hide hg
        have HC := hide hC
        have HM := hide hM
        clear hg hC hM H1 HOM
        by_cases hlt : k < n'
        · have hi' : (k : Int) < (n' : Int) := by omega
          have hbr : Below w.heap.size w wr := HC.out.inv.bel
          obtain ⟨b, off, A2, n2, c2, rfl, hb, hcell, hn2, hc2, hcm2, hrd⟩ := (rdM_at HA'.out hbr) k (by have := HN'.out; omega)
          have hl := HS'.out k (by have := HN'.out; omega)
          obtain ⟨zk, hzk⟩ : ∃ zk, zk = y.getD k [] := ⟨_, rfl⟩
          rw [← hzk] at hn2 hrd hl
          have HL := hide hl
          have HZK := hide hzk
          clear hl hzk
          have HN2 := hide hn2
          have hb1 : Below wr.heap.size wr (wr.alloc (.cells #[.slice A2 n2 c2] 37)) := (Below.refl _ _).alloc (Nat.le_refl _) _
          have HRD := hide ((hrd.below hb1 (Nat.le_refl _)).more hb1.size)
          have HB1 := hide hb1
          have ho0 : wr.cell? ⟨w.heap.size + 1 + 1, 1, none⟩ = some v := by have h := HC.out.out.cell (i := 1) (by omega); simpa using h
          have hfo : wr.frozen? ⟨w.heap.size + 1 + 1, 1, none⟩ = false := HC.out.out.frozen 1
          have hlo : w.heap.size + 1 + 1 < wr.heap.size := HC.out.out.lt
          have hvp : v.ownBlock ≠ some (w.heap.size + 1 + 1) := fun e => by have := (HC.out.inv.own.lt _ e).1; have := HC.out.le; omega
          have hvq : v.ownBlock ≠ some wr.heap.size := fun e => by have := (HC.out.inv.own.lt _ e).2; omega
          clear hn2 hrd hcm2 hc2 hb1 hbr
          go_wp2_with fail
          have hg0 : (wr.alloc (.cells #[.slice A2 n2 c2] 37)).cell? ⟨w.heap.size + 1 + 1, 1, none⟩ = some v := by go_simp
          have hg1 : (wr.alloc (.cells #[.slice A2 n2 c2] 37)).cell? ⟨wr.heap.size, 0, none⟩ = some (.slice A2 n2 c2) := by go_simp
          have hg2 : (wr.alloc (.cells #[.slice A2 n2 c2] 37)).frozen? ⟨w.heap.size + 1 + 1, 1, none⟩ = false := by go_simp
          obtain ⟨wb, hwb⟩ : ∃ W : World, W = wr.alloc (.cells #[.slice A2 n2 c2] 37) := ⟨_, rfl⟩
          have tb : wr.heap.size < wb.heap.size := by rw [hwb]; simp
          have to : w.heap.size + 1 + 1 < wb.heap.size := by omega
          rw [← hwb] at hg0 hg1 hg2 ⊢
          have HWB : Hid (Below wr.heap.size wr wb) := hide (by rw [hwb]; exact HB1.out)
          have HRB : Hid (RdB .i64 wb A2 (zk) wb.heap.size) := hide (by rw [hwb]; exact HRD.out)
          clear hwb
          go_region_law (first
            | (refine step_app _ (by rfl) (.tmp 34) (.tmp 39) 24 (by rfl) wl.heap.size 37 i0 (.agg #[.slice none 0 0]) 24 Try.underlying24 hi hz0 hz1 hz2 rfl v k us (by rfl) (((HC.out.inv.below (bel_of HWB.out hb3)).below ((Below.refl _ _).alloc (Nat.le_refl _) _)).own) _ 1 1 [.slice C zk.length kc] _ (by rfl) rfl (rdV_one (by go_simp)) (by simp [Value.oneCell']) (by unfold maxLen; omega) (by omega) (by have := hb3.size; have := HWB.out.size; have := HC.out.inv.le; simp <;> omega) ?_; intro v' w4 hown hgr hv'; obtain ⟨D, kd, ev, -, -⟩ := (Sr.of_row hown).shape; (have ev2 : v' = .slice D (us.length + 1) kd := (by rw [ev]; simp)); clear ev; subst ev2; have ko0 := grown_cell hgr hvp (Nat.lt_of_lt_of_le to hb3.size) g0; have k2 := grown_frozen hgr hvp (Nat.lt_of_lt_of_le to hb3.size) g2)
            | (go_simp; go_at_call 40; refine (clone_row A2 n2 c2 (zk) _ HN2.out (by have := HL.out; have := HN2.out; omega) (rdB_go HRB.out (by first | exact (Below.refl _ _).drew | exact Below.refl _ _))).mono ?_; rintro e w3 ⟨x, rfl, hx, hbx⟩; obtain ⟨C, kc, eu, -, -⟩ := (Sr.of_row hx).shape; rw [ints_length] at eu; subst eu; have hb3 : Below wb.heap.size wb w3 := bel_of (by first | exact (Below.refl _ _).drew | exact Below.refl _ _) hbx; have g0 := (hb3.cell to).trans hg0; have g1 := (hb3.cell tb).trans hg1; have g2 := (hb3.frozen to).trans hg2; have n3 : w.heap.size + 1 + 1 < w3.heap.size := Nat.lt_of_lt_of_le to hb3.size; have m3 : wr.heap.size < w3.heap.size := Nat.lt_of_lt_of_le tb hb3.size))
          all_goals
            have HX := hide (HC.out.app (by have := HN'.out; omega) (bel_of HWB.out hb3) (by rw [← HZK.out]; exact row_le hx (Nat.le_of_lt tb)) ((Below.refl _ _).alloc (Nat.le_refl _) _) hown hgr hv')
            have HY := hide (HM.out.appd (bel_of HWB.out hb3) ((Below.refl _ _).alloc (Nat.le_refl _) _) hgr (fun g e => (HC.out.inv.own.lt g e).1) (show w.heap.size + 2 < w.heap.size + 3 by omega) 1 (.slice D (us.length + 1) kd))
            clear hown hgr hv' ko0 k2 hx hbx hb3 g0 g1 g2
            go_wp2
            go_roundg (n' + 1 - (k + 1))
            case measure => have := HG.out; omega
            case rel => exact ⟨_, rfl, k + 1, _, _, by omega, rfl, by go_num, HX.out, HY.out⟩
        · have hi' : ¬ (k : Int) < (n' : Int) := by omega
          obtain rfl : k = y.length := by have := HN'.out; omega
          have hOM := HC.out.inv.fin
          obtain ⟨D0, m0, ev, -, -⟩ := (Sr.of_row HC.out.inv.own).shape
          have hl : us.length = y.length := by have := HC.out.inv.rows.len; rwa [List.take_length] at this
          rw [hl] at ev
          subst ev
          have k0 := HC.out.out.cell (i := 0) (by omega)
          have k1 := HC.out.out.cell (i := 1) (by omega)
          have r0 := HC.out.res.cell (i := 0) (by omega)
          have r1 := HC.out.res.cell (i := 1) (by omega)
          have f0 := HC.out.res.frozen 0
          have f1 := HC.out.res.frozen 1
          simp at k0 k1
          have ht : Touch [w.heap.size + 1] wr ((wr.setCell ⟨w.heap.size + 1, 0, none⟩ (.slice C0 z.length k0')).setCell ⟨w.heap.size + 1, 1, none⟩ (.slice D0 y.length m0)) := ((Touch.refl _ _).setCell (by simp) _).setCell (by simp) _
          have hle := HC.out.inv.le
          have hfin : LRes true w ((wr.setCell ⟨w.heap.size + 1, 0, none⟩ (.slice C0 z.length k0')).setCell ⟨w.heap.size + 1, 1, none⟩ (.slice D0 y.length m0)) (.agg #[.slice C0 z.length k0', .slice D0 y.length m0]) z y :=
            ⟨C0, k0', D0, m0, _, _, _, _, rfl, HM.out.touch ht (fun g hg => by simp at hg; omega), hOM.touch ht (fun g hg => by have := HC.out.le; simp at hg; omega), by omega, Nat.le_trans hle ht.size, by have := HC.out.le; omega, ht.size, .inl (Nat.le_refl _), Below.touch HC.out.inv.bel ht (by simp <;> omega) HC.out.inv.bel.size⟩
          have HFIN := hide hfin
          clear hfin ht hOM hle hl
          go_wp2
          exact bodyPost_ret (v := .agg #[.slice C0 z.length k0', .slice D0 y.length m0]) (by simp [results, Try.results21, go_sem, r0, r1]) rfl ⟨_, rfl, HFIN.out⟩
end Go.Proofs.Ytdhocncfpapncab
