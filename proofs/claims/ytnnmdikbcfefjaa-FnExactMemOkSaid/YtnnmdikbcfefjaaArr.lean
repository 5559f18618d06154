/-
  An array of zeros in a variable of its own ('met := [24]bool{}'): the three operations as one law, the cells a variable.
-/
import Derived.Test.YtnnmdikbcfefjaaMem
import Derived.Deep.WholeRow
namespace Go.Proofs.Ytnnmdikbcfefjaa
open Go.RowKit
set_option linter.unusedVariables false

section
variable {P : Program}
theorem run_build0 (w : World) (t e : TypeId) (n : Nat) (c : Array Value) (hu : P.underlying t = some (.array n e)) (he : ∃ k, (P.info? e).map (·.size) = some k) (hz : ∀ w, (zeroValue t).run P w = .ok (.agg c) w) :
    (Instr.build t #[]).run P w = .ok (.agg c) w := by
  obtain ⟨k, he⟩ := he
  obtain ⟨i, hi, hs⟩ := Option.map_eq_some_iff.1 he
  simp [Instr.build, hz w, run_underlying hu, sizeOf, typeInfo, hi, Instr.fill, Value.cells]
theorem run_alloc0 (w : World) (t : TypeId) (c : Array Value) (hz : ∀ w, (zeroValue t).run P w = .ok (.agg c) w) :
    (Instr.alloc t true (.tuple #[])).run P w = .ok (.pointer (some ⟨w.heap.size, 0, none⟩)) (w.alloc (.cells c t)) := by
  simp [Instr.alloc, hz w, newVar, newRow, Value.cells]
theorem wpList_arr {ops : Array Oper} {rest : List Oper} {o1 o2 o3 : Oper} {a : Act} {w : World} {Q : Exit → Act → World → Prop} (g1 : o1.guard = none) (g2 : o2.guard = none) (g3 : o3.guard = none) (t e : TypeId) (n : Nat) (c : Array Value) (p s : Operand)
    (h1 : o1.op = .build t #[]) (h2 : o2.op = .alloc t) (h3 : o3.op = .store t p s) (hu : P.underlying t = some (.array n e)) (he : ∃ k, (P.info? e).map (·.size) = some k)
    (hz : (P.info? t).map (fun i => (i.zero, i.size)) = some (some (.agg c), c.size)) (hone : c.all (·.oneCell') = true)
    (hp : ((a.put o1.dst (.agg c)).put o2.dst (.pointer (some ⟨w.heap.size, 0, none⟩))).eval p = .pointer (some ⟨w.heap.size, 0, none⟩))
    (hs : ((a.put o1.dst (.agg c)).put o2.dst (.pointer (some ⟨w.heap.size, 0, none⟩))).eval s = .agg c)
    (h : wpList P ops Q rest (((a.put o1.dst (.agg c)).put o2.dst (.pointer (some ⟨w.heap.size, 0, none⟩))).put o3.dst undef) (w.alloc (.cells c t))) : wpList P ops Q (o1 :: o2 :: o3 :: rest) a w := by
  obtain ⟨hzv, hsz⟩ := zero_of_info hz
  refine wpList_plain g1 fun K1 hK1 => ?_
  have r1 : (execOp a.eval o1).run P w = .ok (.value (.agg c)) w := by
    simp [execOp, h1, run_build0 w t e n c hu he hzv]
  unfold Oper.wp
  rw [r1]
  refine hK1 _ _ (wpList_plain g2 fun K2 hK2 => ?_)
  have r2 : (execOp (a.put o1.dst (.agg c)).eval o2).run P w = .ok (.value (.pointer (some ⟨w.heap.size, 0, none⟩))) (w.alloc (.cells c t)) := by
    simp [execOp, h2, run_alloc0 w t c hzv]
  unfold Oper.wp
  rw [r2]
  refine hK2 _ _ (wpList_plain g3 fun K3 hK3 => ?_)
  have r3 : (execOp ((a.put o1.dst (.agg c)).put o2.dst (.pointer (some ⟨w.heap.size, 0, none⟩))).eval o3).run P (w.alloc (.cells c t)) = .ok .skip (w.alloc (.cells c t)) := by
    simp only [execOp, h3, hp, hs, Sem.run_bind, run_storeAt_new w t c c hsz rfl hone, Result.andThen_ok, Sem.run_pure]
  unfold Oper.wp
  rw [r3]
  exact hK3 _ _ h
end
theorem arr24 : (Try.prog.info? 63).map (fun i => (i.zero, i.size)) = some (some (.agg (Array.replicate 24 (.bool false))), 24) := by kernel_rfl
/-- The array's cells behind a name. -/
theorem arr24_ex : ∃ c : Array Value, c = Array.replicate 24 (.bool false) ∧ (Try.prog.info? 63).map (fun i => (i.zero, i.size)) = some (some (.agg c), c.size) ∧ c.all (·.oneCell') = true :=
  ⟨_, rfl, by rw [Array.size_replicate]; exact arr24, by decide +kernel⟩
end Go.Proofs.Ytnnmdikbcfefjaa
