/-
  The contract of at: some byte that follows from a code.
-/
import Derived.Test.YthgnhdnedenbfacMem
import Derived.OpenShut
namespace Go.Proofs.Ythgnhdnedenbfac
open Go.RowKit
set_option linter.unusedVariables false

/-- at: some byte. -/
theorem at_any (A : Option Addr) (n c : Nat) (zs : List Int) (i : Int) (w : World) (hn : n = zs.length) (hz : n ≤ 1048580) (h0 : 0 ≤ i) (hi : i ≤ 1000) (hr : RdB .u8 w A zs w.heap.size) (hwf : ∀ x ∈ zs, (Lit.int .u8 x).wf = true) :
    Calls Try.prog 5 #[.slice A n c, .int .i64 i] w fun e w' => (∃ x : Int, e = .returned (.int .i64 x) ∧ 0 ≤ x ∧ x ≤ 255) ∧ w = w' := by
  have HN := hide hn
  have HR := hide hr
  have HW := hide hwf
  clear hwf
  have hz2 : (n : Int) ≤ 1048580 := by omega
  clear hn hr hz
  obtain ⟨k, rfl⟩ := Int.eq_ofNat_of_zero_le h0
  by_cases hlt : k < n
  · obtain ⟨b, off, rfl, hb, hc⟩ := HR.out k (by have := HN.out; omega)
    have hk0 : k < zs.length := by have := HN.out; omega
    have hw : (Lit.int .u8 (zs.getD k 0)).wf = true := HW.out _ (by rw [List.getD_eq_getElem?_getD, List.getElem?_eq_getElem hk0]; exact List.getElem_mem hk0)
    have hw2 := bounds_u8 hw
    clear hk0
    have hi1 : (k : Int) < (n : Int) := by omega
    obtain ⟨x, hx⟩ : ∃ x, x = zs.getD k 0 := ⟨_, rfl⟩
    rw [← hx] at hc hw2
    clear hx hw
    go_enter Try.func5, Try.ntmps5
    go_wp2
    go_ret
    exact ⟨⟨_, rfl, by omega, by omega⟩, rfl⟩
  · have hi1 : ¬ (k : Int) < (n : Int) := by omega
    go_enter Try.func5, Try.ntmps5
    go_wp2
    go_ret
    exact ⟨⟨_, rfl, by omega, by omega⟩, rfl⟩
end Go.Proofs.Ythgnhdnedenbfac
