/-
  No cell of these rows narrows 'for every input' (looked for: loops, veiled, ifaces, maps, wideKeys, modest, calm, conditions, laid).
  DERIVED. THE GIVEN ROWS OF THIS SEAT. 8 by the template 'for every input the law returns true; each argument reads behind the call as it read before'; 0 by the template 'total and deterministic' (their statements: YtafhfikcpgjnaaaTotals.lean).
  GIVEN WITH THE SEED: the statements are not yours to turn. If you find one false, say at which input.
  Laid BY PROGRAM, IN A SANDBOX (cutbox-rows.mjs): the forced cells as the released guide's own fill.sh prints them over the translation b18b6f9fb927a20e… (all of the seat's roots in one cut). By AI agents, Wed Nov 11 2026. No macro, syntax, notation, axiom, sorry.
-/
import Derived.Test.YtafhfikcpgjnaaaChecked
import GoSem.Claim
import GoSem.ClaimJoined
import GoSem.ClaimMapViews
import Derived.JoinedTies
import Derived.KernelRfl
namespace Go.Proofs.Ytafhfikcpgjnaaa
/- THE CELL 'sum', in the pinned program and in every row, IS THE sha256 OF THE DUMP (.gsa) THAT YtafhfikcpgjnaaaProg.lean LOADS. Nothing in Lean hashes anything: it is a label: what it is worth is what the hold of that sum in a sandbox is worth. -/
noncomputable def Try.pinned : Pinned := { name := "ytafhfikcpgjnaaa", sum := "b18b6f9fb927a20e3c2b438449c57e89c0916fa9b184b629804ea811f5d24f74", checked := Try.checked }
namespace Rows
def none {H : Type} : Left H := { results := [], args := [] }

/-- 'laws.FnExactListsNew': WHATEVER THE INPUT: true; the input reads as it did. -/
def fnExactListsNewSpec : ChangeSpec := { name := "fnExactListsNew", fn := fun _ => fun
  | [] => { results := [.lit (.bool true)], args := [] }
  | _ => none }
def fnExactListsNewRow : OpenClaim := { program := "ytafhfikcpgjnaaa", sum := "b18b6f9fb927a20e3c2b438449c57e89c0916fa9b184b629804ea811f5d24f74", func := "loop.example/g01538/laws.FnExactListsNew", spec := "fnExactListsNew", apart := false }
def FnExactListsNewSaid : Prop := fnExactListsNewRow.holds Try.pinned (OpenSpec.ofChange fnExactListsNewSpec)

/-- ITS FALSE NEIGHBOUR: 'it returns false'. Refute it at one input. -/
def fnExactListsNewWrong : ChangeSpec := { name := "fnExactListsNew", fn := fun _ => fun
  | [] => { results := [.lit (.bool false)], args := [] }
  | _ => none }
def FnExactListsNewWrongFalsely : Prop := fnExactListsNewRow.holds Try.pinned (OpenSpec.ofChange fnExactListsNewWrong)

/-- 'laws.FnExactOnList': WHATEVER THE INPUT: true; the input reads as it did. -/
def fnExactOnListSpec : ChangeSpec := { name := "fnExactOnList", fn := fun _ => fun
  | [d1, d2] => { results := [.lit (.bool true)], args := [d1, d2] }
  | _ => none }
def fnExactOnListRow : OpenClaim := { program := "ytafhfikcpgjnaaa", sum := "b18b6f9fb927a20e3c2b438449c57e89c0916fa9b184b629804ea811f5d24f74", func := "loop.example/g01538/laws.FnExactOnList", spec := "fnExactOnList", unfollowed := true, recurses := true, apart := false }
def FnExactOnListSaid : Prop := fnExactOnListRow.holds Try.pinned (OpenSpec.ofChange fnExactOnListSpec)

/-- ITS FALSE NEIGHBOUR: 'it returns false'. Refute it at one input. -/
def fnExactOnListWrong : ChangeSpec := { name := "fnExactOnList", fn := fun _ => fun
  | [d1, d2] => { results := [.lit (.bool false)], args := [d1, d2] }
  | _ => none }
def FnExactOnListWrongFalsely : Prop := fnExactOnListRow.holds Try.pinned (OpenSpec.ofChange fnExactOnListWrong)

/-- 'laws.FnExactSameLists': WHATEVER THE INPUT: true; the input reads as it did. -/
def fnExactSameListsSpec : ChangeSpec := { name := "fnExactSameLists", fn := fun _ => fun
  | [d1, d2] => { results := [.lit (.bool true)], args := [d1, d2] }
  | _ => none }
def fnExactSameListsRow : OpenClaim := { program := "ytafhfikcpgjnaaa", sum := "b18b6f9fb927a20e3c2b438449c57e89c0916fa9b184b629804ea811f5d24f74", func := "loop.example/g01538/laws.FnExactSameLists", spec := "fnExactSameLists", unfollowed := true, recurses := true, apart := false }
def FnExactSameListsSaid : Prop := fnExactSameListsRow.holds Try.pinned (OpenSpec.ofChange fnExactSameListsSpec)

/-- ITS FALSE NEIGHBOUR: 'it returns false'. Refute it at one input. -/
def fnExactSameListsWrong : ChangeSpec := { name := "fnExactSameLists", fn := fun _ => fun
  | [d1, d2] => { results := [.lit (.bool false)], args := [d1, d2] }
  | _ => none }
def FnExactSameListsWrongFalsely : Prop := fnExactSameListsRow.holds Try.pinned (OpenSpec.ofChange fnExactSameListsWrong)

/-- 'laws.FnExactListsOk': WHATEVER THE INPUT: true; the input reads as it did. -/
def fnExactListsOkSpec : ChangeSpec := { name := "fnExactListsOk", fn := fun _ => fun
  | [d] => { results := [.lit (.bool true)], args := [d] }
  | _ => none }
def fnExactListsOkRow : OpenClaim := { program := "ytafhfikcpgjnaaa", sum := "b18b6f9fb927a20e3c2b438449c57e89c0916fa9b184b629804ea811f5d24f74", func := "loop.example/g01538/laws.FnExactListsOk", spec := "fnExactListsOk", apart := false }
def FnExactListsOkSaid : Prop := fnExactListsOkRow.holds Try.pinned (OpenSpec.ofChange fnExactListsOkSpec)

/-- ITS FALSE NEIGHBOUR: 'it returns false'. Refute it at one input. -/
def fnExactListsOkWrong : ChangeSpec := { name := "fnExactListsOk", fn := fun _ => fun
  | [d] => { results := [.lit (.bool false)], args := [d] }
  | _ => none }
def FnExactListsOkWrongFalsely : Prop := fnExactListsOkRow.holds Try.pinned (OpenSpec.ofChange fnExactListsOkWrong)

/-- 'laws.FnExactTakeOwn': WHATEVER THE INPUT: true; the input reads as it did. -/
def fnExactTakeOwnSpec : ChangeSpec := { name := "fnExactTakeOwn", fn := fun _ => fun
  | [d1, d2, d3] => { results := [.lit (.bool true)], args := [d1, d2, d3] }
  | _ => none }
def fnExactTakeOwnRow : OpenClaim := { program := "ytafhfikcpgjnaaa", sum := "b18b6f9fb927a20e3c2b438449c57e89c0916fa9b184b629804ea811f5d24f74", func := "loop.example/g01538/laws.FnExactTakeOwn", spec := "fnExactTakeOwn", apart := false }
def FnExactTakeOwnSaid : Prop := fnExactTakeOwnRow.holds Try.pinned (OpenSpec.ofChange fnExactTakeOwnSpec)

/-- ITS FALSE NEIGHBOUR: 'it returns false'. Refute it at one input. -/
def fnExactTakeOwnWrong : ChangeSpec := { name := "fnExactTakeOwn", fn := fun _ => fun
  | [d1, d2, d3] => { results := [.lit (.bool false)], args := [d1, d2, d3] }
  | _ => none }
def FnExactTakeOwnWrongFalsely : Prop := fnExactTakeOwnRow.holds Try.pinned (OpenSpec.ofChange fnExactTakeOwnWrong)

/-- 'laws.FnExactTakeGlobal': WHATEVER THE INPUT: true; the input reads as it did. -/
def fnExactTakeGlobalSpec : ChangeSpec := { name := "fnExactTakeGlobal", fn := fun _ => fun
  | [d1, d2] => { results := [.lit (.bool true)], args := [d1, d2] }
  | _ => none }
def fnExactTakeGlobalRow : OpenClaim := { program := "ytafhfikcpgjnaaa", sum := "b18b6f9fb927a20e3c2b438449c57e89c0916fa9b184b629804ea811f5d24f74", func := "loop.example/g01538/laws.FnExactTakeGlobal", spec := "fnExactTakeGlobal", apart := false }
def FnExactTakeGlobalSaid : Prop := fnExactTakeGlobalRow.holds Try.pinned (OpenSpec.ofChange fnExactTakeGlobalSpec)

/-- ITS FALSE NEIGHBOUR: 'it returns false'. Refute it at one input. -/
def fnExactTakeGlobalWrong : ChangeSpec := { name := "fnExactTakeGlobal", fn := fun _ => fun
  | [d1, d2] => { results := [.lit (.bool false)], args := [d1, d2] }
  | _ => none }
def FnExactTakeGlobalWrongFalsely : Prop := fnExactTakeGlobalRow.holds Try.pinned (OpenSpec.ofChange fnExactTakeGlobalWrong)

/-- 'laws.FnExactGive': WHATEVER THE INPUT: true; the input reads as it did. -/
def fnExactGiveSpec : ChangeSpec := { name := "fnExactGive", fn := fun _ => fun
  | [d1, d2, d3, d4] => { results := [.lit (.bool true)], args := [d1, d2, d3, d4] }
  | _ => none }
def fnExactGiveRow : OpenClaim := { program := "ytafhfikcpgjnaaa", sum := "b18b6f9fb927a20e3c2b438449c57e89c0916fa9b184b629804ea811f5d24f74", func := "loop.example/g01538/laws.FnExactGive", spec := "fnExactGive", unfollowed := true, recurses := true, apart := false }
def FnExactGiveSaid : Prop := fnExactGiveRow.holds Try.pinned (OpenSpec.ofChange fnExactGiveSpec)

/-- ITS FALSE NEIGHBOUR: 'it returns false'. Refute it at one input. -/
def fnExactGiveWrong : ChangeSpec := { name := "fnExactGive", fn := fun _ => fun
  | [d1, d2, d3, d4] => { results := [.lit (.bool false)], args := [d1, d2, d3, d4] }
  | _ => none }
def FnExactGiveWrongFalsely : Prop := fnExactGiveRow.holds Try.pinned (OpenSpec.ofChange fnExactGiveWrong)

/-- 'laws.FnExactFreeOf': WHATEVER THE INPUT: true; the input reads as it did. -/
def fnExactFreeOfSpec : ChangeSpec := { name := "fnExactFreeOf", fn := fun _ => fun
  | [d1, d2] => { results := [.lit (.bool true)], args := [d1, d2] }
  | _ => none }
def fnExactFreeOfRow : OpenClaim := { program := "ytafhfikcpgjnaaa", sum := "b18b6f9fb927a20e3c2b438449c57e89c0916fa9b184b629804ea811f5d24f74", func := "loop.example/g01538/laws.FnExactFreeOf", spec := "fnExactFreeOf", apart := false }
def FnExactFreeOfSaid : Prop := fnExactFreeOfRow.holds Try.pinned (OpenSpec.ofChange fnExactFreeOfSpec)

/-- ITS FALSE NEIGHBOUR: 'it returns false'. Refute it at one input. -/
def fnExactFreeOfWrong : ChangeSpec := { name := "fnExactFreeOf", fn := fun _ => fun
  | [d1, d2] => { results := [.lit (.bool false)], args := [d1, d2] }
  | _ => none }
def FnExactFreeOfWrongFalsely : Prop := fnExactFreeOfRow.holds Try.pinned (OpenSpec.ofChange fnExactFreeOfWrong)

/- THE SECOND FORM. 'bulk': how many values and letters a reading holds, each counted each time it is reached (what is shared counts as often as it is met; a slice's spare places count too). A statement '..UptoSaid' is the law's where the arguments, and the package variables that the reading takes, are together of bulk at most 1048576: NARROWER than '..Said'. Prove '..Said' where nothing that the law and all that it calls make is longer than what came in: it says more and counts as full. Else prove '..UptoSaid'. A law counts once. -/
mutual
def uptoBulk {H : Type} : DataW H → Nat
  | .lit (.string bytes) => bytes.length + 1
  | .lit _ => 1
  | .nil => 1
  | .ptr d => uptoBulk d + 1
  | .slice elems spare => uptoBulkAll elems + uptoBulkAll spare + 1
  | .agg parts => uptoBulkAll parts + 1
  | .iface _ d => uptoBulk d + 1
  | .map entries => uptoBulkEntries entries + 1
  | .held _ => 1
def uptoBulkAll {H : Type} : List (DataW H) → Nat
  | [] => 0
  | d :: r => uptoBulk d + uptoBulkAll r
def uptoBulkEntries {H : Type} : List (Lit × DataW H) → Nat
  | [] => 0
  | x :: r => uptoBulkEntry x + uptoBulkEntries r
def uptoBulkEntry {H : Type} : Lit × DataW H → Nat
  | (.string bytes, d) => bytes.length + uptoBulk d + 1
  | (_, d) => uptoBulk d + 1
 end
def uptoSmall : (H : Type) → List (DataW H) → Bool := fun _ ds => decide (uptoBulkAll ds ≤ 1048576)
def OpenSpec.upto (s : _root_.Go.ChangeSpec) : _root_.Go.OpenSpec := { _root_.Go.OpenSpec.ofChange s with cond := some uptoSmall }

/-- 'laws.FnExactListsNew', WHERE WHAT IT READS IS OF BULK AT MOST 1048576: true; the input reads as it did. -/
def fnExactListsNewUptoRow : OpenClaim := { program := "ytafhfikcpgjnaaa", sum := "b18b6f9fb927a20e3c2b438449c57e89c0916fa9b184b629804ea811f5d24f74", func := "loop.example/g01538/laws.FnExactListsNew", spec := "fnExactListsNew", apart := false, narrowed := true }
def FnExactListsNewUptoSaid : Prop := fnExactListsNewUptoRow.holds Try.pinned (OpenSpec.upto fnExactListsNewSpec)

/-- 'laws.FnExactOnList', WHERE WHAT IT READS IS OF BULK AT MOST 1048576: true; the input reads as it did. -/
def fnExactOnListUptoRow : OpenClaim := { program := "ytafhfikcpgjnaaa", sum := "b18b6f9fb927a20e3c2b438449c57e89c0916fa9b184b629804ea811f5d24f74", func := "loop.example/g01538/laws.FnExactOnList", spec := "fnExactOnList", unfollowed := true, recurses := true, apart := false, narrowed := true }
def FnExactOnListUptoSaid : Prop := fnExactOnListUptoRow.holds Try.pinned (OpenSpec.upto fnExactOnListSpec)

/-- 'laws.FnExactSameLists', WHERE WHAT IT READS IS OF BULK AT MOST 1048576: true; the input reads as it did. -/
def fnExactSameListsUptoRow : OpenClaim := { program := "ytafhfikcpgjnaaa", sum := "b18b6f9fb927a20e3c2b438449c57e89c0916fa9b184b629804ea811f5d24f74", func := "loop.example/g01538/laws.FnExactSameLists", spec := "fnExactSameLists", unfollowed := true, recurses := true, apart := false, narrowed := true }
def FnExactSameListsUptoSaid : Prop := fnExactSameListsUptoRow.holds Try.pinned (OpenSpec.upto fnExactSameListsSpec)

/-- 'laws.FnExactListsOk', WHERE WHAT IT READS IS OF BULK AT MOST 1048576: true; the input reads as it did. -/
def fnExactListsOkUptoRow : OpenClaim := { program := "ytafhfikcpgjnaaa", sum := "b18b6f9fb927a20e3c2b438449c57e89c0916fa9b184b629804ea811f5d24f74", func := "loop.example/g01538/laws.FnExactListsOk", spec := "fnExactListsOk", apart := false, narrowed := true }
def FnExactListsOkUptoSaid : Prop := fnExactListsOkUptoRow.holds Try.pinned (OpenSpec.upto fnExactListsOkSpec)

/-- 'laws.FnExactTakeOwn', WHERE WHAT IT READS IS OF BULK AT MOST 1048576: true; the input reads as it did. -/
def fnExactTakeOwnUptoRow : OpenClaim := { program := "ytafhfikcpgjnaaa", sum := "b18b6f9fb927a20e3c2b438449c57e89c0916fa9b184b629804ea811f5d24f74", func := "loop.example/g01538/laws.FnExactTakeOwn", spec := "fnExactTakeOwn", apart := false, narrowed := true }
def FnExactTakeOwnUptoSaid : Prop := fnExactTakeOwnUptoRow.holds Try.pinned (OpenSpec.upto fnExactTakeOwnSpec)

/-- 'laws.FnExactTakeGlobal', WHERE WHAT IT READS IS OF BULK AT MOST 1048576: true; the input reads as it did. -/
def fnExactTakeGlobalUptoRow : OpenClaim := { program := "ytafhfikcpgjnaaa", sum := "b18b6f9fb927a20e3c2b438449c57e89c0916fa9b184b629804ea811f5d24f74", func := "loop.example/g01538/laws.FnExactTakeGlobal", spec := "fnExactTakeGlobal", apart := false, narrowed := true }
def FnExactTakeGlobalUptoSaid : Prop := fnExactTakeGlobalUptoRow.holds Try.pinned (OpenSpec.upto fnExactTakeGlobalSpec)

/-- 'laws.FnExactGive', WHERE WHAT IT READS IS OF BULK AT MOST 1048576: true; the input reads as it did. -/
def fnExactGiveUptoRow : OpenClaim := { program := "ytafhfikcpgjnaaa", sum := "b18b6f9fb927a20e3c2b438449c57e89c0916fa9b184b629804ea811f5d24f74", func := "loop.example/g01538/laws.FnExactGive", spec := "fnExactGive", unfollowed := true, recurses := true, apart := false, narrowed := true }
def FnExactGiveUptoSaid : Prop := fnExactGiveUptoRow.holds Try.pinned (OpenSpec.upto fnExactGiveSpec)

/-- 'laws.FnExactFreeOf', WHERE WHAT IT READS IS OF BULK AT MOST 1048576: true; the input reads as it did. -/
def fnExactFreeOfUptoRow : OpenClaim := { program := "ytafhfikcpgjnaaa", sum := "b18b6f9fb927a20e3c2b438449c57e89c0916fa9b184b629804ea811f5d24f74", func := "loop.example/g01538/laws.FnExactFreeOf", spec := "fnExactFreeOf", apart := false, narrowed := true }
def FnExactFreeOfUptoSaid : Prop := fnExactFreeOfUptoRow.holds Try.pinned (OpenSpec.upto fnExactFreeOfSpec)

end Rows
end Go.Proofs.Ytafhfikcpgjnaaa
