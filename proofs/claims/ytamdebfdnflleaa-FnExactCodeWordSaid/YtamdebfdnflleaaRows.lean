/-
  No cell of these rows narrows 'for every input' (looked for: loops, veiled, ifaces, maps, wideKeys, modest, calm, conditions, laid).
  DERIVED. THE GIVEN ROWS OF THIS SEAT. 12 by the template 'for every input the law returns true; each argument reads behind the call as it read before'; 0 by the template 'total and deterministic' (their statements: YtamdebfdnflleaaTotals.lean).
  GIVEN WITH THE SEED: the statements are not yours to turn. If you find one false, say at which input.
  Laid BY PROGRAM, IN A SANDBOX (cutbox-rows.mjs): the forced cells as the released guide's own fill.sh prints them over the translation 5ba4f810ddf4d9e9… (all of the seat's roots in one cut). By AI agents, Wed Nov 11 2026. No macro, syntax, notation, axiom, sorry.
-/
import Derived.Test.YtamdebfdnflleaaChecked
import GoSem.Claim
import GoSem.ClaimJoined
import GoSem.ClaimMapViews
import Derived.JoinedTies
import Derived.KernelRfl
namespace Go.Proofs.Ytamdebfdnflleaa
/- THE CELL 'sum', in the pinned program and in every row, IS THE sha256 OF THE DUMP (.gsa) THAT YtamdebfdnflleaaProg.lean LOADS. Nothing in Lean hashes anything: it is a label: what it is worth is what the hold of that sum in a sandbox is worth. -/
noncomputable def Try.pinned : Pinned := { name := "ytamdebfdnflleaa", sum := "5ba4f810ddf4d9e9217751a62ac4a978a216bccdf25b530f7d61f8e912275867", checked := Try.checked }
namespace Rows
def none {H : Type} : Left H := { results := [], args := [] }

/-- 'laws.FnExactConstants': WHATEVER THE INPUT: true; the input reads as it did. -/
def fnExactConstantsSpec : ChangeSpec := { name := "fnExactConstants", fn := fun _ => fun
  | [] => { results := [.lit (.bool true)], args := [] }
  | _ => none }
def fnExactConstantsRow : OpenClaim := { program := "ytamdebfdnflleaa", sum := "5ba4f810ddf4d9e9217751a62ac4a978a216bccdf25b530f7d61f8e912275867", func := "loop.example/g01538/laws.FnExactConstants", spec := "fnExactConstants", apart := false }
def FnExactConstantsSaid : Prop := fnExactConstantsRow.holds Try.pinned (OpenSpec.ofChange fnExactConstantsSpec)

/-- ITS FALSE NEIGHBOUR: 'it returns false'. Refute it at one input. -/
def fnExactConstantsWrong : ChangeSpec := { name := "fnExactConstants", fn := fun _ => fun
  | [] => { results := [.lit (.bool false)], args := [] }
  | _ => none }
def FnExactConstantsWrongFalsely : Prop := fnExactConstantsRow.holds Try.pinned (OpenSpec.ofChange fnExactConstantsWrong)

/-- 'laws.FnExactHandleOk': WHATEVER THE INPUT: true; the input reads as it did. -/
def fnExactHandleOkSpec : ChangeSpec := { name := "fnExactHandleOk", fn := fun _ => fun
  | [d] => { results := [.lit (.bool true)], args := [d] }
  | _ => none }
def fnExactHandleOkRow : OpenClaim := { program := "ytamdebfdnflleaa", sum := "5ba4f810ddf4d9e9217751a62ac4a978a216bccdf25b530f7d61f8e912275867", func := "loop.example/g01538/laws.FnExactHandleOk", spec := "fnExactHandleOk", apart := false }
def FnExactHandleOkSaid : Prop := fnExactHandleOkRow.holds Try.pinned (OpenSpec.ofChange fnExactHandleOkSpec)

/-- ITS FALSE NEIGHBOUR: 'it returns false'. Refute it at one input. -/
def fnExactHandleOkWrong : ChangeSpec := { name := "fnExactHandleOk", fn := fun _ => fun
  | [d] => { results := [.lit (.bool false)], args := [d] }
  | _ => none }
def FnExactHandleOkWrongFalsely : Prop := fnExactHandleOkRow.holds Try.pinned (OpenSpec.ofChange fnExactHandleOkWrong)

/-- 'laws.FnExactApart': WHATEVER THE INPUT: true; the input reads as it did. -/
def fnExactApartSpec : ChangeSpec := { name := "fnExactApart", fn := fun _ => fun
  | [d1, d2] => { results := [.lit (.bool true)], args := [d1, d2] }
  | _ => none }
def fnExactApartRow : OpenClaim := { program := "ytamdebfdnflleaa", sum := "5ba4f810ddf4d9e9217751a62ac4a978a216bccdf25b530f7d61f8e912275867", func := "loop.example/g01538/laws.FnExactApart", spec := "fnExactApart", apart := false }
def FnExactApartSaid : Prop := fnExactApartRow.holds Try.pinned (OpenSpec.ofChange fnExactApartSpec)

/-- ITS FALSE NEIGHBOUR: 'it returns false'. Refute it at one input. -/
def fnExactApartWrong : ChangeSpec := { name := "fnExactApart", fn := fun _ => fun
  | [d1, d2] => { results := [.lit (.bool false)], args := [d1, d2] }
  | _ => none }
def FnExactApartWrongFalsely : Prop := fnExactApartRow.holds Try.pinned (OpenSpec.ofChange fnExactApartWrong)

/-- 'laws.FnExactCodeWord': WHATEVER THE INPUT: true; the input reads as it did. -/
def fnExactCodeWordSpec : ChangeSpec := { name := "fnExactCodeWord", fn := fun _ => fun
  | [d] => { results := [.lit (.bool true)], args := [d] }
  | _ => none }
def fnExactCodeWordRow : OpenClaim := { program := "ytamdebfdnflleaa", sum := "5ba4f810ddf4d9e9217751a62ac4a978a216bccdf25b530f7d61f8e912275867", func := "loop.example/g01538/laws.FnExactCodeWord", spec := "fnExactCodeWord", apart := false }
def FnExactCodeWordSaid : Prop := fnExactCodeWordRow.holds Try.pinned (OpenSpec.ofChange fnExactCodeWordSpec)

/-- ITS FALSE NEIGHBOUR: 'it returns false'. Refute it at one input. -/
def fnExactCodeWordWrong : ChangeSpec := { name := "fnExactCodeWord", fn := fun _ => fun
  | [d] => { results := [.lit (.bool false)], args := [d] }
  | _ => none }
def FnExactCodeWordWrongFalsely : Prop := fnExactCodeWordRow.holds Try.pinned (OpenSpec.ofChange fnExactCodeWordWrong)

/-- 'laws.FnExactSlotAt': WHATEVER THE INPUT: true; the input reads as it did. -/
def fnExactSlotAtSpec : ChangeSpec := { name := "fnExactSlotAt", fn := fun _ => fun
  | [d1, d2] => { results := [.lit (.bool true)], args := [d1, d2] }
  | _ => none }
def fnExactSlotAtRow : OpenClaim := { program := "ytamdebfdnflleaa", sum := "5ba4f810ddf4d9e9217751a62ac4a978a216bccdf25b530f7d61f8e912275867", func := "loop.example/g01538/laws.FnExactSlotAt", spec := "fnExactSlotAt", apart := false }
def FnExactSlotAtSaid : Prop := fnExactSlotAtRow.holds Try.pinned (OpenSpec.ofChange fnExactSlotAtSpec)

/-- ITS FALSE NEIGHBOUR: 'it returns false'. Refute it at one input. -/
def fnExactSlotAtWrong : ChangeSpec := { name := "fnExactSlotAt", fn := fun _ => fun
  | [d1, d2] => { results := [.lit (.bool false)], args := [d1, d2] }
  | _ => none }
def FnExactSlotAtWrongFalsely : Prop := fnExactSlotAtRow.holds Try.pinned (OpenSpec.ofChange fnExactSlotAtWrong)

/-- 'laws.FnExactHex': WHATEVER THE INPUT: true; the input reads as it did. -/
def fnExactHexSpec : ChangeSpec := { name := "fnExactHex", fn := fun _ => fun
  | [d] => { results := [.lit (.bool true)], args := [d] }
  | _ => none }
def fnExactHexRow : OpenClaim := { program := "ytamdebfdnflleaa", sum := "5ba4f810ddf4d9e9217751a62ac4a978a216bccdf25b530f7d61f8e912275867", func := "loop.example/g01538/laws.FnExactHex", spec := "fnExactHex", apart := false }
def FnExactHexSaid : Prop := fnExactHexRow.holds Try.pinned (OpenSpec.ofChange fnExactHexSpec)

/-- ITS FALSE NEIGHBOUR: 'it returns false'. Refute it at one input. -/
def fnExactHexWrong : ChangeSpec := { name := "fnExactHex", fn := fun _ => fun
  | [d] => { results := [.lit (.bool false)], args := [d] }
  | _ => none }
def FnExactHexWrongFalsely : Prop := fnExactHexRow.holds Try.pinned (OpenSpec.ofChange fnExactHexWrong)

/-- 'laws.FnExactHandleOf': WHATEVER THE INPUT: true; the input reads as it did. -/
def fnExactHandleOfSpec : ChangeSpec := { name := "fnExactHandleOf", fn := fun _ => fun
  | [d1, d2] => { results := [.lit (.bool true)], args := [d1, d2] }
  | _ => none }
def fnExactHandleOfRow : OpenClaim := { program := "ytamdebfdnflleaa", sum := "5ba4f810ddf4d9e9217751a62ac4a978a216bccdf25b530f7d61f8e912275867", func := "loop.example/g01538/laws.FnExactHandleOf", spec := "fnExactHandleOf", apart := false }
def FnExactHandleOfSaid : Prop := fnExactHandleOfRow.holds Try.pinned (OpenSpec.ofChange fnExactHandleOfSpec)

/-- ITS FALSE NEIGHBOUR: 'it returns false'. Refute it at one input. -/
def fnExactHandleOfWrong : ChangeSpec := { name := "fnExactHandleOf", fn := fun _ => fun
  | [d1, d2] => { results := [.lit (.bool false)], args := [d1, d2] }
  | _ => none }
def FnExactHandleOfWrongFalsely : Prop := fnExactHandleOfRow.holds Try.pinned (OpenSpec.ofChange fnExactHandleOfWrong)

/-- 'laws.FnExactMemOk': WHATEVER THE INPUT: true; the input reads as it did. -/
def fnExactMemOkSpec : ChangeSpec := { name := "fnExactMemOk", fn := fun _ => fun
  | [d] => { results := [.lit (.bool true)], args := [d] }
  | _ => none }
def fnExactMemOkRow : OpenClaim := { program := "ytamdebfdnflleaa", sum := "5ba4f810ddf4d9e9217751a62ac4a978a216bccdf25b530f7d61f8e912275867", func := "loop.example/g01538/laws.FnExactMemOk", spec := "fnExactMemOk", unfollowed := true, recurses := true, apart := false }
def FnExactMemOkSaid : Prop := fnExactMemOkRow.holds Try.pinned (OpenSpec.ofChange fnExactMemOkSpec)

/-- ITS FALSE NEIGHBOUR: 'it returns false'. Refute it at one input. -/
def fnExactMemOkWrong : ChangeSpec := { name := "fnExactMemOk", fn := fun _ => fun
  | [d] => { results := [.lit (.bool false)], args := [d] }
  | _ => none }
def FnExactMemOkWrongFalsely : Prop := fnExactMemOkRow.holds Try.pinned (OpenSpec.ofChange fnExactMemOkWrong)

/-- 'laws.FnExactIndexOf': WHATEVER THE INPUT: true; the input reads as it did. -/
def fnExactIndexOfSpec : ChangeSpec := { name := "fnExactIndexOf", fn := fun _ => fun
  | [d] => { results := [.lit (.bool true)], args := [d] }
  | _ => none }
def fnExactIndexOfRow : OpenClaim := { program := "ytamdebfdnflleaa", sum := "5ba4f810ddf4d9e9217751a62ac4a978a216bccdf25b530f7d61f8e912275867", func := "loop.example/g01538/laws.FnExactIndexOf", spec := "fnExactIndexOf", apart := false }
def FnExactIndexOfSaid : Prop := fnExactIndexOfRow.holds Try.pinned (OpenSpec.ofChange fnExactIndexOfSpec)

/-- ITS FALSE NEIGHBOUR: 'it returns false'. Refute it at one input. -/
def fnExactIndexOfWrong : ChangeSpec := { name := "fnExactIndexOf", fn := fun _ => fun
  | [d] => { results := [.lit (.bool false)], args := [d] }
  | _ => none }
def FnExactIndexOfWrongFalsely : Prop := fnExactIndexOfRow.holds Try.pinned (OpenSpec.ofChange fnExactIndexOfWrong)

/-- 'laws.FnExactPageOf': WHATEVER THE INPUT: true; the input reads as it did. -/
def fnExactPageOfSpec : ChangeSpec := { name := "fnExactPageOf", fn := fun _ => fun
  | [d] => { results := [.lit (.bool true)], args := [d] }
  | _ => none }
def fnExactPageOfRow : OpenClaim := { program := "ytamdebfdnflleaa", sum := "5ba4f810ddf4d9e9217751a62ac4a978a216bccdf25b530f7d61f8e912275867", func := "loop.example/g01538/laws.FnExactPageOf", spec := "fnExactPageOf", apart := false }
def FnExactPageOfSaid : Prop := fnExactPageOfRow.holds Try.pinned (OpenSpec.ofChange fnExactPageOfSpec)

/-- ITS FALSE NEIGHBOUR: 'it returns false'. Refute it at one input. -/
def fnExactPageOfWrong : ChangeSpec := { name := "fnExactPageOf", fn := fun _ => fun
  | [d] => { results := [.lit (.bool false)], args := [d] }
  | _ => none }
def FnExactPageOfWrongFalsely : Prop := fnExactPageOfRow.holds Try.pinned (OpenSpec.ofChange fnExactPageOfWrong)

/-- 'laws.FnExactOwnAt': WHATEVER THE INPUT: true; the input reads as it did. -/
def fnExactOwnAtSpec : ChangeSpec := { name := "fnExactOwnAt", fn := fun _ => fun
  | [d1, d2] => { results := [.lit (.bool true)], args := [d1, d2] }
  | _ => none }
def fnExactOwnAtRow : OpenClaim := { program := "ytamdebfdnflleaa", sum := "5ba4f810ddf4d9e9217751a62ac4a978a216bccdf25b530f7d61f8e912275867", func := "loop.example/g01538/laws.FnExactOwnAt", spec := "fnExactOwnAt", apart := false }
def FnExactOwnAtSaid : Prop := fnExactOwnAtRow.holds Try.pinned (OpenSpec.ofChange fnExactOwnAtSpec)

/-- ITS FALSE NEIGHBOUR: 'it returns false'. Refute it at one input. -/
def fnExactOwnAtWrong : ChangeSpec := { name := "fnExactOwnAt", fn := fun _ => fun
  | [d1, d2] => { results := [.lit (.bool false)], args := [d1, d2] }
  | _ => none }
def FnExactOwnAtWrongFalsely : Prop := fnExactOwnAtRow.holds Try.pinned (OpenSpec.ofChange fnExactOwnAtWrong)

/-- 'laws.FnExactHandleGen': WHATEVER THE INPUT: true; the input reads as it did. -/
def fnExactHandleGenSpec : ChangeSpec := { name := "fnExactHandleGen", fn := fun _ => fun
  | [d] => { results := [.lit (.bool true)], args := [d] }
  | _ => none }
def fnExactHandleGenRow : OpenClaim := { program := "ytamdebfdnflleaa", sum := "5ba4f810ddf4d9e9217751a62ac4a978a216bccdf25b530f7d61f8e912275867", func := "loop.example/g01538/laws.FnExactHandleGen", spec := "fnExactHandleGen", apart := false }
def FnExactHandleGenSaid : Prop := fnExactHandleGenRow.holds Try.pinned (OpenSpec.ofChange fnExactHandleGenSpec)

/-- ITS FALSE NEIGHBOUR: 'it returns false'. Refute it at one input. -/
def fnExactHandleGenWrong : ChangeSpec := { name := "fnExactHandleGen", fn := fun _ => fun
  | [d] => { results := [.lit (.bool false)], args := [d] }
  | _ => none }
def FnExactHandleGenWrongFalsely : Prop := fnExactHandleGenRow.holds Try.pinned (OpenSpec.ofChange fnExactHandleGenWrong)

/- THE SECOND FORM. 'bulk': how many values and letters a reading holds, each counted each time it is reached (what is shared counts as often as it is met; a slice's spare places count too). A statement '..UptoSaid' is the law's where the arguments, and the package variables that the reading takes, are together of bulk at most 1048576: NARROWER than '..Said'. Prove '..Said' where nothing that the law and all that it calls make is longer than what came in: it says more and counts as full. Else prove '..UptoSaid'. A law counts once. -/
mutual
def uptoBulk {H : Type} : DataW H → Nat
  | .lit (.string bytes) => bytes.length + 1
  | .lit _ => 1
  | .nil => 1
  | .ptr d => uptoBulk d + 1
  | .slice elems spare => uptoBulkAll elems + uptoBulkAll spare + 1
  | .agg parts => uptoBulkAll parts + 1
  | .iface _ d => uptoBulk d + 1
  | .map entries => uptoBulkEntries entries + 1
  | .held _ => 1
def uptoBulkAll {H : Type} : List (DataW H) → Nat
  | [] => 0
  | d :: r => uptoBulk d + uptoBulkAll r
def uptoBulkEntries {H : Type} : List (Lit × DataW H) → Nat
  | [] => 0
  | x :: r => uptoBulkEntry x + uptoBulkEntries r
def uptoBulkEntry {H : Type} : Lit × DataW H → Nat
  | (.string bytes, d) => bytes.length + uptoBulk d + 1
  | (_, d) => uptoBulk d + 1
 end
def uptoSmall : (H : Type) → List (DataW H) → Bool := fun _ ds => decide (uptoBulkAll ds ≤ 1048576)
def OpenSpec.upto (s : _root_.Go.ChangeSpec) : _root_.Go.OpenSpec := { _root_.Go.OpenSpec.ofChange s with cond := some uptoSmall }

/-- 'laws.FnExactConstants', WHERE WHAT IT READS IS OF BULK AT MOST 1048576: true; the input reads as it did. -/
def fnExactConstantsUptoRow : OpenClaim := { program := "ytamdebfdnflleaa", sum := "5ba4f810ddf4d9e9217751a62ac4a978a216bccdf25b530f7d61f8e912275867", func := "loop.example/g01538/laws.FnExactConstants", spec := "fnExactConstants", apart := false, narrowed := true }
def FnExactConstantsUptoSaid : Prop := fnExactConstantsUptoRow.holds Try.pinned (OpenSpec.upto fnExactConstantsSpec)

/-- 'laws.FnExactHandleOk', WHERE WHAT IT READS IS OF BULK AT MOST 1048576: true; the input reads as it did. -/
def fnExactHandleOkUptoRow : OpenClaim := { program := "ytamdebfdnflleaa", sum := "5ba4f810ddf4d9e9217751a62ac4a978a216bccdf25b530f7d61f8e912275867", func := "loop.example/g01538/laws.FnExactHandleOk", spec := "fnExactHandleOk", apart := false, narrowed := true }
def FnExactHandleOkUptoSaid : Prop := fnExactHandleOkUptoRow.holds Try.pinned (OpenSpec.upto fnExactHandleOkSpec)

/-- 'laws.FnExactApart', WHERE WHAT IT READS IS OF BULK AT MOST 1048576: true; the input reads as it did. -/
def fnExactApartUptoRow : OpenClaim := { program := "ytamdebfdnflleaa", sum := "5ba4f810ddf4d9e9217751a62ac4a978a216bccdf25b530f7d61f8e912275867", func := "loop.example/g01538/laws.FnExactApart", spec := "fnExactApart", apart := false, narrowed := true }
def FnExactApartUptoSaid : Prop := fnExactApartUptoRow.holds Try.pinned (OpenSpec.upto fnExactApartSpec)

/-- 'laws.FnExactCodeWord', WHERE WHAT IT READS IS OF BULK AT MOST 1048576: true; the input reads as it did. -/
def fnExactCodeWordUptoRow : OpenClaim := { program := "ytamdebfdnflleaa", sum := "5ba4f810ddf4d9e9217751a62ac4a978a216bccdf25b530f7d61f8e912275867", func := "loop.example/g01538/laws.FnExactCodeWord", spec := "fnExactCodeWord", apart := false, narrowed := true }
def FnExactCodeWordUptoSaid : Prop := fnExactCodeWordUptoRow.holds Try.pinned (OpenSpec.upto fnExactCodeWordSpec)

/-- 'laws.FnExactSlotAt', WHERE WHAT IT READS IS OF BULK AT MOST 1048576: true; the input reads as it did. -/
def fnExactSlotAtUptoRow : OpenClaim := { program := "ytamdebfdnflleaa", sum := "5ba4f810ddf4d9e9217751a62ac4a978a216bccdf25b530f7d61f8e912275867", func := "loop.example/g01538/laws.FnExactSlotAt", spec := "fnExactSlotAt", apart := false, narrowed := true }
def FnExactSlotAtUptoSaid : Prop := fnExactSlotAtUptoRow.holds Try.pinned (OpenSpec.upto fnExactSlotAtSpec)

/-- 'laws.FnExactHex', WHERE WHAT IT READS IS OF BULK AT MOST 1048576: true; the input reads as it did. -/
def fnExactHexUptoRow : OpenClaim := { program := "ytamdebfdnflleaa", sum := "5ba4f810ddf4d9e9217751a62ac4a978a216bccdf25b530f7d61f8e912275867", func := "loop.example/g01538/laws.FnExactHex", spec := "fnExactHex", apart := false, narrowed := true }
def FnExactHexUptoSaid : Prop := fnExactHexUptoRow.holds Try.pinned (OpenSpec.upto fnExactHexSpec)

/-- 'laws.FnExactHandleOf', WHERE WHAT IT READS IS OF BULK AT MOST 1048576: true; the input reads as it did. -/
def fnExactHandleOfUptoRow : OpenClaim := { program := "ytamdebfdnflleaa", sum := "5ba4f810ddf4d9e9217751a62ac4a978a216bccdf25b530f7d61f8e912275867", func := "loop.example/g01538/laws.FnExactHandleOf", spec := "fnExactHandleOf", apart := false, narrowed := true }
def FnExactHandleOfUptoSaid : Prop := fnExactHandleOfUptoRow.holds Try.pinned (OpenSpec.upto fnExactHandleOfSpec)

/-- 'laws.FnExactMemOk', WHERE WHAT IT READS IS OF BULK AT MOST 1048576: true; the input reads as it did. -/
def fnExactMemOkUptoRow : OpenClaim := { program := "ytamdebfdnflleaa", sum := "5ba4f810ddf4d9e9217751a62ac4a978a216bccdf25b530f7d61f8e912275867", func := "loop.example/g01538/laws.FnExactMemOk", spec := "fnExactMemOk", unfollowed := true, recurses := true, apart := false, narrowed := true }
def FnExactMemOkUptoSaid : Prop := fnExactMemOkUptoRow.holds Try.pinned (OpenSpec.upto fnExactMemOkSpec)

/-- 'laws.FnExactIndexOf', WHERE WHAT IT READS IS OF BULK AT MOST 1048576: true; the input reads as it did. -/
def fnExactIndexOfUptoRow : OpenClaim := { program := "ytamdebfdnflleaa", sum := "5ba4f810ddf4d9e9217751a62ac4a978a216bccdf25b530f7d61f8e912275867", func := "loop.example/g01538/laws.FnExactIndexOf", spec := "fnExactIndexOf", apart := false, narrowed := true }
def FnExactIndexOfUptoSaid : Prop := fnExactIndexOfUptoRow.holds Try.pinned (OpenSpec.upto fnExactIndexOfSpec)

/-- 'laws.FnExactPageOf', WHERE WHAT IT READS IS OF BULK AT MOST 1048576: true; the input reads as it did. -/
def fnExactPageOfUptoRow : OpenClaim := { program := "ytamdebfdnflleaa", sum := "5ba4f810ddf4d9e9217751a62ac4a978a216bccdf25b530f7d61f8e912275867", func := "loop.example/g01538/laws.FnExactPageOf", spec := "fnExactPageOf", apart := false, narrowed := true }
def FnExactPageOfUptoSaid : Prop := fnExactPageOfUptoRow.holds Try.pinned (OpenSpec.upto fnExactPageOfSpec)

/-- 'laws.FnExactOwnAt', WHERE WHAT IT READS IS OF BULK AT MOST 1048576: true; the input reads as it did. -/
def fnExactOwnAtUptoRow : OpenClaim := { program := "ytamdebfdnflleaa", sum := "5ba4f810ddf4d9e9217751a62ac4a978a216bccdf25b530f7d61f8e912275867", func := "loop.example/g01538/laws.FnExactOwnAt", spec := "fnExactOwnAt", apart := false, narrowed := true }
def FnExactOwnAtUptoSaid : Prop := fnExactOwnAtUptoRow.holds Try.pinned (OpenSpec.upto fnExactOwnAtSpec)

/-- 'laws.FnExactHandleGen', WHERE WHAT IT READS IS OF BULK AT MOST 1048576: true; the input reads as it did. -/
def fnExactHandleGenUptoRow : OpenClaim := { program := "ytamdebfdnflleaa", sum := "5ba4f810ddf4d9e9217751a62ac4a978a216bccdf25b530f7d61f8e912275867", func := "loop.example/g01538/laws.FnExactHandleGen", spec := "fnExactHandleGen", apart := false, narrowed := true }
def FnExactHandleGenUptoSaid : Prop := fnExactHandleGenUptoRow.holds Try.pinned (OpenSpec.upto fnExactHandleGenSpec)

end Rows
end Go.Proofs.Ytamdebfdnflleaa
