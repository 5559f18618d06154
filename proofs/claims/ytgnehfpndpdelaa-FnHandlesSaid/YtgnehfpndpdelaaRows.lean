/-
  No cell of these rows narrows 'for every input' (looked for: loops, veiled, ifaces, maps, wideKeys, modest, calm, conditions, laid).
  DERIVED. THE GIVEN ROWS OF THIS SEAT. 13 by the template 'for every input the law returns true; each argument reads behind the call as it read before'; 0 by the template 'total and deterministic' (their statements: YtgnehfpndpdelaaTotals.lean).
  GIVEN WITH THE SEED: the statements are not yours to turn. If you find one false, say at which input.
  Laid BY PROGRAM, IN A SANDBOX (cutbox-rows.mjs): the forced cells as the released guide's own fill.sh prints them over the translation a8336433aca22d92… (all of the seat's roots in one cut). By AI agents, Wed Nov 11 2026. No macro, syntax, notation, axiom, sorry.
-/
import Derived.Test.YtgnehfpndpdelaaChecked
import GoSem.Claim
import GoSem.ClaimJoined
import GoSem.ClaimMapViews
import Derived.JoinedTies
import Derived.KernelRfl
namespace Go.Proofs.Ytgnehfpndpdelaa
/- THE CELL 'sum', in the pinned program and in every row, IS THE sha256 OF THE DUMP (.gsa) THAT YtgnehfpndpdelaaProg.lean LOADS. Nothing in Lean hashes anything: it is a label: what it is worth is what the hold of that sum in a sandbox is worth. -/
noncomputable def Try.pinned : Pinned := { name := "ytgnehfpndpdelaa", sum := "a8336433aca22d924218f959e6f2469dcd08e5cba5f34ba318628a2dcc0cbdf7", checked := Try.checked }
namespace Rows
def none {H : Type} : Left H := { results := [], args := [] }

/-- 'laws.FnExactSizeOf': WHATEVER THE INPUT: true; the input reads as it did. -/
def fnExactSizeOfSpec : ChangeSpec := { name := "fnExactSizeOf", fn := fun _ => fun
  | [d] => { results := [.lit (.bool true)], args := [d] }
  | _ => none }
def fnExactSizeOfRow : OpenClaim := { program := "ytgnehfpndpdelaa", sum := "a8336433aca22d924218f959e6f2469dcd08e5cba5f34ba318628a2dcc0cbdf7", func := "loop.example/g01538/laws.FnExactSizeOf", spec := "fnExactSizeOf", apart := false }
def FnExactSizeOfSaid : Prop := fnExactSizeOfRow.holds Try.pinned (OpenSpec.ofChange fnExactSizeOfSpec)

/-- ITS FALSE NEIGHBOUR: 'it returns false'. Refute it at one input. -/
def fnExactSizeOfWrong : ChangeSpec := { name := "fnExactSizeOf", fn := fun _ => fun
  | [d] => { results := [.lit (.bool false)], args := [d] }
  | _ => none }
def FnExactSizeOfWrongFalsely : Prop := fnExactSizeOfRow.holds Try.pinned (OpenSpec.ofChange fnExactSizeOfWrong)

/-- 'laws.FnExactClassOf': WHATEVER THE INPUT: true; the input reads as it did. -/
def fnExactClassOfSpec : ChangeSpec := { name := "fnExactClassOf", fn := fun _ => fun
  | [d] => { results := [.lit (.bool true)], args := [d] }
  | _ => none }
def fnExactClassOfRow : OpenClaim := { program := "ytgnehfpndpdelaa", sum := "a8336433aca22d924218f959e6f2469dcd08e5cba5f34ba318628a2dcc0cbdf7", func := "loop.example/g01538/laws.FnExactClassOf", spec := "fnExactClassOf", apart := false }
def FnExactClassOfSaid : Prop := fnExactClassOfRow.holds Try.pinned (OpenSpec.ofChange fnExactClassOfSpec)

/-- ITS FALSE NEIGHBOUR: 'it returns false'. Refute it at one input. -/
def fnExactClassOfWrong : ChangeSpec := { name := "fnExactClassOf", fn := fun _ => fun
  | [d] => { results := [.lit (.bool false)], args := [d] }
  | _ => none }
def FnExactClassOfWrongFalsely : Prop := fnExactClassOfRow.holds Try.pinned (OpenSpec.ofChange fnExactClassOfWrong)

/-- 'laws.FnExactStrideOf': WHATEVER THE INPUT: true; the input reads as it did. -/
def fnExactStrideOfSpec : ChangeSpec := { name := "fnExactStrideOf", fn := fun _ => fun
  | [d] => { results := [.lit (.bool true)], args := [d] }
  | _ => none }
def fnExactStrideOfRow : OpenClaim := { program := "ytgnehfpndpdelaa", sum := "a8336433aca22d924218f959e6f2469dcd08e5cba5f34ba318628a2dcc0cbdf7", func := "loop.example/g01538/laws.FnExactStrideOf", spec := "fnExactStrideOf", apart := false }
def FnExactStrideOfSaid : Prop := fnExactStrideOfRow.holds Try.pinned (OpenSpec.ofChange fnExactStrideOfSpec)

/-- ITS FALSE NEIGHBOUR: 'it returns false'. Refute it at one input. -/
def fnExactStrideOfWrong : ChangeSpec := { name := "fnExactStrideOf", fn := fun _ => fun
  | [d] => { results := [.lit (.bool false)], args := [d] }
  | _ => none }
def FnExactStrideOfWrongFalsely : Prop := fnExactStrideOfRow.holds Try.pinned (OpenSpec.ofChange fnExactStrideOfWrong)

/-- 'laws.FnExactPerPage': WHATEVER THE INPUT: true; the input reads as it did. -/
def fnExactPerPageSpec : ChangeSpec := { name := "fnExactPerPage", fn := fun _ => fun
  | [d] => { results := [.lit (.bool true)], args := [d] }
  | _ => none }
def fnExactPerPageRow : OpenClaim := { program := "ytgnehfpndpdelaa", sum := "a8336433aca22d924218f959e6f2469dcd08e5cba5f34ba318628a2dcc0cbdf7", func := "loop.example/g01538/laws.FnExactPerPage", spec := "fnExactPerPage", apart := false }
def FnExactPerPageSaid : Prop := fnExactPerPageRow.holds Try.pinned (OpenSpec.ofChange fnExactPerPageSpec)

/-- ITS FALSE NEIGHBOUR: 'it returns false'. Refute it at one input. -/
def fnExactPerPageWrong : ChangeSpec := { name := "fnExactPerPage", fn := fun _ => fun
  | [d] => { results := [.lit (.bool false)], args := [d] }
  | _ => none }
def FnExactPerPageWrongFalsely : Prop := fnExactPerPageRow.holds Try.pinned (OpenSpec.ofChange fnExactPerPageWrong)

/-- 'laws.FnExactWaste': WHATEVER THE INPUT: true; the input reads as it did. -/
def fnExactWasteSpec : ChangeSpec := { name := "fnExactWaste", fn := fun _ => fun
  | [d] => { results := [.lit (.bool true)], args := [d] }
  | _ => none }
def fnExactWasteRow : OpenClaim := { program := "ytgnehfpndpdelaa", sum := "a8336433aca22d924218f959e6f2469dcd08e5cba5f34ba318628a2dcc0cbdf7", func := "loop.example/g01538/laws.FnExactWaste", spec := "fnExactWaste", apart := false }
def FnExactWasteSaid : Prop := fnExactWasteRow.holds Try.pinned (OpenSpec.ofChange fnExactWasteSpec)

/-- ITS FALSE NEIGHBOUR: 'it returns false'. Refute it at one input. -/
def fnExactWasteWrong : ChangeSpec := { name := "fnExactWaste", fn := fun _ => fun
  | [d] => { results := [.lit (.bool false)], args := [d] }
  | _ => none }
def FnExactWasteWrongFalsely : Prop := fnExactWasteRow.holds Try.pinned (OpenSpec.ofChange fnExactWasteWrong)

/-- 'laws.FnExactGenAt': WHATEVER THE INPUT: true; the input reads as it did. -/
def fnExactGenAtSpec : ChangeSpec := { name := "fnExactGenAt", fn := fun _ => fun
  | [d1, d2] => { results := [.lit (.bool true)], args := [d1, d2] }
  | _ => none }
def fnExactGenAtRow : OpenClaim := { program := "ytgnehfpndpdelaa", sum := "a8336433aca22d924218f959e6f2469dcd08e5cba5f34ba318628a2dcc0cbdf7", func := "loop.example/g01538/laws.FnExactGenAt", spec := "fnExactGenAt", apart := false }
def FnExactGenAtSaid : Prop := fnExactGenAtRow.holds Try.pinned (OpenSpec.ofChange fnExactGenAtSpec)

/-- ITS FALSE NEIGHBOUR: 'it returns false'. Refute it at one input. -/
def fnExactGenAtWrong : ChangeSpec := { name := "fnExactGenAt", fn := fun _ => fun
  | [d1, d2] => { results := [.lit (.bool false)], args := [d1, d2] }
  | _ => none }
def FnExactGenAtWrongFalsely : Prop := fnExactGenAtRow.holds Try.pinned (OpenSpec.ofChange fnExactGenAtWrong)

/-- 'laws.FnExactStartOf': WHATEVER THE INPUT: true; the input reads as it did. -/
def fnExactStartOfSpec : ChangeSpec := { name := "fnExactStartOf", fn := fun _ => fun
  | [d1, d2] => { results := [.lit (.bool true)], args := [d1, d2] }
  | _ => none }
def fnExactStartOfRow : OpenClaim := { program := "ytgnehfpndpdelaa", sum := "a8336433aca22d924218f959e6f2469dcd08e5cba5f34ba318628a2dcc0cbdf7", func := "loop.example/g01538/laws.FnExactStartOf", spec := "fnExactStartOf", apart := false }
def FnExactStartOfSaid : Prop := fnExactStartOfRow.holds Try.pinned (OpenSpec.ofChange fnExactStartOfSpec)

/-- ITS FALSE NEIGHBOUR: 'it returns false'. Refute it at one input. -/
def fnExactStartOfWrong : ChangeSpec := { name := "fnExactStartOf", fn := fun _ => fun
  | [d1, d2] => { results := [.lit (.bool false)], args := [d1, d2] }
  | _ => none }
def FnExactStartOfWrongFalsely : Prop := fnExactStartOfRow.holds Try.pinned (OpenSpec.ofChange fnExactStartOfWrong)

/-- 'laws.FnExactRangeOf': WHATEVER THE INPUT: true; the input reads as it did. -/
def fnExactRangeOfSpec : ChangeSpec := { name := "fnExactRangeOf", fn := fun _ => fun
  | [d1, d2] => { results := [.lit (.bool true)], args := [d1, d2] }
  | _ => none }
def fnExactRangeOfRow : OpenClaim := { program := "ytgnehfpndpdelaa", sum := "a8336433aca22d924218f959e6f2469dcd08e5cba5f34ba318628a2dcc0cbdf7", func := "loop.example/g01538/laws.FnExactRangeOf", spec := "fnExactRangeOf", apart := false }
def FnExactRangeOfSaid : Prop := fnExactRangeOfRow.holds Try.pinned (OpenSpec.ofChange fnExactRangeOfSpec)

/-- ITS FALSE NEIGHBOUR: 'it returns false'. Refute it at one input. -/
def fnExactRangeOfWrong : ChangeSpec := { name := "fnExactRangeOf", fn := fun _ => fun
  | [d1, d2] => { results := [.lit (.bool false)], args := [d1, d2] }
  | _ => none }
def FnExactRangeOfWrongFalsely : Prop := fnExactRangeOfRow.holds Try.pinned (OpenSpec.ofChange fnExactRangeOfWrong)

/-- 'laws.FnSizes': WHATEVER THE INPUT: true; the input reads as it did. -/
def fnSizesSpec : ChangeSpec := { name := "fnSizes", fn := fun _ => fun
  | [d] => { results := [.lit (.bool true)], args := [d] }
  | _ => none }
def fnSizesRow : OpenClaim := { program := "ytgnehfpndpdelaa", sum := "a8336433aca22d924218f959e6f2469dcd08e5cba5f34ba318628a2dcc0cbdf7", func := "loop.example/g01538/laws.FnSizes", spec := "fnSizes", apart := false }
def FnSizesSaid : Prop := fnSizesRow.holds Try.pinned (OpenSpec.ofChange fnSizesSpec)

/-- ITS FALSE NEIGHBOUR: 'it returns false'. Refute it at one input. -/
def fnSizesWrong : ChangeSpec := { name := "fnSizes", fn := fun _ => fun
  | [d] => { results := [.lit (.bool false)], args := [d] }
  | _ => none }
def FnSizesWrongFalsely : Prop := fnSizesRow.holds Try.pinned (OpenSpec.ofChange fnSizesWrong)

/-- 'laws.FnSpots': WHATEVER THE INPUT: true; the input reads as it did. -/
def fnSpotsSpec : ChangeSpec := { name := "fnSpots", fn := fun _ => fun
  | [d] => { results := [.lit (.bool true)], args := [d] }
  | _ => none }
def fnSpotsRow : OpenClaim := { program := "ytgnehfpndpdelaa", sum := "a8336433aca22d924218f959e6f2469dcd08e5cba5f34ba318628a2dcc0cbdf7", func := "loop.example/g01538/laws.FnSpots", spec := "fnSpots", apart := false }
def FnSpotsSaid : Prop := fnSpotsRow.holds Try.pinned (OpenSpec.ofChange fnSpotsSpec)

/-- ITS FALSE NEIGHBOUR: 'it returns false'. Refute it at one input. -/
def fnSpotsWrong : ChangeSpec := { name := "fnSpots", fn := fun _ => fun
  | [d] => { results := [.lit (.bool false)], args := [d] }
  | _ => none }
def FnSpotsWrongFalsely : Prop := fnSpotsRow.holds Try.pinned (OpenSpec.ofChange fnSpotsWrong)

/-- 'laws.FnExactLater': WHATEVER THE INPUT: true; the input reads as it did. -/
def fnExactLaterSpec : ChangeSpec := { name := "fnExactLater", fn := fun _ => fun
  | [d] => { results := [.lit (.bool true)], args := [d] }
  | _ => none }
def fnExactLaterRow : OpenClaim := { program := "ytgnehfpndpdelaa", sum := "a8336433aca22d924218f959e6f2469dcd08e5cba5f34ba318628a2dcc0cbdf7", func := "loop.example/g01538/laws.FnExactLater", spec := "fnExactLater", apart := false }
def FnExactLaterSaid : Prop := fnExactLaterRow.holds Try.pinned (OpenSpec.ofChange fnExactLaterSpec)

/-- ITS FALSE NEIGHBOUR: 'it returns false'. Refute it at one input. -/
def fnExactLaterWrong : ChangeSpec := { name := "fnExactLater", fn := fun _ => fun
  | [d] => { results := [.lit (.bool false)], args := [d] }
  | _ => none }
def FnExactLaterWrongFalsely : Prop := fnExactLaterRow.holds Try.pinned (OpenSpec.ofChange fnExactLaterWrong)

/-- 'laws.FnExactHandleSlot': WHATEVER THE INPUT: true; the input reads as it did. -/
def fnExactHandleSlotSpec : ChangeSpec := { name := "fnExactHandleSlot", fn := fun _ => fun
  | [d] => { results := [.lit (.bool true)], args := [d] }
  | _ => none }
def fnExactHandleSlotRow : OpenClaim := { program := "ytgnehfpndpdelaa", sum := "a8336433aca22d924218f959e6f2469dcd08e5cba5f34ba318628a2dcc0cbdf7", func := "loop.example/g01538/laws.FnExactHandleSlot", spec := "fnExactHandleSlot", apart := false }
def FnExactHandleSlotSaid : Prop := fnExactHandleSlotRow.holds Try.pinned (OpenSpec.ofChange fnExactHandleSlotSpec)

/-- ITS FALSE NEIGHBOUR: 'it returns false'. Refute it at one input. -/
def fnExactHandleSlotWrong : ChangeSpec := { name := "fnExactHandleSlot", fn := fun _ => fun
  | [d] => { results := [.lit (.bool false)], args := [d] }
  | _ => none }
def FnExactHandleSlotWrongFalsely : Prop := fnExactHandleSlotRow.holds Try.pinned (OpenSpec.ofChange fnExactHandleSlotWrong)

/-- 'laws.FnHandles': WHATEVER THE INPUT: true; the input reads as it did. -/
def fnHandlesSpec : ChangeSpec := { name := "fnHandles", fn := fun _ => fun
  | [d] => { results := [.lit (.bool true)], args := [d] }
  | _ => none }
def fnHandlesRow : OpenClaim := { program := "ytgnehfpndpdelaa", sum := "a8336433aca22d924218f959e6f2469dcd08e5cba5f34ba318628a2dcc0cbdf7", func := "loop.example/g01538/laws.FnHandles", spec := "fnHandles", apart := false }
def FnHandlesSaid : Prop := fnHandlesRow.holds Try.pinned (OpenSpec.ofChange fnHandlesSpec)

/-- ITS FALSE NEIGHBOUR: 'it returns false'. Refute it at one input. -/
def fnHandlesWrong : ChangeSpec := { name := "fnHandles", fn := fun _ => fun
  | [d] => { results := [.lit (.bool false)], args := [d] }
  | _ => none }
def FnHandlesWrongFalsely : Prop := fnHandlesRow.holds Try.pinned (OpenSpec.ofChange fnHandlesWrong)

/- THE SECOND FORM. 'bulk': how many values and letters a reading holds, each counted each time it is reached (what is shared counts as often as it is met; a slice's spare places count too). A statement '..UptoSaid' is the law's where the arguments, and the package variables that the reading takes, are together of bulk at most 1048576: NARROWER than '..Said'. Prove '..Said' where nothing that the law and all that it calls make is longer than what came in: it says more and counts as full. Else prove '..UptoSaid'. A law counts once. -/
mutual
def uptoBulk {H : Type} : DataW H → Nat
  | .lit (.string bytes) => bytes.length + 1
  | .lit _ => 1
  | .nil => 1
  | .ptr d => uptoBulk d + 1
  | .slice elems spare => uptoBulkAll elems + uptoBulkAll spare + 1
  | .agg parts => uptoBulkAll parts + 1
  | .iface _ d => uptoBulk d + 1
  | .map entries => uptoBulkEntries entries + 1
  | .held _ => 1
def uptoBulkAll {H : Type} : List (DataW H) → Nat
  | [] => 0
  | d :: r => uptoBulk d + uptoBulkAll r
def uptoBulkEntries {H : Type} : List (Lit × DataW H) → Nat
  | [] => 0
  | x :: r => uptoBulkEntry x + uptoBulkEntries r
def uptoBulkEntry {H : Type} : Lit × DataW H → Nat
  | (.string bytes, d) => bytes.length + uptoBulk d + 1
  | (_, d) => uptoBulk d + 1
 end
def uptoSmall : (H : Type) → List (DataW H) → Bool := fun _ ds => decide (uptoBulkAll ds ≤ 1048576)
def OpenSpec.upto (s : _root_.Go.ChangeSpec) : _root_.Go.OpenSpec := { _root_.Go.OpenSpec.ofChange s with cond := some uptoSmall }

/-- 'laws.FnExactSizeOf', WHERE WHAT IT READS IS OF BULK AT MOST 1048576: true; the input reads as it did. -/
def fnExactSizeOfUptoRow : OpenClaim := { program := "ytgnehfpndpdelaa", sum := "a8336433aca22d924218f959e6f2469dcd08e5cba5f34ba318628a2dcc0cbdf7", func := "loop.example/g01538/laws.FnExactSizeOf", spec := "fnExactSizeOf", apart := false, narrowed := true }
def FnExactSizeOfUptoSaid : Prop := fnExactSizeOfUptoRow.holds Try.pinned (OpenSpec.upto fnExactSizeOfSpec)

/-- 'laws.FnExactClassOf', WHERE WHAT IT READS IS OF BULK AT MOST 1048576: true; the input reads as it did. -/
def fnExactClassOfUptoRow : OpenClaim := { program := "ytgnehfpndpdelaa", sum := "a8336433aca22d924218f959e6f2469dcd08e5cba5f34ba318628a2dcc0cbdf7", func := "loop.example/g01538/laws.FnExactClassOf", spec := "fnExactClassOf", apart := false, narrowed := true }
def FnExactClassOfUptoSaid : Prop := fnExactClassOfUptoRow.holds Try.pinned (OpenSpec.upto fnExactClassOfSpec)

/-- 'laws.FnExactStrideOf', WHERE WHAT IT READS IS OF BULK AT MOST 1048576: true; the input reads as it did. -/
def fnExactStrideOfUptoRow : OpenClaim := { program := "ytgnehfpndpdelaa", sum := "a8336433aca22d924218f959e6f2469dcd08e5cba5f34ba318628a2dcc0cbdf7", func := "loop.example/g01538/laws.FnExactStrideOf", spec := "fnExactStrideOf", apart := false, narrowed := true }
def FnExactStrideOfUptoSaid : Prop := fnExactStrideOfUptoRow.holds Try.pinned (OpenSpec.upto fnExactStrideOfSpec)

/-- 'laws.FnExactPerPage', WHERE WHAT IT READS IS OF BULK AT MOST 1048576: true; the input reads as it did. -/
def fnExactPerPageUptoRow : OpenClaim := { program := "ytgnehfpndpdelaa", sum := "a8336433aca22d924218f959e6f2469dcd08e5cba5f34ba318628a2dcc0cbdf7", func := "loop.example/g01538/laws.FnExactPerPage", spec := "fnExactPerPage", apart := false, narrowed := true }
def FnExactPerPageUptoSaid : Prop := fnExactPerPageUptoRow.holds Try.pinned (OpenSpec.upto fnExactPerPageSpec)

/-- 'laws.FnExactWaste', WHERE WHAT IT READS IS OF BULK AT MOST 1048576: true; the input reads as it did. -/
def fnExactWasteUptoRow : OpenClaim := { program := "ytgnehfpndpdelaa", sum := "a8336433aca22d924218f959e6f2469dcd08e5cba5f34ba318628a2dcc0cbdf7", func := "loop.example/g01538/laws.FnExactWaste", spec := "fnExactWaste", apart := false, narrowed := true }
def FnExactWasteUptoSaid : Prop := fnExactWasteUptoRow.holds Try.pinned (OpenSpec.upto fnExactWasteSpec)

/-- 'laws.FnExactGenAt', WHERE WHAT IT READS IS OF BULK AT MOST 1048576: true; the input reads as it did. -/
def fnExactGenAtUptoRow : OpenClaim := { program := "ytgnehfpndpdelaa", sum := "a8336433aca22d924218f959e6f2469dcd08e5cba5f34ba318628a2dcc0cbdf7", func := "loop.example/g01538/laws.FnExactGenAt", spec := "fnExactGenAt", apart := false, narrowed := true }
def FnExactGenAtUptoSaid : Prop := fnExactGenAtUptoRow.holds Try.pinned (OpenSpec.upto fnExactGenAtSpec)

/-- 'laws.FnExactStartOf', WHERE WHAT IT READS IS OF BULK AT MOST 1048576: true; the input reads as it did. -/
def fnExactStartOfUptoRow : OpenClaim := { program := "ytgnehfpndpdelaa", sum := "a8336433aca22d924218f959e6f2469dcd08e5cba5f34ba318628a2dcc0cbdf7", func := "loop.example/g01538/laws.FnExactStartOf", spec := "fnExactStartOf", apart := false, narrowed := true }
def FnExactStartOfUptoSaid : Prop := fnExactStartOfUptoRow.holds Try.pinned (OpenSpec.upto fnExactStartOfSpec)

/-- 'laws.FnExactRangeOf', WHERE WHAT IT READS IS OF BULK AT MOST 1048576: true; the input reads as it did. -/
def fnExactRangeOfUptoRow : OpenClaim := { program := "ytgnehfpndpdelaa", sum := "a8336433aca22d924218f959e6f2469dcd08e5cba5f34ba318628a2dcc0cbdf7", func := "loop.example/g01538/laws.FnExactRangeOf", spec := "fnExactRangeOf", apart := false, narrowed := true }
def FnExactRangeOfUptoSaid : Prop := fnExactRangeOfUptoRow.holds Try.pinned (OpenSpec.upto fnExactRangeOfSpec)

/-- 'laws.FnSizes', WHERE WHAT IT READS IS OF BULK AT MOST 1048576: true; the input reads as it did. -/
def fnSizesUptoRow : OpenClaim := { program := "ytgnehfpndpdelaa", sum := "a8336433aca22d924218f959e6f2469dcd08e5cba5f34ba318628a2dcc0cbdf7", func := "loop.example/g01538/laws.FnSizes", spec := "fnSizes", apart := false, narrowed := true }
def FnSizesUptoSaid : Prop := fnSizesUptoRow.holds Try.pinned (OpenSpec.upto fnSizesSpec)

/-- 'laws.FnSpots', WHERE WHAT IT READS IS OF BULK AT MOST 1048576: true; the input reads as it did. -/
def fnSpotsUptoRow : OpenClaim := { program := "ytgnehfpndpdelaa", sum := "a8336433aca22d924218f959e6f2469dcd08e5cba5f34ba318628a2dcc0cbdf7", func := "loop.example/g01538/laws.FnSpots", spec := "fnSpots", apart := false, narrowed := true }
def FnSpotsUptoSaid : Prop := fnSpotsUptoRow.holds Try.pinned (OpenSpec.upto fnSpotsSpec)

/-- 'laws.FnExactLater', WHERE WHAT IT READS IS OF BULK AT MOST 1048576: true; the input reads as it did. -/
def fnExactLaterUptoRow : OpenClaim := { program := "ytgnehfpndpdelaa", sum := "a8336433aca22d924218f959e6f2469dcd08e5cba5f34ba318628a2dcc0cbdf7", func := "loop.example/g01538/laws.FnExactLater", spec := "fnExactLater", apart := false, narrowed := true }
def FnExactLaterUptoSaid : Prop := fnExactLaterUptoRow.holds Try.pinned (OpenSpec.upto fnExactLaterSpec)

/-- 'laws.FnExactHandleSlot', WHERE WHAT IT READS IS OF BULK AT MOST 1048576: true; the input reads as it did. -/
def fnExactHandleSlotUptoRow : OpenClaim := { program := "ytgnehfpndpdelaa", sum := "a8336433aca22d924218f959e6f2469dcd08e5cba5f34ba318628a2dcc0cbdf7", func := "loop.example/g01538/laws.FnExactHandleSlot", spec := "fnExactHandleSlot", apart := false, narrowed := true }
def FnExactHandleSlotUptoSaid : Prop := fnExactHandleSlotUptoRow.holds Try.pinned (OpenSpec.upto fnExactHandleSlotSpec)

/-- 'laws.FnHandles', WHERE WHAT IT READS IS OF BULK AT MOST 1048576: true; the input reads as it did. -/
def fnHandlesUptoRow : OpenClaim := { program := "ytgnehfpndpdelaa", sum := "a8336433aca22d924218f959e6f2469dcd08e5cba5f34ba318628a2dcc0cbdf7", func := "loop.example/g01538/laws.FnHandles", spec := "fnHandles", apart := false, narrowed := true }
def FnHandlesUptoSaid : Prop := fnHandlesUptoRow.holds Try.pinned (OpenSpec.upto fnHandlesSpec)

end Rows
end Go.Proofs.Ytgnehfpndpdelaa
