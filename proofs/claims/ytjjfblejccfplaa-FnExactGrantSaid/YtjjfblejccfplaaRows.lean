/-
  No cell of these rows narrows 'for every input' (looked for: loops, veiled, ifaces, maps, wideKeys, modest, calm, conditions, laid).
  DERIVED. THE GIVEN ROWS OF THIS SEAT. 9 by the template 'for every input the law returns true; each argument reads behind the call as it read before'; 0 by the template 'total and deterministic' (their statements: YtjjfblejccfplaaTotals.lean).
  GIVEN WITH THE SEED: the statements are not yours to turn. If you find one false, say at which input.
  Laid BY PROGRAM, IN A SANDBOX (cutbox-rows.mjs): the forced cells as the released guide's own fill.sh prints them over the translation 0aa08bc582433c00… (all of the seat's roots in one cut). By AI agents, Wed Nov 11 2026. No macro, syntax, notation, axiom, sorry.
-/
import Derived.Test.YtjjfblejccfplaaChecked
import GoSem.Claim
import GoSem.ClaimJoined
import GoSem.ClaimMapViews
import Derived.JoinedTies
import Derived.KernelRfl
namespace Go.Proofs.Ytjjfblejccfplaa
/- THE CELL 'sum', in the pinned program and in every row, IS THE sha256 OF THE DUMP (.gsa) THAT YtjjfblejccfplaaProg.lean LOADS. Nothing in Lean hashes anything: it is a label: what it is worth is what the hold of that sum in a sandbox is worth. -/
noncomputable def Try.pinned : Pinned := { name := "ytjjfblejccfplaa", sum := "0aa08bc582433c00a579e20810d06960152ecaeb163a49bbf27eced3547d3875", checked := Try.checked }
namespace Rows
def none {H : Type} : Left H := { results := [], args := [] }

/-- 'laws.FnExactUngranted': WHATEVER THE INPUT: true; the input reads as it did. -/
def fnExactUngrantedSpec : ChangeSpec := { name := "fnExactUngranted", fn := fun _ => fun
  | [d] => { results := [.lit (.bool true)], args := [d] }
  | _ => none }
def fnExactUngrantedRow : OpenClaim := { program := "ytjjfblejccfplaa", sum := "0aa08bc582433c00a579e20810d06960152ecaeb163a49bbf27eced3547d3875", func := "loop.example/g01538/laws.FnExactUngranted", spec := "fnExactUngranted", apart := false }
def FnExactUngrantedSaid : Prop := fnExactUngrantedRow.holds Try.pinned (OpenSpec.ofChange fnExactUngrantedSpec)

/-- ITS FALSE NEIGHBOUR: 'it returns false'. Refute it at one input. -/
def fnExactUngrantedWrong : ChangeSpec := { name := "fnExactUngranted", fn := fun _ => fun
  | [d] => { results := [.lit (.bool false)], args := [d] }
  | _ => none }
def FnExactUngrantedWrongFalsely : Prop := fnExactUngrantedRow.holds Try.pinned (OpenSpec.ofChange fnExactUngrantedWrong)

/-- 'laws.FnExactSameHeap': WHATEVER THE INPUT: true; the input reads as it did. -/
def fnExactSameHeapSpec : ChangeSpec := { name := "fnExactSameHeap", fn := fun _ => fun
  | [d1, d2] => { results := [.lit (.bool true)], args := [d1, d2] }
  | _ => none }
def fnExactSameHeapRow : OpenClaim := { program := "ytjjfblejccfplaa", sum := "0aa08bc582433c00a579e20810d06960152ecaeb163a49bbf27eced3547d3875", func := "loop.example/g01538/laws.FnExactSameHeap", spec := "fnExactSameHeap", apart := false }
def FnExactSameHeapSaid : Prop := fnExactSameHeapRow.holds Try.pinned (OpenSpec.ofChange fnExactSameHeapSpec)

/-- ITS FALSE NEIGHBOUR: 'it returns false'. Refute it at one input. -/
def fnExactSameHeapWrong : ChangeSpec := { name := "fnExactSameHeap", fn := fun _ => fun
  | [d1, d2] => { results := [.lit (.bool false)], args := [d1, d2] }
  | _ => none }
def FnExactSameHeapWrongFalsely : Prop := fnExactSameHeapRow.holds Try.pinned (OpenSpec.ofChange fnExactSameHeapWrong)

/-- 'laws.FnExactHeapNew': WHATEVER THE INPUT: true; the input reads as it did. -/
def fnExactHeapNewSpec : ChangeSpec := { name := "fnExactHeapNew", fn := fun _ => fun
  | [] => { results := [.lit (.bool true)], args := [] }
  | _ => none }
def fnExactHeapNewRow : OpenClaim := { program := "ytjjfblejccfplaa", sum := "0aa08bc582433c00a579e20810d06960152ecaeb163a49bbf27eced3547d3875", func := "loop.example/g01538/laws.FnExactHeapNew", spec := "fnExactHeapNew", apart := false }
def FnExactHeapNewSaid : Prop := fnExactHeapNewRow.holds Try.pinned (OpenSpec.ofChange fnExactHeapNewSpec)

/-- ITS FALSE NEIGHBOUR: 'it returns false'. Refute it at one input. -/
def fnExactHeapNewWrong : ChangeSpec := { name := "fnExactHeapNew", fn := fun _ => fun
  | [] => { results := [.lit (.bool false)], args := [] }
  | _ => none }
def FnExactHeapNewWrongFalsely : Prop := fnExactHeapNewRow.holds Try.pinned (OpenSpec.ofChange fnExactHeapNewWrong)

/-- 'laws.FnExactClassAt': WHATEVER THE INPUT: true; the input reads as it did. -/
def fnExactClassAtSpec : ChangeSpec := { name := "fnExactClassAt", fn := fun _ => fun
  | [d1, d2] => { results := [.lit (.bool true)], args := [d1, d2] }
  | _ => none }
def fnExactClassAtRow : OpenClaim := { program := "ytjjfblejccfplaa", sum := "0aa08bc582433c00a579e20810d06960152ecaeb163a49bbf27eced3547d3875", func := "loop.example/g01538/laws.FnExactClassAt", spec := "fnExactClassAt", unfollowed := true, recurses := true, apart := false }
def FnExactClassAtSaid : Prop := fnExactClassAtRow.holds Try.pinned (OpenSpec.ofChange fnExactClassAtSpec)

/-- ITS FALSE NEIGHBOUR: 'it returns false'. Refute it at one input. -/
def fnExactClassAtWrong : ChangeSpec := { name := "fnExactClassAt", fn := fun _ => fun
  | [d1, d2] => { results := [.lit (.bool false)], args := [d1, d2] }
  | _ => none }
def FnExactClassAtWrongFalsely : Prop := fnExactClassAtRow.holds Try.pinned (OpenSpec.ofChange fnExactClassAtWrong)

/-- 'laws.FnExactCarved': WHATEVER THE INPUT: true; the input reads as it did. -/
def fnExactCarvedSpec : ChangeSpec := { name := "fnExactCarved", fn := fun _ => fun
  | [d] => { results := [.lit (.bool true)], args := [d] }
  | _ => none }
def fnExactCarvedRow : OpenClaim := { program := "ytjjfblejccfplaa", sum := "0aa08bc582433c00a579e20810d06960152ecaeb163a49bbf27eced3547d3875", func := "loop.example/g01538/laws.FnExactCarved", spec := "fnExactCarved", unfollowed := true, recurses := true, apart := false }
def FnExactCarvedSaid : Prop := fnExactCarvedRow.holds Try.pinned (OpenSpec.ofChange fnExactCarvedSpec)

/-- ITS FALSE NEIGHBOUR: 'it returns false'. Refute it at one input. -/
def fnExactCarvedWrong : ChangeSpec := { name := "fnExactCarved", fn := fun _ => fun
  | [d] => { results := [.lit (.bool false)], args := [d] }
  | _ => none }
def FnExactCarvedWrongFalsely : Prop := fnExactCarvedRow.holds Try.pinned (OpenSpec.ofChange fnExactCarvedWrong)

/-- 'laws.FnExactGenIn': WHATEVER THE INPUT: true; the input reads as it did. -/
def fnExactGenInSpec : ChangeSpec := { name := "fnExactGenIn", fn := fun _ => fun
  | [d1, d2] => { results := [.lit (.bool true)], args := [d1, d2] }
  | _ => none }
def fnExactGenInRow : OpenClaim := { program := "ytjjfblejccfplaa", sum := "0aa08bc582433c00a579e20810d06960152ecaeb163a49bbf27eced3547d3875", func := "loop.example/g01538/laws.FnExactGenIn", spec := "fnExactGenIn", unfollowed := true, recurses := true, apart := false }
def FnExactGenInSaid : Prop := fnExactGenInRow.holds Try.pinned (OpenSpec.ofChange fnExactGenInSpec)

/-- ITS FALSE NEIGHBOUR: 'it returns false'. Refute it at one input. -/
def fnExactGenInWrong : ChangeSpec := { name := "fnExactGenIn", fn := fun _ => fun
  | [d1, d2] => { results := [.lit (.bool false)], args := [d1, d2] }
  | _ => none }
def FnExactGenInWrongFalsely : Prop := fnExactGenInRow.holds Try.pinned (OpenSpec.ofChange fnExactGenInWrong)

/-- 'laws.FnExactHeapOk': WHATEVER THE INPUT: true; the input reads as it did. -/
def fnExactHeapOkSpec : ChangeSpec := { name := "fnExactHeapOk", fn := fun _ => fun
  | [d] => { results := [.lit (.bool true)], args := [d] }
  | _ => none }
def fnExactHeapOkRow : OpenClaim := { program := "ytjjfblejccfplaa", sum := "0aa08bc582433c00a579e20810d06960152ecaeb163a49bbf27eced3547d3875", func := "loop.example/g01538/laws.FnExactHeapOk", spec := "fnExactHeapOk", unfollowed := true, recurses := true, apart := false }
def FnExactHeapOkSaid : Prop := fnExactHeapOkRow.holds Try.pinned (OpenSpec.ofChange fnExactHeapOkSpec)

/-- ITS FALSE NEIGHBOUR: 'it returns false'. Refute it at one input. -/
def fnExactHeapOkWrong : ChangeSpec := { name := "fnExactHeapOk", fn := fun _ => fun
  | [d] => { results := [.lit (.bool false)], args := [d] }
  | _ => none }
def FnExactHeapOkWrongFalsely : Prop := fnExactHeapOkRow.holds Try.pinned (OpenSpec.ofChange fnExactHeapOkWrong)

/-- 'laws.FnExactSetGen': WHATEVER THE INPUT: true; the input reads as it did. -/
def fnExactSetGenSpec : ChangeSpec := { name := "fnExactSetGen", fn := fun _ => fun
  | [d1, d2, d3] => { results := [.lit (.bool true)], args := [d1, d2, d3] }
  | _ => none }
def fnExactSetGenRow : OpenClaim := { program := "ytjjfblejccfplaa", sum := "0aa08bc582433c00a579e20810d06960152ecaeb163a49bbf27eced3547d3875", func := "loop.example/g01538/laws.FnExactSetGen", spec := "fnExactSetGen", unfollowed := true, recurses := true, apart := false }
def FnExactSetGenSaid : Prop := fnExactSetGenRow.holds Try.pinned (OpenSpec.ofChange fnExactSetGenSpec)

/-- ITS FALSE NEIGHBOUR: 'it returns false'. Refute it at one input. -/
def fnExactSetGenWrong : ChangeSpec := { name := "fnExactSetGen", fn := fun _ => fun
  | [d1, d2, d3] => { results := [.lit (.bool false)], args := [d1, d2, d3] }
  | _ => none }
def FnExactSetGenWrongFalsely : Prop := fnExactSetGenRow.holds Try.pinned (OpenSpec.ofChange fnExactSetGenWrong)

/-- 'laws.FnExactGrant': WHATEVER THE INPUT: true; the input reads as it did. -/
def fnExactGrantSpec : ChangeSpec := { name := "fnExactGrant", fn := fun _ => fun
  | [d1, d2] => { results := [.lit (.bool true)], args := [d1, d2] }
  | _ => none }
def fnExactGrantRow : OpenClaim := { program := "ytjjfblejccfplaa", sum := "0aa08bc582433c00a579e20810d06960152ecaeb163a49bbf27eced3547d3875", func := "loop.example/g01538/laws.FnExactGrant", spec := "fnExactGrant", unfollowed := true, recurses := true, apart := false }
def FnExactGrantSaid : Prop := fnExactGrantRow.holds Try.pinned (OpenSpec.ofChange fnExactGrantSpec)

/-- ITS FALSE NEIGHBOUR: 'it returns false'. Refute it at one input. -/
def fnExactGrantWrong : ChangeSpec := { name := "fnExactGrant", fn := fun _ => fun
  | [d1, d2] => { results := [.lit (.bool false)], args := [d1, d2] }
  | _ => none }
def FnExactGrantWrongFalsely : Prop := fnExactGrantRow.holds Try.pinned (OpenSpec.ofChange fnExactGrantWrong)

/- THE SECOND FORM. 'bulk': how many values and letters a reading holds, each counted each time it is reached (what is shared counts as often as it is met; a slice's spare places count too). A statement '..UptoSaid' is the law's where the arguments, and the package variables that the reading takes, are together of bulk at most 1048576: NARROWER than '..Said'. Prove '..Said' where nothing that the law and all that it calls make is longer than what came in: it says more and counts as full. Else prove '..UptoSaid'. A law counts once. -/
mutual
def uptoBulk {H : Type} : DataW H → Nat
  | .lit (.string bytes) => bytes.length + 1
  | .lit _ => 1
  | .nil => 1
  | .ptr d => uptoBulk d + 1
  | .slice elems spare => uptoBulkAll elems + uptoBulkAll spare + 1
  | .agg parts => uptoBulkAll parts + 1
  | .iface _ d => uptoBulk d + 1
  | .map entries => uptoBulkEntries entries + 1
  | .held _ => 1
def uptoBulkAll {H : Type} : List (DataW H) → Nat
  | [] => 0
  | d :: r => uptoBulk d + uptoBulkAll r
def uptoBulkEntries {H : Type} : List (Lit × DataW H) → Nat
  | [] => 0
  | x :: r => uptoBulkEntry x + uptoBulkEntries r
def uptoBulkEntry {H : Type} : Lit × DataW H → Nat
  | (.string bytes, d) => bytes.length + uptoBulk d + 1
  | (_, d) => uptoBulk d + 1
 end
def uptoSmall : (H : Type) → List (DataW H) → Bool := fun _ ds => decide (uptoBulkAll ds ≤ 1048576)
def OpenSpec.upto (s : _root_.Go.ChangeSpec) : _root_.Go.OpenSpec := { _root_.Go.OpenSpec.ofChange s with cond := some uptoSmall }

/-- 'laws.FnExactUngranted', WHERE WHAT IT READS IS OF BULK AT MOST 1048576: true; the input reads as it did. -/
def fnExactUngrantedUptoRow : OpenClaim := { program := "ytjjfblejccfplaa", sum := "0aa08bc582433c00a579e20810d06960152ecaeb163a49bbf27eced3547d3875", func := "loop.example/g01538/laws.FnExactUngranted", spec := "fnExactUngranted", apart := false, narrowed := true }
def FnExactUngrantedUptoSaid : Prop := fnExactUngrantedUptoRow.holds Try.pinned (OpenSpec.upto fnExactUngrantedSpec)

/-- 'laws.FnExactSameHeap', WHERE WHAT IT READS IS OF BULK AT MOST 1048576: true; the input reads as it did. -/
def fnExactSameHeapUptoRow : OpenClaim := { program := "ytjjfblejccfplaa", sum := "0aa08bc582433c00a579e20810d06960152ecaeb163a49bbf27eced3547d3875", func := "loop.example/g01538/laws.FnExactSameHeap", spec := "fnExactSameHeap", apart := false, narrowed := true }
def FnExactSameHeapUptoSaid : Prop := fnExactSameHeapUptoRow.holds Try.pinned (OpenSpec.upto fnExactSameHeapSpec)

/-- 'laws.FnExactHeapNew', WHERE WHAT IT READS IS OF BULK AT MOST 1048576: true; the input reads as it did. -/
def fnExactHeapNewUptoRow : OpenClaim := { program := "ytjjfblejccfplaa", sum := "0aa08bc582433c00a579e20810d06960152ecaeb163a49bbf27eced3547d3875", func := "loop.example/g01538/laws.FnExactHeapNew", spec := "fnExactHeapNew", apart := false, narrowed := true }
def FnExactHeapNewUptoSaid : Prop := fnExactHeapNewUptoRow.holds Try.pinned (OpenSpec.upto fnExactHeapNewSpec)

/-- 'laws.FnExactClassAt', WHERE WHAT IT READS IS OF BULK AT MOST 1048576: true; the input reads as it did. -/
def fnExactClassAtUptoRow : OpenClaim := { program := "ytjjfblejccfplaa", sum := "0aa08bc582433c00a579e20810d06960152ecaeb163a49bbf27eced3547d3875", func := "loop.example/g01538/laws.FnExactClassAt", spec := "fnExactClassAt", unfollowed := true, recurses := true, apart := false, narrowed := true }
def FnExactClassAtUptoSaid : Prop := fnExactClassAtUptoRow.holds Try.pinned (OpenSpec.upto fnExactClassAtSpec)

/-- 'laws.FnExactCarved', WHERE WHAT IT READS IS OF BULK AT MOST 1048576: true; the input reads as it did. -/
def fnExactCarvedUptoRow : OpenClaim := { program := "ytjjfblejccfplaa", sum := "0aa08bc582433c00a579e20810d06960152ecaeb163a49bbf27eced3547d3875", func := "loop.example/g01538/laws.FnExactCarved", spec := "fnExactCarved", unfollowed := true, recurses := true, apart := false, narrowed := true }
def FnExactCarvedUptoSaid : Prop := fnExactCarvedUptoRow.holds Try.pinned (OpenSpec.upto fnExactCarvedSpec)

/-- 'laws.FnExactGenIn', WHERE WHAT IT READS IS OF BULK AT MOST 1048576: true; the input reads as it did. -/
def fnExactGenInUptoRow : OpenClaim := { program := "ytjjfblejccfplaa", sum := "0aa08bc582433c00a579e20810d06960152ecaeb163a49bbf27eced3547d3875", func := "loop.example/g01538/laws.FnExactGenIn", spec := "fnExactGenIn", unfollowed := true, recurses := true, apart := false, narrowed := true }
def FnExactGenInUptoSaid : Prop := fnExactGenInUptoRow.holds Try.pinned (OpenSpec.upto fnExactGenInSpec)

/-- 'laws.FnExactHeapOk', WHERE WHAT IT READS IS OF BULK AT MOST 1048576: true; the input reads as it did. -/
def fnExactHeapOkUptoRow : OpenClaim := { program := "ytjjfblejccfplaa", sum := "0aa08bc582433c00a579e20810d06960152ecaeb163a49bbf27eced3547d3875", func := "loop.example/g01538/laws.FnExactHeapOk", spec := "fnExactHeapOk", unfollowed := true, recurses := true, apart := false, narrowed := true }
def FnExactHeapOkUptoSaid : Prop := fnExactHeapOkUptoRow.holds Try.pinned (OpenSpec.upto fnExactHeapOkSpec)

/-- 'laws.FnExactSetGen', WHERE WHAT IT READS IS OF BULK AT MOST 1048576: true; the input reads as it did. -/
def fnExactSetGenUptoRow : OpenClaim := { program := "ytjjfblejccfplaa", sum := "0aa08bc582433c00a579e20810d06960152ecaeb163a49bbf27eced3547d3875", func := "loop.example/g01538/laws.FnExactSetGen", spec := "fnExactSetGen", unfollowed := true, recurses := true, apart := false, narrowed := true }
def FnExactSetGenUptoSaid : Prop := fnExactSetGenUptoRow.holds Try.pinned (OpenSpec.upto fnExactSetGenSpec)

/-- 'laws.FnExactGrant', WHERE WHAT IT READS IS OF BULK AT MOST 1048576: true; the input reads as it did. -/
def fnExactGrantUptoRow : OpenClaim := { program := "ytjjfblejccfplaa", sum := "0aa08bc582433c00a579e20810d06960152ecaeb163a49bbf27eced3547d3875", func := "loop.example/g01538/laws.FnExactGrant", spec := "fnExactGrant", unfollowed := true, recurses := true, apart := false, narrowed := true }
def FnExactGrantUptoSaid : Prop := fnExactGrantUptoRow.holds Try.pinned (OpenSpec.upto fnExactGrantSpec)

end Rows
end Go.Proofs.Ytjjfblejccfplaa
