/-
  No cell of these rows narrows 'for every input' (looked for: loops, veiled, ifaces, maps, wideKeys, modest, calm, conditions, laid).
  DERIVED. THE GIVEN ROWS OF THIS SEAT. 7 by the template 'for every input the law returns true; each argument reads behind the call as it read before'; 0 by the template 'total and deterministic' (their statements: YtflomdjcboohlaaTotals.lean).
  GIVEN WITH THE SEED: the statements are not yours to turn. If you find one false, say at which input.
  Laid BY PROGRAM, IN A SANDBOX (cutbox-rows.mjs): the forced cells as the released guide's own fill.sh prints them over the translation bd54dcd5eb288049… (all of the seat's roots in one cut). By AI agents, Wed Nov 11 2026. No macro, syntax, notation, axiom, sorry.
-/
import Derived.Test.YtflomdjcboohlaaChecked
import GoSem.Claim
import GoSem.ClaimJoined
import GoSem.ClaimMapViews
import Derived.JoinedTies
import Derived.KernelRfl
namespace Go.Proofs.Ytflomdjcboohlaa
/- THE CELL 'sum', in the pinned program and in every row, IS THE sha256 OF THE DUMP (.gsa) THAT YtflomdjcboohlaaProg.lean LOADS. Nothing in Lean hashes anything: it is a label: what it is worth is what the hold of that sum in a sandbox is worth. -/
noncomputable def Try.pinned : Pinned := { name := "ytflomdjcboohlaa", sum := "bd54dcd5eb2880493c532fe1589439bcb34a2d34235dc98583905a39d80c47a7", checked := Try.checked }
namespace Rows
def none {H : Type} : Left H := { results := [], args := [] }

/-- 'laws.FnExactSameBytes': WHATEVER THE INPUT: true; the input reads as it did. -/
def fnExactSameBytesSpec : ChangeSpec := { name := "fnExactSameBytes", fn := fun _ => fun
  | [d1, d2] => { results := [.lit (.bool true)], args := [d1, d2] }
  | _ => none }
def fnExactSameBytesRow : OpenClaim := { program := "ytflomdjcboohlaa", sum := "bd54dcd5eb2880493c532fe1589439bcb34a2d34235dc98583905a39d80c47a7", func := "loop.example/g01538/laws.FnExactSameBytes", spec := "fnExactSameBytes", apart := false }
def FnExactSameBytesSaid : Prop := fnExactSameBytesRow.holds Try.pinned (OpenSpec.ofChange fnExactSameBytesSpec)

/-- ITS FALSE NEIGHBOUR: 'it returns false'. Refute it at one input. -/
def fnExactSameBytesWrong : ChangeSpec := { name := "fnExactSameBytes", fn := fun _ => fun
  | [d1, d2] => { results := [.lit (.bool false)], args := [d1, d2] }
  | _ => none }
def FnExactSameBytesWrongFalsely : Prop := fnExactSameBytesRow.holds Try.pinned (OpenSpec.ofChange fnExactSameBytesWrong)

/-- 'laws.FnExactBytesOk': WHATEVER THE INPUT: true; the input reads as it did. -/
def fnExactBytesOkSpec : ChangeSpec := { name := "fnExactBytesOk", fn := fun _ => fun
  | [d] => { results := [.lit (.bool true)], args := [d] }
  | _ => none }
def fnExactBytesOkRow : OpenClaim := { program := "ytflomdjcboohlaa", sum := "bd54dcd5eb2880493c532fe1589439bcb34a2d34235dc98583905a39d80c47a7", func := "loop.example/g01538/laws.FnExactBytesOk", spec := "fnExactBytesOk", unfollowed := true, recurses := true, apart := false }
def FnExactBytesOkSaid : Prop := fnExactBytesOkRow.holds Try.pinned (OpenSpec.ofChange fnExactBytesOkSpec)

/-- ITS FALSE NEIGHBOUR: 'it returns false'. Refute it at one input. -/
def fnExactBytesOkWrong : ChangeSpec := { name := "fnExactBytesOk", fn := fun _ => fun
  | [d] => { results := [.lit (.bool false)], args := [d] }
  | _ => none }
def FnExactBytesOkWrongFalsely : Prop := fnExactBytesOkRow.holds Try.pinned (OpenSpec.ofChange fnExactBytesOkWrong)

/-- 'laws.FnExactLoadNum': WHATEVER THE INPUT: true; the input reads as it did. -/
def fnExactLoadNumSpec : ChangeSpec := { name := "fnExactLoadNum", fn := fun _ => fun
  | [d1, d2, d3] => { results := [.lit (.bool true)], args := [d1, d2, d3] }
  | _ => none }
def fnExactLoadNumRow : OpenClaim := { program := "ytflomdjcboohlaa", sum := "bd54dcd5eb2880493c532fe1589439bcb34a2d34235dc98583905a39d80c47a7", func := "loop.example/g01538/laws.FnExactLoadNum", spec := "fnExactLoadNum", unfollowed := true, recurses := true, apart := false }
def FnExactLoadNumSaid : Prop := fnExactLoadNumRow.holds Try.pinned (OpenSpec.ofChange fnExactLoadNumSpec)

/-- ITS FALSE NEIGHBOUR: 'it returns false'. Refute it at one input. -/
def fnExactLoadNumWrong : ChangeSpec := { name := "fnExactLoadNum", fn := fun _ => fun
  | [d1, d2, d3] => { results := [.lit (.bool false)], args := [d1, d2, d3] }
  | _ => none }
def FnExactLoadNumWrongFalsely : Prop := fnExactLoadNumRow.holds Try.pinned (OpenSpec.ofChange fnExactLoadNumWrong)

/-- 'laws.FnExactStoreNum': WHATEVER THE INPUT: true; the input reads as it did. -/
def fnExactStoreNumSpec : ChangeSpec := { name := "fnExactStoreNum", fn := fun _ => fun
  | [d1, d2, d3, d4] => { results := [.lit (.bool true)], args := [d1, d2, d3, d4] }
  | _ => none }
def fnExactStoreNumRow : OpenClaim := { program := "ytflomdjcboohlaa", sum := "bd54dcd5eb2880493c532fe1589439bcb34a2d34235dc98583905a39d80c47a7", func := "loop.example/g01538/laws.FnExactStoreNum", spec := "fnExactStoreNum", unfollowed := true, recurses := true, apart := false }
def FnExactStoreNumSaid : Prop := fnExactStoreNumRow.holds Try.pinned (OpenSpec.ofChange fnExactStoreNumSpec)

/-- ITS FALSE NEIGHBOUR: 'it returns false'. Refute it at one input. -/
def fnExactStoreNumWrong : ChangeSpec := { name := "fnExactStoreNum", fn := fun _ => fun
  | [d1, d2, d3, d4] => { results := [.lit (.bool false)], args := [d1, d2, d3, d4] }
  | _ => none }
def FnExactStoreNumWrongFalsely : Prop := fnExactStoreNumRow.holds Try.pinned (OpenSpec.ofChange fnExactStoreNumWrong)

/-- 'laws.FnExactCasNum': WHATEVER THE INPUT: true; the input reads as it did. -/
def fnExactCasNumSpec : ChangeSpec := { name := "fnExactCasNum", fn := fun _ => fun
  | [d1, d2, d3, d4, d5] => { results := [.lit (.bool true)], args := [d1, d2, d3, d4, d5] }
  | _ => none }
def fnExactCasNumRow : OpenClaim := { program := "ytflomdjcboohlaa", sum := "bd54dcd5eb2880493c532fe1589439bcb34a2d34235dc98583905a39d80c47a7", func := "loop.example/g01538/laws.FnExactCasNum", spec := "fnExactCasNum", unfollowed := true, recurses := true, apart := false }
def FnExactCasNumSaid : Prop := fnExactCasNumRow.holds Try.pinned (OpenSpec.ofChange fnExactCasNumSpec)

/-- ITS FALSE NEIGHBOUR: 'it returns false'. Refute it at one input. -/
def fnExactCasNumWrong : ChangeSpec := { name := "fnExactCasNum", fn := fun _ => fun
  | [d1, d2, d3, d4, d5] => { results := [.lit (.bool false)], args := [d1, d2, d3, d4, d5] }
  | _ => none }
def FnExactCasNumWrongFalsely : Prop := fnExactCasNumRow.holds Try.pinned (OpenSpec.ofChange fnExactCasNumWrong)

/-- 'laws.FnExactFill': WHATEVER THE INPUT: true; the input reads as it did. -/
def fnExactFillSpec : ChangeSpec := { name := "fnExactFill", fn := fun _ => fun
  | [d1, d2, d3, d4] => { results := [.lit (.bool true)], args := [d1, d2, d3, d4] }
  | _ => none }
def fnExactFillRow : OpenClaim := { program := "ytflomdjcboohlaa", sum := "bd54dcd5eb2880493c532fe1589439bcb34a2d34235dc98583905a39d80c47a7", func := "loop.example/g01538/laws.FnExactFill", spec := "fnExactFill", unfollowed := true, recurses := true, apart := false }
def FnExactFillSaid : Prop := fnExactFillRow.holds Try.pinned (OpenSpec.ofChange fnExactFillSpec)

/-- ITS FALSE NEIGHBOUR: 'it returns false'. Refute it at one input. -/
def fnExactFillWrong : ChangeSpec := { name := "fnExactFill", fn := fun _ => fun
  | [d1, d2, d3, d4] => { results := [.lit (.bool false)], args := [d1, d2, d3, d4] }
  | _ => none }
def FnExactFillWrongFalsely : Prop := fnExactFillRow.holds Try.pinned (OpenSpec.ofChange fnExactFillWrong)

/-- 'laws.FnBytes': WHATEVER THE INPUT: true; the input reads as it did. -/
def fnBytesSpec : ChangeSpec := { name := "fnBytes", fn := fun _ => fun
  | [d] => { results := [.lit (.bool true)], args := [d] }
  | _ => none }
def fnBytesRow : OpenClaim := { program := "ytflomdjcboohlaa", sum := "bd54dcd5eb2880493c532fe1589439bcb34a2d34235dc98583905a39d80c47a7", func := "loop.example/g01538/laws.FnBytes", spec := "fnBytes", unfollowed := true, recurses := true, apart := false }
def FnBytesSaid : Prop := fnBytesRow.holds Try.pinned (OpenSpec.ofChange fnBytesSpec)

/-- ITS FALSE NEIGHBOUR: 'it returns false'. Refute it at one input. -/
def fnBytesWrong : ChangeSpec := { name := "fnBytes", fn := fun _ => fun
  | [d] => { results := [.lit (.bool false)], args := [d] }
  | _ => none }
def FnBytesWrongFalsely : Prop := fnBytesRow.holds Try.pinned (OpenSpec.ofChange fnBytesWrong)

/- THE SECOND FORM. 'bulk': how many values and letters a reading holds, each counted each time it is reached (what is shared counts as often as it is met; a slice's spare places count too). A statement '..UptoSaid' is the law's where the arguments, and the package variables that the reading takes, are together of bulk at most 1048576: NARROWER than '..Said'. Prove '..Said' where nothing that the law and all that it calls make is longer than what came in: it says more and counts as full. Else prove '..UptoSaid'. A law counts once. -/
mutual
def uptoBulk {H : Type} : DataW H → Nat
  | .lit (.string bytes) => bytes.length + 1
  | .lit _ => 1
  | .nil => 1
  | .ptr d => uptoBulk d + 1
  | .slice elems spare => uptoBulkAll elems + uptoBulkAll spare + 1
  | .agg parts => uptoBulkAll parts + 1
  | .iface _ d => uptoBulk d + 1
  | .map entries => uptoBulkEntries entries + 1
  | .held _ => 1
def uptoBulkAll {H : Type} : List (DataW H) → Nat
  | [] => 0
  | d :: r => uptoBulk d + uptoBulkAll r
def uptoBulkEntries {H : Type} : List (Lit × DataW H) → Nat
  | [] => 0
  | x :: r => uptoBulkEntry x + uptoBulkEntries r
def uptoBulkEntry {H : Type} : Lit × DataW H → Nat
  | (.string bytes, d) => bytes.length + uptoBulk d + 1
  | (_, d) => uptoBulk d + 1
 end
def uptoSmall : (H : Type) → List (DataW H) → Bool := fun _ ds => decide (uptoBulkAll ds ≤ 1048576)
def OpenSpec.upto (s : _root_.Go.ChangeSpec) : _root_.Go.OpenSpec := { _root_.Go.OpenSpec.ofChange s with cond := some uptoSmall }

/-- 'laws.FnExactSameBytes', WHERE WHAT IT READS IS OF BULK AT MOST 1048576: true; the input reads as it did. -/
def fnExactSameBytesUptoRow : OpenClaim := { program := "ytflomdjcboohlaa", sum := "bd54dcd5eb2880493c532fe1589439bcb34a2d34235dc98583905a39d80c47a7", func := "loop.example/g01538/laws.FnExactSameBytes", spec := "fnExactSameBytes", apart := false, narrowed := true }
def FnExactSameBytesUptoSaid : Prop := fnExactSameBytesUptoRow.holds Try.pinned (OpenSpec.upto fnExactSameBytesSpec)

/-- 'laws.FnExactBytesOk', WHERE WHAT IT READS IS OF BULK AT MOST 1048576: true; the input reads as it did. -/
def fnExactBytesOkUptoRow : OpenClaim := { program := "ytflomdjcboohlaa", sum := "bd54dcd5eb2880493c532fe1589439bcb34a2d34235dc98583905a39d80c47a7", func := "loop.example/g01538/laws.FnExactBytesOk", spec := "fnExactBytesOk", unfollowed := true, recurses := true, apart := false, narrowed := true }
def FnExactBytesOkUptoSaid : Prop := fnExactBytesOkUptoRow.holds Try.pinned (OpenSpec.upto fnExactBytesOkSpec)

/-- 'laws.FnExactLoadNum', WHERE WHAT IT READS IS OF BULK AT MOST 1048576: true; the input reads as it did. -/
def fnExactLoadNumUptoRow : OpenClaim := { program := "ytflomdjcboohlaa", sum := "bd54dcd5eb2880493c532fe1589439bcb34a2d34235dc98583905a39d80c47a7", func := "loop.example/g01538/laws.FnExactLoadNum", spec := "fnExactLoadNum", unfollowed := true, recurses := true, apart := false, narrowed := true }
def FnExactLoadNumUptoSaid : Prop := fnExactLoadNumUptoRow.holds Try.pinned (OpenSpec.upto fnExactLoadNumSpec)

/-- 'laws.FnExactStoreNum', WHERE WHAT IT READS IS OF BULK AT MOST 1048576: true; the input reads as it did. -/
def fnExactStoreNumUptoRow : OpenClaim := { program := "ytflomdjcboohlaa", sum := "bd54dcd5eb2880493c532fe1589439bcb34a2d34235dc98583905a39d80c47a7", func := "loop.example/g01538/laws.FnExactStoreNum", spec := "fnExactStoreNum", unfollowed := true, recurses := true, apart := false, narrowed := true }
def FnExactStoreNumUptoSaid : Prop := fnExactStoreNumUptoRow.holds Try.pinned (OpenSpec.upto fnExactStoreNumSpec)

/-- 'laws.FnExactCasNum', WHERE WHAT IT READS IS OF BULK AT MOST 1048576: true; the input reads as it did. -/
def fnExactCasNumUptoRow : OpenClaim := { program := "ytflomdjcboohlaa", sum := "bd54dcd5eb2880493c532fe1589439bcb34a2d34235dc98583905a39d80c47a7", func := "loop.example/g01538/laws.FnExactCasNum", spec := "fnExactCasNum", unfollowed := true, recurses := true, apart := false, narrowed := true }
def FnExactCasNumUptoSaid : Prop := fnExactCasNumUptoRow.holds Try.pinned (OpenSpec.upto fnExactCasNumSpec)

/-- 'laws.FnExactFill', WHERE WHAT IT READS IS OF BULK AT MOST 1048576: true; the input reads as it did. -/
def fnExactFillUptoRow : OpenClaim := { program := "ytflomdjcboohlaa", sum := "bd54dcd5eb2880493c532fe1589439bcb34a2d34235dc98583905a39d80c47a7", func := "loop.example/g01538/laws.FnExactFill", spec := "fnExactFill", unfollowed := true, recurses := true, apart := false, narrowed := true }
def FnExactFillUptoSaid : Prop := fnExactFillUptoRow.holds Try.pinned (OpenSpec.upto fnExactFillSpec)

/-- 'laws.FnBytes', WHERE WHAT IT READS IS OF BULK AT MOST 1048576: true; the input reads as it did. -/
def fnBytesUptoRow : OpenClaim := { program := "ytflomdjcboohlaa", sum := "bd54dcd5eb2880493c532fe1589439bcb34a2d34235dc98583905a39d80c47a7", func := "loop.example/g01538/laws.FnBytes", spec := "fnBytes", unfollowed := true, recurses := true, apart := false, narrowed := true }
def FnBytesUptoSaid : Prop := fnBytesUptoRow.holds Try.pinned (OpenSpec.upto fnBytesSpec)

end Rows
end Go.Proofs.Ytflomdjcboohlaa
