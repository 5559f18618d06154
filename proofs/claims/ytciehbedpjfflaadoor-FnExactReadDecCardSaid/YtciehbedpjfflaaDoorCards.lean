/-
  DERIVED. GIVEN WITH THE SEED: THE CARDS: each row of YtciehbedpjfflaaDoorRows.lean that lists a variable, with what it lists TIED to the program's text (the seventh form; the later family's looks); each row that meets fmt, with fmt's text TOLD by the authors' own Lean function (tested against real Go, not proved from fmt's source: count such statements apart). THE CARD IS WHAT COUNTS. Prove the row's statement (the work); the ties are given (YtciehbedpjfflaaDoorTie.lean); close each card by the builder's one call (the guide's Derived/Test/ToyasCard.lean, 'card_holds'). Laid BY PROGRAM, IN A SANDBOX (cutbox-door.mjs). By AI agents, Wed Nov 11 2026. No macro, syntax, notation, axiom, sorry.
-/
import Derived.Test.YtciehbedpjfflaaDoorRows
import GoSem.ClaimSeven
namespace Go.Proofs.YtciehbedpjfflaaDoor
namespace Rows

/-- THE TIED CARD OF 'laws.FnExactReadDec'. -/
def fnExactReadDecCard : Claim7 := { stood := { row := fnExactReadDecRow, standIns := [], harness := (true, "924304109da3f8329bd9b1be7990fcef27dcf5d86bcbe3f73b362940e087a20e"), looks := true }, kinds := [], alts := [], laidByText := true, laidKinds := [.data, .data, .data, .sentinel, .sentinel], laidTests := true, laidLooks := .later }
def FnExactReadDecCardSaid : Prop := Claim7.holds Tryd.pinned (.plain (OpenSpec.ofChange fnExactReadDecSpec)) fnExactReadDecCard

/-- THE SECOND FORM's CARD OF 'laws.FnExactReadDec'. -/
def fnExactReadDecUptoCard : Claim7 := { stood := { row := fnExactReadDecUptoRow, standIns := [], harness := (true, "924304109da3f8329bd9b1be7990fcef27dcf5d86bcbe3f73b362940e087a20e"), looks := true }, kinds := [], alts := [], laidByText := true, laidKinds := [.data, .data, .data, .sentinel, .sentinel], laidTests := true, laidLooks := .later }
def FnExactReadDecUptoCardSaid : Prop := Claim7.holds Tryd.pinned (.plain (OpenSpec.upto fnExactReadDecSpec)) fnExactReadDecUptoCard
end Rows
end Go.Proofs.YtciehbedpjfflaaDoor
