/-
  DERIVED. GIVEN WITH THE SEED: THE CARDS: each row of YtciehbedpjfflacDoorRows.lean that lists a variable, with what it lists TIED to the program's text (the seventh form; the later family's looks); each row that meets fmt, with fmt's text TOLD by the authors' own Lean function (tested against real Go, not proved from fmt's source: count such statements apart). THE CARD IS WHAT COUNTS. Prove the row's statement (the work); the ties are given (YtciehbedpjfflacDoorTie.lean); close each card by the builder's one call (the guide's Derived/Test/ToyasCard.lean, 'card_holds'). Laid BY PROGRAM, IN A SANDBOX (cutbox-door.mjs). By AI agents, Wed Nov 11 2026. No macro, syntax, notation, axiom, sorry.
-/
import Derived.Test.YtciehbedpjfflacDoorRows
import GoSem.ClaimSeven
namespace Go.Proofs.YtciehbedpjfflacDoor
namespace Rows

/-- THE TIED CARD OF 'laws.FnExactDec'. -/
def fnExactDecCard : Claim7 := { stood := { row := fnExactDecRow, standIns := [], harness := (true, "4b6d27e7412e39b1637ed50b2c7182e7277c4a38eb41c4e62b9cf66e9ba173fe"), looks := false }, kinds := [], alts := [], laidByText := true, laidKinds := [.data, .data, .data], laidTests := true, laidLooks := .later }
def FnExactDecCardSaid : Prop := Claim7.holds Tryd.pinned (.plain (OpenSpec.ofChange fnExactDecSpec)) fnExactDecCard

/-- THE SECOND FORM's CARD OF 'laws.FnExactDec'. -/
def fnExactDecUptoCard : Claim7 := { stood := { row := fnExactDecUptoRow, standIns := [], harness := (true, "4b6d27e7412e39b1637ed50b2c7182e7277c4a38eb41c4e62b9cf66e9ba173fe"), looks := false }, kinds := [], alts := [], laidByText := true, laidKinds := [.data, .data, .data], laidTests := true, laidLooks := .later }
def FnExactDecUptoCardSaid : Prop := Claim7.holds Tryd.pinned (.plain (OpenSpec.upto fnExactDecSpec)) fnExactDecUptoCard
end Rows
end Go.Proofs.YtciehbedpjfflacDoor
