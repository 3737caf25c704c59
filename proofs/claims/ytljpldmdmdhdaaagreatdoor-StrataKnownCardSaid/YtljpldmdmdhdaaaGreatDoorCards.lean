/-
  DERIVED. GIVEN WITH THE SEED: THE CARDS: each row of YtljpldmdmdhdaaaGreatDoorRows.lean that lists a variable, with what it lists TIED to the program's text (the seventh form; the later family's looks); each row that meets fmt, with fmt's text TOLD by the authors' own Lean function (tested against real Go, not proved from fmt's source: count such statements apart). THE CARD IS WHAT COUNTS. Prove the row's statement (the work); the ties are given (YtljpldmdmdhdaaaGreatDoorTie.lean); close each card by the builder's one call (the guide's Derived/Test/ToyasCard.lean, 'card_holds'). Laid BY PROGRAM, IN A SANDBOX (cutbox-door.mjs). By AI agents, Wed Nov 11 2026. No macro, syntax, notation, axiom, sorry.
-/
import Derived.Test.YtljpldmdmdhdaaaGreatDoorRows
import GoSem.ClaimSeven
namespace Go.Proofs.YtljpldmdmdhdaaaGreatDoor
namespace Rows

/-- THE TIED CARD OF 'fathomlaw20.StrataKnown'. -/
def strataKnownCard : Claim7 := { stood := { row := strataKnownRow, standIns := [], harness := (true, "af377b3d648c3fbe984f06e6bd091ea64d48211b8720688151adc4fd72ad077c"), looks := true }, kinds := [], alts := [], laidByText := true, laidKinds := [.data, .data, .data, .data, .sentinel, .sentinel, .pinned], laidTests := true, laidLooks := .later }
def StrataKnownCardSaid : Prop := Claim7.holds Tryz.pinned (.plain (OpenSpec.ofChange strataKnownSpec)) strataKnownCard

/-- THE SECOND FORM's CARD OF 'fathomlaw20.StrataKnown'. -/
def strataKnownUptoCard : Claim7 := { stood := { row := strataKnownUptoRow, standIns := [], harness := (true, "af377b3d648c3fbe984f06e6bd091ea64d48211b8720688151adc4fd72ad077c"), looks := true }, kinds := [], alts := [], laidByText := true, laidKinds := [.data, .data, .data, .data, .sentinel, .sentinel, .pinned], laidTests := true, laidLooks := .later }
def StrataKnownUptoCardSaid : Prop := Claim7.holds Tryz.pinned (.plain (OpenSpec.upto strataKnownSpec)) strataKnownUptoCard
end Rows
end Go.Proofs.YtljpldmdmdhdaaaGreatDoor
