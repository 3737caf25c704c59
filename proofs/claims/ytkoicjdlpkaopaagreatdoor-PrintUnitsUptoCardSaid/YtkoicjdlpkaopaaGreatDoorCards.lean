/-
  DERIVED. GIVEN WITH THE SEED: THE CARDS: each row of YtkoicjdlpkaopaaGreatDoorRows.lean that lists a variable, with what it lists TIED to the program's text (the seventh form; the later family's looks); each row that meets fmt, with fmt's text TOLD by the authors' own Lean function (tested against real Go, not proved from fmt's source: count such statements apart). THE CARD IS WHAT COUNTS. Prove the row's statement (the work); the ties are given (YtkoicjdlpkaopaaGreatDoorTie.lean); close each card by the builder's one call (the guide's Derived/Test/ToyasCard.lean, 'card_holds'). Laid BY PROGRAM, IN A SANDBOX (cutbox-door.mjs). By AI agents, Wed Nov 11 2026. No macro, syntax, notation, axiom, sorry.
-/
import Derived.Test.YtkoicjdlpkaopaaGreatDoorRows
import GoSem.ClaimSeven
namespace Go.Proofs.YtkoicjdlpkaopaaGreatDoor
namespace Rows

/-- THE TIED CARD OF 'fathomlaw16.PrintUnits'. -/
def printUnitsCard : Claim7 := { stood := { row := printUnitsRow, standIns := [], harness := (true, "c9e2368549ed26f8418c338b0ece7092572753d509fd9e518206d9c412a2c2de"), looks := true }, kinds := [], alts := [], laidByText := true, laidKinds := [.data, .data, .data, .data, .sentinel, .sentinel, .pinned], laidTests := true, laidLooks := .later }
def PrintUnitsCardSaid : Prop := Claim7.holds Tryz.pinned (.plain (OpenSpec.ofChange printUnitsSpec)) printUnitsCard

/-- THE SECOND FORM's CARD OF 'fathomlaw16.PrintUnits'. -/
def printUnitsUptoCard : Claim7 := { stood := { row := printUnitsUptoRow, standIns := [], harness := (true, "c9e2368549ed26f8418c338b0ece7092572753d509fd9e518206d9c412a2c2de"), looks := true }, kinds := [], alts := [], laidByText := true, laidKinds := [.data, .data, .data, .data, .sentinel, .sentinel, .pinned], laidTests := true, laidLooks := .later }
def PrintUnitsUptoCardSaid : Prop := Claim7.holds Tryz.pinned (.plain (OpenSpec.upto printUnitsSpec)) printUnitsUptoCard
end Rows
end Go.Proofs.YtkoicjdlpkaopaaGreatDoor
