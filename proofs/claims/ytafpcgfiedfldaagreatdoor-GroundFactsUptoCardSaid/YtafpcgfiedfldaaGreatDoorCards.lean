/-
  DERIVED. GIVEN WITH THE SEED: THE CARDS: each row of YtafpcgfiedfldaaGreatDoorRows.lean that lists a variable, with what it lists TIED to the program's text (the seventh form; the later family's looks); each row that meets fmt, with fmt's text TOLD by the authors' own Lean function (tested against real Go, not proved from fmt's source: count such statements apart). THE CARD IS WHAT COUNTS. Prove the row's statement (the work); the ties are given (YtafpcgfiedfldaaGreatDoorTie.lean); close each card by the builder's one call (the guide's Derived/Test/ToyasCard.lean, 'card_holds'). Laid BY PROGRAM, IN A SANDBOX (cutbox-door.mjs). By AI agents, Wed Nov 11 2026. No macro, syntax, notation, axiom, sorry.
-/
import Derived.Test.YtafpcgfiedfldaaGreatDoorRows
import GoSem.ClaimSeven
namespace Go.Proofs.YtafpcgfiedfldaaGreatDoor
namespace Rows

/-- THE TIED CARD OF 'fathomlaw19.GroundFacts'. -/
def groundFactsCard : Claim7 := { stood := { row := groundFactsRow, standIns := [], harness := (true, "d970c1b73eec21b3ce99d6460fe68b033a89c109012a5c338c5329502347cf61"), looks := true }, kinds := [], alts := [], laidByText := true, laidKinds := [.data, .data, .data, .data, .sentinel, .sentinel, .pinned], laidTests := true, laidLooks := .later }
def GroundFactsCardSaid : Prop := Claim7.holds Tryz.pinned (.plain (OpenSpec.ofChange groundFactsSpec)) groundFactsCard

/-- THE SECOND FORM's CARD OF 'fathomlaw19.GroundFacts'. -/
def groundFactsUptoCard : Claim7 := { stood := { row := groundFactsUptoRow, standIns := [], harness := (true, "d970c1b73eec21b3ce99d6460fe68b033a89c109012a5c338c5329502347cf61"), looks := true }, kinds := [], alts := [], laidByText := true, laidKinds := [.data, .data, .data, .data, .sentinel, .sentinel, .pinned], laidTests := true, laidLooks := .later }
def GroundFactsUptoCardSaid : Prop := Claim7.holds Tryz.pinned (.plain (OpenSpec.upto groundFactsSpec)) groundFactsUptoCard
end Rows
end Go.Proofs.YtafpcgfiedfldaaGreatDoor
