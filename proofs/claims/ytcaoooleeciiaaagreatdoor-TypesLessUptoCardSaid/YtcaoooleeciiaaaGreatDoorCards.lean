/-
  DERIVED. GIVEN WITH THE SEED: THE CARDS: each row of YtcaoooleeciiaaaGreatDoorRows.lean that lists a variable, with what it lists TIED to the program's text (the seventh form; the later family's looks); each row that meets fmt, with fmt's text TOLD by the authors' own Lean function (tested against real Go, not proved from fmt's source: count such statements apart). THE CARD IS WHAT COUNTS. Prove the row's statement (the work); the ties are given (YtcaoooleeciiaaaGreatDoorTie.lean); close each card by the builder's one call (the guide's Derived/Test/ToyasCard.lean, 'card_holds'). Laid BY PROGRAM, IN A SANDBOX (cutbox-door.mjs). By AI agents, Wed Nov 11 2026. No macro, syntax, notation, axiom, sorry.
-/
import Derived.Test.YtcaoooleeciiaaaGreatDoorRows
import GoSem.ClaimSeven
namespace Go.Proofs.YtcaoooleeciiaaaGreatDoor
namespace Rows

/-- THE TIED CARD OF 'fathomlaw18.TypesLess'. -/
def typesLessCard : Claim7 := { stood := { row := typesLessRow, standIns := [], harness := (true, "32461e98869868166a226c822fb86dcc405135d4d1801b11a3523b474738b0d8"), looks := true }, kinds := [], alts := [], laidByText := true, laidKinds := [.data, .data, .data, .data, .sentinel, .sentinel, .pinned], laidTests := true, laidLooks := .later }
def TypesLessCardSaid : Prop := Claim7.holds Tryz.pinned (.plain (OpenSpec.ofChange typesLessSpec)) typesLessCard

/-- THE SECOND FORM's CARD OF 'fathomlaw18.TypesLess'. -/
def typesLessUptoCard : Claim7 := { stood := { row := typesLessUptoRow, standIns := [], harness := (true, "32461e98869868166a226c822fb86dcc405135d4d1801b11a3523b474738b0d8"), looks := true }, kinds := [], alts := [], laidByText := true, laidKinds := [.data, .data, .data, .data, .sentinel, .sentinel, .pinned], laidTests := true, laidLooks := .later }
def TypesLessUptoCardSaid : Prop := Claim7.holds Tryz.pinned (.plain (OpenSpec.upto typesLessSpec)) typesLessUptoCard
end Rows
end Go.Proofs.YtcaoooleeciiaaaGreatDoor
