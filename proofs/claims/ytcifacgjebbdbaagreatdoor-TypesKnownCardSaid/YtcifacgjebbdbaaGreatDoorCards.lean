/-
  DERIVED. GIVEN WITH THE SEED: THE CARDS: each row of YtcifacgjebbdbaaGreatDoorRows.lean that lists a variable, with what it lists TIED to the program's text (the seventh form; the later family's looks); each row that meets fmt, with fmt's text TOLD by the authors' own Lean function (tested against real Go, not proved from fmt's source: count such statements apart). THE CARD IS WHAT COUNTS. Prove the row's statement (the work); the ties are given (YtcifacgjebbdbaaGreatDoorTie.lean); close each card by the builder's one call (the guide's Derived/Test/ToyasCard.lean, 'card_holds'). Laid BY PROGRAM, IN A SANDBOX (cutbox-door.mjs). By AI agents, Wed Nov 11 2026. No macro, syntax, notation, axiom, sorry.
-/
import Derived.Test.YtcifacgjebbdbaaGreatDoorRows
import GoSem.ClaimSeven
namespace Go.Proofs.YtcifacgjebbdbaaGreatDoor
namespace Rows

/-- THE TIED CARD OF 'fathomlaw18.TypesKnown'. -/
def typesKnownCard : Claim7 := { stood := { row := typesKnownRow, standIns := [], harness := (true, "4104f6539e28688b605e26ed5f968e00fdfdda335e80b4e95668082358b5a376"), looks := true }, kinds := [], alts := [], laidByText := true, laidKinds := [.data, .data, .data, .data, .sentinel, .sentinel, .pinned], laidTests := true, laidLooks := .later }
def TypesKnownCardSaid : Prop := Claim7.holds Tryz.pinned (.plain (OpenSpec.ofChange typesKnownSpec)) typesKnownCard

/-- THE SECOND FORM's CARD OF 'fathomlaw18.TypesKnown'. -/
def typesKnownUptoCard : Claim7 := { stood := { row := typesKnownUptoRow, standIns := [], harness := (true, "4104f6539e28688b605e26ed5f968e00fdfdda335e80b4e95668082358b5a376"), looks := true }, kinds := [], alts := [], laidByText := true, laidKinds := [.data, .data, .data, .data, .sentinel, .sentinel, .pinned], laidTests := true, laidLooks := .later }
def TypesKnownUptoCardSaid : Prop := Claim7.holds Tryz.pinned (.plain (OpenSpec.upto typesKnownSpec)) typesKnownUptoCard
end Rows
end Go.Proofs.YtcifacgjebbdbaaGreatDoor
