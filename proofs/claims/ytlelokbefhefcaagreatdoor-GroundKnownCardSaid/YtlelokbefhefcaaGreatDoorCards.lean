/-
  DERIVED. GIVEN WITH THE SEED: THE CARDS: each row of YtlelokbefhefcaaGreatDoorRows.lean that lists a variable, with what it lists TIED to the program's text (the seventh form; the later family's looks); each row that meets fmt, with fmt's text TOLD by the authors' own Lean function (tested against real Go, not proved from fmt's source: count such statements apart). THE CARD IS WHAT COUNTS. Prove the row's statement (the work); the ties are given (YtlelokbefhefcaaGreatDoorTie.lean); close each card by the builder's one call (the guide's Derived/Test/ToyasCard.lean, 'card_holds'). Laid BY PROGRAM, IN A SANDBOX (cutbox-door.mjs). By AI agents, Wed Nov 11 2026. No macro, syntax, notation, axiom, sorry.
-/
import Derived.Test.YtlelokbefhefcaaGreatDoorRows
import GoSem.ClaimSeven
namespace Go.Proofs.YtlelokbefhefcaaGreatDoor
namespace Rows

/-- THE TIED CARD OF 'fathomlaw19.GroundKnown'. -/
def groundKnownCard : Claim7 := { stood := { row := groundKnownRow, standIns := [], harness := (true, "bb443fb8d539f759052ebc25d93541c25a6d5193ebde3c09be7f8f68649a08a3"), looks := true }, kinds := [], alts := [], laidByText := true, laidKinds := [.data, .data, .data, .data, .sentinel, .sentinel, .pinned], laidTests := true, laidLooks := .later }
def GroundKnownCardSaid : Prop := Claim7.holds Tryz.pinned (.plain (OpenSpec.ofChange groundKnownSpec)) groundKnownCard

/-- THE SECOND FORM's CARD OF 'fathomlaw19.GroundKnown'. -/
def groundKnownUptoCard : Claim7 := { stood := { row := groundKnownUptoRow, standIns := [], harness := (true, "bb443fb8d539f759052ebc25d93541c25a6d5193ebde3c09be7f8f68649a08a3"), looks := true }, kinds := [], alts := [], laidByText := true, laidKinds := [.data, .data, .data, .data, .sentinel, .sentinel, .pinned], laidTests := true, laidLooks := .later }
def GroundKnownUptoCardSaid : Prop := Claim7.holds Tryz.pinned (.plain (OpenSpec.upto groundKnownSpec)) groundKnownUptoCard
end Rows
end Go.Proofs.YtlelokbefhefcaaGreatDoor
