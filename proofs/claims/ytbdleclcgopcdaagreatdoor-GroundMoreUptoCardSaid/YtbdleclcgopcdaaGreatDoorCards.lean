/-
  DERIVED. GIVEN WITH THE SEED: THE CARDS: each row of YtbdleclcgopcdaaGreatDoorRows.lean that lists a variable, with what it lists TIED to the program's text (the seventh form; the later family's looks); each row that meets fmt, with fmt's text TOLD by the authors' own Lean function (tested against real Go, not proved from fmt's source: count such statements apart). THE CARD IS WHAT COUNTS. Prove the row's statement (the work); the ties are given (YtbdleclcgopcdaaGreatDoorTie.lean); close each card by the builder's one call (the guide's Derived/Test/ToyasCard.lean, 'card_holds'). Laid BY PROGRAM, IN A SANDBOX (cutbox-door.mjs). By AI agents, Wed Nov 11 2026. No macro, syntax, notation, axiom, sorry.
-/
import Derived.Test.YtbdleclcgopcdaaGreatDoorRows
import GoSem.ClaimSeven
namespace Go.Proofs.YtbdleclcgopcdaaGreatDoor
namespace Rows

/-- THE TIED CARD OF 'fathomlaw19.GroundMore'. -/
def groundMoreCard : Claim7 := { stood := { row := groundMoreRow, standIns := [], harness := (true, "46c5ff4e332ed6445a95214c4d51063f4de780b70fcb1863e0922ca6af774dba"), looks := true }, kinds := [], alts := [], laidByText := true, laidKinds := [.data, .data, .data, .data, .sentinel, .sentinel, .pinned], laidTests := true, laidLooks := .later }
def GroundMoreCardSaid : Prop := Claim7.holds Tryz.pinned (.plain (OpenSpec.ofChange groundMoreSpec)) groundMoreCard

/-- THE SECOND FORM's CARD OF 'fathomlaw19.GroundMore'. -/
def groundMoreUptoCard : Claim7 := { stood := { row := groundMoreUptoRow, standIns := [], harness := (true, "46c5ff4e332ed6445a95214c4d51063f4de780b70fcb1863e0922ca6af774dba"), looks := true }, kinds := [], alts := [], laidByText := true, laidKinds := [.data, .data, .data, .data, .sentinel, .sentinel, .pinned], laidTests := true, laidLooks := .later }
def GroundMoreUptoCardSaid : Prop := Claim7.holds Tryz.pinned (.plain (OpenSpec.upto groundMoreSpec)) groundMoreUptoCard
end Rows
end Go.Proofs.YtbdleclcgopcdaaGreatDoor
