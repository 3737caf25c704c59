/-
  DERIVED. GIVEN WITH THE SEED: THE CARDS: each row of YtcgedoibicfihaaDoorRows.lean that lists a variable, with what it lists TIED to the program's text (the seventh form; the later family's looks); each row that meets fmt, with fmt's text TOLD by the authors' own Lean function (tested against real Go, not proved from fmt's source: count such statements apart). THE CARD IS WHAT COUNTS. Prove the row's statement (the work); the ties are given (YtcgedoibicfihaaDoorTie.lean); close each card by the builder's one call (the guide's Derived/Test/ToyasCard.lean, 'card_holds'). Laid BY PROGRAM, IN A SANDBOX (cutbox-door.mjs). By AI agents, Wed Nov 11 2026. No macro, syntax, notation, axiom, sorry.
-/
import Derived.Test.YtcgedoibicfihaaDoorRows
import GoSem.ClaimSeven
namespace Go.Proofs.YtcgedoibicfihaaDoor
namespace Rows

/-- THE TIED CARD OF 'fathomlaw14.LexTile'. -/
def lexTileCard : Claim7 := { stood := { row := lexTileRow, standIns := [], harness := (true, "5569bd3567a9e2abea7505c6ca231c3cbdf6c6a4ce64a3266d38e8ecaf9f0ebb"), looks := true }, kinds := [], alts := [], laidByText := true, laidKinds := [.data, .data, .data, .data, .sentinel, .sentinel, .pinned], laidTests := true, laidLooks := .later }
def LexTileCardSaid : Prop := Claim7.holds Tryd.pinned (.plain (OpenSpec.ofChange lexTileSpec)) lexTileCard

/-- THE TIED CARD OF 'fathomlaw14.LexBlank'. -/
def lexBlankCard : Claim7 := { stood := { row := lexBlankRow, standIns := [], harness := (true, "5569bd3567a9e2abea7505c6ca231c3cbdf6c6a4ce64a3266d38e8ecaf9f0ebb"), looks := true }, kinds := [], alts := [], laidByText := true, laidKinds := [.data, .data, .data, .data, .sentinel, .sentinel, .pinned], laidTests := true, laidLooks := .later }
def LexBlankCardSaid : Prop := Claim7.holds Tryd.pinned (.plain (OpenSpec.ofChange lexBlankSpec)) lexBlankCard

/-- THE TIED CARD OF 'fathomlaw14.LexEach'. -/
def lexEachCard : Claim7 := { stood := { row := lexEachRow, standIns := [], harness := (true, "5569bd3567a9e2abea7505c6ca231c3cbdf6c6a4ce64a3266d38e8ecaf9f0ebb"), looks := true }, kinds := [], alts := [], laidByText := true, laidKinds := [.data, .data, .data, .data, .sentinel, .sentinel, .pinned], laidTests := true, laidLooks := .later }
def LexEachCardSaid : Prop := Claim7.holds Tryd.pinned (.plain (OpenSpec.ofChange lexEachSpec)) lexEachCard

/-- THE TIED CARD OF 'fathomlaw14.LexQuote'. -/
def lexQuoteCard : Claim7 := { stood := { row := lexQuoteRow, standIns := [], harness := (true, "5569bd3567a9e2abea7505c6ca231c3cbdf6c6a4ce64a3266d38e8ecaf9f0ebb"), looks := true }, kinds := [], alts := [], laidByText := true, laidKinds := [.data, .data, .data, .data, .sentinel, .sentinel, .pinned], laidTests := true, laidLooks := .later }
def LexQuoteCardSaid : Prop := Claim7.holds Tryd.pinned (.plain (OpenSpec.ofChange lexQuoteSpec)) lexQuoteCard

/-- THE TIED CARD OF 'fathomlaw14.LexTexts'. -/
def lexTextsCard : Claim7 := { stood := { row := lexTextsRow, standIns := [], harness := (true, "5569bd3567a9e2abea7505c6ca231c3cbdf6c6a4ce64a3266d38e8ecaf9f0ebb"), looks := true }, kinds := [], alts := [], laidByText := true, laidKinds := [.data, .data, .data, .data, .sentinel, .sentinel, .pinned], laidTests := true, laidLooks := .later }
def LexTextsCardSaid : Prop := Claim7.holds Tryd.pinned (.plain (OpenSpec.ofChange lexTextsSpec)) lexTextsCard

/-- THE SECOND FORM's CARD OF 'fathomlaw14.LexTile'. -/
def lexTileUptoCard : Claim7 := { stood := { row := lexTileUptoRow, standIns := [], harness := (true, "5569bd3567a9e2abea7505c6ca231c3cbdf6c6a4ce64a3266d38e8ecaf9f0ebb"), looks := true }, kinds := [], alts := [], laidByText := true, laidKinds := [.data, .data, .data, .data, .sentinel, .sentinel, .pinned], laidTests := true, laidLooks := .later }
def LexTileUptoCardSaid : Prop := Claim7.holds Tryd.pinned (.plain (OpenSpec.upto lexTileSpec)) lexTileUptoCard

/-- THE SECOND FORM's CARD OF 'fathomlaw14.LexBlank'. -/
def lexBlankUptoCard : Claim7 := { stood := { row := lexBlankUptoRow, standIns := [], harness := (true, "5569bd3567a9e2abea7505c6ca231c3cbdf6c6a4ce64a3266d38e8ecaf9f0ebb"), looks := true }, kinds := [], alts := [], laidByText := true, laidKinds := [.data, .data, .data, .data, .sentinel, .sentinel, .pinned], laidTests := true, laidLooks := .later }
def LexBlankUptoCardSaid : Prop := Claim7.holds Tryd.pinned (.plain (OpenSpec.upto lexBlankSpec)) lexBlankUptoCard

/-- THE SECOND FORM's CARD OF 'fathomlaw14.LexEach'. -/
def lexEachUptoCard : Claim7 := { stood := { row := lexEachUptoRow, standIns := [], harness := (true, "5569bd3567a9e2abea7505c6ca231c3cbdf6c6a4ce64a3266d38e8ecaf9f0ebb"), looks := true }, kinds := [], alts := [], laidByText := true, laidKinds := [.data, .data, .data, .data, .sentinel, .sentinel, .pinned], laidTests := true, laidLooks := .later }
def LexEachUptoCardSaid : Prop := Claim7.holds Tryd.pinned (.plain (OpenSpec.upto lexEachSpec)) lexEachUptoCard

/-- THE SECOND FORM's CARD OF 'fathomlaw14.LexQuote'. -/
def lexQuoteUptoCard : Claim7 := { stood := { row := lexQuoteUptoRow, standIns := [], harness := (true, "5569bd3567a9e2abea7505c6ca231c3cbdf6c6a4ce64a3266d38e8ecaf9f0ebb"), looks := true }, kinds := [], alts := [], laidByText := true, laidKinds := [.data, .data, .data, .data, .sentinel, .sentinel, .pinned], laidTests := true, laidLooks := .later }
def LexQuoteUptoCardSaid : Prop := Claim7.holds Tryd.pinned (.plain (OpenSpec.upto lexQuoteSpec)) lexQuoteUptoCard

/-- THE SECOND FORM's CARD OF 'fathomlaw14.LexTexts'. -/
def lexTextsUptoCard : Claim7 := { stood := { row := lexTextsUptoRow, standIns := [], harness := (true, "5569bd3567a9e2abea7505c6ca231c3cbdf6c6a4ce64a3266d38e8ecaf9f0ebb"), looks := true }, kinds := [], alts := [], laidByText := true, laidKinds := [.data, .data, .data, .data, .sentinel, .sentinel, .pinned], laidTests := true, laidLooks := .later }
def LexTextsUptoCardSaid : Prop := Claim7.holds Tryd.pinned (.plain (OpenSpec.upto lexTextsSpec)) lexTextsUptoCard
end Rows
end Go.Proofs.YtcgedoibicfihaaDoor
