/-
  DERIVED. GIVEN WITH THE SEED: THE CARDS: each row of YtjpefeopfbgnhaaDoorRows.lean that lists a variable, with what it lists TIED to the program's text (the seventh form; the later family's looks); each row that meets fmt, with fmt's text TOLD by the authors' own Lean function (tested against real Go, not proved from fmt's source: count such statements apart). THE CARD IS WHAT COUNTS. Prove the row's statement (the work); the ties are given (YtjpefeopfbgnhaaDoorTie.lean); close each card by the builder's one call (the guide's Derived/Test/ToyasCard.lean, 'card_holds'). Laid BY PROGRAM, IN A SANDBOX (cutbox-door.mjs). By AI agents, Wed Nov 11 2026. No macro, syntax, notation, axiom, sorry.
-/
import Derived.Test.YtjpefeopfbgnhaaDoorRows
import GoSem.ClaimSeven
namespace Go.Proofs.YtjpefeopfbgnhaaDoor
namespace Rows

/-- THE TIED CARD OF 'relayhouselaw02.TextKnown'. -/
def textKnownCard : Claim7 := { stood := { row := textKnownRow, standIns := [], harness := (true, "fdedab2c81c69bd83d895388757c57a9a3ad95ffceded796b1d95e532e99af24"), looks := false }, kinds := [], alts := [], laidByText := true, laidKinds := [.data, .pinned], laidTests := true, laidLooks := .later }
def TextKnownCardSaid : Prop := Claim7.holds Tryd.pinned (.plain (OpenSpec.ofChange textKnownSpec)) textKnownCard

/-- THE TIED CARD OF 'relayhouselaw02.TextTells'. -/
def textTellsCard : Claim7 := { stood := { row := textTellsRow, standIns := [], harness := (true, "fdedab2c81c69bd83d895388757c57a9a3ad95ffceded796b1d95e532e99af24"), looks := false }, kinds := [], alts := [], laidByText := true, laidKinds := [.data, .pinned], laidTests := true, laidLooks := .later }
def TextTellsCardSaid : Prop := Claim7.holds Tryd.pinned (.plain (OpenSpec.ofChange textTellsSpec)) textTellsCard

/-- THE TIED CARD OF 'relayhouselaw02.TextFields'. -/
def textFieldsCard : Claim7 := { stood := { row := textFieldsRow, standIns := [], harness := (true, "fdedab2c81c69bd83d895388757c57a9a3ad95ffceded796b1d95e532e99af24"), looks := false }, kinds := [], alts := [], laidByText := true, laidKinds := [.data, .pinned], laidTests := true, laidLooks := .later }
def TextFieldsCardSaid : Prop := Claim7.holds Tryd.pinned (.plain (OpenSpec.ofChange textFieldsSpec)) textFieldsCard

/-- THE TIED CARD OF 'relayhouselaw02.TextBack'. -/
def textBackCard : Claim7 := { stood := { row := textBackRow, standIns := [], harness := (true, "fdedab2c81c69bd83d895388757c57a9a3ad95ffceded796b1d95e532e99af24"), looks := false }, kinds := [], alts := [], laidByText := true, laidKinds := [.data, .pinned], laidTests := true, laidLooks := .later }
def TextBackCardSaid : Prop := Claim7.holds Tryd.pinned (.plain (OpenSpec.ofChange textBackSpec)) textBackCard

/-- THE TIED CARD OF 'relayhouselaw02.TextPieces'. -/
def textPiecesCard : Claim7 := { stood := { row := textPiecesRow, standIns := [], harness := (true, "fdedab2c81c69bd83d895388757c57a9a3ad95ffceded796b1d95e532e99af24"), looks := false }, kinds := [], alts := [], laidByText := true, laidKinds := [.data, .pinned], laidTests := true, laidLooks := .later }
def TextPiecesCardSaid : Prop := Claim7.holds Tryd.pinned (.plain (OpenSpec.ofChange textPiecesSpec)) textPiecesCard

/-- THE TIED CARD OF 'relayhouselaw02.TextNever'. -/
def textNeverCard : Claim7 := { stood := { row := textNeverRow, standIns := [], harness := (true, "fdedab2c81c69bd83d895388757c57a9a3ad95ffceded796b1d95e532e99af24"), looks := false }, kinds := [], alts := [], laidByText := true, laidKinds := [.data, .pinned], laidTests := true, laidLooks := .later }
def TextNeverCardSaid : Prop := Claim7.holds Tryd.pinned (.plain (OpenSpec.ofChange textNeverSpec)) textNeverCard

/-- THE SECOND FORM's CARD OF 'relayhouselaw02.TextKnown'. -/
def textKnownUptoCard : Claim7 := { stood := { row := textKnownUptoRow, standIns := [], harness := (true, "fdedab2c81c69bd83d895388757c57a9a3ad95ffceded796b1d95e532e99af24"), looks := false }, kinds := [], alts := [], laidByText := true, laidKinds := [.data, .pinned], laidTests := true, laidLooks := .later }
def TextKnownUptoCardSaid : Prop := Claim7.holds Tryd.pinned (.plain (OpenSpec.upto textKnownSpec)) textKnownUptoCard

/-- THE SECOND FORM's CARD OF 'relayhouselaw02.TextTells'. -/
def textTellsUptoCard : Claim7 := { stood := { row := textTellsUptoRow, standIns := [], harness := (true, "fdedab2c81c69bd83d895388757c57a9a3ad95ffceded796b1d95e532e99af24"), looks := false }, kinds := [], alts := [], laidByText := true, laidKinds := [.data, .pinned], laidTests := true, laidLooks := .later }
def TextTellsUptoCardSaid : Prop := Claim7.holds Tryd.pinned (.plain (OpenSpec.upto textTellsSpec)) textTellsUptoCard

/-- THE SECOND FORM's CARD OF 'relayhouselaw02.TextFields'. -/
def textFieldsUptoCard : Claim7 := { stood := { row := textFieldsUptoRow, standIns := [], harness := (true, "fdedab2c81c69bd83d895388757c57a9a3ad95ffceded796b1d95e532e99af24"), looks := false }, kinds := [], alts := [], laidByText := true, laidKinds := [.data, .pinned], laidTests := true, laidLooks := .later }
def TextFieldsUptoCardSaid : Prop := Claim7.holds Tryd.pinned (.plain (OpenSpec.upto textFieldsSpec)) textFieldsUptoCard

/-- THE SECOND FORM's CARD OF 'relayhouselaw02.TextBack'. -/
def textBackUptoCard : Claim7 := { stood := { row := textBackUptoRow, standIns := [], harness := (true, "fdedab2c81c69bd83d895388757c57a9a3ad95ffceded796b1d95e532e99af24"), looks := false }, kinds := [], alts := [], laidByText := true, laidKinds := [.data, .pinned], laidTests := true, laidLooks := .later }
def TextBackUptoCardSaid : Prop := Claim7.holds Tryd.pinned (.plain (OpenSpec.upto textBackSpec)) textBackUptoCard

/-- THE SECOND FORM's CARD OF 'relayhouselaw02.TextPieces'. -/
def textPiecesUptoCard : Claim7 := { stood := { row := textPiecesUptoRow, standIns := [], harness := (true, "fdedab2c81c69bd83d895388757c57a9a3ad95ffceded796b1d95e532e99af24"), looks := false }, kinds := [], alts := [], laidByText := true, laidKinds := [.data, .pinned], laidTests := true, laidLooks := .later }
def TextPiecesUptoCardSaid : Prop := Claim7.holds Tryd.pinned (.plain (OpenSpec.upto textPiecesSpec)) textPiecesUptoCard

/-- THE SECOND FORM's CARD OF 'relayhouselaw02.TextNever'. -/
def textNeverUptoCard : Claim7 := { stood := { row := textNeverUptoRow, standIns := [], harness := (true, "fdedab2c81c69bd83d895388757c57a9a3ad95ffceded796b1d95e532e99af24"), looks := false }, kinds := [], alts := [], laidByText := true, laidKinds := [.data, .pinned], laidTests := true, laidLooks := .later }
def TextNeverUptoCardSaid : Prop := Claim7.holds Tryd.pinned (.plain (OpenSpec.upto textNeverSpec)) textNeverUptoCard
end Rows
end Go.Proofs.YtjpefeopfbgnhaaDoor
