/-
  DERIVED. GIVEN WITH THE SEED: THE CARDS: each row of YtcnjgenacpkdbaaGreatDoorRows.lean that lists a variable, with what it lists TIED to the program's text (the seventh form; the later family's looks); each row that meets fmt, with fmt's text TOLD by the authors' own Lean function (tested against real Go, not proved from fmt's source: count such statements apart). THE CARD IS WHAT COUNTS. Prove the row's statement (the work); the ties are given (YtcnjgenacpkdbaaGreatDoorTie.lean); close each card by the builder's one call (the guide's Derived/Test/ToyasCard.lean, 'card_holds'). Laid BY PROGRAM, IN A SANDBOX (cutbox-door.mjs). By AI agents, Wed Nov 11 2026. No macro, syntax, notation, axiom, sorry.
-/
import Derived.Test.YtcnjgenacpkdbaaGreatDoorRows
import GoSem.ClaimSeven
namespace Go.Proofs.YtcnjgenacpkdbaaGreatDoor
namespace Rows

/-- THE TIED CARD OF 'relayhouselaw09.TriePlays'. -/
def triePlaysCard : Claim7 := { stood := { row := triePlaysRow, standIns := [], harness := (true, "1d94f45ba8a20f1eeccb356895cb6b0ed8783f0c7e4e0a32b63d022692612341"), looks := false }, kinds := [], alts := [], laidByText := true, laidKinds := [.data, .pinned], laidTests := true, laidLooks := .later }
def TriePlaysCardSaid : Prop := Claim7.holds Tryz.pinned (.plain (OpenSpec.ofChange triePlaysSpec)) triePlaysCard

/-- THE TIED CARD OF 'relayhouselaw09.TrieOrder'. -/
def trieOrderCard : Claim7 := { stood := { row := trieOrderRow, standIns := [], harness := (true, "1d94f45ba8a20f1eeccb356895cb6b0ed8783f0c7e4e0a32b63d022692612341"), looks := false }, kinds := [], alts := [], laidByText := true, laidKinds := [.data, .pinned], laidTests := true, laidLooks := .later }
def TrieOrderCardSaid : Prop := Claim7.holds Tryz.pinned (.plain (OpenSpec.ofChange trieOrderSpec)) trieOrderCard

/-- THE TIED CARD OF 'relayhouselaw09.TrieTells'. -/
def trieTellsCard : Claim7 := { stood := { row := trieTellsRow, standIns := [], harness := (true, "1d94f45ba8a20f1eeccb356895cb6b0ed8783f0c7e4e0a32b63d022692612341"), looks := false }, kinds := [], alts := [], laidByText := true, laidKinds := [.data, .pinned], laidTests := true, laidLooks := .later }
def TrieTellsCardSaid : Prop := Claim7.holds Tryz.pinned (.plain (OpenSpec.ofChange trieTellsSpec)) trieTellsCard

/-- THE TIED CARD OF 'relayhouselaw09.TrieTurn'. -/
def trieTurnCard : Claim7 := { stood := { row := trieTurnRow, standIns := [], harness := (true, "1d94f45ba8a20f1eeccb356895cb6b0ed8783f0c7e4e0a32b63d022692612341"), looks := false }, kinds := [], alts := [], laidByText := true, laidKinds := [.data, .pinned], laidTests := true, laidLooks := .later }
def TrieTurnCardSaid : Prop := Claim7.holds Tryz.pinned (.plain (OpenSpec.ofChange trieTurnSpec)) trieTurnCard

/-- THE TIED CARD OF 'relayhouselaw09.TrieTakes'. -/
def trieTakesCard : Claim7 := { stood := { row := trieTakesRow, standIns := [], harness := (true, "1d94f45ba8a20f1eeccb356895cb6b0ed8783f0c7e4e0a32b63d022692612341"), looks := false }, kinds := [], alts := [], laidByText := true, laidKinds := [.data, .pinned], laidTests := true, laidLooks := .later }
def TrieTakesCardSaid : Prop := Claim7.holds Tryz.pinned (.plain (OpenSpec.ofChange trieTakesSpec)) trieTakesCard

/-- THE SECOND FORM's CARD OF 'relayhouselaw09.TriePlays'. -/
def triePlaysUptoCard : Claim7 := { stood := { row := triePlaysUptoRow, standIns := [], harness := (true, "1d94f45ba8a20f1eeccb356895cb6b0ed8783f0c7e4e0a32b63d022692612341"), looks := false }, kinds := [], alts := [], laidByText := true, laidKinds := [.data, .pinned], laidTests := true, laidLooks := .later }
def TriePlaysUptoCardSaid : Prop := Claim7.holds Tryz.pinned (.plain (OpenSpec.upto triePlaysSpec)) triePlaysUptoCard

/-- THE SECOND FORM's CARD OF 'relayhouselaw09.TrieOrder'. -/
def trieOrderUptoCard : Claim7 := { stood := { row := trieOrderUptoRow, standIns := [], harness := (true, "1d94f45ba8a20f1eeccb356895cb6b0ed8783f0c7e4e0a32b63d022692612341"), looks := false }, kinds := [], alts := [], laidByText := true, laidKinds := [.data, .pinned], laidTests := true, laidLooks := .later }
def TrieOrderUptoCardSaid : Prop := Claim7.holds Tryz.pinned (.plain (OpenSpec.upto trieOrderSpec)) trieOrderUptoCard

/-- THE SECOND FORM's CARD OF 'relayhouselaw09.TrieTells'. -/
def trieTellsUptoCard : Claim7 := { stood := { row := trieTellsUptoRow, standIns := [], harness := (true, "1d94f45ba8a20f1eeccb356895cb6b0ed8783f0c7e4e0a32b63d022692612341"), looks := false }, kinds := [], alts := [], laidByText := true, laidKinds := [.data, .pinned], laidTests := true, laidLooks := .later }
def TrieTellsUptoCardSaid : Prop := Claim7.holds Tryz.pinned (.plain (OpenSpec.upto trieTellsSpec)) trieTellsUptoCard

/-- THE SECOND FORM's CARD OF 'relayhouselaw09.TrieTurn'. -/
def trieTurnUptoCard : Claim7 := { stood := { row := trieTurnUptoRow, standIns := [], harness := (true, "1d94f45ba8a20f1eeccb356895cb6b0ed8783f0c7e4e0a32b63d022692612341"), looks := false }, kinds := [], alts := [], laidByText := true, laidKinds := [.data, .pinned], laidTests := true, laidLooks := .later }
def TrieTurnUptoCardSaid : Prop := Claim7.holds Tryz.pinned (.plain (OpenSpec.upto trieTurnSpec)) trieTurnUptoCard

/-- THE SECOND FORM's CARD OF 'relayhouselaw09.TrieTakes'. -/
def trieTakesUptoCard : Claim7 := { stood := { row := trieTakesUptoRow, standIns := [], harness := (true, "1d94f45ba8a20f1eeccb356895cb6b0ed8783f0c7e4e0a32b63d022692612341"), looks := false }, kinds := [], alts := [], laidByText := true, laidKinds := [.data, .pinned], laidTests := true, laidLooks := .later }
def TrieTakesUptoCardSaid : Prop := Claim7.holds Tryz.pinned (.plain (OpenSpec.upto trieTakesSpec)) trieTakesUptoCard
end Rows
end Go.Proofs.YtcnjgenacpkdbaaGreatDoor
