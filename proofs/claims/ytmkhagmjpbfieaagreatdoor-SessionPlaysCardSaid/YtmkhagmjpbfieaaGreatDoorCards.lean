/-
  DERIVED. GIVEN WITH THE SEED: THE CARDS: each row of YtmkhagmjpbfieaaGreatDoorRows.lean that lists a variable, with what it lists TIED to the program's text (the seventh form; the later family's looks); each row that meets fmt, with fmt's text TOLD by the authors' own Lean function (tested against real Go, not proved from fmt's source: count such statements apart). THE CARD IS WHAT COUNTS. Prove the row's statement (the work); the ties are given (YtmkhagmjpbfieaaGreatDoorTie.lean); close each card by the builder's one call (the guide's Derived/Test/ToyasCard.lean, 'card_holds'). Laid BY PROGRAM, IN A SANDBOX (cutbox-door.mjs). By AI agents, Wed Nov 11 2026. No macro, syntax, notation, axiom, sorry.
-/
import Derived.Test.YtmkhagmjpbfieaaGreatDoorRows
import GoSem.ClaimSeven
namespace Go.Proofs.YtmkhagmjpbfieaaGreatDoor
namespace Rows

/-- THE TIED CARD OF 'relayhouselaw18.SessionPlays'. -/
def sessionPlaysCard : Claim7 := { stood := { row := sessionPlaysRow, standIns := [], harness := (true, "f1c89f3b416e2a46b0fa4045cfe4f1ca62316c45b8b6741a5e22fdf79b8bc300"), looks := false }, kinds := [], alts := [], laidByText := true, laidKinds := [.data, .data, .pinned], laidTests := true, laidLooks := .later }
def SessionPlaysCardSaid : Prop := Claim7.holds Tryz.pinned (.plain (OpenSpec.ofChange sessionPlaysSpec)) sessionPlaysCard

/-- THE TIED CARD OF 'relayhouselaw18.SessionStays'. -/
def sessionStaysCard : Claim7 := { stood := { row := sessionStaysRow, standIns := [], harness := (true, "f1c89f3b416e2a46b0fa4045cfe4f1ca62316c45b8b6741a5e22fdf79b8bc300"), looks := false }, kinds := [], alts := [], laidByText := true, laidKinds := [.data, .data, .pinned], laidTests := true, laidLooks := .later }
def SessionStaysCardSaid : Prop := Claim7.holds Tryz.pinned (.plain (OpenSpec.ofChange sessionStaysSpec)) sessionStaysCard

/-- THE TIED CARD OF 'relayhouselaw18.SessionFresh'. -/
def sessionFreshCard : Claim7 := { stood := { row := sessionFreshRow, standIns := [], harness := (true, "f1c89f3b416e2a46b0fa4045cfe4f1ca62316c45b8b6741a5e22fdf79b8bc300"), looks := false }, kinds := [], alts := [], laidByText := true, laidKinds := [.data, .data, .pinned], laidTests := true, laidLooks := .later }
def SessionFreshCardSaid : Prop := Claim7.holds Tryz.pinned (.plain (OpenSpec.ofChange sessionFreshSpec)) sessionFreshCard

/-- THE SECOND FORM's CARD OF 'relayhouselaw18.SessionPlays'. -/
def sessionPlaysUptoCard : Claim7 := { stood := { row := sessionPlaysUptoRow, standIns := [], harness := (true, "f1c89f3b416e2a46b0fa4045cfe4f1ca62316c45b8b6741a5e22fdf79b8bc300"), looks := false }, kinds := [], alts := [], laidByText := true, laidKinds := [.data, .data, .pinned], laidTests := true, laidLooks := .later }
def SessionPlaysUptoCardSaid : Prop := Claim7.holds Tryz.pinned (.plain (OpenSpec.upto sessionPlaysSpec)) sessionPlaysUptoCard

/-- THE SECOND FORM's CARD OF 'relayhouselaw18.SessionStays'. -/
def sessionStaysUptoCard : Claim7 := { stood := { row := sessionStaysUptoRow, standIns := [], harness := (true, "f1c89f3b416e2a46b0fa4045cfe4f1ca62316c45b8b6741a5e22fdf79b8bc300"), looks := false }, kinds := [], alts := [], laidByText := true, laidKinds := [.data, .data, .pinned], laidTests := true, laidLooks := .later }
def SessionStaysUptoCardSaid : Prop := Claim7.holds Tryz.pinned (.plain (OpenSpec.upto sessionStaysSpec)) sessionStaysUptoCard

/-- THE SECOND FORM's CARD OF 'relayhouselaw18.SessionFresh'. -/
def sessionFreshUptoCard : Claim7 := { stood := { row := sessionFreshUptoRow, standIns := [], harness := (true, "f1c89f3b416e2a46b0fa4045cfe4f1ca62316c45b8b6741a5e22fdf79b8bc300"), looks := false }, kinds := [], alts := [], laidByText := true, laidKinds := [.data, .data, .pinned], laidTests := true, laidLooks := .later }
def SessionFreshUptoCardSaid : Prop := Claim7.holds Tryz.pinned (.plain (OpenSpec.upto sessionFreshSpec)) sessionFreshUptoCard
end Rows
end Go.Proofs.YtmkhagmjpbfieaaGreatDoor
