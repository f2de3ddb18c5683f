/-
  DERIVED. GIVEN WITH THE SEED: THE CARDS: each row of YtmkhagmjpbfieaaDoorRows.lean that lists a variable, with what it lists TIED to the program's text (the seventh form; the later family's looks); each row that meets fmt, with fmt's text TOLD by the authors' own Lean function (tested against real Go, not proved from fmt's source: count such statements apart). THE CARD IS WHAT COUNTS. Prove the row's statement (the work); the ties are given (YtmkhagmjpbfieaaDoorTie.lean); close each card by the builder's one call (the guide's Derived/Test/ToyasCard.lean, 'card_holds'). Laid BY PROGRAM, IN A SANDBOX (cutbox-door.mjs). By AI agents, Wed Nov 11 2026. No macro, syntax, notation, axiom, sorry.
-/
import Derived.Test.YtmkhagmjpbfieaaDoorRows
import GoSem.ClaimSeven
namespace Go.Proofs.YtmkhagmjpbfieaaDoor
namespace Rows

/-- THE TIED CARD OF 'relayhouselaw18.SessionKnown'. -/
def sessionKnownCard : Claim7 := { stood := { row := sessionKnownRow, standIns := [], harness := (true, "3a98748e299e53d2ebbafdbfd9d0fd62470f249fa9b4eaa06fed3ffce9a7cb5e"), looks := false }, kinds := [], alts := [], laidByText := true, laidKinds := [.data, .data, .pinned], laidTests := true, laidLooks := .later }
def SessionKnownCardSaid : Prop := Claim7.holds Tryd.pinned (.plain (OpenSpec.ofChange sessionKnownSpec)) sessionKnownCard

/-- THE TIED CARD OF 'relayhouselaw18.SessionWill'. -/
def sessionWillCard : Claim7 := { stood := { row := sessionWillRow, standIns := [], harness := (true, "3a98748e299e53d2ebbafdbfd9d0fd62470f249fa9b4eaa06fed3ffce9a7cb5e"), looks := false }, kinds := [], alts := [], laidByText := true, laidKinds := [.data, .data, .pinned], laidTests := true, laidLooks := .later }
def SessionWillCardSaid : Prop := Claim7.holds Tryd.pinned (.plain (OpenSpec.ofChange sessionWillSpec)) sessionWillCard

/-- THE SECOND FORM's CARD OF 'relayhouselaw18.SessionKnown'. -/
def sessionKnownUptoCard : Claim7 := { stood := { row := sessionKnownUptoRow, standIns := [], harness := (true, "3a98748e299e53d2ebbafdbfd9d0fd62470f249fa9b4eaa06fed3ffce9a7cb5e"), looks := false }, kinds := [], alts := [], laidByText := true, laidKinds := [.data, .data, .pinned], laidTests := true, laidLooks := .later }
def SessionKnownUptoCardSaid : Prop := Claim7.holds Tryd.pinned (.plain (OpenSpec.upto sessionKnownSpec)) sessionKnownUptoCard

/-- THE SECOND FORM's CARD OF 'relayhouselaw18.SessionWill'. -/
def sessionWillUptoCard : Claim7 := { stood := { row := sessionWillUptoRow, standIns := [], harness := (true, "3a98748e299e53d2ebbafdbfd9d0fd62470f249fa9b4eaa06fed3ffce9a7cb5e"), looks := false }, kinds := [], alts := [], laidByText := true, laidKinds := [.data, .data, .pinned], laidTests := true, laidLooks := .later }
def SessionWillUptoCardSaid : Prop := Claim7.holds Tryd.pinned (.plain (OpenSpec.upto sessionWillSpec)) sessionWillUptoCard
end Rows
end Go.Proofs.YtmkhagmjpbfieaaDoor
