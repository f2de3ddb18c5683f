/-
  DERIVED. GIVEN WITH THE SEED: THE CARDS: each row of YtagjlmpmbflmhaaDoorRows.lean that lists a variable, with what it lists TIED to the program's text (the seventh form; the later family's looks); each row that meets fmt, with fmt's text TOLD by the authors' own Lean function (tested against real Go, not proved from fmt's source: count such statements apart). THE CARD IS WHAT COUNTS. Prove the row's statement (the work); the ties are given (YtagjlmpmbflmhaaDoorTie.lean); close each card by the builder's one call (the guide's Derived/Test/ToyasCard.lean, 'card_holds'). Laid BY PROGRAM, IN A SANDBOX (cutbox-door.mjs). By AI agents, Wed Nov 11 2026. No macro, syntax, notation, axiom, sorry.
-/
import Derived.Test.YtagjlmpmbflmhaaDoorRows
import GoSem.ClaimSeven
namespace Go.Proofs.YtagjlmpmbflmhaaDoor
namespace Rows

/-- THE TIED CARD OF 'relayhouselaw10.KeepFinds'. -/
def keepFindsCard : Claim7 := { stood := { row := keepFindsRow, standIns := [], harness := (true, "dc038996ee5d5b25cd92bb404007bf97f591960ca078ad87f9846cb3358f7802"), looks := false }, kinds := [], alts := [], laidByText := true, laidKinds := [.data, .pinned], laidTests := true, laidLooks := .later }
def KeepFindsCardSaid : Prop := Claim7.holds Tryd.pinned (.plain (OpenSpec.ofChange keepFindsSpec)) keepFindsCard

/-- THE TIED CARD OF 'relayhouselaw10.KeepCovers'. -/
def keepCoversCard : Claim7 := { stood := { row := keepCoversRow, standIns := [], harness := (true, "dc038996ee5d5b25cd92bb404007bf97f591960ca078ad87f9846cb3358f7802"), looks := false }, kinds := [], alts := [], laidByText := true, laidKinds := [.data, .pinned], laidTests := true, laidLooks := .later }
def KeepCoversCardSaid : Prop := Claim7.holds Tryd.pinned (.plain (OpenSpec.ofChange keepCoversSpec)) keepCoversCard

/-- THE TIED CARD OF 'relayhouselaw10.KeepOne'. -/
def keepOneCard : Claim7 := { stood := { row := keepOneRow, standIns := [], harness := (true, "dc038996ee5d5b25cd92bb404007bf97f591960ca078ad87f9846cb3358f7802"), looks := false }, kinds := [], alts := [], laidByText := true, laidKinds := [.data, .pinned], laidTests := true, laidLooks := .later }
def KeepOneCardSaid : Prop := Claim7.holds Tryd.pinned (.plain (OpenSpec.ofChange keepOneSpec)) keepOneCard

/-- THE TIED CARD OF 'relayhouselaw10.KeepPlays'. -/
def keepPlaysCard : Claim7 := { stood := { row := keepPlaysRow, standIns := [], harness := (true, "dc038996ee5d5b25cd92bb404007bf97f591960ca078ad87f9846cb3358f7802"), looks := false }, kinds := [], alts := [], laidByText := true, laidKinds := [.data, .pinned], laidTests := true, laidLooks := .later }
def KeepPlaysCardSaid : Prop := Claim7.holds Tryd.pinned (.plain (OpenSpec.ofChange keepPlaysSpec)) keepPlaysCard

/-- THE TIED CARD OF 'relayhouselaw10.KeepKnown'. -/
def keepKnownCard : Claim7 := { stood := { row := keepKnownRow, standIns := [], harness := (true, "dc038996ee5d5b25cd92bb404007bf97f591960ca078ad87f9846cb3358f7802"), looks := false }, kinds := [], alts := [], laidByText := true, laidKinds := [.data, .pinned], laidTests := true, laidLooks := .later }
def KeepKnownCardSaid : Prop := Claim7.holds Tryd.pinned (.plain (OpenSpec.ofChange keepKnownSpec)) keepKnownCard

/-- THE TIED CARD OF 'relayhouselaw10.KeepLast'. -/
def keepLastCard : Claim7 := { stood := { row := keepLastRow, standIns := [], harness := (true, "dc038996ee5d5b25cd92bb404007bf97f591960ca078ad87f9846cb3358f7802"), looks := false }, kinds := [], alts := [], laidByText := true, laidKinds := [.data, .pinned], laidTests := true, laidLooks := .later }
def KeepLastCardSaid : Prop := Claim7.holds Tryd.pinned (.plain (OpenSpec.ofChange keepLastSpec)) keepLastCard

/-- THE SECOND FORM's CARD OF 'relayhouselaw10.KeepFinds'. -/
def keepFindsUptoCard : Claim7 := { stood := { row := keepFindsUptoRow, standIns := [], harness := (true, "dc038996ee5d5b25cd92bb404007bf97f591960ca078ad87f9846cb3358f7802"), looks := false }, kinds := [], alts := [], laidByText := true, laidKinds := [.data, .pinned], laidTests := true, laidLooks := .later }
def KeepFindsUptoCardSaid : Prop := Claim7.holds Tryd.pinned (.plain (OpenSpec.upto keepFindsSpec)) keepFindsUptoCard

/-- THE SECOND FORM's CARD OF 'relayhouselaw10.KeepCovers'. -/
def keepCoversUptoCard : Claim7 := { stood := { row := keepCoversUptoRow, standIns := [], harness := (true, "dc038996ee5d5b25cd92bb404007bf97f591960ca078ad87f9846cb3358f7802"), looks := false }, kinds := [], alts := [], laidByText := true, laidKinds := [.data, .pinned], laidTests := true, laidLooks := .later }
def KeepCoversUptoCardSaid : Prop := Claim7.holds Tryd.pinned (.plain (OpenSpec.upto keepCoversSpec)) keepCoversUptoCard

/-- THE SECOND FORM's CARD OF 'relayhouselaw10.KeepOne'. -/
def keepOneUptoCard : Claim7 := { stood := { row := keepOneUptoRow, standIns := [], harness := (true, "dc038996ee5d5b25cd92bb404007bf97f591960ca078ad87f9846cb3358f7802"), looks := false }, kinds := [], alts := [], laidByText := true, laidKinds := [.data, .pinned], laidTests := true, laidLooks := .later }
def KeepOneUptoCardSaid : Prop := Claim7.holds Tryd.pinned (.plain (OpenSpec.upto keepOneSpec)) keepOneUptoCard

/-- THE SECOND FORM's CARD OF 'relayhouselaw10.KeepPlays'. -/
def keepPlaysUptoCard : Claim7 := { stood := { row := keepPlaysUptoRow, standIns := [], harness := (true, "dc038996ee5d5b25cd92bb404007bf97f591960ca078ad87f9846cb3358f7802"), looks := false }, kinds := [], alts := [], laidByText := true, laidKinds := [.data, .pinned], laidTests := true, laidLooks := .later }
def KeepPlaysUptoCardSaid : Prop := Claim7.holds Tryd.pinned (.plain (OpenSpec.upto keepPlaysSpec)) keepPlaysUptoCard

/-- THE SECOND FORM's CARD OF 'relayhouselaw10.KeepKnown'. -/
def keepKnownUptoCard : Claim7 := { stood := { row := keepKnownUptoRow, standIns := [], harness := (true, "dc038996ee5d5b25cd92bb404007bf97f591960ca078ad87f9846cb3358f7802"), looks := false }, kinds := [], alts := [], laidByText := true, laidKinds := [.data, .pinned], laidTests := true, laidLooks := .later }
def KeepKnownUptoCardSaid : Prop := Claim7.holds Tryd.pinned (.plain (OpenSpec.upto keepKnownSpec)) keepKnownUptoCard

/-- THE SECOND FORM's CARD OF 'relayhouselaw10.KeepLast'. -/
def keepLastUptoCard : Claim7 := { stood := { row := keepLastUptoRow, standIns := [], harness := (true, "dc038996ee5d5b25cd92bb404007bf97f591960ca078ad87f9846cb3358f7802"), looks := false }, kinds := [], alts := [], laidByText := true, laidKinds := [.data, .pinned], laidTests := true, laidLooks := .later }
def KeepLastUptoCardSaid : Prop := Claim7.holds Tryd.pinned (.plain (OpenSpec.upto keepLastSpec)) keepLastUptoCard
end Rows
end Go.Proofs.YtagjlmpmbflmhaaDoor
