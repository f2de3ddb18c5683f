/-
  DERIVED. GIVEN WITH THE SEED: THE CARDS: each row of YthfeckndkmhieaaGreatDoorRows.lean that lists a variable, with what it lists TIED to the program's text (the seventh form; the later family's looks); each row that meets fmt, with fmt's text TOLD by the authors' own Lean function (tested against real Go, not proved from fmt's source: count such statements apart). THE CARD IS WHAT COUNTS. Prove the row's statement (the work); the ties are given (YthfeckndkmhieaaGreatDoorTie.lean); close each card by the builder's one call (the guide's Derived/Test/ToyasCard.lean, 'card_holds'). Laid BY PROGRAM, IN A SANDBOX (cutbox-door.mjs). By AI agents, Wed Nov 11 2026. No macro, syntax, notation, axiom, sorry.
-/
import Derived.Test.YthfeckndkmhieaaGreatDoorRows
import GoSem.ClaimSeven
namespace Go.Proofs.YthfeckndkmhieaaGreatDoor
namespace Rows

/-- THE TIED CARD OF 'relayhouselaw25.ModelKnown'. -/
def modelKnownCard : Claim7 := { stood := { row := modelKnownRow, standIns := [], harness := (true, "41e771342440acec7aeb05c2684fa913b39bb5aa6663f42d743a77be001eaae2"), looks := false }, kinds := [], alts := [], laidByText := true, laidKinds := [.data, .pinned], laidTests := true, laidLooks := .later }
def ModelKnownCardSaid : Prop := Claim7.holds Tryz.pinned (.plain (OpenSpec.ofChange modelKnownSpec)) modelKnownCard

/-- THE TIED CARD OF 'relayhouselaw25.ModelPlays'. -/
def modelPlaysCard : Claim7 := { stood := { row := modelPlaysRow, standIns := [], harness := (true, "41e771342440acec7aeb05c2684fa913b39bb5aa6663f42d743a77be001eaae2"), looks := false }, kinds := [], alts := [], laidByText := true, laidKinds := [.data, .pinned], laidTests := true, laidLooks := .later }
def ModelPlaysCardSaid : Prop := Claim7.holds Tryz.pinned (.plain (OpenSpec.ofChange modelPlaysSpec)) modelPlaysCard

/-- THE TIED CARD OF 'relayhouselaw25.ModelAlone'. -/
def modelAloneCard : Claim7 := { stood := { row := modelAloneRow, standIns := [], harness := (true, "41e771342440acec7aeb05c2684fa913b39bb5aa6663f42d743a77be001eaae2"), looks := false }, kinds := [], alts := [], laidByText := true, laidKinds := [.data, .pinned], laidTests := true, laidLooks := .later }
def ModelAloneCardSaid : Prop := Claim7.holds Tryz.pinned (.plain (OpenSpec.ofChange modelAloneSpec)) modelAloneCard

/-- THE TIED CARD OF 'relayhouselaw25.ModelOne'. -/
def modelOneCard : Claim7 := { stood := { row := modelOneRow, standIns := [], harness := (true, "41e771342440acec7aeb05c2684fa913b39bb5aa6663f42d743a77be001eaae2"), looks := false }, kinds := [], alts := [], laidByText := true, laidKinds := [.data, .pinned], laidTests := true, laidLooks := .later }
def ModelOneCardSaid : Prop := Claim7.holds Tryz.pinned (.plain (OpenSpec.ofChange modelOneSpec)) modelOneCard

/-- THE TIED CARD OF 'relayhouselaw25.ModelBest'. -/
def modelBestCard : Claim7 := { stood := { row := modelBestRow, standIns := [], harness := (true, "41e771342440acec7aeb05c2684fa913b39bb5aa6663f42d743a77be001eaae2"), looks := false }, kinds := [], alts := [], laidByText := true, laidKinds := [.data, .pinned], laidTests := true, laidLooks := .later }
def ModelBestCardSaid : Prop := Claim7.holds Tryz.pinned (.plain (OpenSpec.ofChange modelBestSpec)) modelBestCard

/-- THE SECOND FORM's CARD OF 'relayhouselaw25.ModelKnown'. -/
def modelKnownUptoCard : Claim7 := { stood := { row := modelKnownUptoRow, standIns := [], harness := (true, "41e771342440acec7aeb05c2684fa913b39bb5aa6663f42d743a77be001eaae2"), looks := false }, kinds := [], alts := [], laidByText := true, laidKinds := [.data, .pinned], laidTests := true, laidLooks := .later }
def ModelKnownUptoCardSaid : Prop := Claim7.holds Tryz.pinned (.plain (OpenSpec.upto modelKnownSpec)) modelKnownUptoCard

/-- THE SECOND FORM's CARD OF 'relayhouselaw25.ModelPlays'. -/
def modelPlaysUptoCard : Claim7 := { stood := { row := modelPlaysUptoRow, standIns := [], harness := (true, "41e771342440acec7aeb05c2684fa913b39bb5aa6663f42d743a77be001eaae2"), looks := false }, kinds := [], alts := [], laidByText := true, laidKinds := [.data, .pinned], laidTests := true, laidLooks := .later }
def ModelPlaysUptoCardSaid : Prop := Claim7.holds Tryz.pinned (.plain (OpenSpec.upto modelPlaysSpec)) modelPlaysUptoCard

/-- THE SECOND FORM's CARD OF 'relayhouselaw25.ModelAlone'. -/
def modelAloneUptoCard : Claim7 := { stood := { row := modelAloneUptoRow, standIns := [], harness := (true, "41e771342440acec7aeb05c2684fa913b39bb5aa6663f42d743a77be001eaae2"), looks := false }, kinds := [], alts := [], laidByText := true, laidKinds := [.data, .pinned], laidTests := true, laidLooks := .later }
def ModelAloneUptoCardSaid : Prop := Claim7.holds Tryz.pinned (.plain (OpenSpec.upto modelAloneSpec)) modelAloneUptoCard

/-- THE SECOND FORM's CARD OF 'relayhouselaw25.ModelOne'. -/
def modelOneUptoCard : Claim7 := { stood := { row := modelOneUptoRow, standIns := [], harness := (true, "41e771342440acec7aeb05c2684fa913b39bb5aa6663f42d743a77be001eaae2"), looks := false }, kinds := [], alts := [], laidByText := true, laidKinds := [.data, .pinned], laidTests := true, laidLooks := .later }
def ModelOneUptoCardSaid : Prop := Claim7.holds Tryz.pinned (.plain (OpenSpec.upto modelOneSpec)) modelOneUptoCard

/-- THE SECOND FORM's CARD OF 'relayhouselaw25.ModelBest'. -/
def modelBestUptoCard : Claim7 := { stood := { row := modelBestUptoRow, standIns := [], harness := (true, "41e771342440acec7aeb05c2684fa913b39bb5aa6663f42d743a77be001eaae2"), looks := false }, kinds := [], alts := [], laidByText := true, laidKinds := [.data, .pinned], laidTests := true, laidLooks := .later }
def ModelBestUptoCardSaid : Prop := Claim7.holds Tryz.pinned (.plain (OpenSpec.upto modelBestSpec)) modelBestUptoCard
end Rows
end Go.Proofs.YthfeckndkmhieaaGreatDoor
