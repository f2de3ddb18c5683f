/-
  DERIVED. GIVEN WITH THE SEED: THE CARDS: each row of YthfdcphecggjeaaGreatDoorRows.lean that lists a variable, with what it lists TIED to the program's text (the seventh form; the later family's looks); each row that meets fmt, with fmt's text TOLD by the authors' own Lean function (tested against real Go, not proved from fmt's source: count such statements apart). THE CARD IS WHAT COUNTS. Prove the row's statement (the work); the ties are given (YthfdcphecggjeaaGreatDoorTie.lean); close each card by the builder's one call (the guide's Derived/Test/ToyasCard.lean, 'card_holds'). Laid BY PROGRAM, IN A SANDBOX (cutbox-door.mjs). By AI agents, Wed Nov 11 2026. No macro, syntax, notation, axiom, sorry.
-/
import Derived.Test.YthfdcphecggjeaaGreatDoorRows
import GoSem.ClaimSeven
namespace Go.Proofs.YthfdcphecggjeaaGreatDoor
namespace Rows

/-- THE TIED CARD OF 'relayhouselaw19.HubRoutes'. -/
def hubRoutesCard : Claim7 := { stood := { row := hubRoutesRow, standIns := [], harness := (true, "0ad76a2f290f9b6ed56de4506c15dd2e1a7c7e376b6c6751b5a1180aaf9113f1"), looks := false }, kinds := [], alts := [], laidByText := true, laidKinds := [.data, .pinned], laidTests := true, laidLooks := .later }
def HubRoutesCardSaid : Prop := Claim7.holds Tryz.pinned (.plain (OpenSpec.ofChange hubRoutesSpec)) hubRoutesCard

/-- THE TIED CARD OF 'relayhouselaw19.HubKnown'. -/
def hubKnownCard : Claim7 := { stood := { row := hubKnownRow, standIns := [], harness := (true, "0ad76a2f290f9b6ed56de4506c15dd2e1a7c7e376b6c6751b5a1180aaf9113f1"), looks := false }, kinds := [], alts := [], laidByText := true, laidKinds := [.data, .pinned], laidTests := true, laidLooks := .later }
def HubKnownCardSaid : Prop := Claim7.holds Tryz.pinned (.plain (OpenSpec.ofChange hubKnownSpec)) hubKnownCard

/-- THE TIED CARD OF 'relayhouselaw19.HubHas'. -/
def hubHasCard : Claim7 := { stood := { row := hubHasRow, standIns := [], harness := (true, "0ad76a2f290f9b6ed56de4506c15dd2e1a7c7e376b6c6751b5a1180aaf9113f1"), looks := false }, kinds := [], alts := [], laidByText := true, laidKinds := [.data, .pinned], laidTests := true, laidLooks := .later }
def HubHasCardSaid : Prop := Claim7.holds Tryz.pinned (.plain (OpenSpec.ofChange hubHasSpec)) hubHasCard

/-- THE TIED CARD OF 'relayhouselaw19.HubDoes'. -/
def hubDoesCard : Claim7 := { stood := { row := hubDoesRow, standIns := [], harness := (true, "0ad76a2f290f9b6ed56de4506c15dd2e1a7c7e376b6c6751b5a1180aaf9113f1"), looks := false }, kinds := [], alts := [], laidByText := true, laidKinds := [.data, .pinned], laidTests := true, laidLooks := .later }
def HubDoesCardSaid : Prop := Claim7.holds Tryz.pinned (.plain (OpenSpec.ofChange hubDoesSpec)) hubDoesCard

/-- THE TIED CARD OF 'relayhouselaw19.HubAtOnce'. -/
def hubAtOnceCard : Claim7 := { stood := { row := hubAtOnceRow, standIns := [], harness := (true, "0ad76a2f290f9b6ed56de4506c15dd2e1a7c7e376b6c6751b5a1180aaf9113f1"), looks := false }, kinds := [], alts := [], laidByText := true, laidKinds := [.data, .pinned], laidTests := true, laidLooks := .later }
def HubAtOnceCardSaid : Prop := Claim7.holds Tryz.pinned (.plain (OpenSpec.ofChange hubAtOnceSpec)) hubAtOnceCard

/-- THE TIED CARD OF 'relayhouselaw19.HubKeeps'. -/
def hubKeepsCard : Claim7 := { stood := { row := hubKeepsRow, standIns := [], harness := (true, "0ad76a2f290f9b6ed56de4506c15dd2e1a7c7e376b6c6751b5a1180aaf9113f1"), looks := false }, kinds := [], alts := [], laidByText := true, laidKinds := [.data, .pinned], laidTests := true, laidLooks := .later }
def HubKeepsCardSaid : Prop := Claim7.holds Tryz.pinned (.plain (OpenSpec.ofChange hubKeepsSpec)) hubKeepsCard

/-- THE SECOND FORM's CARD OF 'relayhouselaw19.HubRoutes'. -/
def hubRoutesUptoCard : Claim7 := { stood := { row := hubRoutesUptoRow, standIns := [], harness := (true, "0ad76a2f290f9b6ed56de4506c15dd2e1a7c7e376b6c6751b5a1180aaf9113f1"), looks := false }, kinds := [], alts := [], laidByText := true, laidKinds := [.data, .pinned], laidTests := true, laidLooks := .later }
def HubRoutesUptoCardSaid : Prop := Claim7.holds Tryz.pinned (.plain (OpenSpec.upto hubRoutesSpec)) hubRoutesUptoCard

/-- THE SECOND FORM's CARD OF 'relayhouselaw19.HubKnown'. -/
def hubKnownUptoCard : Claim7 := { stood := { row := hubKnownUptoRow, standIns := [], harness := (true, "0ad76a2f290f9b6ed56de4506c15dd2e1a7c7e376b6c6751b5a1180aaf9113f1"), looks := false }, kinds := [], alts := [], laidByText := true, laidKinds := [.data, .pinned], laidTests := true, laidLooks := .later }
def HubKnownUptoCardSaid : Prop := Claim7.holds Tryz.pinned (.plain (OpenSpec.upto hubKnownSpec)) hubKnownUptoCard

/-- THE SECOND FORM's CARD OF 'relayhouselaw19.HubHas'. -/
def hubHasUptoCard : Claim7 := { stood := { row := hubHasUptoRow, standIns := [], harness := (true, "0ad76a2f290f9b6ed56de4506c15dd2e1a7c7e376b6c6751b5a1180aaf9113f1"), looks := false }, kinds := [], alts := [], laidByText := true, laidKinds := [.data, .pinned], laidTests := true, laidLooks := .later }
def HubHasUptoCardSaid : Prop := Claim7.holds Tryz.pinned (.plain (OpenSpec.upto hubHasSpec)) hubHasUptoCard

/-- THE SECOND FORM's CARD OF 'relayhouselaw19.HubDoes'. -/
def hubDoesUptoCard : Claim7 := { stood := { row := hubDoesUptoRow, standIns := [], harness := (true, "0ad76a2f290f9b6ed56de4506c15dd2e1a7c7e376b6c6751b5a1180aaf9113f1"), looks := false }, kinds := [], alts := [], laidByText := true, laidKinds := [.data, .pinned], laidTests := true, laidLooks := .later }
def HubDoesUptoCardSaid : Prop := Claim7.holds Tryz.pinned (.plain (OpenSpec.upto hubDoesSpec)) hubDoesUptoCard

/-- THE SECOND FORM's CARD OF 'relayhouselaw19.HubAtOnce'. -/
def hubAtOnceUptoCard : Claim7 := { stood := { row := hubAtOnceUptoRow, standIns := [], harness := (true, "0ad76a2f290f9b6ed56de4506c15dd2e1a7c7e376b6c6751b5a1180aaf9113f1"), looks := false }, kinds := [], alts := [], laidByText := true, laidKinds := [.data, .pinned], laidTests := true, laidLooks := .later }
def HubAtOnceUptoCardSaid : Prop := Claim7.holds Tryz.pinned (.plain (OpenSpec.upto hubAtOnceSpec)) hubAtOnceUptoCard

/-- THE SECOND FORM's CARD OF 'relayhouselaw19.HubKeeps'. -/
def hubKeepsUptoCard : Claim7 := { stood := { row := hubKeepsUptoRow, standIns := [], harness := (true, "0ad76a2f290f9b6ed56de4506c15dd2e1a7c7e376b6c6751b5a1180aaf9113f1"), looks := false }, kinds := [], alts := [], laidByText := true, laidKinds := [.data, .pinned], laidTests := true, laidLooks := .later }
def HubKeepsUptoCardSaid : Prop := Claim7.holds Tryz.pinned (.plain (OpenSpec.upto hubKeepsSpec)) hubKeepsUptoCard
end Rows
end Go.Proofs.YthfdcphecggjeaaGreatDoor
