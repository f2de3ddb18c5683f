/-
  DERIVED. GIVEN WITH THE SEED: THE CARDS: each row of YtcekcoepdhnfgaaGreatDoorRows.lean that lists a variable, with what it lists TIED to the program's text (the seventh form; the later family's looks); each row that meets fmt, with fmt's text TOLD by the authors' own Lean function (tested against real Go, not proved from fmt's source: count such statements apart). THE CARD IS WHAT COUNTS. Prove the row's statement (the work); the ties are given (YtcekcoepdhnfgaaGreatDoorTie.lean); close each card by the builder's one call (the guide's Derived/Test/ToyasCard.lean, 'card_holds'). Laid BY PROGRAM, IN A SANDBOX (cutbox-door.mjs). By AI agents, Wed Nov 11 2026. No macro, syntax, notation, axiom, sorry.
-/
import Derived.Test.YtcekcoepdhnfgaaGreatDoorRows
import GoSem.ClaimSeven
namespace Go.Proofs.YtcekcoepdhnfgaaGreatDoor
namespace Rows

/-- THE TIED CARD OF 'relayhouselaw21.HomeLanes'. -/
def homeLanesCard : Claim7 := { stood := { row := homeLanesRow, standIns := [], harness := (true, "a3dc014e0261757d9a16bb5e5dfa626fe73fc78c838cf56d5b16b8a6b3252de4"), looks := false }, kinds := [], alts := [], laidByText := true, laidKinds := [.data, .data, .pinned], laidTests := true, laidLooks := .later }
def HomeLanesCardSaid : Prop := Claim7.holds Tryz.pinned (.plain (OpenSpec.ofChange homeLanesSpec)) homeLanesCard

/-- THE TIED CARD OF 'relayhouselaw21.HomeOne'. -/
def homeOneCard : Claim7 := { stood := { row := homeOneRow, standIns := [], harness := (true, "a3dc014e0261757d9a16bb5e5dfa626fe73fc78c838cf56d5b16b8a6b3252de4"), looks := false }, kinds := [], alts := [], laidByText := true, laidKinds := [.data, .data, .pinned], laidTests := true, laidLooks := .later }
def HomeOneCardSaid : Prop := Claim7.holds Tryz.pinned (.plain (OpenSpec.ofChange homeOneSpec)) homeOneCard

/-- THE TIED CARD OF 'relayhouselaw21.HomePlays'. -/
def homePlaysCard : Claim7 := { stood := { row := homePlaysRow, standIns := [], harness := (true, "a3dc014e0261757d9a16bb5e5dfa626fe73fc78c838cf56d5b16b8a6b3252de4"), looks := false }, kinds := [], alts := [], laidByText := true, laidKinds := [.data, .data, .pinned], laidTests := true, laidLooks := .later }
def HomePlaysCardSaid : Prop := Claim7.holds Tryz.pinned (.plain (OpenSpec.ofChange homePlaysSpec)) homePlaysCard

/-- THE TIED CARD OF 'relayhouselaw21.HomeRefuses'. -/
def homeRefusesCard : Claim7 := { stood := { row := homeRefusesRow, standIns := [], harness := (true, "a3dc014e0261757d9a16bb5e5dfa626fe73fc78c838cf56d5b16b8a6b3252de4"), looks := false }, kinds := [], alts := [], laidByText := true, laidKinds := [.data, .data, .pinned], laidTests := true, laidLooks := .later }
def HomeRefusesCardSaid : Prop := Claim7.holds Tryz.pinned (.plain (OpenSpec.ofChange homeRefusesSpec)) homeRefusesCard

/-- THE TIED CARD OF 'relayhouselaw21.HomeKnown'. -/
def homeKnownCard : Claim7 := { stood := { row := homeKnownRow, standIns := [], harness := (true, "a3dc014e0261757d9a16bb5e5dfa626fe73fc78c838cf56d5b16b8a6b3252de4"), looks := false }, kinds := [], alts := [], laidByText := true, laidKinds := [.data, .data, .pinned], laidTests := true, laidLooks := .later }
def HomeKnownCardSaid : Prop := Claim7.holds Tryz.pinned (.plain (OpenSpec.ofChange homeKnownSpec)) homeKnownCard

/-- THE TIED CARD OF 'relayhouselaw21.HomeTells'. -/
def homeTellsCard : Claim7 := { stood := { row := homeTellsRow, standIns := [], harness := (true, "a3dc014e0261757d9a16bb5e5dfa626fe73fc78c838cf56d5b16b8a6b3252de4"), looks := false }, kinds := [], alts := [], laidByText := true, laidKinds := [.data, .data, .pinned], laidTests := true, laidLooks := .later }
def HomeTellsCardSaid : Prop := Claim7.holds Tryz.pinned (.plain (OpenSpec.ofChange homeTellsSpec)) homeTellsCard

/-- THE SECOND FORM's CARD OF 'relayhouselaw21.HomeLanes'. -/
def homeLanesUptoCard : Claim7 := { stood := { row := homeLanesUptoRow, standIns := [], harness := (true, "a3dc014e0261757d9a16bb5e5dfa626fe73fc78c838cf56d5b16b8a6b3252de4"), looks := false }, kinds := [], alts := [], laidByText := true, laidKinds := [.data, .data, .pinned], laidTests := true, laidLooks := .later }
def HomeLanesUptoCardSaid : Prop := Claim7.holds Tryz.pinned (.plain (OpenSpec.upto homeLanesSpec)) homeLanesUptoCard

/-- THE SECOND FORM's CARD OF 'relayhouselaw21.HomeOne'. -/
def homeOneUptoCard : Claim7 := { stood := { row := homeOneUptoRow, standIns := [], harness := (true, "a3dc014e0261757d9a16bb5e5dfa626fe73fc78c838cf56d5b16b8a6b3252de4"), looks := false }, kinds := [], alts := [], laidByText := true, laidKinds := [.data, .data, .pinned], laidTests := true, laidLooks := .later }
def HomeOneUptoCardSaid : Prop := Claim7.holds Tryz.pinned (.plain (OpenSpec.upto homeOneSpec)) homeOneUptoCard

/-- THE SECOND FORM's CARD OF 'relayhouselaw21.HomePlays'. -/
def homePlaysUptoCard : Claim7 := { stood := { row := homePlaysUptoRow, standIns := [], harness := (true, "a3dc014e0261757d9a16bb5e5dfa626fe73fc78c838cf56d5b16b8a6b3252de4"), looks := false }, kinds := [], alts := [], laidByText := true, laidKinds := [.data, .data, .pinned], laidTests := true, laidLooks := .later }
def HomePlaysUptoCardSaid : Prop := Claim7.holds Tryz.pinned (.plain (OpenSpec.upto homePlaysSpec)) homePlaysUptoCard

/-- THE SECOND FORM's CARD OF 'relayhouselaw21.HomeRefuses'. -/
def homeRefusesUptoCard : Claim7 := { stood := { row := homeRefusesUptoRow, standIns := [], harness := (true, "a3dc014e0261757d9a16bb5e5dfa626fe73fc78c838cf56d5b16b8a6b3252de4"), looks := false }, kinds := [], alts := [], laidByText := true, laidKinds := [.data, .data, .pinned], laidTests := true, laidLooks := .later }
def HomeRefusesUptoCardSaid : Prop := Claim7.holds Tryz.pinned (.plain (OpenSpec.upto homeRefusesSpec)) homeRefusesUptoCard

/-- THE SECOND FORM's CARD OF 'relayhouselaw21.HomeKnown'. -/
def homeKnownUptoCard : Claim7 := { stood := { row := homeKnownUptoRow, standIns := [], harness := (true, "a3dc014e0261757d9a16bb5e5dfa626fe73fc78c838cf56d5b16b8a6b3252de4"), looks := false }, kinds := [], alts := [], laidByText := true, laidKinds := [.data, .data, .pinned], laidTests := true, laidLooks := .later }
def HomeKnownUptoCardSaid : Prop := Claim7.holds Tryz.pinned (.plain (OpenSpec.upto homeKnownSpec)) homeKnownUptoCard

/-- THE SECOND FORM's CARD OF 'relayhouselaw21.HomeTells'. -/
def homeTellsUptoCard : Claim7 := { stood := { row := homeTellsUptoRow, standIns := [], harness := (true, "a3dc014e0261757d9a16bb5e5dfa626fe73fc78c838cf56d5b16b8a6b3252de4"), looks := false }, kinds := [], alts := [], laidByText := true, laidKinds := [.data, .data, .pinned], laidTests := true, laidLooks := .later }
def HomeTellsUptoCardSaid : Prop := Claim7.holds Tryz.pinned (.plain (OpenSpec.upto homeTellsSpec)) homeTellsUptoCard
end Rows
end Go.Proofs.YtcekcoepdhnfgaaGreatDoor
