/-
  DERIVED. GIVEN WITH THE SEED: THE CARDS: each row of YtcnjgenacpkdbaaDoorRows.lean that lists a variable, with what it lists TIED to the program's text (the seventh form; the later family's looks); each row that meets fmt, with fmt's text TOLD by the authors' own Lean function (tested against real Go, not proved from fmt's source: count such statements apart). THE CARD IS WHAT COUNTS. Prove the row's statement (the work); the ties are given (YtcnjgenacpkdbaaDoorTie.lean); close each card by the builder's one call (the guide's Derived/Test/ToyasCard.lean, 'card_holds'). Laid BY PROGRAM, IN A SANDBOX (cutbox-door.mjs). By AI agents, Wed Nov 11 2026. No macro, syntax, notation, axiom, sorry.
-/
import Derived.Test.YtcnjgenacpkdbaaDoorRows
import GoSem.ClaimSeven
namespace Go.Proofs.YtcnjgenacpkdbaaDoor
namespace Rows

/-- THE TIED CARD OF 'relayhouselaw09.TrieKnown'. -/
def trieKnownCard : Claim7 := { stood := { row := trieKnownRow, standIns := [], harness := (true, "1982388f20b9faffe372ff29dcbd9b2c75c0e3f37a3fa21319d21865fc1f8338"), looks := false }, kinds := [], alts := [], laidByText := true, laidKinds := [.data, .pinned], laidTests := true, laidLooks := .later }
def TrieKnownCardSaid : Prop := Claim7.holds Tryd.pinned (.plain (OpenSpec.ofChange trieKnownSpec)) trieKnownCard

/-- THE SECOND FORM's CARD OF 'relayhouselaw09.TrieKnown'. -/
def trieKnownUptoCard : Claim7 := { stood := { row := trieKnownUptoRow, standIns := [], harness := (true, "1982388f20b9faffe372ff29dcbd9b2c75c0e3f37a3fa21319d21865fc1f8338"), looks := false }, kinds := [], alts := [], laidByText := true, laidKinds := [.data, .pinned], laidTests := true, laidLooks := .later }
def TrieKnownUptoCardSaid : Prop := Claim7.holds Tryd.pinned (.plain (OpenSpec.upto trieKnownSpec)) trieKnownUptoCard
end Rows
end Go.Proofs.YtcnjgenacpkdbaaDoor
