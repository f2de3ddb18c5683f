/-
  NARROWER THAN 'FOR EVERY INPUT', by the rows' own cells (each row's printed sentence says how): TextKnown: laid · TextTells: laid · TextFields: laid · TextBack: laid · TextPieces: laid · TextNever: laid.
  DERIVED. THE GIVEN ROWS OF THIS SEAT. 6 by the template 'for every input the law returns true; each argument reads behind the call as it read before'; 0 by the template 'total and deterministic' (their statements: YtjpefeopfbgnhaaDoorTotals.lean).
  GIVEN WITH THE SEED: the statements are not yours to turn. If you find one false, say at which input.
  Laid BY PROGRAM, IN A SANDBOX (cutbox-rows.mjs): the forced cells as the released guide's own fill.sh prints them over the translation c4df5f8fdd4e93a7… (all of the seat's roots in one cut). By AI agents, Wed Nov 11 2026. No macro, syntax, notation, axiom, sorry.
-/
import Derived.Test.YtjpefeopfbgnhaaDoorChecked
import GoSem.PinnedTables
import GoSem.Claim
import GoSem.ClaimJoined
import GoSem.ClaimMapViews
import Derived.JoinedTies
import Derived.KernelRfl
namespace Go.Proofs.YtjpefeopfbgnhaaDoor
/- THE CELL 'sum', in the pinned program and in every row, IS THE sha256 OF THE DUMP (.gsa) THAT YtjpefeopfbgnhaaDoorProg.lean LOADS. Nothing in Lean hashes anything: it is a label: what it is worth is what the hold of that sum in a sandbox is worth. -/
noncomputable def Tryd.pinned : Pinned := { name := "ytjpefeopfbgnhaadoor", sum := "c4df5f8fdd4e93a7eff4096d02f30ef81e5a133f02cf6c59c0b193678bdbfc96", checked := Tryd.checked }
namespace Rows
def none {H : Type} : Left H := { results := [], args := [] }

/- WHAT THE LISTED PACKAGE-LEVEL VARIABLES READ AS WHEN THE CALL BEGINS. Each datum BY PROGRAM (the guide's laid-datum.mjs) off the statement by which the dump's own 'gosem.cut.vars' lays the variable. In a bare row this is a premise. The card (YtjpefeopfbgnhaaDoorCards.lean) ties it to the program's text. -/
def laid_unicode_utf8_acceptRanges {H : Type} : DataW H := .agg [.agg [.lit (.int .u8 128), .lit (.int .u8 191)], .agg [.lit (.int .u8 160), .lit (.int .u8 191)], .agg [.lit (.int .u8 128), .lit (.int .u8 159)], .agg [.lit (.int .u8 144), .lit (.int .u8 191)], .agg [.lit (.int .u8 128), .lit (.int .u8 143)], .agg [.lit (.int .u8 0), .lit (.int .u8 0)], .agg [.lit (.int .u8 0), .lit (.int .u8 0)], .agg [.lit (.int .u8 0), .lit (.int .u8 0)], .agg [.lit (.int .u8 0), .lit (.int .u8 0)], .agg [.lit (.int .u8 0), .lit (.int .u8 0)], .agg [.lit (.int .u8 0), .lit (.int .u8 0)], .agg [.lit (.int .u8 0), .lit (.int .u8 0)], .agg [.lit (.int .u8 0), .lit (.int .u8 0)], .agg [.lit (.int .u8 0), .lit (.int .u8 0)], .agg [.lit (.int .u8 0), .lit (.int .u8 0)], .agg [.lit (.int .u8 0), .lit (.int .u8 0)]]
/-- One of Go's own tables, pinned by name: the form's constant. -/
def laid_unicode_utf8_first : DataW Unit := Go.Pinned.utf8First

/-- 'relayhouselaw02.TextKnown': WHATEVER THE INPUT: true; the input reads as it did. -/
def textKnownSpec : ChangeSpec := { name := "textKnown", fn := fun _ => fun
  | [] => { results := [.lit (.bool true)], args := [] }
  | _ => none }
def textKnownRow : OpenClaim := { program := "ytjpefeopfbgnhaadoor", sum := "c4df5f8fdd4e93a7eff4096d02f30ef81e5a133f02cf6c59c0b193678bdbfc96", func := "relayhouse/relayhouselaw02.TextKnown", spec := "textKnown", named := ["unicode/utf8.first", "unicode/utf8.acceptRanges"], apart := false, laid := [("unicode/utf8.acceptRanges", laid_unicode_utf8_acceptRanges), ("unicode/utf8.first", laid_unicode_utf8_first)] }
def TextKnownSaid : Prop := textKnownRow.holds Tryd.pinned (OpenSpec.ofChange textKnownSpec)

/-- ITS FALSE NEIGHBOUR: 'it returns false'. Refute it at one input. -/
def textKnownWrong : ChangeSpec := { name := "textKnown", fn := fun _ => fun
  | [] => { results := [.lit (.bool false)], args := [] }
  | _ => none }
def TextKnownWrongFalsely : Prop := textKnownRow.holds Tryd.pinned (OpenSpec.ofChange textKnownWrong)

/-- 'relayhouselaw02.TextTells': WHATEVER THE INPUT: true; the input reads as it did. -/
def textTellsSpec : ChangeSpec := { name := "textTells", fn := fun _ => fun
  | [d] => { results := [.lit (.bool true)], args := [d] }
  | _ => none }
def textTellsRow : OpenClaim := { program := "ytjpefeopfbgnhaadoor", sum := "c4df5f8fdd4e93a7eff4096d02f30ef81e5a133f02cf6c59c0b193678bdbfc96", func := "relayhouse/relayhouselaw02.TextTells", spec := "textTells", named := ["unicode/utf8.first", "unicode/utf8.acceptRanges"], apart := false, laid := [("unicode/utf8.acceptRanges", laid_unicode_utf8_acceptRanges), ("unicode/utf8.first", laid_unicode_utf8_first)] }
def TextTellsSaid : Prop := textTellsRow.holds Tryd.pinned (OpenSpec.ofChange textTellsSpec)

/-- ITS FALSE NEIGHBOUR: 'it returns false'. Refute it at one input. -/
def textTellsWrong : ChangeSpec := { name := "textTells", fn := fun _ => fun
  | [d] => { results := [.lit (.bool false)], args := [d] }
  | _ => none }
def TextTellsWrongFalsely : Prop := textTellsRow.holds Tryd.pinned (OpenSpec.ofChange textTellsWrong)

/-- 'relayhouselaw02.TextFields': WHATEVER THE INPUT: true; the input reads as it did. -/
def textFieldsSpec : ChangeSpec := { name := "textFields", fn := fun _ => fun
  | [d1, d2] => { results := [.lit (.bool true)], args := [d1, d2] }
  | _ => none }
def textFieldsRow : OpenClaim := { program := "ytjpefeopfbgnhaadoor", sum := "c4df5f8fdd4e93a7eff4096d02f30ef81e5a133f02cf6c59c0b193678bdbfc96", func := "relayhouse/relayhouselaw02.TextFields", spec := "textFields", named := ["unicode/utf8.first", "unicode/utf8.acceptRanges"], apart := false, laid := [("unicode/utf8.acceptRanges", laid_unicode_utf8_acceptRanges), ("unicode/utf8.first", laid_unicode_utf8_first)] }
def TextFieldsSaid : Prop := textFieldsRow.holds Tryd.pinned (OpenSpec.ofChange textFieldsSpec)

/-- ITS FALSE NEIGHBOUR: 'it returns false'. Refute it at one input. -/
def textFieldsWrong : ChangeSpec := { name := "textFields", fn := fun _ => fun
  | [d1, d2] => { results := [.lit (.bool false)], args := [d1, d2] }
  | _ => none }
def TextFieldsWrongFalsely : Prop := textFieldsRow.holds Tryd.pinned (OpenSpec.ofChange textFieldsWrong)

/-- 'relayhouselaw02.TextBack': WHATEVER THE INPUT: true; the input reads as it did. -/
def textBackSpec : ChangeSpec := { name := "textBack", fn := fun _ => fun
  | [d1, d2, d3, d4] => { results := [.lit (.bool true)], args := [d1, d2, d3, d4] }
  | _ => none }
def textBackRow : OpenClaim := { program := "ytjpefeopfbgnhaadoor", sum := "c4df5f8fdd4e93a7eff4096d02f30ef81e5a133f02cf6c59c0b193678bdbfc96", func := "relayhouse/relayhouselaw02.TextBack", spec := "textBack", named := ["unicode/utf8.first", "unicode/utf8.acceptRanges"], apart := false, laid := [("unicode/utf8.acceptRanges", laid_unicode_utf8_acceptRanges), ("unicode/utf8.first", laid_unicode_utf8_first)] }
def TextBackSaid : Prop := textBackRow.holds Tryd.pinned (OpenSpec.ofChange textBackSpec)

/-- ITS FALSE NEIGHBOUR: 'it returns false'. Refute it at one input. -/
def textBackWrong : ChangeSpec := { name := "textBack", fn := fun _ => fun
  | [d1, d2, d3, d4] => { results := [.lit (.bool false)], args := [d1, d2, d3, d4] }
  | _ => none }
def TextBackWrongFalsely : Prop := textBackRow.holds Tryd.pinned (OpenSpec.ofChange textBackWrong)

/-- 'relayhouselaw02.TextPieces': WHATEVER THE INPUT: true; the input reads as it did. -/
def textPiecesSpec : ChangeSpec := { name := "textPieces", fn := fun _ => fun
  | [d1, d2, d3] => { results := [.lit (.bool true)], args := [d1, d2, d3] }
  | _ => none }
def textPiecesRow : OpenClaim := { program := "ytjpefeopfbgnhaadoor", sum := "c4df5f8fdd4e93a7eff4096d02f30ef81e5a133f02cf6c59c0b193678bdbfc96", func := "relayhouse/relayhouselaw02.TextPieces", spec := "textPieces", named := ["unicode/utf8.first", "unicode/utf8.acceptRanges"], apart := false, laid := [("unicode/utf8.acceptRanges", laid_unicode_utf8_acceptRanges), ("unicode/utf8.first", laid_unicode_utf8_first)] }
def TextPiecesSaid : Prop := textPiecesRow.holds Tryd.pinned (OpenSpec.ofChange textPiecesSpec)

/-- ITS FALSE NEIGHBOUR: 'it returns false'. Refute it at one input. -/
def textPiecesWrong : ChangeSpec := { name := "textPieces", fn := fun _ => fun
  | [d1, d2, d3] => { results := [.lit (.bool false)], args := [d1, d2, d3] }
  | _ => none }
def TextPiecesWrongFalsely : Prop := textPiecesRow.holds Tryd.pinned (OpenSpec.ofChange textPiecesWrong)

/-- 'relayhouselaw02.TextNever': WHATEVER THE INPUT: true; the input reads as it did. -/
def textNeverSpec : ChangeSpec := { name := "textNever", fn := fun _ => fun
  | [d1, d2, d3] => { results := [.lit (.bool true)], args := [d1, d2, d3] }
  | _ => none }
def textNeverRow : OpenClaim := { program := "ytjpefeopfbgnhaadoor", sum := "c4df5f8fdd4e93a7eff4096d02f30ef81e5a133f02cf6c59c0b193678bdbfc96", func := "relayhouse/relayhouselaw02.TextNever", spec := "textNever", named := ["unicode/utf8.first", "unicode/utf8.acceptRanges"], apart := false, laid := [("unicode/utf8.acceptRanges", laid_unicode_utf8_acceptRanges), ("unicode/utf8.first", laid_unicode_utf8_first)] }
def TextNeverSaid : Prop := textNeverRow.holds Tryd.pinned (OpenSpec.ofChange textNeverSpec)

/-- ITS FALSE NEIGHBOUR: 'it returns false'. Refute it at one input. -/
def textNeverWrong : ChangeSpec := { name := "textNever", fn := fun _ => fun
  | [d1, d2, d3] => { results := [.lit (.bool false)], args := [d1, d2, d3] }
  | _ => none }
def TextNeverWrongFalsely : Prop := textNeverRow.holds Tryd.pinned (OpenSpec.ofChange textNeverWrong)

/- THE SECOND FORM. 'bulk': how many values and letters a reading holds, each counted each time it is reached (what is shared counts as often as it is met; a slice's spare places count too). A statement '..UptoSaid' is the law's where the arguments, and the package variables that the reading takes, are together of bulk at most 1048576: NARROWER than '..Said'. Prove '..Said' where nothing that the law and all that it calls make is longer than what came in: it says more and counts as full. Else prove '..UptoSaid'. A law counts once. -/
mutual
def uptoBulk {H : Type} : DataW H → Nat
  | .lit (.string bytes) => bytes.length + 1
  | .lit _ => 1
  | .nil => 1
  | .ptr d => uptoBulk d + 1
  | .slice elems spare => uptoBulkAll elems + uptoBulkAll spare + 1
  | .agg parts => uptoBulkAll parts + 1
  | .iface _ d => uptoBulk d + 1
  | .map entries => uptoBulkEntries entries + 1
  | .held _ => 1
def uptoBulkAll {H : Type} : List (DataW H) → Nat
  | [] => 0
  | d :: r => uptoBulk d + uptoBulkAll r
def uptoBulkEntries {H : Type} : List (Lit × DataW H) → Nat
  | [] => 0
  | x :: r => uptoBulkEntry x + uptoBulkEntries r
def uptoBulkEntry {H : Type} : Lit × DataW H → Nat
  | (.string bytes, d) => bytes.length + uptoBulk d + 1
  | (_, d) => uptoBulk d + 1
 end
def uptoSmall : (H : Type) → List (DataW H) → Bool := fun _ ds => decide (uptoBulkAll ds ≤ 1048576)
def OpenSpec.upto (s : _root_.Go.ChangeSpec) : _root_.Go.OpenSpec := { _root_.Go.OpenSpec.ofChange s with cond := some uptoSmall }

/-- 'relayhouselaw02.TextKnown', WHERE WHAT IT READS IS OF BULK AT MOST 1048576: true; the input reads as it did. -/
def textKnownUptoRow : OpenClaim := { program := "ytjpefeopfbgnhaadoor", sum := "c4df5f8fdd4e93a7eff4096d02f30ef81e5a133f02cf6c59c0b193678bdbfc96", func := "relayhouse/relayhouselaw02.TextKnown", spec := "textKnown", named := ["unicode/utf8.first", "unicode/utf8.acceptRanges"], apart := false, laid := [("unicode/utf8.acceptRanges", laid_unicode_utf8_acceptRanges), ("unicode/utf8.first", laid_unicode_utf8_first)], narrowed := true }
def TextKnownUptoSaid : Prop := textKnownUptoRow.holds Tryd.pinned (OpenSpec.upto textKnownSpec)

/-- 'relayhouselaw02.TextTells', WHERE WHAT IT READS IS OF BULK AT MOST 1048576: true; the input reads as it did. -/
def textTellsUptoRow : OpenClaim := { program := "ytjpefeopfbgnhaadoor", sum := "c4df5f8fdd4e93a7eff4096d02f30ef81e5a133f02cf6c59c0b193678bdbfc96", func := "relayhouse/relayhouselaw02.TextTells", spec := "textTells", named := ["unicode/utf8.first", "unicode/utf8.acceptRanges"], apart := false, laid := [("unicode/utf8.acceptRanges", laid_unicode_utf8_acceptRanges), ("unicode/utf8.first", laid_unicode_utf8_first)], narrowed := true }
def TextTellsUptoSaid : Prop := textTellsUptoRow.holds Tryd.pinned (OpenSpec.upto textTellsSpec)

/-- 'relayhouselaw02.TextFields', WHERE WHAT IT READS IS OF BULK AT MOST 1048576: true; the input reads as it did. -/
def textFieldsUptoRow : OpenClaim := { program := "ytjpefeopfbgnhaadoor", sum := "c4df5f8fdd4e93a7eff4096d02f30ef81e5a133f02cf6c59c0b193678bdbfc96", func := "relayhouse/relayhouselaw02.TextFields", spec := "textFields", named := ["unicode/utf8.first", "unicode/utf8.acceptRanges"], apart := false, laid := [("unicode/utf8.acceptRanges", laid_unicode_utf8_acceptRanges), ("unicode/utf8.first", laid_unicode_utf8_first)], narrowed := true }
def TextFieldsUptoSaid : Prop := textFieldsUptoRow.holds Tryd.pinned (OpenSpec.upto textFieldsSpec)

/-- 'relayhouselaw02.TextBack', WHERE WHAT IT READS IS OF BULK AT MOST 1048576: true; the input reads as it did. -/
def textBackUptoRow : OpenClaim := { program := "ytjpefeopfbgnhaadoor", sum := "c4df5f8fdd4e93a7eff4096d02f30ef81e5a133f02cf6c59c0b193678bdbfc96", func := "relayhouse/relayhouselaw02.TextBack", spec := "textBack", named := ["unicode/utf8.first", "unicode/utf8.acceptRanges"], apart := false, laid := [("unicode/utf8.acceptRanges", laid_unicode_utf8_acceptRanges), ("unicode/utf8.first", laid_unicode_utf8_first)], narrowed := true }
def TextBackUptoSaid : Prop := textBackUptoRow.holds Tryd.pinned (OpenSpec.upto textBackSpec)

/-- 'relayhouselaw02.TextPieces', WHERE WHAT IT READS IS OF BULK AT MOST 1048576: true; the input reads as it did. -/
def textPiecesUptoRow : OpenClaim := { program := "ytjpefeopfbgnhaadoor", sum := "c4df5f8fdd4e93a7eff4096d02f30ef81e5a133f02cf6c59c0b193678bdbfc96", func := "relayhouse/relayhouselaw02.TextPieces", spec := "textPieces", named := ["unicode/utf8.first", "unicode/utf8.acceptRanges"], apart := false, laid := [("unicode/utf8.acceptRanges", laid_unicode_utf8_acceptRanges), ("unicode/utf8.first", laid_unicode_utf8_first)], narrowed := true }
def TextPiecesUptoSaid : Prop := textPiecesUptoRow.holds Tryd.pinned (OpenSpec.upto textPiecesSpec)

/-- 'relayhouselaw02.TextNever', WHERE WHAT IT READS IS OF BULK AT MOST 1048576: true; the input reads as it did. -/
def textNeverUptoRow : OpenClaim := { program := "ytjpefeopfbgnhaadoor", sum := "c4df5f8fdd4e93a7eff4096d02f30ef81e5a133f02cf6c59c0b193678bdbfc96", func := "relayhouse/relayhouselaw02.TextNever", spec := "textNever", named := ["unicode/utf8.first", "unicode/utf8.acceptRanges"], apart := false, laid := [("unicode/utf8.acceptRanges", laid_unicode_utf8_acceptRanges), ("unicode/utf8.first", laid_unicode_utf8_first)], narrowed := true }
def TextNeverUptoSaid : Prop := textNeverUptoRow.holds Tryd.pinned (OpenSpec.upto textNeverSpec)

end Rows
end Go.Proofs.YtjpefeopfbgnhaaDoor
