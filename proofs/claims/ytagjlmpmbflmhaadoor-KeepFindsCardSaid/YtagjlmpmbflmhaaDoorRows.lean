/-
  NARROWER THAN 'FOR EVERY INPUT', by the rows' own cells (each row's printed sentence says how): KeepFinds: laid · KeepCovers: laid · KeepOne: laid · KeepPlays: laid · KeepKnown: laid · KeepLast: laid.
  DERIVED. THE GIVEN ROWS OF THIS SEAT. 6 by the template 'for every input the law returns true; each argument reads behind the call as it read before'; 0 by the template 'total and deterministic' (their statements: YtagjlmpmbflmhaaDoorTotals.lean).
  GIVEN WITH THE SEED: the statements are not yours to turn. If you find one false, say at which input.
  Laid BY PROGRAM, IN A SANDBOX (cutbox-rows.mjs): the forced cells as the released guide's own fill.sh prints them over the translation ffeedaa4bcfa4a4d… (all of the seat's roots in one cut). By AI agents, Wed Nov 11 2026. No macro, syntax, notation, axiom, sorry.
-/
import Derived.Test.YtagjlmpmbflmhaaDoorChecked
import GoSem.PinnedTables
import GoSem.Claim
import GoSem.ClaimJoined
import GoSem.ClaimMapViews
import Derived.JoinedTies
import Derived.KernelRfl
namespace Go.Proofs.YtagjlmpmbflmhaaDoor
/- THE CELL 'sum', in the pinned program and in every row, IS THE sha256 OF THE DUMP (.gsa) THAT YtagjlmpmbflmhaaDoorProg.lean LOADS. Nothing in Lean hashes anything: it is a label: what it is worth is what the hold of that sum in a sandbox is worth. -/
noncomputable def Tryd.pinned : Pinned := { name := "ytagjlmpmbflmhaadoor", sum := "ffeedaa4bcfa4a4de74064b36ce0d1084914b572dd3cb0d15338d943cf40c1bf", checked := Tryd.checked }
namespace Rows
def none {H : Type} : Left H := { results := [], args := [] }

/- WHAT THE LISTED PACKAGE-LEVEL VARIABLES READ AS WHEN THE CALL BEGINS. Each datum BY PROGRAM (the guide's laid-datum.mjs) off the statement by which the dump's own 'gosem.cut.vars' lays the variable. In a bare row this is a premise. The card (YtagjlmpmbflmhaaDoorCards.lean) ties it to the program's text. -/
def laid_unicode_utf8_acceptRanges {H : Type} : DataW H := .agg [.agg [.lit (.int .u8 128), .lit (.int .u8 191)], .agg [.lit (.int .u8 160), .lit (.int .u8 191)], .agg [.lit (.int .u8 128), .lit (.int .u8 159)], .agg [.lit (.int .u8 144), .lit (.int .u8 191)], .agg [.lit (.int .u8 128), .lit (.int .u8 143)], .agg [.lit (.int .u8 0), .lit (.int .u8 0)], .agg [.lit (.int .u8 0), .lit (.int .u8 0)], .agg [.lit (.int .u8 0), .lit (.int .u8 0)], .agg [.lit (.int .u8 0), .lit (.int .u8 0)], .agg [.lit (.int .u8 0), .lit (.int .u8 0)], .agg [.lit (.int .u8 0), .lit (.int .u8 0)], .agg [.lit (.int .u8 0), .lit (.int .u8 0)], .agg [.lit (.int .u8 0), .lit (.int .u8 0)], .agg [.lit (.int .u8 0), .lit (.int .u8 0)], .agg [.lit (.int .u8 0), .lit (.int .u8 0)], .agg [.lit (.int .u8 0), .lit (.int .u8 0)]]
/-- One of Go's own tables, pinned by name: the form's constant. -/
def laid_unicode_utf8_first : DataW Unit := Go.Pinned.utf8First

/-- 'relayhouselaw10.KeepFinds': WHATEVER THE INPUT: true; the input reads as it did. -/
def keepFindsSpec : ChangeSpec := { name := "keepFinds", fn := fun _ => fun
  | [d1, d2] => { results := [.lit (.bool true)], args := [d1, d2] }
  | _ => none }
def keepFindsRow : OpenClaim := { program := "ytagjlmpmbflmhaadoor", sum := "ffeedaa4bcfa4a4de74064b36ce0d1084914b572dd3cb0d15338d943cf40c1bf", func := "relayhouse/relayhouselaw10.KeepFinds", spec := "keepFinds", inPlace := ["internal/bytealg.IndexByteString", "internal/bytealg.IndexString", "internal/bytealg.CountString"], unfollowed := true, recurses := true, named := ["unicode/utf8.first", "unicode/utf8.acceptRanges", "internal/bytealg.MaxLen"], apart := false, laid := [("unicode/utf8.acceptRanges", laid_unicode_utf8_acceptRanges), ("unicode/utf8.first", laid_unicode_utf8_first)] }
def KeepFindsSaid : Prop := keepFindsRow.holds Tryd.pinned (OpenSpec.ofChange keepFindsSpec)

/-- ITS FALSE NEIGHBOUR: 'it returns false'. Refute it at one input. -/
def keepFindsWrong : ChangeSpec := { name := "keepFinds", fn := fun _ => fun
  | [d1, d2] => { results := [.lit (.bool false)], args := [d1, d2] }
  | _ => none }
def KeepFindsWrongFalsely : Prop := keepFindsRow.holds Tryd.pinned (OpenSpec.ofChange keepFindsWrong)

/-- 'relayhouselaw10.KeepCovers': WHATEVER THE INPUT: true; the input reads as it did. -/
def keepCoversSpec : ChangeSpec := { name := "keepCovers", fn := fun _ => fun
  | [d1, d2, d3] => { results := [.lit (.bool true)], args := [d1, d2, d3] }
  | _ => none }
def keepCoversRow : OpenClaim := { program := "ytagjlmpmbflmhaadoor", sum := "ffeedaa4bcfa4a4de74064b36ce0d1084914b572dd3cb0d15338d943cf40c1bf", func := "relayhouse/relayhouselaw10.KeepCovers", spec := "keepCovers", inPlace := ["internal/bytealg.IndexByteString", "internal/bytealg.IndexString", "internal/bytealg.CountString"], unfollowed := true, recurses := true, named := ["unicode/utf8.first", "unicode/utf8.acceptRanges", "internal/bytealg.MaxLen"], apart := false, laid := [("unicode/utf8.acceptRanges", laid_unicode_utf8_acceptRanges), ("unicode/utf8.first", laid_unicode_utf8_first)] }
def KeepCoversSaid : Prop := keepCoversRow.holds Tryd.pinned (OpenSpec.ofChange keepCoversSpec)

/-- ITS FALSE NEIGHBOUR: 'it returns false'. Refute it at one input. -/
def keepCoversWrong : ChangeSpec := { name := "keepCovers", fn := fun _ => fun
  | [d1, d2, d3] => { results := [.lit (.bool false)], args := [d1, d2, d3] }
  | _ => none }
def KeepCoversWrongFalsely : Prop := keepCoversRow.holds Tryd.pinned (OpenSpec.ofChange keepCoversWrong)

/-- 'relayhouselaw10.KeepOne': WHATEVER THE INPUT: true; the input reads as it did. -/
def keepOneSpec : ChangeSpec := { name := "keepOne", fn := fun _ => fun
  | [d1, d2] => { results := [.lit (.bool true)], args := [d1, d2] }
  | _ => none }
def keepOneRow : OpenClaim := { program := "ytagjlmpmbflmhaadoor", sum := "ffeedaa4bcfa4a4de74064b36ce0d1084914b572dd3cb0d15338d943cf40c1bf", func := "relayhouse/relayhouselaw10.KeepOne", spec := "keepOne", inPlace := ["internal/bytealg.IndexByteString", "internal/bytealg.IndexString", "internal/bytealg.CountString"], unfollowed := true, recurses := true, named := ["unicode/utf8.first", "unicode/utf8.acceptRanges", "internal/bytealg.MaxLen"], apart := false, laid := [("unicode/utf8.acceptRanges", laid_unicode_utf8_acceptRanges), ("unicode/utf8.first", laid_unicode_utf8_first)] }
def KeepOneSaid : Prop := keepOneRow.holds Tryd.pinned (OpenSpec.ofChange keepOneSpec)

/-- ITS FALSE NEIGHBOUR: 'it returns false'. Refute it at one input. -/
def keepOneWrong : ChangeSpec := { name := "keepOne", fn := fun _ => fun
  | [d1, d2] => { results := [.lit (.bool false)], args := [d1, d2] }
  | _ => none }
def KeepOneWrongFalsely : Prop := keepOneRow.holds Tryd.pinned (OpenSpec.ofChange keepOneWrong)

/-- 'relayhouselaw10.KeepPlays': WHATEVER THE INPUT: true; the input reads as it did. -/
def keepPlaysSpec : ChangeSpec := { name := "keepPlays", fn := fun _ => fun
  | [d] => { results := [.lit (.bool true)], args := [d] }
  | _ => none }
def keepPlaysRow : OpenClaim := { program := "ytagjlmpmbflmhaadoor", sum := "ffeedaa4bcfa4a4de74064b36ce0d1084914b572dd3cb0d15338d943cf40c1bf", func := "relayhouse/relayhouselaw10.KeepPlays", spec := "keepPlays", inPlace := ["internal/bytealg.IndexByteString", "internal/bytealg.IndexString", "internal/bytealg.CountString"], unfollowed := true, recurses := true, named := ["unicode/utf8.first", "unicode/utf8.acceptRanges", "internal/bytealg.MaxLen"], apart := false, laid := [("unicode/utf8.acceptRanges", laid_unicode_utf8_acceptRanges), ("unicode/utf8.first", laid_unicode_utf8_first)] }
def KeepPlaysSaid : Prop := keepPlaysRow.holds Tryd.pinned (OpenSpec.ofChange keepPlaysSpec)

/-- ITS FALSE NEIGHBOUR: 'it returns false'. Refute it at one input. -/
def keepPlaysWrong : ChangeSpec := { name := "keepPlays", fn := fun _ => fun
  | [d] => { results := [.lit (.bool false)], args := [d] }
  | _ => none }
def KeepPlaysWrongFalsely : Prop := keepPlaysRow.holds Tryd.pinned (OpenSpec.ofChange keepPlaysWrong)

/-- 'relayhouselaw10.KeepKnown': WHATEVER THE INPUT: true; the input reads as it did. -/
def keepKnownSpec : ChangeSpec := { name := "keepKnown", fn := fun _ => fun
  | [] => { results := [.lit (.bool true)], args := [] }
  | _ => none }
def keepKnownRow : OpenClaim := { program := "ytagjlmpmbflmhaadoor", sum := "ffeedaa4bcfa4a4de74064b36ce0d1084914b572dd3cb0d15338d943cf40c1bf", func := "relayhouse/relayhouselaw10.KeepKnown", spec := "keepKnown", inPlace := ["internal/bytealg.IndexByteString", "internal/bytealg.IndexString", "internal/bytealg.CountString"], unfollowed := true, recurses := true, named := ["unicode/utf8.first", "unicode/utf8.acceptRanges", "internal/bytealg.MaxLen"], apart := false, laid := [("unicode/utf8.acceptRanges", laid_unicode_utf8_acceptRanges), ("unicode/utf8.first", laid_unicode_utf8_first)] }
def KeepKnownSaid : Prop := keepKnownRow.holds Tryd.pinned (OpenSpec.ofChange keepKnownSpec)

/-- ITS FALSE NEIGHBOUR: 'it returns false'. Refute it at one input. -/
def keepKnownWrong : ChangeSpec := { name := "keepKnown", fn := fun _ => fun
  | [] => { results := [.lit (.bool false)], args := [] }
  | _ => none }
def KeepKnownWrongFalsely : Prop := keepKnownRow.holds Tryd.pinned (OpenSpec.ofChange keepKnownWrong)

/-- 'relayhouselaw10.KeepLast': WHATEVER THE INPUT: true; the input reads as it did. -/
def keepLastSpec : ChangeSpec := { name := "keepLast", fn := fun _ => fun
  | [d] => { results := [.lit (.bool true)], args := [d] }
  | _ => none }
def keepLastRow : OpenClaim := { program := "ytagjlmpmbflmhaadoor", sum := "ffeedaa4bcfa4a4de74064b36ce0d1084914b572dd3cb0d15338d943cf40c1bf", func := "relayhouse/relayhouselaw10.KeepLast", spec := "keepLast", inPlace := ["internal/bytealg.IndexByteString", "internal/bytealg.IndexString", "internal/bytealg.CountString"], unfollowed := true, recurses := true, named := ["unicode/utf8.first", "unicode/utf8.acceptRanges", "internal/bytealg.MaxLen"], apart := false, laid := [("unicode/utf8.acceptRanges", laid_unicode_utf8_acceptRanges), ("unicode/utf8.first", laid_unicode_utf8_first)] }
def KeepLastSaid : Prop := keepLastRow.holds Tryd.pinned (OpenSpec.ofChange keepLastSpec)

/-- ITS FALSE NEIGHBOUR: 'it returns false'. Refute it at one input. -/
def keepLastWrong : ChangeSpec := { name := "keepLast", fn := fun _ => fun
  | [d] => { results := [.lit (.bool false)], args := [d] }
  | _ => none }
def KeepLastWrongFalsely : Prop := keepLastRow.holds Tryd.pinned (OpenSpec.ofChange keepLastWrong)

/- THE SECOND FORM. 'bulk': how many values and letters a reading holds, each counted each time it is reached (what is shared counts as often as it is met; a slice's spare places count too). A statement '..UptoSaid' is the law's where the arguments, and the package variables that the reading takes, are together of bulk at most 1048576: NARROWER than '..Said'. Prove '..Said' where nothing that the law and all that it calls make is longer than what came in: it says more and counts as full. Else prove '..UptoSaid'. A law counts once. -/
mutual
def uptoBulk {H : Type} : DataW H → Nat
  | .lit (.string bytes) => bytes.length + 1
  | .lit _ => 1
  | .nil => 1
  | .ptr d => uptoBulk d + 1
  | .slice elems spare => uptoBulkAll elems + uptoBulkAll spare + 1
  | .agg parts => uptoBulkAll parts + 1
  | .iface _ d => uptoBulk d + 1
  | .map entries => uptoBulkEntries entries + 1
  | .held _ => 1
def uptoBulkAll {H : Type} : List (DataW H) → Nat
  | [] => 0
  | d :: r => uptoBulk d + uptoBulkAll r
def uptoBulkEntries {H : Type} : List (Lit × DataW H) → Nat
  | [] => 0
  | x :: r => uptoBulkEntry x + uptoBulkEntries r
def uptoBulkEntry {H : Type} : Lit × DataW H → Nat
  | (.string bytes, d) => bytes.length + uptoBulk d + 1
  | (_, d) => uptoBulk d + 1
 end
def uptoSmall : (H : Type) → List (DataW H) → Bool := fun _ ds => decide (uptoBulkAll ds ≤ 1048576)
def OpenSpec.upto (s : _root_.Go.ChangeSpec) : _root_.Go.OpenSpec := { _root_.Go.OpenSpec.ofChange s with cond := some uptoSmall }

/-- 'relayhouselaw10.KeepFinds', WHERE WHAT IT READS IS OF BULK AT MOST 1048576: true; the input reads as it did. -/
def keepFindsUptoRow : OpenClaim := { program := "ytagjlmpmbflmhaadoor", sum := "ffeedaa4bcfa4a4de74064b36ce0d1084914b572dd3cb0d15338d943cf40c1bf", func := "relayhouse/relayhouselaw10.KeepFinds", spec := "keepFinds", inPlace := ["internal/bytealg.IndexByteString", "internal/bytealg.IndexString", "internal/bytealg.CountString"], unfollowed := true, recurses := true, named := ["unicode/utf8.first", "unicode/utf8.acceptRanges", "internal/bytealg.MaxLen"], apart := false, laid := [("unicode/utf8.acceptRanges", laid_unicode_utf8_acceptRanges), ("unicode/utf8.first", laid_unicode_utf8_first)], narrowed := true }
def KeepFindsUptoSaid : Prop := keepFindsUptoRow.holds Tryd.pinned (OpenSpec.upto keepFindsSpec)

/-- 'relayhouselaw10.KeepCovers', WHERE WHAT IT READS IS OF BULK AT MOST 1048576: true; the input reads as it did. -/
def keepCoversUptoRow : OpenClaim := { program := "ytagjlmpmbflmhaadoor", sum := "ffeedaa4bcfa4a4de74064b36ce0d1084914b572dd3cb0d15338d943cf40c1bf", func := "relayhouse/relayhouselaw10.KeepCovers", spec := "keepCovers", inPlace := ["internal/bytealg.IndexByteString", "internal/bytealg.IndexString", "internal/bytealg.CountString"], unfollowed := true, recurses := true, named := ["unicode/utf8.first", "unicode/utf8.acceptRanges", "internal/bytealg.MaxLen"], apart := false, laid := [("unicode/utf8.acceptRanges", laid_unicode_utf8_acceptRanges), ("unicode/utf8.first", laid_unicode_utf8_first)], narrowed := true }
def KeepCoversUptoSaid : Prop := keepCoversUptoRow.holds Tryd.pinned (OpenSpec.upto keepCoversSpec)

/-- 'relayhouselaw10.KeepOne', WHERE WHAT IT READS IS OF BULK AT MOST 1048576: true; the input reads as it did. -/
def keepOneUptoRow : OpenClaim := { program := "ytagjlmpmbflmhaadoor", sum := "ffeedaa4bcfa4a4de74064b36ce0d1084914b572dd3cb0d15338d943cf40c1bf", func := "relayhouse/relayhouselaw10.KeepOne", spec := "keepOne", inPlace := ["internal/bytealg.IndexByteString", "internal/bytealg.IndexString", "internal/bytealg.CountString"], unfollowed := true, recurses := true, named := ["unicode/utf8.first", "unicode/utf8.acceptRanges", "internal/bytealg.MaxLen"], apart := false, laid := [("unicode/utf8.acceptRanges", laid_unicode_utf8_acceptRanges), ("unicode/utf8.first", laid_unicode_utf8_first)], narrowed := true }
def KeepOneUptoSaid : Prop := keepOneUptoRow.holds Tryd.pinned (OpenSpec.upto keepOneSpec)

/-- 'relayhouselaw10.KeepPlays', WHERE WHAT IT READS IS OF BULK AT MOST 1048576: true; the input reads as it did. -/
def keepPlaysUptoRow : OpenClaim := { program := "ytagjlmpmbflmhaadoor", sum := "ffeedaa4bcfa4a4de74064b36ce0d1084914b572dd3cb0d15338d943cf40c1bf", func := "relayhouse/relayhouselaw10.KeepPlays", spec := "keepPlays", inPlace := ["internal/bytealg.IndexByteString", "internal/bytealg.IndexString", "internal/bytealg.CountString"], unfollowed := true, recurses := true, named := ["unicode/utf8.first", "unicode/utf8.acceptRanges", "internal/bytealg.MaxLen"], apart := false, laid := [("unicode/utf8.acceptRanges", laid_unicode_utf8_acceptRanges), ("unicode/utf8.first", laid_unicode_utf8_first)], narrowed := true }
def KeepPlaysUptoSaid : Prop := keepPlaysUptoRow.holds Tryd.pinned (OpenSpec.upto keepPlaysSpec)

/-- 'relayhouselaw10.KeepKnown', WHERE WHAT IT READS IS OF BULK AT MOST 1048576: true; the input reads as it did. -/
def keepKnownUptoRow : OpenClaim := { program := "ytagjlmpmbflmhaadoor", sum := "ffeedaa4bcfa4a4de74064b36ce0d1084914b572dd3cb0d15338d943cf40c1bf", func := "relayhouse/relayhouselaw10.KeepKnown", spec := "keepKnown", inPlace := ["internal/bytealg.IndexByteString", "internal/bytealg.IndexString", "internal/bytealg.CountString"], unfollowed := true, recurses := true, named := ["unicode/utf8.first", "unicode/utf8.acceptRanges", "internal/bytealg.MaxLen"], apart := false, laid := [("unicode/utf8.acceptRanges", laid_unicode_utf8_acceptRanges), ("unicode/utf8.first", laid_unicode_utf8_first)], narrowed := true }
def KeepKnownUptoSaid : Prop := keepKnownUptoRow.holds Tryd.pinned (OpenSpec.upto keepKnownSpec)

/-- 'relayhouselaw10.KeepLast', WHERE WHAT IT READS IS OF BULK AT MOST 1048576: true; the input reads as it did. -/
def keepLastUptoRow : OpenClaim := { program := "ytagjlmpmbflmhaadoor", sum := "ffeedaa4bcfa4a4de74064b36ce0d1084914b572dd3cb0d15338d943cf40c1bf", func := "relayhouse/relayhouselaw10.KeepLast", spec := "keepLast", inPlace := ["internal/bytealg.IndexByteString", "internal/bytealg.IndexString", "internal/bytealg.CountString"], unfollowed := true, recurses := true, named := ["unicode/utf8.first", "unicode/utf8.acceptRanges", "internal/bytealg.MaxLen"], apart := false, laid := [("unicode/utf8.acceptRanges", laid_unicode_utf8_acceptRanges), ("unicode/utf8.first", laid_unicode_utf8_first)], narrowed := true }
def KeepLastUptoSaid : Prop := keepLastUptoRow.holds Tryd.pinned (OpenSpec.upto keepLastSpec)

end Rows
end Go.Proofs.YtagjlmpmbflmhaaDoor
