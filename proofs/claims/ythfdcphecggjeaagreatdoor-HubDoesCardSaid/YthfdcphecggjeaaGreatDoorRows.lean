/-
  NARROWER THAN 'FOR EVERY INPUT', by the rows' own cells (each row's printed sentence says how): HubRoutes: laid · HubKnown: laid · HubHas: laid · HubDoes: laid · HubAtOnce: laid · HubKeeps: laid.
  DERIVED. THE GIVEN ROWS OF THIS SEAT. 6 by the template 'for every input the law returns true; each argument reads behind the call as it read before'; 0 by the template 'total and deterministic' (their statements: YthfdcphecggjeaaGreatDoorTotals.lean).
  GIVEN WITH THE SEED: the statements are not yours to turn. If you find one false, say at which input.
  Laid BY PROGRAM, IN A SANDBOX (cutbox-rows.mjs): the forced cells as the released guide's own fill.sh prints them over the translation 6103301524d164d8… (all of the seat's roots in one cut). By AI agents, Wed Nov 11 2026. No macro, syntax, notation, axiom, sorry.
-/
import Derived.Test.YthfdcphecggjeaaGreatDoorChecked
import GoSem.PinnedTables
import GoSem.Claim
import GoSem.ClaimJoined
import GoSem.ClaimMapViews
import Derived.JoinedTies
import Derived.KernelRfl
namespace Go.Proofs.YthfdcphecggjeaaGreatDoor
/- THE CELL 'sum', in the pinned program and in every row, IS THE sha256 OF THE DUMP (.gsa) THAT YthfdcphecggjeaaGreatDoorProg.lean LOADS. Nothing in Lean hashes anything: it is a label: what it is worth is what the hold of that sum in a sandbox is worth. -/
noncomputable def Tryz.pinned : Pinned := { name := "ythfdcphecggjeaagreatdoor", sum := "6103301524d164d896271e3c2d71cb3086c674fb61d10d0acf2ccbf266f3029a", checked := Tryz.checked }
namespace Rows
def none {H : Type} : Left H := { results := [], args := [] }

/- WHAT THE LISTED PACKAGE-LEVEL VARIABLES READ AS WHEN THE CALL BEGINS. Each datum BY PROGRAM (the guide's laid-datum.mjs) off the statement by which the dump's own 'gosem.cut.vars' lays the variable. In a bare row this is a premise. The card (YthfdcphecggjeaaGreatDoorCards.lean) ties it to the program's text. -/
def laid_unicode_utf8_acceptRanges {H : Type} : DataW H := .agg [.agg [.lit (.int .u8 128), .lit (.int .u8 191)], .agg [.lit (.int .u8 160), .lit (.int .u8 191)], .agg [.lit (.int .u8 128), .lit (.int .u8 159)], .agg [.lit (.int .u8 144), .lit (.int .u8 191)], .agg [.lit (.int .u8 128), .lit (.int .u8 143)], .agg [.lit (.int .u8 0), .lit (.int .u8 0)], .agg [.lit (.int .u8 0), .lit (.int .u8 0)], .agg [.lit (.int .u8 0), .lit (.int .u8 0)], .agg [.lit (.int .u8 0), .lit (.int .u8 0)], .agg [.lit (.int .u8 0), .lit (.int .u8 0)], .agg [.lit (.int .u8 0), .lit (.int .u8 0)], .agg [.lit (.int .u8 0), .lit (.int .u8 0)], .agg [.lit (.int .u8 0), .lit (.int .u8 0)], .agg [.lit (.int .u8 0), .lit (.int .u8 0)], .agg [.lit (.int .u8 0), .lit (.int .u8 0)], .agg [.lit (.int .u8 0), .lit (.int .u8 0)]]
/-- One of Go's own tables, pinned by name: the form's constant. -/
def laid_unicode_utf8_first : DataW Unit := Go.Pinned.utf8First

/-- 'relayhouselaw19.HubRoutes': WHATEVER THE INPUT: true; the input reads as it did. -/
def hubRoutesSpec : ChangeSpec := { name := "hubRoutes", fn := fun _ => fun
  | [d1, d2, d3] => { results := [.lit (.bool true)], args := [d1, d2, d3] }
  | _ => none }
def hubRoutesRow : OpenClaim := { program := "ythfdcphecggjeaagreatdoor", sum := "6103301524d164d896271e3c2d71cb3086c674fb61d10d0acf2ccbf266f3029a", func := "relayhouse/relayhouselaw19.HubRoutes", spec := "hubRoutes", inPlace := ["internal/bytealg.CountString", "internal/bytealg.IndexByteString", "internal/bytealg.IndexString", "internal/abi.NoEscape", "internal/bytealg.MakeNoZero"], unfollowed := true, recurses := true, named := ["unicode/utf8.first", "unicode/utf8.acceptRanges", "internal/bytealg.MaxLen"], apart := false, laid := [("unicode/utf8.acceptRanges", laid_unicode_utf8_acceptRanges), ("unicode/utf8.first", laid_unicode_utf8_first)] }
def HubRoutesSaid : Prop := hubRoutesRow.holds Tryz.pinned (OpenSpec.ofChange hubRoutesSpec)

/-- ITS FALSE NEIGHBOUR: 'it returns false'. Refute it at one input. -/
def hubRoutesWrong : ChangeSpec := { name := "hubRoutes", fn := fun _ => fun
  | [d1, d2, d3] => { results := [.lit (.bool false)], args := [d1, d2, d3] }
  | _ => none }
def HubRoutesWrongFalsely : Prop := hubRoutesRow.holds Tryz.pinned (OpenSpec.ofChange hubRoutesWrong)

/-- 'relayhouselaw19.HubKnown': WHATEVER THE INPUT: true; the input reads as it did. -/
def hubKnownSpec : ChangeSpec := { name := "hubKnown", fn := fun _ => fun
  | [] => { results := [.lit (.bool true)], args := [] }
  | _ => none }
def hubKnownRow : OpenClaim := { program := "ythfdcphecggjeaagreatdoor", sum := "6103301524d164d896271e3c2d71cb3086c674fb61d10d0acf2ccbf266f3029a", func := "relayhouse/relayhouselaw19.HubKnown", spec := "hubKnown", inPlace := ["internal/bytealg.CountString", "internal/bytealg.IndexByteString", "internal/bytealg.IndexString", "internal/abi.NoEscape", "internal/bytealg.MakeNoZero"], unfollowed := true, recurses := true, named := ["unicode/utf8.first", "unicode/utf8.acceptRanges", "internal/bytealg.MaxLen"], apart := false, laid := [("unicode/utf8.acceptRanges", laid_unicode_utf8_acceptRanges), ("unicode/utf8.first", laid_unicode_utf8_first)] }
def HubKnownSaid : Prop := hubKnownRow.holds Tryz.pinned (OpenSpec.ofChange hubKnownSpec)

/-- ITS FALSE NEIGHBOUR: 'it returns false'. Refute it at one input. -/
def hubKnownWrong : ChangeSpec := { name := "hubKnown", fn := fun _ => fun
  | [] => { results := [.lit (.bool false)], args := [] }
  | _ => none }
def HubKnownWrongFalsely : Prop := hubKnownRow.holds Tryz.pinned (OpenSpec.ofChange hubKnownWrong)

/-- 'relayhouselaw19.HubHas': WHATEVER THE INPUT: true; the input reads as it did. -/
def hubHasSpec : ChangeSpec := { name := "hubHas", fn := fun _ => fun
  | [d1, d2, d3, d4, d5] => { results := [.lit (.bool true)], args := [d1, d2, d3, d4, d5] }
  | _ => none }
def hubHasRow : OpenClaim := { program := "ythfdcphecggjeaagreatdoor", sum := "6103301524d164d896271e3c2d71cb3086c674fb61d10d0acf2ccbf266f3029a", func := "relayhouse/relayhouselaw19.HubHas", spec := "hubHas", inPlace := ["internal/bytealg.CountString", "internal/bytealg.IndexByteString", "internal/bytealg.IndexString", "internal/abi.NoEscape", "internal/bytealg.MakeNoZero"], unfollowed := true, recurses := true, named := ["unicode/utf8.first", "unicode/utf8.acceptRanges", "internal/bytealg.MaxLen"], apart := false, laid := [("unicode/utf8.acceptRanges", laid_unicode_utf8_acceptRanges), ("unicode/utf8.first", laid_unicode_utf8_first)] }
def HubHasSaid : Prop := hubHasRow.holds Tryz.pinned (OpenSpec.ofChange hubHasSpec)

/-- ITS FALSE NEIGHBOUR: 'it returns false'. Refute it at one input. -/
def hubHasWrong : ChangeSpec := { name := "hubHas", fn := fun _ => fun
  | [d1, d2, d3, d4, d5] => { results := [.lit (.bool false)], args := [d1, d2, d3, d4, d5] }
  | _ => none }
def HubHasWrongFalsely : Prop := hubHasRow.holds Tryz.pinned (OpenSpec.ofChange hubHasWrong)

/-- 'relayhouselaw19.HubDoes': WHATEVER THE INPUT: true; the input reads as it did. -/
def hubDoesSpec : ChangeSpec := { name := "hubDoes", fn := fun _ => fun
  | [d1, d2] => { results := [.lit (.bool true)], args := [d1, d2] }
  | _ => none }
def hubDoesRow : OpenClaim := { program := "ythfdcphecggjeaagreatdoor", sum := "6103301524d164d896271e3c2d71cb3086c674fb61d10d0acf2ccbf266f3029a", func := "relayhouse/relayhouselaw19.HubDoes", spec := "hubDoes", inPlace := ["internal/bytealg.CountString", "internal/bytealg.IndexByteString", "internal/bytealg.IndexString", "internal/abi.NoEscape", "internal/bytealg.MakeNoZero"], unfollowed := true, recurses := true, named := ["unicode/utf8.first", "unicode/utf8.acceptRanges", "internal/bytealg.MaxLen"], apart := false, laid := [("unicode/utf8.acceptRanges", laid_unicode_utf8_acceptRanges), ("unicode/utf8.first", laid_unicode_utf8_first)] }
def HubDoesSaid : Prop := hubDoesRow.holds Tryz.pinned (OpenSpec.ofChange hubDoesSpec)

/-- ITS FALSE NEIGHBOUR: 'it returns false'. Refute it at one input. -/
def hubDoesWrong : ChangeSpec := { name := "hubDoes", fn := fun _ => fun
  | [d1, d2] => { results := [.lit (.bool false)], args := [d1, d2] }
  | _ => none }
def HubDoesWrongFalsely : Prop := hubDoesRow.holds Tryz.pinned (OpenSpec.ofChange hubDoesWrong)

/-- 'relayhouselaw19.HubAtOnce': WHATEVER THE INPUT: true; the input reads as it did. -/
def hubAtOnceSpec : ChangeSpec := { name := "hubAtOnce", fn := fun _ => fun
  | [d1, d2] => { results := [.lit (.bool true)], args := [d1, d2] }
  | _ => none }
def hubAtOnceRow : OpenClaim := { program := "ythfdcphecggjeaagreatdoor", sum := "6103301524d164d896271e3c2d71cb3086c674fb61d10d0acf2ccbf266f3029a", func := "relayhouse/relayhouselaw19.HubAtOnce", spec := "hubAtOnce", inPlace := ["internal/bytealg.CountString", "internal/bytealg.IndexByteString", "internal/bytealg.IndexString", "internal/abi.NoEscape", "internal/bytealg.MakeNoZero"], unfollowed := true, recurses := true, named := ["unicode/utf8.first", "unicode/utf8.acceptRanges", "internal/bytealg.MaxLen"], apart := false, laid := [("unicode/utf8.acceptRanges", laid_unicode_utf8_acceptRanges), ("unicode/utf8.first", laid_unicode_utf8_first)] }
def HubAtOnceSaid : Prop := hubAtOnceRow.holds Tryz.pinned (OpenSpec.ofChange hubAtOnceSpec)

/-- ITS FALSE NEIGHBOUR: 'it returns false'. Refute it at one input. -/
def hubAtOnceWrong : ChangeSpec := { name := "hubAtOnce", fn := fun _ => fun
  | [d1, d2] => { results := [.lit (.bool false)], args := [d1, d2] }
  | _ => none }
def HubAtOnceWrongFalsely : Prop := hubAtOnceRow.holds Tryz.pinned (OpenSpec.ofChange hubAtOnceWrong)

/-- 'relayhouselaw19.HubKeeps': WHATEVER THE INPUT: true; the input reads as it did. -/
def hubKeepsSpec : ChangeSpec := { name := "hubKeeps", fn := fun _ => fun
  | [d1, d2] => { results := [.lit (.bool true)], args := [d1, d2] }
  | _ => none }
def hubKeepsRow : OpenClaim := { program := "ythfdcphecggjeaagreatdoor", sum := "6103301524d164d896271e3c2d71cb3086c674fb61d10d0acf2ccbf266f3029a", func := "relayhouse/relayhouselaw19.HubKeeps", spec := "hubKeeps", inPlace := ["internal/bytealg.CountString", "internal/bytealg.IndexByteString", "internal/bytealg.IndexString", "internal/abi.NoEscape", "internal/bytealg.MakeNoZero"], unfollowed := true, recurses := true, named := ["unicode/utf8.first", "unicode/utf8.acceptRanges", "internal/bytealg.MaxLen"], apart := false, laid := [("unicode/utf8.acceptRanges", laid_unicode_utf8_acceptRanges), ("unicode/utf8.first", laid_unicode_utf8_first)] }
def HubKeepsSaid : Prop := hubKeepsRow.holds Tryz.pinned (OpenSpec.ofChange hubKeepsSpec)

/-- ITS FALSE NEIGHBOUR: 'it returns false'. Refute it at one input. -/
def hubKeepsWrong : ChangeSpec := { name := "hubKeeps", fn := fun _ => fun
  | [d1, d2] => { results := [.lit (.bool false)], args := [d1, d2] }
  | _ => none }
def HubKeepsWrongFalsely : Prop := hubKeepsRow.holds Tryz.pinned (OpenSpec.ofChange hubKeepsWrong)

/- THE SECOND FORM. 'bulk': how many values and letters a reading holds, each counted each time it is reached (what is shared counts as often as it is met; a slice's spare places count too). A statement '..UptoSaid' is the law's where the arguments, and the package variables that the reading takes, are together of bulk at most 1048576: NARROWER than '..Said'. Prove '..Said' where nothing that the law and all that it calls make is longer than what came in: it says more and counts as full. Else prove '..UptoSaid'. A law counts once. -/
mutual
def uptoBulk {H : Type} : DataW H → Nat
  | .lit (.string bytes) => bytes.length + 1
  | .lit _ => 1
  | .nil => 1
  | .ptr d => uptoBulk d + 1
  | .slice elems spare => uptoBulkAll elems + uptoBulkAll spare + 1
  | .agg parts => uptoBulkAll parts + 1
  | .iface _ d => uptoBulk d + 1
  | .map entries => uptoBulkEntries entries + 1
  | .held _ => 1
def uptoBulkAll {H : Type} : List (DataW H) → Nat
  | [] => 0
  | d :: r => uptoBulk d + uptoBulkAll r
def uptoBulkEntries {H : Type} : List (Lit × DataW H) → Nat
  | [] => 0
  | x :: r => uptoBulkEntry x + uptoBulkEntries r
def uptoBulkEntry {H : Type} : Lit × DataW H → Nat
  | (.string bytes, d) => bytes.length + uptoBulk d + 1
  | (_, d) => uptoBulk d + 1
 end
def uptoSmall : (H : Type) → List (DataW H) → Bool := fun _ ds => decide (uptoBulkAll ds ≤ 1048576)
def OpenSpec.upto (s : _root_.Go.ChangeSpec) : _root_.Go.OpenSpec := { _root_.Go.OpenSpec.ofChange s with cond := some uptoSmall }

/-- 'relayhouselaw19.HubRoutes', WHERE WHAT IT READS IS OF BULK AT MOST 1048576: true; the input reads as it did. -/
def hubRoutesUptoRow : OpenClaim := { program := "ythfdcphecggjeaagreatdoor", sum := "6103301524d164d896271e3c2d71cb3086c674fb61d10d0acf2ccbf266f3029a", func := "relayhouse/relayhouselaw19.HubRoutes", spec := "hubRoutes", inPlace := ["internal/bytealg.CountString", "internal/bytealg.IndexByteString", "internal/bytealg.IndexString", "internal/abi.NoEscape", "internal/bytealg.MakeNoZero"], unfollowed := true, recurses := true, named := ["unicode/utf8.first", "unicode/utf8.acceptRanges", "internal/bytealg.MaxLen"], apart := false, laid := [("unicode/utf8.acceptRanges", laid_unicode_utf8_acceptRanges), ("unicode/utf8.first", laid_unicode_utf8_first)], narrowed := true }
def HubRoutesUptoSaid : Prop := hubRoutesUptoRow.holds Tryz.pinned (OpenSpec.upto hubRoutesSpec)

/-- 'relayhouselaw19.HubKnown', WHERE WHAT IT READS IS OF BULK AT MOST 1048576: true; the input reads as it did. -/
def hubKnownUptoRow : OpenClaim := { program := "ythfdcphecggjeaagreatdoor", sum := "6103301524d164d896271e3c2d71cb3086c674fb61d10d0acf2ccbf266f3029a", func := "relayhouse/relayhouselaw19.HubKnown", spec := "hubKnown", inPlace := ["internal/bytealg.CountString", "internal/bytealg.IndexByteString", "internal/bytealg.IndexString", "internal/abi.NoEscape", "internal/bytealg.MakeNoZero"], unfollowed := true, recurses := true, named := ["unicode/utf8.first", "unicode/utf8.acceptRanges", "internal/bytealg.MaxLen"], apart := false, laid := [("unicode/utf8.acceptRanges", laid_unicode_utf8_acceptRanges), ("unicode/utf8.first", laid_unicode_utf8_first)], narrowed := true }
def HubKnownUptoSaid : Prop := hubKnownUptoRow.holds Tryz.pinned (OpenSpec.upto hubKnownSpec)

/-- 'relayhouselaw19.HubHas', WHERE WHAT IT READS IS OF BULK AT MOST 1048576: true; the input reads as it did. -/
def hubHasUptoRow : OpenClaim := { program := "ythfdcphecggjeaagreatdoor", sum := "6103301524d164d896271e3c2d71cb3086c674fb61d10d0acf2ccbf266f3029a", func := "relayhouse/relayhouselaw19.HubHas", spec := "hubHas", inPlace := ["internal/bytealg.CountString", "internal/bytealg.IndexByteString", "internal/bytealg.IndexString", "internal/abi.NoEscape", "internal/bytealg.MakeNoZero"], unfollowed := true, recurses := true, named := ["unicode/utf8.first", "unicode/utf8.acceptRanges", "internal/bytealg.MaxLen"], apart := false, laid := [("unicode/utf8.acceptRanges", laid_unicode_utf8_acceptRanges), ("unicode/utf8.first", laid_unicode_utf8_first)], narrowed := true }
def HubHasUptoSaid : Prop := hubHasUptoRow.holds Tryz.pinned (OpenSpec.upto hubHasSpec)

/-- 'relayhouselaw19.HubDoes', WHERE WHAT IT READS IS OF BULK AT MOST 1048576: true; the input reads as it did. -/
def hubDoesUptoRow : OpenClaim := { program := "ythfdcphecggjeaagreatdoor", sum := "6103301524d164d896271e3c2d71cb3086c674fb61d10d0acf2ccbf266f3029a", func := "relayhouse/relayhouselaw19.HubDoes", spec := "hubDoes", inPlace := ["internal/bytealg.CountString", "internal/bytealg.IndexByteString", "internal/bytealg.IndexString", "internal/abi.NoEscape", "internal/bytealg.MakeNoZero"], unfollowed := true, recurses := true, named := ["unicode/utf8.first", "unicode/utf8.acceptRanges", "internal/bytealg.MaxLen"], apart := false, laid := [("unicode/utf8.acceptRanges", laid_unicode_utf8_acceptRanges), ("unicode/utf8.first", laid_unicode_utf8_first)], narrowed := true }
def HubDoesUptoSaid : Prop := hubDoesUptoRow.holds Tryz.pinned (OpenSpec.upto hubDoesSpec)

/-- 'relayhouselaw19.HubAtOnce', WHERE WHAT IT READS IS OF BULK AT MOST 1048576: true; the input reads as it did. -/
def hubAtOnceUptoRow : OpenClaim := { program := "ythfdcphecggjeaagreatdoor", sum := "6103301524d164d896271e3c2d71cb3086c674fb61d10d0acf2ccbf266f3029a", func := "relayhouse/relayhouselaw19.HubAtOnce", spec := "hubAtOnce", inPlace := ["internal/bytealg.CountString", "internal/bytealg.IndexByteString", "internal/bytealg.IndexString", "internal/abi.NoEscape", "internal/bytealg.MakeNoZero"], unfollowed := true, recurses := true, named := ["unicode/utf8.first", "unicode/utf8.acceptRanges", "internal/bytealg.MaxLen"], apart := false, laid := [("unicode/utf8.acceptRanges", laid_unicode_utf8_acceptRanges), ("unicode/utf8.first", laid_unicode_utf8_first)], narrowed := true }
def HubAtOnceUptoSaid : Prop := hubAtOnceUptoRow.holds Tryz.pinned (OpenSpec.upto hubAtOnceSpec)

/-- 'relayhouselaw19.HubKeeps', WHERE WHAT IT READS IS OF BULK AT MOST 1048576: true; the input reads as it did. -/
def hubKeepsUptoRow : OpenClaim := { program := "ythfdcphecggjeaagreatdoor", sum := "6103301524d164d896271e3c2d71cb3086c674fb61d10d0acf2ccbf266f3029a", func := "relayhouse/relayhouselaw19.HubKeeps", spec := "hubKeeps", inPlace := ["internal/bytealg.CountString", "internal/bytealg.IndexByteString", "internal/bytealg.IndexString", "internal/abi.NoEscape", "internal/bytealg.MakeNoZero"], unfollowed := true, recurses := true, named := ["unicode/utf8.first", "unicode/utf8.acceptRanges", "internal/bytealg.MaxLen"], apart := false, laid := [("unicode/utf8.acceptRanges", laid_unicode_utf8_acceptRanges), ("unicode/utf8.first", laid_unicode_utf8_first)], narrowed := true }
def HubKeepsUptoSaid : Prop := hubKeepsUptoRow.holds Tryz.pinned (OpenSpec.upto hubKeepsSpec)

end Rows
end Go.Proofs.YthfdcphecggjeaaGreatDoor
