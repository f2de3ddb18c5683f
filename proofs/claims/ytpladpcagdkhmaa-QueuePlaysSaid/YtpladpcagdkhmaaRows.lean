/-
  No cell of these rows narrows 'for every input' (looked for: loops, veiled, ifaces, maps, wideKeys, modest, calm, conditions, laid).
  DERIVED. THE GIVEN ROWS OF THIS SEAT. 5 by the template 'for every input the law returns true; each argument reads behind the call as it read before'; 0 by the template 'total and deterministic' (their statements: YtpladpcagdkhmaaTotals.lean).
  GIVEN WITH THE SEED: the statements are not yours to turn. If you find one false, say at which input.
  Laid BY PROGRAM, IN A SANDBOX (cutbox-rows.mjs): the forced cells as the released guide's own fill.sh prints them over the translation b0dee6f9785e7543… (all of the seat's roots in one cut). By AI agents, Wed Nov 11 2026. No macro, syntax, notation, axiom, sorry.
-/
import Derived.Test.YtpladpcagdkhmaaChecked
import GoSem.Claim
import GoSem.ClaimJoined
import GoSem.ClaimMapViews
import Derived.JoinedTies
import Derived.KernelRfl
namespace Go.Proofs.Ytpladpcagdkhmaa
/- THE CELL 'sum', in the pinned program and in every row, IS THE sha256 OF THE DUMP (.gsa) THAT YtpladpcagdkhmaaProg.lean LOADS. Nothing in Lean hashes anything: it is a label: what it is worth is what the hold of that sum in a sandbox is worth. -/
noncomputable def Try.pinned : Pinned := { name := "ytpladpcagdkhmaa", sum := "b0dee6f9785e7543d4560da1ee185e29ee72c66fc54c38c45049bdddd2b91c08", checked := Try.checked }
namespace Rows
def none {H : Type} : Left H := { results := [], args := [] }

/-- 'relayhouselaw12.QueueKnown': WHATEVER THE INPUT: true; the input reads as it did. -/
def queueKnownSpec : ChangeSpec := { name := "queueKnown", fn := fun _ => fun
  | [] => { results := [.lit (.bool true)], args := [] }
  | _ => none }
def queueKnownRow : OpenClaim := { program := "ytpladpcagdkhmaa", sum := "b0dee6f9785e7543d4560da1ee185e29ee72c66fc54c38c45049bdddd2b91c08", func := "relayhouse/relayhouselaw12.QueueKnown", spec := "queueKnown", apart := false }
def QueueKnownSaid : Prop := queueKnownRow.holds Try.pinned (OpenSpec.ofChange queueKnownSpec)

/-- ITS FALSE NEIGHBOUR: 'it returns false'. Refute it at one input. -/
def queueKnownWrong : ChangeSpec := { name := "queueKnown", fn := fun _ => fun
  | [] => { results := [.lit (.bool false)], args := [] }
  | _ => none }
def QueueKnownWrongFalsely : Prop := queueKnownRow.holds Try.pinned (OpenSpec.ofChange queueKnownWrong)

/-- 'relayhouselaw12.QueuePlays': WHATEVER THE INPUT: true; the input reads as it did. -/
def queuePlaysSpec : ChangeSpec := { name := "queuePlays", fn := fun _ => fun
  | [d1, d2] => { results := [.lit (.bool true)], args := [d1, d2] }
  | _ => none }
def queuePlaysRow : OpenClaim := { program := "ytpladpcagdkhmaa", sum := "b0dee6f9785e7543d4560da1ee185e29ee72c66fc54c38c45049bdddd2b91c08", func := "relayhouse/relayhouselaw12.QueuePlays", spec := "queuePlays", apart := false }
def QueuePlaysSaid : Prop := queuePlaysRow.holds Try.pinned (OpenSpec.ofChange queuePlaysSpec)

/-- ITS FALSE NEIGHBOUR: 'it returns false'. Refute it at one input. -/
def queuePlaysWrong : ChangeSpec := { name := "queuePlays", fn := fun _ => fun
  | [d1, d2] => { results := [.lit (.bool false)], args := [d1, d2] }
  | _ => none }
def QueuePlaysWrongFalsely : Prop := queuePlaysRow.holds Try.pinned (OpenSpec.ofChange queuePlaysWrong)

/-- 'relayhouselaw12.QueueRow': WHATEVER THE INPUT: true; the input reads as it did. -/
def queueRowSpec : ChangeSpec := { name := "queueRow", fn := fun _ => fun
  | [d1, d2] => { results := [.lit (.bool true)], args := [d1, d2] }
  | _ => none }
def queueRowRow : OpenClaim := { program := "ytpladpcagdkhmaa", sum := "b0dee6f9785e7543d4560da1ee185e29ee72c66fc54c38c45049bdddd2b91c08", func := "relayhouse/relayhouselaw12.QueueRow", spec := "queueRow", apart := false }
def QueueRowSaid : Prop := queueRowRow.holds Try.pinned (OpenSpec.ofChange queueRowSpec)

/-- ITS FALSE NEIGHBOUR: 'it returns false'. Refute it at one input. -/
def queueRowWrong : ChangeSpec := { name := "queueRow", fn := fun _ => fun
  | [d1, d2] => { results := [.lit (.bool false)], args := [d1, d2] }
  | _ => none }
def QueueRowWrongFalsely : Prop := queueRowRow.holds Try.pinned (OpenSpec.ofChange queueRowWrong)

/-- 'relayhouselaw12.QueueSlides': WHATEVER THE INPUT: true; the input reads as it did. -/
def queueSlidesSpec : ChangeSpec := { name := "queueSlides", fn := fun _ => fun
  | [d1, d2, d3] => { results := [.lit (.bool true)], args := [d1, d2, d3] }
  | _ => none }
def queueSlidesRow : OpenClaim := { program := "ytpladpcagdkhmaa", sum := "b0dee6f9785e7543d4560da1ee185e29ee72c66fc54c38c45049bdddd2b91c08", func := "relayhouse/relayhouselaw12.QueueSlides", spec := "queueSlides", apart := false }
def QueueSlidesSaid : Prop := queueSlidesRow.holds Try.pinned (OpenSpec.ofChange queueSlidesSpec)

/-- ITS FALSE NEIGHBOUR: 'it returns false'. Refute it at one input. -/
def queueSlidesWrong : ChangeSpec := { name := "queueSlides", fn := fun _ => fun
  | [d1, d2, d3] => { results := [.lit (.bool false)], args := [d1, d2, d3] }
  | _ => none }
def QueueSlidesWrongFalsely : Prop := queueSlidesRow.holds Try.pinned (OpenSpec.ofChange queueSlidesWrong)

/-- 'relayhouselaw12.QueueApart': WHATEVER THE INPUT: true; the input reads as it did. -/
def queueApartSpec : ChangeSpec := { name := "queueApart", fn := fun _ => fun
  | [d1, d2] => { results := [.lit (.bool true)], args := [d1, d2] }
  | _ => none }
def queueApartRow : OpenClaim := { program := "ytpladpcagdkhmaa", sum := "b0dee6f9785e7543d4560da1ee185e29ee72c66fc54c38c45049bdddd2b91c08", func := "relayhouse/relayhouselaw12.QueueApart", spec := "queueApart", apart := false }
def QueueApartSaid : Prop := queueApartRow.holds Try.pinned (OpenSpec.ofChange queueApartSpec)

/-- ITS FALSE NEIGHBOUR: 'it returns false'. Refute it at one input. -/
def queueApartWrong : ChangeSpec := { name := "queueApart", fn := fun _ => fun
  | [d1, d2] => { results := [.lit (.bool false)], args := [d1, d2] }
  | _ => none }
def QueueApartWrongFalsely : Prop := queueApartRow.holds Try.pinned (OpenSpec.ofChange queueApartWrong)

/- THE SECOND FORM. 'bulk': how many values and letters a reading holds, each counted each time it is reached (what is shared counts as often as it is met; a slice's spare places count too). A statement '..UptoSaid' is the law's where the arguments, and the package variables that the reading takes, are together of bulk at most 1048576: NARROWER than '..Said'. Prove '..Said' where nothing that the law and all that it calls make is longer than what came in: it says more and counts as full. Else prove '..UptoSaid'. A law counts once. -/
mutual
def uptoBulk {H : Type} : DataW H → Nat
  | .lit (.string bytes) => bytes.length + 1
  | .lit _ => 1
  | .nil => 1
  | .ptr d => uptoBulk d + 1
  | .slice elems spare => uptoBulkAll elems + uptoBulkAll spare + 1
  | .agg parts => uptoBulkAll parts + 1
  | .iface _ d => uptoBulk d + 1
  | .map entries => uptoBulkEntries entries + 1
  | .held _ => 1
def uptoBulkAll {H : Type} : List (DataW H) → Nat
  | [] => 0
  | d :: r => uptoBulk d + uptoBulkAll r
def uptoBulkEntries {H : Type} : List (Lit × DataW H) → Nat
  | [] => 0
  | x :: r => uptoBulkEntry x + uptoBulkEntries r
def uptoBulkEntry {H : Type} : Lit × DataW H → Nat
  | (.string bytes, d) => bytes.length + uptoBulk d + 1
  | (_, d) => uptoBulk d + 1
 end
def uptoSmall : (H : Type) → List (DataW H) → Bool := fun _ ds => decide (uptoBulkAll ds ≤ 1048576)
def OpenSpec.upto (s : _root_.Go.ChangeSpec) : _root_.Go.OpenSpec := { _root_.Go.OpenSpec.ofChange s with cond := some uptoSmall }

/-- 'relayhouselaw12.QueueKnown', WHERE WHAT IT READS IS OF BULK AT MOST 1048576: true; the input reads as it did. -/
def queueKnownUptoRow : OpenClaim := { program := "ytpladpcagdkhmaa", sum := "b0dee6f9785e7543d4560da1ee185e29ee72c66fc54c38c45049bdddd2b91c08", func := "relayhouse/relayhouselaw12.QueueKnown", spec := "queueKnown", apart := false, narrowed := true }
def QueueKnownUptoSaid : Prop := queueKnownUptoRow.holds Try.pinned (OpenSpec.upto queueKnownSpec)

/-- 'relayhouselaw12.QueuePlays', WHERE WHAT IT READS IS OF BULK AT MOST 1048576: true; the input reads as it did. -/
def queuePlaysUptoRow : OpenClaim := { program := "ytpladpcagdkhmaa", sum := "b0dee6f9785e7543d4560da1ee185e29ee72c66fc54c38c45049bdddd2b91c08", func := "relayhouse/relayhouselaw12.QueuePlays", spec := "queuePlays", apart := false, narrowed := true }
def QueuePlaysUptoSaid : Prop := queuePlaysUptoRow.holds Try.pinned (OpenSpec.upto queuePlaysSpec)

/-- 'relayhouselaw12.QueueRow', WHERE WHAT IT READS IS OF BULK AT MOST 1048576: true; the input reads as it did. -/
def queueRowUptoRow : OpenClaim := { program := "ytpladpcagdkhmaa", sum := "b0dee6f9785e7543d4560da1ee185e29ee72c66fc54c38c45049bdddd2b91c08", func := "relayhouse/relayhouselaw12.QueueRow", spec := "queueRow", apart := false, narrowed := true }
def QueueRowUptoSaid : Prop := queueRowUptoRow.holds Try.pinned (OpenSpec.upto queueRowSpec)

/-- 'relayhouselaw12.QueueSlides', WHERE WHAT IT READS IS OF BULK AT MOST 1048576: true; the input reads as it did. -/
def queueSlidesUptoRow : OpenClaim := { program := "ytpladpcagdkhmaa", sum := "b0dee6f9785e7543d4560da1ee185e29ee72c66fc54c38c45049bdddd2b91c08", func := "relayhouse/relayhouselaw12.QueueSlides", spec := "queueSlides", apart := false, narrowed := true }
def QueueSlidesUptoSaid : Prop := queueSlidesUptoRow.holds Try.pinned (OpenSpec.upto queueSlidesSpec)

/-- 'relayhouselaw12.QueueApart', WHERE WHAT IT READS IS OF BULK AT MOST 1048576: true; the input reads as it did. -/
def queueApartUptoRow : OpenClaim := { program := "ytpladpcagdkhmaa", sum := "b0dee6f9785e7543d4560da1ee185e29ee72c66fc54c38c45049bdddd2b91c08", func := "relayhouse/relayhouselaw12.QueueApart", spec := "queueApart", apart := false, narrowed := true }
def QueueApartUptoSaid : Prop := queueApartUptoRow.holds Try.pinned (OpenSpec.upto queueApartSpec)

end Rows
end Go.Proofs.Ytpladpcagdkhmaa
