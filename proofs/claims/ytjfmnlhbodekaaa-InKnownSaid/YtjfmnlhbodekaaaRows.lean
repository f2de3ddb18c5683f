/-
  No cell of these rows narrows 'for every input' (looked for: loops, veiled, ifaces, maps, wideKeys, modest, calm, conditions, laid).
  DERIVED. THE GIVEN ROWS OF THIS SEAT. 5 by the template 'for every input the law returns true; each argument reads behind the call as it read before'; 0 by the template 'total and deterministic' (their statements: YtjfmnlhbodekaaaTotals.lean).
  GIVEN WITH THE SEED: the statements are not yours to turn. If you find one false, say at which input.
  Laid BY PROGRAM, IN A SANDBOX (cutbox-rows.mjs): the forced cells as the released guide's own fill.sh prints them over the translation 602daea05350118a… (all of the seat's roots in one cut). By AI agents, Wed Nov 11 2026. No macro, syntax, notation, axiom, sorry.
-/
import Derived.Test.YtjfmnlhbodekaaaChecked
import GoSem.Claim
import GoSem.ClaimJoined
import GoSem.ClaimMapViews
import Derived.JoinedTies
import Derived.KernelRfl
namespace Go.Proofs.Ytjfmnlhbodekaaa
/- THE CELL 'sum', in the pinned program and in every row, IS THE sha256 OF THE DUMP (.gsa) THAT YtjfmnlhbodekaaaProg.lean LOADS. Nothing in Lean hashes anything: it is a label: what it is worth is what the hold of that sum in a sandbox is worth. -/
noncomputable def Try.pinned : Pinned := { name := "ytjfmnlhbodekaaa", sum := "602daea05350118a46b414858466ff095589c2674d60ca03610813f48d6325b3", checked := Try.checked }
namespace Rows
def none {H : Type} : Left H := { results := [], args := [] }

/-- 'relayhouselaw14.InKnown': WHATEVER THE INPUT: true; the input reads as it did. -/
def inKnownSpec : ChangeSpec := { name := "inKnown", fn := fun _ => fun
  | [] => { results := [.lit (.bool true)], args := [] }
  | _ => none }
def inKnownRow : OpenClaim := { program := "ytjfmnlhbodekaaa", sum := "602daea05350118a46b414858466ff095589c2674d60ca03610813f48d6325b3", func := "relayhouse/relayhouselaw14.InKnown", spec := "inKnown", recurses := true, apart := false }
def InKnownSaid : Prop := inKnownRow.holds Try.pinned (OpenSpec.ofChange inKnownSpec)

/-- ITS FALSE NEIGHBOUR: 'it returns false'. Refute it at one input. -/
def inKnownWrong : ChangeSpec := { name := "inKnown", fn := fun _ => fun
  | [] => { results := [.lit (.bool false)], args := [] }
  | _ => none }
def InKnownWrongFalsely : Prop := inKnownRow.holds Try.pinned (OpenSpec.ofChange inKnownWrong)

/-- 'relayhouselaw14.InPlays': WHATEVER THE INPUT: true; the input reads as it did. -/
def inPlaysSpec : ChangeSpec := { name := "inPlays", fn := fun _ => fun
  | [d] => { results := [.lit (.bool true)], args := [d] }
  | _ => none }
def inPlaysRow : OpenClaim := { program := "ytjfmnlhbodekaaa", sum := "602daea05350118a46b414858466ff095589c2674d60ca03610813f48d6325b3", func := "relayhouse/relayhouselaw14.InPlays", spec := "inPlays", recurses := true, apart := false }
def InPlaysSaid : Prop := inPlaysRow.holds Try.pinned (OpenSpec.ofChange inPlaysSpec)

/-- ITS FALSE NEIGHBOUR: 'it returns false'. Refute it at one input. -/
def inPlaysWrong : ChangeSpec := { name := "inPlays", fn := fun _ => fun
  | [d] => { results := [.lit (.bool false)], args := [d] }
  | _ => none }
def InPlaysWrongFalsely : Prop := inPlaysRow.holds Try.pinned (OpenSpec.ofChange inPlaysWrong)

/-- 'relayhouselaw14.InOnce': WHATEVER THE INPUT: true; the input reads as it did. -/
def inOnceSpec : ChangeSpec := { name := "inOnce", fn := fun _ => fun
  | [d] => { results := [.lit (.bool true)], args := [d] }
  | _ => none }
def inOnceRow : OpenClaim := { program := "ytjfmnlhbodekaaa", sum := "602daea05350118a46b414858466ff095589c2674d60ca03610813f48d6325b3", func := "relayhouse/relayhouselaw14.InOnce", spec := "inOnce", recurses := true, apart := false }
def InOnceSaid : Prop := inOnceRow.holds Try.pinned (OpenSpec.ofChange inOnceSpec)

/-- ITS FALSE NEIGHBOUR: 'it returns false'. Refute it at one input. -/
def inOnceWrong : ChangeSpec := { name := "inOnce", fn := fun _ => fun
  | [d] => { results := [.lit (.bool false)], args := [d] }
  | _ => none }
def InOnceWrongFalsely : Prop := inOnceRow.holds Try.pinned (OpenSpec.ofChange inOnceWrong)

/-- 'relayhouselaw14.InApart': WHATEVER THE INPUT: true; the input reads as it did. -/
def inApartSpec : ChangeSpec := { name := "inApart", fn := fun _ => fun
  | [d1, d2] => { results := [.lit (.bool true)], args := [d1, d2] }
  | _ => none }
def inApartRow : OpenClaim := { program := "ytjfmnlhbodekaaa", sum := "602daea05350118a46b414858466ff095589c2674d60ca03610813f48d6325b3", func := "relayhouse/relayhouselaw14.InApart", spec := "inApart", recurses := true, apart := false }
def InApartSaid : Prop := inApartRow.holds Try.pinned (OpenSpec.ofChange inApartSpec)

/-- ITS FALSE NEIGHBOUR: 'it returns false'. Refute it at one input. -/
def inApartWrong : ChangeSpec := { name := "inApart", fn := fun _ => fun
  | [d1, d2] => { results := [.lit (.bool false)], args := [d1, d2] }
  | _ => none }
def InApartWrongFalsely : Prop := inApartRow.holds Try.pinned (OpenSpec.ofChange inApartWrong)

/-- 'relayhouselaw14.InRow': WHATEVER THE INPUT: true; the input reads as it did. -/
def inRowSpec : ChangeSpec := { name := "inRow", fn := fun _ => fun
  | [d1, d2] => { results := [.lit (.bool true)], args := [d1, d2] }
  | _ => none }
def inRowRow : OpenClaim := { program := "ytjfmnlhbodekaaa", sum := "602daea05350118a46b414858466ff095589c2674d60ca03610813f48d6325b3", func := "relayhouse/relayhouselaw14.InRow", spec := "inRow", recurses := true, apart := false }
def InRowSaid : Prop := inRowRow.holds Try.pinned (OpenSpec.ofChange inRowSpec)

/-- ITS FALSE NEIGHBOUR: 'it returns false'. Refute it at one input. -/
def inRowWrong : ChangeSpec := { name := "inRow", fn := fun _ => fun
  | [d1, d2] => { results := [.lit (.bool false)], args := [d1, d2] }
  | _ => none }
def InRowWrongFalsely : Prop := inRowRow.holds Try.pinned (OpenSpec.ofChange inRowWrong)

/- THE SECOND FORM. 'bulk': how many values and letters a reading holds, each counted each time it is reached (what is shared counts as often as it is met; a slice's spare places count too). A statement '..UptoSaid' is the law's where the arguments, and the package variables that the reading takes, are together of bulk at most 1048576: NARROWER than '..Said'. Prove '..Said' where nothing that the law and all that it calls make is longer than what came in: it says more and counts as full. Else prove '..UptoSaid'. A law counts once. -/
mutual
def uptoBulk {H : Type} : DataW H → Nat
  | .lit (.string bytes) => bytes.length + 1
  | .lit _ => 1
  | .nil => 1
  | .ptr d => uptoBulk d + 1
  | .slice elems spare => uptoBulkAll elems + uptoBulkAll spare + 1
  | .agg parts => uptoBulkAll parts + 1
  | .iface _ d => uptoBulk d + 1
  | .map entries => uptoBulkEntries entries + 1
  | .held _ => 1
def uptoBulkAll {H : Type} : List (DataW H) → Nat
  | [] => 0
  | d :: r => uptoBulk d + uptoBulkAll r
def uptoBulkEntries {H : Type} : List (Lit × DataW H) → Nat
  | [] => 0
  | x :: r => uptoBulkEntry x + uptoBulkEntries r
def uptoBulkEntry {H : Type} : Lit × DataW H → Nat
  | (.string bytes, d) => bytes.length + uptoBulk d + 1
  | (_, d) => uptoBulk d + 1
 end
def uptoSmall : (H : Type) → List (DataW H) → Bool := fun _ ds => decide (uptoBulkAll ds ≤ 1048576)
def OpenSpec.upto (s : _root_.Go.ChangeSpec) : _root_.Go.OpenSpec := { _root_.Go.OpenSpec.ofChange s with cond := some uptoSmall }

/-- 'relayhouselaw14.InKnown', WHERE WHAT IT READS IS OF BULK AT MOST 1048576: true; the input reads as it did. -/
def inKnownUptoRow : OpenClaim := { program := "ytjfmnlhbodekaaa", sum := "602daea05350118a46b414858466ff095589c2674d60ca03610813f48d6325b3", func := "relayhouse/relayhouselaw14.InKnown", spec := "inKnown", recurses := true, apart := false, narrowed := true }
def InKnownUptoSaid : Prop := inKnownUptoRow.holds Try.pinned (OpenSpec.upto inKnownSpec)

/-- 'relayhouselaw14.InPlays', WHERE WHAT IT READS IS OF BULK AT MOST 1048576: true; the input reads as it did. -/
def inPlaysUptoRow : OpenClaim := { program := "ytjfmnlhbodekaaa", sum := "602daea05350118a46b414858466ff095589c2674d60ca03610813f48d6325b3", func := "relayhouse/relayhouselaw14.InPlays", spec := "inPlays", recurses := true, apart := false, narrowed := true }
def InPlaysUptoSaid : Prop := inPlaysUptoRow.holds Try.pinned (OpenSpec.upto inPlaysSpec)

/-- 'relayhouselaw14.InOnce', WHERE WHAT IT READS IS OF BULK AT MOST 1048576: true; the input reads as it did. -/
def inOnceUptoRow : OpenClaim := { program := "ytjfmnlhbodekaaa", sum := "602daea05350118a46b414858466ff095589c2674d60ca03610813f48d6325b3", func := "relayhouse/relayhouselaw14.InOnce", spec := "inOnce", recurses := true, apart := false, narrowed := true }
def InOnceUptoSaid : Prop := inOnceUptoRow.holds Try.pinned (OpenSpec.upto inOnceSpec)

/-- 'relayhouselaw14.InApart', WHERE WHAT IT READS IS OF BULK AT MOST 1048576: true; the input reads as it did. -/
def inApartUptoRow : OpenClaim := { program := "ytjfmnlhbodekaaa", sum := "602daea05350118a46b414858466ff095589c2674d60ca03610813f48d6325b3", func := "relayhouse/relayhouselaw14.InApart", spec := "inApart", recurses := true, apart := false, narrowed := true }
def InApartUptoSaid : Prop := inApartUptoRow.holds Try.pinned (OpenSpec.upto inApartSpec)

/-- 'relayhouselaw14.InRow', WHERE WHAT IT READS IS OF BULK AT MOST 1048576: true; the input reads as it did. -/
def inRowUptoRow : OpenClaim := { program := "ytjfmnlhbodekaaa", sum := "602daea05350118a46b414858466ff095589c2674d60ca03610813f48d6325b3", func := "relayhouse/relayhouselaw14.InRow", spec := "inRow", recurses := true, apart := false, narrowed := true }
def InRowUptoSaid : Prop := inRowUptoRow.holds Try.pinned (OpenSpec.upto inRowSpec)

end Rows
end Go.Proofs.Ytjfmnlhbodekaaa
