/- The cells of the tables. -/
import Derived.Test.YtcekcoepdhnfgaaGreatDoorRows
import Derived.Test.YtcekcoepdhnfgaaGreatDoorChecked
import Derived.ProofKit
namespace Go.Proofs.YtcekcoepdhnfgaaGreatDoor
open Go Go.ChangeShapes Go.WideShapes Go.ChangeAt Go.RowKit Go.WideMaps Go.WideElems
theorem homeKnown_jf0:Rows.homeKnownRow.wf (OpenSpec.ofChange Rows.homeKnownSpec)=true:=by kernel_rfl
theorem homeKnown_jf1:laidOutB Tryz.prog=true:=by kernel_rfl
theorem homeKnown_jf2:mapsRowed Tryz.prog=true:=by kernel_rfl
theorem homeKnown_jf3:Tryz.f7.params.all (Tryz.prog.readableRec ·)=true:=by kernel_rfl
theorem homeKnown_jf4:namedTie Tryz.prog Rows.homeKnownRow.named Rows.homeKnownSpec.vars=true:=by kernel_rfl
theorem homeKnown_jf5:(Rows.homeKnownRow.stops == [])=true:=by kernel_rfl
theorem homeKnown_jf6:(Tryz.prog.stops == [])=true:=by kernel_rfl
theorem homeKnown_jf7:(Rows.homeKnownRow.knobs == [])=true:=by kernel_rfl
theorem homeKnown_jf8:(Tryz.prog.stopKnobs == [])=true:=by kernel_rfl
theorem homeKnown_jf9:(Rows.homeKnownRow.inPlace == Tryz.prog.inPlace 7)=true:=by kernel_rfl
theorem homeKnown_jf10:(Rows.homeKnownRow.unfollowed == Tryz.prog.unfollowed 7)=true:=by kernel_rfl
theorem homeKnown_jf11:(Rows.homeKnownRow.recurses == Tryz.prog.recurses 7)=true:=by kernel_rfl
theorem homeKnown_jf12:(Rows.homeKnownRow.named == Tryz.prog.varsNamed 7)=true:=by kernel_rfl
theorem homeKnown_jf13:(Rows.homeKnownRow.maps == (Tryz.f7.params.toList++Rows.homeKnownSpec.plain.varTypes Tryz.prog).any (Tryz.prog.mapsRec ·))=true:=by kernel_rfl
theorem homeKnown_jf14:(Rows.homeKnownRow.ifaces == (Tryz.f7.params.toList++Rows.homeKnownSpec.plain.varTypes Tryz.prog).any (Tryz.prog.ifacesRec ·))=true:=by kernel_rfl
theorem homeKnown_jf15:(Rows.homeKnownRow.mapsOut == Tryz.prog.mapsAmong Tryz.f7.resultTypes.toList)=true:=by kernel_rfl
theorem homeKnown_jf16:(Rows.homeKnownRow.loops == (Tryz.f7.params.toList++Rows.homeKnownSpec.plain.varTypes Tryz.prog).any (Tryz.prog.loopsFrom ·))=true:=by kernel_rfl
theorem homeKnown_jf17:(Rows.homeKnownRow.wideKeys == (Tryz.f7.params.toList++Rows.homeKnownSpec.plain.varTypes Tryz.prog ++ Tryz.f7.resultTypes.toList).any (Tryz.prog.wideKeysFrom ·))=true:=by kernel_rfl
theorem homeKnown_jf18:Rows.homeKnownSpec.vars.all (Tryz.prog.varReadable ·)=true:=by kernel_rfl
theorem homeKnown_jf19:Tryz.f7.resultTypes.all (fun t => Tryz.prog.readableRec t && decide (t < Tryz.prog.types.size))=true:=by kernel_rfl
theorem homeKnown_jf20:(Rows.homeKnownRow.ifacesOut == Tryz.f7.resultTypes.toList.any (Tryz.prog.ifacesRec ·))=true:=by kernel_rfl
theorem homeKnown_jf21:(Rows.homeKnownRow.loopsOut == Tryz.f7.resultTypes.toList.any (Tryz.prog.loopsFrom ·))=true:=by kernel_rfl
theorem homeKnown_jf22:(Rows.homeKnownRow.plainKeys == Tryz.prog.plainKeys)=true:=by kernel_rfl
theorem homeKnown_jf23:Rows.homeKnownRow.shortTexts.isNone=true:=by kernel_rfl
theorem homeKnown_jf24:Tryz.prog.stopsHeard=true:=by kernel_rfl
theorem homeKnown_jf25:Tryz.prog.mayEnter=true:=by kernel_rfl
theorem homeKnown_jf26:(Rows.homeKnownRow.lifted == Tryz.prog.liftsFinal)=true:=by kernel_rfl
theorem homeKnown_jf27:(Tryz.prog.make == some Rows.homeKnownRow.make)=true:=by kernel_rfl
theorem homeKnown_jf28:(Rows.homeKnownRow.kinds == (if Rows.homeKnownRow.domain.isEmpty then [] else Tryz.f7.params.toList.map fun t=>match Tryz.prog.underlying t with | some (.int k)=>some k | _=>none))=true:=by kernel_rfl
theorem homeKnown_jf29:(Rows.homeKnownRow.pinned == Rows.homeKnownRow.pinnedBy)=true:=by kernel_rfl
theorem homeKnown_jf30:(Rows.homeKnownRow.veiled == (Tryz.f7.params.toList++Rows.homeKnownSpec.plain.varTypes Tryz.prog ++ Tryz.f7.resultTypes.toList).any (Tryz.prog.veiledRec ·))=true:=by kernel_rfl
theorem homeKnown_jf31:Rows.homeKnownRow.veiledFits Tryz.prog Tryz.f7.params.toList (Tryz.f7.params.toList++Rows.homeKnownSpec.plain.varTypes Tryz.prog ++ Tryz.f7.resultTypes.toList)=true:=by kernel_rfl
end Go.Proofs.YtcekcoepdhnfgaaGreatDoor
