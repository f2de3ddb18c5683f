/- The cells of the tables. -/
import Derived.Test.YtcekcoepdhnfgaaGreatDoorRows
import Derived.Test.YtcekcoepdhnfgaaGreatDoorChecked
import Derived.ProofKit
namespace Go.Proofs.YtcekcoepdhnfgaaGreatDoor
open Go Go.ChangeShapes Go.WideShapes Go.ChangeAt Go.RowKit Go.WideMaps Go.WideElems
theorem homeOne_jf0:Rows.homeOneRow.wf (OpenSpec.ofChange Rows.homeOneSpec)=true:=by kernel_rfl
theorem homeOne_jf1:laidOutB Tryz.prog=true:=by kernel_rfl
theorem homeOne_jf2:mapsRowed Tryz.prog=true:=by kernel_rfl
theorem homeOne_jf3:Tryz.f4.params.all (Tryz.prog.readableRec ·)=true:=by kernel_rfl
theorem homeOne_jf4:namedTie Tryz.prog Rows.homeOneRow.named Rows.homeOneSpec.vars=true:=by kernel_rfl
theorem homeOne_jf5:(Rows.homeOneRow.stops == [])=true:=by kernel_rfl
theorem homeOne_jf6:(Tryz.prog.stops == [])=true:=by kernel_rfl
theorem homeOne_jf7:(Rows.homeOneRow.knobs == [])=true:=by kernel_rfl
theorem homeOne_jf8:(Tryz.prog.stopKnobs == [])=true:=by kernel_rfl
theorem homeOne_jf9:(Rows.homeOneRow.inPlace == Tryz.prog.inPlace 4)=true:=by kernel_rfl
theorem homeOne_jf10:(Rows.homeOneRow.unfollowed == Tryz.prog.unfollowed 4)=true:=by kernel_rfl
theorem homeOne_jf11:(Rows.homeOneRow.recurses == Tryz.prog.recurses 4)=true:=by kernel_rfl
theorem homeOne_jf12:(Rows.homeOneRow.named == Tryz.prog.varsNamed 4)=true:=by kernel_rfl
theorem homeOne_jf13:(Rows.homeOneRow.maps == (Tryz.f4.params.toList++Rows.homeOneSpec.plain.varTypes Tryz.prog).any (Tryz.prog.mapsRec ·))=true:=by kernel_rfl
theorem homeOne_jf14:(Rows.homeOneRow.ifaces == (Tryz.f4.params.toList++Rows.homeOneSpec.plain.varTypes Tryz.prog).any (Tryz.prog.ifacesRec ·))=true:=by kernel_rfl
theorem homeOne_jf15:(Rows.homeOneRow.mapsOut == Tryz.prog.mapsAmong Tryz.f4.resultTypes.toList)=true:=by kernel_rfl
theorem homeOne_jf16:(Rows.homeOneRow.loops == (Tryz.f4.params.toList++Rows.homeOneSpec.plain.varTypes Tryz.prog).any (Tryz.prog.loopsFrom ·))=true:=by kernel_rfl
theorem homeOne_jf17:(Rows.homeOneRow.wideKeys == (Tryz.f4.params.toList++Rows.homeOneSpec.plain.varTypes Tryz.prog ++ Tryz.f4.resultTypes.toList).any (Tryz.prog.wideKeysFrom ·))=true:=by kernel_rfl
theorem homeOne_jf18:Rows.homeOneSpec.vars.all (Tryz.prog.varReadable ·)=true:=by kernel_rfl
theorem homeOne_jf19:Tryz.f4.resultTypes.all (fun t => Tryz.prog.readableRec t && decide (t < Tryz.prog.types.size))=true:=by kernel_rfl
theorem homeOne_jf20:(Rows.homeOneRow.ifacesOut == Tryz.f4.resultTypes.toList.any (Tryz.prog.ifacesRec ·))=true:=by kernel_rfl
theorem homeOne_jf21:(Rows.homeOneRow.loopsOut == Tryz.f4.resultTypes.toList.any (Tryz.prog.loopsFrom ·))=true:=by kernel_rfl
theorem homeOne_jf22:(Rows.homeOneRow.plainKeys == Tryz.prog.plainKeys)=true:=by kernel_rfl
theorem homeOne_jf23:Rows.homeOneRow.shortTexts.isNone=true:=by kernel_rfl
theorem homeOne_jf24:Tryz.prog.stopsHeard=true:=by kernel_rfl
theorem homeOne_jf25:Tryz.prog.mayEnter=true:=by kernel_rfl
theorem homeOne_jf26:(Rows.homeOneRow.lifted == Tryz.prog.liftsFinal)=true:=by kernel_rfl
theorem homeOne_jf27:(Tryz.prog.make == some Rows.homeOneRow.make)=true:=by kernel_rfl
theorem homeOne_jf28:(Rows.homeOneRow.kinds == (if Rows.homeOneRow.domain.isEmpty then [] else Tryz.f4.params.toList.map fun t=>match Tryz.prog.underlying t with | some (.int k)=>some k | _=>none))=true:=by kernel_rfl
theorem homeOne_jf29:(Rows.homeOneRow.pinned == Rows.homeOneRow.pinnedBy)=true:=by kernel_rfl
theorem homeOne_jf30:(Rows.homeOneRow.veiled == (Tryz.f4.params.toList++Rows.homeOneSpec.plain.varTypes Tryz.prog ++ Tryz.f4.resultTypes.toList).any (Tryz.prog.veiledRec ·))=true:=by kernel_rfl
theorem homeOne_jf31:Rows.homeOneRow.veiledFits Tryz.prog Tryz.f4.params.toList (Tryz.f4.params.toList++Rows.homeOneSpec.plain.varTypes Tryz.prog ++ Tryz.f4.resultTypes.toList)=true:=by kernel_rfl
end Go.Proofs.YtcekcoepdhnfgaaGreatDoor
