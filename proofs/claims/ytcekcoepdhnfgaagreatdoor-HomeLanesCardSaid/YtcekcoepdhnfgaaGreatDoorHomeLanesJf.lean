/- The cells of the tables. -/
import Derived.Test.YtcekcoepdhnfgaaGreatDoorRows
import Derived.Test.YtcekcoepdhnfgaaGreatDoorChecked
import Derived.ProofKit
namespace Go.Proofs.YtcekcoepdhnfgaaGreatDoor
open Go Go.ChangeShapes Go.WideShapes Go.ChangeAt Go.RowKit Go.WideMaps Go.WideElems
theorem homeLanes_jf0:Rows.homeLanesRow.wf (OpenSpec.ofChange Rows.homeLanesSpec)=true:=by kernel_rfl
theorem homeLanes_jf1:laidOutB Tryz.prog=true:=by kernel_rfl
theorem homeLanes_jf2:mapsRowed Tryz.prog=true:=by kernel_rfl
theorem homeLanes_jf3:Tryz.f3.params.all (Tryz.prog.readableRec ·)=true:=by kernel_rfl
theorem homeLanes_jf4:namedTie Tryz.prog Rows.homeLanesRow.named Rows.homeLanesSpec.vars=true:=by kernel_rfl
theorem homeLanes_jf5:(Rows.homeLanesRow.stops == [])=true:=by kernel_rfl
theorem homeLanes_jf6:(Tryz.prog.stops == [])=true:=by kernel_rfl
theorem homeLanes_jf7:(Rows.homeLanesRow.knobs == [])=true:=by kernel_rfl
theorem homeLanes_jf8:(Tryz.prog.stopKnobs == [])=true:=by kernel_rfl
theorem homeLanes_jf9:(Rows.homeLanesRow.inPlace == Tryz.prog.inPlace 3)=true:=by kernel_rfl
theorem homeLanes_jf10:(Rows.homeLanesRow.unfollowed == Tryz.prog.unfollowed 3)=true:=by kernel_rfl
theorem homeLanes_jf11:(Rows.homeLanesRow.recurses == Tryz.prog.recurses 3)=true:=by kernel_rfl
theorem homeLanes_jf12:(Rows.homeLanesRow.named == Tryz.prog.varsNamed 3)=true:=by kernel_rfl
theorem homeLanes_jf13:(Rows.homeLanesRow.maps == (Tryz.f3.params.toList++Rows.homeLanesSpec.plain.varTypes Tryz.prog).any (Tryz.prog.mapsRec ·))=true:=by kernel_rfl
theorem homeLanes_jf14:(Rows.homeLanesRow.ifaces == (Tryz.f3.params.toList++Rows.homeLanesSpec.plain.varTypes Tryz.prog).any (Tryz.prog.ifacesRec ·))=true:=by kernel_rfl
theorem homeLanes_jf15:(Rows.homeLanesRow.mapsOut == Tryz.prog.mapsAmong Tryz.f3.resultTypes.toList)=true:=by kernel_rfl
theorem homeLanes_jf16:(Rows.homeLanesRow.loops == (Tryz.f3.params.toList++Rows.homeLanesSpec.plain.varTypes Tryz.prog).any (Tryz.prog.loopsFrom ·))=true:=by kernel_rfl
theorem homeLanes_jf17:(Rows.homeLanesRow.wideKeys == (Tryz.f3.params.toList++Rows.homeLanesSpec.plain.varTypes Tryz.prog ++ Tryz.f3.resultTypes.toList).any (Tryz.prog.wideKeysFrom ·))=true:=by kernel_rfl
theorem homeLanes_jf18:Rows.homeLanesSpec.vars.all (Tryz.prog.varReadable ·)=true:=by kernel_rfl
theorem homeLanes_jf19:Tryz.f3.resultTypes.all (fun t => Tryz.prog.readableRec t && decide (t < Tryz.prog.types.size))=true:=by kernel_rfl
theorem homeLanes_jf20:(Rows.homeLanesRow.ifacesOut == Tryz.f3.resultTypes.toList.any (Tryz.prog.ifacesRec ·))=true:=by kernel_rfl
theorem homeLanes_jf21:(Rows.homeLanesRow.loopsOut == Tryz.f3.resultTypes.toList.any (Tryz.prog.loopsFrom ·))=true:=by kernel_rfl
theorem homeLanes_jf22:(Rows.homeLanesRow.plainKeys == Tryz.prog.plainKeys)=true:=by kernel_rfl
theorem homeLanes_jf23:Rows.homeLanesRow.shortTexts.isNone=true:=by kernel_rfl
theorem homeLanes_jf24:Tryz.prog.stopsHeard=true:=by kernel_rfl
theorem homeLanes_jf25:Tryz.prog.mayEnter=true:=by kernel_rfl
theorem homeLanes_jf26:(Rows.homeLanesRow.lifted == Tryz.prog.liftsFinal)=true:=by kernel_rfl
theorem homeLanes_jf27:(Tryz.prog.make == some Rows.homeLanesRow.make)=true:=by kernel_rfl
theorem homeLanes_jf28:(Rows.homeLanesRow.kinds == (if Rows.homeLanesRow.domain.isEmpty then [] else Tryz.f3.params.toList.map fun t=>match Tryz.prog.underlying t with | some (.int k)=>some k | _=>none))=true:=by kernel_rfl
theorem homeLanes_jf29:(Rows.homeLanesRow.pinned == Rows.homeLanesRow.pinnedBy)=true:=by kernel_rfl
theorem homeLanes_jf30:(Rows.homeLanesRow.veiled == (Tryz.f3.params.toList++Rows.homeLanesSpec.plain.varTypes Tryz.prog ++ Tryz.f3.resultTypes.toList).any (Tryz.prog.veiledRec ·))=true:=by kernel_rfl
theorem homeLanes_jf31:Rows.homeLanesRow.veiledFits Tryz.prog Tryz.f3.params.toList (Tryz.f3.params.toList++Rows.homeLanesSpec.plain.varTypes Tryz.prog ++ Tryz.f3.resultTypes.toList)=true:=by kernel_rfl
end Go.Proofs.YtcekcoepdhnfgaaGreatDoor
