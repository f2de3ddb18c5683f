/- HomeLanes: where the three tables of Go lie as its text lays them, it returns true whatever it is given, and leaves that as it was; the card ties the tables to the text. -/
import Derived.Test.YtcekcoepdhnfgaaGreatDoorHomeLanesLift
import Derived.Test.YtcekcoepdhnfgaaGreatDoorHomeLanesJf
namespace Go.Proofs.YtcekcoepdhnfgaaGreatDoor
section
open Go Go.ChangeShapes Go.WideShapes Go.ChangeAt Go.RowKit Go.WideMaps Go.WideElems
open Go.ChangeMaps (open_string shut_string)
theorem and_tt {a b:Bool} (ha:a=true) (hb:b=true):(a && b)=true:=by rw [ha,hb];rfl
set_option maxRecDepth 100000
theorem homeLanes_closed:joinedFacts Tryz.prog 3 Tryz.f3 Rows.homeLanesSpec Rows.homeLanesRow=true:=by
 unfold joinedFacts;exact (and_tt (and_tt (and_tt (and_tt (and_tt (and_tt (and_tt (and_tt (and_tt (and_tt (and_tt (and_tt (and_tt (and_tt (and_tt (and_tt (and_tt (and_tt (and_tt (and_tt (and_tt (and_tt (and_tt (and_tt (and_tt (and_tt (and_tt (and_tt (and_tt (and_tt (and_tt homeLanes_jf0 homeLanes_jf1) homeLanes_jf2) homeLanes_jf3) homeLanes_jf4) homeLanes_jf5) homeLanes_jf6) homeLanes_jf7) homeLanes_jf8) homeLanes_jf9) homeLanes_jf10) homeLanes_jf11) homeLanes_jf12) homeLanes_jf13) homeLanes_jf14) homeLanes_jf15) homeLanes_jf16) homeLanes_jf17) homeLanes_jf18) homeLanes_jf19) homeLanes_jf20) homeLanes_jf21) homeLanes_jf22) homeLanes_jf23) homeLanes_jf24) homeLanes_jf25) homeLanes_jf26) homeLanes_jf27) homeLanes_jf28) homeLanes_jf29) homeLanes_jf30) homeLanes_jf31)
theorem homeLanes_holds:Rows.HomeLanesSaid:=
 OpenClaim.holds_of_wide 3 Tryz.f3 rfl rfl rfl rfl rfl rfl rfl ⟨rfl,rfl,rfl,rfl,rfl⟩ rfl rfl rfl rfl rfl (by kernel_rfl) Tryz.func3 homeLanes_closed
  (of_decide_eq_true (by kernel_rfl)) (by unfold Func.isWrapper;first | (rw [if_pos (by decide +kernel)];kernel_rfl) | (rw [if_neg (by decide +kernel)];exact ⟨rfl,rfl⟩))
  (fun os started H enc _=>homeLanes_lifted os started H enc)
end
section
open Go Go.ChangeShapes Go.WideShapes Go.ChangeAt Go.RowKit Go.WideMaps Go.WideElems
open Go.ChangeMaps (open_string shut_string)
theorem homeLanes_wf:Rows.homeLanesRow.wfByText (OpenSpec.ofChange Rows.homeLanesSpec)=true:=by kernel_rfl
theorem homeLanes_main:Tryz.prog.mainIs=some ((true,"a3dc014e0261757d9a16bb5e5dfa626fe73fc78c838cf56d5b16b8a6b3252de4").1,(true,"a3dc014e0261757d9a16bb5e5dfa626fe73fc78c838cf56d5b16b8a6b3252de4").2.toList):=by kernel_rfl
theorem homeLanes_named:Tryz.prog.funcNamed "relayhouse/relayhouselaw21.HomeLanes" = some 3:=by kernel_rfl
theorem homeLanes_looks:false = Tryz.prog.looks []:=by kernel_rfl
theorem homeLanes_wants:([23, 3, 24].all fun u => !Tryz.prog.wantsStandIn u)=true:=by kernel_rfl
theorem homeLanes_goes:false=Rows.homeLanesRow.goesBy Tryz.prog:=by kernel_rfl
theorem homeLanes_card:Rows.HomeLanesCardSaid:=
 Claim7.holds_tied_plain_at .later [] [.data,.data,.pinned] true (true,"a3dc014e0261757d9a16bb5e5dfa626fe73fc78c838cf56d5b16b8a6b3252de4") false homeLanes_holds (fun _ h=>by cases h) homeLanes_wf (fun _ h=>by cases h) homeLanes_row_tie rfl ⟨rfl,rfl⟩ homeLanes_main rfl
  (fun f fn hf hfn=>by
   obtain rfl:f = 3:=Option.some.inj (homeLanes_named.symm.trans hf) |>.symm
   obtain rfl:fn = Tryz.f3:=(Option.some.inj (Tryz.func3.symm.trans hfn)).symm
   exact ⟨homeLanes_looks,fun j t ht=>by
    rw [Tryz.params3] at ht;have hm:t ∈ [23, 3, 24]:=by simpa using Array.mem_of_getElem? ht
    exact (show Tryz.prog.wantsStandIn t=false by simpa using List.all_eq_true.1 homeLanes_wants t hm)⟩)
  homeLanes_goes
end
end Go.Proofs.YtcekcoepdhnfgaaGreatDoor
