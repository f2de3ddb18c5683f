/- HomeOne: where the three tables of Go lie as its text lays them, it returns true whatever it is given, and leaves that as it was; the card ties the tables to the text. -/
import Derived.Test.YtcekcoepdhnfgaaGreatDoorHomeOneLift
import Derived.Test.YtcekcoepdhnfgaaGreatDoorHomeOneJf
namespace Go.Proofs.YtcekcoepdhnfgaaGreatDoor
section
open Go Go.ChangeShapes Go.WideShapes Go.ChangeAt Go.RowKit Go.WideMaps Go.WideElems
open Go.ChangeMaps (open_string shut_string)
theorem and_tt {a b:Bool} (ha:a=true) (hb:b=true):(a && b)=true:=by rw [ha,hb];rfl
set_option maxRecDepth 100000
theorem homeOne_closed:joinedFacts Tryz.prog 4 Tryz.f4 Rows.homeOneSpec Rows.homeOneRow=true:=by
 unfold joinedFacts;exact (and_tt (and_tt (and_tt (and_tt (and_tt (and_tt (and_tt (and_tt (and_tt (and_tt (and_tt (and_tt (and_tt (and_tt (and_tt (and_tt (and_tt (and_tt (and_tt (and_tt (and_tt (and_tt (and_tt (and_tt (and_tt (and_tt (and_tt (and_tt (and_tt (and_tt (and_tt homeOne_jf0 homeOne_jf1) homeOne_jf2) homeOne_jf3) homeOne_jf4) homeOne_jf5) homeOne_jf6) homeOne_jf7) homeOne_jf8) homeOne_jf9) homeOne_jf10) homeOne_jf11) homeOne_jf12) homeOne_jf13) homeOne_jf14) homeOne_jf15) homeOne_jf16) homeOne_jf17) homeOne_jf18) homeOne_jf19) homeOne_jf20) homeOne_jf21) homeOne_jf22) homeOne_jf23) homeOne_jf24) homeOne_jf25) homeOne_jf26) homeOne_jf27) homeOne_jf28) homeOne_jf29) homeOne_jf30) homeOne_jf31)
theorem homeOne_holds:Rows.HomeOneSaid:=
 OpenClaim.holds_of_wide 4 Tryz.f4 rfl rfl rfl rfl rfl rfl rfl ⟨rfl,rfl,rfl,rfl,rfl⟩ rfl rfl rfl rfl rfl (by kernel_rfl) Tryz.func4 homeOne_closed
  (of_decide_eq_true (by kernel_rfl)) (by unfold Func.isWrapper;first | (rw [if_pos (by decide +kernel)];kernel_rfl) | (rw [if_neg (by decide +kernel)];exact ⟨rfl,rfl⟩))
  (fun os started H enc _=>homeOne_lifted os started H enc)
end
section
open Go Go.ChangeShapes Go.WideShapes Go.ChangeAt Go.RowKit Go.WideMaps Go.WideElems
open Go.ChangeMaps (open_string shut_string)
theorem homeOne_wf:Rows.homeOneRow.wfByText (OpenSpec.ofChange Rows.homeOneSpec)=true:=by kernel_rfl
theorem homeOne_main:Tryz.prog.mainIs=some ((true,"a3dc014e0261757d9a16bb5e5dfa626fe73fc78c838cf56d5b16b8a6b3252de4").1,(true,"a3dc014e0261757d9a16bb5e5dfa626fe73fc78c838cf56d5b16b8a6b3252de4").2.toList):=by kernel_rfl
theorem homeOne_named:Tryz.prog.funcNamed "relayhouse/relayhouselaw21.HomeOne" = some 4:=by kernel_rfl
theorem homeOne_looks:false = Tryz.prog.looks []:=by kernel_rfl
theorem homeOne_wants:([23, 3, 24].all fun u => !Tryz.prog.wantsStandIn u)=true:=by kernel_rfl
theorem homeOne_goes:false=Rows.homeOneRow.goesBy Tryz.prog:=by kernel_rfl
theorem homeOne_card:Rows.HomeOneCardSaid:=
 Claim7.holds_tied_plain_at .later [] [.data,.data,.pinned] true (true,"a3dc014e0261757d9a16bb5e5dfa626fe73fc78c838cf56d5b16b8a6b3252de4") false homeOne_holds (fun _ h=>by cases h) homeOne_wf (fun _ h=>by cases h) homeOne_row_tie rfl ⟨rfl,rfl⟩ homeOne_main rfl
  (fun f fn hf hfn=>by
   obtain rfl:f = 4:=Option.some.inj (homeOne_named.symm.trans hf) |>.symm
   obtain rfl:fn = Tryz.f4:=(Option.some.inj (Tryz.func4.symm.trans hfn)).symm
   exact ⟨homeOne_looks,fun j t ht=>by
    rw [Tryz.params4] at ht;have hm:t ∈ [23, 3, 24]:=by simpa using Array.mem_of_getElem? ht
    exact (show Tryz.prog.wantsStandIn t=false by simpa using List.all_eq_true.1 homeOne_wants t hm)⟩)
  homeOne_goes
end
end Go.Proofs.YtcekcoepdhnfgaaGreatDoor
