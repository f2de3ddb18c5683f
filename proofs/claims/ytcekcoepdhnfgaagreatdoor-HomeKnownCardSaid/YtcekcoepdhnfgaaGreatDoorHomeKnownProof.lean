/- HomeKnown: where the three tables of Go lie as its text lays them, it returns true whatever it is given, and leaves that as it was; the card ties the tables to the text. -/
import Derived.Test.YtcekcoepdhnfgaaGreatDoorHomeKnownLift
import Derived.Test.YtcekcoepdhnfgaaGreatDoorHomeKnownJf
namespace Go.Proofs.YtcekcoepdhnfgaaGreatDoor
section
open Go Go.ChangeShapes Go.WideShapes Go.ChangeAt Go.RowKit Go.WideMaps Go.WideElems
open Go.ChangeMaps (open_string shut_string)
theorem and_tt {a b:Bool} (ha:a=true) (hb:b=true):(a && b)=true:=by rw [ha,hb];rfl
set_option maxRecDepth 100000
theorem homeKnown_closed:joinedFacts Tryz.prog 7 Tryz.f7 Rows.homeKnownSpec Rows.homeKnownRow=true:=by
 unfold joinedFacts;exact (and_tt (and_tt (and_tt (and_tt (and_tt (and_tt (and_tt (and_tt (and_tt (and_tt (and_tt (and_tt (and_tt (and_tt (and_tt (and_tt (and_tt (and_tt (and_tt (and_tt (and_tt (and_tt (and_tt (and_tt (and_tt (and_tt (and_tt (and_tt (and_tt (and_tt (and_tt homeKnown_jf0 homeKnown_jf1) homeKnown_jf2) homeKnown_jf3) homeKnown_jf4) homeKnown_jf5) homeKnown_jf6) homeKnown_jf7) homeKnown_jf8) homeKnown_jf9) homeKnown_jf10) homeKnown_jf11) homeKnown_jf12) homeKnown_jf13) homeKnown_jf14) homeKnown_jf15) homeKnown_jf16) homeKnown_jf17) homeKnown_jf18) homeKnown_jf19) homeKnown_jf20) homeKnown_jf21) homeKnown_jf22) homeKnown_jf23) homeKnown_jf24) homeKnown_jf25) homeKnown_jf26) homeKnown_jf27) homeKnown_jf28) homeKnown_jf29) homeKnown_jf30) homeKnown_jf31)
theorem homeKnown_holds:Rows.HomeKnownSaid:=
 OpenClaim.holds_of_wide 7 Tryz.f7 rfl rfl rfl rfl rfl rfl rfl ⟨rfl,rfl,rfl,rfl,rfl⟩ rfl rfl rfl rfl rfl (by kernel_rfl) Tryz.func7 homeKnown_closed
  (of_decide_eq_true (by kernel_rfl)) (by unfold Func.isWrapper;first | (rw [if_pos (by decide +kernel)];kernel_rfl) | (rw [if_neg (by decide +kernel)];exact ⟨rfl,rfl⟩))
  (fun os started H enc _=>homeKnown_lifted os started H enc)
end
section
open Go Go.ChangeShapes Go.WideShapes Go.ChangeAt Go.RowKit Go.WideMaps Go.WideElems
open Go.ChangeMaps (open_string shut_string)
theorem homeKnown_wf:Rows.homeKnownRow.wfByText (OpenSpec.ofChange Rows.homeKnownSpec)=true:=by kernel_rfl
theorem homeKnown_main:Tryz.prog.mainIs=some ((true,"a3dc014e0261757d9a16bb5e5dfa626fe73fc78c838cf56d5b16b8a6b3252de4").1,(true,"a3dc014e0261757d9a16bb5e5dfa626fe73fc78c838cf56d5b16b8a6b3252de4").2.toList):=by kernel_rfl
theorem homeKnown_named:Tryz.prog.funcNamed "relayhouse/relayhouselaw21.HomeKnown" = some 7:=by kernel_rfl
theorem homeKnown_looks:false = Tryz.prog.looks []:=by kernel_rfl
theorem homeKnown_goes:false=Rows.homeKnownRow.goesBy Tryz.prog:=by kernel_rfl
theorem homeKnown_card:Rows.HomeKnownCardSaid:=
 Claim7.holds_tied_plain_at .later [] [.data,.data,.pinned] true (true,"a3dc014e0261757d9a16bb5e5dfa626fe73fc78c838cf56d5b16b8a6b3252de4") false homeKnown_holds (fun _ h=>by cases h) homeKnown_wf (fun _ h=>by cases h) homeKnown_row_tie rfl ⟨rfl,rfl⟩ homeKnown_main rfl
  (fun f fn hf hfn=>by
   obtain rfl:f = 7:=Option.some.inj (homeKnown_named.symm.trans hf) |>.symm
   obtain rfl:fn = Tryz.f7:=(Option.some.inj (Tryz.func7.symm.trans hfn)).symm
   exact ⟨homeKnown_looks,fun j t ht=>by
    rw [Tryz.params7] at ht
    simp at ht⟩)
  homeKnown_goes
end
end Go.Proofs.YtcekcoepdhnfgaaGreatDoor
