/- SessionWill: where the three tables of Go lie as its text lays them, it returns true whatever it is given, and leaves that as it was; the card ties the tables to the text. -/
import Derived.Test.YtmkhagmjpbfieaaDoorSeWill
import Derived.Test.YtmkhagmjpbfieaaDoorTie
import Derived.Test.YtmkhagmjpbfieaaDoorCards
import Derived.Test.YtmkhagmjpbfieaaDoorSeClose
import Derived.SevenTiedAt
import Derived.Stop.Joined
namespace Go.Proofs.YtmkhagmjpbfieaaDoor
open Go Go.ChangeShapes Go.WideShapes Go.ChangeAt Go.RowKit Go.WideMaps Go.WideElems
open Go.ChangeMaps (open_string shut_string)

set_option maxRecDepth 100000 in
theorem sessionWill_lifted (os : Os) (started : os.Started) (H : Type) (enc : TypeId × Value → H) :
    ReturnsInHanded {} Tryd.checked os 4 .any (fun w args => (Rows.sessionWillSpec.pre enc Tryd.prog Tryd.f4 Rows.sessionWillRow.domain false w args ∧ laidMetH Tryd.prog Rows.sessionWillRow.laid w) ∧ sizedMet enc Tryd.prog Tryd.f4 (OpenSpec.ofChange Rows.sessionWillSpec) false w args)
      (Rows.sessionWillSpec.post enc Tryd.prog Tryd.f4 false true false false) := by
  refine returns_sized (C := Tryd.checked) (X := fun w _ => laidMetH Tryd.prog Rows.sessionWillRow.laid w) (fun _ _ _ hh h => h.of_heap hh) own_none started (by kernel_rfl) Tryd.func4
    (ChangeSpec.witness_shaped (enc := enc) (C := Tryd.checked) (os := os) (X := fun w _ => laidMetH Tryd.prog Rows.sessionWillRow.laid w) false (World.laidAll Tryd.prog os Rows.sessionWillRow.laid) #[.agg #[.int .i64 0, .int .i64 0, .int .i64 0, .int .i64 0, .int .i64 0], .slice none 0 0] 8 (World.laidAll_os _ _ _)
      (World.shaped_of_ZipB (by kernel_rfl) (by kernel_rfl)) (by kernel_rfl) (by kernel_rfl) (by kernel_rfl)
      (by rw [MakeChecks.laidMetH_plain _ _ _ (by kernel_rfl)]; exact laidMet_laidAll _ (by kernel_rfl) (by kernel_rfl))) ?_
  intro W base args ds gs before hval0 hW hL hS hsz
  have hval : ∀ (j : Nat) t v, Tryd.f4.params[j]? = some t → args[j]? = some v → Value.okWide Tryd.prog W .any base t v := hval0
  have hW' := hW
  obtain ⟨p, q, hA0, hV, rfl, hfz, hnd⟩ := hW
  have hA : DataW.TrodAll enc Tryd.prog W 0 (fun _ => true) true Tryd.f4.params.toList args.toList ds p := hA0
  rw [Tryd.params4] at hA hval
  obtain ⟨v0, vs0, d0, ds0, p0, q0, hargs0, rfl, rfl, h0, r0⟩ := trodAll_cons hA
  obtain ⟨v1, vs1, d1, ds1, p1, q1, hargs1, rfl, rfl, h1, r1⟩ := trodAll_cons r0
  subst hargs1
  obtain ⟨hnil, rfl, rfl⟩ := trodAll_nil r1
  subst hnil
  obtain rfl : args = #[v0, v1] := by cases args; simp_all
  obtain ⟨rfl, rfl⟩ := trodVars_none hV
  obtain ⟨ca0, cb0, cc0, cd0, ce0, rfl⟩ := open_config h0
  have sz1 := fun n (hn : n ∈ d1.weights Tryd.prog 51) => of_decide_eq_true (List.all_eq_true.1 hsz n (DataW.weights_mem_each (j := 1) (t := 51) (d := d1) rfl rfl n hn))
  obtain ⟨a1, c1, l1, rfl, hr1, hl1, hm1, hw1⟩ := open_listWS Tryd.underlying51 (flat_act W) act_len' act_pos (hval 1 51 v1 rfl rfl) h1 sz1
  rw [MakeChecks.laidMetH_plain _ _ _ (by kernel_rfl)] at hL
  have hT := tabs_of hL hS
  have hB := bru_of hL
  refine (will_any W hT hB ca0 cb0 cc0 cd0 ce0 a1 c1 l1 hr1 (Nat.le_trans hl1 hm1) hw1).mono fun e W' ⟨he, hb⟩ => ?_
  subst he
  exact ⟨_, rfl, law_post laid_out (by decide +kernel) rfl rfl Tryd.underlying4 hW' hb rfl rfl rfl⟩

theorem sessionWill_holds : Rows.SessionWillSaid :=
  OpenClaim.holds_of_wide 4 Tryd.f4 rfl rfl rfl rfl rfl rfl rfl ⟨rfl, rfl, rfl, rfl, rfl⟩ rfl rfl rfl rfl rfl (by kernel_rfl) Tryd.func4 (by kernel_rfl)
    (of_decide_eq_true (by kernel_rfl)) (by unfold Func.isWrapper; first | (rw [if_pos (by decide +kernel)]; kernel_rfl) | (rw [if_neg (by decide +kernel)]; exact ⟨rfl, rfl⟩))
    (fun os started H enc _ => sessionWill_lifted os started H enc)
theorem sessionWill_card : Rows.SessionWillCardSaid :=
  Claim7.holds_tied_plain_at .later [] [.data, .data, .pinned] true (true, "3a98748e299e53d2ebbafdbfd9d0fd62470f249fa9b4eaa06fed3ffce9a7cb5e") false sessionWill_holds (fun _ h => by cases h) (by kernel_rfl) (fun _ h => by cases h) sessionWill_row_tie rfl ⟨rfl, rfl⟩ (by kernel_rfl) rfl
    (fun f fn hf hfn => by
      obtain rfl : f = 4 := Option.some.inj ((show Tryd.prog.funcNamed "relayhouse/relayhouselaw18.SessionWill" = some 4 by kernel_rfl).symm.trans hf) |>.symm
      obtain rfl : fn = Tryd.f4 := (Option.some.inj (Tryd.func4.symm.trans hfn)).symm
      exact ⟨by kernel_rfl, fun j t ht => by
        rw [Tryd.params4] at ht
        have hm : t ∈ [25, 51] := by simpa using Array.mem_of_getElem? ht
        have hall : ([25, 51].all fun u => !Tryd.prog.wantsStandIn u) = true := by kernel_rfl
        exact (show Tryd.prog.wantsStandIn t = false by simpa using List.all_eq_true.1 hall t hm)⟩)
    (by kernel_rfl)
end Go.Proofs.YtmkhagmjpbfieaaDoor
