/- SessionPlays: where the three tables of Go lie as its text lays them, it returns true whatever it is given, and leaves that as it was; the card ties the tables to the text. -/
import Derived.Test.YtmkhagmjpbfieaaGreatDoorDStX
import Derived.Test.YtmkhagmjpbfieaaGreatDoorTie
import Derived.Test.YtmkhagmjpbfieaaGreatDoorCards
import Derived.Test.YtmkhagmjpbfieaaGreatDoorSeCX
import Derived.SevenTiedAt
import Derived.Stop.Joined
namespace Go.Proofs.YtmkhagmjpbfieaaGreatDoor
open Go Go.ChangeShapes Go.WideShapes Go.ChangeAt Go.RowKit Go.WideMaps Go.WideElems
open Go.ChangeMaps (open_string shut_string)

set_option maxRecDepth 100000 in
theorem sessionPlays_lifted (os : Os) (started : os.Started) (H : Type) (enc : TypeId × Value → H) :
    ReturnsInHanded {} Tryz.checked os 3 .any (fun w args => (Rows.sessionPlaysSpec.pre enc Tryz.prog Tryz.f3 Rows.sessionPlaysRow.domain false w args ∧ laidMetH Tryz.prog Rows.sessionPlaysRow.laid w) ∧ sizedMet enc Tryz.prog Tryz.f3 (OpenSpec.ofChange Rows.sessionPlaysSpec) false w args)
      (Rows.sessionPlaysSpec.post enc Tryz.prog Tryz.f3 false true false false) := by
  refine returns_sized (C := Tryz.checked) (X := fun w _ => laidMetH Tryz.prog Rows.sessionPlaysRow.laid w) (fun _ _ _ hh h => h.of_heap hh) own_none started (by kernel_rfl) Tryz.func3
    (ChangeSpec.witness_shaped (enc := enc) (C := Tryz.checked) (os := os) (X := fun w _ => laidMetH Tryz.prog Rows.sessionPlaysRow.laid w) false (World.laidAll Tryz.prog os Rows.sessionPlaysRow.laid) #[.string ByteArray.empty, .agg #[.int .i64 0, .int .i64 0, .int .i64 0, .int .i64 0, .int .i64 0], .slice none 0 0] 8 (World.laidAll_os _ _ _)
      (World.shaped_of_ZipB (by kernel_rfl) (by kernel_rfl)) (by kernel_rfl) (by kernel_rfl) (by kernel_rfl)
      (by rw [MakeChecks.laidMetH_plain _ _ _ (by kernel_rfl)]; exact laidMet_laidAll _ (by kernel_rfl) (by kernel_rfl))) ?_
  intro W base args ds gs before hval0 hW hL hS hsz
  have hval : ∀ (j : Nat) t v, Tryz.f3.params[j]? = some t → args[j]? = some v → Value.okWide Tryz.prog W .any base t v := hval0
  have hW' := hW
  obtain ⟨p, q, hA0, hV, rfl, hfz, hnd⟩ := hW
  have hA : DataW.TrodAll enc Tryz.prog W 0 (fun _ => true) true Tryz.f3.params.toList args.toList ds p := hA0
  rw [Tryz.params3] at hA hval
  obtain ⟨v0, vs0, d0, ds0, p0, q0, hargs0, rfl, rfl, h0, r0⟩ := trodAll_cons hA
  obtain ⟨v1, vs1, d1, ds1, p1, q1, hargs1, rfl, rfl, h1, r1⟩ := trodAll_cons r0
  subst hargs1
  obtain ⟨v2, vs2, d2, ds2, p2, q2, hargs2, rfl, rfl, h2, r2⟩ := trodAll_cons r1
  subst hargs2
  obtain ⟨hnil, rfl, rfl⟩ := trodAll_nil r2
  subst hnil
  obtain rfl : args = #[v0, v1, v2] := by cases args; simp_all
  obtain ⟨rfl, rfl⟩ := trodVars_none hV
  obtain ⟨s0, rfl, rfl, rfl, ws0⟩ := open_string Tryz.underlying9 (hval 0 9 v0 rfl rfl) h0
  obtain ⟨ca1, cb1, cc1, cd1, ce1, rfl⟩ := open_config h1
  have sz2 := fun n (hn : n ∈ d2.weights Tryz.prog 24) => of_decide_eq_true (List.all_eq_true.1 hsz n (DataW.weights_mem_each (j := 2) (t := 24) (d := d2) rfl rfl n hn))
  obtain ⟨a2, c2, l2, rfl, hr2, hl2, hm2, hw2⟩ := open_listWS Tryz.underlying24 (flat_act W) act_len' act_pos (hval 2 24 v2 rfl rfl) h2 sz2
  rw [MakeChecks.laidMetH_plain _ _ _ (by kernel_rfl)] at hL
  have hT := tabs_of hL hS
  have hB := bru_of hL
  refine (plays18_any W hT hB s0 ca1 cb1 cc1 cd1 ce1 a2 c2 l2 hr2 (Nat.le_trans hl2 hm2) hw2).mono fun e W' ⟨he, hb⟩ => ?_
  subst he
  exact ⟨_, rfl, law_post laid_out (by decide +kernel) rfl rfl Tryz.underlying4 hW' hb rfl rfl rfl⟩

theorem sessionPlays_holds : Rows.SessionPlaysSaid :=
  OpenClaim.holds_of_wide 3 Tryz.f3 rfl rfl rfl rfl rfl rfl rfl ⟨rfl, rfl, rfl, rfl, rfl⟩ rfl rfl rfl rfl rfl (by kernel_rfl) Tryz.func3 (by kernel_rfl)
    (of_decide_eq_true (by kernel_rfl)) (by unfold Func.isWrapper; first | (rw [if_pos (by decide +kernel)]; kernel_rfl) | (rw [if_neg (by decide +kernel)]; exact ⟨rfl, rfl⟩))
    (fun os started H enc _ => sessionPlays_lifted os started H enc)
theorem sessionPlays_card : Rows.SessionPlaysCardSaid :=
  Claim7.holds_tied_plain_at .later [] [.data, .data, .pinned] true (true, "f1c89f3b416e2a46b0fa4045cfe4f1ca62316c45b8b6741a5e22fdf79b8bc300") false sessionPlays_holds (fun _ h => by cases h) (by kernel_rfl) (fun _ h => by cases h) sessionPlays_row_tie rfl ⟨rfl, rfl⟩ (by kernel_rfl) rfl
    (fun f fn hf hfn => by
      obtain rfl : f = 3 := Option.some.inj ((show Tryz.prog.funcNamed "relayhouse/relayhouselaw18.SessionPlays" = some 3 by kernel_rfl).symm.trans hf) |>.symm
      obtain rfl : fn = Tryz.f3 := (Option.some.inj (Tryz.func3.symm.trans hfn)).symm
      exact ⟨by kernel_rfl, fun j t ht => by
        rw [Tryz.params3] at ht
        have hm : t ∈ [9, 23, 24] := by simpa using Array.mem_of_getElem? ht
        have hall : ([9, 23, 24].all fun u => !Tryz.prog.wantsStandIn u) = true := by kernel_rfl
        exact (show Tryz.prog.wantsStandIn t = false by simpa using List.all_eq_true.1 hall t hm)⟩)
    (by kernel_rfl)
end Go.Proofs.YtmkhagmjpbfieaaGreatDoor
