/- KeepFinds: where the two tables of Go lie as its text lays them, it returns true whatever it is given, and leaves that as it was; the card ties the tables to the text. -/
import Derived.Test.YtagjlmpmbflmhaaDoorKFinds
import Derived.Test.YtagjlmpmbflmhaaDoorTie
import Derived.Test.YtagjlmpmbflmhaaDoorCards
import Derived.Test.YtagjlmpmbflmhaaDoorKClose
import Derived.Test.YtagjlmpmbflmhaaDoorKFind2
import Derived.SevenTiedAt
import Derived.Stop.Joined
namespace Go.Proofs.YtagjlmpmbflmhaaDoor
open Go Go.ChangeShapes Go.WideShapes Go.ChangeAt Go.RowKit Go.WideMaps Go.WideElems
open Go.ChangeMaps (open_string shut_string)

set_option maxRecDepth 100000 in
theorem keepFinds_lifted (os : Os) (started : os.Started) (H : Type) (enc : TypeId × Value → H) :
    ReturnsInHanded {} Tryd.checked os 3 .any (fun w args => (Rows.keepFindsSpec.pre enc Tryd.prog Tryd.f3 Rows.keepFindsRow.domain false w args ∧ laidMetH Tryd.prog Rows.keepFindsRow.laid w) ∧ sizedMet enc Tryd.prog Tryd.f3 (OpenSpec.ofChange Rows.keepFindsSpec) false w args)
      (Rows.keepFindsSpec.post enc Tryd.prog Tryd.f3 false true false false) := by
  refine returns_shaped (C := Tryd.checked) (X := fun w _ => laidMetH Tryd.prog Rows.keepFindsRow.laid w) (fun _ _ _ hh h => h.of_heap hh) own_none started (by kernel_rfl) Tryd.func3
    (ChangeSpec.witness_shaped (enc := enc) (C := Tryd.checked) (os := os) (X := fun w _ => laidMetH Tryd.prog Rows.keepFindsRow.laid w) false (World.laidAll Tryd.prog os Rows.keepFindsRow.laid) #[.slice none 0 0, .slice none 0 0] 8 (World.laidAll_os _ _ _)
      (World.shaped_of_ZipB (by kernel_rfl) (by kernel_rfl)) (by kernel_rfl) (by kernel_rfl) (by kernel_rfl)
      (by rw [MakeChecks.laidMetH_plain _ _ _ (by kernel_rfl)]; exact laidMet_laidAll _ (by kernel_rfl) (by kernel_rfl))) ?_
  intro W base args ds gs before hval0 hW hL hS
  have hval : ∀ (j : Nat) t v, Tryd.f3.params[j]? = some t → args[j]? = some v → Value.okWide Tryd.prog W .any base t v := hval0
  have hW' := hW
  obtain ⟨p, q, hA0, hV, rfl, hfz, hnd⟩ := hW
  have hA : DataW.TrodAll enc Tryd.prog W 0 (fun _ => true) true Tryd.f3.params.toList args.toList ds p := hA0
  rw [Tryd.params3] at hA hval
  obtain ⟨v0, vs0, d0, ds0, p0, q0, hargs0, rfl, rfl, h0, r0⟩ := trodAll_cons hA
  obtain ⟨v1, vs1, d1, ds1, p1, q1, hargs1, rfl, rfl, h1, r1⟩ := trodAll_cons r0
  subst hargs1
  obtain ⟨hnil, rfl, rfl⟩ := trodAll_nil r1
  subst hnil
  obtain rfl : args = #[v0, v1] := by cases args; simp_all
  obtain ⟨rfl, rfl⟩ := trodVars_none hV
  obtain ⟨a0, c0, l0, rfl, hr0, hl0, hm0, hw0⟩ := open_list Tryd.underlying22 flat_msg msg_len msg_pos (hval 0 22 v0 rfl rfl) h0
  obtain ⟨a1, c1, l1, rfl, hr1, hl1, hm1, hw1⟩ := open_list Tryd.underlying23 flat_str str_len str_pos (hval 1 23 v1 rfl rfl) h1
  rw [MakeChecks.laidMetH_plain _ _ _ (by kernel_rfl)] at hL
  have hT := tabs_of hL hS
  refine (finds_true a0 c0 l0 a1 c1 l1 W hr0 hr1 hT (Nat.le_trans hl0 hm0) (fun m hm => by obtain ⟨-, -, h3, h4⟩ := hw0 m hm; exact ⟨h3, by omega⟩)).mono fun e W' ⟨he, hb⟩ => ?_
  subst he
  exact ⟨_, rfl, law_post laid_out (by decide +kernel) rfl rfl Tryd.underlying4 hW' hb rfl rfl rfl⟩

theorem keepFinds_holds : Rows.KeepFindsSaid :=
  OpenClaim.holds_of_wide 3 Tryd.f3 rfl rfl rfl rfl rfl rfl rfl ⟨rfl, rfl, rfl, rfl, rfl⟩ rfl rfl rfl rfl rfl (by kernel_rfl) Tryd.func3 (by kernel_rfl)
    (of_decide_eq_true (by kernel_rfl)) (by unfold Func.isWrapper; first | (rw [if_pos (by decide +kernel)]; kernel_rfl) | (rw [if_neg (by decide +kernel)]; exact ⟨rfl, rfl⟩))
    (fun os started H enc _ => keepFinds_lifted os started H enc)
theorem keepFinds_card : Rows.KeepFindsCardSaid :=
  Claim7.holds_tied_plain_at .later [] [.data, .pinned] true (true, "dc038996ee5d5b25cd92bb404007bf97f591960ca078ad87f9846cb3358f7802") false keepFinds_holds (fun _ h => by cases h) (by kernel_rfl) (fun _ h => by cases h) keepFinds_row_tie rfl ⟨rfl, rfl⟩ (by kernel_rfl) rfl
    (fun f fn hf hfn => by
      obtain rfl : f = 3 := Option.some.inj ((show Tryd.prog.funcNamed "relayhouse/relayhouselaw10.KeepFinds" = some 3 by kernel_rfl).symm.trans hf) |>.symm
      obtain rfl : fn = Tryd.f3 := (Option.some.inj (Tryd.func3.symm.trans hfn)).symm
      exact ⟨by kernel_rfl, fun j t ht => by
        rw [Tryd.params3] at ht
        have hm : t ∈ [22, 23] := by simpa using Array.mem_of_getElem? ht
        have hall : ([22, 23].all fun u => !Tryd.prog.wantsStandIn u) = true := by kernel_rfl
        exact (show Tryd.prog.wantsStandIn t = false by simpa using List.all_eq_true.1 hall t hm)⟩)
    (by kernel_rfl)
end Go.Proofs.YtagjlmpmbflmhaaDoor
