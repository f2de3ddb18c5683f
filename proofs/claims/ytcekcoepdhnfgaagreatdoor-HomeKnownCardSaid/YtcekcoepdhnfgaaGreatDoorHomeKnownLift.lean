/- The walk, lifted to the row. -/
import Derived.Test.YtcekcoepdhnfgaaGreatDoorHKLk
import Derived.Test.YtcekcoepdhnfgaaGreatDoorTie
import Derived.Test.YtcekcoepdhnfgaaGreatDoorCards
import Derived.Test.YtcekcoepdhnfgaaGreatDoorHoClose
import Derived.SevenTiedAt
import Derived.Stop.Joined
namespace Go.Proofs.YtcekcoepdhnfgaaGreatDoor
open Go Go.ChangeShapes Go.WideShapes Go.ChangeAt Go.RowKit Go.WideMaps Go.WideElems
open Go.ChangeMaps (open_string shut_string)
set_option maxRecDepth 100000
theorem homeKnown_lifted (os:Os) (started:os.Started) (H:Type) (enc:TypeId × Value->H) :
  ReturnsInHanded {} Tryz.checked os 7 .any (fun w args=>(Rows.homeKnownSpec.pre enc Tryz.prog Tryz.f7 Rows.homeKnownRow.domain false w args/\laidMetH Tryz.prog Rows.homeKnownRow.laid w)/\sizedMet enc Tryz.prog Tryz.f7 (OpenSpec.ofChange Rows.homeKnownSpec) false w args)
   (Rows.homeKnownSpec.post enc Tryz.prog Tryz.f7 false true false false):=by
 refine returns_shaped (C:=Tryz.checked) (X:=fun w _=>laidMetH Tryz.prog Rows.homeKnownRow.laid w) (fun _ _ _ hh h=>h.of_heap hh) own_none started (by kernel_rfl) Tryz.func7
  (ChangeSpec.witness_shaped (enc:=enc) (C:=Tryz.checked) (os:=os) (X:=fun w _=>laidMetH Tryz.prog Rows.homeKnownRow.laid w) false (World.laidAll Tryz.prog os Rows.homeKnownRow.laid) #[] 8 (World.laidAll_os _ _ _)
   (World.shaped_of_ZipB (by kernel_rfl) (by kernel_rfl)) (by kernel_rfl) (by kernel_rfl) (by kernel_rfl)
   (by rw [MakeChecks.laidMetH_plain _ _ _ (by kernel_rfl)];exact laidMet_laidAll _ (by kernel_rfl) (by kernel_rfl))) ?_
 intro W base args ds gs before hval0 hW hL hS;have hval:∀ (j:Nat) t v,Tryz.f7.params[j]? = some t->args[j]? = some v->Value.okWide Tryz.prog W .any base t v:=hval0;have hW':=hW;obtain ⟨p,q,hA0,hV,rfl,hfz,hnd⟩:=hW;have hA:DataW.TrodAll enc Tryz.prog W 0 (fun _=>true) true Tryz.f7.params.toList args.toList ds p:=hA0;rw [Tryz.params7] at hA hval;obtain ⟨hnil,rfl,rfl⟩:=trodAll_nil hA;obtain rfl:args = #[]:=by cases args;simp_all
 obtain ⟨rfl,rfl⟩:=trodVars_none hV;rw [MakeChecks.laidMetH_plain _ _ _ (by kernel_rfl)] at hL;have hT:=tabs_of hL hS;have hB:=bru_of hL;refine (homeKnown_any W ⟨hT,hB⟩).mono fun e W' ⟨he,hb⟩ => ?_
 subst he;exact ⟨_,rfl,law_post laid_out (by decide +kernel) rfl rfl Tryz.underlying4 hW' hb rfl rfl rfl⟩
end Go.Proofs.YtcekcoepdhnfgaaGreatDoor
