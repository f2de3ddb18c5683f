/- The walk, lifted to the row. -/
import Derived.Test.YtcekcoepdhnfgaaGreatDoorHKLa
import Derived.Test.YtcekcoepdhnfgaaGreatDoorTie
import Derived.Test.YtcekcoepdhnfgaaGreatDoorCards
import Derived.Test.YtcekcoepdhnfgaaGreatDoorHoClose
import Derived.SevenTiedAt
import Derived.Stop.Joined
namespace Go.Proofs.YtcekcoepdhnfgaaGreatDoor
open Go Go.ChangeShapes Go.WideShapes Go.ChangeAt Go.RowKit Go.WideMaps Go.WideElems
open Go.ChangeMaps (open_string shut_string)
set_option maxRecDepth 100000
theorem homeLanes_lifted (os:Os) (started:os.Started) (H:Type) (enc:TypeId × Value->H) :
  ReturnsInHanded {} Tryz.checked os 3 .any (fun w args=>(Rows.homeLanesSpec.pre enc Tryz.prog Tryz.f3 Rows.homeLanesRow.domain false w args/\laidMetH Tryz.prog Rows.homeLanesRow.laid w)/\sizedMet enc Tryz.prog Tryz.f3 (OpenSpec.ofChange Rows.homeLanesSpec) false w args)
   (Rows.homeLanesSpec.post enc Tryz.prog Tryz.f3 false true false false):=by
 refine returns_shaped (C:=Tryz.checked) (X:=fun w _=>laidMetH Tryz.prog Rows.homeLanesRow.laid w) (fun _ _ _ hh h=>h.of_heap hh) own_none started (by kernel_rfl) Tryz.func3
  (ChangeSpec.witness_shaped (enc:=enc) (C:=Tryz.checked) (os:=os) (X:=fun w _=>laidMetH Tryz.prog Rows.homeLanesRow.laid w) false (World.laidAll Tryz.prog os Rows.homeLanesRow.laid) #[.agg #[.int .i64 0,.int .i64 0,.int .i64 0,.int .i64 0,.int .i64 0],.int .i64 0,.slice none 0 0] 8 (World.laidAll_os _ _ _)
   (World.shaped_of_ZipB (by kernel_rfl) (by kernel_rfl)) (by kernel_rfl) (by kernel_rfl) (by kernel_rfl)
   (by rw [MakeChecks.laidMetH_plain _ _ _ (by kernel_rfl)];exact laidMet_laidAll _ (by kernel_rfl) (by kernel_rfl))) ?_
 intro W base args ds gs before hval0 hW hL hS;have hval:∀ (j:Nat) t v,Tryz.f3.params[j]? = some t->args[j]? = some v->Value.okWide Tryz.prog W .any base t v:=hval0;have hW':=hW;obtain ⟨p,q,hA0,hV,rfl,hfz,hnd⟩:=hW;have hA:DataW.TrodAll enc Tryz.prog W 0 (fun _=>true) true Tryz.f3.params.toList args.toList ds p:=hA0;rw [Tryz.params3] at hA hval;obtain ⟨v0,vs0,d0,ds0,p0,q0,hargs0,rfl,rfl,h0,r0⟩:=trodAll_cons hA;obtain ⟨v1,vs1,d1,ds1,p1,q1,hargs1,rfl,rfl,h1,r1⟩:=trodAll_cons r0;subst hargs1;obtain ⟨v2,vs2,d2,ds2,p2,q2,hargs2,rfl,rfl,h2,r2⟩:=trodAll_cons r1;subst hargs2;obtain ⟨hnil,rfl,rfl⟩:=trodAll_nil r2;subst hnil;obtain rfl:args = #[v0,v1,v2]:=by cases args;simp_all
 obtain ⟨rfl,rfl⟩:=trodVars_none hV;obtain ⟨ca0,cb0,cc0,cd0,ce0,rfl⟩:=open_config h0;obtain ⟨n1,rfl,rfl,rfl,w1⟩:=open_int Tryz.underlying3 (hval 1 3 v1 rfl rfl) h1;have b1:-9223372036854775808<=n1/\n1<=9223372036854775807:=by simpa [Lit.wf,IntKind.min,IntKind.max,IntKind.signed,IntKind.bits] using w1
 obtain ⟨a2,c2,l2,rfl,hr2,hl2,hm2,hw2⟩:=open_listW Tryz.underlying24 (flat_item W) item_len' item_pos (hval 2 24 v2 rfl rfl) h2;rw [MakeChecks.laidMetH_plain _ _ _ (by kernel_rfl)] at hL;have hT:=tabs_of hL hS;have hB:=bru_of hL;refine (homeLanes_any ca0 cb0 cc0 cd0 ce0 n1 a2 c2 l2 W hr2 (Nat.le_trans hl2 hm2) hw2 b1 ⟨hT,hB⟩).mono fun e W' ⟨he,hb⟩ => ?_
 subst he;exact ⟨_,rfl,law_post laid_out (by decide +kernel) rfl rfl Tryz.underlying4 hW' hb rfl rfl rfl⟩
end Go.Proofs.YtcekcoepdhnfgaaGreatDoor
