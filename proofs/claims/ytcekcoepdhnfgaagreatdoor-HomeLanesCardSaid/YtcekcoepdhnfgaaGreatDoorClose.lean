/- The laying of the tables. -/
import Derived.Test.YtcekcoepdhnfgaaGreatDoorRows
import Derived.Test.YtcekcoepdhnfgaaGreatDoorLib
import Derived.ProofKit
import Derived.OpenShut
import Derived.ShutString
namespace Go.Proofs.YtcekcoepdhnfgaaGreatDoor
open Go Go.ChangeShapes Go.WideShapes Go.ChangeAt Go.RowKit Go.WideMaps Go.WideElems
open Go.ChangeMaps (open_string shut_string)
section
variable {H:Type} {enc:TypeId × Value->H} {P:Program}
theorem trodAll_stays (hl:laidOutB P=true) {W W':World} (hb:Below W.heap.size W W'):∀ (ts:List TypeId) (vs:List Value) (ds:List (DataW H)) (ps:List MemPlace),
  (∀ t ∈ ts,P.readableRec t=true/\t < P.types.size)->DataW.TrodAll enc P W 0 (fun _=>true) true ts vs ds ps->(∀ x ∈ ps,x.block < W.heap.size) →
  ∀ sp:Nat->Bool,(∀ x ∈ ps,sp x.block=true)->DataW.TrodAll enc P W' 0 sp true ts vs ds ps:=by
 intro ts
 induction ts with
 | nil =>
  intro vs ds ps _ h _ sp _;obtain ⟨rfl,rfl,rfl⟩:=trodAll_nil h
  rfl
 | cons t ts ih =>
  intro vs ds ps ht h hlt sp hsp;obtain ⟨v,vs',d,ds',p,q,rfl,rfl,rfl,h0,h1⟩:=trodAll_cons h;obtain ⟨hr,hrow⟩:=ht t (by simp)
  exact trodAll_cons_mk (Trod_stays hl hr hrow h0 (fun x hx=>hb.same (hlt x (by simp [hx]))) (fun x hx=>hsp x (by simp [hx])))
   (ih vs' ds' q (fun t ht'=>ht t (by simp [ht'])) h1 (fun x hx=>hlt x (by simp [hx])) sp (fun x hx=>hsp x (by simp [hx])))
theorem law_post {f:Func} {s:ChangeSpec} {apart fresh handsOn again:Bool} {W W':World} {args:Array Value} {ds gs:List (DataW H)} {before:List MemPlace} {tb:TypeId}
  (hl:laidOutB P=true) (htys:∀ t ∈ f.params.toList,P.readableRec t=true/\t < P.types.size) (hvars:s.vars = []) (hrt:f.resultTypes = #[tb]) (hu:P.underlying tb=some .bool)
  (hW:DataW.Whole enc P f.params.toList s.vars apart W args.toList ds gs before) (hb:Below W.heap.size W W')
  (hr:(s.fn H (ds++gs)).results = [.lit (.bool true)]) (ha:(s.fn H (ds++gs)).args=ds) (hv:(s.fn H (ds++gs)).vars = []) :
  s.post enc P f apart fresh handsOn again W args (.bool true) W':=by
 have hWlt:=hW.lt;obtain ⟨p,q,hA,hV,hpq,hz,hn⟩:=id hW;rw [hvars] at hV;obtain ⟨hgs,hq⟩:=trodVars_none hV;have hbp:before=p:=by rw [hpq,hq];simp
 have hargs:∀ sp:Nat->Bool,(∀ x ∈ before,sp x.block=true)->DataW.TrodAll enc P W' 0 sp true f.params.toList args.toList (s.fn H (ds++gs)).args p:=by
  intro sp hsp;rw [ha];exact trodAll_stays hl hb _ _ _ _ htys hA (fun x hx=>hWlt x (hbp ▸ hx)) sp (fun x hx=>hsp x (hbp ▸ hx))
 have hres:∀ (b:Nat) (sp:Nat->Bool) (hd:Bool),DataW.TrodAll enc P W' b sp hd f.resultTypes.toList ((Value.bool true).resultList f.resultTypes.size) (s.fn H (ds++gs)).results []:=by
  intro b sp hd;rw [hr,hrt];exact trodAll_mk1 (shut_bool hu true)
 have hvs:∀ sp:Nat->Bool,(∀ x ∈ before,sp x.block=true)->DataW.TrodVars enc P W' sp s.vars (s.fn H (ds++gs)).vars []:=by
  intro sp _;rw [hvars,hv]
  rfl
 have hold:∀ x ∈ before,(fun b=>decide (b < W.heap.size)) x.block=true:=fun x hx=>by simpa using hWlt x hx
 refine ⟨ds,gs,before,[],p,[],hW,hres _ _ _,hargs _ hold,hvs _ hold,World.keptBut_mono (fun x hx=>⟨hx,?_⟩) (hb.frame (· ∈ before)),fun _ => ?_⟩
 ·rw [hbp] at hx;exact Or.inr (.inl hx)
 ·refine ⟨?_,_,_,([]++p) ++ [],⟨[]++p,[],trodAll_append (hargs _ (fun _ _=>rfl)) (hres _ _ _),hvs _ (fun _ _=>rfl),rfl,?_,?_⟩,?_⟩
  ·intro j t r h1 h2
   rw [hrt] at h1 h2
   cases j with
   | zero =>
    simp at h1 h2;subst h1;have:r = .bool true:=by simpa [Value.resultList] using h2.symm
    subst this;exact okWide_bool_mk hu true
   | succ j=>simp at h1
  ·intro b off hp
   have hin:MemPlace.cell b off ∈ before:=by rw [hbp];simpa using hp
   rw [hb.frozen (hWlt _ hin)];exact hz b off hin
  ·intro ha
   have:=hn ha;rw [hbp] at this
   simpa using this
  ·intro x hx _
   rw [hbp]
   simpa using hx
end
theorem own_none:ownKnob Tryz.prog.godebug=none:=by kernel_rfl
theorem laid_out:laidOutB Tryz.prog=true:=by kernel_rfl
end Go.Proofs.YtcekcoepdhnfgaaGreatDoor
