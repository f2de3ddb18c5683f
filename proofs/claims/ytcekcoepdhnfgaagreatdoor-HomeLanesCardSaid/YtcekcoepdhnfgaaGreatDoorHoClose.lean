/- How a call is entered and left. -/
import Derived.Test.YtcekcoepdhnfgaaGreatDoorOpen
import Derived.Test.YtcekcoepdhnfgaaGreatDoorClose
import Derived.Test.YtcekcoepdhnfgaaGreatDoorKRefX
import Derived.Test.YtcekcoepdhnfgaaGreatDoorIdX
import Derived.Test.YtcekcoepdhnfgaaGreatDoorPkI
import Derived.Test.YtcekcoepdhnfgaaGreatDoorRows
import Derived.HandedShaped
import Derived.Lib.LaidU8
import Derived.LaidMore
import Derived.Lay
import Derived.LaidOnce
namespace Go.Proofs.YtcekcoepdhnfgaaGreatDoor
open Go Go.ChangeShapes Go.WideShapes Go.ChangeAt Go.RowKit Go.WideMaps Go.WideElems Go.Joins
open Go.ChangeMaps (open_string shut_string)
section
variable {H:Type} {enc:TypeId × Value->H}
theorem returns_shaped {a:Assume} {C:Checked} {os:Os} {f:FuncId} {fn:Func} {s:ChangeSpec} {conds:List PathCond} {apart fresh handsOn again:Bool} {X:World->Array Value->Prop}
  (hX:∀ (w w':World) (args:Array Value),w.heap=w'.heap->X w args->X w' args)
  (own:ownKnob C.prog.godebug=none) (started:os.Started) (noInit:C.prog.inits.idxOf? f=none) (hfn:C.prog.funcs[f]? = some fn)
  (witness:∃ (w:World) (tape:Tape) (i:Input),w.os=os/\(w.forCall tape i).Shaped C.prog/\i.vars = []/\Input.okWide C.prog (w.forCall tape i) .any w.heap.size f i ∧
   ((s.pre enc C.prog fn conds apart (w.forCall tape i).memory i.args/\X (w.forCall tape i).memory i.args)/\sizedMet enc C.prog fn (OpenSpec.ofChange s) apart (w.forCall tape i).memory i.args)/\a.holds C.prog (lone (Frame.enter C.prog f i.args .normal) [] (w.forCall tape i)))
  (contract:∀ (W:World) (base:Nat) (args:Array Value) (ds gs:List (DataW H)) (before:List MemPlace),
   (∀ (j:Nat) t v,fn.params[j]? = some t->args[j]? = some v->Value.okWide C.prog W .any base t v) →
   DataW.Whole enc C.prog fn.params.toList s.vars apart W args.toList ds gs before->X W args->W.ShapedOpen C.prog →
   Calls C.prog f args W fun e W' => ∃ v,e = .returned v/\s.post enc C.prog fn apart fresh handsOn again W args v W') :
  ReturnsInHanded a C os f .any (fun w args=>(s.pre enc C.prog fn conds apart w args/\X w args)/\sizedMet enc C.prog fn (OpenSpec.ofChange s) apart w args) (s.post enc C.prog fn apart fresh handsOn again):=by
 refine returnsInHanded_of_calls own started noInit witness ?_;intro w tape i _ hsh _ hok hpre _;obtain ⟨_,_,_,fn',hfn',_,_,_,_,hval⟩:=hok;have e:fn'=fn:=Option.some.inj (hfn'.symm.trans hfn);subst e;obtain ⟨⟨⟨ds,gs,before,hw,hc⟩,hx⟩,hz⟩:=hpre;have hw':=DataW.Whole.of_heap (w':=w.forCall tape i) (by rfl) hw;refine (contract (w.forCall tape i) w.heap.size i.args ds gs before hval hw' (hX _ _ _ (by rfl) hx) hsh).mono fun e W' ⟨v,he,hp⟩ => ?_
 subst he;exact ChangeSpec.post_blind hp
end
theorem first_eq:Pinned.utf8First=Lib.firstData:=by kernel_rfl
theorem accept_eq:Rows.laid_unicode_utf8_acceptRanges (H:=Unit)=Lib.acceptData:=by kernel_rfl
theorem bru_eq:Rows.laid_math_bits_deBruijn64tab (H:=Unit)=Lib.tabData .u8 (bruL.map Int.ofNat):=by kernel_rfl
def laids:List (String × DataW Unit):=[("math/bits.deBruijn64tab", Rows.laid_math_bits_deBruijn64tab),("unicode/utf8.acceptRanges", Rows.laid_unicode_utf8_acceptRanges),("unicode/utf8.first", Rows.laid_unicode_utf8_first)]
theorem tabs_of {W:World} (hL:laidMet Tryz.prog laids W) (hS:W.ShapedOpen Tryz.prog):Tabs W:=
 ⟨utf8Tabs_of_reads (ρ:=Tryz.lays197_ren) { Tryz.lays197 with } ⟨by kernel_rfl,by kernel_rfl,by kernel_rfl,by kernel_rfl,by kernel_rfl,by kernel_rfl,by kernel_rfl⟩
  (first_eq ▸ Lib.laidMet.reads hL (.tail _ (.tail _ (.head _)))) (accept_eq ▸ Lib.laidMet.reads hL (.tail _ (.head _))),Tryz.laysM146.s1_3 W hS⟩
theorem bru_of {W:World} (hL:laidMet Tryz.prog laids W):Bru W:=by
 unfold laids at hL;rw [bru_eq] at hL;have h:=Lib.tabIs_of_head (g:=0) (t:=342) (e:=5) (n:=64) (by kernel_rfl) (by kernel_rfl) Tryz.underlying342 Tryz.underlying5 (by kernel_rfl) (by kernel_rfl) hL;intro c hc;have hc':c < bruL.length:=hc;have hl:c < (bruL.map Int.ofNat).length:=by rw [List.length_map];exact hc
 rw [h.cell (g:=0) (by kernel_rfl) c hl];simp [List.getD,List.getElem?_eq_getElem hc']
theorem open_config {H:Type} {enc:TypeId × Value->H} {W:World} {base:Nat} {sp:Nat->Bool} {held:Bool} {v:Value} {d:DataW H} {ps:List MemPlace} (h:DataW.Trod enc Tryz.prog W base sp held 23 v d ps) :
  ∃ a b c d e:Int,v = .agg #[.int .i64 a,.int .i64 b,.int .i64 c,.int .i64 d,.int .i64 e]:=by
 obtain ⟨fuel,hf⟩:=h;obtain ⟨n,hl,hf⟩:=trod_field Tryz.underlying23 hf;rw [show Tryz.prog.cellsOf 23 = 5 by kernel_rfl] at hl;generalize hcs:v.cells.toList=cs at *;obtain ⟨c0,r0,rfl,hl0⟩:=len_succ hl;obtain ⟨c1,r1,rfl,hl1⟩:=len_succ hl0;obtain ⟨c2,r2,rfl,hl2⟩:=len_succ hl1;obtain ⟨c3,r3,rfl,hl3⟩:=len_succ hl2;obtain ⟨c4,r4,rfl,hl4⟩:=len_succ hl3;obtain rfl:=List.eq_nil_of_length_eq_zero hl4;have z1:Tryz.prog.cellsOf 3 = 1:=by kernel_rfl
 obtain ⟨y0,h0⟩:=hf 0 _ rfl;obtain ⟨y1,h1⟩:=hf 1 _ rfl;obtain ⟨y2,h2⟩:=hf 2 _ rfl;obtain ⟨y3,h3⟩:=hf 3 _ rfl;obtain ⟨y4,h4⟩:=hf 4 _ rfl;simp only [z1,List.getElem_toArray,List.getElem_cons_zero,List.getElem_cons_succ,List.drop_zero,List.drop_succ_cons,List.take_succ_cons,List.take_zero] at h0 h1 h2 h3 h4;obtain ⟨v0,e0,-⟩:=DataW.trod_int Tryz.underlying3 h0;obtain ⟨v1,e1,-⟩:=DataW.trod_int Tryz.underlying3 h1;obtain ⟨v2,e2,-⟩:=DataW.trod_int Tryz.underlying3 h2;obtain ⟨v3,e3,-⟩:=DataW.trod_int Tryz.underlying3 h3;obtain ⟨v4,e4,-⟩:=DataW.trod_int Tryz.underlying3 h4;simp only [List.cons.injEq,and_true] at e0 e1 e2 e3 e4;subst e0 e1 e2 e3 e4;refine ⟨v0,v1,v2,v3,v4,?_⟩
 cases v <;> simp [Value.cells] at hcs
 rename_i cs
 rw [show cs = #[.int .i64 v0,.int .i64 v1,.int .i64 v2,.int .i64 v3,.int .i64 v4] from Array.toList_inj.1 (by simpa using hcs)]
end Go.Proofs.YtcekcoepdhnfgaaGreatDoor
