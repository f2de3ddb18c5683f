/- attach, closed, loses, puts. -/
import Derived.Test.YtcekcoepdhnfgaaGreatDoorHEC
import Derived.Test.YtcekcoepdhnfgaaGreatDoorStB
import Derived.Maps.AppendAt
import Derived.Test.YtcekcoepdhnfgaaGreatDoorOutY
namespace Go.Proofs.YtcekcoepdhnfgaaGreatDoor
section
open Go Go.RowKit Go.Maps
theorem step_spreadG {P:Program} {t e:TypeId} {z:Value} {size bytes:Nat} (E:ElemT P t e z size bytes) {W:World} {B:Nat} {v:Value} {n:Nat} {xs:List Value} (hown:W.ownsRow B e size v n xs)
  {ad:Option Addr} {ys:List Value} {m c:Nat} (hrow:Row W ad ys)
  {ops:Array Oper} {o:Oper} {a:Go.Act} {K:Go.Act->World->Prop} {Q:Exit->Go.Act->World->Prop} {E':Prop} (hgd:o.guard=none) {s x:Operand}
  (ho:o.op = .call { callee:=.builtin .append,args:=#[s,x],argTypes:=#[t,t] }) (hs:a.eval s=v) (hx:a.eval x = .slice ad m c)
  (hc:ys.length=m * size) (h1:∀ u ∈ ys,u.oneCell'=true) (hbytes:(n+m) * bytes<=140737488355328) (hn:n+m < 140737488355328) (hB:B<=W.heap.size)
  (h:∀ v' w',w'.ownsRow B e size v' (n+m) (xs++ys)->W.grownBy w' v.ownBlock->(v'.ownBlock=v.ownBlock \/ v'.ownBlock=some W.heap.size)->K (a.put o.dst v') w') :
  if Region.wanted o (yielded ops a.tmps)=true then Oper.wp P o a W K Q else E':=by
 obtain ⟨i0,hi,hz0,hz1,hz2⟩:=info_parts E.hi;have hw:Region.wanted o (yielded ops a.tmps)=true:=by simp [Region.wanted,hgd]
 rw [if_pos hw]
 have own:∀ (ad':Addr),ad=some ad'->(∀ j u,ys[j]? = some u->W.cell? (ad'.add j)=some u)->Oper.wp P o a W K Q:=by
  intro ad' e hcell;subst e;obtain ⟨v',w',hrun,r1,r2,-,r3⟩:=run_append_own_at (P:=P) (w:=W) B t o.type e i0 z size bytes E.ht hi hz0 hz1 hz2 E.hzs E.hsz v n xs hown ad' m c ys hc hcell h1 (by unfold maxLen;omega) hbytes hB;unfold Oper.wp;simp [execOp,ho,resolve,invoke,builtin,hs,hx,hrun,Result.andThen];exact h v' w' r1 r2 r3
 rcases hrow with rfl | ⟨b,off,rfl,hcell⟩
 ·have hm:m=0:=by
   have hz:=E.hsz;have hc':m * size=0:=by simpa using hc.symm
   rcases Nat.mul_eq_zero.1 hc' with h | h <;> omega
  subst hm
  cases ad with
  | none =>
   have hr:(Builtin.append_ #[t,t] o.type #[v,.slice none 0 c]).run P W = .ok v W:=by
    rcases hown.2 with ⟨rfl,rfl⟩ | ⟨g,cap,cur,rfl,_,_,hnc,_⟩
    ·simp [Builtin.append_,run_underlying E.ht,sizeOf,typeInfo,hi,Builtin.lenOf,Builtin.firstCells]
    ·simp [Builtin.append_,run_underlying E.ht,sizeOf,typeInfo,hi,Builtin.lenOf,Builtin.firstCells,hnc,storeCells]
   unfold Oper.wp;simp [execOp,ho,resolve,invoke,builtin,hs,hx,hr,Result.andThen];exact h v W (by simpa using hown) (World.grownBy.refl _ _) (.inl rfl)
  | some ad=>exact own ad rfl (by simp)
 ·refine own ⟨b,off,none⟩ rfl (fun j u hj => ?_)
  have e1:(⟨b,off,none⟩:Addr).add j=⟨b,off+j,none⟩:=by unfold Addr.add;split <;> simp_all
  rw [e1];exact hcell j u hj
theorem own_built (w:World) (T:TypeId) (B sz:Nat) (cs:List Value) (hc:cs.length=sz) (hB:B<=w.heap.size):(w.alloc (.cells cs.toArray T)).ownsRow B T sz (.slice (some ⟨w.heap.size,0,none⟩) 1 1) 1 cs:=
 ⟨by omega,.inr ⟨w.heap.size,1,cs.toArray,rfl,hB,heap_alloc_new w _,by omega,by unfold maxLen;omega,by simp;omega,by simp;exact List.take_of_length_le (Nat.le_of_eq hc)⟩⟩
theorem own_some {w:World} {B n sz:Nat} {T:TypeId} {v:Value} {xs:List Value} (h:w.ownsRow B T sz v n xs) (hn:0 < n):∃ g c,v = .slice (some ⟨g,0,none⟩) n c:=by
 rcases h.2 with ⟨-,h2⟩ | ⟨g,c,cur,rfl,-⟩
 ·omega
 ·exact ⟨g,c,rfl⟩
section
variable {c:HCfg} {ad:HAd} {w w' w1:World} {tb:Nat} {t:Tn} {E F:List Nat}
theorem TurnAt.moreL (h:TurnAt c ad w tb t E F) (L:List Nat) (hw:Below w.heap.size w w') (hL:∀ k ∈ L,w.heap.size<=k/\k < w'.heap.size):TurnAt c ad w' tb t (L++E) F:=by
 obtain ⟨v,h1,rfl⟩:=h
 have hu:Upd (E++feet (pcs c ad tb v t)) ((L++E)++feet (pcs c ad tb v t)) w w':=⟨Mod.of_below hw _,fun k hk=>by
  rcases List.mem_append.1 hk with hk | hk
  ·rcases List.mem_append.1 hk with hk | hk
   ·exact .inr (hL k hk).1
   ·exact .inl (List.mem_append_left _ hk)
  ·exact .inl (List.mem_append_right _ hk)⟩
 refine ⟨v,⟨h1.lies.below hw,fun k hk => ?_,All2.mono (fun _ _ k=>k.upd hu) h1.mails,All2.mono (fun _ _ k=>k.upd hu) h1.notes,fun z hz k left hk=>(h1.caught z hz k left hk).upd hu⟩,rfl⟩
 rcases List.mem_append.1 hk with hk | hk
 ·exact ⟨(hL k hk).2,fun hf=>by have:=h1.lt k (List.mem_append_right _ hf);have:=(hL k hk).1;omega⟩
 ·exact ⟨Nat.lt_of_lt_of_le (h1.ext k hk).1 hw.size,(h1.ext k hk).2⟩
theorem TurnAt.grew {B m:Nat} {T:TypeId} {sz:Nat} {v v':Value} {xs:List Value} (h:TurnAt c ad w tb t (v.ownBlock.toList++E) F) (hE:∀ k ∈ E,k < B) (ho:w'.ownsRow B T sz v' m xs) (hg:w.grownBy w' v.ownBlock) (hv:v'.ownBlock=v.ownBlock \/ v'.ownBlock=some w.heap.size) :
  TurnAt c ad w' tb t E F/\Mod v.ownBlock.toList w w' /\ ∃ a cp,v' = .slice a m cp/\Beside w' (E++F) a xs:=by
 have hm:Mod v.ownBlock.toList w w':=(Mod.refl _ _).grown hg fun k hk => .inl (Option.mem_toList.2 hk)
 have hlt:=h.lt;have hx:=h.ext;refine ⟨(h.wrote hm fun k hk=>List.mem_append_left _ hk).less fun k hk=>List.mem_append_right _ hk,hm,?_⟩
 ·obtain ⟨a,cp,rfl,hr,-,-⟩:=ownsRow_row ho
  refine ⟨a,cp,rfl,?_⟩
  rcases ho.2 with ⟨e,hn⟩ | ⟨g,c',cur,e,hb,hgx,-⟩
  ·left
   have:=ho.1;rw [hn] at this
   simpa using this
  ·right
   have hga:a=some ⟨g,0,none⟩:=by injection e
   subst hga;refine ⟨g,0,rfl,fun hk => ?_,(Array.getElem?_eq_some_iff.1 hgx).1,hr⟩
   rcases List.mem_append.1 hk with hk | hk
   ·have:=hE g hk;omega
   ·rcases hv with e2 | e2
    ·exact (hx g (List.mem_append_left _ (Option.mem_toList.2 (e2 ▸ (rfl:(Value.slice (some ⟨g,0,none⟩) m cp).ownBlock=some g))))).2 hk
    ·have e3:g=w.heap.size:=by simpa [Value.ownBlock] using e2
     have:=hlt g (List.mem_append_right _ hk);omega
end
theorem built_connack (pres:Bool):Tryz.prog.built 39 [(0,.int .u8 2),(17,.bool pres)]=some (connackK pres).cells.toArray:=by kernel_rfl
theorem built_noteR (k op conn:Int) (client:ByteArray) (pres:Bool):Tryz.prog.built 79 [(0,.int .u8 k),(1,.int .i64 op),(2,.int .i64 conn),(3,.string client),(7,.bool pres)]=some (noteA k op conn client pkZ pres).cells.toArray:=by kernel_rfl
theorem pksV_ones (l:List Pkt):∀ u ∈ pksV l,u.oneCell'=true:=fun u hu=>by
 obtain ⟨p,hp,hu⟩:=List.mem_flatMap.1 hu;exact pk_ones p u (by simpa using hu)
theorem pksV_cons (p:Pkt) (l m:List Pkt):(p.cells++pksV l)++pksV m=pksV (p :: l++m):=by
 unfold pksV;rw [List.cons_append,List.flatMap_cons,List.flatMap_append,List.append_assoc]
structure ItC (X:World) (b:Nat) (x:Item):Prop where
 op:X.cell? ⟨b,1,none⟩=some (.int .i64 x.op)
 conn:X.cell? ⟨b,2,none⟩=some (.int .i64 x.conn)
 client:X.cell? ⟨b,3,none⟩=some (.string x.client)
theorem itC {X:World} {b:Nat} {x:Item} {T:TypeId} (h:X.heap[b]? = some (.cells x.cells.toArray T (0,0))):ItC X b x:=⟨cell_of_row _ _ 1 _ _ _ h,cell_of_row _ _ 2 _ _ _ h,cell_of_row _ _ 3 _ _ _ h⟩
theorem stay_cell0 {X:World} {F:List Nat} {b:Nat} {v:Value} {T:TypeId} (h:Stay X F b [v] T):X.cell? ⟨b,0,none⟩=some v:=cell_of_row _ _ 0 _ _ _ h.2.2
end
section
open Go Go.RowKit Go.Maps
set_option maxRecDepth 100000
set_option maxHeartbeats 4000000
theorem attach1_any (w0:World) (hK:Keeps w0) (c:HCfg) (ad:HAd) (tb:Nat) (T:Tn) (E F:List Nat) (w:World) (cl:ByteArray) (z:HSeat) (x:Item) (pres:Bool) (b1 b2 b3:Nat) (h:TurnAt c ad w tb T E F) (hB:Base w0 w F) (hok:HOk T) (hn1:1<=c.n) (hn2:c.n<=64) (h0:T.seat cl=some z)
  (s1:Stay w F b1 [.bool pres] 4) (s2:Stay w F b2 [bxV (ad.seat cl)] 101) (s3:Stay w F b3 x.cells 44) (hx:ItOk x) (hn:T.mails.length+1<=100000) (hnn:T.notes.length<=100000) :
  Calls Tryz.prog 190 #[.pointer (some ⟨tb,0,none⟩),.pointer (some ⟨b1,0,none⟩),.pointer (some ⟨b2,0,none⟩),.pointer (some ⟨b3,0,none⟩)] w fun e w'=>e = .returned (.tuple #[])/\TDone c ad tb E F w (doneAtt c x pres z T) w':=by
 have hzc:=(seat_at h0).2;obtain ⟨ob,FO,ho1,ho2,ho3,-⟩:=h.outs hok h0;have hlen:=ho2.lens;have hpl:=pump_len' c.win z.s.o;have hrl:(resumeO z.s.o).length=z.s.o.row.length:=by simp [resumeO]
 obtain ⟨p,hp⟩:∃ p,pumpO c.win z.s.o.wait z.s.o.row=p:=⟨_,rfl⟩;rw [hp] at hpl;obtain ⟨T1,hT1⟩:∃ T1,T.setS cl ⟨z.s.setO p.2,z.busy⟩=T1:=⟨_,rfl⟩;obtain ⟨R,hR⟩:∃ R,resumeO z.s.o=R:=⟨_,rfl⟩;obtain ⟨CK,hCK⟩:∃ CK,connackK pres=CK:=⟨_,rfl⟩;rw [hR] at hrl;obtain ⟨AL,hAL⟩:∃ AL,CK :: R++p.1=AL:=⟨_,rfl⟩;have hAL1:1+R.length+p.1.length=AL.length:=by rw [<- hAL];simp;omega
 have HE:Hid (doneAtt c x pres z T=(answersT c x.conn AL T1).note (noteA 3 x.op x.conn x.client pkZ pres)):=hyd (by
  unfold doneAtt;rw [hzc,hp];dsimp only
  rw [hT1,hR,hCK,hAL])
 have HRS:=hyd (fun X (hX:Below w.heap.size w X)=>resume_any ob c.win c.most z.s.o FO X (ho2.below hX));rw [hR] at HRS;have HPU:=hyd (fun X E' (hX:TurnAt c ad X tb T E' F) (hBX:Base w0 X F)=>tpump_any w0 hK c ad tb T E' F X cl z hX hBX hok h0);rw [hp,hT1] at HPU;have h1s:T1.mails.length=T.mails.length/\T1.notes.length=T.notes.length:=by rw [<- hT1];exact ⟨rfl,rfl⟩
 have HAN:=hyd (fun X G a cp (hX:TurnAt c ad X tb T1 E G) (hb:Beside X (E++G) a (pksV AL))=>answers_any c ad tb T1 E G X x.conn AL a cp hX hn1 hn2 hx.conn.2 hb (by rw [h1s.1];exact hn) (by omega))
 have HNO:=hyd (fun X G (hX:TurnAt c ad X tb (answersT c x.conn AL T1) E G)=>note_plain c ad tb (answersT c x.conn AL T1) E G X (noteA 3 x.op x.conn x.client pkZ pres) hX ⟨rfl,rfl⟩ (by
  have:=(gr_answers (c:=c) (t:=T1) x.conn AL).n
  omega))
 have HNB:=hyd (fun (_:Unit)=>built_noteR 3 x.op x.conn x.client pres);have HCB:=hyd (fun (_:Unit)=>built_connack pres);have HCS:=hyd (build_pk (connackK pres));have HC1:=hyd (fun (W:World) (hW:w.heap.size<=W.heap.size)=>own_built W 39 w.heap.size 24 (connackK pres).cells rfl hW);rw [hCK] at HCB HCS HC1;have HPV:=hyd hAL1;have HL1:Hid (R.length<=1024/\p.1.length<=1024):=hyd ⟨by omega,by omega⟩
 have HC:Hid (∀ X,Below w.heap.size w X->X.cell? ⟨b1,0,none⟩=some (.bool pres)/\X.cell? ⟨b2,0,none⟩=some (.pointer (some ⟨ad.seat cl,0,none⟩))/\X.cell? ⟨ad.seat cl,0,none⟩=some (.pointer (some ⟨ad.sess cl,0,none⟩))/\X.cell? ⟨ad.sess cl,9,none⟩=some (.pointer (some ⟨ob,0,none⟩))):=hyd (fun X hX =>
  ⟨stay_cell0 (s1.below hX),stay_cell0 (s2.below hX),((h.below hX).seatCells h0).1,(hX.cell (p:=⟨ad.sess cl,9,none⟩) (World.block_lt_of_cell? w _ ho1)).trans ho1⟩)
 have HH1:Hid (T1.seat cl=some ⟨z.s.setO p.2,z.busy⟩):=hyd (by rw [<- hT1];exact seat_setS' h0 hzc);have HS1:=hyd s1;have HS2:=hyd s2;have HS3:=hyd s3;have HT:=hyd h;have HBA:=hyd hB;have HLT:=hyd h.lt;have hcv:=pksV_cons CK R p.1;rw [hAL] at hcv;have HCV:=hyd hcv;have HRO:=hyd (pksV_ones R);have HPO:=hyd (pksV_ones p.1);have HRL:=hyd (pksV_len R);have HPL:=hyd (pksV_len p.1);clear h hB hok hn1 hn2 h0 s1 s2 s3 hx hn hnn hzc ho1 ho2 ho3 hlen hpl hrl hR hCK hp hT1 h1s hK hAL hAL1 hcv;generalize (noteA 3 x.op x.conn x.client pkZ pres).cells=NL at *;generalize hCC:CK.cells=CL at *
 go_enter Tryz.func190, Tryz.ntmps190
 go_upto_region 0 with fail
 refine wp_region_held_drew (S:=fun X=>X.cell? ⟨b1,0,none⟩=some (.bool pres)/\X.cell? ⟨b2,0,none⟩=some (.pointer (some ⟨ad.seat cl,0,none⟩))/\X.cell? ⟨ad.seat cl,0,none⟩=some (.pointer (some ⟨ad.sess cl,0,none⟩))/\X.cell? ⟨ad.sess cl,9,none⟩=some (.pointer (some ⟨ob,0,none⟩))) (by kernel_rfl) (HC.out _ (Below.refl _ _).drew) (fun hHeld => ?_);refine tA 0 (h:=?_);simp only [tks];refine tk 1 (v:=.agg CL.toArray) (fun w0 hS0=>exec_build 39 _ rfl CL.toArray [(0,.int .u8 2),(17,.bool pres)] (by kernel_rfl) (HCB.out ())) hHeld ?_;simp only [tks];refine tA 3 (h:=tA 4 (h:=tA 5 (h:=tA 6 (h:=tA 7 (h:=tA 8 (h:=tA 9 (h:=?_)))))));simp only [tks];refine wpAnyH_ready (rs:=[2,10]) (by kernel_rfl) (by simp) ?_;refine AllReadyH.cons rfl (fun K hK => ?A) (AllReadyH.cons rfl (fun K hK => ?B) AllReadyH.nil)
 case' A =>
  rw [if_pos (by rfl)];refine HCS.out _ _ _ _ _ _ rfl rfl ?_;have hb1:Below w.heap.size w (w.drew.alloc (.cells CL.toArray 39)):=(Below.refl _ _).drew.trans (low_alloc w.drew _);refine hK.out _ _ (HC.out _ hb1) (fun hHeld => ?_);refine wpAnyH_ready (rs:=[10]) (by kernel_rfl) (by simp) ?_;refine AllReadyH.cons rfl (fun K hK => ?_) AllReadyH.nil;rw [if_pos (by rfl)];go_simp
  go_at_call 191
  refine (HRS.out _ hb1).mono ?_;rintro e w2 ⟨v2,rfl,ho2,hb2⟩;have hbw:Below w.heap.size w w2:=bnext hb1 (Nat.le_refl _) hb2;have how:=ownsRow_local (w':=w2) (HC1.out w.drew (Nat.le_refl _)) (fun j hj=>hb2.block j ((HC1.out w.drew (Nat.le_refl _)).lt j hj).2);obtain ⟨a2,c2,rfl,hr2,-,-⟩:=ownsRow_row ho2;have HOW:=hyd how;have HR2:=hyd hr2;have HBW:=hyd hbw;clear how hr2 hbw hb1 hb2 ho2;refine hK.out _ _ (HC.out _ HBW.out) (fun hHeld => ?_)
 case' B =>
  rw [if_pos (by rfl)];go_simp
  go_at_call 191
  refine (HRS.out _ (Below.refl _ _).drew).mono ?_;rintro e w1 ⟨v2,rfl,ho2,hb2⟩;have hb1:Below w.heap.size w w1:=bnext (Below.refl _ _).drew (Nat.le_refl _) hb2;obtain ⟨a2,c2,rfl,hr2,-,-⟩:=ownsRow_row ho2;have HR1:=hyd hr2;have HB1:=hyd hb1;clear hr2 hb1 hb2 ho2;refine hK.out _ _ (HC.out _ HB1.out) (fun hHeld => ?_);refine wpAnyH_ready (rs:=[2]) (by kernel_rfl) (by simp) ?_;refine AllReadyH.cons rfl (fun K hK => ?_) AllReadyH.nil;rw [if_pos (by rfl)];refine HCS.out _ _ _ _ _ _ rfl rfl ?_;obtain ⟨w2,hw2⟩:∃ w2,w1.alloc (.cells CL.toArray 39)=w2:=⟨_,rfl⟩;have HOW:=hyd (HC1.out w1 HB1.out.size);have HR2:=hyd (HR1.out.below (low_alloc w1 (.cells CL.toArray 39)) (Nat.le_refl _));have HBW:=hyd (bnext HB1.out (Nat.le_refl _) (low_alloc w1 (.cells CL.toArray 39)));rw [hw2] at HOW HR2 HBW ⊢;clear hw2;refine hK.out _ _ (HC.out _ HBW.out) (fun hHeld => ?_)
 all_goals
  refine wpAnyH_ready (rs:=[11]) (by kernel_rfl) (by simp) ?_;refine AllReadyH.cons rfl (fun K hK => ?_) AllReadyH.nil;refine step_spreadG T_pkt HOW.out HR2.out rfl rfl rfl rfl HRL.out HRO.out (by have:=HL1.out;omega) (by have:=HL1.out;omega) HBW.out.size ?_;intro v3 w3 hown3 hgr3 hob3;obtain ⟨g3,c3,rfl⟩:=own_some hown3 (by omega);have hb3:Below w.heap.size w w3:=HBW.out.grown hgr3 HBW.out.size (fun k hk=>(HOW.out.lt k hk).1);have hg3:=hown3.lt g3 rfl;have HT3:Hid (TurnAt c ad w3 tb T ((Value.slice (some ⟨g3,0,none⟩) (1+R.length) c3).ownBlock.toList++E) F):=hyd (HT.out.moreL [g3] hb3 (fun k hk=>by rw [List.mem_singleton.1 hk];exact hg3));have HOW3:=hyd hown3;have HB3:=hyd hb3;clear hown3 hgr3 hob3 hb3;refine hK.out _ _ (HC.out _ HB3.out) (fun hHeld => ?_);refine tA 12 (h:=?_);simp only [tks];refine wpAnyH_done (by kernel_rfl) ?_ _;clear hHeld;obtain ⟨ob2,hob2,hpu⟩:=HPU.out w3.drew _ (HT3.out.below (Below.refl _ _).drew) (HBA.out.below HB3.out.drew)
  have hob:ob2=ob:=by
   have:=(HC.out _ HB3.out.drew).2.2.2;rw [hob2] at this
   simpa using this
  subst hob;have HP:=hyd (hpu w3.drew (Below.refl _ _))
  have HSK:Hid (∀ X Y:World,(∀ k,k < w.heap.size->Y.heap[k]? = X.heap[k]?)->(X.cell? ⟨b3,2,none⟩=some (.int .i64 x.conn)/\X.cell? ⟨b2,0,none⟩=some (.pointer (some ⟨ad.seat cl,0,none⟩))/\X.cell? ⟨ad.seat cl,0,none⟩=some (.pointer (some ⟨ad.sess cl,0,none⟩))/\X.cell? ⟨ad.sess cl,9,none⟩=some (.pointer (some ⟨ob2,0,none⟩)))->(Y.cell? ⟨b3,2,none⟩=some (.int .i64 x.conn)/\Y.cell? ⟨b2,0,none⟩=some (.pointer (some ⟨ad.seat cl,0,none⟩))/\Y.cell? ⟨ad.seat cl,0,none⟩=some (.pointer (some ⟨ad.sess cl,0,none⟩))/\Y.cell? ⟨ad.sess cl,9,none⟩=some (.pointer (some ⟨ob2,0,none⟩)))):=hyd (fun X Y hXY ⟨q1,q2,q3,q4⟩ =>
   ⟨(World.cell?_of_block (w:=X) (hXY b3 HS3.out.2.1)).trans q1,(World.cell?_of_block (w:=X) (hXY b2 HS2.out.2.1)).trans q2,(World.cell?_of_block (w:=X) (hXY _ (World.block_lt_of_cell? w _ (HC.out w (Below.refl _ _)).2.2.1))).trans q3,(World.cell?_of_block (w:=X) (hXY _ (World.block_lt_of_cell? w _ (HC.out w (Below.refl _ _)).2.2.2))).trans q4⟩)
  have HS0:=hyd (HSK.out w w3.drew (fun k hk=>HB3.out.drew.block k hk) ⟨(itC HS3.out.2.2).conn,(HC.out w (Below.refl _ _)).2⟩);clear hob2 hpu
  go_upto_region 1 with fail
  refine wp_region_tail (S:=fun X=>X.cell? ⟨b3,2,none⟩=some (.int .i64 x.conn)/\X.cell? ⟨b2,0,none⟩=some (.pointer (some ⟨ad.seat cl,0,none⟩))/\X.cell? ⟨ad.seat cl,0,none⟩=some (.pointer (some ⟨ad.sess cl,0,none⟩))/\X.cell? ⟨ad.sess cl,9,none⟩=some (.pointer (some ⟨ob2,0,none⟩))) 13 (by kernel_rfl) HS0.out (fun hHeld => ?_);refine uA 0 (h:=uA 1 (h:=uA 2 (h:=uA 3 (h:=uA 4 (h:=uA 5 (h:=uA 6 (h:=uA 7 (h:=uA 8 (h:=uA 9 (h:=uA 10 (h:=?_)))))))))));simp only [tks];refine wpTail.ready (rs:=[11]) (by kernel_rfl) (by simp) ?_;refine AllTail.cons rfl (fun K hK => ?_) AllTail.nil;rw [if_pos (by rfl)];go_simp
  go_at_call 71
  refine HP.out.mono ?_;rintro e w4 ⟨v4,F4,rfl,ho4,ht4,hu4,-,hs4⟩;obtain ⟨a4,c4,rfl,hr4,-,-⟩:=ownsRow_row ho4;have hu4':Upd F F4 w w4:=Upd.pre HB3.out.drew hu4
  have hs40:w4.cell? ⟨b3,2,none⟩=some (.int .i64 x.conn)/\w4.cell? ⟨b2,0,none⟩=some (.pointer (some ⟨ad.seat cl,0,none⟩))/\w4.cell? ⟨ad.seat cl,0,none⟩=some (.pointer (some ⟨ad.sess cl,0,none⟩))/\w4.cell? ⟨ad.sess cl,9,none⟩=some (.pointer (some ⟨ob2,0,none⟩)):=
   ⟨(itC (HS3.out.upd hu4').2.2).conn,stay_cell0 (HS2.out.upd hu4'),(ht4.seatCells HH1.out).1,hs4⟩
  have HS4:=hyd hs40;have HOW4:=hyd (ownsRow_local (w':=w4) HOW3.out (fun j hj=>hu4.1.block j (HOW3.out.lt j hj).2 (HT3.out.ext j (List.mem_append_left _ (Option.mem_toList.2 hj))).2));have HR4:=hyd hr4;have HT4:=hyd ht4;have HU4:=hyd hu4';clear ho4 ht4 hu4 hs4 hr4 hu4' hs40;refine hK.out _ _ (fun _=>HS4.out) (fun hHeld => ?_);replace hHeld:=hHeld (by decide);refine wpTail.ready (rs:=[12]) (by kernel_rfl) (by simp) ?_;refine AllTail.cons rfl (fun K hK => ?_) AllTail.nil;refine step_spreadG T_pkt HOW4.out HR4.out rfl rfl rfl rfl HPL.out HPO.out (by have:=HL1.out;omega) (by have:=HL1.out;omega) HU4.out.1.size ?_;intro v5 w5 hown5 hgr5 hob5;rw [HCV.out,HPV.out] at hown5;obtain ⟨ht5,hm5,a5,c5,rfl,hbe5⟩:=HT4.out.grew (fun k hk=>HLT.out k (List.mem_append_left _ hk)) hown5 hgr5 hob5;have HT5:=hyd ht5;have HBE5:=hyd hbe5;have HM5:Hid (Mod [g3] w4 w5):=hyd hm5;have HG3:Hid (w.heap.size<=g3):=hyd hg3.1;clear hown5 hgr5 hob5 ht5 hm5 hbe5;refine hK.out _ _ (fun _=>HSK.out w4 w5 (fun k hk=>HM5.out.block k (Nat.lt_of_lt_of_le hk HU4.out.1.size) (fun e=>by have:=List.mem_singleton.1 e;have:=HG3.out;omega)) HS4.out) (fun hHeld => ?_);replace hHeld:=hHeld (by decide);refine wpTail.ready (rs:=[13]) (by kernel_rfl) (by simp) ?_;refine AllTail.cons rfl (fun K hK => ?_) AllTail.nil;rw [if_pos (by rfl)];go_simp
  go_at_call 120
  refine (HAN.out w5 F4 a5 c5 HT5.out HBE5.out).mono ?_;rintro e w6 ⟨rfl,F6,ht6,hu6⟩;have HU6:=hyd ((HU4.out.extra HM5.out (fun k hk=>by rw [List.mem_singleton.1 hk];exact HG3.out)).trans' hu6);have HT6:=hyd ht6;obtain ⟨e1,e2,e3⟩:=itC (HS3.out.upd HU6.out).2.2;have e4:=stay_cell0 (HS1.out.upd HU6.out);clear ht6 hu6;refine hK.out _ _ (fun h=>absurd rfl h) (fun _ => ?_);refine wpTail.done (by kernel_rfl) ?_ _;clear hHeld hg3
  go_wp2_with (first
   | (refine wpList_buildBy rfl 79 _ rfl _ rfl NL.toArray [(0,.int .u8 3),(1,.int .i64 x.op),(2,.int .i64 x.conn),(3,.string x.client),(7,.bool pres)] (by kernel_rfl) (HNB.out ()) ?_)
   | fail)
  refine (HNO.out w6 F6 HT6.out).mono ?_;rintro e w7 ⟨rfl,F7,ht7,hu7⟩;have HD:Hid (TDone c ad tb E F w (doneAtt c x pres z T) w7):=hyd ⟨F7,by rw [HE.out];exact ht7,HU6.out.trans' hu7⟩;clear ht7 hu7 e1 e2 e3 e4
  go_wp2_with fail
  go_end0
  exact ⟨rfl,HD.out⟩
end
section
open Go Go.RowKit Go.Maps
theorem beside_off {w:World} {B m sz:Nat} {T:TypeId} {v:Value} {xs:List Value} {G:List Nat} (ho:w.ownsRow B T sz v m xs) (hof:Off G v.ownBlock.toList):∃ a cp,v = .slice a m cp/\Beside w G a xs:=by
 obtain ⟨a,cp,rfl,hr,-,-⟩:=ownsRow_row ho;refine ⟨a,cp,rfl,?_⟩
 rcases ho.2 with ⟨e,hn⟩ | ⟨g,c',cur,e,hb,hgx,-⟩
 ·left
  have:=ho.1;rw [hn] at this
  simpa using this
 ·right
  have hga:a=some ⟨g,0,none⟩:=by injection e
  subst hga;exact ⟨g,0,rfl,fun hk=>hof g hk (by simp [Value.ownBlock]),(Array.getElem?_eq_some_iff.1 hgx).1,hr⟩
section
variable {c:HCfg} {ad:HAd} {w w':World} {tb:Nat} {T:Tn} {E F:List Nat} {cl:ByteArray} {z:HSeat}
theorem tbegin_any (h:TurnAt c ad w tb T E F) (hok:HOk T) (h0:T.seat cl=some z) (conn:Int) (p:Pkt) :
  Calls Tryz.prog 189 #[.pointer (some ⟨ad.sess cl,0,none⟩),.int .i64 conn,.agg p.cells.toArray] w fun e w' => ∃ a cp F',e = .returned (.tuple #[.bool (beginA conn p z.s).1,.slice a (beginA conn p z.s).2.length cp]) ∧
   TurnAt c ad w' tb (T.setS cl ⟨beginS conn p z.s,z.busy⟩) E F'/\Upd F F' w w'/\Beside w' (E++F') a (namesV (beginA conn p z.s).2):=by
 obtain ⟨FS,h1,h2,h3⟩:=h.ses hok h0;refine (begin_any (ad.sess cl) z.s c.win c.most FS conn p w h1).mono ?_;rintro e w' ⟨v,FS',rfl,ho,hr,hu,hof⟩;obtain ⟨F',g1,g2,g3⟩:=h3 w' _ FS' ((begin_client conn p z.s).trans (seat_at h0).2) hr hu
 obtain ⟨a,cp,rfl,hbe⟩:=beside_off (G:=E++F') ho (fun k hk hk'=>by
  have hkX:=(ho.lt k (Option.mem_toList.1 hk')).1
  rcases List.mem_append.1 hk with hk | hk
  ·have:=h.lt k (List.mem_append_left _ hk);omega
  ·rcases g3 k hk with hk | hk
   ·have:=h.lt k (List.mem_append_right _ hk);omega
   ·exact hof k hk hk')
 exact ⟨a,cp,F',rfl,g1,g2,hbe⟩
end
theorem built_item6 (k op:Int) (client:ByteArray):Tryz.prog.built 44 [(0,.int .u8 k),(1,.int .i64 op),(3,.string client)]=some (itK k op client).cells.toArray:=by kernel_rfl
theorem built_noteA2 (k op conn:Int) (client:ByteArray) (p:Pkt) (pres:Bool):Tryz.prog.built 79 [(0,.int .u8 k),(1,.int .i64 op),(2,.int .i64 conn),(3,.string client),(4,.agg p.cells.toArray),(7,.bool pres)]=some (noteA k op conn client p pres).cells.toArray:=by
 obtain ⟨p0,p1,p2,p3,p4,p5,p6,p7,p8,p9,p10,p11,⟨m0,m1,m2,m3⟩,p13,p14,p15,p16,p17,p18,p19,p20,p21,p22⟩:=p
 kernel_rfl
theorem built_wait0 (op kind:Int):Tryz.prog.built 110 [(0,.int .i64 op),(3,.int .u8 kind)]=some (waitC op pkZ kind 0 ⟨#[]⟩ none .nilFunc).toArray:=by kernel_rfl
theorem wait_left {w:World} {b:Nat} {op kind left:Int} {p:Pkt} {codes:ByteArray} {kept:Option Nat} {done:Value} {T:TypeId} (h:w.heap[b]? = some (.cells (waitC op p kind left codes kept done).toArray T (0,0))) (n:Int) :
  (w.setCell ⟨b,27,none⟩ (.int .i64 n)).heap[b]? = some (.cells (waitC op p kind n codes kept done).toArray T (0,0)):=heap_setCell_same w b 27 _ _ (.int .i64 n) h
theorem wait_done {w:World} {b:Nat} {op kind left:Int} {p:Pkt} {codes:ByteArray} {kept:Option Nat} {done:Value} {T:TypeId} (h:w.heap[b]? = some (.cells (waitC op p kind left codes kept done).toArray T (0,0))) (d:Value) :
  (w.setCell ⟨b,30,none⟩ d).heap[b]? = some (.cells (waitC op p kind left codes kept d).toArray T (0,0)):=heap_setCell_same w b 30 _ _ d h
theorem item_pk {w:World} {b:Nat} {x:Item} {T:TypeId} (h:w.heap[b]? = some (.cells x.cells.toArray T (0,0))):w.rangeAt b 5 x.pk.cells:=by
 have:x.cells = [.int .u8 x.kind,.int .i64 x.op,.int .i64 x.conn,.string x.client,.string x.filter]++(x.pk.cells++x.cells.drop 29):=rfl;rw [this] at h;exact mid_cells h
theorem Stay.more {w w':World} {E F:List Nat} {b k:Nat} {cs:List Value} {T:TypeId} (h:Stay w (E++F) b cs T) (hb:Below w.heap.size w w') (hk:w.heap.size<=k):Stay w' ((k :: E)++F) b cs T:=by
 refine h.upd ⟨Mod.of_below hb _,fun q hq => ?_⟩
 rcases List.mem_cons.1 hq with rfl | hq
 ·exact .inr hk
 ·exact .inl hq
theorem ItB.more {w w':World} {E F:List Nat} {k:Nat} {x:Item} (h:ItB w (E++F) x) (hb:Below w.heap.size w w') (hk:w.heap.size<=k):ItB w' ((k :: E)++F) x:=by
 refine h.upd ⟨Mod.of_below hb _,fun q hq => ?_⟩
 rcases List.mem_cons.1 hq with rfl | hq
 ·exact .inr hk
 ·exact .inl hq
theorem Beside.more {w w':World} {E F:List Nat} {k:Nat} {a:Option Addr} {xs:List Value} (h:Beside w (E++F) a xs) (hb:Below w.heap.size w w') (hk:w.heap.size<=k):Beside w' ((k :: E)++F) a xs:=by
 refine h.upd ⟨Mod.of_below hb _,fun q hq => ?_⟩
 rcases List.mem_cons.1 hq with rfl | hq
 ·exact .inr hk
 ·exact .inl hq
theorem Stay.sub {w:World} {G G':List Nat} {b:Nat} {cs:List Value} {T:TypeId} (h:Stay w G b cs T) (hG:∀ k ∈ G',k ∈ G):Stay w G' b cs T:=⟨fun hk=>h.1 (hG b hk),h.2⟩
section
variable {c:HCfg} {ad:HAd} {w w':World} {tb:Nat} {T:Tn} {E F:List Nat} {cl:ByteArray} {z:HSeat}
theorem TurnAt.seatHeap (h:TurnAt c ad w tb T E F) (h0:T.seat cl=some z) (hb:z.busy=none):w.heap[ad.seat cl]? = some (.cells [bxV (ad.sess cl),.pointer none].toArray 105 (0,0)):=by
 obtain ⟨v,hP,-⟩:=h;have:=hP.seatCell h0;rw [hb] at this;exact this
end
theorem upd_in {w w':World} {G S:List Nat} (hm:Mod S w w') (hS:∀ k ∈ S,k ∈ G):Upd G G w w':=⟨hm.mono hS,fun _ hk => .inl hk⟩
theorem stay_low {w:World} {G:List Nat} {b:Nat} {cs:List Value} {T:TypeId} (h:w.heap[b]? = some (.cells cs.toArray T (0,0))) (hG:∀ k ∈ G,k < b):Stay w G b cs T:=⟨fun hk=>by have:=hG b hk;omega,(Array.getElem?_eq_some_iff.1 h).1,h⟩
end
section
open Go Go.RowKit Go.Maps
section
variable {c:HCfg} {ad:HAd} {w w':World} {tb:Nat} {t:Tn} {v:TnV} {E:List Nat} {cl:ByteArray} {z:HSeat}
theorem TurnP.sesL (h:TurnP c ad w tb t v E) (hnd:(t.seats.map (·.s.client)).Nodup) {s':SS} {F1 L:List Nat} (h0:t.seat cl=some z) (hz:s'.client=cl)
  (hr:SesRep w' (ad.sess cl) c.win c.most s' F1) (hu:Upd (v.sv cl).F F1 w w') (hL:∀ k ∈ L,w.heap.size<=k/\k < w'.heap.size/\k ∉ F1) :
  TurnP c ad w' tb (t.setS cl ⟨s',z.busy⟩) { v with sv:=SeV.put v.sv cl { v.sv cl with F:=F1 } } (L++E):=by
 obtain ⟨h1,h2⟩:=h.ses hnd h0 hz hr hu;have hzc:z.s.client=cl:=(seat_at h0).2
 have hx:Upd (E++feet (pcs c ad tb v t)) ((L++E)++feet (pcs c ad tb { v with sv:=SeV.put v.sv cl { v.sv cl with F:=F1 } } (t.setS cl ⟨s',z.busy⟩))) w w':=by
  have h3:=h2.ext E;refine ⟨h3.1,fun k hk => ?_⟩
  rcases List.mem_append.1 hk with hk | hk
  ·rcases List.mem_append.1 hk with hk | hk
   ·exact .inr (hL k hk).1
   ·exact h3.2 k (List.mem_append_left _ hk)
  ·exact h3.2 k (List.mem_append_right _ hk)
 refine ⟨h1.lies,fun k hk => ?_,All2.mono (fun _ _ k=>k.upd hx) h.mails,All2.mono (fun _ _ k=>k.upd hx) h.notes,fun y hy k left hk => ?_⟩
 ·rcases List.mem_append.1 hk with hk | hk
  ·refine ⟨(hL k hk).2.1,fun hf => ?_⟩
   rcases TurnP.sesFeet hnd h0 hz k hf with h4 | h4
   ·have:=h.lt k (List.mem_append_right _ h4);have:=(hL k hk).1;omega
   ·exact (hL k hk).2.2 h4
  ·exact h1.ext k hk
 ·rcases setS_mem hy with rfl | ⟨hy1,hy2⟩
  ·show Caught w' _ ad (SeV.put v.sv cl { v.sv cl with F:=F1 } s'.client) ⟨s',z.busy⟩ k
   rw [hz,show SeV.put v.sv cl { v.sv cl with F:=F1 } cl = { v.sv cl with F:=F1 } by simp [SeV.put]];have:=(h.caught z (seat_at h0).1 k left hk).upd hx;rw [hzc] at this
   cases k with
   | close x old=>simpa [Caught,hz,hzc] using this
   | att x pres=>simpa [Caught,hz,hzc] using this
   | sub x codes kept=>simpa [Caught,hz,hzc] using this
   | uns x=>simpa [Caught,hz,hzc] using this
   | flow op=>trivial
   | fin x clean=>simpa [Caught,hz,hzc] using this
  ·exact Caught.put hy2 ((h.caught y hy1 k left hk).upd hx)
theorem TurnAt.sesL {F:List Nat} (h:TurnAt c ad w tb t E F) (hok:HOk t) (h0:t.seat cl=some z):∃ FS,SesRep w (ad.sess cl) c.win c.most z.s FS/\(∀ k ∈ FS,k ∈ F) ∧
  ∀ w' s' FS' L,s'.client=cl->SesRep w' (ad.sess cl) c.win c.most s' FS'->Upd FS FS' w w'->(∀ k ∈ L,w.heap.size<=k/\k < w'.heap.size/\k ∉ FS') -> ∃ F',TurnAt c ad w' tb (t.setS cl ⟨s',z.busy⟩) (L++E) F'/\Upd F F' w w' /\ ∀ k ∈ F',k ∈ F \/ k ∈ FS':=by
 obtain ⟨v,hP,rfl⟩:=h;obtain ⟨-,hs⟩:=hP.seatSes h0;refine ⟨_,hs,TurnP.sesIn h0,fun w' s' FS' L hz hr hu hL => ?_⟩;have h3:=hP.sesL hok.nd h0 (s':=s') hz hr hu hL;obtain ⟨-,h4⟩:=hP.ses hok.nd h0 (s':=s') hz hr hu;exact ⟨_,⟨_,h3,rfl⟩,h4,TurnP.sesFeet hok.nd h0 hz⟩
theorem TurnAt.outsL {F:List Nat} (h:TurnAt c ad w tb t E F) (hok:HOk t) (h0:t.seat cl=some z):∃ ob FO,w.cell? ⟨ad.sess cl,9,none⟩=some (.pointer (some ⟨ob,0,none⟩))/\OutRep w ob c.win c.most z.s.o FO/\(∀ k ∈ FO,k ∈ F) ∧
  ∀ w' o' FO' L,OutRep w' ob c.win c.most o' FO'->Upd FO FO' w w'->(∀ k ∈ L,w.heap.size<=k/\k < w'.heap.size/\k ∉ FO') -> ∃ F',TurnAt c ad w' tb (t.setS cl ⟨z.s.setO o',z.busy⟩) (L++E) F'/\Upd F F' w w'/\(∀ k ∈ F',k ∈ F \/ k ∈ FO')/\w'.cell? ⟨ad.sess cl,9,none⟩=some (.pointer (some ⟨ob,0,none⟩)):=by
 obtain ⟨FS,⟨lb,ob,cb,FL,FO,FC,hp,rfl⟩,hin,hn⟩:=h.sesL hok h0;refine ⟨ob,FO,hp.cells.2.2.2.2.2.2.2.2.2.1,hp.out,fun k hk=>hin k (mem_sFoot.2 (.inr (.inr (.inl hk)))),fun w' o' FO' L ho hu hL => ?_⟩;obtain ⟨hp',hu'⟩:=hp.turnO ho hu
 obtain ⟨F',h1,h2,h3⟩:=hn w' (z.s.setO o') _ L (seat_at h0).2 ⟨lb,ob,cb,FL,FO',FC,hp',rfl⟩ hu' (fun k hk=>⟨(hL k hk).1,(hL k hk).2.1,fun hf=>by
  have hlt:=hp.lt
  rcases mem_sFoot.1 hf with e | e | e | e
  ·have:=hlt k (mem_sFoot.2 (.inl e));have:=(hL k hk).1;omega
  ·have:=hlt k (mem_sFoot.2 (.inr (.inl e)));have:=(hL k hk).1;omega
  ·exact (hL k hk).2.2 e
  ·have:=hlt k (mem_sFoot.2 (.inr (.inr (.inr e))));have:=(hL k hk).1;omega⟩)
 refine ⟨F',h1,h2,fun k hk=>(h3 k hk).elim .inl fun hk => ?_,hp'.cells.2.2.2.2.2.2.2.2.2.1⟩
 rcases mem_sFoot.1 hk with e | e | e | e
 ·exact .inl (hin k (mem_sFoot.2 (.inl e)))
 ·exact .inl (hin k (mem_sFoot.2 (.inr (.inl e))))
 ·exact .inr e
 ·exact .inl (hin k (mem_sFoot.2 (.inr (.inr (.inr e)))))
theorem setS_self (hnd:(t.seats.map (·.s.client)).Nodup) (h0:t.seat cl=some z):t.setS cl z=t:=by
 obtain ⟨S1,S2,e,h1,h2⟩:=seat_split hnd h0;have e1:=setS_split (z':=z) e (seat_at h0).2 h1 h2;have e2:(t.setS cl z).seats=t.seats:=e1.trans e.symm;obtain ⟨s,f,o,n,m⟩:=t;unfold Tn.setS at e2 ⊢;simp only at e2;rw [e2]
theorem setS_twice {z':HSeat} (hz:z.s.client=cl):(t.setS cl z).setS cl z'=t.setS cl z':=by
 unfold Tn.setS
 congr 1
 rw [List.map_map];refine List.map_congr_left fun y _ => ?_
 simp only [Function.comp]
 by_cases e:y.s.client=cl
 ·rw [if_pos e,if_pos hz,if_pos e]
 ·rw [if_neg e,if_neg e]
end
theorem firstNo_iff (g:Nat) (x:Int) (l:List Int) (F:List Nat) (w:World) (h:CRep w g l F) (hx0:0<=x) (hx1:x<=65535) :
  Calls Tryz.prog 123 #[.pointer (some ⟨g,0,none⟩),.int .u16 x] w fun e w'=>e = .returned (.bool (!decide (x=0 \/ x ∈ l)))/\CRep w' g (firstI x l) F/\Upd F F w w':=by
 by_cases hc:x=0 \/ x ∈ l
 ·refine (cfirst_no g x l F w h hx0 hx1 hc).mono ?_
  rintro e w' ⟨rfl,h1,h2⟩;exact ⟨by simp [hc],by rw [firstI,if_pos hc];exact h1,h2⟩
 ·refine (cfirst_yes g x l F w h (by omega) hx1 (fun h=>hc (.inr h))).mono ?_
  rintro e w' ⟨rfl,h1,h2⟩;exact ⟨by simp [hc],by rw [firstI,if_neg hc];exact h1,h2⟩
theorem rel_iff (g:Nat) (x:Int) (l:List Int) (F:List Nat) (w:World) (h:CRep w g l F) (hx0:0<=x) (hx1:x<=65535) :
  Calls Tryz.prog 126 #[.pointer (some ⟨g,0,none⟩),.int .u16 x] w fun e w'=>e = .returned (.bool (decide (x ∈ l)))/\CRep w' g (out x l) F/\Upd F F w w':=by
 by_cases hc:x ∈ l
 ·refine (crel_yes g x l F w h hx0 hx1 hc).mono ?_
  rintro e w' ⟨rfl,h1,h2⟩;exact ⟨by simp [hc],h1,h2⟩
 ·refine (crel_no g x l F w h hx0 hx1 hc).mono ?_
  rintro e w' ⟨rfl,h1,h2⟩;exact ⟨by simp [hc],by rw [out_none hc];exact h1,h2⟩
end
section
open Go Go.RowKit Go.Maps
theorem built_noteM8 (k op:Int) (client:ByteArray) (m:Msg):Tryz.prog.built 79 [(0,.int .u8 k),(1,.int .i64 op),(3,.string client),(5,.agg m.cells.toArray),(8,.int .u8 m.q)]=some (noteM k op client m).cells.toArray:=by
 obtain ⟨m0,m1,m2,m3⟩:=m
 kernel_rfl
theorem msg_sizeL (m:Msg):(Tryz.prog.info? 36).map (·.size)=some m.cells.length:=by kernel_rfl
set_option maxRecDepth 100000
set_option maxHeartbeats 4000000
theorem puts_any (w0:World) (hK:Keeps w0) (c:HCfg) (ad:HAd) (tb:Nat) (T:Tn) (E F:List Nat) (w:World) (cl:ByteArray) (z:HSeat) (op kind:Int) (m:Msg) (h:TurnAt c ad w tb T E F) (hB:Base w0 w F) (hok:HOk T) (h0:T.seat cl=some z) (hm:MsOk m) (hnn:T.notes.length<=100000) :
  Calls Tryz.prog 69 #[.pointer (some ⟨tb,0,none⟩),.pointer (some ⟨ad.seat cl,0,none⟩),.int .i64 op,.int .u8 kind,.agg m.cells.toArray] w fun e w'=>e = .returned (.tuple #[])/\TDone c ad tb E F w (putsT c cl op kind m T) w':=by
 have hzc:=(seat_at h0).2;obtain ⟨r,hr⟩:∃ r,putO c.most m z.s.o=r:=⟨_,rfl⟩;obtain ⟨T1,hT1⟩:∃ T1,T.setS cl ⟨z.s.setO r.2,z.busy⟩=T1:=⟨_,rfl⟩;have h1s:T1.seat cl=some ⟨z.s.setO r.2,z.busy⟩:=by rw [<- hT1];exact seat_setS' h0 hzc
 have hl1:T1.notes.length=T.notes.length:=by rw [<- hT1];rfl
 have HE:Hid (putsT c cl op kind m T=T1.note (noteM (if r.1 then kind else 7) op cl m)):=hyd (by
  unfold putsT;rw [h0];dsimp only
  rw [hr,hT1])
 have hb1:=low_alloc w (.cells m.cells.toArray 36);have hx1:=heap_alloc_new w (.cells m.cells.toArray 36);obtain ⟨W,hW⟩:∃ W,w.alloc (.cells m.cells.toArray 36)=W:=⟨_,rfl⟩;rw [hW] at hb1 hx1;obtain ⟨ob,FO,ho1,ho2,ho3,ho4⟩:=(h.below (hb1.drew)).outs hok h0;have HPU:=hyd (oput_any ob c.win c.most z.s.o FO m W.drew ho2 (hK.t.below (hB.below hb1.drew).1) (by have:=hm.1;have:=hm.2.1;omega) hm.2.2.1);rw [hr] at HPU;have HN:=hyd (fun X G k (hX:TurnAt c ad X tb T1 E G)=>note_plain c ad tb T1 E G X (noteM k op cl m) hX ⟨rfl,rfl⟩ (by omega));have HNB:=hyd (fun k (_:Unit)=>built_noteM8 k op cl m);have HMZ:=hyd (msg_sizeL m);have HM2:Hid (∀ X:World,X.heap[w.heap.size]? = some (.cells m.cells.toArray 36 (0,0))->X.cell? ⟨w.heap.size,2,none⟩=some (.int .u8 m.q)):=hyd (fun X hX=>by rw [cell_of_row _ _ 2 _ _ _ hX];rfl);have HSM:Hid (Stay W (E++F) w.heap.size m.cells 36):=hyd (stay_low hx1 h.lt);have HC0:Hid (W.drew.cell? ⟨ad.seat cl,0,none⟩=some (.pointer (some ⟨ad.sess cl,0,none⟩))/\W.drew.cell? ⟨ad.sess cl,9,none⟩=some (.pointer (some ⟨ob,0,none⟩))):=hyd ⟨((h.below hb1.drew).seatCells h0).1,ho1⟩;have HO4:=hyd (fun w' FO' hr' hu'=>ho4 w' r.2 FO' hr' hu');rw [hT1] at HO4;have HH1:=hyd h1s;have HW:=hyd hW;have HB1:=hyd hb1;have HV:=hyd (show m.val = .agg m.cells.toArray from rfl)
 clear h hB hok h0 hm hnn hzc h1s hl1 hr hT1 ho1 ho2 ho3 ho4 hb1 hx1 hW hK;rw [HV.out] at HPU;generalize m.cells=ML at *;obtain ⟨b,o'⟩:=r
 go_enter Tryz.func69, Tryz.ntmps69
 go_upto_region 1 with fail
 rw [HW.out];refine wp_region_held_drew (S:=fun X=>X.cell? ⟨ad.seat cl,0,none⟩=some (.pointer (some ⟨ad.sess cl,0,none⟩))/\X.cell? ⟨ad.sess cl,9,none⟩=some (.pointer (some ⟨ob,0,none⟩))/\X.rangeAt w.heap.size 0 ML) (by kernel_rfl) ⟨HC0.out.1,HC0.out.2,range_blk HSM.out.2.2⟩ (fun hHeld => ?_);refine tA 0 (h:=tA 1 (h:=tA 2 (h:=tA 3 (h:=tA 4 (h:=tA 5 (h:=tA 6 (h:=?_)))))));simp only [tks];refine tk 7 (v:=.agg ML.toArray) (fun w0 hS0=>exec_load_row rfl rfl hS0.2.2 Tryz.underlying36 rfl HMZ.out) hHeld ?_;simp only [tks];refine wpAnyH_ready (rs:=[8]) (by kernel_rfl) (by simp) ?_;refine AllReadyH.cons rfl (fun K hK => ?_) AllReadyH.nil;rw [if_pos (by rfl)];go_simp
 go_at_call 129
 refine HPU.out.mono ?_;rintro e w2 ⟨rfl,FO2,hr2,hu2⟩;obtain ⟨F2,ht2,hv2,-,hs2⟩:=HO4.out w2 FO2 hr2 hu2;have HT2:=hyd ht2;have HU2:=hyd (Upd.pre HB1.out.drew hv2);have HSM2:Hid (Stay w2 (E++F2) w.heap.size ML 36):=hyd (Stay.upd (w:=W.drew) HSM.out (hv2.ext E));have HS2:=hyd hs2;clear hr2 hu2 ht2 hv2 hs2;refine hK.out _ _ ⟨(HT2.out.seatCells HH1.out).1,HS2.out,range_blk HSM2.out.2.2⟩ (fun hHeld => ?_);refine tA 9 (h:=?_);simp only [tks];refine wpAnyH_done (by kernel_rfl) ?_ _;clear hHeld
 have HSS:Hid (∀ (X:World) (G:List Nat),TurnAt c ad X tb T1 E G->X.heap[w.heap.size]? = some (.cells ML.toArray 36 (0,0))->X.cell? ⟨ad.seat cl,0,none⟩=some (.pointer (some ⟨ad.sess cl,0,none⟩))/\X.cell? ⟨ad.sess cl,0,none⟩=some (.string cl)/\X.rangeAt w.heap.size 0 ML/\X.cell? ⟨w.heap.size,2,none⟩=some (.int .u8 m.q)):=hyd (fun X G hX hx=>by
  have h1:=hX.seatCells HH1.out
  exact ⟨h1.1,h1.2.1,range_blk hx,HM2.out X hx⟩)
 cases b
 case false =>
  go_upto_region 3 with fail
  have HNM:=hyd (HN.out w2.drew F2 7 (HT2.out.below (Below.refl _ _).drew));have HNC:=hyd (HNB.out 7 ());generalize (noteM 7 op cl m).cells=NL at *;refine wp_region_tail (S:=fun X=>X.cell? ⟨ad.seat cl,0,none⟩=some (.pointer (some ⟨ad.sess cl,0,none⟩))/\X.cell? ⟨ad.sess cl,0,none⟩=some (.string cl)/\X.rangeAt w.heap.size 0 ML/\X.cell? ⟨w.heap.size,2,none⟩=some (.int .u8 m.q)) 14 (by kernel_rfl) (HSS.out w2.drew F2 (HT2.out.below (Below.refl _ _).drew) HSM2.out.2.2) (fun hHeld => ?_);refine uA 0 (h:=uA 1 (h:=uA 2 (h:=uA 3 (h:=uA 4 (h:=uA 5 (h:=uA 6 (h:=uA 7 (h:=uA 8 (h:=uA 9 (h:=?_))))))))));simp only [tks];refine ttk 10 (v:=.agg ML.toArray) (fun w0 hS0=>exec_load_row rfl rfl hS0.2.2.1 Tryz.underlying36 rfl HMZ.out) hHeld ?_;simp only [tks];refine uA 11 (h:=uA 12 (h:=?_));simp only [tks];refine ttk 13 (v:=.agg NL.toArray) (fun w0 hS0=>exec_build 79 _ rfl NL.toArray [(0,.int .u8 7),(1,.int .i64 op),(3,.string cl),(5,.agg ML.toArray),(8,.int .u8 m.q)] (by kernel_rfl) HNC.out) hHeld ?_;simp only [tks];refine wpTail.ready (rs:=[14]) (by kernel_rfl) (by simp) ?_;refine AllTail.cons rfl (fun K hK => ?_) AllTail.nil;rw [if_pos (by rfl)];go_simp
  go_at_call 107
  refine HNM.out.mono ?_;rintro e w3 ⟨rfl,F3,ht3,hu3⟩;have HD:Hid (TDone c ad tb E F w (putsT c cl op kind m T) w3):=hyd ⟨F3,by rw [HE.out];exact ht3,HU2.out.trans' (Upd.pre (Below.refl _ _).drew hu3)⟩;clear ht3 hu3;refine hK.out _ _ (fun h=>absurd rfl h) (fun _ => ?_);refine wpTail.done (by kernel_rfl) ?_ _;clear hHeld
  go_wp2_with fail
  go_end0
  exact ⟨rfl,HD.out⟩
 case true =>
  go_upto_region 3 with fail
  have HNM:=hyd (HN.out w2.drew F2 kind (HT2.out.below (Below.refl _ _).drew));have HNC:=hyd (HNB.out kind ());generalize (noteM kind op cl m).cells=NL at *;refine wp_region_tail (S:=fun X=>X.cell? ⟨ad.seat cl,0,none⟩=some (.pointer (some ⟨ad.sess cl,0,none⟩))/\X.cell? ⟨ad.sess cl,0,none⟩=some (.string cl)/\X.rangeAt w.heap.size 0 ML/\X.cell? ⟨w.heap.size,2,none⟩=some (.int .u8 m.q)) 14 (by kernel_rfl) (HSS.out w2.drew F2 (HT2.out.below (Below.refl _ _).drew) HSM2.out.2.2) (fun hHeld => ?_);refine uA 0 (h:=uA 1 (h:=uA 2 (h:=uA 3 (h:=uA 4 (h:=uA 5 (h:=uA 6 (h:=uA 7 (h:=uA 8 (h:=uA 9 (h:=?_))))))))));simp only [tks];refine ttk 10 (v:=.agg ML.toArray) (fun w0 hS0=>exec_load_row rfl rfl hS0.2.2.1 Tryz.underlying36 rfl HMZ.out) hHeld ?_;simp only [tks];refine uA 11 (h:=uA 12 (h:=?_));simp only [tks];refine ttk 13 (v:=.agg NL.toArray) (fun w0 hS0=>exec_build 79 _ rfl NL.toArray [(0,.int .u8 kind),(1,.int .i64 op),(3,.string cl),(5,.agg ML.toArray),(8,.int .u8 m.q)] (by kernel_rfl) HNC.out) hHeld ?_;simp only [tks];refine wpTail.ready (rs:=[14]) (by kernel_rfl) (by simp) ?_;refine AllTail.cons rfl (fun K hK => ?_) AllTail.nil;rw [if_pos (by rfl)];go_simp
  go_at_call 107
  refine HNM.out.mono ?_;rintro e w3 ⟨rfl,F3,ht3,hu3⟩;have HD:Hid (TDone c ad tb E F w (putsT c cl op kind m T) w3):=hyd ⟨F3,by rw [HE.out];exact ht3,HU2.out.trans' (Upd.pre (Below.refl _ _).drew hu3)⟩;clear ht3 hu3;refine hK.out _ _ (fun h=>absurd rfl h) (fun _ => ?_);refine wpTail.done (by kernel_rfl) ?_ _;clear hHeld
  go_wp2_with fail
  go_end0
  exact ⟨rfl,HD.out⟩
end
section
open Go Go.RowKit Go.Maps
set_option maxRecDepth 100000
set_option maxHeartbeats 4000000
theorem attach_any (w0:World) (hK:Keeps w0) (c:HCfg) (ad:HAd) (tb:Nat) (T:Tn) (E F:List Nat) (w:World) (cl:ByteArray) (z:HSeat) (x:Item) (h:TurnAt c ad w tb T E F) (hB:Base w0 w F) (hok:HOk T) (hn1:1<=c.n) (hn2:c.n<=64) (h0:T.seat cl=some z) (hbz:z.busy=none)
  (hx:ItOk x) (hc:1<=x.conn) (hib:ItB w (E++F) x) (hn:T.mails.length+2000<=100000) (hnn:T.notes.length+2<=100000) :
  Calls Tryz.prog 103 #[.pointer (some ⟨tb,0,none⟩),.pointer (some ⟨ad.seat cl,0,none⟩),.agg x.cells.toArray] w fun e w'=>e = .returned (.tuple #[])/\TDone c ad tb E F w (attachT c z x T) w':=by
 have hzc:=(seat_at h0).2;have hs:=(hok.seat z (seat_at h0).1).s;obtain ⟨a,ha⟩:∃ a,beginA x.conn x.pk z.s=a:=⟨_,rfl⟩;obtain ⟨s1,hs1⟩:∃ s1,beginS x.conn x.pk z.s=s1:=⟨_,rfl⟩;have hs1o:SsOk s1:=hs1 ▸ hs.begin hc hx.conn.2 hx.pk;have hs1c:s1.client=cl:=hs1 ▸ (begin_client x.conn x.pk z.s).trans hzc;obtain ⟨T1,hT1⟩:∃ T1,T.setS cl ⟨s1,none⟩=T1:=⟨_,rfl⟩;have hok1:HOk T1:=hT1 ▸ hok.set0 h0 (by rw [hbz];rfl) (hs1c.trans hzc.symm) (SeOk.idle hs1o);have h1s:T1.seat cl=some ⟨s1,none⟩:=by rw [<- hT1];exact seat_setS' h0 hs1c
 obtain ⟨n1,hn1e⟩:∃ n1,noteA 2 x.op x.conn x.client x.pk.bare a.1=n1:=⟨_,rfl⟩;obtain ⟨T2,hT2⟩:∃ T2,hubsT c (itK 6 x.op x.client) a.2 (T1.note n1)=T2:=⟨_,rfl⟩;have ssf2:SSF T1 T2:=hT2 ▸ (ssf_note _ _).trans (ssf_hubs _ _ _ _);have hok2:HOk T2:=hok1.same ssf2;have h2s:T2.seat cl=some ⟨s1,none⟩:=(ssf2.seat cl).trans h1s
 have HE:Hid (attachT c z x T=if hubsK c a.2=0 then doneAtt c x a.1 ⟨s1,none⟩ T2 else T2.setS cl ⟨s1,some (.att x a.1,hubsK c a.2)⟩):=hyd (by
  unfold attachT;dsimp only
  rw [hzc,hbz,ha,hs1,hT1,hn1e,hT2])
 have hak:a.2.length<=16:=ha ▸ beginA_len hs x.conn x.pk;have hhk:=hubsK_cap c hn1 hn2 a.2;have hfl:∀ f ∈ a.2,f.length<=1000000:=ha ▸ beginA_short hs x.conn x.pk;have hm1:T1.mails.length=T.mails.length/\T1.notes.length=T.notes.length:=by rw [<- hT1];exact ⟨rfl,rfl⟩
 have gr2:=gr_hubs (c:=c) (t:=T1.note n1) (itK 6 x.op x.client) a.2;rw [hT2] at gr2
 have hm2:T2.mails.length<=T.mails.length+1024:=by
  have h9:=gr2.m;have h10:(T1.note n1).mails.length=T1.mails.length:=rfl;omega
 have hnt2:T2.notes.length<=T.notes.length+1:=by
  have h9:=gr2.n;have h10:(T1.note n1).notes.length=T1.notes.length+1:=by simp [Tn.note]
  omega
 have HBG:=hyd (fun X E' (hX:TurnAt c ad X tb T E' F)=>tbegin_any (cl:=cl) (z:=z) hX hok h0 x.conn x.pk);rw [ha,hs1,hbz,hT1] at HBG;have HNO:=hyd (fun X E' G (hX:TurnAt c ad X tb T1 E' G) (hb:Beside X (E'++G) x.pk.subsA (subsV x.pk.subs))=>note_any c ad tb T1 E' G X (noteA 2 x.op x.conn x.client x.pk a.1) n1 x.pk.subsA x.pk.subsC hX (by rw [<- hn1e];rfl) (by rw [<- hn1e];exact hb) (by rw [<- hn1e];have:=hx.pk.nsubs;show x.pk.subs.length<=_;omega) (by omega));have HHU:=hyd (fun X E' G a3 c3 (hX:TurnAt c ad X tb (T1.note n1) E' G) (hBX:Base w0 X G) (hb:Beside X (E'++G) a3 (namesV a.2))=>thubs_any w0 hK.t c ad tb (T1.note n1) E' G X (itK 6 x.op x.client) a.2 a3 c3 hX hBX hn1 hn2 rfl hb hfl (by omega) (by show T1.mails.length+_<=_;omega));rw [hT2] at HHU;have HA1:=hyd (fun X E' G b1 b2 b3 (hX:TurnAt c ad X tb T2 E' G) (hBX:Base w0 X G) (q1:Stay X G b1 [.bool a.1] 4) (q2:Stay X G b2 [bxV (ad.seat cl)] 101) (q3:Stay X G b3 x.cells 44)=>attach1_any w0 hK c ad tb T2 E' G X cl ⟨s1,none⟩ x a.1 b1 b2 b3 hX hBX hok2 hn1 hn2 h2s q1 q2 q3 hx (by omega) (by omega))
 have HBU:=hyd (fun X wb b1 b2 b3 G (hX:TurnAt c ad X tb T2 ([wb]++E) G) (hwb:w.heap.size<=wb) (hw:X.heap[wb]? = some (.cells (waitC x.op pkZ 9 (hubsK c a.2:Nat) ⟨#[]⟩ none (.func (.func 190) #[] #[.pointer (some ⟨b1,0,none⟩),.pointer (some ⟨b2,0,none⟩),.pointer (some ⟨b3,0,none⟩)])).toArray 110 (0,0)))
   (q1:Stay X (([wb]++E)++G) b1 [.bool a.1] 4) (q2:Stay X (([wb]++E)++G) b2 [bxV (ad.seat cl)] 101) (q3:Stay X (([wb]++E)++G) b3 x.cells 44) (q4:ItB X (([wb]++E)++G) x) =>
  hX.busied (k:=.att x a.1) (left:=(hubsK c a.2:Nat)) (v1:=⟨[],wb,b1,b2,b3,0,0⟩) hok2.nd h2s rfl (lies_one (cellPc_ok _ _ _) hw) (fun q hq=>by simpa [feet,wkPcs,cellPc] using hq) (fun q hq hqE=>by
   have:=h.lt q (List.mem_append_left _ hqE);have:=List.mem_singleton.1 hq
   omega) (show Caught X (([wb]++E)++G) ad ⟨[],wb,b1,b2,b3,0,0⟩ ⟨s1,none⟩ (.att x a.1) from ⟨q1,by show Stay X _ b2 [bxV (ad.seat s1.client)] _;rw [hs1c];exact q2,q3,q4⟩))
 have HSH:=hyd (fun X E' G (hX:TurnAt c ad X tb T2 E' G)=>hX.seatHeap h2s rfl);have HIC:=hyd (fun (X:World) (b:Nat) (hX:X.heap[b]? = some (.cells x.cells.toArray 44 (0,0)))=>itC hX);have HNB:=hyd (fun (_:Unit)=>built_noteA2 2 x.op x.conn x.client x.pk a.1);have HWB:=hyd (fun (_:Unit)=>built_wait0 x.op 9);have HIB:=hyd (fun (_:Unit)=>built_item6 6 x.op x.client);have HPS:Hid ((Tryz.prog.info? 39).map (·.size)=some x.pk.cells.length):=hyd (pkt_size' x.pk);have HC2:Hid (∀ X,Below w.heap.size w X->X.cell? ⟨ad.seat cl,0,none⟩=some (.pointer (some ⟨ad.sess cl,0,none⟩))):=hyd (fun X hX=>((h.below hX).seatCells h0).1);have HH1:=hyd h1s;have HT:=hyd h;have HBA:=hyd hB;have HLT:=hyd h.lt;have HIT:=hyd hib;obtain ⟨W1,hW1⟩:∃ W1,w.alloc (.cells #[.pointer (some ⟨ad.seat cl,0,none⟩)] 101)=W1:=⟨_,rfl⟩;obtain ⟨W2,hW2⟩:∃ W2,W1.alloc (.cells x.cells.toArray 44)=W2:=⟨_,rfl⟩;have hz1:W1.heap.size=w.heap.size+1:=by rw [<- hW1];simp
 have hz2:W2.heap.size=w.heap.size+2:=by rw [<- hW2];simp [hz1]
 have hb2:Below w.heap.size w W2:=by rw [<- hW2,<- hW1];exact (low_alloc w _).alloc (by simp) _
 have HX2:Hid (W2.heap[w.heap.size]? = some (.cells [bxV (ad.seat cl)].toArray 101 (0,0))):=hyd (by
  rw [<- hW2,Below.heap_alloc _ _ _ (by omega),<- hW1];exact heap_alloc_new w _)
 have HX3:Hid (W2.heap[w.heap.size+1]? = some (.cells x.cells.toArray 44 (0,0))):=hyd (by rw [<- hz1,<- hW2];exact heap_alloc_new W1 _);have HB2:=hyd hb2;have HZ1:=hyd hz1;have HZ2:=hyd hz2;have HW2:=hyd hW2;have HW1:=hyd hW1;clear h hB hok hn1 hn2 h0 hbz hx hc hib hn hnn hzc hs hs1o hs1c hK ha hs1 hT1 hok1 h1s hn1e hT2 ssf2 hok2 h2s hak hhk hfl hm1 gr2 hm2 hnt2 hb2 hz1 hz2 hW1 hW2
 go_enter Tryz.func103, Tryz.ntmps103
 go_upto_region 1 with fail
 rw [HW1.out,HW2.out]
 have HG1:Hid (∀ X:World,X.heap[w.heap.size]? = some (.cells [bxV (ad.seat cl)].toArray 101 (0,0))->X.heap[w.heap.size+1]? = some (.cells x.cells.toArray 44 (0,0))->X.cell? ⟨ad.seat cl,0,none⟩=some (.pointer (some ⟨ad.sess cl,0,none⟩))->X.cell? ⟨w.heap.size,0,none⟩=some (.pointer (some ⟨ad.seat cl,0,none⟩))/\X.cell? ⟨ad.seat cl,0,none⟩=some (.pointer (some ⟨ad.sess cl,0,none⟩))/\X.cell? ⟨w.heap.size+1,2,none⟩=some (.int .i64 x.conn)/\X.rangeAt (w.heap.size+1) 5 x.pk.cells):=hyd (fun X e2 e3 e4 =>
  ⟨cell_of_row _ _ 0 _ _ _ e2,e4,cell_of_row _ _ 2 _ _ _ e3,item_pk e3⟩)
 have HSW2:=hyd (stay_low (G:=E++F) HX2.out HLT.out);have HSW3:=hyd (stay_low (G:=E++F) HX3.out (fun k hk=>Nat.lt_succ_of_lt (HLT.out k hk)));have HIW:=hyd (HIT.out.upd (Upd.of_below HB2.out));generalize hNL:(noteA 2 x.op x.conn x.client x.pk a.1).cells=NL at *;generalize (itK 6 x.op x.client).cells=IKL at *;generalize hWL:(waitC x.op pkZ 9 0 ⟨#[]⟩ none .nilFunc)=WL at *;generalize hIL:x.cells=IL at *;generalize hPL:x.pk.cells=PL at *;refine wp_region_held_drew (S:=fun X=>X.cell? ⟨w.heap.size,0,none⟩=some (.pointer (some ⟨ad.seat cl,0,none⟩))/\X.cell? ⟨ad.seat cl,0,none⟩=some (.pointer (some ⟨ad.sess cl,0,none⟩))/\X.cell? ⟨w.heap.size+1,2,none⟩=some (.int .i64 x.conn)/\X.rangeAt (w.heap.size+1) 5 PL) (by kernel_rfl) (HG1.out W2.drew HX2.out HX3.out (HC2.out _ HB2.out.drew)) (fun hHeld => ?_);refine tA 0 (h:=tA 1 (h:=tA 2 (h:=tA 3 (h:=tA 4 (h:=tA 5 (h:=tA 6 (h:=?_)))))));simp only [tks];refine tk 7 (v:=.agg PL.toArray) (fun w0 hS0=>exec_load_row rfl rfl hS0.2.2.2 Tryz.underlying39 rfl HPS.out) hHeld ?_;simp only [tks];refine wpAnyH_ready (rs:=[8,12]) (by kernel_rfl) (by simp) ?_;refine AllReadyH.cons rfl (fun K hK => ?A) (AllReadyH.cons rfl (fun K hK => ?B) AllReadyH.nil)
 case' A =>
  rw [if_pos (by rfl)];go_simp
  go_at_call 189
  refine (HBG.out _ E (HT.out.below HB2.out.drew)).mono ?_;rintro e w3 ⟨a3,c3,F3,rfl,ht3,hu3,hbe3⟩;have HSA2:Hid (Stay w3 (E++F3) w.heap.size [bxV (ad.seat cl)] 101):=hyd (Stay.upd (w:=W2.drew) HSW2.out (hu3.ext E));have HSA3:Hid (Stay w3 (E++F3) (w.heap.size+1) IL 44):=hyd (Stay.upd (w:=W2.drew) HSW3.out (hu3.ext E));have HIA:Hid (ItB w3 (E++F3) x):=hyd (ItB.upd (w:=W2.drew) (HIW.out.upd (Upd.of_below (Below.refl _ _).drew)) (hu3.ext E));have HTA:=hyd ht3;have HUA:Hid (Upd F F3 w w3):=hyd (Upd.pre HB2.out.drew hu3);have HBEA:=hyd hbe3;clear ht3 hu3 hbe3;refine hK.out _ _ (HG1.out w3 HSA2.out.2.2 HSA3.out.2.2 (HTA.out.seatCells HH1.out).1) (fun hHeld => ?_);refine tA 9 (h:=tA 10 (h:=tA 11 (h:=?_)));simp only [tks];refine wpAnyH_ready (rs:=[12]) (by kernel_rfl) (by simp) ?_;refine AllReadyH.cons rfl (fun K hK => ?_) AllReadyH.nil;rw [if_pos (by rfl)];go_simp;have hx4:=heap_alloc_new w3 (.cells [Value.bool false].toArray 4);have hb4:=low_alloc w3 (.cells [Value.bool false].toArray 4);have hs4:w3.heap.size < (w3.alloc (.cells [Value.bool false].toArray 4)).heap.size:=by simp
  obtain ⟨w4,hw4⟩:∃ w4,w3.alloc (.cells [Value.bool false].toArray 4)=w4:=⟨_,rfl⟩;rw [hw4] at hx4 hb4 hs4;have hw4':w3.alloc (.cells #[Value.bool false] 4)=w4:=hw4;rw [hw4'];have c4:=cell_of_row _ _ 0 _ _ _ hx4;have f4:=frozen_of_row w4 _ 0 _ _ hx4;have hx5:=heap_setCell_same w4 w3.heap.size 0 _ _ (.bool a.1) hx4;have hb5:Below w3.heap.size w3 (w4.setCell ⟨w3.heap.size,0,none⟩ (.bool a.1)):=hb4.setCell (Nat.le_refl _) _;have HS2:=hyd (HSA2.out.below hb5);have HS3:=hyd (HSA3.out.below hb5);have HI5:=hyd (HIA.out.upd (Upd.of_below hb5));have HT5:=hyd (HTA.out.below hb5);have HU5:=hyd (HUA.out.next hb5);have HBE5:=hyd (HBEA.out.below hb5);have HS1:Hid (Stay (w4.setCell ⟨w3.heap.size,0,none⟩ (.bool a.1)) (E++F3) w3.heap.size [.bool a.1] 4):=hyd (stay_low hx5 HTA.out.lt);have HB1:Hid (w.heap.size<=w3.heap.size):=hyd HUA.out.1.size;have HSC4:=hyd (HG1.out w4 (HSA2.out.below hb4).2.2 (HSA3.out.below hb4).2.2 ((HTA.out.below hb4).seatCells HH1.out).1);clear hx4 hb4 hs4 hw4 hw4' hx5 hb5;refine hK.out _ _ HSC4.out (fun hHeld => ?_);refine wpAnyH_ready (rs:=[13]) (by kernel_rfl) (by simp) ?_;refine AllReadyH.cons rfl (fun K hK => ?_) AllReadyH.nil;rw [if_pos (by rfl)];go_simp;clear c4 f4;generalize w4.setCell ⟨w3.heap.size,0,none⟩ (.bool a.1)=w5 at *;clear HSA2 HSA3 HIA HTA HUA HBEA HSC4;generalize w3.heap.size=b1 at *
 case' B =>
  rw [if_pos (by rfl)];go_simp;have hx3:(W2.alloc (.cells [Value.bool false].toArray 4)).drew.heap[W2.heap.size]? = some (.cells [Value.bool false].toArray 4 (0,0)):=heap_alloc_new W2 (.cells [Value.bool false].toArray 4);have hb3:Below w.heap.size w ((W2.alloc (.cells [Value.bool false].toArray 4)).drew):=(bnext HB2.out (Nat.le_refl _) (low_alloc W2 _)).drew;have hb3':Below W2.heap.size W2 ((W2.alloc (.cells [Value.bool false].toArray 4)).drew):=(low_alloc W2 _).drew;have hs3:W2.heap.size < (W2.alloc (.cells [Value.bool false].toArray 4)).drew.heap.size:=by show _ < (W2.alloc _).heap.size;simp
  obtain ⟨w3,hw3⟩:∃ w3,(W2.alloc (.cells [Value.bool false].toArray 4)).drew=w3:=⟨_,rfl⟩;rw [hw3] at hx3 hb3 hs3 hb3';have hw3':(W2.alloc (.cells #[Value.bool false] 4)).drew=w3:=hw3;rw [hw3'];clear hw3 hw3';have HB1:Hid (w.heap.size<=W2.heap.size):=hyd HB2.out.size;have HTM:Hid (TurnAt c ad w3 tb T (W2.heap.size :: E) F):=hyd (HT.out.more hb3 HB1.out hs3);have HSM2:=hyd (HSW2.out.more (E:=E) (F:=F) hb3' (Nat.le_refl _));have HSM3:=hyd (HSW3.out.more (E:=E) (F:=F) hb3' (Nat.le_refl _));have HIM:=hyd (HIW.out.more (E:=E) (F:=F) hb3' (Nat.le_refl _));have hx3':w3.heap[W2.heap.size]? = some (.cells [Value.bool false].toArray 4 (0,0)):=hx3;have HSB:Hid (Stay w3 F W2.heap.size [.bool false] 4):=hyd (stay_low hx3' (fun k hk=>Nat.lt_of_lt_of_le (HLT.out k (List.mem_append_right _ hk)) HB1.out));have HB3:=hyd hb3;clear hx3 hx3' hb3 hb3' hs3;refine hK.out _ _ (HG1.out w3 HSM2.out.2.2 HSM3.out.2.2 (HC2.out _ HB3.out)) (fun hHeld => ?_);refine wpAnyH_ready (rs:=[8]) (by kernel_rfl) (by simp) ?_;refine AllReadyH.cons rfl (fun K hK => ?_) AllReadyH.nil;rw [if_pos (by rfl)];go_simp
  go_at_call 189
  refine (HBG.out _ _ HTM.out).mono ?_;rintro e w4 ⟨a3,c3,F3,rfl,ht4,hu4,hbe4⟩;have HSN2:=hyd (HSM2.out.upd (hu4.ext (W2.heap.size :: E)));have HSN3:=hyd (HSM3.out.upd (hu4.ext (W2.heap.size :: E)));have HIN:=hyd (HIM.out.upd (hu4.ext (W2.heap.size :: E)));have HTN:=hyd ht4;have HUN:=hyd (Upd.pre HB3.out hu4);have HBEN:=hyd hbe4;have hx4:=(HSB.out.upd hu4);have c4:=stay_cell0 hx4;have f4:=frozen_of_row w4 _ 0 _ _ hx4.2.2;have hx5:=heap_setCell_same w4 W2.heap.size 0 _ _ (.bool a.1) hx4.2.2;have hm5:Mod [W2.heap.size] w4 (w4.setCell ⟨W2.heap.size,0,none⟩ (.bool a.1)):=(Mod.refl _ _).setCell (.inl (by simp)) _;have huw:Upd ((W2.heap.size :: E)++F3) (E++F3) w4 (w4.setCell ⟨W2.heap.size,0,none⟩ (.bool a.1)):=⟨hm5.mono fun k hk=>by rw [List.mem_singleton.1 hk];simp,fun k hk => .inl (List.mem_cons_of_mem _ hk)⟩;have HS2:=hyd (HSN2.out.upd huw);have HS3:=hyd (HSN3.out.upd huw);have HI5:=hyd (HIN.out.upd huw);have HT5:Hid (TurnAt c ad (w4.setCell ⟨W2.heap.size,0,none⟩ (.bool a.1)) tb T1 E F3):=hyd ((HTN.out.wrote hm5 (fun k hk=>by rw [List.mem_singleton.1 hk];simp)).less (fun k hk=>List.mem_cons_of_mem _ hk));have HU5:=hyd (HUN.out.extra hm5 (fun k hk=>by rw [List.mem_singleton.1 hk];exact HB1.out));have HBE5:=hyd (HBEN.out.upd huw)
  have HS1:Hid (Stay (w4.setCell ⟨W2.heap.size,0,none⟩ (.bool a.1)) (E++F3) W2.heap.size [.bool a.1] 4):=hyd ⟨fun hk=>by
   rcases List.mem_append.1 hk with hk | hk
   ·have:=HLT.out _ (List.mem_append_left _ hk);have:=HB1.out;omega
   ·exact (HTN.out.ext W2.heap.size (by simp)).2 hk,(Array.getElem?_eq_some_iff.1 hx5).1,hx5⟩
  have HSC4:=hyd (HG1.out w4 HSN2.out.2.2 HSN3.out.2.2 (HTN.out.seatCells HH1.out).1);clear hx4 hx5 hm5 huw ht4 hu4 hbe4;refine hK.out _ _ HSC4.out (fun hHeld => ?_);refine tA 9 (h:=tA 10 (h:=tA 11 (h:=?_)));simp only [tks];refine wpAnyH_ready (rs:=[13]) (by kernel_rfl) (by simp) ?_;refine AllReadyH.cons rfl (fun K hK => ?_) AllReadyH.nil;rw [if_pos (by rfl)];go_simp;clear c4 f4;generalize w4.setCell ⟨W2.heap.size,0,none⟩ (.bool a.1)=w5 at *;clear HSM2 HSM3 HIM HTM HSB HSN2 HSN3 HIN HTN HUN HBEN HSC4 HB3;generalize hb1:W2.heap.size=b1 at *;clear hb1
 all_goals
  refine hK.out _ _ (HG1.out w5 HS2.out.2.2 HS3.out.2.2 (HT5.out.seatCells HH1.out).1) (fun hHeld => ?_);refine tA 14 (h:=?_);simp only [tks];refine wpAnyH_done (by kernel_rfl) ?_ _;clear hHeld;obtain ⟨q1,q2,q3⟩:=HIC.out w5 _ HS3.out.2.2;have p1:=stay_cell0 HS1.out;have HRA:=hyd (HG1.out w5 HS2.out.2.2 HS3.out.2.2 (HT5.out.seatCells HH1.out).1).2.2.2
  go_wp2_with (first
   | (refine wpList_loadMid rfl 39 _ rfl (w.heap.size+1) 5 rfl PL _ HRA.out Tryz.underlying39 rfl HPS.out _ rfl ?_)
   | (refine wpList_buildBy rfl 79 _ rfl _ rfl NL.toArray [(0,.int .u8 2),(1,.int .i64 x.op),(2,.int .i64 x.conn),(3,.string x.client),(4,.agg PL.toArray),(7,.bool a.1)] (by kernel_rfl) (HNB.out ()) ?_)
   | fail)
  refine (HNO.out w5 E F3 HT5.out HI5.out.1).mono ?_;rintro e w6 ⟨rfl,F6,ht6,hu6⟩;have HS61:=hyd (HS1.out.upd (hu6.ext E));have HS62:=hyd (HS2.out.upd (hu6.ext E));have HS63:=hyd (HS3.out.upd (hu6.ext E));have HI6:=hyd (HI5.out.upd (hu6.ext E));have HBE6:=hyd (HBE5.out.upd (hu6.ext E));have HT6:=hyd ht6;have HU6:=hyd (HU5.out.trans' hu6);clear ht6 hu6 q1 q2 q3 p1 HS1 HS2 HS3 HI5 HBE5 HT5 HU5 HRA;obtain ⟨q1,q2,q3⟩:=HIC.out w6 _ HS63.out.2.2
  go_upto_region 4 with (first
   | (refine wpList_buildBy rfl 110 _ rfl _ rfl WL.toArray [(0,.int .i64 x.op),(3,.int .u8 9)] (by kernel_rfl) (HWB.out ()) ?_)
   | fail)
  clear q1 q2 q3;have hx7:=heap_alloc_new w6 (.cells WL.toArray 110);have hb7:=low_alloc w6 (.cells WL.toArray 110);have hs7:w6.heap.size < (w6.alloc (.cells WL.toArray 110)).heap.size:=by simp
  have HWB7:Hid (w.heap.size<=w6.heap.size):=hyd HU6.out.1.size;have HT7:Hid (TurnAt c ad (w6.alloc (.cells WL.toArray 110)) tb (T1.note n1) (w6.heap.size :: E) F6):=hyd (HT6.out.more hb7 (Nat.le_refl _) hs7);have HS71:=hyd (HS61.out.more (E:=E) (F:=F6) hb7 (Nat.le_refl _));have HS72:=hyd (HS62.out.more (E:=E) (F:=F6) hb7 (Nat.le_refl _));have HS73:=hyd (HS63.out.more (E:=E) (F:=F6) hb7 (Nat.le_refl _));have HI7:=hyd (HI6.out.more (E:=E) (F:=F6) hb7 (Nat.le_refl _));have HBE7:=hyd (HBE6.out.more (E:=E) (F:=F6) hb7 (Nat.le_refl _));have HU7:=hyd (HU6.out.next hb7);have HX7:=hyd hx7;clear hx7 hb7 hs7 HS61 HS62 HS63 HI6 HBE6 HT6 HU6;generalize w6.alloc (.cells WL.toArray 110)=w7 at *;generalize w6.heap.size=wb at *;obtain ⟨q1,q2,q3⟩:=HIC.out w7 _ HS73.out.2.2
  go_wp2_with (first
   | (refine wpList_buildBy rfl 44 _ rfl _ rfl IKL.toArray [(0,.int .u8 6),(1,.int .i64 x.op),(3,.string x.client)] (by kernel_rfl) (HIB.out ()) ?_)
   | fail)
  refine (HHU.out w7 (wb :: E) F6 a3 c3 HT7.out (HBA.out.upd HU7.out) HBE7.out).mono ?_;rintro e w8 ⟨rfl,F8,ht8,hu8⟩;have hx8:=(hu8.1.block wb (Array.getElem?_eq_some_iff.1 HX7.out).1 (HT7.out.ext wb (by simp)).2).trans HX7.out;have HS81:=hyd (HS71.out.upd (hu8.ext (wb :: E)));have HS82:=hyd (HS72.out.upd (hu8.ext (wb :: E)));have HS83:=hyd (HS73.out.upd (hu8.ext (wb :: E)));have HI8:=hyd (HI7.out.upd (hu8.ext (wb :: E)));have HT8:=hyd ht8;have HU8:=hyd (HU7.out.trans' hu8);rw [<- hWL] at hx8;have c27:w8.cell? ⟨wb,27,none⟩=some (.int .i64 0):=by rw [cell_of_row _ _ 27 _ _ _ hx8];rfl
  have f27:=frozen_of_row w8 _ 27 _ _ hx8;have hx9:=wait_left hx8 (hubsK c a.2:Nat);have hm9:Mod [wb] w8 (w8.setCell ⟨wb,27,none⟩ (.int .i64 (hubsK c a.2:Nat))):=(Mod.refl _ _).setCell (.inl (by simp)) _;have HM9:=hyd hm9;have HX9:=hyd hx9;clear ht8 hu8 hx8 hm9 hx9 q1 q2 q3 HS71 HS72 HS73 HI7 HBE7 HT7 HU7 HX7
  go_upto_region 5 with fail
  clear c27 f27;generalize w8.setCell ⟨wb,27,none⟩ (.int .i64 (hubsK c a.2:Nat))=w9 at *;have c30:w9.cell? ⟨wb,30,none⟩=some .nilFunc:=by rw [cell_of_row _ _ 30 _ _ _ HX9.out];rfl
  have f30:=frozen_of_row w9 _ 30 _ _ HX9.out;obtain ⟨dv,hdv⟩:∃ dv:Value,.func (.func 190) #[] #[.pointer (some ⟨b1,0,none⟩),.pointer (some ⟨w.heap.size,0,none⟩),.pointer (some ⟨w.heap.size+1,0,none⟩)]=dv:=⟨_,rfl⟩;have hxa:=wait_done HX9.out dv;have hma:Mod [wb] w8 (w9.setCell ⟨wb,30,none⟩ dv):=HM9.out.trans ((Mod.refl [wb] w9).setCell (.inl (by simp)) dv) (fun k hk => .inl hk);have HXA:=hyd hxa;have HMA:=hyd hma;have HDV:=hyd hdv;clear hxa hma hdv
  go_upto_region 6 with fail
  clear c30 f30;rw [HDV.out];generalize w9.setCell ⟨wb,30,none⟩ dv=wa at *;have huw:Upd ((wb :: E)++F8) ((wb :: E)++F8) w8 wa:=upd_in HMA.out (fun k hk=>by rw [List.mem_singleton.1 hk];simp);have HSA1:=hyd (HS81.out.upd huw);have HSA2:=hyd (HS82.out.upd huw);have HSA3:=hyd (HS83.out.upd huw);have HIA:=hyd (HI8.out.upd huw);have HTA:Hid (TurnAt c ad wa tb T2 (wb :: E) F8):=hyd (HT8.out.wrote HMA.out (fun k hk=>by rw [List.mem_singleton.1 hk];simp));have HUA:=hyd (HU8.out.extra HMA.out (fun k hk=>by rw [List.mem_singleton.1 hk];exact HWB7.out));have p2:=stay_cell0 HSA2.out;have hsub:∀ k ∈ F8,k ∈ (wb :: E)++F8:=fun k hk=>List.mem_append_right _ hk
  have HA1':=hyd (HA1.out wa (wb :: E) F8 b1 w.heap.size (w.heap.size+1) HTA.out (HBA.out.upd HUA.out) (HSA1.out.sub hsub) (HSA2.out.sub hsub) (HSA3.out.sub hsub));clear huw hsub HS81 HS82 HS83 HI8 HT8 HU8 HM9 HX9 HMA
  go_wp2_with fail
  rw [<- HDV.out] at HXA
  by_cases hk:hubsK c a.2=0
  ·have hx0:=HXA.out
   rw [hk] at hx0;refine (waits_att tb (ad.seat cl) wb b1 w.heap.size (w.heap.size+1) wa x.op pkZ 9 ⟨#[]⟩ none (TDone c ad tb (wb :: E) F8 wa (doneAtt c x a.1 ⟨s1,none⟩ T2)) hx0 HA1'.out).mono ?_;rintro e wc ⟨rfl,Fc,htc,huc⟩;have HD:Hid (TDone c ad tb E F w (attachT c z x T) wc):=hyd ⟨Fc,by rw [HE.out,if_pos hk];exact htc.less (fun k hk=>List.mem_cons_of_mem _ hk),HUA.out.trans' huc⟩;clear htc huc hx0 p2
   go_wp2_with fail
   go_end0
   exact ⟨rfl,HD.out⟩
  ·refine (waits_some tb (ad.seat cl) wb wa x.op (hubsK c a.2:Nat) pkZ 9 ⟨#[]⟩ none _ _ _ (by omega) HXA.out (HSH.out wa _ F8 HTA.out)).mono ?_
   rintro e wc ⟨rfl,rfl⟩;obtain ⟨Fc,htc,hmc,hfc⟩:=HBU.out wa wb b1 w.heap.size (w.heap.size+1) F8 HTA.out HWB7.out HXA.out HSA1.out HSA2.out HSA3.out HIA.out;have HD:Hid (TDone c ad tb E F w (attachT c z x T) (wa.setCell ⟨ad.seat cl,1,none⟩ (bxV wb))):=hyd ⟨Fc,by rw [HE.out,if_neg hk];exact htc,Upd.joinX HUA.out hmc hfc (fun k hk=>by rw [List.mem_singleton.1 hk];exact HWB7.out)⟩;clear htc hmc hfc p2
   go_wp2_with fail
   go_end0
   exact ⟨rfl,HD.out⟩
end
section
open Go Go.RowKit Go.Maps
theorem closed_any (w0:World) (hT:Tabs w0) (c:HCfg) (ad:HAd) (tb:Nat) (T:Tn) (E F:List Nat) (w:World) (cl:ByteArray) (z:HSeat) (old op:Int) (h:TurnAt c ad w tb T E F) (hB:Base w0 w F) (hok:HOk T) (hn1:1<=c.n) (hn2:c.n<=64) (h0:T.seat cl=some z) (hbz:z.busy=none)
  (hn:T.mails.length+1<=100000) (hnn:T.notes.length+5<=100000) (hfl:T.flows.length<=100000) (ho0:0<=T.ops) (ho1:T.ops+1<=1000000) :
  Calls Tryz.prog 105 #[.pointer (some ⟨tb,0,none⟩),.pointer (some ⟨ad.seat cl,0,none⟩),.int .i64 old,.int .i64 op] w fun e w'=>e = .returned (.tuple #[])/\TDone c ad tb E F w (closedT c z old op T) w':=by
 by_cases hop:op=0
 ·subst hop
  exact closed_gone w0 hT c ad tb T E F w cl z old h hB hok hn1 hn2 h0 hbz hn hnn hfl ho0 ho1
 ·exact closed_left c ad tb T E F w cl z old op h hok h0 hop hnn
theorem TurnAt.unbusy {c:HCfg} {ad:HAd} {w:World} {tb:Nat} {T:Tn} {E F:List Nat} {cl:ByteArray} {z:HSeat} (h:TurnAt c ad w tb T E F) (hnd:(T.seats.map (·.s.client)).Nodup) (h0:T.seat cl=some z) :
  TDone c ad tb E F w (T.setS cl ⟨z.s,none⟩) (w.setCell ⟨ad.seat cl,1,none⟩ (.pointer none)):=by
 obtain ⟨v,hP,rfl⟩:=h;obtain ⟨h1,h2⟩:=hP.unbusy hnd h0;exact ⟨_,⟨_,h1,rfl⟩,h2⟩
theorem TurnAt.seatHeap' {c:HCfg} {ad:HAd} {w:World} {tb:Nat} {T:Tn} {E F:List Nat} {cl:ByteArray} {z:HSeat} (h:TurnAt c ad w tb T E F) (h0:T.seat cl=some z):∃ u,w.heap[ad.seat cl]? = some (.cells [bxV (ad.sess cl),u].toArray 105 (0,0)):=by
 obtain ⟨v,hP,-⟩:=h;exact ⟨_,hP.seatCell h0⟩
def closedAtt (c:HCfg) (y:Item) (s:SS) (old many:Int) (T:Tn):Tn:=attachT c ⟨leaveS s,none⟩ y (closedT c ⟨s,none⟩ old many (T.setS s.client ⟨s,none⟩))
set_option maxRecDepth 100000
set_option maxHeartbeats 4000000
theorem connect1_any (w0:World) (hK:Keeps w0) (c:HCfg) (ad:HAd) (tb:Nat) (T:Tn) (E F:List Nat) (w:World) (cl:ByteArray) (z:HSeat) (x:Item) (old many:Int) (b1 b2 b3 b4 wb:Nat) (h:TurnAt c ad w tb T E F) (hB:Base w0 w F) (hnd:(T.seats.map (·.s.client)).Nodup) (hokT:HOk (T.setS cl ⟨z.s,none⟩)) (hn1:1<=c.n) (hn2:c.n<=64) (h0:T.seat cl=some z)
  (s1:Stay w (E++F) b1 [bxV (ad.seat cl)] 101) (s2:Stay w (E++F) b2 [.int .i64 old] 3) (s3:Stay w (E++F) b3 [bxV wb] 103) (s4:Stay w (E++F) b4 x.cells 44) (hib:ItB w (E++F) x)
  (hwb:wb ≠ ad.seat cl) (hw:w.cell? ⟨wb,27,none⟩=some (.int .i64 many))
  (hx:ItOk x) (hc:1<=x.conn) (hn:T.mails.length+3000<=100000) (hnn:T.notes.length+10<=100000) (hfl:T.flows.length<=100000) (ho0:0<=T.ops) (ho1:T.ops+1<=1000000) :
  Calls Tryz.prog 104 #[.pointer (some ⟨tb,0,none⟩),.pointer (some ⟨b1,0,none⟩),.pointer (some ⟨b2,0,none⟩),.pointer (some ⟨b3,0,none⟩),.pointer (some ⟨b4,0,none⟩)] w fun e w'=>e = .returned (.tuple #[])/\TDone c ad tb E F w (closedAtt c x z.s old many T) w':=by
 have hzc:=(seat_at h0).2;obtain ⟨T1,hT1⟩:∃ T1,T.setS cl ⟨z.s,none⟩=T1:=⟨_,rfl⟩;have hok1:HOk T1:=hT1 ▸ hokT;have h1s:T1.seat cl=some ⟨z.s,none⟩:=by rw [<- hT1];exact seat_setS' h0 hzc
 have hl1:T1.mails.length=T.mails.length/\T1.notes.length=T.notes.length/\T1.flows.length=T.flows.length/\T1.ops=T.ops:=by rw [<- hT1];exact ⟨rfl,rfl,rfl,rfl⟩
 obtain ⟨T2,hT2⟩:∃ T2,closedT c ⟨z.s,none⟩ old many T1=T2:=⟨_,rfl⟩;have hco:=closed_ok (c:=c) (old:=old) (many:=many) hok1 h1s rfl (by omega) (by omega);have hgr:=gr_closed (c:=c) (t:=T1) ⟨z.s,none⟩ old many;rw [hT2] at hco hgr;have g1:=hgr.n;have g2:=hgr.m;have HE:Hid (closedAtt c x z.s old many T=attachT c ⟨leaveS z.s,none⟩ x T2):=hyd (by unfold closedAtt;rw [hzc,hT1,hT2]);have HUN:=hyd (h.unbusy hnd h0);rw [hT1] at HUN;have HCL:=hyd (fun X G (hX:TurnAt c ad X tb T1 E G) (hBX:Base w0 X G)=>closed_any w0 hK.t c ad tb T1 E G X cl ⟨z.s,none⟩ old many hX hBX hok1 hn1 hn2 h1s rfl (by omega) (by omega) (by omega) (by omega) (by omega));rw [hT2] at HCL;have HAT:=hyd (fun X G (hX:TurnAt c ad X tb T2 E G) (hBX:Base w0 X G) (hi:ItB X (E++G) x)=>attach_any w0 hK c ad tb T2 E G X cl ⟨leaveS z.s,none⟩ x hX hBX hco.1 hn1 hn2 hco.2 rfl hx hc hi (by omega) (by omega));obtain ⟨u,hsh⟩:=h.seatHeap' h0;have c1:w.cell? ⟨ad.seat cl,1,none⟩=some u:=by rw [cell_of_row _ _ 1 _ _ _ hsh];rfl
 have f1:=frozen_of_row w _ 1 _ _ hsh;have p1:w.cell? ⟨b1,0,none⟩=some (.pointer (some ⟨ad.seat cl,0,none⟩)):=stay_cell0 s1;have HB:=hyd hB;have HS1:=hyd s1;have HS2:=hyd s2;have HS3:=hyd s3;have HS4:=hyd s4;have HIT:=hyd hib;have HPS:Hid ((Tryz.prog.info? 44).map (·.size)=some x.cells.length):=hyd (item_size x)
 have HW:Hid ((w.setCell ⟨ad.seat cl,1,none⟩ (.pointer none)).cell? ⟨wb,27,none⟩=some (.int .i64 many)):=hyd (by
  rw [<- hw]
  exact World.cell?_of_block (w:=w) (heap_setCell_other w _ _ _ (fun e=>hwb e)))
 clear h hB hnd hokT hn1 hn2 h0 s1 s2 s3 s4 hib hwb hw hx hc hn hnn hfl ho0 ho1 hzc hT1 hok1 h1s hl1 hT2 hco hgr g1 g2 hsh hK;generalize x.cells=IL at *
 go_enter Tryz.func104, Tryz.ntmps104
 go_upto_region 1 with fail
 clear c1 f1 p1;generalize w.setCell ⟨ad.seat cl,1,none⟩ (.pointer none)=w1 at *;obtain ⟨F1,ht1,hu1⟩:=HUN.out;have HT1:=hyd ht1;have HU1:=hyd hu1
 have HP:Hid (∀ X,Below w1.heap.size w1 X->X.cell? ⟨b1,0,none⟩=some (.pointer (some ⟨ad.seat cl,0,none⟩))/\X.cell? ⟨b2,0,none⟩=some (.int .i64 old)/\X.cell? ⟨b3,0,none⟩=some (.pointer (some ⟨wb,0,none⟩))/\X.cell? ⟨wb,27,none⟩=some (.int .i64 many)):=hyd (fun X hX =>
  ⟨stay_cell0 ((HS1.out.upd (HU1.out.ext E)).below hX),stay_cell0 ((HS2.out.upd (HU1.out.ext E)).below hX),stay_cell0 ((HS3.out.upd (HU1.out.ext E)).below hX),(hX.cell (p:=⟨wb,27,none⟩) (World.block_lt_of_cell? w1 _ HW.out)).trans HW.out⟩)
 clear ht1 hu1 HUN;refine wp_region_tail (S:=fun X=>X.cell? ⟨b1,0,none⟩=some (.pointer (some ⟨ad.seat cl,0,none⟩))/\X.cell? ⟨b2,0,none⟩=some (.int .i64 old)/\X.cell? ⟨b3,0,none⟩=some (.pointer (some ⟨wb,0,none⟩))/\X.cell? ⟨wb,27,none⟩=some (.int .i64 many)) 7 (by kernel_rfl) (HP.out _ (Below.refl _ _).drew) (fun hHeld => ?_);refine uA 0 (h:=uA 1 (h:=uA 2 (h:=uA 3 (h:=uA 4 (h:=uA 5 (h:=uA 6 (h:=?_)))))));simp only [tks];refine wpTail.ready (rs:=[7]) (by kernel_rfl) (by simp) ?_;refine AllTail.cons rfl (fun K hK => ?_) AllTail.nil;rw [if_pos (by rfl)];go_simp
 go_at_call 105
 refine (HCL.out w1.drew F1 (HT1.out.below (Below.refl _ _).drew) ((HB.out.upd HU1.out).below (Below.refl _ _).drew)).mono ?_;rintro e w2 ⟨rfl,F2,ht2,hu2⟩;have HU2:=hyd (HU1.out.trans' (Upd.pre (Below.refl _ _).drew hu2));have HT2:=hyd ht2;clear ht2 hu2;refine hK.out _ _ (fun h=>absurd rfl h) (fun _ => ?_);refine wpTail.done (by kernel_rfl) ?_ _;clear hHeld;have p1:w2.cell? ⟨b1,0,none⟩=some (.pointer (some ⟨ad.seat cl,0,none⟩)):=stay_cell0 (HS1.out.upd (HU2.out.ext E));have HRA:=hyd (range_blk (HS4.out.upd (HU2.out.ext E)).2.2)
 go_wp2_with (first
  | (refine wpList_loadMid rfl 44 _ rfl b4 0 rfl IL _ HRA.out Tryz.underlying44 rfl HPS.out _ rfl ?_)
  | fail)
 clear p1;refine (HAT.out w2 F2 HT2.out (HB.out.upd HU2.out) (HIT.out.upd (HU2.out.ext E))).mono ?_;rintro e w3 ⟨rfl,F3,ht3,hu3⟩;have HD:Hid (TDone c ad tb E F w (closedAtt c x z.s old many T) w3):=hyd ⟨F3,by rw [HE.out];exact ht3,HU2.out.trans' hu3⟩;clear ht3 hu3
 go_wp2_with fail
 go_end0
 exact ⟨rfl,HD.out⟩
end
end Go.Proofs.YtcekcoepdhnfgaaGreatDoor
