/- deliver: a message comes for clients. -/
import Derived.Test.YtcekcoepdhnfgaaGreatDoorHHJ
import Derived.Test.YtcekcoepdhnfgaaGreatDoorHAY
import Derived.StillTailTactics
namespace Go.Proofs.YtcekcoepdhnfgaaGreatDoor
open Go Go.RowKit Go.Maps
theorem item_msg {w:World} {b:Nat} {x:Item} (h:w.heap[b]? = some (.cells x.cells.toArray 44 (0,0))):w.rangeAt b 29 x.msg.cells/\w.cell? ⟨b,29,none⟩=some (.string x.msg.t)/\w.cell? ⟨b,32,none⟩=some (.bool x.msg.r)/\w.cell? ⟨b,34,none⟩=some (.slice x.clsA x.cls.length x.clsC)/\w.cell? ⟨b,36,none⟩=some (.int .i64 x.frm)/\w.cell? ⟨b,1,none⟩=some (.int .i64 x.op)/\w.cell? ⟨b,3,none⟩=some (.string x.client):=by
 refine ⟨?_,by rw [cell_of_row _ _ 29 _ _ _ h];rfl,by rw [cell_of_row _ _ 32 _ _ _ h];rfl,by rw [cell_of_row _ _ 34 _ _ _ h];rfl,by rw [cell_of_row _ _ 36 _ _ _ h];rfl,by rw [cell_of_row _ _ 1 _ _ _ h];rfl,by rw [cell_of_row _ _ 3 _ _ _ h];rfl⟩;have e:x.cells=([.int .u8 x.kind,.int .i64 x.op,.int .i64 x.conn,.string x.client,.string x.filter]++x.pk.cells)++(x.msg.cells++([.slice x.msA x.ms.length x.msC,.slice x.clsA x.cls.length x.clsC,.slice x.pksA x.pks.length x.pksC,.int .i64 x.frm,.int .i64 x.many])):=by simp [Item.cells]
 rw [e] at h;exact mid_cells h
theorem delivers_ok (c:HCfg) (x:Item) (hx:ItOk x) (T:Tn) (hok:HOk T) (K:Nat) (hk:KeptLe K T):∀ (l:List ByteArray),HOk (l.foldl (fun t cl=>deliver1 c x cl t) T)/\KeptLe (K+l.length) (l.foldl (fun t cl=>deliver1 c x cl t) T)/\Gr l.length l.length 0 0 T (l.foldl (fun t cl=>deliver1 c x cl t) T):=by
 intro l
 induction l generalizing T K with
 | nil=>exact ⟨hok,hk,Gr.refl⟩
 | cons d r ih =>
  obtain ⟨h1,h2,h3⟩:=ih (deliver1 c x d T) (deliver1_hok hok hx) (K+1) (hk.deliver1 hok);refine ⟨h1,h2.mono (by simp;omega),((gr_deliver1 (c:=c) x d).trans h3).le (h1:=by simp;omega) (h2:=by simp;omega)⟩
set_option maxRecDepth 100000
set_option maxHeartbeats 4000000
theorem deliver_any (w0:World) (hK:Keeps w0) (c:HCfg) (ad:HAd) (tb:Nat) (T:Tn) (E F:List Nat) (w:World) (x:Item) (h:TurnAt c ad w tb T E F) (hB:Base w0 w F) (hok:HOk T) (hn1:1<=c.n) (hn2:c.n<=64)
  (hx:ItOk x) (hib:ItB w (E++F) x) (hkl:KeptLe 900000 T) (hn:T.mails.length+200<=100000) (hnn:T.notes.length+200<=100000) :
  Calls Tryz.prog 44 #[.pointer (some ⟨tb,0,none⟩),.agg x.cells.toArray] w fun e w'=>e = .returned (.tuple #[])/\TDone c ad tb E F w (deliverT c x T) w':=by
 obtain ⟨cs,hcs⟩:∃ cs,x.cls=cs:=⟨_,rfl⟩;have hcl:cs.length<=100:=hcs ▸ hx.ncls;have hcm:∀ d ∈ cs,d.size<=1000:=hcs ▸ hx.cls;obtain ⟨TK,hTK⟩:∃ TK:Nat->Tn,∀ k,(cs.take k).foldl (fun t cl=>deliver1 c x cl t) T=TK k:=⟨_,fun _=>rfl⟩;have hTK0:TK 0=T:=by rw [<- hTK];rfl
 have hTKs:∀ k (hk:k < cs.length),TK (k+1)=deliver1 c x cs[k] (TK k):=fun k hk=>by
  rw [<- hTK,<- hTK,List.take_succ_eq_append_getElem hk,List.foldl_append]
  rfl
 have hall:∀ k,HOk (TK k)/\KeptLe 900100 (TK k)/\(TK k).notes.length<=T.notes.length+100/\(TK k).mails.length<=T.mails.length+100:=fun k=>by
  obtain ⟨h1,h2,h3⟩:=delivers_ok c x hx T hok 900000 hkl (cs.take k);rw [hTK] at h1 h2 h3;have e4:(cs.take k).length<=100:=by simp;omega
  have g1:=h3.n;have g2:=h3.m;exact ⟨h1,h2.mono (by omega),by omega,by omega⟩
 have HE:Hid (deliverT c x T=if 0<=x.frm/\x.frm < c.n then (TK cs.length).mail x.frm 6 (itK 12 x.op x.client) else TK cs.length):=hyd (by
  unfold deliverT;dsimp only
  rw [hcs,show cs.foldl (fun t cl=>deliver1 c x cl t) T=TK cs.length by rw [<- hTK,List.take_length]])
 have HALL:=hyd hall;have HTKS:=hyd hTKs;have HCM:=hyd hcm;have HCL:=hyd hcl;have HNN:=hyd (And.intro hn hnn);have HN:=hyd (And.intro hn1 hn2);have HKK:=hyd hK;have HXO:=hyd hx;have hbw:=boxW_low w x;have hxw:(boxW w x).heap[w.heap.size]? = some (.cells x.cells.toArray 44 (0,0)):=heap_alloc_new w _;obtain ⟨W,hW⟩:∃ W,w.alloc (.cells x.cells.toArray 44)=W:=⟨_,rfl⟩;rw [show boxW w x=W from hW] at hbw hxw;have HT:Hid (TurnAt c ad W tb (TK 0) E F):=hyd (by rw [hTK0];exact h.below hbw);have HU0:Hid (Upd F F w W):=hyd (Upd.of_below hbw);have HSX:Hid (Stay W (E++F) w.heap.size x.cells 44):=hyd (stay_low hxw h.lt);have HIB:Hid (ItB W (E++F) x):=hyd (hib.upd (Upd.of_below hbw));have HBA:Hid (Base w0 W F):=hyd (hB.below hbw)
 have HX:=hyd (fun X G (hu:Upd F G W X)=>show X.rangeAt w.heap.size 29 x.msg.cells/\X.cell? ⟨w.heap.size,29,none⟩=some (.string x.msg.t)/\X.cell? ⟨w.heap.size,32,none⟩=some (.bool x.msg.r)/\X.cell? ⟨w.heap.size,34,none⟩=some (.slice x.clsA cs.length x.clsC)/\X.cell? ⟨w.heap.size,36,none⟩=some (.int .i64 x.frm)/\X.cell? ⟨w.heap.size,1,none⟩=some (.int .i64 x.op)/\X.cell? ⟨w.heap.size,3,none⟩=some (.string x.client) from by
  rw [<- hcs]
  exact item_msg (HSX.out.upd (hu.ext E)).2.2)
 have HRW:=hyd (fun X G (hu:Upd F G W X)=>show Row X x.clsA (cs.map .string) from by
  rw [<- hcs]
  exact (HIB.out.upd (hu.ext E)).2.2.row)
 have HLK:=hyd (fun X k G d (hX:TurnAt c ad X tb (TK k) E G) (hd:d.size<=1000)=>show X.cell? ⟨tb,0,none⟩=some (.pointer (some ⟨ad.hb,0,none⟩))/\X.cell? ⟨ad.hb,6,none⟩=some (.map (some ad.ms))/\(Instr.lookup 89 (.map (some ad.ms)) (.string d) false).run Tryz.prog X = .ok (ptrV (((TK k).seat d).map fun _=>ad.seat d)) X from by
  obtain ⟨v,hP,-⟩:=hX;obtain ⟨d0,-,-,-,d6,-⟩:=hP.cells
  exact ⟨d0,d6,hP.lookSeat (by unfold maxLen;omega)⟩)
 have HW:=hyd hW;clear h hB hok hn1 hn2 hx hib hkl hn hnn hK hcs hcl hcm hTK hTK0 hTKs hall hbw hxw hW;obtain ⟨-,-,-,c34,-⟩:=HX.out W F (Upd.refl _ _);generalize x.cells=IL at *;generalize x.clsA=ca at *;generalize x.clsC=cc at *
 go_enter Tryz.func44, Tryz.ntmps44
 go_upto_region 1 with fail
 rw [HW.out]
 go_wp2_with fail
 go_loopw [5,6,7,8,9,13] (fun _ _ _ _ _ i wr => ∃ (k:Nat) (F':List Nat),i = .int .i64 k/\k<=cs.length/\TurnAt c ad wr tb (TK k) E F'/\Upd F F' W wr) (fun _ _ _ _ _ i _=>(cs.length - intOf i).toNat)
 case atStart=>exact ⟨0,F,rfl,Nat.zero_le _,HT.out,Upd.refl _ _⟩
 case round =>
  obtain ⟨k,F1,rfl,hk,ht,hu⟩:=hrel;have HTR:=hyd ht;have HUR:=hyd hu;clear ht hu c34
  by_cases hlt:k < cs.length
  ·have hk0:(0:Int)<=k:=by omega
   have hkl:(k:Int) < cs.length:=by omega
   obtain ⟨rb,off,rfl,c0⟩:=(HRW.out wr F1 HUR.out).at (j:=k) (u:=.string cs[k]) (by simp [hlt]);have HTKk:=hyd (HTKS.out k hlt);have HDS:=hyd (HCM.out _ (List.getElem_mem hlt));generalize cs[k]=d at *;have hw1:IntKind.i64.wrap ((k:Int)+1)=(k:Int)+1:=w_i64 _ (by omega) (by have:=HCL.out;omega);obtain ⟨d0,d6,hlk⟩:=HLK.out wr k F1 d HTR.out HDS.out
   cases hs:(TK k).seat d with
   | none =>
    rw [hs] at hlk;have hlk':(Instr.lookup 89 (.map (some ad.ms)) (.string d) false).run Tryz.prog wr = .ok (.pointer none) wr:=hlk;have HEQ:Hid (TK (k+1)=TK k):=hyd (by rw [HTKk.out];unfold deliver1;rw [hs]);clear hlk hs
    go_wp2_with fail
    go_roundw
    case rel=>exact ⟨k+1,F1,by go_num,by omega,by rw [HEQ.out];exact HTR.out,HUR.out⟩
    case measure=>simp [intOf];omega
   | some z =>
    rw [hs] at hlk;have hlk':(Instr.lookup 89 (.map (some ad.ms)) (.string d) false).run Tryz.prog wr = .ok (.pointer (some ⟨ad.seat d,0,none⟩)) wr:=hlk;have HS:=hyd hs;clear hlk hs;obtain ⟨T1,hT1⟩:∃ T1,deliverP c x d z (TK k)=T1:=⟨_,rfl⟩;have HT1E:=hyd hT1;have hok1:HOk T1:=hT1 ▸ deliverP_ok (HALL.out k).1;have hkl1:KeptLe 900100 T1:=hT1 ▸ (HALL.out k).2.1.deliverP HS.out;obtain ⟨o1,ho1⟩:=deliverP_seat (c:=c) (x:=x) HS.out;rw [hT1] at ho1;have HEQ1:Hid (TK (k+1)=keepT x d T1):=hyd (by rw [HTKk.out];unfold deliver1;rw [HS.out];dsimp only;rw [hT1]);have HO1:=hyd hok1;have HK1:=hyd hkl1;have HH1:=hyd ho1;clear hT1 hok1 hkl1 ho1
    go_upto_region 6 with fail
    clear c0 d0 d6 hlk';obtain ⟨lb,FL,l1,l2,l3,-⟩:=(HTR.out.below (Below.refl _ _).drew).lists (HALL.out k).1 HS.out;have hsk:=((HALL.out k).1.seat z (seat_at HS.out).1).s;have hbst:=sbest_any lb z.s.l FL x.msg.k wr.drew l2 hsk.l (HKK.out.t.below ((HBA.out.upd HUR.out).below (Below.refl _ _).drew).1) (by have:=HXO.out.msg.1;show x.msg.t.data.toList.length < _;rw [Array.length_toList];have e:x.msg.t.data.size=x.msg.t.size:=rfl;omega);rw [show (⟨x.msg.k.toArray⟩:ByteArray)=x.msg.t from str_eta _] at hbst;obtain ⟨bq,hbq⟩:∃ bq,(bestS x.msg.k z.s.l).1=bq:=⟨_,rfl⟩;obtain ⟨bo,hbo⟩:∃ bo,(bestS x.msg.k z.s.l).2=bo:=⟨_,rfl⟩;rw [hbq,hbo] at hbst;have hbl:=bestS_le (n:=x.msg.k) hsk.l;rw [hbq] at hbl;have HBQ:=hyd hbq;have HBO:=hyd hbo;have HBL:=hyd hbl;have HBST:=hyd hbst;have HS0:Hid ((fun X:World=>X.cell? ⟨ad.seat d,0,none⟩=some (.pointer (some ⟨ad.sess d,0,none⟩))/\X.cell? ⟨ad.sess d,8,none⟩=some (.pointer (some ⟨lb,0,none⟩))/\X.cell? ⟨w.heap.size,29,none⟩=some (.string x.msg.t)) wr.drew):=hyd ⟨((HTR.out.below (Below.refl _ _).drew).seatCells HS.out).1,l1,(HX.out wr.drew F1 (HUR.out.next (Below.refl _ _).drew)).2.1⟩;clear l1 l2 l3 hsk hbst hbq hbo hbl;refine wp_region_held_drew (S:=fun X=>X.cell? ⟨ad.seat d,0,none⟩=some (.pointer (some ⟨ad.sess d,0,none⟩))/\X.cell? ⟨ad.sess d,8,none⟩=some (.pointer (some ⟨lb,0,none⟩))/\X.cell? ⟨w.heap.size,29,none⟩=some (.string x.msg.t)) (by kernel_rfl) HS0.out (fun hHeld => ?_)
    refine tA 0 (h:=tA 1 (h:=tA 2 (h:=tA 3 (h:=tA 4 (h:=tA 5 (h:=tA 6 (h:=tA 7 (h:=tA 8 (h:=tA 9 (h:=?_))))))))));simp only [tks];refine wpAnyH_ready (rs:=[10]) (by kernel_rfl) (by simp) ?_;refine AllReadyH.cons rfl (fun K hK => ?_) AllReadyH.nil;rw [if_pos (by rfl)];go_simp
    go_at_call 68
    refine HBST.out.mono ?_;rintro e w2 ⟨rfl,hb2⟩;have hb2':Below wr.heap.size wr w2:=(Below.refl _ _).drew.trans hb2;have HT2:=hyd (HTR.out.below hb2');have HU2:=hyd (HUR.out.next hb2');have HS2:Hid ((fun X:World=>X.cell? ⟨ad.seat d,0,none⟩=some (.pointer (some ⟨ad.sess d,0,none⟩))/\X.cell? ⟨ad.sess d,8,none⟩=some (.pointer (some ⟨lb,0,none⟩))/\X.cell? ⟨w.heap.size,29,none⟩=some (.string x.msg.t)) w2):=hyd ⟨(hb2.cell (World.block_lt_of_cell? _ _ HS0.out.1)).trans HS0.out.1,(hb2.cell (World.block_lt_of_cell? _ _ HS0.out.2.1)).trans HS0.out.2.1,(hb2.cell (World.block_lt_of_cell? _ _ HS0.out.2.2)).trans HS0.out.2.2⟩;clear hb2 hb2' HTR HUR;refine hK.out _ _ HS2.out (fun hHeld => ?_);refine tA 11 (h:=tA 12 (h:=tA 13 (h:=tA 14 (h:=tA 15 (h:=?_)))));simp only [tks];refine wpAnyH_done (by kernel_rfl) ?_ _;clear hHeld HS2 HS0
    cases bo
    case' false =>
     have HT9:Hid (TurnAt c ad w2 tb T1 E F1):=hyd (by
      have e:T1=TK k:=by rw [<- HT1E.out];unfold deliverP;rw [HBO.out];rfl
      rw [e]
      exact HT2.out)
     have HU9:=HU2;clear HT2 HU2
     go_upto_region 13 with fail
     generalize w2=w9 at *;generalize F1=F9 at *
    case' true =>
     obtain ⟨mt,hmt⟩:∃ mt,x.msg.t=mt:=⟨_,rfl⟩;obtain ⟨mp,hmp⟩:∃ mp,x.msg.p=mp:=⟨_,rfl⟩;obtain ⟨mq,hmq⟩:∃ mq,x.msg.q=mq:=⟨_,rfl⟩;obtain ⟨mr,hmr⟩:∃ mr,x.msg.r=mr:=⟨_,rfl⟩
     have hra:w2.rangeAt w.heap.size 29 [.string mt,.string mp,.int .u8 mq,.bool mr]:=by
      have:=(HX.out w2 F1 HU2.out).1;rw [show x.msg.cells = [.string x.msg.t,.string x.msg.p,.int .u8 x.msg.q,.bool x.msg.r] from rfl,hmt,hmp,hmq,hmr] at this;exact this
     have HRA:=hyd hra;obtain ⟨T0,hT0⟩:∃ T0,putsT c d x.op 6 ⟨mt,mp,min mq bq,false⟩ (TK k)=T0:=⟨_,rfl⟩
     have HPT:=hyd (fun X G (hX:TurnAt c ad X tb (TK k) E G) (hBX:Base w0 X G)=>puts_any w0 HKK.out c ad tb (TK k) E G X d z x.op 6 ⟨mt,mp,min mq bq,false⟩ hX hBX (HALL.out k).1 HS.out (by
      have h1:=HXO.out.msg;have h3:=h1.2.2;refine ⟨hmt ▸ h1.1,hmp ▸ h1.2.1,?_⟩;show u8R (min mq bq)
      have h4:=HBL.out;rw [hmq] at h3;unfold u8R at *
      omega) (by have:=(HALL.out k).2.2.1;have:=HNN.out.2;omega))
     rw [hT0] at HPT
     have HTE:Hid (T1=if z.s.conn=0 then T0 else match T0.seat d with
      | none=>T0
      | some z1=>sendsT c z.s.conn (pumpO c.win z1.s.o.wait z1.s.o.row).1 (T0.setS d ⟨z1.s.setO (pumpO c.win z1.s.o.wait z1.s.o.row).2,z1.busy⟩)):=hyd (by
      rw [<- HT1E.out];unfold deliverP;rw [HBO.out,HBQ.out,if_pos rfl,hmt,hmp,hmq,hT0]
      rfl)
     have hok0:HOk T0:=hT0 ▸ puts_ok (HALL.out k).1;obtain ⟨o0,ho0⟩:=puts_seat (c:=c) (op:=x.op) (kind:=6) (m:=⟨mt,mp,min mq bq,false⟩) HS.out;rw [hT0] at ho0;have HO0:=hyd hok0;have HH0:=hyd ho0
     have HGP:Hid (T0.mails.length<=T.mails.length+101):=hyd (by
      have g:=(gr_puts (c:=c) (t:=TK k) d x.op 6 ⟨mt,mp,min mq bq,false⟩).m;rw [hT0] at g;have:=(HALL.out k).2.2.2
      omega)
     clear hra hT0 hok0 ho0 hmt hmp hmq hmr
     go_upto_region 9 with (first
      | (refine wpList_loadMid rfl 36 _ rfl w.heap.size 29 rfl [.string mt,.string mp,.int .u8 mq,.bool mr] _ HRA.out Tryz.underlying36 rfl rfl _ rfl ?_)
      | fail)
     have hbx:=low_alloc w2 (.cells #[Value.string mt,Value.string mp,.int .u8 mq,.bool mr] 36);have hxb:(w2.alloc (.cells #[Value.string mt,Value.string mp,.int .u8 mq,.bool mr] 36)).heap[w2.heap.size]? = some (.cells [Value.string mt,Value.string mp,.int .u8 mq,.bool mr].toArray 36 (0,0)):=heap_alloc_new w2 _;have HT3:=hyd (HT2.out.moreL [w2.heap.size] hbx (fun q hq=>by rw [List.mem_singleton.1 hq];simp));have HU3:=hyd (HU2.out.next hbx);have HXB:Hid ((w2.alloc (.cells #[Value.string mt,Value.string mp,.int .u8 mq,.bool mr] 36)).heap[w2.heap.size]? = some (.cells [Value.string mt,Value.string mp,.int .u8 mq,.bool mr].toArray 36 (0,0))):=hyd hxb;have HBZ:Hid (W.heap.size<=w2.heap.size):=hyd HU2.out.1.size;clear hbx hxb HT2 HU2;generalize w2.alloc (.cells #[Value.string mt,Value.string mp,.int .u8 mq,.bool mr] 36)=w3 at *;generalize w2.heap.size=bm at *;have c2:w3.cell? ⟨bm,2,none⟩=some (.int .u8 mq):=cell_of_row _ _ 2 _ _ _ HXB.out;have c3:w3.cell? ⟨bm,3,none⟩=some (.bool mr):=cell_of_row _ _ 3 _ _ _ HXB.out;have f2:=frozen_of_row w3 _ 2 _ _ HXB.out;have f3:=frozen_of_row w3 _ 3 _ _ HXB.out
     go_upto_region 10 with fail
     clear c2 c3 f2 f3;obtain ⟨q9,hq9⟩:∃ q9,min mq bq=q9:=⟨_,rfl⟩;rw [hq9] at HPT ⊢;have hx5:=heap_setCell_same (w3.setCell ⟨bm,2,none⟩ (.int .u8 q9)) bm 3 _ _ (.bool false) (heap_setCell_same w3 bm 2 _ _ (.int .u8 q9) HXB.out);have hm5:Mod [bm] w3 ((w3.setCell ⟨bm,2,none⟩ (.int .u8 q9)).setCell ⟨bm,3,none⟩ (.bool false)):=((Mod.refl [bm] w3).setCell (.inl (by simp)) _).setCell (.inl (by simp)) _;have HX5:Hid (((w3.setCell ⟨bm,2,none⟩ (.int .u8 q9)).setCell ⟨bm,3,none⟩ (.bool false)).heap[bm]? = some (.cells [Value.string mt,.string mp,.int .u8 q9,.bool false].toArray 36 (0,0))):=hyd hx5;have HM5:=hyd hm5;clear hx5 hm5 hq9;generalize (w3.setCell ⟨bm,2,none⟩ (.int .u8 q9)).setCell ⟨bm,3,none⟩ (.bool false)=w5 at *;have HT5:Hid (TurnAt c ad w5 tb (TK k) E F1):=hyd ((HT3.out.wrote HM5.out (fun q hq=>List.mem_append_left _ hq)).less (fun q hq=>List.mem_append_right _ hq));have HU5:=hyd (HU3.out.extra HM5.out (fun q hq=>by rw [List.mem_singleton.1 hq];exact HBZ.out));have HPQ:=hyd (HPT.out w5 F1 HT5.out (HBA.out.upd HU5.out));have hcl:(⟨mt,mp,q9,false⟩:Msg).cells = [Value.string mt,.string mp,.int .u8 q9,.bool false]:=rfl;rw [hcl] at HPQ;have hra:=range_blk HX5.out;have HRA5:=hyd hra;obtain ⟨-,-,-,-,-,g1,-⟩:=HX.out w5 F1 HU5.out;clear hra hcl HT3 HU3 HXB HRA
     go_wp2_with (first
      | (refine wpList_loadMid rfl 36 _ rfl bm 0 rfl [Value.string mt,.string mp,.int .u8 q9,.bool false] _ HRA5.out Tryz.underlying36 rfl rfl _ rfl ?_)
      | fail)
     refine HPQ.out.mono ?_;rintro e w9 ⟨rfl,F9,ht9,hu9⟩;have HT8:=hyd ht9;have HU9:=hyd (HU5.out.trans' hu9);have hsc:=ht9.seatCells HH0.out;have g2:=hsc.1;have g3:w9.cell? ⟨ad.sess d,1,none⟩=some (.int .i64 z.s.conn):=hsc.2.2.1;clear ht9 hu9 g1 hsc HX5 HM5 HT5 HU5 HPQ HRA5
     by_cases hcn:z.s.conn=0
     case' pos =>
      have HT9:Hid (TurnAt c ad w9 tb T1 E F9):=hyd (by rw [HTE.out,if_pos hcn];exact HT8.out);have hcb:(z.s.conn != 0)=false:=by rw [hcn];rfl
      clear hcn
      go_upto_region 13 with fail
      clear g2 g3 hcb
     case' neg =>
      have hcb:(z.s.conn != 0)=true:=by simpa using hcn
      obtain ⟨p,hp⟩:∃ p,pumpO c.win (z.s.setO o0).o.wait (z.s.setO o0).o.row=p:=⟨_,rfl⟩;obtain ⟨T4,hT4⟩:∃ T4,T0.setS d ⟨(z.s.setO o0).setO p.2,z.busy⟩=T4:=⟨_,rfl⟩
      have HTE2:Hid (T1=sendsT c z.s.conn p.1 T4):=hyd (by
       rw [HTE.out,if_neg hcn,HH0.out];dsimp only
       rw [hp,hT4])
      obtain ⟨ot,hot,hpu⟩:=tpump_any w0 HKK.out c ad tb T0 E F9 w9.drew d _ (HT8.out.below (Below.refl _ _).drew) ((HBA.out.upd HU9.out).below (Below.refl _ _).drew) HO0.out HH0.out;have HP:=hpu w9.drew (Below.refl _ _);dsimp only at HP;rw [hp,hT4] at HP;replace HP:=hyd HP
      have hpl:p.1.length<=1024:=by
       obtain ⟨ob1,FO1,-,r2,-,-⟩:=HT8.out.outs HO0.out HH0.out;have h8:(z.s.setO o0).o.wait.length<=1024/\(z.s.setO o0).o.row.length<=1024:=r2.lens;have h9:=pump_len' c.win (z.s.setO o0).o;rw [hp] at h9;omega
      have hcz:z.s.conn<=9223372036854775807:=((HALL.out k).1.seat z (seat_at HS.out).1).s.conn.2
      have HSN:=hyd (fun X G a4 c4 (hX:TurnAt c ad X tb T4 E G) (hb:Beside X (E++G) a4 (pksV p.1))=>sends_any c ad tb T4 E G X z.s.conn p.1 a4 c4 hX HN.out.1 HN.out.2 hcz hb (by
       have:T4.mails.length=T0.mails.length:=by rw [<- hT4];rfl
       have:=HGP.out;have:=HNN.out.1
       omega) (by omega))
      have HS0:Hid ((fun X:World=>X.cell? ⟨ad.seat d,0,none⟩=some (.pointer (some ⟨ad.sess d,0,none⟩))/\X.cell? ⟨ad.sess d,1,none⟩=some (.int .i64 z.s.conn)/\X.cell? ⟨ad.sess d,9,none⟩=some (.pointer (some ⟨ot,0,none⟩))) w9.drew):=hyd ⟨g2,g3,hot⟩;have HH4:Hid (T4.seat d=some ⟨(z.s.setO o0).setO p.2,z.busy⟩):=hyd (by rw [<- hT4];exact seat_setS' HH0.out (seat_at HH0.out).2);clear hcn hp hT4 hot hpu hpl hcz
      go_upto_region 12 with fail
      clear g2 g3 hcb;refine wp_region_tail (S:=fun X=>X.cell? ⟨ad.seat d,0,none⟩=some (.pointer (some ⟨ad.sess d,0,none⟩))/\X.cell? ⟨ad.sess d,1,none⟩=some (.int .i64 z.s.conn)/\X.cell? ⟨ad.sess d,9,none⟩=some (.pointer (some ⟨ot,0,none⟩))) 16 (by kernel_rfl) HS0.out (fun hHeld => ?_);refine uA 0 (h:=uA 1 (h:=uA 2 (h:=uA 3 (h:=uA 4 (h:=uA 5 (h:=uA 6 (h:=uA 7 (h:=uA 8 (h:=uA 9 (h:=uA 10 (h:=uA 11 (h:=uA 12 (h:=uA 13 (h:=uA 14 (h:=?_)))))))))))))));simp only [tks];refine wpTail.ready (rs:=[15]) (by kernel_rfl) (by simp) ?_;refine AllTail.cons rfl (fun K hK => ?_) AllTail.nil;rw [if_pos (by rfl)];go_simp
      go_at_call 71
      refine HP.out.mono ?_;rintro e w4 ⟨v4,F4,rfl,ho4,ht4,hu4,hof4,hs4⟩;have hbe4:=beside_off (G:=E++F4) ho4 (fun q hq hq'=>hof4 q hq hq');obtain ⟨a4,c4,rfl,hbe⟩:=hbe4;have HBE4:=hyd hbe;have HT4':=hyd ht4;have HU4:=hyd ((HU9.out.next (Below.refl _ _).drew).trans' hu4);have hsc:=ht4.seatCells HH4.out;have HS4:Hid ((fun X:World=>X.cell? ⟨ad.seat d,0,none⟩=some (.pointer (some ⟨ad.sess d,0,none⟩))/\X.cell? ⟨ad.sess d,1,none⟩=some (.int .i64 z.s.conn)/\X.cell? ⟨ad.sess d,9,none⟩=some (.pointer (some ⟨ot,0,none⟩))) w4):=hyd ⟨hsc.1,hsc.2.2.1,hs4⟩;clear ho4 ht4 hu4 hof4 hs4 hbe hsc;refine hK.out _ _ (fun _=>HS4.out) (fun hHeld => ?_);replace hHeld:=hHeld (by decide);refine wpTail.ready (rs:=[16]) (by kernel_rfl) (by simp) ?_;refine AllTail.cons rfl (fun K hK => ?_) AllTail.nil;rw [if_pos (by rfl)];go_simp
      go_at_call 70
      refine (HSN.out w4 F4 a4 c4 HT4'.out HBE4.out).mono ?_;rintro e w6 ⟨rfl,F6,ht6,hu6⟩;have HU6:=hyd (HU4.out.trans' hu6);have HT6:Hid (TurnAt c ad w6 tb T1 E F6):=hyd (by rw [HTE2.out];exact ht6);clear ht6 hu6;refine hK.out _ _ (fun h=>absurd rfl h) (fun _ => ?_);refine wpTail.done (by kernel_rfl) ?_ _;clear hHeld HS0 HS4 HT8 HU9 HT4' HU4 HBE4
      go_upto_region 13 with fail
      generalize w6=w9 at *;generalize F6=F9 at *;have HT9:=HT6;have HU9:=HU6
    all_goals
     obtain ⟨g32,-⟩:w9.cell? ⟨w.heap.size,32,none⟩=some (.bool x.msg.r)/\True:=⟨(HX.out w9 F9 HU9.out).2.2.1,trivial⟩
     cases hzb:z.busy with
     | none =>
      have HH1':=HH1.out;rw [hzb] at HH1';have hsh:=HT9.out.seatHeap HH1' rfl;have c1:w9.cell? ⟨ad.seat d,1,none⟩=some (.pointer none):=by rw [cell_of_row _ _ 1 _ _ _ hsh];rfl
      have HEQ:Hid (TK (k+1)=T1):=hyd (by rw [HEQ1.out];exact keepT_none HH1');clear hsh HH1' hzb
      go_wp2_with fail
      go_roundw
      case rel=>exact ⟨k+1,F9,by go_num,by omega,by rw [HEQ.out];exact HT9.out,HU9.out⟩
      case measure=>simp [intOf];omega
     | some kl =>
      obtain ⟨kk,left⟩:=kl;have HH1':=HH1.out;rw [hzb] at HH1';obtain ⟨v1,hse,hli,hca,hin,hturn⟩:=HT9.out.busyAt HO1.out.nd HH1' rfl;have c1:w9.cell? ⟨ad.seat d,1,none⟩=some (.pointer (some ⟨v1.wb,0,none⟩)):=by rw [cell_of_row _ _ 1 _ _ _ hse];rfl
      have hws:=hin v1.wb (by cases kk <;> simp [wkPcs,feet,cellPc])
      by_cases hsub:∃ y codes kept,kk = .sub y codes kept
      ·obtain ⟨y,codes,kept,rfl⟩:=hsub
       obtain ⟨mr,hmr⟩:∃ mr,x.msg.r=mr:=⟨_,rfl⟩;rw [hmr] at g32;have hw:w9.heap[v1.wb]? = some (.cells (waitC y.op y.pk 8 left ⟨codes.toArray⟩ (some v1.kb) (.func (.func 115) #[] #[bxV v1.b1,bxV v1.b2,bxV v1.b3])).toArray 110 (0,0)):=hli.at' (cellPc v1.wb (wkC v1 (.sub y codes kept) left) 110) (by simp [wkPcs]);obtain ⟨-,c29,-,-⟩:=wait_cells hw
       cases mr
       case false =>
        have HEQ:Hid (TK (k+1)=T1):=hyd (by rw [HEQ1.out];unfold keepT;rw [HH1'];dsimp only;rw [hmr];rfl);clear hse hli hca hin hturn hws hw HH1' hzb hmr
        go_wp2_with (first | (refine wpList_ne 107 _ _ rfl (.bool true) (by kernel_rfl) (by kernel_rfl) ?_;go_frame) | fail)
        go_roundw
        case rel=>exact ⟨k+1,F9,by go_num,by omega,by rw [HEQ.out];exact HT9.out,HU9.out⟩
        case measure=>simp [intOf];omega
       case true =>
        have HEQ:Hid (TK (k+1)=T1.setS d ⟨z.s.setO o1,some (.sub y codes (keepsW x.msg y codes kept),left)⟩):=hyd (by rw [HEQ1.out];unfold keepT;rw [HH1'];dsimp only;rw [hmr];rfl);have hwk:=(HO1.out.seat _ (seat_at HH1').1).w _ left rfl;obtain ⟨y1,y2,y3,y4,y5,y6,y7,y8⟩:=hwk;have hkp:(keptPc v1.kb kept).R w9:=hli.at' (keptPc v1.kb kept) (by simp [wkPcs])
        have hkw:v1.kb ≠ v1.wb:=fun e=>by
         have h9:=off_feet.1 (List.pairwise_append.1 (show (([cellPc v1.wb (wkC v1 (.sub y codes kept) left) 110]:List Pc) ++ [keptPc v1.kb kept]).Pairwise (fun a b=>Off a.F b.F) from hli.off)).2.2;exact h9 v1.wb (by simp [feet,cellPc]) (by simp [feet,keptPc,e])
        have hkn:kept.length<=900100:=HK1.out _ (seat_at HH1').1 y codes kept left rfl;have hsub:Row w9 y.pk.subsA (subsV y.pk.subs):=hca.2.2.2.1.row;have hkp0:(keptPc v1.kb kept).R w9.drew:=hkp;have HKE:=hyd (keeps_any v1.wb v1.kb y codes kept left _ x.msg w9.drew (HKK.out.t.below ((HBA.out.upd HU9.out).below (Below.refl _ _).drew).1) hw hkp0 hkw (by omega) (hsub.below (Below.refl _ _).drew (Nat.le_refl _)) y1 y4 HXO.out.msg);have HTURN:=hyd hturn;have HWW:=hyd hw;have HKW:=hyd hkw;have HS0:Hid ((fun X:World=>X.cell? ⟨ad.seat d,1,none⟩=some (.pointer (some ⟨v1.wb,0,none⟩))/\X.rangeAt w.heap.size 29 x.msg.cells) w9.drew):=hyd ⟨c1,(HX.out w9 F9 HU9.out).1⟩;have HMZ:=hyd (msg_sizeL x.msg);obtain ⟨ML,hML⟩:∃ ML,x.msg.cells=ML:=⟨_,rfl⟩;rw [hML] at HKE HS0 HMZ;clear hse hli hca hin hturn hws hw HH1' hzb hmr hkp hkp0 hkw hkn hsub y1 y2 y3 y4 y5 y6 y7 y8 hML
        go_upto_region 14 with (first | (refine wpList_ne 107 _ _ rfl (.bool true) (by kernel_rfl) (by kernel_rfl) ?_;go_frame) | fail)
        clear c1 c29 g32;refine wp_region_tail (S:=fun X=>X.cell? ⟨ad.seat d,1,none⟩=some (.pointer (some ⟨v1.wb,0,none⟩))/\X.rangeAt w.heap.size 29 ML) 6 (by kernel_rfl) HS0.out (fun hHeld => ?_);refine uA 0 (h:=uA 1 (h:=uA 2 (h:=uA 3 (h:=uA 4 (h:=?_)))));simp only [tks];refine ttk 5 (v:=.agg ML.toArray) (fun w0 hS0=>exec_load_row rfl rfl hS0.2 Tryz.underlying36 rfl HMZ.out) hHeld ?_;simp only [tks];refine wpTail.ready (rs:=[6]) (by kernel_rfl) (by simp) ?_;refine AllTail.cons rfl (fun K hK => ?_) AllTail.nil;rw [if_pos (by rfl)];go_simp
        go_at_call 72
        refine HKE.out.mono ?_;rintro e w7 ⟨rfl,hk7,hm7⟩;have hm7':Mod [v1.kb] w9 w7:=(Mod.of_below (Below.refl _ _).drew [v1.kb]).trans hm7 (fun q hq => .inl hq);have hw7:w7.heap[v1.wb]? = _:=(hm7'.block v1.wb (Array.getElem?_eq_some_iff.1 HWW.out).1 (fun e=>HKW.out (List.mem_singleton.1 e).symm)).trans HWW.out
        obtain ⟨F7,ht7,hu7,-,-⟩:=HTURN.out w7 (.sub y codes (keepsW x.msg y codes kept)) left (lies_app (A:=[_]) (lies_one (cellPc_ok _ _ _) hw7) (lies_one (keptPc_ok _ _) hk7) (fun q hq hq'=>HKW.out (by
         have e1:q=v1.wb:=by simpa [feet,cellPc] using hq
         have e2:q=v1.kb:=by simpa [feet,keptPc] using hq'
         rw [<- e1,<- e2]))) ⟨hm7'.mono (fun q hq=>by rw [List.mem_singleton.1 hq];simp [feet,wkPcs,keptPc,cellPc]),fun q hq => .inl hq⟩ (fun F' h=>h)
        have HT7:Hid (TurnAt c ad w7 tb (TK (k+1)) E F7):=hyd (by rw [HEQ.out];exact ht7);have HU7:=hyd (HU9.out.trans' hu7);clear hk7 hm7 hm7' hw7 ht7 hu7;refine hK.out _ _ (fun h=>absurd rfl h) (fun _ => ?_);refine wpTail.done (by kernel_rfl) ?_ _;clear hHeld HS0
        go_wp2_with fail
        go_roundw
        case rel=>exact ⟨k+1,F7,by go_num,by omega,HT7.out,HU7.out⟩
        case measure=>simp [intOf];omega
      ·have c29:=wk_kept hsub hli
       have HEQ:Hid (TK (k+1)=T1):=hyd (by rw [HEQ1.out];exact keepT_not HH1' hsub);clear hse hli hca hin hturn hws HH1' hzb hsub
       go_wp2_with (first | (refine wpList_ne 107 _ _ rfl (.bool false) (by kernel_rfl) (by kernel_rfl) ?_;go_frame) | fail)
       go_roundw
       case rel=>exact ⟨k+1,F9,by go_num,by omega,by rw [HEQ.out];exact HT9.out,HU9.out⟩
       case measure=>simp [intOf];omega
  ·obtain rfl:k=cs.length:=by omega
   have hlt':¬ (cs.length:Int) < cs.length:=by omega
   obtain ⟨-,-,-,c34',c36,c1,c3⟩:=HX.out wr F1 HUR.out;have htc:=HTR.out.cells;have d0:=htc.h;have dn:=htc.n;have HNM:Hid ((TK cs.length).mails.length<=100000):=hyd (by have:=(HALL.out cs.length).2.2.2;have:=HNN.out.1;omega);have HMA:=hyd (fun X G (hX:TurnAt c ad X tb (TK cs.length) E G)=>mail_any c ad tb (TK cs.length) E G X x.frm 6 (itK 12 x.op x.client) (itK 12 x.op x.client) none 0 hX rfl (.inl rfl) HNM.out);have HIB2:=hyd (fun (_:Unit)=>built_item6 12 x.op x.client);have HS16:Hid (wr.drew.cell? ⟨w.heap.size,36,none⟩=some (.int .i64 x.frm)/\wr.drew.cell? ⟨tb,0,none⟩=some (.pointer (some ⟨ad.hb,0,none⟩))/\wr.drew.cell? ⟨ad.hb,0,none⟩=some (.int .i64 c.n)):=hyd ⟨c36,d0,dn⟩;have HC17:=hyd (HX.out wr.drew F1 (HUR.out.next (Below.refl _ _).drew));clear htc HNM;generalize (itK 12 x.op x.client).cells=IKL at *
   by_cases hf1:0<=x.frm
   ·by_cases hf2:x.frm < c.n
    ·have HE2:Hid (deliverT c x T=(TK cs.length).mail x.frm 6 (itK 12 x.op x.client)):=hyd (by rw [HE.out,if_pos ⟨hf1,hf2⟩])
     clear HE
     go_upto_region 16 with fail
     refine wp_region_held_drew (S:=fun X=>X.cell? ⟨w.heap.size,36,none⟩=some (.int .i64 x.frm)/\X.cell? ⟨tb,0,none⟩=some (.pointer (some ⟨ad.hb,0,none⟩))/\X.cell? ⟨ad.hb,0,none⟩=some (.int .i64 c.n)) (by kernel_rfl) HS16.out (fun hHeld => ?_);refine tA 0 (h:=tA 1 (h:=tA 2 (h:=tA 3 (h:=tA 4 (h:=tA 5 (h:=tA 6 (h:=tA 7 (h:=tA 8 (h:=tA 9 (h:=tA 10 (h:=tA 11 (h:=tA 12 (h:=tA 13 (h:=tA 14 (h:=tA 15 (h:=?_))))))))))))))));simp only [tks];refine wpAnyH_done (by kernel_rfl) ?_ _;clear hHeld d0 dn;obtain ⟨-,-,-,-,r36,r1,r3⟩:=HC17.out
     go_wp2_with (first
      | (refine wpList_buildBy rfl 44 _ rfl _ rfl IKL.toArray [(0,.int .u8 12),(1,.int .i64 x.op),(3,.string x.client)] (by kernel_rfl) (HIB2.out ()) ?_)
      | fail)
     refine (HMA.out wr.drew F1 (HTR.out.below (Below.refl _ _).drew)).mono ?_;rintro e w8 ⟨rfl,F8,ht8,hu8⟩;have HD:Hid (TDone c ad tb E F w (deliverT c x T) w8):=hyd ⟨F8,by rw [HE2.out];exact ht8,HU0.out.trans' ((HUR.out.next (Below.refl _ _).drew).trans' hu8)⟩;clear ht8 hu8
     go_wp2_with fail
     go_end0
     exact ⟨rfl,HD.out⟩
    ·have HD:Hid (TDone c ad tb E F w (deliverT c x T) wr/\TDone c ad tb E F w (deliverT c x T) wr.drew):=hyd (by
      rw [HE.out,if_neg (fun h=>hf2 h.2)]
      exact ⟨⟨F1,HTR.out,HU0.out.trans' HUR.out⟩,⟨F1,HTR.out.below (Below.refl _ _).drew,(HU0.out.trans' HUR.out).next (Below.refl _ _).drew⟩⟩)
     clear HE
     go_upto_region 16 with fail
     refine wp_region_held_drew (S:=fun X=>X.cell? ⟨w.heap.size,36,none⟩=some (.int .i64 x.frm)/\X.cell? ⟨tb,0,none⟩=some (.pointer (some ⟨ad.hb,0,none⟩))/\X.cell? ⟨ad.hb,0,none⟩=some (.int .i64 c.n)) (by kernel_rfl) HS16.out (fun hHeld => ?_);refine tA 0 (h:=tA 1 (h:=tA 2 (h:=tA 3 (h:=tA 4 (h:=tA 5 (h:=tA 6 (h:=tA 7 (h:=tA 8 (h:=tA 9 (h:=tA 10 (h:=tA 11 (h:=tA 12 (h:=tA 13 (h:=tA 14 (h:=tA 15 (h:=?_))))))))))))))));simp only [tks];refine wpAnyH_done (by kernel_rfl) ?_ _;clear hHeld d0 dn
     go_wp2_with fail
     go_end0
     exact ⟨rfl,HD.out.2⟩
   ·have HD:Hid (TDone c ad tb E F w (deliverT c x T) wr/\TDone c ad tb E F w (deliverT c x T) wr.drew):=hyd (by
     rw [HE.out,if_neg (fun h=>hf1 h.1)]
     exact ⟨⟨F1,HTR.out,HU0.out.trans' HUR.out⟩,⟨F1,HTR.out.below (Below.refl _ _).drew,(HU0.out.trans' HUR.out).next (Below.refl _ _).drew⟩⟩)
    clear HE
    go_upto_region 16 with fail
    refine wp_region_held_drew (S:=fun X=>X.cell? ⟨w.heap.size,36,none⟩=some (.int .i64 x.frm)) (by kernel_rfl) HS16.out.1 (fun hHeld => ?_);refine tA 0 (h:=tA 1 (h:=tA 2 (h:=tA 3 (h:=sA 4 (h:=sA 5 (h:=sA 6 (h:=sA 7 (h:=sA 8 (h:=sA 9 (h:=sA 10 (h:=sA 11 (h:=sA 12 (h:=sA 13 (h:=sA 14 (h:=tA 15 (h:=?_))))))))))))))));simp only [tks];refine wpAnyH_done (by kernel_rfl) ?_ _;clear hHeld d0 dn
    go_wp2_with fail
    go_end0
    exact ⟨rfl,HD.out.2⟩
end Go.Proofs.YtcekcoepdhnfgaaGreatDoor
