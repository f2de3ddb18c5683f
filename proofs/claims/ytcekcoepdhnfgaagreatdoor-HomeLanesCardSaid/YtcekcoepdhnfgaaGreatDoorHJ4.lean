/- asked, connect. -/
import Derived.Test.YtcekcoepdhnfgaaGreatDoorHHJ
import Derived.Test.YtcekcoepdhnfgaaGreatDoorHDX
import Derived.Test.YtcekcoepdhnfgaaGreatDoorHEX
import Derived.Test.YtcekcoepdhnfgaaGreatDoorHGY
namespace Go.Proofs.YtcekcoepdhnfgaaGreatDoor
section
open Go Go.RowKit Go.Maps
theorem connect_any (w0:World) (hK:Keeps w0) (c:HCfg) (ad:HAd) (tb:Nat) (T:Tn) (E F:List Nat) (w:World) (x:Item) (h:TurnAt c ad w tb T E F) (hB:Base w0 w F) (hok:HOk T) (hn1:1<=c.n) (hn2:c.n<=64) (hm:1<=c.most/\c.most<=1024) (hwi:1<=c.win/\c.win<=1024)
  (hbz:∀ z,T.seat x.client=some z->z.busy=none) (hx:ItOk x) (hc:1<=x.conn) (hib:ItB w (E++F) x) (hn:T.mails.length+2000<=100000) (hnn:T.notes.length+2<=100000) (hsl:T.seats.length<=100000) :
  Calls Tryz.prog 62 #[.pointer (some ⟨tb,0,none⟩),ptrV ((T.seat x.client).map fun _=>ad.seat x.client),.agg x.cells.toArray] w fun e w'=>e = .returned (.tuple #[]) /\ ∃ ad',ad.like ad'/\TDone c ad' tb E F w (connectT c x T) w':=by
 cases h0:T.seat x.client with
 | none =>
  have e:connectT c x T=attachT c ⟨SS.new x.client,none⟩ x (withNew x.client T):=by
   unfold connectT;rw [h0];dsimp only [Option.getD];rw [if_pos (.inl rfl)]
   rfl
  refine (connect_new w0 hK c ad tb T E F w x.client x h hB hok hn1 hn2 hm hwi h0 hx rfl hc hib hn hnn hsl).mono ?_;rintro _ w' ⟨rfl,ad',hl,hd⟩;exact ⟨rfl,ad',hl,by rw [e];exact hd⟩
 | some z =>
  have hzb:=hbz z h0
  by_cases hcn:z.s.conn=0 \/ z.s.conn=x.conn
  ·have e:connectT c x T=attachT c z x T:=by
    unfold connectT;rw [h0];dsimp only [Option.getD];rw [if_pos hcn]
   refine (connect_att w0 hK c ad tb T E F w x.client z x h hB hok hn1 hn2 h0 hzb hx hc hcn hib hn hnn).mono ?_;rintro _ w' ⟨rfl,hd⟩;exact ⟨rfl,ad,HAd.like_refl ad,by rw [e];exact hd⟩
  ·have e:connectT c x T=gateT c 2 z.s.conn (itK 3 x.op x.client) (T.setS x.client ⟨z.s,some (.close x z.s.conn,0)⟩):=by
    unfold connectT;rw [h0];dsimp only [Option.getD];rw [if_neg hcn,(seat_at h0).2]
   refine (connect_close c ad tb T E F w x.client z x h hok hn1 hn2 h0 hzb (fun h9=>hcn (.inl h9)) (fun h9=>hcn (.inr h9)) hib (by omega)).mono ?_;rintro _ w' ⟨rfl,hd⟩;exact ⟨rfl,ad,HAd.like_refl ad,by rw [e];exact hd⟩
end
section
open Go Go.RowKit Go.Maps
theorem wpList_store_midTo {P:Program} {ops:Array Oper} {rest:List Oper} {op:Oper} {a:Act} {w:World} {Q:Exit->Act->World->Prop} (hgd:op.guard=none) (ty:TypeId) (x y:Operand) (ho:op.op = .store ty x y) (hd:op.dst=none)
  (b o:Nat) (cells:Array Value) (hx:a.eval x = .pointer (some ⟨b,o,none⟩)) (hy:a.eval y = .agg cells)
  (ht:w.there b o cells.size) (hi:(P.info? ty).map (·.size)=some cells.size) (h1:cells.all (·.oneCell')=true)
  (h:wpList P ops Q rest a (w.setCells b o cells.toList)):wpList P ops Q (op :: rest) a w:=
 wpList_store_mid hgd ty x y ho b o cells hx hy ht hi h1 (by rw [hd];exact h)
theorem item_box {w:World} {b:Nat} {x:Item} (h:w.heap[b]? = some (.cells x.cells.toArray 44 (0,0))):w.cell? ⟨b,0,none⟩=some (.int .u8 x.kind)/\w.cell? ⟨b,2,none⟩=some (.int .i64 x.conn)/\w.cell? ⟨b,5,none⟩=some (.int .u8 x.pk.ty):=
 ⟨by rw [cell_of_row _ _ 0 _ _ _ h];rfl,by rw [cell_of_row _ _ 2 _ _ _ h];rfl,by rw [cell_of_row _ _ 5 _ _ _ h];rfl⟩
theorem TDone.preB {c:HCfg} {ad:HAd} {tb:Nat} {E F:List Nat} {w w1 w':World} {T':Tn} (hb:Below w.heap.size w w1) (h:∃ ad',ad.like ad'/\TDone c ad' tb E F w1 T' w'):∃ ad',ad.like ad'/\TDone c ad' tb E F w T' w':=by
 obtain ⟨a,h1,h2⟩:=h;exact ⟨a,h1,h2.pre hb⟩
set_option maxRecDepth 100000
set_option maxHeartbeats 4000000
theorem asked_conn (w0:World) (hK:Keeps w0) (c:HCfg) (ad:HAd) (tb:Nat) (T:Tn) (E F:List Nat) (w:World) (x:Item) (h:TurnAt c ad w tb T E F) (hB:Base w0 w F) (hok:HOk T) (hn1:1<=c.n) (hn2:c.n<=64) (hm:1<=c.most/\c.most<=1024) (hwi:1<=c.win/\c.win<=1024)
  (hbz:∀ z,T.seat x.client=some z->z.busy=none) (hx:ItOk x) (hib:ItB w (E++F) x) (hn:T.mails.length+7000<=100000) (hnn:T.notes.length+10<=100000) (hsl:T.seats.length<=100000)
  (hc:x.kind=1/\x.pk.ty=1/\0 < x.conn) :
  Calls Tryz.prog 42 #[.pointer (some ⟨tb,0,none⟩),ptrV ((T.seat x.client).map fun _=>ad.seat x.client),.agg x.cells.toArray] w fun e w'=>e = .returned (.tuple #[]) /\ ∃ ad',ad.like ad'/\TDone c ad' tb E F w (askedT c x T) w':=by
 have HE:Hid (askedT c x T=connectT c x T):=hyd (by unfold askedT;rw [if_pos hc]);have HLI:=hyd (item_size x);have hbw:=boxW_low w x;have hx0:(boxW w x).heap[w.heap.size]? = some (.cells x.cells.toArray 44 (0,0)):=heap_alloc_new w _;obtain ⟨c0,c2,c5⟩:=item_box hx0;obtain ⟨W,hW⟩:∃ W,w.alloc (.cells x.cells.toArray 44)=W:=⟨_,rfl⟩;rw [show boxW w x=W from hW] at hbw hx0 c0 c2 c5;rw [hc.1] at c0;rw [hc.2.1] at c5;have hpos:(0:Int) < x.conn:=hc.2.2;have HC:=hyd (connect_any w0 hK c ad tb T E F W x (h.below hbw) (hB.below hbw) hok hn1 hn2 hm hwi hbz hx (by omega) (hib.upd (Upd.of_below hbw)) (by omega) (by omega) hsl);have HB:=hyd hbw;have HX0:=hyd hx0;have HW:=hyd hW;clear h hB hok hn1 hn2 hm hwi hbz hx hib hn hnn hsl hc hbw hx0 hW;generalize ptrV ((T.seat x.client).map fun _=>ad.seat x.client)=sv at *;generalize x.cells=IL at *;generalize x.conn=xc at *
 go_enter Tryz.func42, Tryz.ntmps42
 go_upto_region 1 with fail
 rw [HW.out]
 go_wp2_with (first
  | (refine wpList_load_row rfl 44 _ rfl w.heap.size rfl 44 IL.toArray _ _ HX0.out Tryz.underlying44 rfl HLI.out ?_)
  | fail)
 refine HC.out.mono ?_;rintro e w2 ⟨rfl,hd⟩;have HD:=hyd (TDone.preB HB.out hd);clear hd
 go_wp2_with fail
 (try simp only [Exit.inBlock,Exit.then])
 refine bodyPost_ret (results_none rfl _ _ _) rfl ?_;exact ⟨rfl,by rw [HE.out];exact HD.out⟩
theorem asked_gone (w0:World) (hK:Keeps w0) (c:HCfg) (ad:HAd) (tb:Nat) (T:Tn) (E F:List Nat) (w:World) (x:Item) (z:HSeat) (h:TurnAt c ad w tb T E F) (hB:Base w0 w F) (hok:HOk T) (hn1:1<=c.n) (hn2:c.n<=64)
  (h0:T.seat x.client=some z) (hbz:z.busy=none) (hx:ItOk x) (hib:ItB w (E++F) x) (hn:T.mails.length+7000<=100000) (hnn:T.notes.length+10<=100000) (hfl:T.flows.length<=100000) (ho0:0<=T.ops) (ho1:T.ops<=1000000)
  (hk:x.kind=2) (hc:1<=x.conn) (hcn:z.s.conn=x.conn) :
  Calls Tryz.prog 42 #[.pointer (some ⟨tb,0,none⟩),.pointer (some ⟨ad.seat x.client,0,none⟩),.agg x.cells.toArray] w fun e w'=>e = .returned (.tuple #[])/\TDone c ad tb E F w (askedT c x T) w':=by
 have HE:Hid (askedT c x T=endsT c z { x with pk:=pkZ } T):=hyd (by
  unfold askedT;rw [if_neg (by omega),h0];dsimp only
  rw [if_neg (by omega),if_pos hk])
 have HLI:=hyd (item_size { x with pk:=pkZ })
 have hlay:layA pkZ.cells 5 x.cells.toArray=({ x with pk:=pkZ }:Item).cells.toArray:=by
  obtain ⟨ki,op,co,cl,fi,⟨p0,p1,p2,p3,p4,p5,p6,p7,p8,p9,p10,p11,⟨m0,m1,m2,m3⟩,p13,p14,p15,p16,p17,p18,p19,p20,p21,p22⟩,⟨n0,n1,n2,n3⟩,a1,a2,a3,b1,b2,b3,c1,c2,c3,fr,ma⟩:=x
  kernel_rfl
 have hbw:=boxW_low w x;have hx0:(boxW w x).heap[w.heap.size]? = some (.cells x.cells.toArray 44 (0,0)):=heap_alloc_new w _;obtain ⟨c0,c2,c5⟩:=item_box hx0;obtain ⟨W,hW⟩:∃ W,w.alloc (.cells x.cells.toArray 44)=W:=⟨_,rfl⟩;rw [show boxW w x=W from hW] at hbw hx0 c0 c2 c5;have hbd:Below w.heap.size w W.drew:=hbw.drew;have hxd:W.drew.heap[w.heap.size]? = some (.cells x.cells.toArray 44 (0,0)):=hx0;obtain ⟨-,d2,-⟩:=item_box hxd;obtain ⟨g0,-,g1,-⟩:=(h.below hbd).seatCells h0;rw [hk] at c0;rw [hcn] at g1
 have hth:W.drew.there w.heap.size 5 pkZ.cells.toArray.size:=fun j hj=>by
  have hj':j < 24:=hj;refine ⟨?_,frozen_of_row W.drew _ _ _ _ hxd⟩;rw [cell_of_row _ _ _ _ _ _ hxd,List.getElem?_toArray,List.getElem?_eq_getElem (by rw [item_len];omega)]
  rfl
 have HLZ:Hid ((Tryz.prog.info? 39).map (·.size)=some pkZ.cells.toArray.size):=hyd (by kernel_rfl);have HOZ:Hid (pkZ.cells.toArray.all (·.oneCell')=true):=hyd (by kernel_rfl);have HBZ:Hid (Tryz.prog.built 39 []=some pkZ.cells.toArray):=hyd (by kernel_rfl);obtain ⟨hx3,hm3⟩:=lay_heap w.heap.size 44 pkZ.cells 5 _ W.drew hxd;rw [hlay] at hx3;have hlt:0 < w.heap.size+1:=by omega
 have hsz:w.heap.size < W.drew.heap.size:=(Array.getElem?_eq_some_iff.1 hxd).1;have ht3:TurnAt c ad (W.drew.setCells w.heap.size 5 pkZ.cells) tb T E F:=((h.moreL [w.heap.size] hbd (fun q hq=>by rw [List.mem_singleton.1 hq];exact ⟨Nat.le_refl _,hsz⟩)).wrote hm3 (fun q hq=>List.mem_append_left _ hq)).less (fun q hq=>List.mem_append_right _ hq);have hu3:Upd F F w (W.drew.setCells w.heap.size 5 pkZ.cells):=(Upd.of_below hbd).extra hm3 (fun q hq=>by rw [List.mem_singleton.1 hq];exact Nat.le_refl _);have hib3:ItB (W.drew.setCells w.heap.size 5 pkZ.cells) (E++F) { x with pk:=pkZ }:=⟨.inl rfl,(hib.upd (hu3.ext E)).2⟩;have HC:=hyd (ends_any w0 hK c ad tb T E F (W.drew.setCells w.heap.size 5 pkZ.cells) x.client z { x with pk:=pkZ } ht3 (hB.upd hu3) hok hn1 hn2 h0 hbz hx.gone rfl hib3 (by omega) (by omega) hfl ho0 ho1);have HU:=hyd hu3;have HX2:=hyd (item_box hxd);have HX3:=hyd hx3;have HW:=hyd hW;have HTH:=hyd hth;have hnl:¬ x.conn < 1:=by omega
 clear hbw hx0 h hB hok hn1 hn2 hbz hx hib hn hnn hfl ho0 ho1 hbd hxd hW h0 hc hcn hlay hx3 hm3 hsz ht3 hu3 hib3 hlt hth;rw [hk] at HX2;generalize ({ x with pk:=pkZ }:Item).cells=IL' at *;clear hk;generalize x.cells=IL at *;generalize x.conn=xc at *;generalize pkZ.cells=ZL at *;generalize ad.seat x.client=sq at *;generalize ad.sess x.client=sp at *
 go_enter Tryz.func42, Tryz.ntmps42
 go_upto_region 1 with fail
 rw [HW.out]
 go_upto_region 3 with fail
 clear c0 c2 c5;refine wp_region_held_drew (S:=fun X=>X.cell? ⟨w.heap.size,2,none⟩=some (.int .i64 xc)/\X.cell? ⟨sq,0,none⟩=some (.pointer (some ⟨sp,0,none⟩))/\X.cell? ⟨sp,1,none⟩=some (.int .i64 xc)) (by kernel_rfl) ⟨d2,g0,g1⟩ (fun hHeld => ?_);refine tA 0 (h:=tA 1 (h:=tA 2 (h:=tA 3 (h:=tA 4 (h:=tA 5 (h:=tA 6 (h:=tA 7 (h:=tA 8 (h:=tA 9 (h:=tA 10 (h:=tA 11 (h:=tA 12 (h:=tA 13 (h:=tA 14 (h:=tA 15 (h:=tA 16 (h:=tA 17 (h:=tA 18 (h:=?_)))))))))))))))))));simp only [tks];refine wpAnyH_done (by kernel_rfl) ?_ _;clear hHeld d2 g0 g1;obtain ⟨d0,-,-⟩:=HX2.out;generalize W.drew=V at *
 go_wp2_with (first
  | (refine wpList_buildBy rfl 39 _ rfl _ rfl ZL.toArray [] (by kernel_rfl) HBZ.out ?_)
  | (refine wpList_store_midTo rfl 39 _ _ rfl rfl w.heap.size 5 ZL.toArray rfl rfl HTH.out HLZ.out HOZ.out ?_)
  | (refine wpList_load_row rfl 44 _ rfl w.heap.size rfl 44 IL'.toArray _ _ HX3.out Tryz.underlying44 rfl HLI.out ?_)
  | fail)
 refine HC.out.mono ?_;rintro e w2 ⟨rfl,hd⟩;have HD:=hyd (hd.preU HU.out rfl);clear hd
 go_wp2_with fail
 (try simp only [Exit.inBlock,Exit.then])
 refine bodyPost_ret (results_none rfl _ _ _) rfl ?_;exact ⟨rfl,by rw [HE.out];exact HD.out⟩
theorem asked_sub (w0:World) (hK:Keeps w0) (c:HCfg) (ad:HAd) (tb:Nat) (T:Tn) (E F:List Nat) (w:World) (x:Item) (z:HSeat) (h:TurnAt c ad w tb T E F) (hB:Base w0 w F) (hok:HOk T) (hn1:1<=c.n) (hn2:c.n<=64)
  (h0:T.seat x.client=some z) (hbz:z.busy=none) (hx:ItOk x) (hib:ItB w (E++F) x) (hn:T.mails.length+7000<=100000) (hnn:T.notes.length+10<=100000) (_hfl:T.flows.length<=100000) (_ho0:0<=T.ops) (_ho1:T.ops<=1000000)
  (hk:x.kind=1) (hc:1<=x.conn) (hcn:z.s.conn=x.conn) (hty:x.pk.ty=8) :
  Calls Tryz.prog 42 #[.pointer (some ⟨tb,0,none⟩),.pointer (some ⟨ad.seat x.client,0,none⟩),.agg x.cells.toArray] w fun e w'=>e = .returned (.tuple #[])/\TDone c ad tb E F w (askedT c x T) w':=by
 have HE:Hid (askedT c x T=subscribeT c z x T):=hyd (by
  unfold askedT;rw [if_neg (by omega),h0];dsimp only
  rw [if_neg (by omega),if_neg (by omega),if_pos hty])
 have HLI:=hyd (item_size x);have hbw:=boxW_low w x;have hx0:(boxW w x).heap[w.heap.size]? = some (.cells x.cells.toArray 44 (0,0)):=heap_alloc_new w _;obtain ⟨c0,c2,c5⟩:=item_box hx0;obtain ⟨W,hW⟩:∃ W,w.alloc (.cells x.cells.toArray 44)=W:=⟨_,rfl⟩;rw [show boxW w x=W from hW] at hbw hx0 c0 c2 c5;have hbd:Below w.heap.size w W.drew:=hbw.drew;have hxd:W.drew.heap[w.heap.size]? = some (.cells x.cells.toArray 44 (0,0)):=hx0;obtain ⟨-,d2,-⟩:=item_box hxd;obtain ⟨g0,-,g1,-⟩:=(h.below hbd).seatCells h0;rw [hk] at c0;rw [hcn] at g1;rw [hty] at c5;have hib':=hib.upd (Upd.of_below (F:=E++F) hbd);have HC:=hyd (subscribe_any w0 hK c (subscribe1_any w0 hK c hn1 hn2) ad tb T E F W.drew x.client z x (h.below hbd) (hB.below hbd) hok hn1 hn2 h0 hbz hx hib' (by omega) (by omega));have HB:=hyd hbd;have HX0:=hyd hxd;have HX2:=hyd (item_box hxd);have HW:=hyd hW;have hnl:¬ x.conn < 1:=by omega
 rw [hk,hty] at HX2;clear h hB hok hn1 hn2 hbz hx hib hn hnn _hfl _ho0 _ho1 hbw hbd hx0 hxd hW h0 hk hc hcn hty hib';generalize x.cells=IL at *;generalize x.conn=xc at *;generalize ad.seat x.client=sq at *;generalize ad.sess x.client=sp at *
 go_enter Tryz.func42, Tryz.ntmps42
 go_upto_region 1 with fail
 rw [HW.out]
 go_upto_region 3 with fail
 clear c0 c2 c5;refine wp_region_held_drew (S:=fun X=>X.cell? ⟨w.heap.size,2,none⟩=some (.int .i64 xc)/\X.cell? ⟨sq,0,none⟩=some (.pointer (some ⟨sp,0,none⟩))/\X.cell? ⟨sp,1,none⟩=some (.int .i64 xc)) (by kernel_rfl) ⟨d2,g0,g1⟩ (fun hHeld => ?_);refine tA 0 (h:=tA 1 (h:=tA 2 (h:=tA 3 (h:=tA 4 (h:=tA 5 (h:=tA 6 (h:=tA 7 (h:=tA 8 (h:=tA 9 (h:=tA 10 (h:=tA 11 (h:=tA 12 (h:=tA 13 (h:=tA 14 (h:=tA 15 (h:=tA 16 (h:=tA 17 (h:=tA 18 (h:=?_)))))))))))))))))));simp only [tks];refine wpAnyH_done (by kernel_rfl) ?_ _;clear hHeld d2 g0 g1;obtain ⟨d0,-,d5⟩:=HX2.out;generalize W.drew=V at *
 go_wp2_with (first
  | (refine wpList_load_row rfl 44 _ rfl w.heap.size rfl 44 IL.toArray _ _ HX0.out Tryz.underlying44 rfl HLI.out ?_)
  | fail)
 refine HC.out.mono ?_;rintro e w2 ⟨rfl,hd⟩;have HD:=hyd (hd.pre HB.out);clear hd
 go_wp2_with fail
 go_end0
 exact ⟨rfl,by rw [HE.out];exact HD.out⟩
theorem asked_uns (w0:World) (hK:Keeps w0) (c:HCfg) (ad:HAd) (tb:Nat) (T:Tn) (E F:List Nat) (w:World) (x:Item) (z:HSeat) (h:TurnAt c ad w tb T E F) (hB:Base w0 w F) (hok:HOk T) (hn1:1<=c.n) (hn2:c.n<=64)
  (h0:T.seat x.client=some z) (hbz:z.busy=none) (hx:ItOk x) (hib:ItB w (E++F) x) (hn:T.mails.length+7000<=100000) (hnn:T.notes.length+10<=100000) (_hfl:T.flows.length<=100000) (_ho0:0<=T.ops) (_ho1:T.ops<=1000000)
  (hk:x.kind=1) (hc:1<=x.conn) (hcn:z.s.conn=x.conn) (hty:x.pk.ty=10) :
  Calls Tryz.prog 42 #[.pointer (some ⟨tb,0,none⟩),.pointer (some ⟨ad.seat x.client,0,none⟩),.agg x.cells.toArray] w fun e w'=>e = .returned (.tuple #[])/\TDone c ad tb E F w (askedT c x T) w':=by
 have HE:Hid (askedT c x T=unsubscribeT c z x T):=hyd (by
  unfold askedT;rw [if_neg (by omega),h0];dsimp only
  rw [if_neg (by omega),if_neg (by omega),if_neg (by omega),if_pos hty])
 have HLI:=hyd (item_size x);have hbw:=boxW_low w x;have hx0:(boxW w x).heap[w.heap.size]? = some (.cells x.cells.toArray 44 (0,0)):=heap_alloc_new w _;obtain ⟨c0,c2,c5⟩:=item_box hx0;obtain ⟨W,hW⟩:∃ W,w.alloc (.cells x.cells.toArray 44)=W:=⟨_,rfl⟩;rw [show boxW w x=W from hW] at hbw hx0 c0 c2 c5;have hbd:Below w.heap.size w W.drew:=hbw.drew;have hxd:W.drew.heap[w.heap.size]? = some (.cells x.cells.toArray 44 (0,0)):=hx0;obtain ⟨-,d2,-⟩:=item_box hxd;obtain ⟨g0,-,g1,-⟩:=(h.below hbd).seatCells h0;rw [hk] at c0;rw [hcn] at g1;rw [hty] at c5;have hib':=hib.upd (Upd.of_below (F:=E++F) hbd);have HC:=hyd (unsub_any w0 hK c ad tb T E F W.drew x.client z x (h.below hbd) (hB.below hbd) hok hn1 hn2 h0 hbz hx hib' (by omega) (by omega));have HB:=hyd hbd;have HX0:=hyd hxd;have HX2:=hyd (item_box hxd);have HW:=hyd hW;have hnl:¬ x.conn < 1:=by omega
 rw [hk,hty] at HX2;clear h hB hok hn1 hn2 hbz hx hib hn hnn _hfl _ho0 _ho1 hbw hbd hx0 hxd hW h0 hk hc hcn hty hib';generalize x.cells=IL at *;generalize x.conn=xc at *;generalize ad.seat x.client=sq at *;generalize ad.sess x.client=sp at *
 go_enter Tryz.func42, Tryz.ntmps42
 go_upto_region 1 with fail
 rw [HW.out]
 go_upto_region 3 with fail
 clear c0 c2 c5;refine wp_region_held_drew (S:=fun X=>X.cell? ⟨w.heap.size,2,none⟩=some (.int .i64 xc)/\X.cell? ⟨sq,0,none⟩=some (.pointer (some ⟨sp,0,none⟩))/\X.cell? ⟨sp,1,none⟩=some (.int .i64 xc)) (by kernel_rfl) ⟨d2,g0,g1⟩ (fun hHeld => ?_);refine tA 0 (h:=tA 1 (h:=tA 2 (h:=tA 3 (h:=tA 4 (h:=tA 5 (h:=tA 6 (h:=tA 7 (h:=tA 8 (h:=tA 9 (h:=tA 10 (h:=tA 11 (h:=tA 12 (h:=tA 13 (h:=tA 14 (h:=tA 15 (h:=tA 16 (h:=tA 17 (h:=tA 18 (h:=?_)))))))))))))))))));simp only [tks];refine wpAnyH_done (by kernel_rfl) ?_ _;clear hHeld d2 g0 g1;obtain ⟨d0,-,d5⟩:=HX2.out;generalize W.drew=V at *
 go_wp2_with (first
  | (refine wpList_load_row rfl 44 _ rfl w.heap.size rfl 44 IL.toArray _ _ HX0.out Tryz.underlying44 rfl HLI.out ?_)
  | fail)
 refine HC.out.mono ?_;rintro e w2 ⟨rfl,hd⟩;have HD:=hyd (hd.pre HB.out);clear hd
 go_wp2_with fail
 go_end0
 exact ⟨rfl,by rw [HE.out];exact HD.out⟩
theorem asked_pub (w0:World) (hK:Keeps w0) (c:HCfg) (ad:HAd) (tb:Nat) (T:Tn) (E F:List Nat) (w:World) (x:Item) (z:HSeat) (h:TurnAt c ad w tb T E F) (hB:Base w0 w F) (hok:HOk T) (hn1:1<=c.n) (hn2:c.n<=64)
  (h0:T.seat x.client=some z) (hbz:z.busy=none) (hx:ItOk x) (hib:ItB w (E++F) x) (hn:T.mails.length+7000<=100000) (hnn:T.notes.length+10<=100000) (hfl:T.flows.length<=100000) (_ho0:0<=T.ops) (_ho1:T.ops<=1000000)
  (hk:x.kind=1) (hc:1<=x.conn) (hcn:z.s.conn=x.conn) (hty:x.pk.ty=3) :
  Calls Tryz.prog 42 #[.pointer (some ⟨tb,0,none⟩),.pointer (some ⟨ad.seat x.client,0,none⟩),.agg x.cells.toArray] w fun e w'=>e = .returned (.tuple #[])/\TDone c ad tb E F w (askedT c x T) w':=by
 have HE:Hid (askedT c x T=publishT c z x T):=hyd (by
  unfold askedT;rw [if_neg (by omega),h0];dsimp only
  rw [if_neg (by omega),if_neg (by omega),if_neg (by omega),if_neg (by omega),if_pos hty])
 have HLI:=hyd (item_size x);have hbw:=boxW_low w x;have hx0:(boxW w x).heap[w.heap.size]? = some (.cells x.cells.toArray 44 (0,0)):=heap_alloc_new w _;obtain ⟨c0,c2,c5⟩:=item_box hx0;obtain ⟨W,hW⟩:∃ W,w.alloc (.cells x.cells.toArray 44)=W:=⟨_,rfl⟩;rw [show boxW w x=W from hW] at hbw hx0 c0 c2 c5;have hbd:Below w.heap.size w W.drew:=hbw.drew;have hxd:W.drew.heap[w.heap.size]? = some (.cells x.cells.toArray 44 (0,0)):=hx0;obtain ⟨-,d2,-⟩:=item_box hxd;obtain ⟨g0,-,g1,-⟩:=(h.below hbd).seatCells h0;rw [hk] at c0;rw [hcn] at g1;rw [hty] at c5;have hib':=hib.upd (Upd.of_below (F:=E++F) hbd);have HC:=hyd (publish_any w0 hK c ad tb T E F W.drew x.client z x (h.below hbd) (hB.below hbd) hok hn1 hn2 h0 hbz hx hc rfl (by omega) (by omega) hfl);have HB:=hyd hbd;have HX0:=hyd hxd;have HX2:=hyd (item_box hxd);have HW:=hyd hW;have hnl:¬ x.conn < 1:=by omega
 rw [hk,hty] at HX2;clear h hB hok hn1 hn2 hbz hx hib hn hnn hfl _ho0 _ho1 hbw hbd hx0 hxd hW h0 hk hc hcn hty hib';generalize x.cells=IL at *;generalize x.conn=xc at *;generalize ad.seat x.client=sq at *;generalize ad.sess x.client=sp at *
 go_enter Tryz.func42, Tryz.ntmps42
 go_upto_region 1 with fail
 rw [HW.out]
 go_upto_region 3 with fail
 clear c0 c2 c5;refine wp_region_held_drew (S:=fun X=>X.cell? ⟨w.heap.size,2,none⟩=some (.int .i64 xc)/\X.cell? ⟨sq,0,none⟩=some (.pointer (some ⟨sp,0,none⟩))/\X.cell? ⟨sp,1,none⟩=some (.int .i64 xc)) (by kernel_rfl) ⟨d2,g0,g1⟩ (fun hHeld => ?_);refine tA 0 (h:=tA 1 (h:=tA 2 (h:=tA 3 (h:=tA 4 (h:=tA 5 (h:=tA 6 (h:=tA 7 (h:=tA 8 (h:=tA 9 (h:=tA 10 (h:=tA 11 (h:=tA 12 (h:=tA 13 (h:=tA 14 (h:=tA 15 (h:=tA 16 (h:=tA 17 (h:=tA 18 (h:=?_)))))))))))))))))));simp only [tks];refine wpAnyH_done (by kernel_rfl) ?_ _;clear hHeld d2 g0 g1;obtain ⟨d0,-,d5⟩:=HX2.out;generalize W.drew=V at *
 go_wp2_with (first
  | (refine wpList_load_row rfl 44 _ rfl w.heap.size rfl 44 IL.toArray _ _ HX0.out Tryz.underlying44 rfl HLI.out ?_)
  | fail)
 refine HC.out.mono ?_;rintro e w2 ⟨rfl,hd⟩;have HD:=hyd (hd.pre HB.out);clear hd
 go_wp2_with fail
 go_end0
 exact ⟨rfl,by rw [HE.out];exact HD.out⟩
theorem asked_dis (w0:World) (hK:Keeps w0) (c:HCfg) (ad:HAd) (tb:Nat) (T:Tn) (E F:List Nat) (w:World) (x:Item) (z:HSeat) (h:TurnAt c ad w tb T E F) (hB:Base w0 w F) (hok:HOk T) (hn1:1<=c.n) (hn2:c.n<=64)
  (h0:T.seat x.client=some z) (hbz:z.busy=none) (hx:ItOk x) (hib:ItB w (E++F) x) (hn:T.mails.length+7000<=100000) (hnn:T.notes.length+10<=100000) (hfl:T.flows.length<=100000) (ho0:0<=T.ops) (ho1:T.ops<=1000000)
  (hk:x.kind=1) (hc:1<=x.conn) (hcn:z.s.conn=x.conn) (hty:x.pk.ty=14) :
  Calls Tryz.prog 42 #[.pointer (some ⟨tb,0,none⟩),.pointer (some ⟨ad.seat x.client,0,none⟩),.agg x.cells.toArray] w fun e w'=>e = .returned (.tuple #[])/\TDone c ad tb E F w (askedT c x T) w':=by
 have HE:Hid (askedT c x T=endsT c z x T):=hyd (by
  unfold askedT;rw [if_neg (by omega),h0];dsimp only
  rw [if_neg (by omega),if_neg (by omega),if_neg (by omega),if_neg (by omega),if_neg (by omega),if_pos hty])
 have HLI:=hyd (item_size x);have hbw:=boxW_low w x;have hx0:(boxW w x).heap[w.heap.size]? = some (.cells x.cells.toArray 44 (0,0)):=heap_alloc_new w _;obtain ⟨c0,c2,c5⟩:=item_box hx0;obtain ⟨W,hW⟩:∃ W,w.alloc (.cells x.cells.toArray 44)=W:=⟨_,rfl⟩;rw [show boxW w x=W from hW] at hbw hx0 c0 c2 c5;have hbd:Below w.heap.size w W.drew:=hbw.drew;have hxd:W.drew.heap[w.heap.size]? = some (.cells x.cells.toArray 44 (0,0)):=hx0;obtain ⟨-,d2,-⟩:=item_box hxd;obtain ⟨g0,-,g1,-⟩:=(h.below hbd).seatCells h0;rw [hk] at c0;rw [hcn] at g1;rw [hty] at c5;have hib':=hib.upd (Upd.of_below (F:=E++F) hbd);have HC:=hyd (ends_any w0 hK c ad tb T E F W.drew x.client z x (h.below hbd) (hB.below hbd) hok hn1 hn2 h0 hbz hx rfl hib' (by omega) (by omega) hfl ho0 ho1);have HB:=hyd hbd;have HX0:=hyd hxd;have HX2:=hyd (item_box hxd);have HW:=hyd hW;have hnl:¬ x.conn < 1:=by omega
 rw [hk,hty] at HX2;clear h hB hok hn1 hn2 hbz hx hib hn hnn hfl ho0 ho1 hbw hbd hx0 hxd hW h0 hk hc hcn hty hib';generalize x.cells=IL at *;generalize x.conn=xc at *;generalize ad.seat x.client=sq at *;generalize ad.sess x.client=sp at *
 go_enter Tryz.func42, Tryz.ntmps42
 go_upto_region 1 with fail
 rw [HW.out]
 go_upto_region 3 with fail
 clear c0 c2 c5;refine wp_region_held_drew (S:=fun X=>X.cell? ⟨w.heap.size,2,none⟩=some (.int .i64 xc)/\X.cell? ⟨sq,0,none⟩=some (.pointer (some ⟨sp,0,none⟩))/\X.cell? ⟨sp,1,none⟩=some (.int .i64 xc)) (by kernel_rfl) ⟨d2,g0,g1⟩ (fun hHeld => ?_);refine tA 0 (h:=tA 1 (h:=tA 2 (h:=tA 3 (h:=tA 4 (h:=tA 5 (h:=tA 6 (h:=tA 7 (h:=tA 8 (h:=tA 9 (h:=tA 10 (h:=tA 11 (h:=tA 12 (h:=tA 13 (h:=tA 14 (h:=tA 15 (h:=tA 16 (h:=tA 17 (h:=tA 18 (h:=?_)))))))))))))))))));simp only [tks];refine wpAnyH_done (by kernel_rfl) ?_ _;clear hHeld d2 g0 g1;obtain ⟨d0,-,d5⟩:=HX2.out;generalize W.drew=V at *
 go_wp2_with (first
  | (refine wpList_load_row rfl 44 _ rfl w.heap.size rfl 44 IL.toArray _ _ HX0.out Tryz.underlying44 rfl HLI.out ?_)
  | fail)
 refine HC.out.mono ?_;rintro e w2 ⟨rfl,hd⟩;have HD:=hyd (hd.pre HB.out);clear hd
 go_wp2_with fail
 go_end0
 exact ⟨rfl,by rw [HE.out];exact HD.out⟩
theorem asked_ack (w0:World) (hK:Keeps w0) (c:HCfg) (ad:HAd) (tb:Nat) (T:Tn) (E F:List Nat) (w:World) (x:Item) (z:HSeat) (h:TurnAt c ad w tb T E F) (hB:Base w0 w F) (hok:HOk T) (hn1:1<=c.n) (hn2:c.n<=64)
  (h0:T.seat x.client=some z) (_hbz:z.busy=none) (hx:ItOk x) (hib:ItB w (E++F) x) (hn:T.mails.length+7000<=100000) (_hnn:T.notes.length+10<=100000) (_hfl:T.flows.length<=100000) (_ho0:0<=T.ops) (_ho1:T.ops<=1000000)
  (hk:x.kind=1) (hc:1<=x.conn) (hcn:z.s.conn=x.conn) (hty:x.pk.ty ≠ 1/\x.pk.ty ≠ 8/\x.pk.ty ≠ 10/\x.pk.ty ≠ 3/\x.pk.ty ≠ 14) :
  Calls Tryz.prog 42 #[.pointer (some ⟨tb,0,none⟩),.pointer (some ⟨ad.seat x.client,0,none⟩),.agg x.cells.toArray] w fun e w'=>e = .returned (.tuple #[])/\TDone c ad tb E F w (askedT c x T) w':=by
 have HE:Hid (askedT c x T=acksT c z x T):=hyd (by
  unfold askedT;rw [if_neg (by omega),h0];dsimp only
  rw [if_neg (by omega),if_neg (by omega),if_neg hty.2.1,if_neg hty.2.2.1,if_neg hty.2.2.2.1,if_neg hty.2.2.2.2])
 have HLI:=hyd (item_size x);have hbw:=boxW_low w x;have hx0:(boxW w x).heap[w.heap.size]? = some (.cells x.cells.toArray 44 (0,0)):=heap_alloc_new w _;obtain ⟨c0,c2,c5⟩:=item_box hx0;obtain ⟨W,hW⟩:∃ W,w.alloc (.cells x.cells.toArray 44)=W:=⟨_,rfl⟩;rw [show boxW w x=W from hW] at hbw hx0 c0 c2 c5;have hbd:Below w.heap.size w W.drew:=hbw.drew;have hxd:W.drew.heap[w.heap.size]? = some (.cells x.cells.toArray 44 (0,0)):=hx0;obtain ⟨-,d2,-⟩:=item_box hxd;obtain ⟨g0,-,g1,-⟩:=(h.below hbd).seatCells h0;rw [hk] at c0;rw [hcn] at g1;have t1:(x.pk.ty == 1)=false:=by simpa using hty.1
 have t8:(x.pk.ty == 8)=false:=by simpa using hty.2.1
 have t10:(x.pk.ty == 10)=false:=by simpa using hty.2.2.1
 have t3:(x.pk.ty == 3)=false:=by simpa using hty.2.2.2.1
 have t14:(x.pk.ty == 14)=false:=by simpa using hty.2.2.2.2
 have hib':=hib.upd (Upd.of_below (F:=E++F) hbd)
 have HC:=hyd (show Calls Tryz.prog 67 #[.pointer (some ⟨tb,0,none⟩),.pointer (some ⟨ad.seat x.client,0,none⟩),.agg x.cells.toArray] W.drew fun e w'=>e = .returned (.tuple #[])/\TDone c ad tb E F W.drew (acksT c z x T) w' from by
  by_cases h6:x.pk.ty=6
  ·exact acks_rel c ad tb T E F W.drew x.client z x (h.below hbd) hok hn1 hn2 h0 hx h6 (by omega)
  ·exact acks_ack w0 hK c ad tb T E F W.drew x.client z x (h.below hbd) (hB.below hbd) hok hn1 hn2 h0 hx h6 (by omega))
 have HB:=hyd hbd;have HX0:=hyd hxd;have HX2:=hyd (item_box hxd);have HW:=hyd hW;have hnl:¬ x.conn < 1:=by omega
 rw [hk] at HX2;clear h hB hok hn1 hn2 _hbz hx hib hn _hnn _hfl _ho0 _ho1 hbw hbd hx0 hxd hW h0 hk hc hcn hty hib';generalize x.cells=IL at *;generalize x.pk.ty=ty at *;generalize x.conn=xc at *;generalize ad.seat x.client=sq at *;generalize ad.sess x.client=sp at *
 go_enter Tryz.func42, Tryz.ntmps42
 go_upto_region 1 with fail
 rw [HW.out]
 go_upto_region 3 with fail
 clear c0 c2 c5;refine wp_region_held_drew (S:=fun X=>X.cell? ⟨w.heap.size,2,none⟩=some (.int .i64 xc)/\X.cell? ⟨sq,0,none⟩=some (.pointer (some ⟨sp,0,none⟩))/\X.cell? ⟨sp,1,none⟩=some (.int .i64 xc)) (by kernel_rfl) ⟨d2,g0,g1⟩ (fun hHeld => ?_);refine tA 0 (h:=tA 1 (h:=tA 2 (h:=tA 3 (h:=tA 4 (h:=tA 5 (h:=tA 6 (h:=tA 7 (h:=tA 8 (h:=tA 9 (h:=tA 10 (h:=tA 11 (h:=tA 12 (h:=tA 13 (h:=tA 14 (h:=tA 15 (h:=tA 16 (h:=tA 17 (h:=tA 18 (h:=?_)))))))))))))))))));simp only [tks];refine wpAnyH_done (by kernel_rfl) ?_ _;clear hHeld d2 g0 g1;obtain ⟨d0,-,d5⟩:=HX2.out;generalize W.drew=V at *
 go_wp2_with (first
  | (refine wpList_load_row rfl 44 _ rfl w.heap.size rfl 44 IL.toArray _ _ HX0.out Tryz.underlying44 rfl HLI.out ?_)
  | fail)
 refine HC.out.mono ?_;rintro e w2 ⟨rfl,hd⟩;have HD:=hyd (hd.pre HB.out);clear hd
 go_wp2_with fail
 go_end0
 exact ⟨rfl,by rw [HE.out];exact HD.out⟩
theorem asked_skip (c:HCfg) (ad:HAd) (tb:Nat) (T:Tn) (E F:List Nat) (w:World) (x:Item) (h:TurnAt c ad w tb T E F)
  (hk:x.kind=1/\x.pk.ty ≠ 1 \/ x.kind=1/\x.pk.ty=1 /\ ¬ 0 < x.conn \/ x.kind=2) (h0:T.seat x.client=none \/ ∃ z,T.seat x.client=some z/\(x.conn < 1 \/ ¬ x.conn < 1/\z.s.conn ≠ x.conn)) :
  Calls Tryz.prog 42 #[.pointer (some ⟨tb,0,none⟩),ptrV ((T.seat x.client).map fun _=>ad.seat x.client),.agg x.cells.toArray] w fun e w'=>e = .returned (.tuple #[])/\TDone c ad tb E F w (askedT c x T) w':=by
 have HE:Hid (askedT c x T=T):=hyd (by
  unfold askedT
  rcases h0 with h0 | ⟨z,h0,h1⟩
  ·rw [h0]
   split
   ·rename_i hc
    rcases hk with hk | hk | hk
    ·exact absurd hc.2.1 hk.2
    ·exact absurd hc.2.2 hk.2.2
    ·omega
   ·rfl
  ·rw [if_neg (by omega),h0]
   dsimp only
   rw [if_pos (by omega)])
 have hbw:=boxW_low w x;have hx0:(boxW w x).heap[w.heap.size]? = some (.cells x.cells.toArray 44 (0,0)):=heap_alloc_new w _;obtain ⟨c0,c2,c5⟩:=item_box hx0;obtain ⟨W,hW⟩:∃ W,w.alloc (.cells x.cells.toArray 44)=W:=⟨_,rfl⟩;rw [show boxW w x=W from hW] at hbw hx0 c0 c2 c5;have HD:Hid (TDone c ad tb E F w (askedT c x T) W):=hyd ⟨F,by rw [HE.out];exact h.below hbw,Upd.of_below hbw⟩;have HDD:Hid (TDone c ad tb E F w (askedT c x T) W.drew):=hyd ⟨F,by rw [HE.out];exact (h.below hbw).below (Below.refl _ _).drew,(Upd.of_below hbw).next (Below.refl _ _).drew⟩;have HW:=hyd hW;have HS:Hid (∀ z,T.seat x.client=some z->W.drew.cell? ⟨ad.seat x.client,0,none⟩=some (.pointer (some ⟨ad.sess x.client,0,none⟩))/\W.drew.cell? ⟨ad.sess x.client,1,none⟩=some (.int .i64 z.s.conn)):=hyd (fun z hz=>⟨((h.below hbw.drew).seatCells hz).1,((h.below hbw.drew).seatCells hz).2.2.1⟩);clear h hbw hx0 hW HE
 have go:∀ sv:Value,(sv = .pointer none \/ (sv = .pointer (some ⟨ad.seat x.client,0,none⟩)/\(x.conn < 1 \/ (¬ x.conn < 1 /\ ∃ zc,zc ≠ x.conn/\W.drew.cell? ⟨ad.seat x.client,0,none⟩=some (.pointer (some ⟨ad.sess x.client,0,none⟩))/\W.drew.cell? ⟨ad.sess x.client,1,none⟩=some (.int .i64 zc))))) →
   Calls Tryz.prog 42 #[.pointer (some ⟨tb,0,none⟩),sv,.agg x.cells.toArray] w fun e w'=>e = .returned (.tuple #[])/\TDone c ad tb E F w (askedT c x T) w':=fun sv hsv=>by
  generalize askedT c x T=T' at *;generalize x.cells=IL at *;generalize x.conn=xc at *;generalize x.pk.ty=ty at *;generalize x.kind=ki at *;generalize ad.seat x.client=sq at *;generalize ad.sess x.client=sp at *
  rcases hk with ⟨rfl,hk⟩ | ⟨rfl,rfl,hk⟩ | rfl
  case' inl =>
   have hkb:(ty == 1)=false:=by simpa using hk
   clear hk
  all_goals
   have HD2:Hid (W.drew.cell? ⟨w.heap.size,2,none⟩=some (.int .i64 xc)):=hyd c2
   rcases hsv with rfl | ⟨rfl,hsv | ⟨hsv,zc,hz,g0,g1⟩⟩
   ·
    go_enter Tryz.func42, Tryz.ntmps42
    go_upto_region 1 with fail
    rw [HW.out]
    go_upto_region 3 with fail
    clear c0 c2 c5;refine wp_region_held_drew (S:=fun X=>X.cell? ⟨w.heap.size,2,none⟩=some (.int .i64 xc)) (by kernel_rfl) HD2.out (fun hHeld => ?_);refine tA 0 (h:=tA 1 (h:=tA 2 (h:=sA 3 (h:=sA 4 (h:=sA 5 (h:=tA 6 (h:=tA 7 (h:=sA 8 (h:=sA 9 (h:=sA 10 (h:=sA 11 (h:=sA 12 (h:=sA 13 (h:=sA 14 (h:=sA 15 (h:=sA 16 (h:=sA 17 (h:=tA 18 (h:=?_)))))))))))))))))));simp only [tks];refine wpAnyH_done (by kernel_rfl) ?_ _;clear hHeld
    go_wp2_with fail
    (try simp only [Exit.inBlock,Exit.then])
    refine bodyPost_ret (results_none rfl _ _ _) rfl ?_;exact ⟨rfl,HDD.out⟩
   ·
    go_enter Tryz.func42, Tryz.ntmps42
    go_upto_region 1 with fail
    rw [HW.out]
    go_upto_region 3 with fail
    clear c0 c2 c5;refine wp_region_held_drew (S:=fun X=>X.cell? ⟨w.heap.size,2,none⟩=some (.int .i64 xc)) (by kernel_rfl) HD2.out (fun hHeld => ?_);refine tA 0 (h:=tA 1 (h:=tA 2 (h:=tA 3 (h:=tA 4 (h:=tA 5 (h:=tA 6 (h:=tA 7 (h:=sA 8 (h:=sA 9 (h:=sA 10 (h:=sA 11 (h:=sA 12 (h:=sA 13 (h:=sA 14 (h:=sA 15 (h:=sA 16 (h:=sA 17 (h:=tA 18 (h:=?_)))))))))))))))))));simp only [tks];refine wpAnyH_done (by kernel_rfl) ?_ _;clear hHeld
    go_wp2_with fail
    (try simp only [Exit.inBlock,Exit.then])
    refine bodyPost_ret (results_none rfl _ _ _) rfl ?_;exact ⟨rfl,HDD.out⟩
   ·(try (exfalso;omega))
    all_goals
     have hzb:(zc != xc)=true:=by simpa using hz
     clear hz
     go_enter Tryz.func42, Tryz.ntmps42
     go_upto_region 1 with fail
     rw [HW.out]
     go_upto_region 3 with fail
     clear c0 c2 c5;refine wp_region_held_drew (S:=fun X=>X.cell? ⟨w.heap.size,2,none⟩=some (.int .i64 xc)/\X.cell? ⟨sq,0,none⟩=some (.pointer (some ⟨sp,0,none⟩))/\X.cell? ⟨sp,1,none⟩=some (.int .i64 zc)) (by kernel_rfl) ⟨HD2.out,g0,g1⟩ (fun hHeld => ?_);refine tA 0 (h:=tA 1 (h:=tA 2 (h:=tA 3 (h:=tA 4 (h:=tA 5 (h:=tA 6 (h:=tA 7 (h:=tA 8 (h:=tA 9 (h:=tA 10 (h:=tA 11 (h:=tA 12 (h:=tA 13 (h:=tA 14 (h:=tA 15 (h:=tA 16 (h:=tA 17 (h:=tA 18 (h:=?_)))))))))))))))))));simp only [tks];refine wpAnyH_done (by kernel_rfl) ?_ _;clear hHeld
     go_wp2_with fail
     (try simp only [Exit.inBlock,Exit.then])
     refine bodyPost_ret (results_none rfl _ _ _) rfl ?_;exact ⟨rfl,HDD.out⟩
 rcases h0 with h0 | ⟨z,h0,h1⟩
 ·rw [h0]
  exact go _ (.inl rfl)
 ·rw [h0]
  refine go _ (.inr ⟨rfl,?_⟩)
  rcases h1 with h1 | ⟨h1,h2⟩
  ·exact .inl h1
  ·exact .inr ⟨h1,z.s.conn,h2,(HS.out z h0).1,(HS.out z h0).2⟩
theorem asked_any (w0:World) (hK:Keeps w0) (c:HCfg) (ad:HAd) (tb:Nat) (T:Tn) (E F:List Nat) (w:World) (x:Item) (h:TurnAt c ad w tb T E F) (hB:Base w0 w F) (hok:HOk T) (hn1:1<=c.n) (hn2:c.n<=64) (hm:1<=c.most/\c.most<=1024) (hwi:1<=c.win/\c.win<=1024)
  (hbz:∀ z,T.seat x.client=some z->z.busy=none) (hx:ItOk x) (hib:ItB w (E++F) x) (hn:T.mails.length+7000<=100000) (hnn:T.notes.length+10<=100000) (hsl:T.seats.length<=100000) (hfl:T.flows.length<=100000) (ho0:0<=T.ops) (ho1:T.ops<=1000000)
  (hk:x.kind=1 \/ x.kind=2) :
  Calls Tryz.prog 42 #[.pointer (some ⟨tb,0,none⟩),ptrV ((T.seat x.client).map fun _=>ad.seat x.client),.agg x.cells.toArray] w fun e w'=>e = .returned (.tuple #[]) /\ ∃ ad',ad.like ad'/\TDone c ad' tb E F w (askedT c x T) w':=by
 by_cases hc:x.kind=1/\x.pk.ty=1/\0 < x.conn
 ·exact asked_conn w0 hK c ad tb T E F w x h hB hok hn1 hn2 hm hwi hbz hx hib hn hnn hsl hc
 ·have hk3:x.kind=1/\x.pk.ty ≠ 1 \/ x.kind=1/\x.pk.ty=1 /\ ¬ 0 < x.conn \/ x.kind=2:=by omega
  have same:∀ {e:Ending} {w':World},(e = .returned (.tuple #[])/\TDone c ad tb E F w (askedT c x T) w')->(e = .returned (.tuple #[]) /\ ∃ ad',ad.like ad'/\TDone c ad' tb E F w (askedT c x T) w'):=fun h=>⟨h.1,ad,HAd.like_refl ad,h.2⟩
  by_cases h9:T.seat x.client=none \/ ∃ z,T.seat x.client=some z/\(x.conn < 1 \/ ¬ x.conn < 1/\z.s.conn ≠ x.conn)
  ·exact (asked_skip c ad tb T E F w x h hk3 h9).mono fun _ _ h=>same h
  ·cases h0:T.seat x.client with
   | none=>exact absurd (.inl h0) h9
   | some z =>
    have hcn:1<=x.conn/\z.s.conn=x.conn:=by
     by_cases g1:x.conn < 1
     ·exact absurd (.inr ⟨z,h0,.inl g1⟩) h9
     ·by_cases g2:z.s.conn=x.conn
      ·exact ⟨by omega,g2⟩
      ·exact absurd (.inr ⟨z,h0,.inr ⟨g1,g2⟩⟩) h9
    have hzb:=hbz z h0
    rcases hk with hk | hk
    ·have ht1:x.pk.ty ≠ 1:=by omega
     by_cases t8:x.pk.ty=8
     ·exact (asked_sub w0 hK c ad tb T E F w x z h hB hok hn1 hn2 h0 hzb hx hib hn hnn hfl ho0 ho1 hk hcn.1 hcn.2 t8).mono fun _ _ h=>same h
     ·by_cases t10:x.pk.ty=10
      ·exact (asked_uns w0 hK c ad tb T E F w x z h hB hok hn1 hn2 h0 hzb hx hib hn hnn hfl ho0 ho1 hk hcn.1 hcn.2 t10).mono fun _ _ h=>same h
      ·by_cases t3:x.pk.ty=3
       ·exact (asked_pub w0 hK c ad tb T E F w x z h hB hok hn1 hn2 h0 hzb hx hib hn hnn hfl ho0 ho1 hk hcn.1 hcn.2 t3).mono fun _ _ h=>same h
       ·by_cases t14:x.pk.ty=14
        ·exact (asked_dis w0 hK c ad tb T E F w x z h hB hok hn1 hn2 h0 hzb hx hib hn hnn hfl ho0 ho1 hk hcn.1 hcn.2 t14).mono fun _ _ h=>same h
        ·exact (asked_ack w0 hK c ad tb T E F w x z h hB hok hn1 hn2 h0 hzb hx hib hn hnn hfl ho0 ho1 hk hcn.1 hcn.2 ⟨ht1,t8,t10,t3,t14⟩).mono fun _ _ h=>same h
    ·exact (asked_gone w0 hK c ad tb T E F w x z h hB hok hn1 hn2 h0 hzb hx hib hn hnn hfl ho0 ho1 hk hcn.1 hcn.2).mono fun _ _ h=>same h
end
end Go.Proofs.YtcekcoepdhnfgaaGreatDoor
