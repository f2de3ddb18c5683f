/- ends, counted, unsubscribe. -/
import Derived.Test.YtcekcoepdhnfgaaGreatDoorHDX
import Derived.Test.YtcekcoepdhnfgaaGreatDoorSubClear
import Derived.StillTailTactics
namespace Go.Proofs.YtcekcoepdhnfgaaGreatDoor
section
open Go Go.RowKit Go.Maps
theorem gone_snoc (y:SubE):∀ (xs l:List SubE) (o:List Str),goneGo (xs ++ [y]) l o=((if hasE y.1 (goneGo xs l o).2 then (goneGo xs l o).1 ++ [y.1] else (goneGo xs l o).1),delE y.1 (goneGo xs l o).2)
 | [],l,o=>rfl
 | x :: r,l,o=>by
  rw [List.cons_append];unfold goneGo;exact gone_snoc y r _ _
theorem gone_mem {f:Str}:∀ (xs l:List SubE) (o:List Str),f ∈ (goneGo xs l o).1->f ∈ o \/ ∃ y ∈ xs,f=y.1
 | [],_,o,h => .inl h
 | x :: r,l,o,h=>by
  unfold goneGo at h
  rcases gone_mem r _ _ h with h | ⟨y,hy,e⟩
  ·split at h
   ·rcases List.mem_append.1 h with h | h
    ·exact .inl h
    ·exact .inr ⟨x,by simp,by simpa using h⟩
   ·exact .inl h
  ·exact .inr ⟨y,by simp [hy],e⟩
section
variable {c:HCfg} {ad:HAd} {w w':World} {tb:Nat} {t:Tn} {E F:List Nat}
theorem TurnAt.chg (h:TurnAt c ad w tb t E F) {S E':List Nat} (hm:Mod S w w') (hS:∀ k ∈ S,k ∈ E) (hE:∀ k ∈ E',k ∈ E \/ w.heap.size<=k) (hlt:∀ k ∈ E',k < w'.heap.size):TurnAt c ad w' tb t E' F:=by
 obtain ⟨v,h1,rfl⟩:=h
 have hu:Upd (E++feet (pcs c ad tb v t)) (E'++feet (pcs c ad tb v t)) w w':=⟨hm.mono fun k hk=>List.mem_append_left _ (hS k hk),fun k hk=>by
  rcases List.mem_append.1 hk with hk | hk
  ·exact (hE k hk).imp (fun h=>List.mem_append_left _ h) id
  ·exact .inl (List.mem_append_right _ hk)⟩
 refine ⟨v,⟨h1.lies.mod hm fun k hk hk'=>(h1.ext k (hS k hk')).2 hk,fun k hk=>⟨hlt k hk,fun hf => ?_⟩,All2.mono (fun _ _ k=>k.upd hu) h1.mails,All2.mono (fun _ _ k=>k.upd hu) h1.notes,fun z hz k left hk=>(h1.caught z hz k left hk).upd hu⟩,rfl⟩
 rcases hE k hk with h5 | h5
 ·exact (h1.ext k h5).2 hf
 ·have:=h1.lt k (List.mem_append_right _ hf);omega
end
theorem namesV_app (l:List (List UInt8)) (f:List UInt8):namesV l ++ [.string ⟨f.toArray⟩]=namesV (l ++ [f]):=by simp [namesV]
end
section
open Go Go.RowKit Go.Maps
theorem loses_any (w0:World) (hT:Tabs w0) (c:HCfg) (ad:HAd) (tb:Nat) (T:Tn) (E F:List Nat) (w:World) (cl:ByteArray) (z:HSeat) (b:Bool) (h:TurnAt c ad w tb T E F) (hB:Base w0 w F) (hok:HOk T) (hn1:1<=c.n) (hn2:c.n<=64) (h0:T.seat cl=some z) (hbz:z.busy=none)
  (hn:T.mails.length+1<=100000) (hnn:T.notes.length+1<=100000) (hfl:T.flows.length<=100000) (ho0:0<=T.ops) (ho1:T.ops<=1000000) :
  Calls Tryz.prog 108 #[.pointer (some ⟨tb,0,none⟩),.pointer (some ⟨ad.seat cl,0,none⟩),.bool b] w fun e w'=>e = .returned (.tuple #[])/\TDone c ad tb E F w (losesT c z b T) w':=by
 cases b
 ·exact loses_gone w0 hT c ad tb T E F w cl z h hB hok hn1 hn2 h0 hbz hn hnn hfl ho0 ho1
 ·exact loses_left c ad tb T E F w cl z h hok h0
theorem built_noteD2 (op conn:Int) (client:ByteArray) (p:Pkt):Tryz.prog.built 79 [(0,.int .u8 2),(1,.int .i64 op),(2,.int .i64 conn),(3,.string client),(4,.agg p.cells.toArray)]=some (noteP 2 op conn client p).cells.toArray:=built_noteD op conn client p
theorem mem_finN {s:SS} (h:SsOk s):∀ f ∈ finN s,f.length<=1000000:=by
 unfold finN
 split
 ·exact h.names
 ·exact fun f hf=>by cases hf
set_option maxRecDepth 100000
set_option maxHeartbeats 4000000
theorem ends_any (w0:World) (hK:Keeps w0) (c:HCfg) (ad:HAd) (tb:Nat) (T:Tn) (E F:List Nat) (w:World) (cl:ByteArray) (z:HSeat) (x:Item) (h:TurnAt c ad w tb T E F) (hB:Base w0 w F) (hok:HOk T) (hn1:1<=c.n) (hn2:c.n<=64) (h0:T.seat cl=some z) (hbz:z.busy=none)
  (hx:ItOk x) (hcl:x.client=cl) (hib:ItB w (E++F) x) (hn:T.mails.length+3000<=100000) (hnn:T.notes.length+5<=100000) (hfl:T.flows.length<=100000) (ho0:0<=T.ops) (ho1:T.ops<=1000000) :
  Calls Tryz.prog 63 #[.pointer (some ⟨tb,0,none⟩),.pointer (some ⟨ad.seat cl,0,none⟩),.agg x.cells.toArray] w fun e w'=>e = .returned (.tuple #[])/\TDone c ad tb E F w (endsT c z x T) w':=by
 have hzc:=(seat_at h0).2;have hs:=(hok.seat z (seat_at h0).1).s;obtain ⟨n1,hn1e⟩:∃ n1,noteP 2 x.op x.conn x.client x.pk.bare=n1:=⟨_,rfl⟩;obtain ⟨T1,hT1⟩:∃ T1,T.note n1=T1:=⟨_,rfl⟩;have hok1:HOk T1:=hT1 ▸ hok.note n1;have h1s:T1.seat cl=some z:=by rw [<- hT1];exact h0
 have hl1:T1.mails.length=T.mails.length/\T1.notes.length=T.notes.length+1/\T1.flows.length=T.flows.length/\T1.ops=T.ops:=by rw [<- hT1];exact ⟨rfl,by simp [Tn.note],rfl,rfl⟩
 obtain ⟨kb,hkb⟩:∃ kb,decide (x.kind=1)=kb:=⟨_,rfl⟩;obtain ⟨T2,hT2⟩:∃ T2,losesT c z kb T1=T2:=⟨_,rfl⟩;have hok2:HOk T2:=hT2 ▸ loses_ok hok1 h1s hbz (by rw [hl1.2.2.2];unfold i64R;omega) kb;have h2s:T2.seat cl=some ⟨leaveS z.s,none⟩:=by rw [<- hT2,loses_seat h1s,hbz]
 have hg2:=gr_loses (c:=c) (t:=T1) z kb;rw [hT2] at hg2;have hg2n:=hg2.n;have hg2m:=hg2.m;obtain ⟨T3,hT3⟩:∃ T3,T2.setS cl ⟨finL z.s,none⟩=T3:=⟨_,rfl⟩;have hfc:(finL z.s).client=cl:=hzc;have hok3:HOk T3:=hT3 ▸ hok2.set0 h2s rfl (hfc.trans hzc.symm) (SeOk.idle hs.fin);have h3s:T3.seat cl=some ⟨finL z.s,none⟩:=by rw [<- hT3];exact seat_setS' h2s hfc
 have hl3:T3.mails.length=T2.mails.length/\T3.notes.length=T2.notes.length:=by rw [<- hT3];exact ⟨rfl,rfl⟩
 obtain ⟨T4,hT4⟩:∃ T4,hubsT c (itK 6 x.op x.client) (finN z.s) T3=T4:=⟨_,rfl⟩;have ssf4:SSF T3 T4:=hT4 ▸ ssf_hubs _ _ _ _;have hok4:HOk T4:=hok3.same ssf4;have h4s:T4.seat cl=some ⟨finL z.s,none⟩:=(ssf4.seat cl).trans h3s;have hfn:=finN_len hs;have hhk:=hubsK_cap c hn1 hn2 (finN z.s);have hg4:=gr_hubs (c:=c) (t:=T3) (itK 6 x.op x.client) (finN z.s);rw [hT4] at hg4;have hg4m:=hg4.m;have hg4n:=hg4.n
 have HEC:Hid (z.s.clean=true->endsT c z x T=if hubsK c (finN z.s)=0 then doneFin c x true T4 else T4.setS cl ⟨finL z.s,some (.fin x true,hubsK c (finN z.s))⟩):=hyd (fun hc=>by
  unfold endsT finH;rw [hbz,hc];simp only [if_true]
  rw [hzc,hn1e,hT1,hkb,hT2,hT3,hT4])
 have HEN:Hid (z.s.clean=false->endsT c z x T=doneFin c x false T2):=hyd (fun hc=>by
  unfold endsT finH;have hfe:finN z.s = []:=by unfold finN;rw [hc];rfl
  rw [hfe,hc];simp only [Bool.false_eq_true,if_false];rw [hn1e,hT1,hkb,hT2]
  rfl)
 have HNO:=hyd (fun X (hX:TurnAt c ad X tb T E F) (hb:Beside X (E++F) x.pk.subsA (subsV x.pk.subs))=>note_any c ad tb T E F X (noteP 2 x.op x.conn x.client x.pk) n1 x.pk.subsA x.pk.subsC hX (by rw [<- hn1e];rfl) (by rw [<- hn1e];exact hb) (by rw [<- hn1e];have:=hx.pk.nsubs;show x.pk.subs.length<=_;omega) (by omega));rw [hT1] at HNO;have HLO:=hyd (fun X G (hX:TurnAt c ad X tb T1 E G) (hBX:Base w0 X G)=>loses_any w0 hK.t c ad tb T1 E G X cl z kb hX hBX hok1 hn1 hn2 h1s hbz (by omega) (by omega) (by omega) (by omega) (by omega));rw [hT2] at HLO;have HCL:=hyd (fun X E' G (hX:TurnAt c ad X tb T2 E' G)=>hX.lists hok2 h2s);have HHU:=hyd (fun X E' G a3 c3 (hX:TurnAt c ad X tb T3 E' G) (hBX:Base w0 X G) (hb:Beside X (E'++G) a3 (namesV (finN z.s)))=>thubs_any w0 hK.t c ad tb T3 E' G X (itK 6 x.op x.client) (finN z.s) a3 c3 hX hBX hn1 hn2 rfl hb (mem_finN hs) (by omega) (by omega));rw [hT4] at HHU;have HE1:=hyd (fun X E' G b1 b2 (hX:TurnAt c ad X tb T4 E' G) (q1:Stay X G b1 [.bool true] 4) (q2:Stay X G b2 x.cells 44)=>ends1_any c ad tb T4 E' G X cl ⟨finL z.s,none⟩ x true b1 b2 hX hok4 hn1 hn2 h4s hcl q1 q2 hx (by omega) (by omega));have HE2:=hyd (fun X E' G b1 b2 (hX:TurnAt c ad X tb T2 E' G) (q1:Stay X G b1 [.bool false] 4) (q2:Stay X G b2 x.cells 44)=>ends1_any c ad tb T2 E' G X cl ⟨leaveS z.s,none⟩ x false b1 b2 hX hok2 hn1 hn2 h2s hcl q1 q2 hx (by omega) (by omega))
 have HBU:=hyd (fun X wb b1 b2 G (hX:TurnAt c ad X tb T4 ([wb]++E) G) (hwb:w.heap.size<=wb) (hw:X.heap[wb]? = some (.cells (waitC x.op pkZ 9 (hubsK c (finN z.s):Nat) ⟨#[]⟩ none (.func (.func 111) #[] #[.pointer (some ⟨b1,0,none⟩),.pointer (some ⟨b2,0,none⟩)])).toArray 110 (0,0)))
   (q1:Stay X (([wb]++E)++G) b1 [.bool true] 4) (q2:Stay X (([wb]++E)++G) b2 x.cells 44) (q4:ItB X (([wb]++E)++G) x) =>
  hX.busied (k:=.fin x true) (left:=(hubsK c (finN z.s):Nat)) (v1:=⟨[],wb,b1,b2,0,0,0⟩) hok4.nd h4s rfl (lies_one (cellPc_ok _ _ _) hw) (fun q hq=>by simpa [feet,wkPcs,cellPc] using hq) (fun q hq hqE=>by
   have:=h.lt q (List.mem_append_left _ hqE);have:=List.mem_singleton.1 hq
   omega) (show Caught X (([wb]++E)++G) ad ⟨[],wb,b1,b2,0,0,0⟩ ⟨finL z.s,none⟩ (.fin x true) from ⟨q1,q2,q4⟩))
 have HSH:=hyd (fun X E' G (hX:TurnAt c ad X tb T4 E' G)=>hX.seatHeap h4s rfl);have HNB:=hyd (fun (_:Unit)=>built_noteD2 x.op x.conn x.client x.pk);have HWB:=hyd (fun (_:Unit)=>built_wait0 x.op 9);have HIB:=hyd (fun (_:Unit)=>built_item6 6 x.op x.client);have HPS:Hid ((Tryz.prog.info? 39).map (·.size)=some x.pk.cells.length):=hyd (pkt_size' x.pk);have hb1:=low_alloc w (.cells x.cells.toArray 44);have hx1:=heap_alloc_new w (.cells x.cells.toArray 44);obtain ⟨W,hW⟩:∃ W,w.alloc (.cells x.cells.toArray 44)=W:=⟨_,rfl⟩;rw [hW] at hb1 hx1;have HIX:=hyd (fun (X:World) (hX:X.heap[w.heap.size]? = some (.cells x.cells.toArray 44 (0,0)))=>(show ItC X w.heap.size x/\X.rangeAt w.heap.size 5 x.pk.cells/\X.cell? ⟨w.heap.size,0,none⟩=some (.int .u8 x.kind) from ⟨itC hX,item_pk hX,item_kind hX⟩));have HSX:Hid (Stay W (E++F) w.heap.size x.cells 44):=hyd (stay_low hx1 h.lt);have HSE:=hyd (fun X G (hX:TurnAt c ad X tb T1 E G)=>hX.seatCells h1s);have HS2:=hyd (fun X E' G (hX:TurnAt c ad X tb T2 E' G)=>(hX.seatCells h2s).1);have HS3:=hyd (fun X E' G (hX:TurnAt c ad X tb T3 E' G)=>(hX.seatCells h3s).1);have HS4:=hyd (fun X E' G (hX:TurnAt c ad X tb T4 E' G)=>(hX.seatCells h4s).1);have HT:Hid (TurnAt c ad W tb T E F):=hyd (h.below hb1)
 have HI:Hid (ItB W (E++F) x):=hyd (hib.upd (Upd.of_below hb1));have HW:=hyd hW;have HB1:=hyd hb1;have HBA:=hyd hB;have HLT:=hyd h.lt;have HFC:Hid (z.s.clean=true->finN z.s=namesE z.s.l/\(leaveS z.s).setL []=finL z.s):=hyd (fun hc=>by unfold finN finL;rw [hc];exact ⟨rfl,rfl⟩);have HT3:=hyd hT3;have hkq:(x.kind == 1)=kb:=by rw [<- hkb];rfl
 have HLL:Hid (finN z.s=namesE z.s.l->(finN z.s).length=z.s.l.length):=hyd (fun e=>by rw [e];simp [namesE]);clear h hB hok hn1 hn2 h0 hbz hx hcl hib hn hnn hfl ho0 ho1 hzc hs hn1e hT1 hok1 h1s hl1 hkb hT2 hok2 h2s hg2 hg2n hg2m hT3 hfc hok3 h3s hl3 hT4 ssf4 hok4 h4s hfn hhk hg4 hg4m hg4n hb1 hx1 hW hK;generalize hWL:waitC x.op pkZ 9 0 ⟨#[]⟩ none .nilFunc=WL at *;generalize (itK 6 x.op x.client).cells=IKL at *;generalize (noteP 2 x.op x.conn x.client x.pk).cells=NL at *;generalize hIL:x.cells=IL at *;generalize hPL:x.pk.cells=PL at *;obtain ⟨zb,hzb⟩:∃ zb,z.s.clean=zb:=⟨_,rfl⟩;rw [hzb] at HEC HEN HFC HSE
 go_enter Tryz.func63, Tryz.ntmps63
 go_upto_region 1 with fail
 rw [HW.out];obtain ⟨⟨q1,q2,q3⟩,hra,-⟩:=HIX.out W HSX.out.2.2;have HRA:=hyd hra;clear hra
 go_wp2_with (first
  | (refine wpList_loadMid rfl 39 _ rfl w.heap.size 5 rfl PL _ HRA.out Tryz.underlying39 rfl HPS.out _ rfl ?_)
  | (refine wpList_buildBy rfl 79 _ rfl _ rfl NL.toArray [(0,.int .u8 2),(1,.int .i64 x.op),(2,.int .i64 x.conn),(3,.string x.client),(4,.agg PL.toArray)] (by kernel_rfl) (HNB.out ()) ?_)
  | fail)
 refine (HNO.out W HT.out HI.out.1).mono ?_;rintro e w2 ⟨rfl,F2,ht2,hu2⟩;have HX2:=hyd (HSX.out.upd (hu2.ext E));have HI2:=hyd (HI.out.upd (hu2.ext E));have HT2:=hyd ht2;have HU2:=hyd (Upd.pre HB1.out hu2);clear ht2 hu2 q1 q2 q3 HRA;obtain ⟨d0,-,-,d2⟩:=HSE.out w2 F2 HT2.out
 go_upto_region 3 with fail
 have hbb:=low_alloc w2 (.cells [Value.bool zb].toArray 4);have hxb:=heap_alloc_new w2 (.cells [Value.bool zb].toArray 4);obtain ⟨w3,hw3⟩:∃ w3,w2.alloc (.cells [Value.bool zb].toArray 4)=w3:=⟨_,rfl⟩;rw [hw3] at hbb hxb;have hw3':w2.alloc (.cells #[Value.bool zb] 4)=w3:=hw3;rw [hw3'];clear hw3 hw3';have HX3:=hyd (HX2.out.below hbb);have HI3:=hyd (HI2.out.upd (Upd.of_below hbb));have HT3':=hyd (HT2.out.below hbb);have HU3:=hyd (HU2.out.next hbb);have HQ3:Hid (Stay w3 (E++F2) w2.heap.size [.bool zb] 4):=hyd (stay_low hxb HT2.out.lt);have HB1W:Hid (w.heap.size<=w2.heap.size):=hyd HU2.out.1.size;clear hbb hxb d0 d2 HX2 HI2 HT2 HU2;generalize w2.heap.size=b1 at *;obtain ⟨-,-,q0⟩:=HIX.out w3 HX3.out.2.2
 go_wp2_with fail
 refine (HLO.out w3 F2 HT3'.out (HBA.out.upd HU3.out)).mono ?_;rintro e w4 ⟨rfl,F4,ht4,hu4⟩;have HX4:=hyd (HX3.out.upd (hu4.ext E));have HI4:=hyd (HI3.out.upd (hu4.ext E));have HQ4:=hyd (HQ3.out.upd (hu4.ext E));have HT4:=hyd ht4;have HU4:=hyd (HU3.out.trans' hu4);clear ht4 hu4 q0 HX3 HI3 HQ3 HT3' HU3;obtain ⟨⟨q1,-,-⟩,-,-⟩:=HIX.out w4 HX4.out.2.2
 go_upto_region 5 with (first
  | (refine wpList_buildBy rfl 110 _ rfl _ rfl WL.toArray [(0,.int .i64 x.op),(3,.int .u8 9)] (by kernel_rfl) (HWB.out ()) ?_)
  | fail)
 clear q1;have hx5:=heap_alloc_new w4 (.cells WL.toArray 110);have hb5:=low_alloc w4 (.cells WL.toArray 110);have hs5:w4.heap.size < (w4.alloc (.cells WL.toArray 110)).heap.size:=by simp
 have HWB5:Hid (w.heap.size<=w4.heap.size):=hyd HU4.out.1.size;have HT5:Hid (TurnAt c ad (w4.alloc (.cells WL.toArray 110)) tb T2 (w4.heap.size :: E) F4):=hyd (HT4.out.more hb5 (Nat.le_refl _) hs5);have HX5:=hyd (HX4.out.more (E:=E) (F:=F4) hb5 (Nat.le_refl _));have HI5:=hyd (HI4.out.more (E:=E) (F:=F4) hb5 (Nat.le_refl _));have HQ5:=hyd (HQ4.out.more (E:=E) (F:=F4) hb5 (Nat.le_refl _));have HU5:=hyd (HU4.out.next hb5);have HWX:=hyd hx5;clear hx5 hb5 hs5 HX4 HI4 HQ4 HT4 HU4;generalize w4.alloc (.cells WL.toArray 110)=w5 at *;generalize w4.heap.size=wb at *;have qb:=stay_cell0 HQ5.out
 cases zb
 case false =>
  go_upto_region 7 with fail
  have hwx:=HWX.out;rw [<- hWL] at hwx;have c30:w5.cell? ⟨wb,30,none⟩=some .nilFunc:=by rw [cell_of_row _ _ 30 _ _ _ hwx];rfl
  have f30:=frozen_of_row w5 _ 30 _ _ hwx;obtain ⟨dv,hdv⟩:∃ dv:Value,.func (.func 111) #[] #[.pointer (some ⟨b1,0,none⟩),.pointer (some ⟨w.heap.size,0,none⟩)]=dv:=⟨_,rfl⟩;have hxa:=wait_done hwx dv;have hma:Mod [wb] w5 (w5.setCell ⟨wb,30,none⟩ dv):=(Mod.refl [wb] w5).setCell (.inl (by simp)) dv;have HXA:=hyd hxa;have HMA:=hyd hma;have HDV:=hyd hdv;clear hxa hma hdv hwx qb
  go_upto_region 8 with fail
  clear c30 f30;rw [HDV.out];generalize w5.setCell ⟨wb,30,none⟩ dv=wa at *;have huw:Upd ((wb :: E)++F4) ((wb :: E)++F4) w5 wa:=upd_in HMA.out (fun k hk=>by rw [List.mem_singleton.1 hk];simp);have hsub:∀ k ∈ F4,k ∈ (wb :: E)++F4:=fun k hk=>List.mem_append_right _ hk
  have HTA:Hid (TurnAt c ad wa tb T2 (wb :: E) F4):=hyd (HT5.out.wrote HMA.out (fun k hk=>by rw [List.mem_singleton.1 hk];simp));have HUA:=hyd (HU5.out.extra HMA.out (fun k hk=>by rw [List.mem_singleton.1 hk];exact HWB5.out));have HEA:=hyd (HE2.out wa (wb :: E) F4 b1 w.heap.size HTA.out ((HQ5.out.upd huw).sub hsub) ((HX5.out.upd huw).sub hsub));clear huw hsub
  go_wp2_with fail
  rw [<- HDV.out] at HXA;refine (waits_fin tb (ad.seat cl) wb b1 w.heap.size wa x.op pkZ 9 ⟨#[]⟩ none (TDone c ad tb (wb :: E) F4 wa (doneFin c x false T2)) HXA.out HEA.out).mono ?_;rintro e wc ⟨rfl,Fc,htc,huc⟩;have HD:Hid (TDone c ad tb E F w (endsT c z x T) wc):=hyd ⟨Fc,by rw [HEN.out (by trivial)];exact htc.less (fun k hk=>List.mem_cons_of_mem _ hk),HUA.out.trans' huc⟩;clear htc huc
  go_wp2_with fail
  go_end0
  exact ⟨rfl,HD.out⟩
 case true =>
  obtain ⟨lb,FL,l1,l2,l3,l4⟩:=HCL.out w5.drew _ _ (HT5.out.below (Below.refl _ _).drew);have HSC:=hyd (sclear_any lb _ FL w5.drew l2);have HL4:=hyd l4;have l1':w5.cell? ⟨ad.sess cl,8,none⟩=some (.pointer (some ⟨lb,0,none⟩)):=l1;have d0:=HS2.out w5 _ _ HT5.out;obtain ⟨⟨q1,q2,q3⟩,-,-⟩:=HIX.out w5 HX5.out.2.2
  go_upto_region 6 with fail
  clear qb l1 l3 l4;have HSP:Hid (∀ (X:World),X.heap[w.heap.size]? = some (.cells IL.toArray 44 (0,0))->X.cell? ⟨ad.seat cl,0,none⟩=some (.pointer (some ⟨ad.sess cl,0,none⟩))->X.cell? ⟨w.heap.size,1,none⟩=some (.int .i64 x.op)/\X.cell? ⟨w.heap.size,3,none⟩=some (.string x.client)/\X.cell? ⟨ad.seat cl,0,none⟩=some (.pointer (some ⟨ad.sess cl,0,none⟩))):=hyd (fun X e1 e2=>⟨(HIX.out X e1).1.op,(HIX.out X e1).1.client,e2⟩);refine wp_region_held_drew (S:=fun X=>X.cell? ⟨w.heap.size,1,none⟩=some (.int .i64 x.op)/\X.cell? ⟨w.heap.size,3,none⟩=some (.string x.client)/\X.cell? ⟨ad.seat cl,0,none⟩=some (.pointer (some ⟨ad.sess cl,0,none⟩))) (by kernel_rfl) (HSP.out w5.drew HX5.out.2.2 d0) (fun hHeld => ?_);refine tA 0 (h:=tA 1 (h:=tA 2 (h:=tA 3 (h:=tA 4 (h:=tA 5 (h:=?_))))));simp only [tks];refine tk 6 (v:=.agg IKL.toArray) (fun w0 hS0=>exec_build 44 _ rfl IKL.toArray [(0,.int .u8 6),(1,.int .i64 x.op),(3,.string x.client)] (by kernel_rfl) (HIB.out ())) hHeld ?_;simp only [tks];refine tA 7 (h:=tA 8 (h:=tA 9 (h:=tA 10 (h:=tA 11 (h:=tA 12 (h:=?_))))));simp only [tks];have l1d:w5.drew.cell? ⟨ad.sess cl,8,none⟩=some (.pointer (some ⟨lb,0,none⟩)):=l1';refine wpAnyH_ready (rs:=[13]) (by kernel_rfl) (by simp) ?_;refine AllReadyH.cons rfl (fun K hK => ?_) AllReadyH.nil;rw [if_pos (by rfl)];go_simp;refine hK.out _ _ hHeld (fun hHeld => ?_);clear l1d;refine wpAnyH_ready (rs:=[14]) (by kernel_rfl) (by simp) ?_
  refine AllReadyH.cons rfl (fun K hK => ?_) AllReadyH.nil;rw [if_pos (by rfl)];go_simp
  go_at_call 110
  refine HSC.out.mono ?_;rintro e w6 ⟨v6,rfl,ho6,hr6,hu6⟩;obtain ⟨F6,ht6,hv6,hf6,-⟩:=HL4.out w6 _ _ hr6 hu6;obtain ⟨e1,e2⟩:=HFC.out (by trivial);have hlen:=HLL.out e1
  replace ho6:w6.ownsRow w5.drew.heap.size 9 1 v6 (finN z.s).length (namesV (finN z.s)):=by
   rw [hlen,e1];exact ho6
  obtain ⟨a6,c6,rfl,hbe6⟩:=beside_off (G:=(wb :: E)++F6) ho6 (fun k hk hk'=>by
   have hkX:w5.drew.heap.size<=k:=(ho6.lt k (Option.mem_toList.1 hk')).1;have hkY:w5.drew.heap.size=w5.heap.size:=rfl
   rcases List.mem_append.1 hk with hk | hk
   ·have:=HT5.out.lt k (List.mem_append_left _ hk);omega
   ·rcases hf6 k hk with hk | hk
    ·have:=HT5.out.lt k (List.mem_append_right _ hk);omega
    ·have:=List.mem_singleton.1 hk
     have:=l2.lt lb (by obtain ⟨_,_,_,_,_,_,_,_,_,_,hF⟩:=l2;rw [hF];simp)
     omega)
  have hse:T2.setS cl ⟨(leaveS z.s).setL [],none⟩=T3:=by rw [e2];exact HT3.out
  have ht6':TurnAt c ad w6 tb T3 (wb :: E) F6:=by rw [<- hse];exact ht6
  have HT6:=hyd ht6';have hu6':Upd F4 F6 w5 w6:=Upd.pre (Below.refl _ _).drew hv6;have HX6:=hyd (HX5.out.upd (hu6'.ext (wb :: E)));have HI6:=hyd (HI5.out.upd (hu6'.ext (wb :: E)));have HQ6:=hyd (HQ5.out.upd (hu6'.ext (wb :: E)));have HWX6:=hyd ((hu6'.1.block wb (Array.getElem?_eq_some_iff.1 HWX.out).1 (HT5.out.ext wb (by simp)).2).trans HWX.out);have HU6:=hyd (HU5.out.trans' hu6');have HBE6:=hyd hbe6;have HSP6:=hyd (HSP.out w6 HX6.out.2.2 (HS3.out w6 _ _ ht6'));clear ho6 hr6 hu6 ht6 hv6 hf6 hbe6 hlen hse ht6' hu6' e1 e2 l2;refine hK.out _ _ HSP6.out (fun hHeld => ?_);refine wpAnyH_ready (rs:=[15]) (by kernel_rfl) (by simp) ?_;refine AllReadyH.cons rfl (fun K hK => ?_) AllReadyH.nil;rw [if_pos (by rfl)];go_simp
  go_at_call 109
  refine (HHU.out w6 _ _ a6 c6 HT6.out (HBA.out.upd HU6.out) HBE6.out).mono ?_;rintro e w7 ⟨rfl,F7,ht7,hu7⟩;have HX7:=hyd (HX6.out.upd (hu7.ext (wb :: E)));have HI7:=hyd (HI6.out.upd (hu7.ext (wb :: E)));have HQ7:=hyd (HQ6.out.upd (hu7.ext (wb :: E)));have hwx7:=(hu7.1.block wb (Array.getElem?_eq_some_iff.1 HWX6.out).1 (HT6.out.ext wb (by simp)).2).trans HWX6.out;have HU7:=hyd (HU6.out.trans' hu7);have HT7:=hyd ht7;have HSP7:=hyd (HSP.out w7 HX7.out.2.2 (HS4.out w7 _ _ ht7));clear ht7 hu7;refine hK.out _ _ HSP7.out (fun hHeld => ?_);refine tA 16 (h:=tA 17 (h:=?_));simp only [tks];rw [<- hWL] at hwx7;have c27:w7.cell? ⟨wb,27,none⟩=some (.int .i64 0):=by rw [cell_of_row _ _ 27 _ _ _ hwx7];rfl
  have f27:=frozen_of_row w7 _ 27 _ _ hwx7;have hx9:=wait_left hwx7 (hubsK c (finN z.s):Nat);have hm9:Mod [wb] w7 (w7.setCell ⟨wb,27,none⟩ (.int .i64 (hubsK c (finN z.s):Nat))):=(Mod.refl _ _).setCell (.inl (by simp)) _;have HM9:=hyd hm9;have HX9:=hyd hx9;clear hwx7 hm9 hx9;refine wpAnyH_ready (rs:=[18]) (by kernel_rfl) (by simp) ?_;refine AllReadyH.cons rfl (fun K hK => ?_) AllReadyH.nil;rw [if_pos (by rfl)];go_simp;clear c27 f27;generalize w7.setCell ⟨wb,27,none⟩ (.int .i64 (hubsK c (finN z.s):Nat))=w9 at *;have HSP9:=hyd (HSP.out w9 ((HM9.out.block _ HX7.out.2.1 (fun e=>HX7.out.1 (by rw [List.mem_singleton.1 e];simp))).trans HX7.out.2.2) (HS4.out w9 _ _ (HT7.out.wrote HM9.out (fun k hk=>by rw [List.mem_singleton.1 hk];simp))));refine hK.out _ _ HSP9.out (fun hHeld => ?_);refine wpAnyH_done (by kernel_rfl) ?_ _;clear hHeld;have c30:w9.cell? ⟨wb,30,none⟩=some .nilFunc:=by rw [cell_of_row _ _ 30 _ _ _ HX9.out];rfl
  have f30:=frozen_of_row w9 _ 30 _ _ HX9.out;obtain ⟨dv,hdv⟩:∃ dv:Value,.func (.func 111) #[] #[.pointer (some ⟨b1,0,none⟩),.pointer (some ⟨w.heap.size,0,none⟩)]=dv:=⟨_,rfl⟩;have hxa:=wait_done HX9.out dv;have hma:Mod [wb] w7 (w9.setCell ⟨wb,30,none⟩ dv):=HM9.out.trans ((Mod.refl [wb] w9).setCell (.inl (by simp)) dv) (fun k hk => .inl hk);have HXA:=hyd hxa;have HMA:=hyd hma;have HDV:=hyd hdv;clear hxa hma hdv
  go_upto_region 8 with fail
  clear c30 f30;rw [HDV.out];generalize w9.setCell ⟨wb,30,none⟩ dv=wa at *;have huw:Upd ((wb :: E)++F7) ((wb :: E)++F7) w7 wa:=upd_in HMA.out (fun k hk=>by rw [List.mem_singleton.1 hk];simp);have HQA:=hyd (HQ7.out.upd huw);have HXX:=hyd (HX7.out.upd huw);have HIA:=hyd (HI7.out.upd huw);have hsub:∀ k ∈ F7,k ∈ (wb :: E)++F7:=fun k hk=>List.mem_append_right _ hk
  have HTA:Hid (TurnAt c ad wa tb T4 (wb :: E) F7):=hyd (HT7.out.wrote HMA.out (fun k hk=>by rw [List.mem_singleton.1 hk];simp));have HUA:=hyd (HU7.out.extra HMA.out (fun k hk=>by rw [List.mem_singleton.1 hk];exact HWB5.out));have HEA:=hyd (HE1.out wa (wb :: E) F7 b1 w.heap.size HTA.out (HQA.out.sub hsub) (HXX.out.sub hsub));clear huw hsub
  go_wp2_with fail
  rw [<- HDV.out] at HXA
  by_cases hk:hubsK c (finN z.s)=0
  ·have hx0:=HXA.out
   rw [hk] at hx0;refine (waits_fin tb (ad.seat cl) wb b1 w.heap.size wa x.op pkZ 9 ⟨#[]⟩ none (TDone c ad tb (wb :: E) F7 wa (doneFin c x true T4)) hx0 HEA.out).mono ?_;rintro e wc ⟨rfl,Fc,htc,huc⟩;have HD:Hid (TDone c ad tb E F w (endsT c z x T) wc):=hyd ⟨Fc,by rw [HEC.out (by trivial),if_pos hk];exact htc.less (fun k hk=>List.mem_cons_of_mem _ hk),HUA.out.trans' huc⟩;clear htc huc hx0
   go_wp2_with fail
   go_end0
   exact ⟨rfl,HD.out⟩
  ·refine (waits_some tb (ad.seat cl) wb wa x.op (hubsK c (finN z.s):Nat) pkZ 9 ⟨#[]⟩ none _ _ _ (by omega) HXA.out (HSH.out wa _ F7 HTA.out)).mono ?_
   rintro e wc ⟨rfl,rfl⟩;obtain ⟨Fc,htc,hmc,hfc⟩:=HBU.out wa wb b1 w.heap.size F7 HTA.out HWB5.out HXA.out HQA.out HXX.out HIA.out;have HD:Hid (TDone c ad tb E F w (endsT c z x T) (wa.setCell ⟨ad.seat cl,1,none⟩ (bxV wb))):=hyd ⟨Fc,by rw [HEC.out (by trivial),if_neg hk];exact htc,Upd.joinX HUA.out hmc hfc (fun k hk=>by rw [List.mem_singleton.1 hk];exact HWB5.out)⟩;clear htc hmc hfc
   go_wp2_with fail
   go_end0
   exact ⟨rfl,HD.out⟩
end
section
open Go Go.RowKit Go.Maps
theorem flow_many {w:World} {b:Nat} {f:HFlow} {T:TypeId} (h:w.heap[b]? = some (.cells (flowC f).toArray T (0,0))) (n:Int):(w.setCell ⟨b,26,none⟩ (.int .i64 n)).heap[b]? = some (.cells (flowC { f with many:=n }).toArray T (0,0)):=heap_setCell_same w b 26 _ _ (.int .i64 n) h
theorem flow_taken {w:World} {b:Nat} {f:HFlow} {T:TypeId} (h:w.heap[b]? = some (.cells (flowC f).toArray T (0,0))) (n:Int):(w.setCell ⟨b,27,none⟩ (.int .i64 n)).heap[b]? = some (.cells (flowC { f with taken:=n }).toArray T (0,0)):=heap_setCell_same w b 27 _ _ (.int .i64 n) h
theorem flow_c26 {w:World} {b:Nat} {f:HFlow} {T:TypeId} (h:w.heap[b]? = some (.cells (flowC f).toArray T (0,0))):w.cell? ⟨b,26,none⟩=some (.int .i64 f.many)/\w.cell? ⟨b,27,none⟩=some (.int .i64 f.taken):=⟨cell_of_row _ _ 26 _ _ _ h,cell_of_row _ _ 27 _ _ _ h⟩
section
variable {c:HCfg} {ad:HAd} {w w':World} {tb:Nat} {t:Tn} {v:TnV} {E:List Nat}
theorem TurnP.flowAt (h:TurnP c ad w tb t v E) {op:Int} {f:HFlow} (h0:t.flows.find? (fun f=>f.op == op)=some f):w.heap[v.fb op]? = some (.cells (flowC f).toArray 161 (0,0)):=by
 have hm:=List.mem_of_find?_eq_some h0;have hc:f.op=op:=by simpa using List.find?_some h0
 refine h.lies.at' (flowPc (v.fb op) f) ?_;unfold pcs restPcs;rw [<- hc];refine List.mem_cons_of_mem _ (List.mem_cons_of_mem _ (List.mem_cons_of_mem _ (List.mem_cons_of_mem _ (List.mem_cons_of_mem _ (List.mem_append_right _ (List.mem_map.2 ⟨f,hm,rfl⟩))))))
theorem TurnP.flowIn {op:Int} {f:HFlow} (h0:t.flows.find? (fun f=>f.op == op)=some f):v.fb op ∈ feet (pcs c ad tb v t):=by
 have hm:=List.mem_of_find?_eq_some h0;have hc:f.op=op:=by simpa using List.find?_some h0
 refine mem_feet.2 ⟨flowPc (v.fb op) f,?_,by simp [flowPc,cellPc]⟩;unfold pcs restPcs;rw [<- hc];refine List.mem_cons_of_mem _ (List.mem_cons_of_mem _ (List.mem_cons_of_mem _ (List.mem_cons_of_mem _ (List.mem_cons_of_mem _ (List.mem_append_right _ (List.mem_map.2 ⟨f,hm,rfl⟩))))))
theorem wo_split {op:Int} {f:HFlow} {S1 S2 l:List HFlow} (e:l=S1++f :: S2) (h1:∀ y ∈ S1,y.op ≠ op) (h2:∀ y ∈ S2,y.op ≠ op) (hf:f.op=op):withoutF op l=S1++S2:=by
 have g:∀ S:List HFlow,(∀ y ∈ S,y.op ≠ op)->(S.filter fun f=>f.op != op)=S:=fun S hS=>List.filter_eq_self.2 fun y hy=>by simpa using hS y hy
 unfold withoutF;rw [e,List.filter_append,List.filter_cons,if_neg (by simp [hf]),g S1 h1,g S2 h2]
theorem TurnP.flowOff (h:TurnP c ad w tb t v E) (hnd:(t.flows.map (·.op)).Nodup) {op:Int} {f:HFlow} (h0:t.flows.find? (fun f=>f.op == op)=some f):v.fb op ∉ feet (pcs c ad tb v { t with flows:=withoutF op t.flows }):=by
 obtain ⟨S1,S2,e,h1,h2,hf⟩:=flow_split hnd h0
 have e0:pcs c ad tb v t=([turnPc tb ad v.mv v.L,logPc ad.lg v.nv v.N t.ops,cellPc ad.hb (homeC c ad) 92, mapPc ad.ms t.seats.length (seatF ad t),imapPc ad.mf t.flows.length (flowF v.fb t)]++(t.seats.flatMap (fun z=>seatPcs c ad (v.sv z.s.client) z)++S1.map fun f=>flowPc (v.fb f.op) f))++([flowPc (v.fb op) f]++S2.map fun f=>flowPc (v.fb f.op) f):=by
  unfold pcs restPcs;generalize t.flows.length=n;rw [e,List.map_append,List.map_cons,hf];simp only [List.cons_append,List.append_assoc,List.nil_append]
 have e1:pcs c ad tb v { t with flows:=withoutF op t.flows } = ([turnPc tb ad v.mv v.L,logPc ad.lg v.nv v.N t.ops,cellPc ad.hb (homeC c ad) 92, mapPc ad.ms t.seats.length (seatF ad t),imapPc ad.mf (withoutF op t.flows).length (flowF v.fb { t with flows:=withoutF op t.flows })]++(t.seats.flatMap (fun z=>seatPcs c ad (v.sv z.s.client) z)++S1.map fun f=>flowPc (v.fb f.op) f))++S2.map fun f=>flowPc (v.fb f.op) f:=by
  unfold pcs restPcs;dsimp only;have e2:(withoutF op t.flows).map (fun f=>flowPc (v.fb f.op) f)=S1.map (fun f=>flowPc (v.fb f.op) f)++S2.map fun f=>flowPc (v.fb f.op) f:=by rw [wo_split e h1 h2 hf,List.map_append]
  rw [e2];simp only [List.cons_append,List.append_assoc,List.nil_append]
  rfl
 have hL:=h.lies;rw [e0] at hL;have hoff:=off_feet.1 (List.pairwise_append.1 hL.off).2.2;have hoff2:=off_feet.1 (List.pairwise_append.1 hL.right.off).2.2;intro hk;rw [e1,feet_app] at hk;have hin:v.fb op ∈ feet [flowPc (v.fb op) f]:=by simp [feet,flowPc,cellPc]
 rcases List.mem_append.1 hk with hk | hk
 ·exact hoff _ hk (by rw [feet_app];exact List.mem_append_left _ hin)
 ·exact hoff2 _ hin hk
end
theorem wo_setF (op:Int) (g:HFlow) (hg:g.op=op) (t:Tn):withoutF op (t.setF op g).flows=withoutF op t.flows:=by
 unfold withoutF Tn.setF;dsimp only;rw [List.filter_map]
 have:∀ l:List HFlow,((l.filter ((fun f:HFlow=>f.op != op) ∘ fun y=>if y.op=op then g else y)).map fun y=>if y.op=op then g else y)=l.filter fun f=>f.op != op:=by
  intro l
  induction l with
  | nil=>rfl
  | cons y r ih =>
   by_cases e:y.op=op
   ·rw [List.filter_cons,List.filter_cons,if_neg (by simp [e,hg]),if_neg (by simp [e]),ih]
   ·rw [List.filter_cons,List.filter_cons,if_pos (by simp [e]),if_pos (by simpa using e),List.map_cons,if_neg e,ih]
 exact this _
end
section
open Go Go.RowKit Go.Maps
theorem item_many {X:World} {b:Nat} {x:Item} {T:TypeId} (h:X.heap[b]? = some (.cells x.cells.toArray T (0,0))):X.cell? ⟨b,37,none⟩=some (.int .i64 x.many):=cell_of_row _ _ 37 _ _ _ h
theorem mf_in {c:HCfg} {ad:HAd} {tb:Nat} {v:TnV} {t:Tn}:ad.mf ∈ feet (pcs c ad tb v t):=mem_feet.2 ⟨imapPc ad.mf t.flows.length (flowF v.fb t),by simp [pcs,restPcs],by simp [imapPc]⟩
set_option maxRecDepth 100000
set_option maxHeartbeats 4000000
theorem counted_none (c:HCfg) (ad:HAd) (tb:Nat) (T:Tn) (E F:List Nat) (w:World) (x:Item) (h:TurnAt c ad w tb T E F) (hx:ItOk x) (h0:T.flows.find? (fun f=>f.op == x.op)=none) :
  Calls Tryz.prog 45 #[.pointer (some ⟨tb,0,none⟩),.agg x.cells.toArray] w fun e w'=>e = .returned (.tuple #[])/\TDone c ad tb E F w (countedT c x T) w':=by
 have HE:Hid (countedT c x T=T):=hyd (by unfold countedT;rw [h0]);obtain ⟨W,hW⟩:∃ W,w.alloc (.cells x.cells.toArray 44)=W:=⟨_,rfl⟩;have hb1:Below w.heap.size w W:=by rw [<- hW];exact low_alloc _ _
 have hx1:W.heap[w.heap.size]? = some (.cells x.cells.toArray 44 (0,0)):=by rw [<- hW];exact heap_alloc_new w _
 have hlk:∃ v,TurnP c ad W.drew tb T v E/\(Instr.lookup 90 (.map (some ad.mf)) (.int .i64 x.op) false).run Tryz.prog W.drew = .ok (.pointer none) W.drew:=by
  obtain ⟨v,hP,-⟩:=h.below hb1.drew;refine ⟨v,hP,?_⟩;rw [hP.flows.look hx.op];unfold flowF;rw [h0]
  rfl
 have HL:Hid ((Instr.lookup 90 (.map (some ad.mf)) (.int .i64 x.op) false).run Tryz.prog W.drew = .ok (.pointer none) W.drew):=hyd hlk.choose_spec.2;obtain ⟨t0,-,-,-,-,t7⟩:=(h.below hb1.drew).cells;have q1:W.drew.cell? ⟨w.heap.size,1,none⟩=some (.int .i64 x.op):=cell_of_row W.drew _ 1 _ _ _ hx1;have HD:Hid (TDone c ad tb E F w (countedT c x T) W.drew):=hyd ⟨F,by rw [HE.out];exact h.below hb1.drew,Upd.of_below hb1.drew⟩;have HW:=hyd hW;clear h hx h0 hW hb1 hx1 hlk;generalize x.cells=IL at *
 go_enter Tryz.func45, Tryz.ntmps45
 go_upto_region 1 with fail
 rw [HW.out];refine wp_region_held_drew (S:=fun X=>X.cell? ⟨tb,0,none⟩=some (.pointer (some ⟨ad.hb,0,none⟩))/\X.cell? ⟨ad.hb,7,none⟩=some (.map (some ad.mf))/\X.cell? ⟨w.heap.size,1,none⟩=some (.int .i64 x.op)/\(Instr.lookup 90 (.map (some ad.mf)) (.int .i64 x.op) false).run Tryz.prog X = .ok (.pointer none) X) (by kernel_rfl) ⟨t0,t7,q1,HL.out⟩ (fun hHeld => ?_);clear t0 t7 q1;refine tA 0 (h:=tA 1 (h:=tA 2 (h:=tA 3 (h:=tA 4 (h:=tA 5 (h:=tA 6 (h:=tA 7 (h:=tA 8 (h:=?_)))))))));simp only [tks];refine tk 9 (v:=.pointer none) ?_ hHeld ?_;· (intro w0 hS0;(try dsimp only at hS0);go_simp)
 simp only [tks];refine tA 10 (h:=?_);simp only [tks];refine wpAnyH_done (by kernel_rfl) ?_ _;clear hHeld;generalize W.drew=w2 at *
 go_wp2_with fail
 (try simp only [Exit.inBlock,Exit.then])
 refine bodyPost_ret (results_none rfl _ _ _) rfl ?_;exact ⟨rfl,HD.out⟩
theorem counted_facts (c:HCfg) (ad:HAd) (tb:Nat) (T:Tn) (E:List Nat) (x:Item) (f:HFlow) (W:World) (v:TnV) (hP:TurnP c ad W tb T v E) (hok:HOk T) (hn1:1<=c.n) (hn2:c.n<=64) (h0:T.flows.find? (fun f=>f.op == x.op)=some f) (hn:T.mails.length+1<=100000) (hnn:T.notes.length<=100000) :
  ∀ w2,w2.heap[v.fb x.op]? = some (.cells (flowC (countF x f)).toArray 161 (0,0))->Mod [v.fb x.op] W w2 →
   (∃ F2,TurnAt c ad w2 tb (T.setF x.op (countF x f)) E F2/\Upd (feet (pcs c ad tb v T)) F2 W w2) ∧
   ∃ D:DataW Unit,w2.ownsMap Tryz.prog 3 ptrElem ad.mf (Maps.size D) D ∧
    ∀ w3 n',w3.ownsMap Tryz.prog 3 ptrElem ad.mf n' (D.del (.int .i64 x.op))->Mod [ad.mf] w2 w3->i64R x.op->(countF x f).taken=(countF x f).many →
     ∃ F3,TurnAt c ad w3 tb { T with flows:=withoutF x.op T.flows } E F3/\Upd (feet (pcs c ad tb v T)) F3 W w3 ∧
      Calls Tryz.prog 74 #[.pointer (some ⟨tb,0,none⟩),.int .i64 x.op,.pointer (some ⟨v.fb x.op,0,none⟩)] w3 fun e w'=>e = .returned (.tuple #[])/\TDone c ad tb E F3 w3 (countedT c x T) w':=by
 intro w2 hc hm;have ho:f.op=x.op:=by simpa using List.find?_some h0
 have hfm:=List.mem_of_find?_eq_some h0;obtain ⟨g1,g2,g3,g4⟩:=countF_is x f;have hgo:(countF x f).op=x.op:=g1.trans ho;obtain ⟨k1,k2⟩:=hP.flowTurn hok.fnd h0 hgo hc hm;refine ⟨⟨_,⟨_,k1,rfl⟩,k2⟩,?_⟩;obtain ⟨D,hD1,hD2,hD3⟩:=k1.flows;refine ⟨D,hD1,fun w3 n' hown hm3 hop heq => ?_⟩
 have hnd':((T.setF x.op (countF x f)).flows.map (·.op)).Nodup:=by
  have:(T.setF x.op (countF x f)).flows.map (·.op)=T.flows.map (·.op):=by
   unfold Tn.setF;dsimp only;rw [List.map_map];refine List.map_congr_left fun y hy => ?_
   simp only [Function.comp]
   split
   ·rename_i e;rw [hgo,e]
   ·rfl
  rw [this];exact hok.fnd
 have hfind:(T.setF x.op (countF x f)).flows.find? (fun f=>f.op == x.op)=some (countF x f):=by
  obtain ⟨S1,S2,e,h1,h2,hf⟩:=flow_split hok.fnd h0;unfold Tn.setF;dsimp only;rw [e,List.map_append,List.map_cons,if_pos hf,List.find?_append]
  have:(S1.map fun y=>if y.op=x.op then countF x f else y).find? (fun f=>f.op == x.op)=none:=by
   rw [List.find?_eq_none];intro y hy;obtain ⟨y0,hy0,rfl⟩:=List.mem_map.1 hy;rw [if_neg (h1 y0 hy0)]
   simpa using h1 y0 hy0
  rw [this,List.find?_cons];simp [hgo]
 have him:=IMap.del hD1 hD2 hD3 hop (by unfold flowF;rw [hfind];rfl) hown
 have hlen:(withoutF x.op (T.setF x.op (countF x f)).flows).length=(T.setF x.op (countF x f)).flows.length - 1:=by
  have:=len_without (op:=x.op) hnd';rw [hfind] at this;simp at this;omega
 rw [<- hlen] at him;obtain ⟨q1,q2⟩:=k1.flowDel him hm3;have hoff:=k1.flowOff hnd' hfind
 have hT3:({ T.setF x.op (countF x f) with flows:=withoutF x.op (T.setF x.op (countF x f)).flows }:Tn) = { T with flows:=withoutF x.op T.flows }:=by
  rw [wo_setF _ _ hgo]
  rfl
 have hfb3:w3.heap[v.fb x.op]? = some (.cells (flowC (countF x f)).toArray 161 (0,0)):=by
  refine (hm3.block _ (Array.getElem?_eq_some_iff.1 hc).1 fun e => ?_).trans hc;refine hoff ?_;rw [List.mem_singleton.1 e];exact mf_in
 rw [hT3] at q1 q2 hoff;refine ⟨_,⟨_,q1,rfl⟩,k2.trans' q2,?_⟩
 have hE:countedT c x T=flowedT c (countF x f) { T with flows:=withoutF x.op T.flows }:=by
  unfold countedT;rw [h0];dsimp only;rw [if_pos heq]
 rw [hE];have hfl:=hok.flow f hfm
 have hcall:=flowed_any c ad tb { T with flows:=withoutF x.op T.flows } E _ w3 (countF x f) (v.fb x.op) ⟨_,q1,rfl⟩ (hok.delFlow x.op) hn1 hn2 (g4 hfl) ⟨hoff,(Array.getElem?_eq_some_iff.1 hfb3).1,hfb3⟩ (fun hc=>by
  obtain ⟨z,a1,-⟩:=hok.at' f hfm (by rw [<- g3];exact hc)
  exact ⟨z,by rw [g2];exact a1⟩) hn hnn
 rw [hgo] at hcall;exact hcall
theorem counted_some (c:HCfg) (ad:HAd) (tb:Nat) (T:Tn) (E F:List Nat) (w:World) (x:Item) (f:HFlow) (h:TurnAt c ad w tb T E F) (hok:HOk T) (hn1:1<=c.n) (hn2:c.n<=64) (hx:ItOk x) (h0:T.flows.find? (fun f=>f.op == x.op)=some f) (htk:-1000000<=f.taken/\f.taken<=1000000) (hn:T.mails.length+1<=100000) (hnn:T.notes.length<=100000) :
  Calls Tryz.prog 45 #[.pointer (some ⟨tb,0,none⟩),.agg x.cells.toArray] w fun e w'=>e = .returned (.tuple #[])/\TDone c ad tb E F w (countedT c x T) w':=by
 obtain ⟨W,hW⟩:∃ W,w.alloc (.cells x.cells.toArray 44)=W:=⟨_,rfl⟩;have hb1:Below w.heap.size w W:=by rw [<- hW];exact low_alloc _ _
 have hx1:W.heap[w.heap.size]? = some (.cells x.cells.toArray 44 (0,0)):=by rw [<- hW];exact heap_alloc_new w _
 have hlt:=h.lt;obtain ⟨v,hP,rfl⟩:=h.below hb1.drew;obtain ⟨fb,hfb⟩:∃ fb,v.fb x.op=fb:=⟨_,rfl⟩
 have hL:(Instr.lookup 90 (.map (some ad.mf)) (.int .i64 x.op) false).run Tryz.prog W.drew = .ok (.pointer (some ⟨fb,0,none⟩)) W.drew:=by
  rw [hP.flows.look hx.op];unfold flowF;rw [h0,<- hfb]
  rfl
 have hfc:=hP.flowAt h0;have hfin:v.fb x.op ∈ feet (pcs c ad tb v T):=TurnP.flowIn h0;have HCF:=hyd (counted_facts c ad tb T E x f W.drew v hP hok hn1 hn2 h0 hn hnn);rw [hfb] at HCF hfc hfin
 have HEN:Hid ((countF x f).taken ≠ (countF x f).many->countedT c x T=T.setF x.op (countF x f)):=hyd (fun hne=>by
  unfold countedT;rw [h0];dsimp only
  rw [if_neg hne])
 have HMF:Hid (ad.mf < w.heap.size):=hyd (hlt _ (List.mem_append_right _ mf_in));have HFBL:Hid (fb < w.heap.size):=hyd (hlt _ (List.mem_append_right _ hfin));obtain ⟨t0,-,-,-,-,t7⟩:=hP.cells;generalize hF:feet (pcs c ad tb v T)=F at *;have q1:W.drew.cell? ⟨w.heap.size,1,none⟩=some (.int .i64 x.op):=cell_of_row W.drew _ 1 _ _ _ hx1;have HIX:=hyd (fun (X:World) (hX:X.heap[w.heap.size]? = some (.cells x.cells.toArray 44 (0,0)))=>(show ItC X w.heap.size x/\X.cell? ⟨w.heap.size,0,none⟩=some (.int .u8 x.kind)/\X.cell? ⟨w.heap.size,37,none⟩=some (.int .i64 x.many) from ⟨itC hX,item_kind hX,item_many hX⟩));have HW:=hyd hW;have HB1:=hyd hb1.drew;have HX1:Hid (W.drew.heap[w.heap.size]? = some (.cells x.cells.toArray 44 (0,0))):=hyd hx1;have HOP:=hyd hx.op;have HFC:=hyd hfc;have HL:=hyd hL;have HKM:Hid (x.kind=10->countF x f = { f with many:=x.many }):=hyd (fun e=>by unfold countF;rw [if_pos e]);have HKT:Hid (x.kind ≠ 10->countF x f = { f with taken:=f.taken+1 }):=hyd (fun e=>by unfold countF;rw [if_neg e]);have hwr:IntKind.i64.wrap (f.taken+1)=f.taken+1:=w_i64 _ (by omega) (by omega);clear h hok hn1 hn2 hx h0 hn hnn hW hb1 hx1 hL hfc hfin hlt hP hfb hF htk;generalize x.cells=IL at *
 go_enter Tryz.func45, Tryz.ntmps45
 go_upto_region 1 with fail
 rw [HW.out];refine wp_region_held_drew (S:=fun X=>X.cell? ⟨tb,0,none⟩=some (.pointer (some ⟨ad.hb,0,none⟩))/\X.cell? ⟨ad.hb,7,none⟩=some (.map (some ad.mf))/\X.cell? ⟨w.heap.size,1,none⟩=some (.int .i64 x.op)/\(Instr.lookup 90 (.map (some ad.mf)) (.int .i64 x.op) false).run Tryz.prog X = .ok (.pointer (some ⟨fb,0,none⟩)) X) (by kernel_rfl) ⟨t0,t7,q1,HL.out⟩ (fun hHeld => ?_);clear t0 t7 q1;refine tA 0 (h:=tA 1 (h:=tA 2 (h:=tA 3 (h:=tA 4 (h:=tA 5 (h:=tA 6 (h:=tA 7 (h:=tA 8 (h:=?_)))))))));simp only [tks];refine tk 9 (v:=.pointer (some ⟨fb,0,none⟩)) ?_ hHeld ?_;· (intro w0 hS0;(try dsimp only at hS0);go_simp)
 simp only [tks];refine tA 10 (h:=?_);simp only [tks];refine wpAnyH_done (by kernel_rfl) ?_ _;clear hHeld HL;generalize W.drew=w1 at *;obtain ⟨-,q0,q37⟩:=HIX.out w1 HX1.out;obtain ⟨g26,g27⟩:=flow_c26 HFC.out;have f26:=frozen_of_row w1 _ 26 _ _ HFC.out;have f27:=frozen_of_row w1 _ 27 _ _ HFC.out
 by_cases hk:x.kind=10
 ·have HX2':=flow_many HFC.out x.many
  rw [<- HKM.out hk] at HX2';have HX2:=hyd HX2';have HM2:Hid (Mod [fb] w1 (w1.setCell ⟨fb,26,none⟩ (.int .i64 x.many))):=hyd ((Mod.refl _ _).setCell (.inl (by simp)) _);rw [hk] at q0;clear HX2' HKM HKT hk
  go_upto_region 6 with fail
  clear q0 q37 g26 g27 f26 f27 hwr;generalize w1.setCell ⟨fb,26,none⟩ (.int .i64 x.many)=w2 at *;have HC2:=hyd (HCF.out w2 HX2.out HM2.out);clear HCF;obtain ⟨⟨F2,ht2,hu2⟩,D,hD,hdel⟩:=HC2.out;have HT2:=hyd ht2;have HU2:=hyd (Upd.pre HB1.out hu2);have HD:=hyd hD;have HDE:=hyd hdel;have HXI:=hyd ((HM2.out.block w.heap.size (Array.getElem?_eq_some_iff.1 HX1.out).1 (fun e=>by have:=List.mem_singleton.1 e;have:=HFBL.out;omega)).trans HX1.out);clear ht2 hu2 hD hdel HC2;obtain ⟨g26,g27⟩:=flow_c26 HX2.out;refine wp_region_held_drew (S:=fun X=>X.cell? ⟨fb,26,none⟩=some (.int .i64 (countF x f).many)/\X.cell? ⟨fb,27,none⟩=some (.int .i64 (countF x f).taken)) (by kernel_rfl) ⟨g26,g27⟩ (fun hHeld => ?_);refine tA 0 (h:=tA 1 (h:=tA 2 (h:=tA 3 (h:=tA 4 (h:=tA 5 (h:=tA 6 (h:=tA 7 (h:=tA 8 (h:=?_)))))))));simp only [tks];refine wpAnyH_done (by kernel_rfl) ?_ _;clear hHeld g26 g27
  by_cases heq:(countF x f).taken=(countF x f).many
  ·have hqd:((countF x f).taken == (countF x f).many)=true:=by simpa using heq
   have hdr:w2.drew.heap=w2.heap:=rfl;obtain ⟨t0,-,-,-,-,t7⟩:=(HT2.out.below (w':=w2.drew) (Below.refl _ _).drew).cells;have q1:=(HIX.out w2.drew HXI.out).1.op;have hownd:=HD.out.drew;have HTD:=hyd (HT2.out.below (w':=w2.drew) (Below.refl _ _).drew);have HXD:Hid (w2.drew.heap[w.heap.size]? = some (.cells IL.toArray 44 (0,0))):=HXI
   have HDD:Hid (∀ w3 n',w3.ownsMap Tryz.prog 3 ptrElem ad.mf n' (D.del (.int .i64 x.op))->Mod [ad.mf] w2.drew w3 -> ∃ F3,TurnAt c ad w3 tb { T with flows:=withoutF x.op T.flows } E F3/\Upd F F3 w w3/\Calls Tryz.prog 74 #[.pointer (some ⟨tb,0,none⟩),.int .i64 x.op,.pointer (some ⟨fb,0,none⟩)] w3 fun e w'=>e = .returned (.tuple #[])/\TDone c ad tb E F3 w3 (countedT c x T) w'):=hyd (fun w3 n' ho hm=>by
    obtain ⟨F3,a1,a2,a3⟩:=HDE.out w3 n' ho ⟨hm.os,hm.tape,hm.output,hm.size,hm.block⟩ HOP.out heq
    exact ⟨F3,a1,Upd.pre HB1.out a2,a3⟩)
   clear hdr HDE HXI HD HT2 HU2 heq;generalize w2.drew=w4 at *
   go_upto_region 7 with fail
   clear hqd
   go_still_tail 9,(by kernel_rfl)
   change wpList _ _ _ _ _ w4.drew;have hown3:=hownd.drew;have hkey:=ikey HOP.out
   go_upto_region 8 with (first | (at_delete;refine wpList_delete_own _ rfl _ _ 90 3 rfl 159 kI Tryz.underlying90 _ ad.mf _ _ rfl hown3 _ _ rfl hkey ?_;intro w3 hown4 hturn4;have HOW4:=hyd hown4;have HTU4:=hyd hturn4;clear hown4 hturn4) | fail)
   have hm3:Mod [ad.mf] w4 w3:=(Mod.refl _ _).drew.grown HTU4.out.grown (fun k hk => .inl (by simpa using hk.symm));obtain ⟨F3,ht3,hu3,hcall⟩:=HDD.out w3 _ HOW4.out hm3;have HX3:=hyd ((hm3.block w.heap.size (Array.getElem?_eq_some_iff.1 HXD.out).1 (fun e=>by have:=List.mem_singleton.1 e;have:=HMF.out;omega)).trans HXD.out);have HCA:=hyd hcall;have HU3:=hyd hu3;clear t0 t7 q1 hownd hown3 hkey ht3 hu3 hcall hm3;have q1:=(HIX.out w3 HX3.out).1.op
   go_wp2_with fail
   refine HCA.out.mono ?_;rintro e w5 ⟨rfl,F5,ht5,hu5⟩;have HDN:Hid (TDone c ad tb E F w (countedT c x T) w5):=hyd ⟨F5,ht5,HU3.out.trans' hu5⟩;clear ht5 hu5 q1
   go_wp2_with fail
   go_end0
   exact ⟨rfl,HDN.out⟩
  ·have hqd:((countF x f).taken == (countF x f).many)=false:=by simpa using heq
   have HDN:Hid (TDone c ad tb E F w (countedT c x T) w2.drew):=hyd ⟨F2,by rw [HEN.out heq];exact HT2.out.below (Below.refl _ _).drew,HU2.out.next (Below.refl _ _).drew⟩;clear heq;generalize w2.drew=w4 at *
   go_wp2_with fail
   go_end0
   exact ⟨rfl,HDN.out⟩
 ·have HX2':=flow_taken HFC.out (f.taken+1)
  rw [<- HKT.out hk] at HX2';have HX2:=hyd HX2';have HM2:Hid (Mod [fb] w1 (w1.setCell ⟨fb,27,none⟩ (.int .i64 (f.taken+1)))):=hyd ((Mod.refl _ _).setCell (.inl (by simp)) _);have hkq:(x.kind == 10)=false:=by simpa using hk
  clear HX2' HKM HKT hk
  go_upto_region 6 with fail
  clear q0 q37 g26 g27 f26 f27 hkq;generalize w1.setCell ⟨fb,27,none⟩ (.int .i64 (f.taken+1))=w2 at *;have HC2:=hyd (HCF.out w2 HX2.out HM2.out);clear HCF;obtain ⟨⟨F2,ht2,hu2⟩,D,hD,hdel⟩:=HC2.out;have HT2:=hyd ht2;have HU2:=hyd (Upd.pre HB1.out hu2);have HD:=hyd hD;have HDE:=hyd hdel;have HXI:=hyd ((HM2.out.block w.heap.size (Array.getElem?_eq_some_iff.1 HX1.out).1 (fun e=>by have:=List.mem_singleton.1 e;have:=HFBL.out;omega)).trans HX1.out);clear ht2 hu2 hD hdel HC2;obtain ⟨g26,g27⟩:=flow_c26 HX2.out;refine wp_region_held_drew (S:=fun X=>X.cell? ⟨fb,26,none⟩=some (.int .i64 (countF x f).many)/\X.cell? ⟨fb,27,none⟩=some (.int .i64 (countF x f).taken)) (by kernel_rfl) ⟨g26,g27⟩ (fun hHeld => ?_);refine tA 0 (h:=tA 1 (h:=tA 2 (h:=tA 3 (h:=tA 4 (h:=tA 5 (h:=tA 6 (h:=tA 7 (h:=tA 8 (h:=?_)))))))));simp only [tks];refine wpAnyH_done (by kernel_rfl) ?_ _;clear hHeld g26 g27
  by_cases heq:(countF x f).taken=(countF x f).many
  ·have hqd:((countF x f).taken == (countF x f).many)=true:=by simpa using heq
   have hdr:w2.drew.heap=w2.heap:=rfl;obtain ⟨t0,-,-,-,-,t7⟩:=(HT2.out.below (w':=w2.drew) (Below.refl _ _).drew).cells;have q1:=(HIX.out w2.drew HXI.out).1.op;have hownd:=HD.out.drew;have HTD:=hyd (HT2.out.below (w':=w2.drew) (Below.refl _ _).drew);have HXD:Hid (w2.drew.heap[w.heap.size]? = some (.cells IL.toArray 44 (0,0))):=HXI
   have HDD:Hid (∀ w3 n',w3.ownsMap Tryz.prog 3 ptrElem ad.mf n' (D.del (.int .i64 x.op))->Mod [ad.mf] w2.drew w3 -> ∃ F3,TurnAt c ad w3 tb { T with flows:=withoutF x.op T.flows } E F3/\Upd F F3 w w3/\Calls Tryz.prog 74 #[.pointer (some ⟨tb,0,none⟩),.int .i64 x.op,.pointer (some ⟨fb,0,none⟩)] w3 fun e w'=>e = .returned (.tuple #[])/\TDone c ad tb E F3 w3 (countedT c x T) w'):=hyd (fun w3 n' ho hm=>by
    obtain ⟨F3,a1,a2,a3⟩:=HDE.out w3 n' ho ⟨hm.os,hm.tape,hm.output,hm.size,hm.block⟩ HOP.out heq
    exact ⟨F3,a1,Upd.pre HB1.out a2,a3⟩)
   clear hdr HDE HXI HD HT2 HU2 heq;generalize w2.drew=w4 at *
   go_upto_region 7 with fail
   clear hqd
   go_still_tail 9,(by kernel_rfl)
   change wpList _ _ _ _ _ w4.drew;have hown3:=hownd.drew;have hkey:=ikey HOP.out
   go_upto_region 8 with (first | (at_delete;refine wpList_delete_own _ rfl _ _ 90 3 rfl 159 kI Tryz.underlying90 _ ad.mf _ _ rfl hown3 _ _ rfl hkey ?_;intro w3 hown4 hturn4;have HOW4:=hyd hown4;have HTU4:=hyd hturn4;clear hown4 hturn4) | fail)
   have hm3:Mod [ad.mf] w4 w3:=(Mod.refl _ _).drew.grown HTU4.out.grown (fun k hk => .inl (by simpa using hk.symm));obtain ⟨F3,ht3,hu3,hcall⟩:=HDD.out w3 _ HOW4.out hm3;have HX3:=hyd ((hm3.block w.heap.size (Array.getElem?_eq_some_iff.1 HXD.out).1 (fun e=>by have:=List.mem_singleton.1 e;have:=HMF.out;omega)).trans HXD.out);have HCA:=hyd hcall;have HU3:=hyd hu3;clear t0 t7 q1 hownd hown3 hkey ht3 hu3 hcall hm3;have q1:=(HIX.out w3 HX3.out).1.op
   go_wp2_with fail
   refine HCA.out.mono ?_;rintro e w5 ⟨rfl,F5,ht5,hu5⟩;have HDN:Hid (TDone c ad tb E F w (countedT c x T) w5):=hyd ⟨F5,ht5,HU3.out.trans' hu5⟩;clear ht5 hu5 q1
   go_wp2_with fail
   go_end0
   exact ⟨rfl,HDN.out⟩
  ·have hqd:((countF x f).taken == (countF x f).many)=false:=by simpa using heq
   have HDN:Hid (TDone c ad tb E F w (countedT c x T) w2.drew):=hyd ⟨F2,by rw [HEN.out heq];exact HT2.out.below (Below.refl _ _).drew,HU2.out.next (Below.refl _ _).drew⟩;clear heq;generalize w2.drew=w4 at *
   go_wp2_with fail
   go_end0
   exact ⟨rfl,HDN.out⟩
end
section
open Go Go.RowKit Go.Maps
set_option maxRecDepth 100000
set_option maxHeartbeats 4000000
theorem unsub_any (w0:World) (hK:Keeps w0) (c:HCfg) (ad:HAd) (tb:Nat) (T:Tn) (E F:List Nat) (w:World) (cl:ByteArray) (z:HSeat) (x:Item) (h:TurnAt c ad w tb T E F) (hB:Base w0 w F) (hok:HOk T) (hn1:1<=c.n) (hn2:c.n<=64) (h0:T.seat cl=some z) (hbz:z.busy=none)
  (hx:ItOk x) (hib:ItB w (E++F) x) (hn:T.mails.length+7000<=100000) (hnn:T.notes.length+2<=100000) :
  Calls Tryz.prog 65 #[.pointer (some ⟨tb,0,none⟩),.pointer (some ⟨ad.seat cl,0,none⟩),.agg x.cells.toArray] w fun e w'=>e = .returned (.tuple #[])/\TDone c ad tb E F w (unsubscribeT c z x T) w':=by
 have hzc:=(seat_at h0).2;have hs:=(hok.seat z (seat_at h0).1).s;obtain ⟨xs,hxs⟩:∃ xs,x.pk.subs=xs:=⟨_,rfl⟩;have hxl:xs.length<=100:=hxs ▸ hx.pk.nsubs;have hxm:∀ y ∈ xs,y.1.length<=1000/\u8R y.2:=hxs ▸ hx.pk.subs;obtain ⟨G,hG⟩:∃ G:Nat->List Str × List SubE,∀ k,goneGo (xs.take k) z.s.l []=G k:=⟨_,fun _=>rfl⟩;have hG0:G 0=([],z.s.l):=by rw [<- hG];rfl
 have hGs:∀ k (hk:k < xs.length),G (k+1)=((if hasE xs[k].1 (G k).2 then (G k).1 ++ [xs[k].1] else (G k).1),delE xs[k].1 (G k).2):=fun k hk=>by
  rw [<- hG,<- hG,List.take_succ_eq_append_getElem hk,gone_snoc]
 have hGl:∀ k,LOk (G k).2:=fun k=>by rw [<- hG];exact LOk.gone _ hs.lok
 have hGn:∀ k,(G k).1.length<=k:=fun k=>by
  have:=gone_len (xs.take k) z.s.l [];rw [hG] at this;simp at this;omega
 have hGf:∀ k,∀ f ∈ (G k).1,f.length<=1000000:=fun k f hf=>by
  rw [<- hG] at hf
  rcases gone_mem _ _ _ hf with hf | ⟨y,hy,rfl⟩
  ·cases hf
  ·have:=(hxm y (List.mem_of_mem_take hy)).1;omega
 obtain ⟨TK,hTK⟩:∃ TK:Nat->Tn,∀ k,T.setS cl ⟨z.s.setL (G k).2,none⟩=TK k:=⟨_,fun _=>rfl⟩;have hokK:∀ k,HOk (TK k):=fun k=>hTK k ▸ hok.set0 h0 (by rw [hbz];rfl) rfl (SeOk.idle (hs.setL (hGl k)))
 have hsK:∀ k,(TK k).seat cl=some ⟨z.s.setL (G k).2,none⟩:=fun k=>by rw [<- hTK];exact seat_setS' h0 hzc
 have hT0:TK 0=T:=by
  rw [<- hTK,hG0];have:(⟨z.s.setL z.s.l,none⟩:HSeat)=z:=by rw [<- hbz];rfl
  rw [this];exact setS_self hok.nd h0
 have HTS:=hyd (fun k (hk:k < xs.length)=>show (TK k).setS cl ⟨(z.s.setL (G k).2).setL (delE xs[k].1 (G k).2),none⟩=TK (k+1) by
  rw [<- hTK,<- hTK,setS_twice (by exact hzc),hGs k hk]
  rfl)
 have hlK:∀ k,(TK k).mails.length=T.mails.length/\(TK k).notes.length=T.notes.length:=fun k=>by rw [<- hTK];exact ⟨rfl,rfl⟩
 obtain ⟨fs,hfs⟩:∃ fs,(G xs.length).1=fs:=⟨_,rfl⟩;obtain ⟨T1,hT1⟩:∃ T1,TK xs.length=T1:=⟨_,rfl⟩;obtain ⟨s1,hs1⟩:∃ s1,z.s.setL (G xs.length).2=s1:=⟨_,rfl⟩;have h1s:T1.seat cl=some ⟨s1,none⟩:=by rw [<- hT1,<- hs1];exact hsK _
 have hok1:HOk T1:=hT1 ▸ hokK _;obtain ⟨n1,hn1e⟩:∃ n1,noteP 2 x.op x.conn x.client x.pk.bare=n1:=⟨_,rfl⟩;obtain ⟨T2,hT2⟩:∃ T2,hubsT c (itK 6 x.op x.client) fs (T1.note n1)=T2:=⟨_,rfl⟩;have ssf2:SSF T1 T2:=hT2 ▸ (ssf_note _ _).trans (ssf_hubs _ _ _ _);have hok2:HOk T2:=hok1.same ssf2;have h2s:T2.seat cl=some ⟨s1,none⟩:=(ssf2.seat cl).trans h1s;have hfsl:fs.length<=100:=by rw [<- hfs];exact Nat.le_trans (hGn _) hxl
 have hfsm:∀ f ∈ fs,f.length<=1000000:=by rw [<- hfs];exact hGf _
 have hm1:T1.mails.length=T.mails.length/\T1.notes.length=T.notes.length:=by rw [<- hT1];exact hlK _
 have hhk:=hubsK_cap c hn1 hn2 fs;have gr2:=gr_hubs (c:=c) (t:=T1.note n1) (itK 6 x.op x.client) fs;rw [hT2] at gr2
 have hm2:T2.mails.length<=T.mails.length+6400:=by
  have h9:=gr2.m;have h10:(T1.note n1).mails.length=T1.mails.length:=rfl;omega
 have hnt2:T2.notes.length<=T.notes.length+1:=by
  have h9:=gr2.n;have h10:(T1.note n1).notes.length=T1.notes.length+1:=by simp [Tn.note]
  omega
 have HE:Hid (unsubscribeT c z x T=if hubsK c fs=0 then doneUns c x T2 else T2.setS cl ⟨s1,some (.uns x,hubsK c fs)⟩):=hyd (by
  unfold unsubscribeT;dsimp only;have hGf:goneGo xs z.s.l []=G xs.length:=by rw [<- hG,List.take_length]
  rw [hzc,hbz,hxs,hGf,hfs,hs1];have:T.setS cl ⟨s1,none⟩=T1:=by rw [<- hT1,<- hTK,hs1]
  rw [this,hn1e,hT2])
 have HLS:=hyd (fun X E' G' k (hX:TurnAt c ad X tb (TK k) E' G')=>hX.lists (hokK k) (hsK k));have HSC:=hyd (fun X E' G' k (hX:TurnAt c ad X tb (TK k) E' G')=>(hX.seatCells (hsK k)).1);have HNO:=hyd (fun X E' G' (hX:TurnAt c ad X tb T1 E' G') (hb:Beside X (E'++G') x.pk.subsA (subsV x.pk.subs))=>note_any c ad tb T1 E' G' X (noteP 2 x.op x.conn x.client x.pk) n1 x.pk.subsA x.pk.subsC hX (by rw [<- hn1e];rfl) (by rw [<- hn1e];exact hb) (by rw [<- hn1e];have:=hx.pk.nsubs;show x.pk.subs.length<=_;omega) (by omega));have HHU:=hyd (fun X E' G' a3 c3 (hX:TurnAt c ad X tb (T1.note n1) E' G') (hBX:Base w0 X G') (hb:Beside X (E'++G') a3 (namesV fs))=>thubs_any w0 hK.t c ad tb (T1.note n1) E' G' X (itK 6 x.op x.client) fs a3 c3 hX hBX hn1 hn2 rfl hb hfsm (by omega) (by show T1.mails.length+_<=_;omega));rw [hT2] at HHU;have HU1:=hyd (fun X E' G' b1 (hX:TurnAt c ad X tb T2 E' G') (q1:Stay X G' b1 x.cells 44)=>unsub1_any c ad tb T2 E' G' X x b1 hX hn1 hn2 q1 hx (by omega) (by omega))
 have HBU:=hyd (fun X wb b1 G' (hX:TurnAt c ad X tb T2 ([wb]++E) G') (hwb:w.heap.size<=wb) (hw:X.heap[wb]? = some (.cells (waitC x.op pkZ 9 (hubsK c fs:Nat) ⟨#[]⟩ none (.func (.func 122) #[] #[.pointer (some ⟨b1,0,none⟩)])).toArray 110 (0,0)))
   (q2:Stay X (([wb]++E)++G') b1 x.cells 44) (q4:ItB X (([wb]++E)++G') x) =>
  hX.busied (k:=.uns x) (left:=(hubsK c fs:Nat)) (v1:=⟨[],wb,b1,0,0,0,0⟩) hok2.nd h2s rfl (lies_one (cellPc_ok _ _ _) hw) (fun q hq=>by simpa [feet,wkPcs,cellPc] using hq) (fun q hq hqE=>by
   have:=h.lt q (List.mem_append_left _ hqE);have:=List.mem_singleton.1 hq
   omega) (show Caught X (([wb]++E)++G') ad ⟨[],wb,b1,0,0,0,0⟩ ⟨s1,none⟩ (.uns x) from ⟨q2,q4⟩))
 have HSH:=hyd (fun X E' G' (hX:TurnAt c ad X tb T2 E' G')=>hX.seatHeap h2s rfl);have HNB:=hyd (fun (_:Unit)=>built_noteD x.op x.conn x.client x.pk);have HWB:=hyd (fun (_:Unit)=>built_wait0 x.op 9);have HIB:=hyd (fun (_:Unit)=>built_item6 6 x.op x.client);have HPS:Hid ((Tryz.prog.info? 39).map (·.size)=some x.pk.cells.length):=hyd (pkt_size' x.pk);obtain ⟨W,hW⟩:∃ W,w.alloc (.cells x.cells.toArray 44)=W:=⟨_,rfl⟩;have hb1:Below w.heap.size w W:=by rw [<- hW];exact low_alloc _ _
 have hx1:W.heap[w.heap.size]? = some (.cells x.cells.toArray 44 (0,0)):=by rw [<- hW];exact heap_alloc_new w _
 have HIX:=hyd (fun (X:World) (hX:X.heap[w.heap.size]? = some (.cells x.cells.toArray 44 (0,0)))=>(show ItC X w.heap.size x/\X.rangeAt w.heap.size 5 x.pk.cells from ⟨itC hX,item_pk hX⟩));have HSX:Hid (Stay W (E++F) w.heap.size x.cells 44):=hyd (stay_low hx1 h.lt);have q24:W.cell? ⟨w.heap.size,27,none⟩=some (.slice x.pk.subsA xs.length x.pk.subsC):=by rw [cell_of_row _ _ 27 _ _ _ hx1,<- hxs];rfl
 have HT:Hid (TurnAt c ad W tb (TK 0) E F):=hyd (by rw [hT0];exact h.below hb1);have HI:Hid (ItB W (E++F) x):=hyd (hib.upd (Upd.of_below hb1));have HIS:Hid (∀ (X:World) (G':List Nat),ItB X G' x->Row X x.pk.subsA (subsV xs)):=hyd (fun X G' hi=>by rw [<- hxs];exact hi.1.row);have HW:=hyd hW;have HB1:=hyd hb1;have HBA:=hyd hB;have HLT:=hyd h.lt;have HG0:=hyd hG0;have HGS:=hyd hGs;have HGN:=hyd hGn;have HFS:=hyd hfs;have HT1:=hyd hT1;have HXL:=hyd hxl;clear h hB hok hn1 hn2 h0 hbz hx hib hn hnn hzc hs hxs hxl hxm hG hG0 hGs hGl hGn hGf hTK hokK hsK hT0 hlK hfs hT1 hs1 h1s hok1 hn1e hT2 ssf2 hok2 h2s hfsl hfsm hm1 hhk gr2 hm2 hnt2 hW hb1 hx1 hK;generalize hWL:waitC x.op pkZ 9 0 ⟨#[]⟩ none .nilFunc=WL at *;generalize (itK 6 x.op x.client).cells=IKL at *;generalize (noteP 2 x.op x.conn x.client x.pk).cells=NL at *;generalize hIL:x.cells=IL at *;generalize hPL:x.pk.cells=PL at *;generalize hSA:x.pk.subsA=sa at *
 go_enter Tryz.func65, Tryz.ntmps65
 go_upto_region 1 with fail
 rw [HW.out]
 go_wp2_with fail
 go_loopw [6,8,14] (fun g0 _ i wr => ∃ (k:Nat) (F':List Nat) (g:Value),g=g0/\i = .int .i64 k/\k<=xs.length/\wr.ownsRow W.heap.size 9 1 g (G k).1.length (namesV (G k).1)/\TurnAt c ad wr tb (TK k) (g.ownBlock.toList++E) F'/\Upd F F' w wr/\Stay wr ((g.ownBlock.toList++E)++F') w.heap.size IL 44 /\ ItB wr ((g.ownBlock.toList++E)++F') x/\W.heap.size<=wr.heap.size) (fun _ _ i _=>(xs.length - intOf i).toNat)
 case atStart=>exact ⟨0,F,_,rfl,rfl,Nat.zero_le _,by rw [HG0.out];exact World.ownsRow_nil _ _ _ _,HT.out,Upd.of_below HB1.out,HSX.out,HI.out,Nat.le_refl _⟩
 case round =>
  obtain ⟨k,F1,g,rfl,rfl,hk,hown,ht,hu,hsx,hit,hsz⟩:=hrel;have HK1:Hid (W.heap.size<=wr.heap.size):=hyd hsz;have HOW:=hyd hown;have HTR:=hyd ht;have HUR:=hyd hu;have HSR:=hyd hsx;have HIR:=hyd hit;clear hown ht hu hsx hit hsz
  by_cases hlt:k < xs.length
  ·have hk0:(0:Int)<=k:=by omega
   have hkl:(k:Int) < xs.length:=by omega
   obtain ⟨rb,off,rfl,c0,c1⟩:=subs_row (HIS.out wr _ HIR.out) hlt;have HGK:=hyd (HGS.out k hlt);have HTK:=hyd (HTS.out k hlt);generalize xs[k]=y at *;obtain ⟨yn,yq⟩:=y;dsimp only at *;have hw1:IntKind.i64.wrap ((k:Int)+1)=(k:Int)+1:=w_i64 _ (by omega) (by have:=HXL.out;omega)
   go_upto_region 5 with fail
   clear c0 c1;have hbx:=low_alloc wr (.cells #[Value.string ⟨yn.toArray⟩,.int .u8 yq] 76);have hxb:(wr.alloc (.cells #[Value.string ⟨yn.toArray⟩,.int .u8 yq] 76)).heap[wr.heap.size]? = some (.cells [Value.string ⟨yn.toArray⟩,.int .u8 yq].toArray 76 (0,0)):=heap_alloc_new wr _;have HOW2:=hyd (HOW.out.alloc (.cells #[Value.string ⟨yn.toArray⟩,.int .u8 yq] 76));have HT2:=hyd (HTR.out.below hbx);have HU2:=hyd (HUR.out.next hbx);have HS2:=hyd (HSR.out.below hbx);have HI2:=hyd (HIR.out.upd (Upd.of_below hbx));have HXB:Hid (Stay (wr.alloc (.cells #[Value.string ⟨yn.toArray⟩,.int .u8 yq] 76)) F1 wr.heap.size [Value.string ⟨yn.toArray⟩,.int .u8 yq] 76):=hyd (stay_low hxb (fun k hk=>HTR.out.lt k (List.mem_append_right _ hk)));have HZ2:Hid (W.heap.size<=(wr.alloc (.cells #[Value.string ⟨yn.toArray⟩,.int .u8 yq] 76)).heap.size):=hyd (Nat.le_trans HK1.out hbx.size);clear hbx hxb HOW HTR HUR HSR HIR HK1;generalize wr.alloc (.cells #[Value.string ⟨yn.toArray⟩,.int .u8 yq] 76)=w2 at *;generalize wr.heap.size=bx at *;have d0:=HSC.out w2 _ _ k HT2.out;obtain ⟨lb,FL,l1,l2,-,l4⟩:=HLS.out w2.drew _ _ k (HT2.out.below (Below.refl _ _).drew);have l1':w2.cell? ⟨ad.sess cl,8,none⟩=some (.pointer (some ⟨lb,0,none⟩)):=l1;have l2':SRep w2.drew lb (G k).2 FL:=l2
   have HDR:=hyd (sdrop_any lb (G k).2 FL yn w2.drew l2');have HL4:=hyd l4;have p0:w2.cell? ⟨bx,0,none⟩=some (.string ⟨yn.toArray⟩):=cell_of_row _ _ 0 _ _ _ HXB.out.2.2;clear l1 l2 l2' l4
   go_still_tail 9,(by kernel_rfl)
   change wpList _ _ _ _ _ w2.drew
   go_wp2_with fail
   refine HDR.out.mono ?_;rintro e w3 ⟨rfl,FL3,hr3,hu3⟩;obtain ⟨F3,ht3,hv3,-,-⟩:=HL4.out w3 _ FL3 hr3 hu3;rw [HTK.out] at ht3;have hv3':Upd F1 F3 w2 w3:=Upd.pre (Below.refl _ _).drew hv3;have HT3:=hyd ht3;have HU3:=hyd (HU2.out.trans' hv3');have HS3:=hyd (HS2.out.upd (hv3'.ext _));have HI3:=hyd (HI2.out.upd (hv3'.ext _));have HOW3:=hyd (ownsRow_local (w':=w3) HOW2.out (fun j hj=>hv3'.1.block j (HOW2.out.lt j hj).2 (HT2.out.ext j (List.mem_append_left _ (Option.mem_toList.2 hj))).2));have HXB3:=hyd (HXB.out.upd hv3');have HZ3:Hid (W.heap.size<=w3.heap.size):=hyd (Nat.le_trans HZ2.out hv3'.1.size);clear hr3 hu3 ht3 hv3 hv3' d0 l1' p0 HT2 HU2 HS2 HI2 HOW2 HXB HDR HL4;obtain ⟨hb,hhb⟩:∃ hb,hasE yn (G k).2=hb:=⟨_,rfl⟩;rw [hhb];rw [hhb] at HGK;clear hhb
   cases hb
   case false =>
    have HG1:Hid ((G (k+1)).1=(G k).1):=hyd (by rw [HGK.out];rfl)
    go_wp2_with fail
    go_roundw
    case rel=>exact ⟨k+1,F3,_,rfl,by go_num,by omega,by rw [HG1.out];exact HOW3.out,HT3.out,HU3.out,HS3.out,HI3.out,HZ3.out⟩
    case measure=>simp [intOf];omega
   case true =>
    have HG1:Hid ((G (k+1)).1=(G k).1 ++ [yn]):=hyd (by rw [HGK.out];rfl);have p0:w3.cell? ⟨bx,0,none⟩=some (.string ⟨yn.toArray⟩):=cell_of_row _ _ 0 _ _ _ HXB3.out.2.2;have HOA:=hyd (HOW3.out.alloc (.cells #[Value.string ⟨yn.toArray⟩] 9));have HRA:=hyd (row_new w3 [Value.string ⟨yn.toArray⟩] 9);have HBA3:=hyd (low_alloc w3 (.cells #[Value.string ⟨yn.toArray⟩] 9));have HN1:Hid ((G k).1.length<=100):=hyd (by have:=HGN.out k;have:=HXL.out;omega);have HZA:Hid (W.heap.size<=(w3.alloc (.cells #[Value.string ⟨yn.toArray⟩] 9)).heap.size):=hyd (Nat.le_trans HZ3.out HBA3.out.size)
    go_wp2_with (first
     | (at_builtin;refine wpList_appR (m:=1) T_strS HOA.out HRA.out rfl rfl rfl rfl _ rfl (by rfl) (by omega) (by simp [Value.oneCell']) (by have:=HN1.out;omega) (by have:=HN1.out;omega) HZA.out ?_;intro g8 cap8 w8 hown8 hgr8 hob8 hlt8;have HOW8:=hyd hown8;have HGR8:=hyd hgr8;have HOB8:=hyd hob8;have HLT8:=hyd hlt8;clear hown8 hgr8 hob8 hlt8;go_frame)
     | fail)
    go_roundw
    case rel =>
     have hm8:Mod g.ownBlock.toList (w3.alloc (.cells #[Value.string ⟨yn.toArray⟩] 9)) w8:=(Mod.refl _ _).grown HGR8.out (fun q hq => .inl (Option.mem_toList.2 hq));have hT3a:=HT3.out.below HBA3.out;have hg8:g8 ∈ g.ownBlock.toList \/ (w3.alloc (.cells #[Value.string ⟨yn.toArray⟩] 9)).heap.size<=g8:=HOB8.out.imp (fun e=>Option.mem_toList.2 e) id
     have hE8:∀ q ∈ [g8]++E,q ∈ g.ownBlock.toList++E \/ (w3.alloc (.cells #[Value.string ⟨yn.toArray⟩] 9)).heap.size<=q:=fun q hq=>by
      rcases List.mem_cons.1 hq with e | hq
      ·rw [e];exact hg8.imp (fun h=>List.mem_append_left _ h) id
      ·exact .inl (List.mem_append_right _ hq)
     have huw:Upd ((g.ownBlock.toList++E)++F3) (([g8]++E)++F3) (w3.alloc (.cells #[Value.string ⟨yn.toArray⟩] 9)) w8:=⟨hm8.mono fun q hq=>List.mem_append_left _ (List.mem_append_left _ hq),fun q hq=>by
      rcases List.mem_append.1 hq with hq | hq
      ·exact (hE8 q hq).imp (fun h=>List.mem_append_left _ h) id
      ·exact .inl (List.mem_append_right _ hq)⟩
     have hlt8:∀ q ∈ [g8]++E,q < w8.heap.size:=fun q hq=>by
      rcases List.mem_cons.1 hq with e | hq
      ·rw [e];exact HLT8.out
      ·exact Nat.lt_of_lt_of_le (hT3a.lt q (List.mem_append_left _ (List.mem_append_right _ hq))) hm8.size
     have hown8:=HOW8.out;rw [namesV_app] at hown8;refine ⟨k+1,F3,_,rfl,by go_num,by omega,?_,hT3a.chg hm8 (fun q hq=>List.mem_append_left _ hq) hE8 hlt8,(HU3.out.next HBA3.out).extra hm8 (fun q hq => ?_),(HS3.out.below HBA3.out).upd huw,(HI3.out.upd (Upd.of_below HBA3.out)).upd huw,Nat.le_trans HZA.out hm8.size⟩
     ·rw [HG1.out,List.length_append,List.length_singleton]
      exact hown8
     ·have h5:=(HOW3.out.lt q (Option.mem_toList.1 hq)).1
      have h6:=HB1.out.size;omega
    case measure=>simp [intOf];omega
  ·have hkl:¬ (k:Int) < xs.length:=by omega
   obtain rfl:k=xs.length:=by omega
   have hbe:=beside_off (G:=E++F1) HOW.out (fun q hq hq'=>by
    have hx:=HTR.out.ext q (List.mem_append_left _ hq')
    rcases List.mem_append.1 hq with hq | hq
    ·have h5:=(HOW.out.lt q (Option.mem_toList.1 hq')).1
     have h6:=HB1.out.size;have:=HLT.out q (List.mem_append_left _ hq);omega
    ·exact hx.2 hq)
   rw [HFS.out] at hbe;obtain ⟨a3,c3,rfl,hbe3⟩:=hbe;have HBE:=hyd hbe3;have ht5:=HTR.out.less (E':=E) (fun q hq=>List.mem_append_right _ hq);rw [HT1.out] at ht5;have HT5:=hyd ht5;have hsub5:∀ q ∈ E++F1,q ∈ ((Value.slice a3 fs.length c3).ownBlock.toList++E)++F1:=fun q hq=>(List.mem_append.1 hq).elim (fun h=>List.mem_append_left _ (List.mem_append_right _ h)) (fun h=>List.mem_append_right _ h)
   have HS5:=hyd (HSR.out.sub hsub5);have HI5:Hid (ItB wr (E++F1) x):=hyd ⟨HIR.out.1.sub hsub5,HIR.out.2.1.sub hsub5,HIR.out.2.2.sub hsub5⟩;have HU5:=HUR;clear hbe3 ht5 hsub5 HOW HTR HUR HSR HIR;obtain ⟨⟨q1,q2,q3⟩,hra⟩:=HIX.out wr HS5.out.2.2;have HRA:=hyd hra;clear hra
   go_wp2_with (first
    | (refine wpList_loadMid rfl 39 _ rfl w.heap.size 5 rfl PL _ HRA.out Tryz.underlying39 rfl HPS.out _ rfl ?_)
    | (refine wpList_buildBy rfl 79 _ rfl _ rfl NL.toArray [(0,.int .u8 2),(1,.int .i64 x.op),(2,.int .i64 x.conn),(3,.string x.client),(4,.agg PL.toArray)] (by kernel_rfl) (HNB.out ()) ?_)
    | fail)
   refine (HNO.out wr E F1 HT5.out (by have:=HI5.out.1;rw [hSA] at this;exact this)).mono ?_;rintro e w6 ⟨rfl,F6,ht6,hu6⟩;have HS63:=hyd (HS5.out.upd (hu6.ext E));have HI6:=hyd (HI5.out.upd (hu6.ext E));have HBE6:=hyd (HBE.out.upd (hu6.ext E));have HT6:=hyd ht6;have HU6:=hyd (HU5.out.trans' hu6);clear ht6 hu6 q1 q2 q3 HS5 HI5 HBE HT5 HU5 HRA;obtain ⟨⟨q1,q2,q3⟩,-⟩:=HIX.out w6 HS63.out.2.2
   go_upto_region 10 with (first
    | (refine wpList_buildBy rfl 110 _ rfl _ rfl WL.toArray [(0,.int .i64 x.op),(3,.int .u8 9)] (by kernel_rfl) (HWB.out ()) ?_)
    | fail)
   clear q1 q2 q3;have hx7:=heap_alloc_new w6 (.cells WL.toArray 110);have hb7:=low_alloc w6 (.cells WL.toArray 110);have hs7:w6.heap.size < (w6.alloc (.cells WL.toArray 110)).heap.size:=by simp
   have HWB7:Hid (w.heap.size<=w6.heap.size):=hyd HU6.out.1.size;have HT7:Hid (TurnAt c ad (w6.alloc (.cells WL.toArray 110)) tb (T1.note n1) (w6.heap.size :: E) F6):=hyd (HT6.out.more hb7 (Nat.le_refl _) hs7);have HS73:=hyd (HS63.out.more (E:=E) (F:=F6) hb7 (Nat.le_refl _));have HI7:=hyd (HI6.out.more (E:=E) (F:=F6) hb7 (Nat.le_refl _));have HBE7:=hyd (HBE6.out.more (E:=E) (F:=F6) hb7 (Nat.le_refl _));have HU7:=hyd (HU6.out.next hb7);have HX7:=hyd hx7;clear hx7 hb7 hs7 HS63 HI6 HBE6 HT6 HU6;generalize w6.alloc (.cells WL.toArray 110)=w7 at *;generalize w6.heap.size=wb at *;obtain ⟨⟨q1,q2,q3⟩,-⟩:=HIX.out w7 HS73.out.2.2
   go_wp2_with (first
    | (refine wpList_buildBy rfl 44 _ rfl _ rfl IKL.toArray [(0,.int .u8 6),(1,.int .i64 x.op),(3,.string x.client)] (by kernel_rfl) (HIB.out ()) ?_)
    | fail)
   refine (HHU.out w7 (wb :: E) F6 a3 c3 HT7.out (HBA.out.upd HU7.out) HBE7.out).mono ?_;rintro e w8 ⟨rfl,F8,ht8,hu8⟩;have hx8:=(hu8.1.block wb (Array.getElem?_eq_some_iff.1 HX7.out).1 (HT7.out.ext wb (by simp)).2).trans HX7.out;have HS83:=hyd (HS73.out.upd (hu8.ext (wb :: E)));have HI8:=hyd (HI7.out.upd (hu8.ext (wb :: E)));have HT8:=hyd ht8;have HU8:=hyd (HU7.out.trans' hu8);rw [<- hWL] at hx8;have c27:w8.cell? ⟨wb,27,none⟩=some (.int .i64 0):=by rw [cell_of_row _ _ 27 _ _ _ hx8];rfl
   have f27:=frozen_of_row w8 _ 27 _ _ hx8;have hx9:=wait_left hx8 (hubsK c fs:Nat);have hm9:Mod [wb] w8 (w8.setCell ⟨wb,27,none⟩ (.int .i64 (hubsK c fs:Nat))):=(Mod.refl _ _).setCell (.inl (by simp)) _;have HM9:=hyd hm9;have HX9:=hyd hx9;clear ht8 hu8 hx8 hm9 hx9 q1 q2 q3 HS73 HI7 HBE7 HT7 HU7 HX7
   go_upto_region 11 with fail
   clear c27 f27;generalize w8.setCell ⟨wb,27,none⟩ (.int .i64 (hubsK c fs:Nat))=w9 at *;have c30:w9.cell? ⟨wb,30,none⟩=some .nilFunc:=by rw [cell_of_row _ _ 30 _ _ _ HX9.out];rfl
   have f30:=frozen_of_row w9 _ 30 _ _ HX9.out;obtain ⟨dv,hdv⟩:∃ dv:Value,.func (.func 122) #[] #[.pointer (some ⟨w.heap.size,0,none⟩)]=dv:=⟨_,rfl⟩;have hxa:=wait_done HX9.out dv;have hma:Mod [wb] w8 (w9.setCell ⟨wb,30,none⟩ dv):=HM9.out.trans ((Mod.refl [wb] w9).setCell (.inl (by simp)) dv) (fun k hk => .inl hk);have HXA:=hyd hxa;have HMA:=hyd hma;have HDV:=hyd hdv;clear hxa hma hdv
   go_upto_region 12 with fail
   clear c30 f30;rw [HDV.out];generalize w9.setCell ⟨wb,30,none⟩ dv=wa at *;have huw:Upd ((wb :: E)++F8) ((wb :: E)++F8) w8 wa:=upd_in HMA.out (fun k hk=>by rw [List.mem_singleton.1 hk];simp);have HSA3:=hyd (HS83.out.upd huw);have HIA:=hyd (HI8.out.upd huw);have HTA:Hid (TurnAt c ad wa tb T2 (wb :: E) F8):=hyd (HT8.out.wrote HMA.out (fun k hk=>by rw [List.mem_singleton.1 hk];simp));have HUA:=hyd (HU8.out.extra HMA.out (fun k hk=>by rw [List.mem_singleton.1 hk];exact HWB7.out));have hsub:∀ k ∈ F8,k ∈ (wb :: E)++F8:=fun k hk=>List.mem_append_right _ hk
   have HA1':=hyd (HU1.out wa (wb :: E) F8 w.heap.size HTA.out (HSA3.out.sub hsub));clear huw hsub HS83 HI8 HT8 HU8 HM9 HX9 HMA
   go_wp2_with fail
   rw [<- HDV.out] at HXA
   by_cases hk:hubsK c fs=0
   ·have hx0:=HXA.out
    rw [hk] at hx0;refine (waits_uns tb (ad.seat cl) wb w.heap.size wa x.op pkZ 9 ⟨#[]⟩ none (TDone c ad tb (wb :: E) F8 wa (doneUns c x T2)) hx0 HA1'.out).mono ?_;rintro e wc ⟨rfl,Fc,htc,huc⟩;have HD:Hid (TDone c ad tb E F w (unsubscribeT c z x T) wc):=hyd ⟨Fc,by rw [HE.out,if_pos hk];exact htc.less (fun k hk=>List.mem_cons_of_mem _ hk),HUA.out.trans' huc⟩;clear htc huc hx0
    go_wp2_with fail
    go_end0
    exact ⟨rfl,HD.out⟩
   ·refine (waits_some tb (ad.seat cl) wb wa x.op (hubsK c fs:Nat) pkZ 9 ⟨#[]⟩ none _ _ _ (by omega) HXA.out (HSH.out wa _ F8 HTA.out)).mono ?_
    rintro e wc ⟨rfl,rfl⟩;obtain ⟨Fc,htc,hmc,hfc⟩:=HBU.out wa wb w.heap.size F8 HTA.out HWB7.out HXA.out HSA3.out HIA.out;have HD:Hid (TDone c ad tb E F w (unsubscribeT c z x T) (wa.setCell ⟨ad.seat cl,1,none⟩ (bxV wb))):=hyd ⟨Fc,by rw [HE.out,if_neg hk];exact htc,Upd.joinX HUA.out hmc hfc (fun k hk=>by rw [List.mem_singleton.1 hk];exact HWB7.out)⟩;clear htc hmc hfc
    go_wp2_with fail
    go_end0
    exact ⟨rfl,HD.out⟩
end
end Go.Proofs.YtcekcoepdhnfgaaGreatDoor
