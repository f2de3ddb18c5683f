/- closed, loses; waits. -/
import Derived.Test.YtcekcoepdhnfgaaGreatDoorHBF
import Derived.Test.YtcekcoepdhnfgaaGreatDoorSeWX
import Derived.Test.YtcekcoepdhnfgaaGreatDoorHPl
import Derived.Test.YtcekcoepdhnfgaaGreatDoorOutY
import Derived.Test.YtcekcoepdhnfgaaGreatDoorOutZ
namespace Go.Proofs.YtcekcoepdhnfgaaGreatDoor
section
open Go Go.RowKit Go.Maps
theorem TurnP.seatSes {c:HCfg} {ad:HAd} {w:World} {tb:Nat} {t:Tn} {v:TnV} {E:List Nat} (h:TurnP c ad w tb t v E) {cl:ByteArray} {z:HSeat} (h0:t.seat cl=some z) :
  w.cell? ⟨ad.seat cl,0,none⟩=some (.pointer (some ⟨ad.sess cl,0,none⟩))/\SesRep w (ad.sess cl) c.win c.most z.s (v.sv cl).F:=by
 have h1:=h.seatCell h0;have h2:=h.seatAt h0 (sesPc (ad.sess z.s.client) z.s c.win c.most (v.sv cl).F) (by simp [seatPcs]);rw [(seat_at h0).2] at h2;exact ⟨cell_of_row _ _ 0 _ _ _ h1,h2⟩
theorem SeOk.leave {z:HSeat} (h:SeOk z):SeOk ⟨leaveS z.s,none⟩:=
 ⟨⟨show (0:Int)<=0/\(0:Int)<=9223372036854775807 by decide,show MsOk Msg.none from ⟨by decide,by decide,by unfold u8R;decide⟩,h.s.l,h.s.client,h.s.up,h.s.len,h.s.short⟩,fun k left hk=>by cases hk⟩
set_option maxRecDepth 100000
set_option maxHeartbeats 4000000
theorem loses_left (c:HCfg) (ad:HAd) (tb:Nat) (T:Tn) (E F:List Nat) (w:World) (cl:ByteArray) (z:HSeat) (h:TurnAt c ad w tb T E F) (hok:HOk T) (h0:T.seat cl=some z) :
  Calls Tryz.prog 108 #[.pointer (some ⟨tb,0,none⟩),.pointer (some ⟨ad.seat cl,0,none⟩),.bool true] w fun e w'=>e = .returned (.tuple #[])/\TDone c ad tb E F w (losesT c z true T) w':=by
 obtain ⟨v,hP,rfl⟩:=h;obtain ⟨c0,hs⟩:=hP.seatSes h0;have hzc:=(seat_at h0).2;have HL:=hyd (leave_any (ad.sess cl) z.s c.win c.most (v.sv cl).F w hs)
 have HQ:Hid (∀ w',SesRep w' (ad.sess cl) c.win c.most (leaveS z.s) (v.sv cl).F->Upd (v.sv cl).F (v.sv cl).F w w'->TDone c ad tb E (feet (pcs c ad tb v T)) w (losesT c z true T) w'):=hyd (fun w' h1 h2=>by
  obtain ⟨h3,h4⟩:=hP.ses hok.nd h0 (s':=leaveS z.s) hzc h1 h2;have e:losesT c z true T=T.setS cl ⟨leaveS z.s,z.busy⟩:=by unfold losesT;rw [hzc];rfl
  rw [e]
  exact ⟨_,⟨_,h3,rfl⟩,h4⟩)
 clear hP hs hok h0 hzc
 go_enter Tryz.func108, Tryz.ntmps108
 go_wp2_with fail
 refine HL.out.mono ?_;rintro e w2 ⟨rfl,h1,h2⟩;have HD:=hyd (HQ.out w2 h1 h2);clear h1 h2
 go_wp2_with fail
 (try simp only [Exit.inBlock,Exit.then])
 refine bodyPost_ret (results_none rfl _ _ _) rfl ?_;exact ⟨rfl,HD.out⟩
theorem TurnAt.seatCells {c:HCfg} {ad:HAd} {w:World} {tb:Nat} {t:Tn} {E G:List Nat} (h:TurnAt c ad w tb t E G) {cl:ByteArray} {z:HSeat} (h0:t.seat cl=some z) :
  w.cell? ⟨ad.seat cl,0,none⟩=some (.pointer (some ⟨ad.sess cl,0,none⟩))/\w.cell? ⟨ad.sess cl,0,none⟩=some (.string cl)/\w.cell? ⟨ad.sess cl,1,none⟩=some (.int .i64 z.s.conn)/\w.cell? ⟨ad.sess cl,2,none⟩=some (.bool z.s.clean):=by
 obtain ⟨v,hP,-⟩:=h;obtain ⟨h1,lb,t1,cb,FL,FO,FC,hp,-⟩:=hP.seatSes h0;obtain ⟨k0,k1,k2,-⟩:=hp.cells;rw [(seat_at h0).2] at k0;exact ⟨h1,k0,k1,k2⟩
theorem built_pub3 (m:Msg):Tryz.prog.built 39 [(0,.int .u8 3),(5,.string m.t),(6,.string m.p),(2,.int .u8 m.q),(3,.bool m.r)]=some (pubOf m).cells.toArray:=by
 obtain ⟨m0,m1,m2,m3⟩:=m
 kernel_rfl
theorem built_noteP (kind op:Int) (client:ByteArray) (p:Pkt):Tryz.prog.built 79 [(0,.int .u8 kind),(1,.int .i64 op),(3,.string client),(4,.agg p.cells.toArray)]=some ({ noteN kind op 0 client with pk:=p }:Note).cells.toArray:=by
 obtain ⟨p0,p1,p2,p3,p4,p5,p6,p7,p8,p9,p10,p11,⟨m0,m1,m2,m3⟩,p13,p14,p15,p16,p17,p18,p19,p20,p21,p22⟩:=p
 kernel_rfl
theorem lay_pub (k op:Int) (cl:ByteArray) (m:Msg):({ noteN k op 0 cl with pk:=pubOf m }:Note).lay none 0 = { noteN k op 0 cl with pk:=pubOf m }:=rfl
theorem pub_subs (k op:Int) (cl:ByteArray) (m:Msg):({ noteN k op 0 cl with pk:=pubOf m }:Note).pk.subs = []:=rfl
theorem routeT_seats (c:HCfg) (op:Int) (cl:ByteArray) (p:Pkt) (t:Tn):(routeT c op cl 0 p t).seats=t.seats:=by
 unfold routeT
 split
 ·rfl
 ·rfl
theorem msg_sizeV (m:Msg):(Tryz.prog.info? 36).map (·.size)=some m.cells.toArray.size:=by kernel_rfl
theorem msg_oneV (m:Msg):m.cells.toArray.all (·.oneCell')=true:=by simp [Msg.cells,Value.oneCell']
theorem pk_oneV (p:Pkt):p.cells.toArray.all (·.oneCell')=true:=by simp [Pkt.cells,Msg.cells,Value.oneCell']
theorem loses_gone (w0:World) (hT:Tabs w0) (c:HCfg) (ad:HAd) (tb:Nat) (T:Tn) (E F:List Nat) (w:World) (cl:ByteArray) (z:HSeat) (h:TurnAt c ad w tb T E F) (hB:Base w0 w F) (hok:HOk T) (hn1:1<=c.n) (hn2:c.n<=64) (h0:T.seat cl=some z) (hbz:z.busy=none)
  (hn:T.mails.length+1<=100000) (hnn:T.notes.length+1<=100000) (hfl:T.flows.length<=100000) (ho0:0<=T.ops) (ho1:T.ops<=1000000) :
  Calls Tryz.prog 108 #[.pointer (some ⟨tb,0,none⟩),.pointer (some ⟨ad.seat cl,0,none⟩),.bool false] w fun e w'=>e = .returned (.tuple #[])/\TDone c ad tb E F w (losesT c z false T) w':=by
 obtain ⟨v,hP,rfl⟩:=h;obtain ⟨c0,hs⟩:=hP.seatSes h0;have hzc:=(seat_at h0).2;have hzm:=hok.seat z (seat_at h0).1;have HL:=hyd (lose_any (ad.sess cl) z.s c.win c.most (v.sv cl).F w hs)
 have HQ:Hid (∀ w',SesRep w' (ad.sess cl) c.win c.most (leaveS z.s) (v.sv cl).F->Upd (v.sv cl).F (v.sv cl).F w w'->TDone c ad tb E (feet (pcs c ad tb v T)) w (T.setS cl ⟨leaveS z.s,z.busy⟩) w'):=hyd (fun w' h1 h2=>by
  obtain ⟨h3,h4⟩:=hP.ses hok.nd h0 (s':=leaveS z.s) hzc h1 h2
  exact ⟨_,⟨_,h3,rfl⟩,h4⟩)
 have HOK:Hid (HOk (T.setS cl ⟨leaveS z.s,z.busy⟩)):=hyd (by
  rw [hbz]
  exact hok.set0 h0 (by rw [hbz];rfl) (by show z.s.client=_;rfl) hzm.leave)
 obtain ⟨⟨m,b⟩,hla⟩:∃ q,loseA z.s=q:=⟨_,rfl⟩;have HLA:=hyd hla;have HE:Hid (losesT c z false T=if b=true then routeT c (T.ops+1) cl 0 (pubOf m) (((T.setS cl ⟨leaveS z.s,z.busy⟩).op).note { noteN 1 (T.ops+1) 0 cl with pk:=pubOf m }) else T.setS cl ⟨leaveS z.s,z.busy⟩):=hyd (by unfold losesT;rw [hzc,hla];cases b <;> rfl);rw [hla] at HL;have HMZ:=hyd (msg_sizeV m);have HM4:Hid (∀ U:Array Value,U.size=4->U.size=m.cells.toArray.size):=hyd (fun U hU=>hU.trans rfl);have HMO:=hyd (msg_oneV m)
 have HH0:Hid ((T.setS cl ⟨leaveS z.s,z.busy⟩).seat cl=some ⟨leaveS z.s,z.busy⟩):=hyd (by
  have:=seat_setS (z:=⟨leaveS z.s,z.busy⟩) h0 hzc cl;rw [if_pos rfl] at this
  exact this)
 have HFL:Hid (b=true->FlOk (newF (T.ops+1) cl 0 (pubOf m))):=hyd (fun hb=>by
  have hm:m=z.s.will:=by
   unfold loseA at hla
   split at hla
   ·cases hla;rfl
   ·cases hla;cases hb
  obtain ⟨k1,k2,k3⟩:=hzm.s.will;rw [<- hm] at k1 k2 k3
  exact ⟨⟨by show _<=T.ops+1;omega,by show T.ops+1<=_;omega⟩,⟨Int.le_refl _,by show (0:Int)<=_;decide⟩,⟨by show u8R 3;unfold u8R;decide,k3,by show (0:Int)<=0/\(0:Int)<=65535;decide,k1,k2,show MsOk Msg.none from ⟨by decide,by decide,by unfold u8R;decide⟩,Nat.zero_le _,fun y hy=>by cases hy⟩,by show cl.size<=1000;rw [<- hzc];exact hzm.s.client⟩)
 have HNT:=hyd (fun X G' n1 (hX:TurnAt c ad X tb ((T.setS cl ⟨leaveS z.s,z.busy⟩).op) E G') (e1:n1.lay none 0=n1) (e2:n1.pk.subs = [])=>note_any c ad tb ((T.setS cl ⟨leaveS z.s,z.busy⟩).op) E G' X n1 n1 none 0 hX e1.symm (.inl (by rw [e2];rfl)) (by rw [e2];exact Nat.zero_le _) (by show T.notes.length<=_;omega));have HRT:=hyd (fun X G' n1 (hX:TurnAt c ad X tb (((T.setS cl ⟨leaveS z.s,z.busy⟩).op).note n1) E G') (hBX:Base w0 X G') (hfl':FlOk (newF (T.ops+1) cl 0 (pubOf m)))=>route_any w0 hT c ad tb (((T.setS cl ⟨leaveS z.s,z.busy⟩).op).note n1) E G' X (T.ops+1) 0 cl (pubOf m) hX hBX (HOK.out.of rfl rfl) hn1 hn2 hfl' (fun h=>absurd rfl h) hn (by show (T.notes ++ [n1]).length<=_;simpa using hnn) hfl);clear hP hs hok h0 hzc hbz hzm hla;unfold Msg.val at HL
 cases b
 case false =>
  go_enter Tryz.func108, Tryz.ntmps108
  go_wp2_with fail
  refine HL.out.mono ?_;rintro e w2 ⟨rfl,h1,h2⟩;have HD:=hyd (HQ.out w2 h1 h2);clear h1 h2
  go_wp2_with fail
  (try simp only [Exit.inBlock,Exit.then])
  refine bodyPost_ret (results_none rfl _ _ _) rfl ?_;exact ⟨rfl,by rw [HE.out];exact HD.out.next (low_alloc w2 _)⟩
 case true =>
  have HNP:=hyd (fun (_:Unit)=>built_noteP 1 (T.ops+1) cl (pubOf m));have HPB:=hyd (fun (_:Unit)=>built_pub3 m);have HPZ:Hid ((Tryz.prog.info? 39).map (·.size)=some (pubOf m).cells.toArray.size):=hyd (pkt_size' (pubOf m));have HPO:=hyd (pk_oneV (pubOf m));have HP24:Hid (∀ U:Array Value,U.size=24->U.size=(pubOf m).cells.toArray.size):=hyd (fun U hU=>hU.trans rfl);have HO0:=hyd ho0;have HO1:=hyd ho1;have HT:=hyd hT;have HBA:=hyd hB;clear ho0 ho1 hT hB;generalize (pubOf m).cells=PL at *
  go_enter Tryz.func108, Tryz.ntmps108
  go_wp2_with fail
  refine HL.out.mono ?_;rintro e w2 ⟨rfl,h1,h2⟩;obtain ⟨F2,ht2,hu2⟩:=HQ.out w2 h1 h2;have hxm:=heap_alloc_new w2 (.cells #[.string m.t,.string m.p,.int .u8 m.q,.bool m.r] 36);have HT2:=hyd ht2;have HU2:=hyd hu2;have HSM:Hid (Stay (w2.alloc (.cells #[.string m.t,.string m.p,.int .u8 m.q,.bool m.r] 36)) F2 w2.heap.size [.string m.t,.string m.p,.int .u8 m.q,.bool m.r] 36):=hyd ⟨fun hk=>by have:=ht2.lt _ (List.mem_append_right _ hk);omega,by simp,hxm⟩;have HBM:=hyd (low_alloc w2 (.cells #[.string m.t,.string m.p,.int .u8 m.q,.bool m.r] 36));clear h1 h2 ht2 hu2 hxm
  go_upto_region 4 with fail
  generalize w2.alloc (.cells #[.string m.t,.string m.p,.int .u8 m.q,.bool m.r] 36)=w3 at *;obtain ⟨v3,hP3,e3⟩:=HT2.out.below HBM.out;subst e3;have hl3:=hP3.cells.l;have HLO:=hyd (log_op ad.lg v3.nv v3.N _ w3 hP3.log HO0.out HO1.out);have HP3:=hyd hP3;clear hP3
  go_wp2_with fail
  refine HLO.out.mono ?_;rintro e w4 ⟨rfl,hq,hu⟩;obtain ⟨h5,h6⟩:=HP3.out.oped hq hu;have HT4:Hid (TurnAt c ad w4 tb ((T.setS cl ⟨leaveS z.s,z.busy⟩).op) E _):=hyd ⟨_,h5,rfl⟩;have HU4:=hyd (HU2.out.trans' (Upd.pre HBM.out h6));have hsm4:=(HSM.out.upd h6).2.2;have m0:w4.cell? ⟨w2.heap.size,0,none⟩=some (.string m.t):=by rw [cell_of_row _ _ 0 _ _ _ hsm4];rfl
  have m1:w4.cell? ⟨w2.heap.size,1,none⟩=some (.string m.p):=by rw [cell_of_row _ _ 1 _ _ _ hsm4];rfl
  have m2:w4.cell? ⟨w2.heap.size,2,none⟩=some (.int .u8 m.q):=by rw [cell_of_row _ _ 2 _ _ _ hsm4];rfl
  have m3:w4.cell? ⟨w2.heap.size,3,none⟩=some (.bool m.r):=by rw [cell_of_row _ _ 3 _ _ _ hsm4];rfl
  clear hq hu h5 h6 hsm4 hl3
  go_upto_region 6 with (first
   | (refine wpList_buildBy rfl 39 _ rfl _ rfl PL.toArray [(0,.int .u8 3),(5,.string m.t),(6,.string m.p),(2,.int .u8 m.q),(3,.bool m.r)] (by kernel_rfl) (HPB.out ()) ?_)
   | (refine wpList_store_newTo rfl 39 _ _ rfl rfl w4.heap.size rfl PL.toArray _ rfl rfl HPZ.out (HP24.out _ rfl) HPO.out ?_)
   | fail)
  have hxp:=heap_alloc_new w4 (.cells PL.toArray 39);have HB5:=hyd (low_alloc w4 (.cells PL.toArray 39));have HPK:Hid (∀ G',(∀ k ∈ G',k < w4.heap.size)->Stay (w4.alloc (.cells PL.toArray 39)) G' w4.heap.size PL 39):=hyd (fun G' hG=>⟨fun hk=>by have:=hG _ hk;omega,by simp,hxp⟩);clear m0 m1 m2 m3 hxp;have HPK4:=hyd (HPK.out _ fun k hk=>HT4.out.lt k (List.mem_append_right _ hk));generalize w4.alloc (.cells PL.toArray 39)=w5 at *;have HT5:=hyd (HT4.out.below HB5.out);have HLS:Hid ((Tryz.prog.info? 39).map (·.size)=some PL.length):=hyd (by simpa using HPZ.out);have HNM:=hyd (fun X G' hX=>HNT.out X G' ({ noteN 1 (T.ops+1) 0 cl with pk:=pubOf m }:Note) hX (lay_pub 1 (T.ops+1) cl m) (pub_subs 1 (T.ops+1) cl m));have HRM:=hyd (fun X G' hX hBX=>HRT.out X G' ({ noteN 1 (T.ops+1) 0 cl with pk:=pubOf m }:Note) hX hBX (HFL.out (by trivial)));have HPL2:=HNP.out ();generalize hNL:({ noteN 1 (T.ops+1) 0 cl with pk:=pubOf m }:Note).cells=NL at *;have HNP2:=hyd (fun (_:Unit)=>HPL2);clear HPL2 hNL
  have HSC:Hid (∀ (X:World) (T':Tn) (G':List Nat),TurnAt c ad X tb T' E G'->T'.seats=(T.setS cl ⟨leaveS z.s,z.busy⟩).seats->X.heap[w4.heap.size]? = some (.cells PL.toArray 39 (0,0))->X.cell? ⟨ad.seat cl,0,none⟩=some (.pointer (some ⟨ad.sess cl,0,none⟩))/\X.cell? ⟨ad.sess cl,0,none⟩=some (.string cl)/\X.rangeAt w4.heap.size 0 PL):=hyd (fun X T' G' hX hS hx=>by
   have h1:=hX.seatCells (cl:=cl) (z:=⟨leaveS z.s,z.busy⟩) (by unfold Tn.seat;rw [hS];exact HH0.out)
   exact ⟨h1.1,h1.2.1,range_blk hx⟩)
  refine wp_region_held_drew (S:=fun X=>X.cell? ⟨ad.seat cl,0,none⟩=some (.pointer (some ⟨ad.sess cl,0,none⟩))/\X.cell? ⟨ad.sess cl,0,none⟩=some (.string cl)/\X.rangeAt w4.heap.size 0 PL) (by kernel_rfl) (HSC.out w5.drew _ _ (HT5.out.below (Below.refl _ _).drew) rfl HPK4.out.2.2) (fun hHeld => ?_);refine tA 0 (h:=tA 1 (h:=tA 2 (h:=tA 3 (h:=tA 4 (h:=tA 5 (h:=tA 6 (h:=tA 7 (h:=tA 8 (h:=?_)))))))));simp only [tks];refine tk 9 (v:=.agg PL.toArray) (fun w0 hS0=>exec_load_row rfl rfl hS0.2.2 Tryz.underlying39 rfl HLS.out) hHeld ?_;simp only [tks];refine tk 10 (v:=.agg NL.toArray) (fun w0 hS0=>exec_build 79 _ rfl NL.toArray [(0,.int .u8 1),(1,.int .i64 (T.ops+1)),(3,.string cl),(4,.agg PL.toArray)] (by kernel_rfl) (HNP2.out ())) hHeld ?_;simp only [tks];refine wpAnyH_ready (rs:=[11]) (by kernel_rfl) (by simp) ?_;refine AllReadyH.cons rfl (fun K hK => ?_) AllReadyH.nil;rw [if_pos (by rfl)];go_simp
  go_at_call 107
  refine (HNM.out _ _ (HT5.out.below (Below.refl _ _).drew)).mono ?_;rintro e w6 ⟨rfl,F6,ht6,hu6⟩;have hu6':=Upd.pre (Below.refl _ _).drew hu6;refine hK.out _ _ (HSC.out _ _ _ ht6 rfl (HPK4.out.upd hu6').2.2) (fun hHeld => ?_);have HT6:=hyd ht6;have HPK6:=hyd (HPK4.out.upd hu6');have HU6:=hyd (HU4.out.trans' (Upd.pre HB5.out hu6'));clear ht6 hu6 hu6';refine wpAnyH_done (by kernel_rfl) ?_ _;clear hHeld
  go_upto_region 7 with fail
  refine wp_region_held_drew (S:=fun X=>X.cell? ⟨ad.seat cl,0,none⟩=some (.pointer (some ⟨ad.sess cl,0,none⟩))/\X.cell? ⟨ad.sess cl,0,none⟩=some (.string cl)/\X.rangeAt w4.heap.size 0 PL) (by kernel_rfl) (HSC.out w6.drew _ _ (HT6.out.below (Below.refl _ _).drew) rfl HPK6.out.2.2) (fun hHeld => ?_);refine tA 0 (h:=tA 1 (h:=tA 2 (h:=tA 3 (h:=tA 4 (h:=tA 5 (h:=tA 6 (h:=tA 7 (h:=tA 8 (h:=?_)))))))));simp only [tks];refine tk 9 (v:=.agg PL.toArray) (fun w0 hS0=>exec_load_row rfl rfl hS0.2.2 Tryz.underlying39 rfl HLS.out) hHeld ?_;simp only [tks];refine wpAnyH_ready (rs:=[10]) (by kernel_rfl) (by simp) ?_;refine AllReadyH.cons rfl (fun K hK => ?_) AllReadyH.nil;rw [if_pos (by rfl)];go_simp
  go_at_call 125
  refine (HRM.out _ _ (HT6.out.below (Below.refl _ _).drew) ((HBA.out.upd HU6.out).below (Below.refl _ _).drew)).mono ?_;rintro e w7 ⟨rfl,F7,ht7,hu7⟩;have hu7':=Upd.pre (Below.refl _ _).drew hu7;refine hK.out _ _ (HSC.out _ _ _ ht7 (routeT_seats ..) (HPK6.out.upd hu7').2.2) (fun hHeld => ?_);have HD:Hid (TDone c ad tb E _ w (losesT c z false T) w7):=hyd ⟨F7,by rw [HE.out];simp only [if_true];exact ht7,HU6.out.trans' hu7'⟩;clear ht7 hu7 hu7';refine wpAnyH_done (by kernel_rfl) ?_ _;clear hHeld
  go_wp2_with fail
  go_end0
  exact ⟨rfl,HD.out⟩
end
section
open Go Go.RowKit Go.Maps
theorem built_disc:Tryz.prog.built 39 [(0,.int .u8 14)]=some discK.cells.toArray:=by kernel_rfl
theorem built_pkZ:Tryz.prog.built 39 []=some pkZ.cells.toArray:=by kernel_rfl
theorem built_noteD (op conn:Int) (client:ByteArray) (p:Pkt):Tryz.prog.built 79 [(0,.int .u8 2),(1,.int .i64 op),(2,.int .i64 conn),(3,.string client),(4,.agg p.cells.toArray)]=some (noteP 2 op conn client p).cells.toArray:=by
 obtain ⟨p0,p1,p2,p3,p4,p5,p6,p7,p8,p9,p10,p11,⟨m0,m1,m2,m3⟩,p13,p14,p15,p16,p17,p18,p19,p20,p21,p22⟩:=p
 kernel_rfl
theorem built_noteK (k op conn:Int) (client:ByteArray):Tryz.prog.built 79 [(0,.int .u8 k),(1,.int .i64 op),(2,.int .i64 conn),(3,.string client)]=some (noteN k op conn client).cells.toArray:=by kernel_rfl
def NoSubs (n:Note):Prop:=n.lay none 0=n/\n.pk.subs = []
theorem noSubs_disc (k op conn:Int) (cl:ByteArray):NoSubs (noteP k op conn cl discK):=⟨rfl,rfl⟩
theorem noSubs_z (k op conn:Int) (cl:ByteArray):NoSubs (noteP k op conn cl pkZ):=⟨rfl,rfl⟩
theorem noSubs_n (k op conn:Int) (cl:ByteArray):NoSubs (noteN k op conn cl):=⟨rfl,rfl⟩
theorem note_plain (c:HCfg) (ad:HAd) (tb:Nat) (T:Tn) (E G:List Nat) (X:World) (n:Note) (hX:TurnAt c ad X tb T E G) (hs:NoSubs n) (hn:T.notes.length<=100000) :
  Calls Tryz.prog 107 #[.pointer (some ⟨tb,0,none⟩),.agg n.cells.toArray] X fun e w'=>e = .returned (.tuple #[])/\TDone c ad tb E G X (T.note n) w':=
 note_any c ad tb T E G X n n none 0 hX hs.1.symm (.inl (by rw [hs.2];rfl)) (by rw [hs.2];exact Nat.zero_le _) hn
set_option maxRecDepth 100000
set_option maxHeartbeats 4000000
theorem closed_left (c:HCfg) (ad:HAd) (tb:Nat) (T:Tn) (E F:List Nat) (w:World) (cl:ByteArray) (z:HSeat) (old op:Int) (h:TurnAt c ad w tb T E F) (hok:HOk T) (h0:T.seat cl=some z) (hop:op ≠ 0) (hnn:T.notes.length+5<=100000) :
  Calls Tryz.prog 105 #[.pointer (some ⟨tb,0,none⟩),.pointer (some ⟨ad.seat cl,0,none⟩),.int .i64 old,.int .i64 op] w fun e w'=>e = .returned (.tuple #[])/\TDone c ad tb E F w (closedT c z old op T) w':=by
 have hzc:=(seat_at h0).2;obtain ⟨k0,k1,-,-⟩:=h.seatCells h0;obtain ⟨n1,hn1⟩:∃ n1:Note,noteP 2 op old cl discK=n1:=⟨_,rfl⟩
 have HE:Hid (closedT c z old op T=(losesT c z true (T.note n1)).note (noteN 3 op old cl)):=hyd (by
  unfold closedT closedO closedN closedP;rw [hzc,<- hn1]
  simp only [if_neg hop,decide_eq_false hop,Bool.not_false])
 have HN1:=hyd (fun X G hX=>note_plain c ad tb T E G X n1 hX (hn1 ▸ noSubs_disc 2 op old cl) (by omega));have HLO:=hyd (fun X G hX=>loses_left c ad tb (T.note n1) E G X cl z hX (hok.of rfl rfl) h0)
 have HN2:=hyd (fun X G hX=>note_plain c ad tb (losesT c z true (T.note n1)) E G X (noteN 3 op old cl) hX (noSubs_n 3 op old cl) (by
  have:=(gr_loses (c:=c) (t:=T.note n1) z true).n;have h2:(T.note n1).notes.length=T.notes.length+1:=by simp [Tn.note]
  omega))
 have HNB:=hyd (fun (_:Unit)=>built_noteD op old cl discK);have HNB3:=hyd (fun (_:Unit)=>built_noteK 3 op old cl);have HDB:=hyd (fun (_:Unit)=>built_disc);have HDZ:Hid ((Tryz.prog.info? 39).map (·.size)=some discK.cells.toArray.size):=hyd (pkt_size' discK);have HDO:=hyd (pk_oneV discK);have HD24:Hid (∀ U:Array Value,U.size=24->U.size=discK.cells.toArray.size):=hyd (fun U hU=>hU.trans rfl);have HD0:Hid (discK.cells.toArray[0]? = some (.int .u8 14)):=hyd rfl;rw [hn1] at HNB;have HT:=hyd h;have HLT:=hyd h.lt;clear h hok h0 hnn hzc hn1;generalize discK.cells=DL at *;generalize n1.cells=NL at *;generalize (noteN 3 op old cl).cells=NL3 at *;have HXN:=hyd (heap_alloc_new w (.cells DL.toArray 39));have HBX:=hyd (low_alloc w (.cells DL.toArray 39));have HSZ:Hid (w.heap.size < (w.alloc (.cells DL.toArray 39)).heap.size):=hyd (by simp)
 go_enter Tryz.func105, Tryz.ntmps105
 go_wp2_with (first
  | (refine wpList_buildBy rfl 39 _ rfl _ rfl DL.toArray [(0,.int .u8 14)] (by kernel_rfl) (HDB.out ()) ?_)
  | (refine wpList_store_newTo rfl 39 _ _ rfl rfl w.heap.size rfl DL.toArray _ rfl rfl HDZ.out (HD24.out _ rfl) HDO.out ?_)
  | (refine wpList_load_row rfl 39 _ rfl w.heap.size rfl 39 DL.toArray _ _ HXN.out Tryz.underlying39 rfl HDZ.out ?_)
  | (refine wpList_buildBy rfl 79 _ rfl _ rfl NL.toArray [(0,.int .u8 2),(1,.int .i64 op),(2,.int .i64 old),(3,.string cl),(4,.agg DL.toArray)] (by kernel_rfl) (HNB.out ()) ?_)
  | fail)
 refine (HN1.out _ _ (HT.out.below HBX.out)).mono ?_;rintro e w2 ⟨rfl,F2,ht2,hu2⟩;have hp2:Stay w2 F2 w.heap.size DL 39:=Stay.upd ⟨fun hk=>by have:=HLT.out _ (List.mem_append_right _ hk);omega,HSZ.out,HXN.out⟩ hu2;have p0:w2.cell? ⟨w.heap.size,0,none⟩=some (.int .u8 14):=by rw [cell_of_row _ _ 0 _ _ _ hp2.2.2];exact HD0.out
 have HT2:=hyd ht2;have HU2:=hyd (Upd.pre HBX.out hu2);clear ht2 hu2 hp2
 go_wp2_with fail
 refine (HLO.out _ _ HT2.out).mono ?_;rintro e w3 ⟨rfl,F3,ht3,hu3⟩;have HT3:=hyd ht3;have HU3:=hyd (HU2.out.trans' hu3);clear ht3 hu3
 go_wp2_with (first
  | (refine wpList_buildBy rfl 79 _ rfl _ rfl NL3.toArray [(0,.int .u8 3),(1,.int .i64 op),(2,.int .i64 old),(3,.string cl)] (by kernel_rfl) (HNB3.out ()) ?_)
  | fail)
 refine (HN2.out _ _ HT3.out).mono ?_;rintro e w4 ⟨rfl,F4,ht4,hu4⟩;have HD:Hid (TDone c ad tb E F w (closedT c z old op T) w4):=hyd ⟨F4,by rw [HE.out];exact ht4,HU3.out.trans' hu4⟩;clear ht4 hu4
 go_wp2_with fail
 go_end0
 exact ⟨rfl,HD.out⟩
theorem closed_gone (w0:World) (hT:Tabs w0) (c:HCfg) (ad:HAd) (tb:Nat) (T:Tn) (E F:List Nat) (w:World) (cl:ByteArray) (z:HSeat) (old:Int) (h:TurnAt c ad w tb T E F) (hB:Base w0 w F) (hok:HOk T) (hn1:1<=c.n) (hn2:c.n<=64) (h0:T.seat cl=some z) (hbz:z.busy=none)
  (hn:T.mails.length+1<=100000) (hnn:T.notes.length+5<=100000) (hfl:T.flows.length<=100000) (ho0:0<=T.ops) (ho1:T.ops+1<=1000000) :
  Calls Tryz.prog 105 #[.pointer (some ⟨tb,0,none⟩),.pointer (some ⟨ad.seat cl,0,none⟩),.int .i64 old,.int .i64 0] w fun e w'=>e = .returned (.tuple #[])/\TDone c ad tb E F w (closedT c z old 0 T) w':=by
 have hzc:=(seat_at h0).2;obtain ⟨k0,k1,-,-⟩:=h.seatCells h0;obtain ⟨op,hop⟩:∃ op,T.ops+1=op:=⟨_,rfl⟩;obtain ⟨na,hna⟩:∃ na:Note,noteN 1 op old cl=na:=⟨_,rfl⟩;obtain ⟨nb,hnb⟩:∃ nb:Note,noteP 2 op old cl pkZ=nb:=⟨_,rfl⟩
 have HE:Hid (closedT c z old 0 T=(losesT c z false (((T.op).note na).note nb)).note (noteN 3 op old cl)):=hyd (by
  rw [<- hnb,<- hna,<- hop];unfold closedT closedO closedN closedP;rw [hzc]
  simp)
 have HN1:=hyd (fun X E' G hX=>note_plain c ad tb T.op E' G X na hX (hna ▸ noSubs_n 1 op old cl) (by show T.notes.length<=_;omega))
 have HN2:=hyd (fun X E' G hX=>note_plain c ad tb ((T.op).note na) E' G X nb hX (hnb ▸ noSubs_z 2 op old cl) (by
  have h2:((T.op).note na).notes.length=T.notes.length+1:=by simp [Tn.note,Tn.op]
  omega))
 have h2:(((T.op).note na).note nb).notes.length=T.notes.length+2:=by simp [Tn.note,Tn.op]
 have HLO:=hyd (fun X E' G hX hBX=>loses_gone w0 hT c ad tb (((T.op).note na).note nb) E' G X cl z hX hBX (hok.of rfl rfl) hn1 hn2 h0 hbz hn (by omega) hfl (by show 0<=T.ops+1;omega) ho1)
 have HN3:=hyd (fun X E' G hX=>note_plain c ad tb (losesT c z false (((T.op).note na).note nb)) E' G X (noteN 3 op old cl) hX (noSubs_n 3 op old cl) (by
  have:=(gr_loses (c:=c) (t:=((T.op).note na).note nb) z false).n
  omega))
 have HNB1:=hyd (fun (_:Unit)=>built_noteK 1 op old cl);have HNB2:=hyd (fun (_:Unit)=>built_noteD op old cl pkZ);have HNB3:=hyd (fun (_:Unit)=>built_noteK 3 op old cl);have HDB:=hyd (fun (_:Unit)=>built_disc);have HZB:=hyd (fun (_:Unit)=>built_pkZ);have HDZ:Hid ((Tryz.prog.info? 39).map (·.size)=some discK.cells.toArray.size):=hyd (pkt_size' discK);have HZZ:Hid ((Tryz.prog.info? 39).map (·.size)=some pkZ.cells.toArray.size):=hyd (pkt_size' pkZ);have HDO:=hyd (pk_oneV discK);have HZO:=hyd (pk_oneV pkZ);have HD24:Hid (∀ U:Array Value,U.size=24->U.size=discK.cells.toArray.size):=hyd (fun U hU=>hU.trans rfl);have HDZS:Hid (discK.cells.toArray.size=pkZ.cells.toArray.size):=hyd rfl;have HD0:Hid (pkZ.cells.toArray[0]? = some (.int .u8 0)):=hyd rfl;rw [hna] at HNB1;rw [hnb] at HNB2;have HT:=hyd h;have HBA:=hyd hB;have HLT:=hyd h.lt;have HO0:=hyd ho0;have HO1:Hid (T.ops<=1000000):=hyd (by omega);have HOP:=hyd hop;clear h hB hok h0 hnn hzc hna hnb hT hn1 hn2 hbz hn hfl ho0 ho1 h2 hop;generalize discK.cells=DL at *;generalize pkZ.cells=ZL at *;generalize na.cells=NL1 at *;generalize nb.cells=NL2 at *;generalize (noteN 3 op old cl).cells=NL3 at *;have HXN:=hyd (heap_alloc_new w (.cells DL.toArray 39));have HTM:=hyd (HT.out.more (low_alloc w (.cells DL.toArray 39)) (Nat.le_refl _) (by simp))
 have HBX:=hyd (low_alloc w (.cells DL.toArray 39))
 go_enter Tryz.func105, Tryz.ntmps105
 go_upto_region 3 with (first
  | (refine wpList_buildBy rfl 39 _ rfl _ rfl DL.toArray [(0,.int .u8 14)] (by kernel_rfl) (HDB.out ()) ?_)
  | (refine wpList_store_newTo rfl 39 _ _ rfl rfl w.heap.size rfl DL.toArray _ rfl rfl HDZ.out (HD24.out _ rfl) HDO.out ?_)
  | fail)
 generalize w.alloc (.cells DL.toArray 39)=w1 at *;obtain ⟨v1,hP1,e1⟩:=HTM.out;have hl1:=hP1.cells.l;have HLG:=hyd (log_op ad.lg v1.nv v1.N T.ops w1 hP1.log HO0.out HO1.out);have HP1:=hyd hP1;clear hP1
 go_wp2_with fail
 refine HLG.out.mono ?_;rintro e w2 ⟨rfl,hq,hu⟩;obtain ⟨h5,h6⟩:=HP1.out.oped hq hu;rw [<- e1] at h6
 have hd2:=(hu.1.block w.heap.size (Array.getElem?_eq_some_iff.1 HXN.out).1 (fun hk=>by
  have:=(HTM.out.ext w.heap.size (by simp)).2;rw [e1] at this
  exact this (mem_feet.2 ⟨_,by simp [pcs],hk⟩))).trans HXN.out
 have HT2:Hid (TurnAt c ad w2 tb T.op (w.heap.size :: E) _):=hyd ⟨_,h5,rfl⟩;have HU2:=hyd (Upd.pre HBX.out h6);have HD2:=hyd hd2;have hx3:=setRow_heap w2 w.heap.size _ ZL.toArray _ _ hd2;have hm3:Mod [w.heap.size] w2 (w2.setRow w.heap.size ZL.toArray):=mod_setRow (Mod.refl _ _) (.inl (by simp)) _;rw [HOP.out];clear hq hu h5 h6 hl1 hd2
 go_upto_region 4 with (first
  | (refine wpList_buildBy rfl 39 _ rfl _ rfl ZL.toArray [] (by kernel_rfl) (HZB.out ()) ?_)
  | (refine wpList_store_rowTo rfl 39 _ _ rfl rfl w.heap.size ZL.toArray rfl rfl 39 DL.toArray HD2.out HZZ.out HDZS.out HZO.out ?_)
  | fail)
 have HT3:=hyd (HT2.out.wrote hm3 (fun k hk=>by rw [List.mem_singleton.1 hk];simp));have HX3:=hyd hx3;have hs3:(w2.setRow w.heap.size ZL.toArray).heap.size=w2.heap.size:=by simp
 have HM3:=hyd hm3;clear hx3 hm3;generalize w2.setRow w.heap.size ZL.toArray=w3 at *
 go_wp2_with (first
  | (refine wpList_buildBy rfl 79 _ rfl _ rfl NL1.toArray [(0,.int .u8 1),(1,.int .i64 op),(2,.int .i64 old),(3,.string cl)] (by kernel_rfl) (HNB1.out ()) ?_)
  | fail)
 refine (HN1.out _ _ _ HT3.out).mono ?_;rintro e w4 ⟨rfl,F4,ht4,hu4⟩;have HX4:=hyd ((hu4.1.block w.heap.size (by rw [hs3];exact (Array.getElem?_eq_some_iff.1 HD2.out).1) (HT3.out.ext w.heap.size (by simp)).2).trans HX3.out);have HT4:=hyd ht4;have HU4:=hyd ((HU2.out.extra HM3.out (fun k hk=>by rw [List.mem_singleton.1 hk];exact Nat.le_refl _)).trans' hu4);clear ht4 hu4 hs3;have x4:=HX4.out
 go_wp2_with (first
  | (refine wpList_load_row rfl 39 _ rfl w.heap.size rfl 39 ZL.toArray _ _ HX4.out Tryz.underlying39 rfl HZZ.out ?_)
  | (refine wpList_buildBy rfl 79 _ rfl _ rfl NL2.toArray [(0,.int .u8 2),(1,.int .i64 op),(2,.int .i64 old),(3,.string cl),(4,.agg ZL.toArray)] (by kernel_rfl) (HNB2.out ()) ?_)
  | fail)
 refine (HN2.out _ _ _ HT4.out).mono ?_;rintro e w5 ⟨rfl,F5,ht5,hu5⟩;have hx5:=(hu5.1.block w.heap.size (Array.getElem?_eq_some_iff.1 x4).1 (HT4.out.ext w.heap.size (by simp)).2).trans x4;have p0:w5.cell? ⟨w.heap.size,0,none⟩=some (.int .u8 0):=by rw [cell_of_row _ _ 0 _ _ _ hx5];exact HD0.out
 have HT5:=hyd ht5;have HU5:=hyd (HU4.out.trans' hu5);clear ht5 hu5 hx5 x4
 go_wp2_with fail
 refine (HLO.out _ _ _ HT5.out (HBA.out.upd HU5.out)).mono ?_;rintro e w6 ⟨rfl,F6,ht6,hu6⟩;have HT6:=hyd ht6;have HU6:=hyd (HU5.out.trans' hu6);clear ht6 hu6
 go_wp2_with (first
  | (refine wpList_buildBy rfl 79 _ rfl _ rfl NL3.toArray [(0,.int .u8 3),(1,.int .i64 op),(2,.int .i64 old),(3,.string cl)] (by kernel_rfl) (HNB3.out ()) ?_)
  | fail)
 refine (HN3.out _ _ _ HT6.out).mono ?_;rintro e w7 ⟨rfl,F7,ht7,hu7⟩;have HD:Hid (TDone c ad tb E F w (closedT c z old 0 T) w7):=hyd ⟨F7,by rw [HE.out];exact ht7.less (fun k hk=>List.mem_cons_of_mem _ hk),HU6.out.trans' hu7⟩;clear ht7 hu7
 go_wp2_with fail
 go_end0
 exact ⟨rfl,HD.out⟩
theorem waits_some (tb sb wb:Nat) (w:World) (op left:Int) (p:Pkt) (kind:Int) (codes:ByteArray) (kept:Option Nat) (done a b:Value) (hl:left ≠ 0) (hw:w.heap[wb]? = some (.cells (waitC op p kind left codes kept done).toArray 110 (0,0))) (hs:w.heap[sb]? = some (.cells [a,b].toArray 105 (0,0))) :
  Calls Tryz.prog 112 #[.pointer (some ⟨tb,0,none⟩),.pointer (some ⟨sb,0,none⟩),.pointer (some ⟨wb,0,none⟩)] w fun e w'=>e = .returned (.tuple #[])/\w'=w.setCell ⟨sb,1,none⟩ (bxV wb):=by
 have c27:w.cell? ⟨wb,27,none⟩=some (.int .i64 left):=by rw [cell_of_row _ _ 27 _ _ _ hw];rfl
 have c1:w.cell? ⟨sb,1,none⟩=some b:=by rw [cell_of_row _ _ 1 _ _ _ hs];rfl
 have f1:=frozen_of_row w sb 1 _ _ hs;clear hw hs
 go_enter Tryz.func112, Tryz.ntmps112
 go_wp2_with fail
 go_end0
 exact ⟨rfl,rfl⟩
theorem waits_att (tb sb wb b1 b2 b3:Nat) (w:World) (op:Int) (p:Pkt) (kind:Int) (codes:ByteArray) (kept:Option Nat) (Q:World->Prop) (hw:w.heap[wb]? = some (.cells (waitC op p kind 0 codes kept (.func (.func 190) #[] #[bxV b1,bxV b2,bxV b3])).toArray 110 (0,0)))
  (hc:Calls Tryz.prog 190 #[.pointer (some ⟨tb,0,none⟩),bxV b1,bxV b2,bxV b3] w fun e w'=>e = .returned (.tuple #[])/\Q w') :
  Calls Tryz.prog 112 #[.pointer (some ⟨tb,0,none⟩),.pointer (some ⟨sb,0,none⟩),.pointer (some ⟨wb,0,none⟩)] w fun e w'=>e = .returned (.tuple #[])/\Q w':=by
 have c27:w.cell? ⟨wb,27,none⟩=some (.int .i64 0):=by rw [cell_of_row _ _ 27 _ _ _ hw];rfl
 have c30:w.cell? ⟨wb,30,none⟩=some (.func (.func 190) #[] #[bxV b1,bxV b2,bxV b3]):=by rw [cell_of_row _ _ 30 _ _ _ hw];rfl
 have HC:=hyd hc;clear hw hc
 go_enter Tryz.func112, Tryz.ntmps112
 go_wp2_with fail
 refine HC.out.mono ?_;rintro e w2 ⟨rfl,hq⟩
 go_wp2_with fail
 (try simp only [Exit.inBlock,Exit.then])
 refine bodyPost_ret (results_none rfl _ _ _) rfl ?_;exact ⟨rfl,hq⟩
theorem waits_sub (tb sb wb b1 b2 b3:Nat) (w:World) (op:Int) (p:Pkt) (kind:Int) (codes:ByteArray) (kept:Option Nat) (Q:World->Prop) (hw:w.heap[wb]? = some (.cells (waitC op p kind 0 codes kept (.func (.func 115) #[] #[bxV b1,bxV b2,bxV b3])).toArray 110 (0,0)))
  (hc:Calls Tryz.prog 115 #[.pointer (some ⟨tb,0,none⟩),bxV b1,bxV b2,bxV b3] w fun e w'=>e = .returned (.tuple #[])/\Q w') :
  Calls Tryz.prog 112 #[.pointer (some ⟨tb,0,none⟩),.pointer (some ⟨sb,0,none⟩),.pointer (some ⟨wb,0,none⟩)] w fun e w'=>e = .returned (.tuple #[])/\Q w':=by
 have c27:w.cell? ⟨wb,27,none⟩=some (.int .i64 0):=by rw [cell_of_row _ _ 27 _ _ _ hw];rfl
 have c30:w.cell? ⟨wb,30,none⟩=some (.func (.func 115) #[] #[bxV b1,bxV b2,bxV b3]):=by rw [cell_of_row _ _ 30 _ _ _ hw];rfl
 have HC:=hyd hc;clear hw hc
 go_enter Tryz.func112, Tryz.ntmps112
 go_wp2_with fail
 refine HC.out.mono ?_;rintro e w2 ⟨rfl,hq⟩
 go_wp2_with fail
 (try simp only [Exit.inBlock,Exit.then])
 refine bodyPost_ret (results_none rfl _ _ _) rfl ?_;exact ⟨rfl,hq⟩
theorem waits_uns (tb sb wb b1:Nat) (w:World) (op:Int) (p:Pkt) (kind:Int) (codes:ByteArray) (kept:Option Nat) (Q:World->Prop) (hw:w.heap[wb]? = some (.cells (waitC op p kind 0 codes kept (.func (.func 122) #[] #[bxV b1])).toArray 110 (0,0)))
  (hc:Calls Tryz.prog 122 #[.pointer (some ⟨tb,0,none⟩),bxV b1] w fun e w'=>e = .returned (.tuple #[])/\Q w') :
  Calls Tryz.prog 112 #[.pointer (some ⟨tb,0,none⟩),.pointer (some ⟨sb,0,none⟩),.pointer (some ⟨wb,0,none⟩)] w fun e w'=>e = .returned (.tuple #[])/\Q w':=by
 have c27:w.cell? ⟨wb,27,none⟩=some (.int .i64 0):=by rw [cell_of_row _ _ 27 _ _ _ hw];rfl
 have c30:w.cell? ⟨wb,30,none⟩=some (.func (.func 122) #[] #[bxV b1]):=by rw [cell_of_row _ _ 30 _ _ _ hw];rfl
 have HC:=hyd hc;clear hw hc
 go_enter Tryz.func112, Tryz.ntmps112
 go_wp2_with fail
 refine HC.out.mono ?_;rintro e w2 ⟨rfl,hq⟩
 go_wp2_with fail
 (try simp only [Exit.inBlock,Exit.then])
 refine bodyPost_ret (results_none rfl _ _ _) rfl ?_;exact ⟨rfl,hq⟩
theorem waits_fin (tb sb wb b1 b2:Nat) (w:World) (op:Int) (p:Pkt) (kind:Int) (codes:ByteArray) (kept:Option Nat) (Q:World->Prop) (hw:w.heap[wb]? = some (.cells (waitC op p kind 0 codes kept (.func (.func 111) #[] #[bxV b1,bxV b2])).toArray 110 (0,0)))
  (hc:Calls Tryz.prog 111 #[.pointer (some ⟨tb,0,none⟩),bxV b1,bxV b2] w fun e w'=>e = .returned (.tuple #[])/\Q w') :
  Calls Tryz.prog 112 #[.pointer (some ⟨tb,0,none⟩),.pointer (some ⟨sb,0,none⟩),.pointer (some ⟨wb,0,none⟩)] w fun e w'=>e = .returned (.tuple #[])/\Q w':=by
 have c27:w.cell? ⟨wb,27,none⟩=some (.int .i64 0):=by rw [cell_of_row _ _ 27 _ _ _ hw];rfl
 have c30:w.cell? ⟨wb,30,none⟩=some (.func (.func 111) #[] #[bxV b1,bxV b2]):=by rw [cell_of_row _ _ 30 _ _ _ hw];rfl
 have HC:=hyd hc;clear hw hc
 go_enter Tryz.func112, Tryz.ntmps112
 go_wp2_with fail
 refine HC.out.mono ?_;rintro e w2 ⟨rfl,hq⟩
 go_wp2_with fail
 (try simp only [Exit.inBlock,Exit.then])
 refine bodyPost_ret (results_none rfl _ _ _) rfl ?_;exact ⟨rfl,hq⟩
end
section
open Go Go.RowKit Go.Maps
section
variable {c:HCfg} {ad:HAd} {w w':World} {tb:Nat} {t:Tn} {v:TnV} {E:List Nat} {cl:ByteArray} {z:HSeat}
theorem TurnP.sesIn (h0:t.seat cl=some z):∀ k ∈ (v.sv cl).F,k ∈ feet (pcs c ad tb v t):=fun k hk=>by
 obtain ⟨hm,hc⟩:=seat_at h0;refine mem_feet.2 ⟨sesPc (ad.sess z.s.client) z.s c.win c.most (v.sv cl).F,?_,hk⟩;unfold pcs restPcs;refine List.mem_cons_of_mem _ (List.mem_cons_of_mem _ (List.mem_cons_of_mem _ (List.mem_cons_of_mem _ (List.mem_cons_of_mem _ (List.mem_append_left _ (List.mem_flatMap.2 ⟨z,hm,?_⟩))))));rw [hc];simp [seatPcs,hc]
theorem sesPcs_eq {s':SS} {F1:List Nat} (hz:s'.client=cl):seatPcs c ad { v.sv cl with F:=F1 } ⟨s',z.busy⟩=cellPc (ad.seat cl) [bxV (ad.sess cl),busyV (v.sv cl) z.busy] 105 :: sesPc (ad.sess cl) s' c.win c.most F1 :: busyPcs (v.sv cl) z.busy:=by
 unfold seatPcs;rw [hz]
 cases hb:z.busy with
 | none=>rfl
 | some k=>obtain ⟨k,left⟩:=k;cases k <;> rfl
theorem TurnP.sesFeet (hnd:(t.seats.map (·.s.client)).Nodup) (h0:t.seat cl=some z) {s':SS} {F1:List Nat} (hz:s'.client=cl) :
  ∀ k ∈ feet (pcs c ad tb { v with sv:=SeV.put v.sv cl { v.sv cl with F:=F1 } } (t.setS cl ⟨s',z.busy⟩)),k ∈ feet (pcs c ad tb v t) \/ k ∈ F1:=fun k hk=>by
 obtain ⟨A,B,e0,e1⟩:=pcs_split (c:=c) (ad:=ad) (tb:=tb) (v:=v) hnd h0;rw [e1 { v.sv cl with F:=F1 } ⟨s',z.busy⟩ hz,sesPcs_eq hz,feet_app,feet_app] at hk;rw [e0,feet_app,feet_app];have hzc:=(seat_at h0).2
 have e2:seatPcs c ad (v.sv cl) z=cellPc (ad.seat cl) [bxV (ad.sess cl),busyV (v.sv cl) z.busy] 105 :: sesPc (ad.sess cl) z.s c.win c.most (v.sv cl).F :: busyPcs (v.sv cl) z.busy:=by
  unfold seatPcs;rw [hzc]
 rw [e2];simp only [feet,List.flatMap_cons,List.mem_append] at hk ⊢;have e3:∀ s F,(sesPc (ad.sess cl) s c.win c.most F).F=F:=fun _ _=>rfl
 have e4:∀ cs,(cellPc (ad.seat cl) cs 105).F = [ad.seat cl]:=fun _=>rfl
 rw [e3,e4] at hk;rw [e3,e4]
 rcases hk with hk | (hk | hk | hk) | hk
 ·exact .inl (.inl hk)
 ·exact .inl (.inr (.inl (.inl hk)))
 ·exact .inr hk
 ·exact .inl (.inr (.inl (.inr (.inr hk))))
 ·exact .inl (.inr (.inr hk))
theorem TurnAt.ses {F:List Nat} (h:TurnAt c ad w tb t E F) (hok:HOk t) (h0:t.seat cl=some z):∃ FS,SesRep w (ad.sess cl) c.win c.most z.s FS/\(∀ k ∈ FS,k ∈ F) ∧
  ∀ w' s' FS',s'.client=cl->SesRep w' (ad.sess cl) c.win c.most s' FS'->Upd FS FS' w w' -> ∃ F',TurnAt c ad w' tb (t.setS cl ⟨s',z.busy⟩) E F'/\Upd F F' w w' /\ ∀ k ∈ F',k ∈ F \/ k ∈ FS':=by
 obtain ⟨v,hP,rfl⟩:=h;obtain ⟨-,hs⟩:=hP.seatSes h0;refine ⟨_,hs,TurnP.sesIn h0,fun w' s' FS' hz hr hu => ?_⟩;obtain ⟨h3,h4⟩:=hP.ses hok.nd h0 (s':=s') hz hr hu;exact ⟨_,⟨_,h3,rfl⟩,h4,TurnP.sesFeet hok.nd h0 hz⟩
theorem TurnAt.outs {F:List Nat} (h:TurnAt c ad w tb t E F) (hok:HOk t) (h0:t.seat cl=some z):∃ ob FO,w.cell? ⟨ad.sess cl,9,none⟩=some (.pointer (some ⟨ob,0,none⟩))/\OutRep w ob c.win c.most z.s.o FO/\(∀ k ∈ FO,k ∈ F) ∧
  ∀ w' o' FO',OutRep w' ob c.win c.most o' FO'->Upd FO FO' w w' -> ∃ F',TurnAt c ad w' tb (t.setS cl ⟨z.s.setO o',z.busy⟩) E F'/\Upd F F' w w'/\(∀ k ∈ F',k ∈ F \/ k ∈ FO')/\w'.cell? ⟨ad.sess cl,9,none⟩=some (.pointer (some ⟨ob,0,none⟩)):=by
 obtain ⟨FS,⟨lb,ob,cb,FL,FO,FC,hp,rfl⟩,hin,hn⟩:=h.ses hok h0;refine ⟨ob,FO,hp.cells.2.2.2.2.2.2.2.2.2.1,hp.out,fun k hk=>hin k (mem_sFoot.2 (.inr (.inr (.inl hk)))),fun w' o' FO' ho hu => ?_⟩;obtain ⟨hp',hu'⟩:=hp.turnO ho hu;obtain ⟨F',h1,h2,h3⟩:=hn w' (z.s.setO o') _ (seat_at h0).2 ⟨lb,ob,cb,FL,FO',FC,hp',rfl⟩ hu';refine ⟨F',h1,h2,fun k hk=>(h3 k hk).elim .inl fun hk => ?_,hp'.cells.2.2.2.2.2.2.2.2.2.1⟩
 rcases mem_sFoot.1 hk with e | e | e | e
 ·exact .inl (hin k (mem_sFoot.2 (.inl e)))
 ·exact .inl (hin k (mem_sFoot.2 (.inr (.inl e))))
 ·exact .inr e
 ·exact .inl (hin k (mem_sFoot.2 (.inr (.inr (.inr e)))))
theorem TurnAt.lists {F:List Nat} (h:TurnAt c ad w tb t E F) (hok:HOk t) (h0:t.seat cl=some z):∃ lb FL,w.cell? ⟨ad.sess cl,8,none⟩=some (.pointer (some ⟨lb,0,none⟩))/\SRep w lb z.s.l FL/\(∀ k ∈ FL,k ∈ F) ∧
  ∀ w' l' FL',SRep w' lb l' FL'->Upd FL FL' w w' -> ∃ F',TurnAt c ad w' tb (t.setS cl ⟨z.s.setL l',z.busy⟩) E F'/\Upd F F' w w'/\(∀ k ∈ F',k ∈ F \/ k ∈ FL')/\w'.cell? ⟨ad.sess cl,8,none⟩=some (.pointer (some ⟨lb,0,none⟩)):=by
 obtain ⟨FS,⟨lb,ob,cb,FL,FO,FC,hp,rfl⟩,hin,hn⟩:=h.ses hok h0;refine ⟨lb,FL,hp.cells.2.2.2.2.2.2.2.2.1,hp.subs,fun k hk=>hin k (mem_sFoot.2 (.inr (.inl hk))),fun w' o' FO' ho hu => ?_⟩;obtain ⟨hp',hu'⟩:=hp.turnL ho hu;obtain ⟨F',h1,h2,h3⟩:=hn w' (z.s.setL o') _ (seat_at h0).2 ⟨lb,ob,cb,FO',FO,FC,hp',rfl⟩ hu';refine ⟨F',h1,h2,fun k hk=>(h3 k hk).elim .inl fun hk => ?_,hp'.cells.2.2.2.2.2.2.2.2.1⟩
 rcases mem_sFoot.1 hk with e | e | e | e
 ·exact .inl (hin k (mem_sFoot.2 (.inl e)))
 ·exact .inr e
 ·exact .inl (hin k (mem_sFoot.2 (.inr (.inr (.inl e)))))
 ·exact .inl (hin k (mem_sFoot.2 (.inr (.inr (.inr e)))))
theorem TurnAt.cames {F:List Nat} (h:TurnAt c ad w tb t E F) (hok:HOk t) (h0:t.seat cl=some z):∃ cb FC,w.cell? ⟨ad.sess cl,10,none⟩=some (.pointer (some ⟨cb,0,none⟩))/\CRep w cb z.s.came FC/\(∀ k ∈ FC,k ∈ F) ∧
  ∀ w' l' FC',CRep w' cb l' FC'->Upd FC FC' w w' -> ∃ F',TurnAt c ad w' tb (t.setS cl ⟨z.s.setC l',z.busy⟩) E F'/\Upd F F' w w'/\(∀ k ∈ F',k ∈ F \/ k ∈ FC')/\w'.cell? ⟨ad.sess cl,10,none⟩=some (.pointer (some ⟨cb,0,none⟩)):=by
 obtain ⟨FS,⟨lb,ob,cb,FL,FO,FC,hp,rfl⟩,hin,hn⟩:=h.ses hok h0;refine ⟨cb,FC,hp.cells.2.2.2.2.2.2.2.2.2.2,hp.came,fun k hk=>hin k (mem_sFoot.2 (.inr (.inr (.inr hk)))),fun w' o' FO' ho hu => ?_⟩;obtain ⟨hp',hu'⟩:=hp.turnC ho hu;obtain ⟨F',h1,h2,h3⟩:=hn w' (z.s.setC o') _ (seat_at h0).2 ⟨lb,ob,cb,FL,FO,FO',hp',rfl⟩ hu';refine ⟨F',h1,h2,fun k hk=>(h3 k hk).elim .inl fun hk => ?_,hp'.cells.2.2.2.2.2.2.2.2.2.2⟩
 rcases mem_sFoot.1 hk with e | e | e | e
 ·exact .inl (hin k (mem_sFoot.2 (.inl e)))
 ·exact .inl (hin k (mem_sFoot.2 (.inr (.inl e))))
 ·exact .inl (hin k (mem_sFoot.2 (.inr (.inr (.inl e)))))
 ·exact .inr e
theorem pump_len' (win:Int) (o:OT):(pumpO win o.wait o.row).1.length<=o.wait.length:=(pump_len win o.wait o.row).1
end
structure Keeps (w0:World):Prop where
 t:Tabs w0
 b:Bru w0
theorem Keeps.zero {w0 w:World} {F:List Nat} (h:Keeps w0) (hB:Base w0 w F):0 ∉ F:=fun hk=>by
 have h1:=hB.2 0 hk;have h2:=World.block_lt_of_cell? w0 _ (h.b 0 (by decide));omega
theorem tpump_any (w0:World) (hK:Keeps w0) (c:HCfg) (ad:HAd) (tb:Nat) (T:Tn) (E F:List Nat) (w:World) (cl:ByteArray) (z:HSeat) (h:TurnAt c ad w tb T E F) (hB:Base w0 w F) (hok:HOk T) (h0:T.seat cl=some z) :
  ∃ ob,w.cell? ⟨ad.sess cl,9,none⟩=some (.pointer (some ⟨ob,0,none⟩)) /\ ∀ X,Below w.heap.size w X->Calls Tryz.prog 71 #[.pointer (some ⟨ob,0,none⟩)] X fun e w' => ∃ v F',e = .returned v ∧
   w'.ownsRow X.heap.size 39 24 v (pumpO c.win z.s.o.wait z.s.o.row).1.length (pksV (pumpO c.win z.s.o.wait z.s.o.row).1)/\TurnAt c ad w' tb (T.setS cl ⟨z.s.setO (pumpO c.win z.s.o.wait z.s.o.row).2,z.busy⟩) E F'/\Upd F F' X w'/\Off (E++F') v.ownBlock.toList/\w'.cell? ⟨ad.sess cl,9,none⟩=some (.pointer (some ⟨ob,0,none⟩)):=by
 obtain ⟨ob,FO,h1,-⟩:=h.outs hok h0;refine ⟨ob,h1,fun X hX => ?_⟩;have hTX:=h.below hX;have hBX:=hB.below hX;obtain ⟨ob',FO,h1',h2,h3,h4⟩:=hTX.outs hok h0
 have e:ob'=ob:=by
  have:=(hX.cell (p:=⟨ad.sess cl,9,none⟩) (World.block_lt_of_cell? w _ h1)).trans h1;rw [h1'] at this
  simpa using this
 subst e;refine (pump_any ob' c.win c.most z.s.o FO X h2 (hK.b.below hBX.1) (fun hk=>hK.zero hBX (h3 0 hk))).mono ?_;rintro e w' ⟨v,FO',rfl,ho,hr,hu,hof⟩;obtain ⟨F',g1,g2,g3,g4⟩:=h4 w' _ FO' hr hu;refine ⟨v,F',rfl,ho,g1,g2,fun k hk hk' => ?_,g4⟩;have hkX:X.heap.size<=k:=(ho.lt k (Option.mem_toList.1 hk')).1
 rcases List.mem_append.1 hk with hk | hk
 ·have:=hTX.lt k (List.mem_append_left _ hk);omega
 ·rcases g3 k hk with hk | hk
  ·have:=hTX.lt k (List.mem_append_right _ hk);omega
  ·exact hof k hk hk'
end
end Go.Proofs.YtcekcoepdhnfgaaGreatDoor
