/- publish, acks, connect. -/
import Derived.Test.YtcekcoepdhnfgaaGreatDoorHAY
import Derived.StillTailTactics
import Derived.Test.YtcekcoepdhnfgaaGreatDoorSeWX
import Derived.Test.YtcekcoepdhnfgaaGreatDoorOutY
namespace Go.Proofs.YtcekcoepdhnfgaaGreatDoor
section
open Go Go.RowKit Go.Maps
theorem item_id {X:World} {b:Nat} {x:Item} {T:TypeId} (h:X.heap[b]? = some (.cells x.cells.toArray T (0,0))):X.cell? ⟨b,9,none⟩=some (.int .u16 x.pk.id):=cell_of_row _ _ 9 _ _ _ h
theorem item_kind {X:World} {b:Nat} {x:Item} {T:TypeId} (h:X.heap[b]? = some (.cells x.cells.toArray T (0,0))):X.cell? ⟨b,0,none⟩=some (.int .u8 x.kind):=cell_of_row _ _ 0 _ _ _ h
set_option maxRecDepth 100000
set_option maxHeartbeats 4000000
theorem unsub1_any (c:HCfg) (ad:HAd) (tb:Nat) (T:Tn) (E F:List Nat) (w:World) (x:Item) (b1:Nat) (h:TurnAt c ad w tb T E F) (hn1:1<=c.n) (hn2:c.n<=64)
  (s1:Stay w F b1 x.cells 44) (hx:ItOk x) (hn:T.mails.length+1<=100000) (hnn:T.notes.length<=100000) :
  Calls Tryz.prog 122 #[.pointer (some ⟨tb,0,none⟩),.pointer (some ⟨b1,0,none⟩)] w fun e w'=>e = .returned (.tuple #[])/\TDone c ad tb E F w (doneUns c x T) w':=by
 obtain ⟨T1,hT1⟩:∃ T1,answersT c x.conn [ackK 11 x.pk.id] T=T1:=⟨_,rfl⟩;have hgr:=gr_answers (c:=c) (t:=T) x.conn [ackK 11 x.pk.id];rw [hT1] at hgr;have g1:=hgr.n;have HE:Hid (doneUns c x T=T1.note (noteN 3 x.op x.conn x.client)):=hyd (by rw [<- hT1];rfl);have HAN:=hyd (fun X a cp (hX:TurnAt c ad X tb T E F) (hb:Beside X (E++F) a (pksV [ackK 11 x.pk.id]))=>answers_any c ad tb T E F X x.conn [ackK 11 x.pk.id] a cp hX hn1 hn2 hx.conn.2 hb hn (by simp));rw [hT1] at HAN;have HNO:=hyd (fun X G (hX:TurnAt c ad X tb T1 E G)=>note_plain c ad tb T1 E G X (noteN 3 x.op x.conn x.client) hX (noSubs_n _ _ _ _) (by omega));have HNB:=hyd (fun (_:Unit)=>built_noteK 3 x.op x.conn x.client);have HCB:=hyd (fun (_:Unit)=>built_ackK 11 x.pk.id);have HCS:=hyd (build_pk (ackK 11 x.pk.id));have HPV:Hid (pksV [ackK 11 x.pk.id]=(ackK 11 x.pk.id).cells):=hyd (by simp [pksV]);obtain ⟨-,q2,-⟩:=itC s1.2.2;have q9:=item_id s1.2.2;have HS1:=hyd s1;have HT:=hyd h;have HLT:=hyd h.lt;have HOB:=hyd (fun (CL:List Value)=>Beside.new HLT.out CL 39);clear h hn1 hn2 s1 hx hn hnn hT1 hgr g1;rw [HPV.out] at HAN;generalize (ackK 11 x.pk.id).cells=CL at *;generalize (noteN 3 x.op x.conn x.client).cells=NL at *
 go_enter Tryz.func122, Tryz.ntmps122
 go_wp2_with (first
  | (refine wpList_buildBy rfl 39 _ rfl _ rfl CL.toArray [(0,.int .u8 11),(4,.int .u16 x.pk.id)] (by kernel_rfl) (HCB.out ()) ?_)
  | (refine wpList_build1 HCS.out rfl _ rfl rfl _ rfl _ rfl ?_)
  | fail)
 refine (HAN.out _ (some ⟨w.heap.size,0,none⟩) 1 (HT.out.below (low_alloc w _)) (HOB.out CL)).mono ?_;rintro e w2 ⟨rfl,F2,ht2,hu2⟩;have HT2:=hyd ht2;have HU2:=hyd (Upd.pre (low_alloc w _) hu2);clear ht2 hu2 q2 q9;obtain ⟨q1,q2,q3⟩:=itC (HS1.out.upd HU2.out).2.2
 go_wp2_with (first
  | (refine wpList_buildBy rfl 79 _ rfl _ rfl NL.toArray [(0,.int .u8 3),(1,.int .i64 x.op),(2,.int .i64 x.conn),(3,.string x.client)] (by kernel_rfl) (HNB.out ()) ?_)
  | fail)
 refine (HNO.out w2 F2 HT2.out).mono ?_;rintro e w3 ⟨rfl,F3,ht3,hu3⟩;have HD:Hid (TDone c ad tb E F w (doneUns c x T) w3):=hyd ⟨F3,by rw [HE.out];exact ht3,HU2.out.trans' hu3⟩;clear ht3 hu3 q1 q2 q3
 go_wp2_with fail
 go_end0
 exact ⟨rfl,HD.out⟩
theorem PMap.del' {w w2:World} {m n n':Nat} {f:List UInt8->Option Nat} {D:DataW Unit} {x:List UInt8} (hD1:w.ownsMap Tryz.prog 9 ptrElem m (Maps.size D) D) (hD2:Maps.size D<=n) (hD3:∀ x,Maps.has D (.string x)=(f x).isSome /\ ∀ b,f x=some b -> ∀ z,D.atKey (.string x) z=ptrDat b)
  (hs:(f x).isSome=true) (hown2:w2.ownsMap Tryz.prog 9 ptrElem m n' (D.del (.string x))):PMap w2 m (n - 1) (updF f x none):=by
 obtain ⟨D',h1,h2,h3⟩:=PMap.del hD1 (Nat.le_refl _) hD3 hown2;have hT:=hD1.tidy kS;refine ⟨D.del (.string x),owns_tightR hown2,?_,fun y => ?_⟩
 ·have:=size_del (k:=.string x) hT
  rw [(hD3 x).1,hs] at this;simp at this;omega
 ·by_cases e:y=x
  ·subst e
   refine ⟨by rw [has_del_same,updF_same];rfl,fun b' hb z => ?_⟩;rw [updF_same] at hb
   cases hb
  ·refine ⟨by rw [has_del_other (by simpa using e),updF_other e];exact (hD3 y).1,fun b' hb z => ?_⟩
   rw [updF_other e] at hb;rw [atKey_del_other (by simpa using e)];exact (hD3 y).2 b' hb z
theorem del_len {t:Tn} (hnd:(t.seats.map (·.s.client)).Nodup) {cl:ByteArray} {z:HSeat} (h0:t.seat cl=some z):(t.seats.filter fun z=>decide (z.s.client ≠ cl)).length=t.seats.length - 1:=by
 obtain ⟨S1,S2,e,h1,h2⟩:=seat_split hnd h0;have hzc:=(seat_at h0).2;have g:∀ S:List HSeat,(∀ y ∈ S,y.s.client ≠ cl)->(S.filter fun z=>decide (z.s.client ≠ cl))=S:=fun S hS=>List.filter_eq_self.2 fun y hy=>by simpa using hS y hy
 rw [e,List.filter_append,List.filter_cons,if_neg (by simp [hzc]),g S1 h1,g S2 h2];simp
end
section
open Go Go.RowKit Go.Maps
theorem finS_len (x:Item) (clean:Bool) (t:Tn):(finS x clean t).mails=t.mails/\(finS x clean t).notes=t.notes:=by
 unfold finS
 split <;> exact ⟨rfl,rfl⟩
set_option maxRecDepth 100000
set_option maxHeartbeats 4000000
theorem ends1_rest (c:HCfg) (ad:HAd) (tb:Nat) (T0:Tn) (E F0:List Nat) (x:Item) (clean:Bool) (hn1:1<=c.n) (hn2:c.n<=64) (hx:ItOk x) (hn:T0.mails.length+1<=100000) (hnn:T0.notes.length<=100000) :
  (x.kind=1 -> ∀ (X:World) (lb:Nat),TurnAt c ad X tb (finS x clean T0) E F0->Stay X F0 lb (bareX 15).cells 44 -> Calls Tryz.prog 106 #[.pointer (some ⟨tb,0,none⟩),.int .i64 7,.int .i64 x.conn,.slice (some ⟨lb,0,none⟩) 1 1] X fun e w'=>e = .returned (.tuple #[])/\TDone c ad tb E F0 X (gateT c 7 x.conn (itK 15 0 ⟨#[]⟩) (finS x clean T0)) w') ∧
  (∀ X G,TurnAt c ad X tb (if x.kind=1 then gateT c 7 x.conn (itK 15 0 ⟨#[]⟩) (finS x clean T0) else finS x clean T0) E G->Calls Tryz.prog 107 #[.pointer (some ⟨tb,0,none⟩),.agg (noteN 3 x.op x.conn x.client).cells.toArray] X fun e w'=>e = .returned (.tuple #[])/\TDone c ad tb E G X (doneFin c x clean T0) w'):=by
 obtain ⟨e1,e2⟩:=finS_len x clean T0;refine ⟨fun _ X lb hX hst=>tgate_any c ad tb (finS x clean T0) E F0 X 7 x.conn (bareX 15) (itK 15 0 ⟨#[]⟩) none 0 lb hX hn1 hn2 hx.conn.2 hst rfl (.inl rfl) (by rw [e1];omega),fun X G hX => ?_⟩;refine note_plain c ad tb _ E G X (noteN 3 x.op x.conn x.client) hX (noSubs_n _ _ _ _) ?_
 split
 ·show (finS x clean T0).notes.length<=_;rw [e2];exact hnn
 ·rw [e2];exact hnn
theorem ends1_any (c:HCfg) (ad:HAd) (tb:Nat) (T:Tn) (E F:List Nat) (w:World) (cl:ByteArray) (z:HSeat) (x:Item) (clean:Bool) (b1 b2:Nat) (h:TurnAt c ad w tb T E F) (hok:HOk T) (hn1:1<=c.n) (hn2:c.n<=64) (h0:T.seat cl=some z) (hcl:x.client=cl)
  (s1:Stay w F b1 [.bool clean] 4) (s2:Stay w F b2 x.cells 44) (hx:ItOk x) (hn:T.mails.length+1<=100000) (hnn:T.notes.length<=100000) :
  Calls Tryz.prog 111 #[.pointer (some ⟨tb,0,none⟩),.pointer (some ⟨b1,0,none⟩),.pointer (some ⟨b2,0,none⟩)] w fun e w'=>e = .returned (.tuple #[])/\TDone c ad tb E F w (doneFin c x clean T) w':=by
 have HR:=hyd (fun F0=>ends1_rest c ad tb T E F0 x clean hn1 hn2 hx hn hnn);have HNB:=hyd (fun (_:Unit)=>built_noteK 3 x.op x.conn x.client);have HIB:=hyd (fun (_:Unit)=>built_bare 15);have HIS:=hyd (build_item (bareX 15));have HS1:=hyd s1;have HS2:=hyd s2;have p1:=stay_cell0 s1;have hcs:cl.size<=maxLen:=by have:=hx.client;rw [hcl] at this;unfold maxLen;omega
 obtain ⟨v,hP,rfl⟩:=h;obtain ⟨D,hD1,hD2,hD3⟩:=hP.seats
 have HDL:Hid (clean=true -> ∀ (w4:World) (n':Nat),w4.ownsMap Tryz.prog 9 ptrElem ad.ms n' (D.del (.string cl.data.toList))->Mod [ad.ms] w w4->TDone c ad tb E (feet (pcs c ad tb v T)) w (finS x clean T) w4):=hyd (fun hc w4 n' hown hm=>by
  have hpm:=PMap.del' hD1 hD2 hD3 (x:=cl.data.toList) (by unfold seatF;rw [show (⟨cl.data.toList.toArray⟩:ByteArray)=cl from str_eta cl,h0];rfl) hown;obtain ⟨g1,g2⟩:=hP.seatDel (cl:=cl) (w':=w4) (by rw [del_len hok.nd h0];exact hpm) hm;unfold finS;rw [if_pos hc,hcl]
  exact ⟨_,⟨_,g1,rfl⟩,g2⟩)
 have HT:Hid (TurnAt c ad w tb T E (feet (pcs c ad tb v T))):=hyd ⟨v,hP,rfl⟩;have HD1:=hyd hD1;obtain ⟨t0,-,-,-,t6,-⟩:=hP.cells;have q3:=(itC s2.2.2).client;rw [hcl] at q3;have HKE:=hyd (skey (s:=cl) hcs);clear hP hok hn1 hn2 h0 s1 s2 hx hn hnn hD1 hD2 hD3 hcs hcl;generalize hF:feet (pcs c ad tb v T)=F at *;generalize (noteN 3 x.op x.conn x.client).cells=NL at *;generalize hXL:(bareX 15).cells=XL at *;have HRS:Hid (∀ (w2:World) (F2:List Nat),TurnAt c ad w2 tb (finS x clean T) E F2->Upd F F2 w w2->ItC w2 b2 x/\w2.cell? ⟨b2,0,none⟩=some (.int .u8 x.kind)):=hyd (fun w2 F2 _ hu=>⟨itC (HS2.out.upd hu).2.2,item_kind (HS2.out.upd hu).2.2⟩);have HNT:Hid (clean=false->TurnAt c ad w tb (finS x clean T) E F):=hyd (fun hc=>by rw [hc];exact HT.out);obtain ⟨cb,hcb⟩:∃ cb,clean=cb:=⟨_,rfl⟩;rw [hcb] at p1
 cases cb
 case false =>
  go_enter Tryz.func111, Tryz.ntmps111
  go_upto_region 2 with fail
  have HT2:=hyd (HNT.out hcb);have HU2:Hid (Upd F F w w):=hyd (Upd.refl _ _);clear p1 t0 t6 q3 hcb HNT HDL HT;obtain ⟨⟨q1,q2,q3⟩,q0⟩:=HRS.out w F HT2.out HU2.out
  by_cases hk:x.kind=1
  ·rw [hk] at q0
   go_wp2_with (first
    | (refine wpList_buildBy rfl 44 _ rfl _ rfl XL.toArray [(0,.int .u8 15)] (by kernel_rfl) (HIB.out ()) ?_)
    | (refine wpList_build1 HIS.out rfl _ rfl rfl _ rfl _ rfl ?_)
    | fail)
   refine (((HR.out F).1 hk _ w.heap.size (HT2.out.below (low_alloc w _)) (stay_new (fun k hk=>HT2.out.lt k (List.mem_append_right _ hk)) XL 44))).mono ?_;rintro e w3 ⟨rfl,F3,ht3,hu3⟩;have HU3:=hyd (HU2.out.trans' (Upd.pre (low_alloc w _) hu3));have HT3:=hyd ht3;clear ht3 hu3 q0 q1 q2 q3;obtain ⟨q1,q2,q3⟩:=itC (HS2.out.upd HU3.out).2.2
   go_wp2_with (first
    | (refine wpList_buildBy rfl 79 _ rfl _ rfl NL.toArray [(0,.int .u8 3),(1,.int .i64 x.op),(2,.int .i64 x.conn),(3,.string x.client)] (by kernel_rfl) (HNB.out ()) ?_)
    | fail)
   refine ((HR.out F3).2 w3 F3 (by rw [if_pos hk];exact HT3.out)).mono ?_;rintro e w4 ⟨rfl,F4,ht4,hu4⟩;have HD:Hid (TDone c ad tb E F w (doneFin c x clean T) w4):=hyd ⟨F4,ht4,HU3.out.trans' hu4⟩;clear ht4 hu4 q1 q2 q3
   go_wp2_with fail
   go_end0
   exact ⟨rfl,HD.out⟩
  ·go_wp2_with (first
    | (refine wpList_buildBy rfl 79 _ rfl _ rfl NL.toArray [(0,.int .u8 3),(1,.int .i64 x.op),(2,.int .i64 x.conn),(3,.string x.client)] (by kernel_rfl) (HNB.out ()) ?_)
    | fail)
   refine ((HR.out F).2 w F (by rw [if_neg hk];exact HT2.out)).mono ?_;rintro e w4 ⟨rfl,F4,ht4,hu4⟩;have HD:Hid (TDone c ad tb E F w (doneFin c x clean T) w4):=hyd ⟨F4,ht4,HU2.out.trans' hu4⟩;clear ht4 hu4 q0 q1 q2 q3
   go_wp2_with fail
   go_end0
   exact ⟨rfl,HD.out⟩
 case true =>
  go_enter Tryz.func111, Tryz.ntmps111
  go_upto_region 1 with fail
  go_still_tail 9,(by kernel_rfl)
  change wpList _ _ _ _ _ w.drew;have hown3:=HD1.out.drew;have hkey:=HKE.out
  go_upto_region 2 with (first | (at_delete;refine wpList_delete_own _ rfl _ _ 89 9 rfl 101 kS Tryz.underlying89 _ ad.ms _ _ rfl hown3 _ _ rfl hkey ?_;intro w2 hown4 hturn4;have HOW4:=hyd hown4;have HTU4:=hyd hturn4;clear hown4 hturn4) | fail)
  obtain ⟨F2,ht2,hu2⟩:=HDL.out hcb w2 _ HOW4.out ((Mod.refl _ _).drew.grown HTU4.out.grown (fun k hk => .inl (by simpa using hk.symm)));have HT2:=hyd ht2;have HU2:=hyd hu2;clear ht2 hu2 p1 t0 t6 q3 hcb HNT HDL HT hown3 hkey HOW4 HTU4;obtain ⟨⟨q1,q2,q3⟩,q0⟩:=HRS.out w2 F2 HT2.out HU2.out
  by_cases hk:x.kind=1
  ·rw [hk] at q0
   go_wp2_with (first
    | (refine wpList_buildBy rfl 44 _ rfl _ rfl XL.toArray [(0,.int .u8 15)] (by kernel_rfl) (HIB.out ()) ?_)
    | (refine wpList_build1 HIS.out rfl _ rfl rfl _ rfl _ rfl ?_)
    | fail)
   refine (((HR.out F2).1 hk _ w2.heap.size (HT2.out.below (low_alloc w2 _)) (stay_new (fun k hk=>HT2.out.lt k (List.mem_append_right _ hk)) XL 44))).mono ?_;rintro e w3 ⟨rfl,F3,ht3,hu3⟩;have HU3:=hyd (HU2.out.trans' (Upd.pre (low_alloc w2 _) hu3));have HT3:=hyd ht3;clear ht3 hu3 q0 q1 q2 q3;obtain ⟨q1,q2,q3⟩:=itC (HS2.out.upd HU3.out).2.2
   go_wp2_with (first
    | (refine wpList_buildBy rfl 79 _ rfl _ rfl NL.toArray [(0,.int .u8 3),(1,.int .i64 x.op),(2,.int .i64 x.conn),(3,.string x.client)] (by kernel_rfl) (HNB.out ()) ?_)
    | fail)
   refine ((HR.out F3).2 w3 F3 (by rw [if_pos hk];exact HT3.out)).mono ?_;rintro e w4 ⟨rfl,F4,ht4,hu4⟩;have HD:Hid (TDone c ad tb E F w (doneFin c x clean T) w4):=hyd ⟨F4,ht4,HU3.out.trans' hu4⟩;clear ht4 hu4 q1 q2 q3
   go_wp2_with fail
   go_end0
   exact ⟨rfl,HD.out⟩
  ·go_wp2_with (first
    | (refine wpList_buildBy rfl 79 _ rfl _ rfl NL.toArray [(0,.int .u8 3),(1,.int .i64 x.op),(2,.int .i64 x.conn),(3,.string x.client)] (by kernel_rfl) (HNB.out ()) ?_)
    | fail)
   refine ((HR.out F2).2 w2 F2 (by rw [if_neg hk];exact HT2.out)).mono ?_;rintro e w4 ⟨rfl,F4,ht4,hu4⟩;have HD:Hid (TDone c ad tb E F w (doneFin c x clean T) w4):=hyd ⟨F4,ht4,HU2.out.trans' hu4⟩;clear ht4 hu4 q0 q1 q2 q3
   go_wp2_with fail
   go_end0
   exact ⟨rfl,HD.out⟩
end
section
open Go Go.RowKit Go.Maps
def HAd.like (a b:HAd):Prop:=b.hb=a.hb/\b.lg=a.lg/\b.ms=a.ms/\b.mf=a.mf
theorem HAd.like_refl (a:HAd):a.like a:=⟨rfl,rfl,rfl,rfl⟩
set_option maxRecDepth 100000
set_option maxHeartbeats 4000000
theorem connect_att (w0:World) (hK:Keeps w0) (c:HCfg) (ad:HAd) (tb:Nat) (T:Tn) (E F:List Nat) (w:World) (cl:ByteArray) (z:HSeat) (x:Item) (h:TurnAt c ad w tb T E F) (hB:Base w0 w F) (hok:HOk T) (hn1:1<=c.n) (hn2:c.n<=64) (h0:T.seat cl=some z) (hbz:z.busy=none)
  (hx:ItOk x) (hc:1<=x.conn) (hcn:z.s.conn=0 \/ z.s.conn=x.conn) (hib:ItB w (E++F) x) (hn:T.mails.length+2000<=100000) (hnn:T.notes.length+2<=100000) :
  Calls Tryz.prog 62 #[.pointer (some ⟨tb,0,none⟩),.pointer (some ⟨ad.seat cl,0,none⟩),.agg x.cells.toArray] w fun e w'=>e = .returned (.tuple #[])/\TDone c ad tb E F w (attachT c z x T) w':=by
 have hlt:=h.lt;obtain ⟨W1,hW1⟩:∃ W1,w.alloc (.cells #[.pointer (some ⟨ad.seat cl,0,none⟩)] 101)=W1:=⟨_,rfl⟩;obtain ⟨W,hW⟩:∃ W,W1.alloc (.cells x.cells.toArray 44)=W:=⟨_,rfl⟩;have hz1:W1.heap.size=w.heap.size+1:=by rw [<- hW1];simp
 have hz2:W.heap.size=w.heap.size+2:=by rw [<- hW];simp [hz1]
 have hb2:Below w.heap.size w W:=by rw [<- hW,<- hW1];exact (low_alloc w _).alloc (by simp) _
 have hx2:W.heap[w.heap.size]? = some (.cells [bxV (ad.seat cl)].toArray 101 (0,0)):=by
  rw [<- hW,Below.heap_alloc _ _ _ (by omega),<- hW1];exact heap_alloc_new w _
 have hx3:W.heap[w.heap.size+1]? = some (.cells x.cells.toArray 44 (0,0)):=by rw [<- hz1,<- hW];exact heap_alloc_new W1 _
 have HAT:=hyd (fun X (hX:Below w.heap.size w X)=>attach_any w0 hK c ad tb T E F X cl z x (h.below hX) (hB.below hX) hok hn1 hn2 h0 hbz hx hc (hib.upd (Upd.of_below hX)) (by omega) (by omega));obtain ⟨d0,-,d1,-⟩:=(h.below hb2.drew).seatCells h0;have HS:Hid (W.drew.cell? ⟨w.heap.size,0,none⟩=some (.pointer (some ⟨ad.seat cl,0,none⟩))/\W.drew.cell? ⟨ad.seat cl,0,none⟩=some (.pointer (some ⟨ad.sess cl,0,none⟩))/\W.drew.cell? ⟨ad.sess cl,1,none⟩=some (.int .i64 z.s.conn)/\W.drew.cell? ⟨w.heap.size+1,2,none⟩=some (.int .i64 x.conn)):=hyd ⟨cell_of_row W.drew _ 0 _ _ _ hx2,d0,d1,cell_of_row W.drew _ 2 _ _ _ hx3⟩;have p0:W.cell? ⟨w.heap.size,0,none⟩=some (.pointer (some ⟨ad.seat cl,0,none⟩)):=HS.out.1;have HX3:=hyd hx3;have HB2:=hyd hb2;have HW1:=hyd hW1;have HW:=hyd hW;have HIS:Hid ((Tryz.prog.info? 44).map (·.size)=some x.cells.length):=hyd (item_size x);clear h hB hok hn1 hn2 h0 hbz hx hc hib hn hnn hlt hz1 hz2 hb2 hx2 hx3 hW1 hW d0 d1 hK;generalize x.cells=IL at *
 go_enter Tryz.func62, Tryz.ntmps62
 go_upto_region 1 with fail
 rw [HW1.out,HW.out]
 go_upto_region 4 with fail
 clear p0;refine wp_region_held_drew (S:=fun X=>X.cell? ⟨w.heap.size,0,none⟩=some (.pointer (some ⟨ad.seat cl,0,none⟩))/\X.cell? ⟨ad.seat cl,0,none⟩=some (.pointer (some ⟨ad.sess cl,0,none⟩))/\X.cell? ⟨ad.sess cl,1,none⟩=some (.int .i64 z.s.conn)/\X.cell? ⟨w.heap.size+1,2,none⟩=some (.int .i64 x.conn)) (by kernel_rfl) HS.out (fun hHeld => ?_);generalize z.s.conn=zc at *
 by_cases hz0:zc=0
 case' pos =>
  have hqd:(zc == 0)=true:=by simpa using hz0
  clear hz0 hcn;refine tA 0 (h:=tA 1 (h:=tA 2 (h:=tA 3 (h:=tA 4 (h:=tA 5 (h:=tA 6 (h:=tA 7 (h:=tA 8 (h:=sA 9 (h:=sA 10 (h:=sA 11 (h:=sA 12 (h:=sA 13 (h:=sA 14 (h:=sA 15 (h:=sA 16 (h:=sA 17 (h:=sA 18 (h:=tA 19 (h:=?_))))))))))))))))))));simp only [tks]
 case' neg =>
  have hqd:(zc == 0)=false:=by simpa using hz0
  have hqe:(zc == x.conn)=true:=by simpa using hcn.resolve_left hz0
  clear hz0 hcn;refine tA 0 (h:=tA 1 (h:=tA 2 (h:=tA 3 (h:=tA 4 (h:=tA 5 (h:=tA 6 (h:=tA 7 (h:=tA 8 (h:=tA 9 (h:=tA 10 (h:=tA 11 (h:=tA 12 (h:=tA 13 (h:=tA 14 (h:=tA 15 (h:=tA 16 (h:=tA 17 (h:=tA 18 (h:=tA 19 (h:=?_))))))))))))))))))));simp only [tks]
 all_goals
  refine wpAnyH_done (by kernel_rfl) ?_ _;clear hHeld;have p0:=HS.out.1;have hra:=range_blk (w:=W.drew) HX3.out;have HRA:=hyd hra;clear hra;have HB3:=hyd HB2.out.drew;generalize W.drew=w2 at *
  go_wp2_with (first
   | (refine wpList_loadMid rfl 44 _ rfl (w.heap.size+1) 0 rfl IL _ HRA.out Tryz.underlying44 rfl HIS.out _ rfl ?_)
   | fail)
  refine (HAT.out w2 HB3.out).mono ?_;rintro e w5 ⟨rfl,hd⟩;have HD:=hyd (TDone.pre HB3.out hd);clear hd p0
  go_wp2_with fail
  (try simp only [Exit.inBlock,Exit.then])
  refine bodyPost_ret (results_none rfl _ _ _) rfl ?_;exact ⟨rfl,HD.out⟩
end
section
open Go Go.RowKit Go.Maps
set_option maxRecDepth 100000
set_option maxHeartbeats 4000000
theorem connect_close (c:HCfg) (ad:HAd) (tb:Nat) (T:Tn) (E F:List Nat) (w:World) (cl:ByteArray) (z:HSeat) (x:Item) (h:TurnAt c ad w tb T E F) (hok:HOk T) (hn1:1<=c.n) (hn2:c.n<=64) (h0:T.seat cl=some z) (hbz:z.busy=none)
  (hc0:z.s.conn ≠ 0) (hcn:z.s.conn ≠ x.conn) (hib:ItB w (E++F) x) (hn:T.mails.length<=100000) :
  Calls Tryz.prog 62 #[.pointer (some ⟨tb,0,none⟩),.pointer (some ⟨ad.seat cl,0,none⟩),.agg x.cells.toArray] w fun e w'=>e = .returned (.tuple #[])/\TDone c ad tb E F w (gateT c 2 z.s.conn (itK 3 x.op x.client) (T.setS cl ⟨z.s,some (.close x z.s.conn,0)⟩)) w':=by
 have hlt:=h.lt;obtain ⟨W1,hW1⟩:∃ W1,w.alloc (.cells #[.pointer (some ⟨ad.seat cl,0,none⟩)] 101)=W1:=⟨_,rfl⟩;obtain ⟨W,hW⟩:∃ W,W1.alloc (.cells x.cells.toArray 44)=W:=⟨_,rfl⟩;have hz1:W1.heap.size=w.heap.size+1:=by rw [<- hW1];simp
 have hz2:W.heap.size=w.heap.size+2:=by rw [<- hW];simp [hz1]
 have hb2:Below w.heap.size w W:=by rw [<- hW,<- hW1];exact (low_alloc w _).alloc (by simp) _
 have hx2:W.heap[w.heap.size]? = some (.cells [bxV (ad.seat cl)].toArray 101 (0,0)):=by
  rw [<- hW,Below.heap_alloc _ _ _ (by omega),<- hW1];exact heap_alloc_new w _
 have hx3:W.heap[w.heap.size+1]? = some (.cells x.cells.toArray 44 (0,0)):=by rw [<- hz1,<- hW];exact heap_alloc_new W1 _
 have hzc:=(seat_at h0).2;have hsc:=(hok.seat z (seat_at h0).1).s.conn;obtain ⟨T2,hT2⟩:∃ T2,T.setS cl ⟨z.s,some (.close x z.s.conn,0)⟩=T2:=⟨_,rfl⟩;have hl2:T2.mails.length=T.mails.length:=by rw [<- hT2];rfl
 rw [hT2];have HGA:=hyd (fun X G lb (hX:TurnAt c ad X tb T2 E G) (hst:Stay X G lb (itK 3 x.op x.client).cells 44)=>tgate_any c ad tb T2 E G X 2 z.s.conn (itK 3 x.op x.client) (itK 3 x.op x.client) none 0 lb hX hn1 hn2 hsc.2 hst rfl (.inl rfl) (by omega))
 have HBU:=hyd (fun X wb b1 b2 b3 b4 (hX:TurnAt c ad X tb T ([wb]++E) F) (hwb:w.heap.size<=wb) (hw:X.heap[wb]? = some (.cells (waitC x.op pkZ 4 0 ⟨#[]⟩ none (.func (.func 104) #[] #[.pointer (some ⟨b1,0,none⟩),.pointer (some ⟨b2,0,none⟩),.pointer (some ⟨b3,0,none⟩),.pointer (some ⟨b4,0,none⟩)])).toArray 110 (0,0)))
   (q1:Stay X (([wb]++E)++F) b1 [bxV (ad.seat cl)] 101) (q2:Stay X (([wb]++E)++F) b2 [.int .i64 z.s.conn] 3) (q3:Stay X (([wb]++E)++F) b3 [bxV wb] 103) (q4:Stay X (([wb]++E)++F) b4 x.cells 44) (q5:ItB X (([wb]++E)++F) x) =>
  hX.busied (k:=.close x z.s.conn) (left:=0) (v1:=⟨[],wb,b1,b2,b3,b4,0⟩) hok.nd h0 hbz (lies_one (cellPc_ok _ _ _) hw) (fun q hq=>by simpa [feet,wkPcs,cellPc] using hq) (fun q hq hqE=>by
   have:=h.lt q (List.mem_append_left _ hqE);have:=List.mem_singleton.1 hq
   omega) (show Caught X (([wb]++E)++F) ad ⟨[],wb,b1,b2,b3,b4,0⟩ z (.close x z.s.conn) from ⟨by show Stay X _ b1 [bxV (ad.seat z.s.client)] _;rw [hzc];exact q1,q2,q3,q4,q5⟩))
 rw [hT2] at HBU;have HSH:=hyd (fun X E' (hX:TurnAt c ad X tb T E' F)=>hX.seatHeap h0 hbz);have HWB:=hyd (fun (_:Unit)=>built_wait0 x.op 4);have HIB:=hyd (fun (_:Unit)=>built_item6 3 x.op x.client);have HIS:=hyd (build_item (itK 3 x.op x.client));have HIX:=hyd (fun (X:World) (hX:X.heap[w.heap.size+1]? = some (.cells x.cells.toArray 44 (0,0)))=>itC hX);have HT:=hyd h;have HLT:=hyd hlt;have HIT:=hyd hib;have HZ2:=hyd hz2;have HX2:=hyd hx2;obtain ⟨d0,-,d1,-⟩:=(h.below hb2.drew).seatCells h0;have HS:Hid (W.drew.cell? ⟨w.heap.size,0,none⟩=some (.pointer (some ⟨ad.seat cl,0,none⟩))/\W.drew.cell? ⟨ad.seat cl,0,none⟩=some (.pointer (some ⟨ad.sess cl,0,none⟩))/\W.drew.cell? ⟨ad.sess cl,1,none⟩=some (.int .i64 z.s.conn)/\W.drew.cell? ⟨w.heap.size+1,2,none⟩=some (.int .i64 x.conn)):=hyd ⟨cell_of_row W.drew _ 0 _ _ _ hx2,d0,d1,cell_of_row W.drew _ 2 _ _ _ hx3⟩;have p0:W.cell? ⟨w.heap.size,0,none⟩=some (.pointer (some ⟨ad.seat cl,0,none⟩)):=HS.out.1;have HX3:=hyd hx3;have HB2:=hyd hb2;have HW1:=hyd hW1;have HW:=hyd hW;clear h hok hn1 hn2 h0 hbz hib hn hlt hzc hsc hT2 hl2 hz1 hz2 hb2 hx2 hx3 hW1 hW d0 d1;generalize (itK 3 x.op x.client).cells=KL at *;generalize hWL:waitC x.op pkZ 4 0 ⟨#[]⟩ none .nilFunc=WL at *;generalize x.cells=IL at *;have hqd:(z.s.conn == 0)=false:=by simpa using hc0
 have hqe:(z.s.conn == x.conn)=false:=by simpa using hcn
 clear hc0 hcn;generalize z.s.conn=zc at *
 go_enter Tryz.func62, Tryz.ntmps62
 go_upto_region 1 with fail
 rw [HW1.out,HW.out]
 go_upto_region 4 with fail
 clear p0;refine wp_region_held_drew (S:=fun X=>X.cell? ⟨w.heap.size,0,none⟩=some (.pointer (some ⟨ad.seat cl,0,none⟩))/\X.cell? ⟨ad.seat cl,0,none⟩=some (.pointer (some ⟨ad.sess cl,0,none⟩))/\X.cell? ⟨ad.sess cl,1,none⟩=some (.int .i64 zc)/\X.cell? ⟨w.heap.size+1,2,none⟩=some (.int .i64 x.conn)) (by kernel_rfl) HS.out (fun hHeld => ?_);refine tA 0 (h:=tA 1 (h:=tA 2 (h:=tA 3 (h:=tA 4 (h:=tA 5 (h:=tA 6 (h:=tA 7 (h:=tA 8 (h:=tA 9 (h:=tA 10 (h:=tA 11 (h:=tA 12 (h:=tA 13 (h:=tA 14 (h:=tA 15 (h:=tA 16 (h:=tA 17 (h:=tA 18 (h:=tA 19 (h:=?_))))))))))))))))))));simp only [tks];refine wpAnyH_done (by kernel_rfl) ?_ _;clear hHeld hqd hqe;obtain ⟨p0,p1,p2,p3⟩:=HS.out;have q1:=(HIX.out W HX3.out).op
 go_upto_region 7 with fail
 have hbo:=low_alloc W (.cells #[Value.int IntKind.i64 zc] 3);have hxo:=heap_alloc_new W (.cells [Value.int IntKind.i64 zc].toArray 3);have hso:(W.alloc (.cells #[Value.int IntKind.i64 zc] 3)).heap.size=W.heap.size+1:=by simp
 have hxo':(W.alloc (.cells #[Value.int IntKind.i64 zc] 3)).heap[W.heap.size]? = some (.cells [Value.int IntKind.i64 zc].toArray 3 (0,0)):=hxo;have HXO:=hyd hxo';have HBO:=hyd hbo;have HSO:=hyd hso;clear hbo hxo hxo' hso p0 p1 p2 p3 q1;have q1:=(HIX.out _ ((HBO.out.block _ (Array.getElem?_eq_some_iff.1 HX3.out).1).trans HX3.out)).op;generalize W.alloc (.cells #[Value.int IntKind.i64 zc] 3)=V1 at *
 go_upto_region 8 with (first
  | (refine wpList_buildBy rfl 110 _ rfl _ rfl WL.toArray [(0,.int .i64 x.op),(3,.int .u8 4)] (by kernel_rfl) (HWB.out ()) ?_)
  | fail)
 clear q1;have hbV:Below V1.heap.size V1 ((V1.alloc (.cells WL.toArray 110)).alloc (.cells #[Value.pointer (some ⟨V1.heap.size,0,none⟩)] 103)).drew:=((low_alloc V1 _).alloc (by simp) _).drew;have hxw:((V1.alloc (.cells WL.toArray 110)).alloc (.cells #[Value.pointer (some ⟨V1.heap.size,0,none⟩)] 103)).drew.heap[V1.heap.size]? = some (.cells WL.toArray 110 (0,0)):=(Below.heap_alloc (V1.alloc (.cells WL.toArray 110)) _ _ (by simp)).trans (heap_alloc_new V1 _)
 have hxp:((V1.alloc (.cells WL.toArray 110)).alloc (.cells #[Value.pointer (some ⟨V1.heap.size,0,none⟩)] 103)).drew.heap[V1.heap.size+1]? = some (.cells [bxV V1.heap.size].toArray 103 (0,0)):=by
  have h9:=heap_alloc_new (V1.alloc (.cells WL.toArray 110)) (.cells #[Value.pointer (some ⟨V1.heap.size,0,none⟩)] 103);rw [show (V1.alloc (.cells WL.toArray 110)).heap.size=V1.heap.size+1 by simp] at h9;exact h9
 have HBV:=hyd hbV;have HXW:=hyd hxw;have HXP:=hyd hxp;clear hbV hxw hxp;generalize ((V1.alloc (.cells WL.toArray 110)).alloc (.cells #[Value.pointer (some ⟨V1.heap.size,0,none⟩)] 103)).drew=w3 at *;have HB13:Hid (Below W.heap.size W w3):=hyd (bnext HBO.out (Nat.le_refl _) HBV.out);have HB3:Hid (Below w.heap.size w w3):=hyd (bnext HB2.out (Nat.le_refl _) HB13.out);have HX32:=hyd ((HB13.out.block _ (Array.getElem?_eq_some_iff.1 HX2.out).1).trans HX2.out);have HX33:=hyd ((HB13.out.block _ (Array.getElem?_eq_some_iff.1 HX3.out).1).trans HX3.out);have HXO3:=hyd ((HBV.out.block _ (Array.getElem?_eq_some_iff.1 HXO.out).1).trans HXO.out);have hxw:=HXW.out;rw [<- hWL] at hxw;have c30:w3.cell? ⟨V1.heap.size,30,none⟩=some .nilFunc:=by rw [cell_of_row _ _ 30 _ _ _ hxw];rfl
 have f30:=frozen_of_row w3 _ 30 _ _ hxw;have p7:w3.cell? ⟨V1.heap.size+1,0,none⟩=some (.pointer (some ⟨V1.heap.size,0,none⟩)):=cell_of_row _ _ 0 _ _ _ HXP.out;obtain ⟨dv,hdv⟩:∃ dv:Value,.func (.func 104) #[] #[.pointer (some ⟨w.heap.size,0,none⟩),.pointer (some ⟨W.heap.size,0,none⟩),.pointer (some ⟨V1.heap.size+1,0,none⟩),.pointer (some ⟨w.heap.size+1,0,none⟩)]=dv:=⟨_,rfl⟩;have hx4:=wait_done hxw dv;have hm4:Mod [V1.heap.size] w3 (w3.setCell ⟨V1.heap.size,30,none⟩ dv):=(Mod.refl _ _).setCell (.inl (by simp)) _;have HX4:=hyd hx4;have HM4:=hyd hm4;have HDV:=hyd hdv;have HWB1:Hid (w.heap.size+3<=V1.heap.size):=hyd (by rw [HSO.out,HZ2.out];omega);have HZ3:Hid (V1.heap.size+1 < w3.heap.size):=hyd (Array.getElem?_eq_some_iff.1 HXP.out).1;clear hxw hx4 hm4 hdv
 go_upto_region 9 with fail
 rw [HDV.out];clear c30 f30 p7;generalize w3.setCell ⟨V1.heap.size,30,none⟩ dv=w4 at *;have HB4:Hid (Below w.heap.size w w4):=hyd (HB3.out.trans (HM4.out.below HB3.out.size (fun k hk=>by rw [List.mem_singleton.1 hk];have:=HWB1.out;omega)));have HTM:Hid (TurnAt c ad w4 tb T ([V1.heap.size]++E) F):=hyd (HT.out.more HB4.out (by have:=HWB1.out;omega) (by have:=HM4.out.size;have:=HZ3.out;omega));have hk4:∀ k,k < w3.heap.size->k ≠ V1.heap.size->w4.heap[k]? = w3.heap[k]?:=fun k hk hne=>HM4.out.block k hk (fun e=>hne (List.mem_singleton.1 e))
 have hst:∀ (b:Nat) (cs:List Value) (U:TypeId),w.heap.size<=b->b ≠ V1.heap.size->w3.heap[b]? = some (.cells cs.toArray U (0,0))->Stay w4 (([V1.heap.size]++E)++F) b cs U:=fun b cs U hb hne hx=>by
  have hl:=(Array.getElem?_eq_some_iff.1 hx).1;have hx':=(hk4 b hl hne).trans hx;refine ⟨fun hk => ?_,(Array.getElem?_eq_some_iff.1 hx').1,hx'⟩
  rcases List.mem_append.1 hk with hk | hk
  ·rcases List.mem_cons.1 hk with e | hk
   ·exact hne e
   ·have:=HLT.out b (List.mem_append_left _ hk);omega
  ·have:=HLT.out b (List.mem_append_right _ hk);omega
 have HQ1:=hyd (hst w.heap.size _ _ (Nat.le_refl _) (by have:=HWB1.out;omega) HX32.out);have HQ2:=hyd (hst W.heap.size _ _ (by rw [HZ2.out];omega) (by have:=HSO.out;omega) HXO3.out);have HQ3:=hyd (hst (V1.heap.size+1) _ _ (by have:=HWB1.out;omega) (by omega) HXP.out);have HQ4:=hyd (hst (w.heap.size+1) _ _ (by omega) (by have:=HWB1.out;omega) HX33.out)
 have HQ5:Hid (ItB w4 (([V1.heap.size]++E)++F) x):=hyd (HIT.out.upd ⟨Mod.of_below HB4.out _,fun k hk=>by
  rcases List.mem_cons.1 hk with e | hk
  ·right;have:=HWB1.out;omega
  ·exact .inl hk⟩)
 have hxw4:=HX4.out;rw [<- HDV.out] at hxw4;obtain ⟨F5,ht5,hm5,hf5⟩:=HBU.out w4 V1.heap.size w.heap.size W.heap.size (V1.heap.size+1) (w.heap.size+1) HTM.out (by have:=HWB1.out;omega) hxw4 HQ1.out HQ2.out HQ3.out HQ4.out HQ5.out;have hbv:bxV V1.heap.size = .pointer (some ⟨V1.heap.size,0,none⟩):=rfl;rw [hbv] at ht5 hm5;have HT5:=hyd ht5;have HU5:Hid (Upd F F5 w (w4.setCell ⟨ad.seat cl,1,none⟩ (.pointer (some ⟨V1.heap.size,0,none⟩)))):=hyd (Upd.joinX (Upd.of_below HB4.out) hm5 hf5 (fun k hk=>by rw [List.mem_singleton.1 hk];have:=HWB1.out;omega));have hk5:∀ (b:Nat) (cs:List Value) (U:TypeId),Stay w4 (([V1.heap.size]++E)++F) b cs U->(w4.setCell ⟨ad.seat cl,1,none⟩ (.pointer (some ⟨V1.heap.size,0,none⟩))).heap[b]? = some (.cells cs.toArray U (0,0)):=fun b cs U hs=>(hm5.block b hs.2.1 (fun hk=>hs.1 (List.mem_append_right _ hk))).trans hs.2.2
 have HK2:=hyd (hk5 _ _ _ HQ2.out);have HK4:=hyd (hk5 _ _ _ HQ4.out);have hsh:=HSH.out w4 _ HTM.out;have c1:w4.cell? ⟨ad.seat cl,1,none⟩=some (.pointer none):=by rw [cell_of_row _ _ 1 _ _ _ hsh];rfl
 have f1:=frozen_of_row w4 _ 1 _ _ hsh;have p4:w4.cell? ⟨w.heap.size,0,none⟩=some (.pointer (some ⟨ad.seat cl,0,none⟩)):=stay_cell0 HQ1.out;have p7:w4.cell? ⟨V1.heap.size+1,0,none⟩=some (.pointer (some ⟨V1.heap.size,0,none⟩)):=stay_cell0 HQ3.out;clear ht5 hm5 hf5 hk5 hk4 hst hsh hxw4 hbv
 go_upto_region 10 with fail
 clear c1 f1 p4 p7;generalize w4.setCell ⟨ad.seat cl,1,none⟩ (.pointer (some ⟨V1.heap.size,0,none⟩))=w5 at *;have p6:w5.cell? ⟨W.heap.size,0,none⟩=some (.int .i64 zc):=cell_of_row _ _ 0 _ _ _ HK2.out;obtain ⟨q1,q2,q3⟩:=HIX.out w5 HK4.out
 go_wp2_with (first
  | (refine wpList_buildBy rfl 44 _ rfl _ rfl KL.toArray [(0,.int .u8 3),(1,.int .i64 x.op),(3,.string x.client)] (by kernel_rfl) (HIB.out ()) ?_)
  | (refine wpList_build1 HIS.out rfl _ rfl rfl _ rfl _ rfl ?_)
  | fail)
 refine (HGA.out _ F5 w5.heap.size (HT5.out.below (low_alloc w5 _)) (stay_new (fun k hk=>HT5.out.lt k (List.mem_append_right _ hk)) KL 44)).mono ?_;rintro e w6 ⟨rfl,F6,ht6,hu6⟩;have HD:Hid (TDone c ad tb E F w (gateT c 2 zc (itK 3 x.op x.client) T2) w6):=hyd ⟨F6,ht6,HU5.out.trans' (Upd.pre (low_alloc w5 _) hu6)⟩;clear ht6 hu6 p6 q1 q2 q3
 go_wp2_with fail
 go_end0
 exact ⟨rfl,HD.out⟩
end
section
open Go Go.RowKit Go.Maps
def cfgC (c:HCfg):List Value:=[.int .i64 c.n,.int .i64 c.mail,.int .i64 c.packet,.int .i64 c.most,.int .i64 c.win]
theorem built_seat (b:Nat):Tryz.prog.built 105 [(0,.pointer (some ⟨b,0,none⟩))]=some [bxV b,.pointer none].toArray:=by kernel_rfl
theorem TurnAt.cfg {c:HCfg} {ad:HAd} {w:World} {tb:Nat} {T:Tn} {E F:List Nat} (h:TurnAt c ad w tb T E F):w.rangeAt ad.hb 0 (cfgC c):=by
 obtain ⟨v,hP,-⟩:=h;have:homeC c ad = []++(cfgC c ++ [.int .i64 c.me,.map (some ad.ms),.map (some ad.mf)]):=rfl;have h1:=hP.home;rw [this] at h1;exact mid_cells (A:=[]) h1
theorem cfg_size (c:HCfg):(Tryz.prog.info? 23).map (·.size)=some (cfgC c).length:=by kernel_rfl
def newAd (ad:HAd) (cl:ByteArray) (sb ss:Nat):HAd:={ ad with seat:=fun d=>if d=cl then sb else ad.seat d,sess:=fun d=>if d=cl then ss else ad.sess d }
def withNew (cl:ByteArray) (T:Tn):Tn:={ T with seats:=T.seats ++ [⟨SS.new cl,none⟩] }
set_option maxRecDepth 100000
set_option maxHeartbeats 4000000
theorem connect_new (w0:World) (hK:Keeps w0) (c:HCfg) (ad:HAd) (tb:Nat) (T:Tn) (E F:List Nat) (w:World) (cl:ByteArray) (x:Item) (h:TurnAt c ad w tb T E F) (hB:Base w0 w F) (hok:HOk T) (hn1:1<=c.n) (hn2:c.n<=64) (hm:1<=c.most/\c.most<=1024) (hwi:1<=c.win/\c.win<=1024) (h0:T.seat cl=none)
  (hx:ItOk x) (hcl:x.client=cl) (hc:1<=x.conn) (hib:ItB w (E++F) x) (hn:T.mails.length+2000<=100000) (hnn:T.notes.length+2<=100000) (hsl:T.seats.length<=100000) :
  Calls Tryz.prog 62 #[.pointer (some ⟨tb,0,none⟩),.pointer none,.agg x.cells.toArray] w fun e w'=>e = .returned (.tuple #[]) /\ ∃ ad',ad.like ad'/\TDone c ad' tb E F w (attachT c ⟨SS.new cl,none⟩ x (withNew cl T)) w':=by
 have hlt:=h.lt;have hcs:cl.size<=1000:=hcl ▸ hx.client;obtain ⟨T1,hT1⟩:∃ T1,withNew cl T=T1:=⟨_,rfl⟩;have hok1:HOk T1:=hT1 ▸ hok.addSeat h0 (SsOk.new hcs) rfl
 have h1s:T1.seat cl=some ⟨SS.new cl,none⟩:=by
  rw [<- hT1];unfold withNew;unfold Tn.seat at h0 ⊢;dsimp only;rw [List.find?_append,h0];simp [SS.new]
 have hl1:T1.mails.length=T.mails.length/\T1.notes.length=T.notes.length:=by rw [<- hT1];exact ⟨rfl,rfl⟩
 obtain ⟨W1,hW1⟩:∃ W1,w.alloc (.cells #[.pointer none] 101)=W1:=⟨_,rfl⟩;obtain ⟨W,hW⟩:∃ W,W1.alloc (.cells x.cells.toArray 44)=W:=⟨_,rfl⟩;have hz1:W1.heap.size=w.heap.size+1:=by rw [<- hW1];simp
 have hz2:W.heap.size=w.heap.size+2:=by rw [<- hW];simp [hz1]
 have hb2:Below w.heap.size w W:=by rw [<- hW,<- hW1];exact (low_alloc w _).alloc (by simp) _
 have hx2:W.heap[w.heap.size]? = some (.cells [Value.pointer none].toArray 101 (0,0)):=by
  rw [<- hW,Below.heap_alloc _ _ _ (by omega),<- hW1];exact heap_alloc_new w _
 have hx3:W.heap[w.heap.size+1]? = some (.cells x.cells.toArray 44 (0,0)):=by rw [<- hz1,<- hW];exact heap_alloc_new W1 _
 have HSN:=hyd (sesnew_any cl c.n c.mail c.packet c.most c.win W.drew hm hwi);have HTE:Hid (TurnAt c ad W tb T (w.heap.size :: E) F):=hyd (h.more hb2 (Nat.le_refl _) (by omega));have HAT:=hyd (fun X ad' G (hX:TurnAt c ad' X tb T1 E G) (hBX:Base w0 X G) (hi:ItB X (E++G) x)=>attach_any w0 hK c ad' tb T1 E G X cl ⟨SS.new cl,none⟩ x hX hBX hok1 hn1 hn2 h1s rfl hx hc hi (by omega) (by omega));have HCC:Hid (∀ X,TCells c ad tb X->X.rangeAt ad.hb 0 (cfgC c)->X.heap[w.heap.size+1]? = some (.cells x.cells.toArray 44 (0,0))->X.cell? ⟨w.heap.size+1,3,none⟩=some (.string cl)/\X.cell? ⟨tb,0,none⟩=some (.pointer (some ⟨ad.hb,0,none⟩))/\X.rangeAt ad.hb 0 (cfgC c)):=hyd (fun X e1 e2 e3=>⟨hcl ▸ (itC e3).client,e1.h,e2⟩);have HCF:=hyd (cfg_size c);have HSB:=hyd (fun b (_:Unit)=>built_seat b);have HKY:Hid (keyOf Tryz.prog 9 (.string cl)=some (.string cl.data.toList)):=hyd (skey (s:=cl) (by unfold maxLen;omega))
 have HNW:=hyd (fun (w4 w5:World) (sb ss:Nat) (F1:List Nat) (D:DataW Unit) (n':Nat) (v:TnV) (hP:TurnP c ad w4 tb T v ((sb :: F1)++(w.heap.size :: E))) (hD1:w4.ownsMap Tryz.prog 9 ptrElem ad.ms (Maps.size D) D) (hD2:Maps.size D<=T.seats.length) (hD3:∀ x,Maps.has D (.string x)=(seatF ad T x).isSome /\ ∀ b,seatF ad T x=some b -> ∀ z,D.atKey (.string x) z=ptrDat b)
   (hcell:w4.heap[sb]? = some (.cells [bxV ss,.pointer none].toArray 105 (0,0))) (hses:SesRep w4 ss c.win c.most (SS.new cl) F1) (hsb:sb ∉ F1) (hXE:∀ q ∈ sb :: F1,q ∉ w.heap.size :: E) (hown:w5.ownsMap Tryz.prog 9 ptrElem ad.ms n' (D.put (.string cl.data.toList) (ptrDat sb))) (hm5:Mod [ad.ms] w4 w5)=>by
  have hpm:=PMap.put hD1 hD2 hD3 hown
  exact hP.seatNew (X:=sb :: F1) (w':=w5) h0 (s:=SS.new cl) (sb:=sb) (ss:=ss) (F1:=F1) rfl hcell hses hsb (fun q hq=>List.mem_cons.2 hq) hXE hpm hm5)
 have HIM:=hyd hib;have HH1:=hyd h1s;have HTW:Hid (withNew cl T=T1):=hyd hT1;rw [hT1];have HBA:=hyd hB;have HLT:=hyd hlt;have HX2:=hyd hx2;have HX3:=hyd hx3;have HB2:=hyd hb2;have HZ2:=hyd hz2;have HW1:=hyd hW1;have HW:=hyd hW;have HSL:=hyd hsl;have HIS:Hid ((Tryz.prog.info? 44).map (·.size)=some x.cells.length):=hyd (item_size x);have HIX3:=hyd (fun (X:World) (hX:X.heap[w.heap.size+1]? = some (.cells x.cells.toArray 44 (0,0)))=>(show X.cell? ⟨w.heap.size+1,3,none⟩=some (.string cl)/\X.cell? ⟨w.heap.size+1,2,none⟩=some (.int .i64 x.conn) from ⟨hcl ▸ (itC hX).client,(itC hX).conn⟩));clear h hB hok hn1 hn2 hm hwi h0 hx hc hib hn hnn hlt hT1 hok1 h1s hl1 hz1 hz2 hb2 hx2 hx3 hW1 hW hK hsl hcs hcl;generalize x.cells=IL at *;generalize hCF:cfgC c=CF at *
 go_enter Tryz.func62, Tryz.ntmps62
 go_upto_region 1 with fail
 rw [HW1.out,HW.out];have p0:W.cell? ⟨w.heap.size,0,none⟩=some (.pointer none):=cell_of_row _ _ 0 _ _ _ HX2.out
 go_upto_region 2 with fail
 clear p0;have hcfg:=HTE.out.cfg;rw [hCF] at hcfg;refine wp_region_held_drew (S:=fun X=>X.cell? ⟨w.heap.size+1,3,none⟩=some (.string cl)/\X.cell? ⟨tb,0,none⟩=some (.pointer (some ⟨ad.hb,0,none⟩))/\X.rangeAt ad.hb 0 CF) (by kernel_rfl) (HCC.out W.drew (HTE.out.below (Below.refl _ _).drew).cells hcfg HX3.out) (fun hHeld => ?_);clear hcfg;refine tA 0 (h:=tA 1 (h:=tA 2 (h:=tA 3 (h:=tA 4 (h:=tA 5 (h:=tA 6 (h:=tA 7 (h:=?_))))))));simp only [tks];refine tk 8 (v:=.agg CF.toArray) (fun w0 hS0=>exec_load_row rfl rfl hS0.2.2 Tryz.underlying23 rfl HCF.out) hHeld ?_;simp only [tks];refine wpAnyH_ready (rs:=[9]) (by kernel_rfl) (by simp) ?_;refine AllReadyH.cons rfl (fun K hK => ?_) AllReadyH.nil;rw [if_pos (by rfl)];go_simp
 go_at_call 102
 rw [<- hCF];refine HSN.out.mono ?_;rintro e w2 ⟨ss,F1,rfl,hr2,hu2⟩;rw [hCF];have hb2:Below W.heap.size W w2:=bnext (Below.refl _ _).drew (Nat.le_refl _) (hu2.1.below (Nat.le_refl _) (by simp));have HB2W:=hyd hb2;have HR2:=hyd hr2;have HF1:Hid (∀ k ∈ F1,W.heap.size<=k):=hyd (fun k hk=>(hu2.2 k hk).elim (fun h=>by cases h) id);clear hr2 hu2 hb2;have HX32:=hyd ((HB2W.out.block _ (Array.getElem?_eq_some_iff.1 HX3.out).1).trans HX3.out);have HTE2:=hyd (HTE.out.below HB2W.out);have hcfg:=HTE2.out.cfg;rw [hCF] at hcfg;refine hK.out _ _ (HCC.out w2 HTE2.out.cells hcfg HX32.out) (fun hHeld => ?_);clear hcfg;refine tk 10 (v:=.agg #[bxV ss,.pointer none]) (fun w0 hS0=>exec_build 105 _ rfl #[bxV ss,.pointer none] [(0,.pointer (some ⟨ss,0,none⟩))] (by kernel_rfl) (HSB.out ss ())) hHeld ?_;simp only [tks];refine wpAnyH_ready (rs:=[11]) (by kernel_rfl) (by simp) ?_;refine AllReadyH.cons rfl (fun K hK => ?_) AllReadyH.nil;rw [if_pos (by rfl)];go_simp;have hx3s:=heap_alloc_new w2 (.cells [bxV ss,.pointer none].toArray 105);have hb3:=low_alloc w2 (.cells [bxV ss,.pointer none].toArray 105);have hs3:(w2.alloc (.cells [bxV ss,.pointer none].toArray 105)).heap.size=w2.heap.size+1:=by simp
 obtain ⟨w3,hw3⟩:∃ w3,w2.alloc (.cells [bxV ss,.pointer none].toArray 105)=w3:=⟨_,rfl⟩;rw [hw3] at hx3s hb3 hs3;have hw3':w2.alloc (.cells #[bxV ss,.pointer none] 105)=w3:=hw3;rw [hw3'];clear hw3 hw3';have HZB:Hid (W.heap.size<=w2.heap.size):=hyd HB2W.out.size;have HB3W:Hid (Below W.heap.size W w3):=hyd (bnext HB2W.out (Nat.le_refl _) hb3)
 have HTM3:Hid (TurnAt c ad w3 tb T ((w2.heap.size :: F1)++(w.heap.size :: E)) F):=hyd (HTE.out.moreL (w2.heap.size :: F1) HB3W.out (fun k hk=>by
  rcases List.mem_cons.1 hk with e | hk
  ·rw [e];exact ⟨HZB.out,by omega⟩
  ·exact ⟨HF1.out k hk,by have:=HR2.out.lt k hk;omega⟩))
 have HR3:=hyd (HR2.out.below hb3);have HSBF:Hid (w2.heap.size ∉ F1):=hyd (fun hk=>by have:=HR2.out.lt _ hk;omega);have HX33:=hyd ((HB3W.out.block _ (Array.getElem?_eq_some_iff.1 HX3.out).1).trans HX3.out);have hx2s:=(HB3W.out.block _ (Array.getElem?_eq_some_iff.1 HX2.out).1).trans HX2.out;have hcfg:=HTM3.out.cfg;rw [hCF] at hcfg;refine hK.out _ _ (HCC.out w3 HTM3.out.cells hcfg HX33.out) (fun hHeld => ?_);clear hcfg;have c0:w3.cell? ⟨w.heap.size,0,none⟩=some (.pointer none):=cell_of_row _ _ 0 _ _ _ hx2s;have f0:=frozen_of_row w3 _ 0 _ _ hx2s;have hx4:=heap_setCell_same w3 w.heap.size 0 _ _ (.pointer (some ⟨w2.heap.size,0,none⟩)) hx2s;have hm4:Mod [w.heap.size] w3 (w3.setCell ⟨w.heap.size,0,none⟩ (.pointer (some ⟨w2.heap.size,0,none⟩))):=(Mod.refl _ _).setCell (.inl (by simp)) _;have HX4:=hyd hx4;have HM4:=hyd hm4;have HX3S:=hyd hx3s;have HS3:=hyd hs3;have HB3:=hyd hb3;clear hx4 hm4 hx3s hs3 hb3 hx2s;refine wpAnyH_ready (rs:=[12]) (by kernel_rfl) (by simp) ?_;refine AllReadyH.cons rfl (fun K hK => ?_) AllReadyH.nil;rw [if_pos (by rfl)];go_simp;clear c0 f0;generalize w3.setCell ⟨w.heap.size,0,none⟩ (.pointer (some ⟨w2.heap.size,0,none⟩))=w4 at *;have HT4:Hid (TurnAt c ad w4 tb T ((w2.heap.size :: F1)++(w.heap.size :: E)) F):=hyd (HTM3.out.wrote HM4.out (fun k hk=>by rw [List.mem_singleton.1 hk];simp));have hk4:∀ k,k < w3.heap.size->k ≠ w.heap.size->w4.heap[k]? = w3.heap[k]?:=fun k hk hne=>HM4.out.block k hk (fun e=>hne (List.mem_singleton.1 e))
 have HX43:=hyd ((hk4 _ (Array.getElem?_eq_some_iff.1 HX33.out).1 (by omega)).trans HX33.out);have HX4S:=hyd ((hk4 _ (Array.getElem?_eq_some_iff.1 HX3S.out).1 (by have:=HZB.out;have:=HZ2.out;omega)).trans HX3S.out);have HR4:Hid (SesRep w4 ss c.win c.most (SS.new cl) F1):=hyd (HR3.out.mod HM4.out (fun k hk e=>by have:=HF1.out k hk;have:=List.mem_singleton.1 e;have:=HZ2.out;omega));have HB4:Hid (Below w.heap.size w w4):=hyd ((bnext HB2.out (Nat.le_refl _) HB3W.out).trans (HM4.out.below (by have:=HB3W.out.size;have:=HZ2.out;omega) (fun k hk=>by rw [List.mem_singleton.1 hk];exact Nat.le_refl _)));clear hk4;have hcfg:=HT4.out.cfg;rw [hCF] at hcfg;refine hK.out _ _ (HCC.out w4 HT4.out.cells hcfg HX43.out) (fun hHeld => ?_);clear hcfg;refine wpAnyH_done (by kernel_rfl) ?_ _;clear hHeld;obtain ⟨t0,-,-,-,t6,-⟩:=HT4.out.cells;have q3:=(HIX3.out w4 HX43.out).1;have p4:w4.cell? ⟨w.heap.size,0,none⟩=some (.pointer (some ⟨w2.heap.size,0,none⟩)):=cell_of_row _ _ 0 _ _ _ HX4.out;obtain ⟨v4,hP4,e4⟩:=HT4.out;obtain ⟨D,hD1,hD2,hD3⟩:=hP4.seats;have hsz:Maps.size D < maxLen:=by have:=HSL.out;have h9:Maps.size D<=100000:=Nat.le_trans hD2 this;unfold maxLen;omega
 have HN4:=hyd (fun w5 n' hown hm5=>HNW.out w4 w5 w2.heap.size ss F1 D n' v4 hP4 hD1 hD2 hD3 HX4S.out HR4.out HSBF.out (fun q hq hqE=>by
  have h6:=HZB.out;have h7:=HZ2.out;have h8:W.heap.size<=q:=(List.mem_cons.1 hq).elim (fun e=>by rw [e];exact h6) (HF1.out q)
  rcases List.mem_cons.1 hqE with e | hqE
  ·omega
  ·have:=HLT.out q (List.mem_append_left _ hqE);omega) hown hm5)
 have HE4:=hyd e4;clear hD2 hD3 hP4 e4
 go_upto_region 3 with fail
 go_still_tail 10,(by kernel_rfl)
 change wpList _ _ _ _ _ w4.drew;have hown2:=hD1.drew;have hkey:=HKY.out
 go_upto_region 4 with (first | (at_mapUpdate;refine wpList_mapUpdate_own _ rfl _ _ _ 89 rfl 9 101 kS Tryz.underlying89 _ ad.ms _ _ rfl hown2 hsz _ _ _ rfl rfl hkey _ [] (ptrElem_mk _) ?_;intro w5 hown5 hgr5;have HOW5:=hyd hown5;have HGR5:=hyd hgr5;clear hown5 hgr5) | fail)
 have hm5:Mod [ad.ms] w4 w5:=(Mod.refl _ _).drew.grown HGR5.out (fun k hk=>by cases hk;left;simp);obtain ⟨g1,g2,g3⟩:=HN4.out w5 _ HOW5.out hm5;rw [<- HE4.out] at g2 g3;obtain ⟨ad',hA⟩:∃ ad',newAd ad cl w2.heap.size ss=ad':=⟨_,rfl⟩;have hAs:ad'.seat cl=w2.heap.size:=by rw [<- hA];exact if_pos rfl
 have hAe:ad'.sess cl=ss:=by rw [<- hA];exact if_pos rfl
 have HAL:Hid (ad.like ad'):=hyd (by rw [<- hA];exact ⟨rfl,rfl,rfl,rfl⟩);obtain ⟨v5,hv5⟩:∃ v5,({ v4 with sv:=SeV.put v4.sv cl ⟨F1,0,0,0,0,0,0⟩ }:TnV)=v5:=⟨_,rfl⟩;have g1':TurnP c ad' w5 tb T1 v5 (w.heap.size :: E):=by rw [<- hA,<- hv5,<- HTW.out];exact g1
 have g3':∀ q ∈ feet (pcs c ad' tb v5 T1),q ∈ F \/ q ∈ w2.heap.size :: F1:=by rw [<- hA,<- hv5,<- HTW.out];exact g3
 obtain ⟨F5,hF5⟩:∃ F5,feet (pcs c ad' tb v5 T1)=F5:=⟨_,rfl⟩;rw [hF5] at g3';have ht5:TurnAt c ad' w5 tb T1 (w.heap.size :: E) F5:=⟨v5,g1',hF5.symm⟩
 have HU5:Hid (Upd F F5 w w5):=hyd (Upd.joinX (Upd.of_below HB4.out) g2 g3' (fun k hk=>by
  have h6:=HB2.out.size
  rcases List.mem_cons.1 hk with e | hk
  ·rw [e];have:=HZB.out;omega
  ·have:=HF1.out k hk;omega))
 have hn5:∀ b,b < w4.heap.size->b ∉ F->w5.heap[b]? = w4.heap[b]?:=fun b hb hn=>g2.block b hb hn
 have HX52:=hyd ((hn5 w.heap.size (Array.getElem?_eq_some_iff.1 HX4.out).1 (fun hk=>by have:=HLT.out _ (List.mem_append_right _ hk);omega)).trans HX4.out);have HX53:=hyd ((hn5 (w.heap.size+1) (Array.getElem?_eq_some_iff.1 HX43.out).1 (fun hk=>by have:=HLT.out _ (List.mem_append_right _ hk);omega)).trans HX43.out);obtain ⟨d0,-,d1,-⟩:=ht5.seatCells HH1.out;rw [hAs,hAe] at d0;rw [hAe] at d1;have HT5:=hyd (ht5.less (E':=E) (fun k hk=>List.mem_cons_of_mem _ hk));have HAT':=hyd (fun X (hb:Below w5.heap.size w5 X)=>HAT.out X ad' F5 (HT5.out.below hb) ((HBA.out.upd HU5.out).below hb) ((HIM.out.upd (HU5.out.ext E)).upd (Upd.of_below hb)));rw [hAs] at HAT';have hs5:w5.drew.cell? ⟨w.heap.size,0,none⟩=some (.pointer (some ⟨w2.heap.size,0,none⟩))/\w5.drew.cell? ⟨w2.heap.size,0,none⟩=some (.pointer (some ⟨ss,0,none⟩))/\w5.drew.cell? ⟨ss,1,none⟩=some (.int .i64 0)/\w5.drew.cell? ⟨w.heap.size+1,2,none⟩=some (.int .i64 x.conn):=⟨cell_of_row w5.drew _ 0 _ _ _ HX52.out,d0,d1,(HIX3.out w5.drew HX53.out).2⟩;have HS5:=hyd hs5;clear g1 g2 g3 g1' g3' hn5 hm5 d0 d1 ht5 hs5 hA hv5 hF5 hAs hAe t0 t6 q3 p4 hD1 hown2 hkey hsz HN4 HE4 HNW;refine wp_region_held_drew (S:=fun X=>X.cell? ⟨w.heap.size,0,none⟩=some (.pointer (some ⟨w2.heap.size,0,none⟩))/\X.cell? ⟨w2.heap.size,0,none⟩=some (.pointer (some ⟨ss,0,none⟩))/\X.cell? ⟨ss,1,none⟩=some (.int .i64 0)/\X.cell? ⟨w.heap.size+1,2,none⟩=some (.int .i64 x.conn)) (by kernel_rfl) HS5.out (fun hHeld => ?_)
 refine tA 0 (h:=tA 1 (h:=tA 2 (h:=tA 3 (h:=tA 4 (h:=tA 5 (h:=tA 6 (h:=tA 7 (h:=tA 8 (h:=sA 9 (h:=sA 10 (h:=sA 11 (h:=sA 12 (h:=sA 13 (h:=sA 14 (h:=sA 15 (h:=sA 16 (h:=sA 17 (h:=sA 18 (h:=tA 19 (h:=?_))))))))))))))))))));simp only [tks];refine wpAnyH_done (by kernel_rfl) ?_ _;clear hHeld;have p0:=HS5.out.1;have HRA:=hyd (range_blk (w:=w5.drew) HX53.out);have HAX:=hyd (HAT'.out w5.drew (Below.refl _ _).drew);have HU6:=hyd (HU5.out.next (w2:=w5.drew) (Below.refl _ _).drew);clear HAT' HS5 HX52 HX53 HU5;generalize w5.drew=w6 at *
 go_wp2_with (first
  | (refine wpList_loadMid rfl 44 _ rfl (w.heap.size+1) 0 rfl IL _ HRA.out Tryz.underlying44 rfl HIS.out _ rfl ?_)
  | fail)
 refine HAX.out.mono ?_;rintro e w7 ⟨rfl,F7,ht7,hu7⟩;have HD:Hid (∃ ad',ad.like ad'/\TDone c ad' tb E F w (attachT c ⟨SS.new cl,none⟩ x T1) w7):=hyd ⟨ad',HAL.out,F7,ht7,HU6.out.trans' hu7⟩;clear ht7 hu7 p0
 go_wp2_with fail
 (try simp only [Exit.inBlock,Exit.then])
 refine bodyPost_ret (results_none rfl _ _ _) rfl ?_;exact ⟨rfl,HD.out⟩
end
section
open Go Go.RowKit Go.Maps
theorem pksV_app (l m:List Pkt):pksV l++pksV m=pksV (l++m):=by
 unfold pksV;rw [List.flatMap_append]
set_option maxRecDepth 100000
set_option maxHeartbeats 4000000
theorem acks_rel (c:HCfg) (ad:HAd) (tb:Nat) (T:Tn) (E F:List Nat) (w:World) (cl:ByteArray) (z:HSeat) (x:Item) (h:TurnAt c ad w tb T E F) (hok:HOk T) (hn1:1<=c.n) (hn2:c.n<=64) (h0:T.seat cl=some z) (hx:ItOk x) (hty:x.pk.ty=6) (hn:T.mails.length+1<=100000) :
  Calls Tryz.prog 67 #[.pointer (some ⟨tb,0,none⟩),.pointer (some ⟨ad.seat cl,0,none⟩),.agg x.cells.toArray] w fun e w'=>e = .returned (.tuple #[])/\TDone c ad tb E F w (acksT c z x T) w':=by
 have hzc:=(seat_at h0).2;obtain ⟨T1,hT1⟩:∃ T1,T.setS cl ⟨z.s.setC (out x.pk.id z.s.came),z.busy⟩=T1:=⟨_,rfl⟩;have hl1:T1.mails.length=T.mails.length:=by rw [<- hT1];rfl
 have HE:Hid (acksT c z x T=answersT c x.conn [ackK 7 x.pk.id] T1):=hyd (by
  unfold acksT;rw [if_pos hty,hzc,hT1]
  rfl)
 have hb1:=low_alloc w (.cells x.cells.toArray 44);have hx1:=heap_alloc_new w (.cells x.cells.toArray 44);obtain ⟨W,hW⟩:∃ W,w.alloc (.cells x.cells.toArray 44)=W:=⟨_,rfl⟩;rw [hW] at hb1 hx1;obtain ⟨cb,FC,k1,k2,-,k4⟩:=(h.below hb1.drew).cames hok h0;have HRL:=hyd (rel_iff cb x.pk.id z.s.came FC W.drew k2 hx.pk.id.1 hx.pk.id.2);have HK4:=hyd (fun w' hr hu=>k4 w' (out x.pk.id z.s.came) FC hr hu);rw [hT1] at HK4;have HAN:=hyd (fun X G a cp (hX:TurnAt c ad X tb T1 E G) (hb:Beside X (E++G) a (pksV [ackK 7 x.pk.id]))=>answers_any c ad tb T1 E G X x.conn [ackK 7 x.pk.id] a cp hX hn1 hn2 hx.conn.2 hb (by omega) (by simp));have HCB:=hyd (fun (_:Unit)=>built_ackK 7 x.pk.id);have HCS:=hyd (build_pk (ackK 7 x.pk.id));have HPV:Hid (pksV [ackK 7 x.pk.id]=(ackK 7 x.pk.id).cells):=hyd (by simp [pksV]);have d0:W.drew.cell? ⟨ad.seat cl,0,none⟩=some (.pointer (some ⟨ad.sess cl,0,none⟩)):=((h.below hb1.drew).seatCells h0).1;have HSX:Hid (Stay W (E++F) w.heap.size x.cells 44):=hyd (stay_low hx1 h.lt);have q0:W.cell? ⟨w.heap.size,5,none⟩=some (.int .u8 6):=by rw [cell_of_row _ _ 5 _ _ _ hx1,<- hty];rfl
 have HW:=hyd hW;have HB1:=hyd hb1;have HID:=hyd (fun (X:World) (hX:X.heap[w.heap.size]? = some (.cells x.cells.toArray 44 (0,0)))=>(show X.cell? ⟨w.heap.size,9,none⟩=some (.int .u16 x.pk.id)/\X.cell? ⟨w.heap.size,2,none⟩=some (.int .i64 x.conn) from ⟨item_id hX,(itC hX).conn⟩));clear h hok hn1 hn2 h0 hx hty hn hzc hT1 hl1 hb1 hx1 hW k2 k4;rw [HPV.out] at HAN;generalize (ackK 7 x.pk.id).cells=CL at *;generalize hIL:x.cells=IL at *
 go_enter Tryz.func67, Tryz.ntmps67
 go_upto_region 1 with fail
 rw [HW.out]
 go_upto_region 2 with fail
 have k1':W.cell? ⟨ad.sess cl,10,none⟩=some (.pointer (some ⟨cb,0,none⟩)):=k1;have d0':W.cell? ⟨ad.seat cl,0,none⟩=some (.pointer (some ⟨ad.sess cl,0,none⟩)):=d0;have q9:=(HID.out W HSX.out.2.2).1;clear q0
 go_still_tail 10,(by kernel_rfl)
 change wpList _ _ _ _ _ W.drew
 go_wp2_with fail
 refine HRL.out.mono ?_;rintro e w2 ⟨rfl,hr2,hu2⟩;obtain ⟨F2,ht2,hv2,-,-⟩:=HK4.out w2 hr2 hu2;have HS2:Hid (Stay w2 (E++F2) w.heap.size IL 44):=hyd (Stay.upd (w:=W.drew) HSX.out (hv2.ext E));have HT2:=hyd ht2;have HU2:=hyd (Upd.pre HB1.out.drew hv2);clear hr2 hu2 ht2 hv2 k1 k1' d0 d0' q9;obtain ⟨q9,q2⟩:=HID.out w2 HS2.out.2.2
 go_wp2_with (first
  | (refine wpList_buildBy rfl 39 _ rfl _ rfl CL.toArray [(0,.int .u8 7),(4,.int .u16 x.pk.id)] (by kernel_rfl) (HCB.out ()) ?_)
  | (refine wpList_build1 HCS.out rfl _ rfl rfl _ rfl _ rfl ?_)
  | fail)
 refine (HAN.out _ F2 (some ⟨w2.heap.size,0,none⟩) 1 (HT2.out.below (low_alloc w2 _)) (Beside.new HT2.out.lt CL 39)).mono ?_;rintro e w3 ⟨rfl,F3,ht3,hu3⟩;have HD:Hid (TDone c ad tb E F w (acksT c z x T) w3):=hyd ⟨F3,by rw [HE.out];exact ht3,HU2.out.trans' (Upd.pre (low_alloc w2 _) hu3)⟩;clear ht3 hu3 q9 q2
 go_wp2_with fail
 (try simp only [Exit.inBlock,Exit.then])
 refine bodyPost_ret (results_none rfl _ _ _) rfl ?_;exact ⟨rfl,HD.out⟩
theorem acks_ack (w0:World) (hK:Keeps w0) (c:HCfg) (ad:HAd) (tb:Nat) (T:Tn) (E F:List Nat) (w:World) (cl:ByteArray) (z:HSeat) (x:Item) (h:TurnAt c ad w tb T E F) (hB:Base w0 w F) (hok:HOk T) (hn1:1<=c.n) (hn2:c.n<=64) (h0:T.seat cl=some z) (hx:ItOk x) (hty:x.pk.ty ≠ 6) (hn:T.mails.length+1<=100000) :
  Calls Tryz.prog 67 #[.pointer (some ⟨tb,0,none⟩),.pointer (some ⟨ad.seat cl,0,none⟩),.agg x.cells.toArray] w fun e w'=>e = .returned (.tuple #[])/\TDone c ad tb E F w (acksT c z x T) w':=by
 have hzc:=(seat_at h0).2;obtain ⟨a,ha⟩:∃ a,ackO x.pk.ty x.pk.id z.s.o=a:=⟨_,rfl⟩;obtain ⟨p,hp⟩:∃ p,pumpO c.win a.2.wait a.2.row=p:=⟨_,rfl⟩;obtain ⟨T1,hT1⟩:∃ T1,T.setS cl ⟨z.s.setO a.2,z.busy⟩=T1:=⟨_,rfl⟩;have hok1:HOk T1:=hT1 ▸ hok.setO h0 a.2;have h1s:T1.seat cl=some ⟨z.s.setO a.2,z.busy⟩:=by rw [<- hT1];exact seat_setS' h0 hzc
 obtain ⟨T2,hT2⟩:∃ T2,T1.setS cl ⟨(z.s.setO a.2).setO p.2,z.busy⟩=T2:=⟨_,rfl⟩;have hT2':T.setS cl ⟨z.s.setO p.2,z.busy⟩=T2:=by rw [<- hT2,<- hT1,setS_twice (by exact hzc)];rfl
 have h2s:T2.seat cl=some ⟨(z.s.setO a.2).setO p.2,z.busy⟩:=by rw [<- hT2];exact seat_setS' h1s hzc
 have hl2:T2.mails.length=T.mails.length:=by rw [<- hT2'];rfl
 obtain ⟨AL,hAL⟩:∃ AL,a.1.1++p.1=AL:=⟨_,rfl⟩
 have HE:Hid (acksT c z x T=answersT c x.conn AL T2):=hyd (by
  unfold acksT;rw [if_neg hty,hzc,ha];dsimp only
  rw [hp,hT2',hAL])
 have hb1:=low_alloc w (.cells x.cells.toArray 44);have hx1:=heap_alloc_new w (.cells x.cells.toArray 44);obtain ⟨W,hW⟩:∃ W,w.alloc (.cells x.cells.toArray 44)=W:=⟨_,rfl⟩;rw [hW] at hb1 hx1;obtain ⟨ob,FO,k1,k2,-,k4⟩:=(h.below hb1.drew).outsL hok h0;have HAK:=hyd (ack_any ob c.win c.most z.s.o FO x.pk W.drew k2);rw [ha] at HAK;have HK4:=hyd (fun w' FO' L hr hu hL=>k4 w' a.2 FO' L hr hu hL);rw [hT1] at HK4
 have hal:a.1.1.length<=1:=by
  rw [<- ha];unfold ackO
  split
  ·exact Nat.zero_le _
  ·split
   ·exact Nat.zero_le _
   ·split
    ·exact Nat.le_refl _
    ·split <;> exact Nat.zero_le _
 have HPU:=hyd (fun X E' G (hX:TurnAt c ad X tb T1 E' G) (hBX:Base w0 X G)=>tpump_any w0 hK c ad tb T1 E' G X cl ⟨z.s.setO a.2,z.busy⟩ hX hBX hok1 h1s);have hpo:pumpO c.win (z.s.setO a.2).o.wait (z.s.setO a.2).o.row=p:=hp;rw [hpo,hT2] at HPU
 have HPL1:Hid (∀ X E' G,TurnAt c ad X tb T1 E' G->a.1.1.length<=1/\p.1.length<=1024):=hyd (fun X E' G hX=>by
  obtain ⟨ob1,FO1,-,r2,-,-⟩:=hX.outs hok1 h1s;have h8:a.2.wait.length<=1024/\a.2.row.length<=1024:=r2.lens;have h9:=pump_len' c.win a.2;rw [hp] at h9
  exact ⟨hal,by omega⟩)
 have HAN:=hyd (fun X G a4 cp (hX:TurnAt c ad X tb T2 E G) (hb:Beside X (E++G) a4 (pksV AL)) (hl:AL.length<=100000)=>answers_any c ad tb T2 E G X x.conn AL a4 cp hX hn1 hn2 hx.conn.2 hb (by omega) hl);have HPS:Hid ((Tryz.prog.info? 39).map (·.size)=some x.pk.cells.length):=hyd (pkt_size' x.pk);have HD0:Hid (W.drew.cell? ⟨ad.seat cl,0,none⟩=some (.pointer (some ⟨ad.sess cl,0,none⟩))/\W.drew.cell? ⟨ad.sess cl,9,none⟩=some (.pointer (some ⟨ob,0,none⟩))/\W.drew.rangeAt w.heap.size 5 x.pk.cells):=hyd ⟨((h.below hb1.drew).seatCells h0).1,k1,item_pk (w:=W.drew) hx1⟩;have HSX:Hid (Stay W (E++F) w.heap.size x.cells 44):=hyd (stay_low hx1 h.lt);have q0:W.cell? ⟨w.heap.size,5,none⟩=some (.int .u8 x.pk.ty):=by rw [cell_of_row _ _ 5 _ _ _ hx1];rfl
 have HRX:=hyd (fun (X:World) (hX:X.heap[w.heap.size]? = some (.cells x.cells.toArray 44 (0,0)))=>(show X.rangeAt w.heap.size 5 x.pk.cells/\X.cell? ⟨w.heap.size,2,none⟩=some (.int .i64 x.conn) from ⟨item_pk hX,(itC hX).conn⟩));have HLS:Hid (ad.seat cl < w.heap.size/\ad.sess cl < w.heap.size):=hyd ⟨World.block_lt_of_cell? w _ (h.seatCells h0).1,World.block_lt_of_cell? w _ (h.seatCells h0).2.1⟩;have HH1:=hyd h1s;have HH2:=hyd h2s;have HW:=hyd hW;have HB1:=hyd hb1;have HBA:=hyd hB;have HLT:=hyd h.lt;have HAL1:Hid (a.1.1.length+p.1.length=AL.length):=hyd (by rw [<- hAL];simp);have HCV:Hid (pksV a.1.1++pksV p.1=pksV AL):=hyd (by rw [<- hAL];exact pksV_app _ _);have HPO:=hyd (pksV_ones p.1);have HPL:=hyd (pksV_len p.1);have HSZ:Hid (w.heap.size<=W.heap.size):=hyd hb1.size;clear h hB hok hn1 hn2 h0 hx hn hzc ha hp hT1 hok1 h1s hT2 hT2' h2s hl2 hAL hb1 hx1 hW k1 k2 k4 hal hpo hK;generalize hIL:x.cells=IL at *;generalize hPL:x.pk.cells=PL at *;obtain ⟨⟨l1,b1⟩,o1⟩:=a
 go_enter Tryz.func67, Tryz.ntmps67
 go_upto_region 1 with fail
 rw [HW.out]
 go_upto_region 4 with fail
 clear q0;refine wp_region_held_drew (S:=fun X=>X.cell? ⟨ad.seat cl,0,none⟩=some (.pointer (some ⟨ad.sess cl,0,none⟩))/\X.cell? ⟨ad.sess cl,9,none⟩=some (.pointer (some ⟨ob,0,none⟩))/\X.rangeAt w.heap.size 5 PL) (by kernel_rfl) HD0.out (fun hHeld => ?_);refine tA 0 (h:=tA 1 (h:=tA 2 (h:=tA 3 (h:=tA 4 (h:=tA 5 (h:=tA 6 (h:=tA 7 (h:=?_))))))));simp only [tks];refine tk 8 (v:=.agg PL.toArray) (fun w0 hS0=>exec_load_row rfl rfl hS0.2.2 Tryz.underlying39 rfl HPS.out) hHeld ?_;simp only [tks];refine wpAnyH_ready (rs:=[9]) (by kernel_rfl) (by simp) ?_;refine AllReadyH.cons rfl (fun K hK => ?_) AllReadyH.nil;rw [if_pos (by rfl)];go_simp
 go_at_call 127
 refine HAK.out.mono ?_;rintro e w2 ⟨v2,FO2,rfl,ho2,hr2,hu2,hof2⟩
 obtain ⟨F2,ht2,hv2,-,hs2⟩:=HK4.out w2 FO2 v2.ownBlock.toList hr2 hu2 (fun k hk=>by
  have h5:=ho2.lt k (Option.mem_toList.1 hk)
  exact ⟨h5.1,h5.2,fun hk'=>hof2 k hk' hk⟩)
 obtain ⟨a2,c2,rfl,-,-,-⟩:=ownsRow_row ho2;have HZ2:Hid (W.heap.size<=w2.heap.size):=hyd hv2.1.size;have HO2:=hyd ho2;have HT2:=hyd ht2;have HU2:=hyd (Upd.pre HB1.out.drew hv2);have HSX2:Hid (Stay w2 (E++F2) w.heap.size IL 44):=hyd (Stay.upd (w:=W.drew) HSX.out (hv2.ext E));have HS2:=hyd hs2;clear ho2 hr2 hu2 hof2 ht2 hv2 hs2;refine hK.out _ _ ⟨(HT2.out.seatCells HH1.out).1,HS2.out,(HRX.out w2 HSX2.out.2.2).1⟩ (fun hHeld => ?_);refine tA 10 (h:=tA 11 (h:=tA 12 (h:=tA 13 (h:=tA 14 (h:=?_)))));simp only [tks];refine wpAnyH_done (by kernel_rfl) ?_ _;clear hHeld;obtain ⟨ob2,hob2,hpu⟩:=HPU.out w2.drew _ _ (HT2.out.below (Below.refl _ _).drew) ((HBA.out.upd HU2.out).below (Below.refl _ _).drew)
 have hob:ob2=ob:=by
  have:=HS2.out;rw [show w2.drew.cell? ⟨ad.sess cl,9,none⟩=w2.cell? ⟨ad.sess cl,9,none⟩ from rfl,this] at hob2
  simpa using hob2.symm
 subst hob;have HP:=hyd (hpu w2.drew (Below.refl _ _));have HLN:=hyd (HPL1.out w2 _ _ HT2.out);have HS0:Hid (w2.drew.cell? ⟨w.heap.size,2,none⟩=some (.int .i64 x.conn)/\w2.drew.cell? ⟨ad.seat cl,0,none⟩=some (.pointer (some ⟨ad.sess cl,0,none⟩))/\w2.drew.cell? ⟨ad.sess cl,9,none⟩=some (.pointer (some ⟨ob2,0,none⟩))):=hyd ⟨(HRX.out w2.drew HSX2.out.2.2).2,(HT2.out.seatCells HH1.out).1,HS2.out⟩;clear hob2 hpu
 go_upto_region 5 with fail
 refine wp_region_tail (S:=fun X=>X.cell? ⟨w.heap.size,2,none⟩=some (.int .i64 x.conn)/\X.cell? ⟨ad.seat cl,0,none⟩=some (.pointer (some ⟨ad.sess cl,0,none⟩))/\X.cell? ⟨ad.sess cl,9,none⟩=some (.pointer (some ⟨ob2,0,none⟩))) 13 (by kernel_rfl) HS0.out (fun hHeld => ?_);refine uA 0 (h:=uA 1 (h:=uA 2 (h:=uA 3 (h:=uA 4 (h:=uA 5 (h:=uA 6 (h:=uA 7 (h:=uA 8 (h:=uA 9 (h:=uA 10 (h:=?_)))))))))));simp only [tks];refine wpTail.ready (rs:=[11]) (by kernel_rfl) (by simp) ?_;refine AllTail.cons rfl (fun K hK => ?_) AllTail.nil;rw [if_pos (by rfl)];go_simp
 go_at_call 71
 refine HP.out.mono ?_;rintro e w4 ⟨v4,F4,rfl,ho4,ht4,hu4,-,hs4⟩;obtain ⟨a4,c4,rfl,hr4,-,-⟩:=ownsRow_row ho4;have hu4':Upd F2 F4 w2 w4:=Upd.pre (Below.refl _ _).drew hu4;have HSX4:Hid (Stay w4 (E++F4) w.heap.size IL 44):=hyd (HSX2.out.upd (hu4'.ext E))
 have hs40:w4.cell? ⟨w.heap.size,2,none⟩=some (.int .i64 x.conn)/\w4.cell? ⟨ad.seat cl,0,none⟩=some (.pointer (some ⟨ad.sess cl,0,none⟩))/\w4.cell? ⟨ad.sess cl,9,none⟩=some (.pointer (some ⟨ob2,0,none⟩)):=
  ⟨(HRX.out w4 HSX4.out.2.2).2,(ht4.seatCells HH2.out).1,hs4⟩
 have HS4:=hyd hs40;have HOW4:=hyd (ownsRow_local (w':=w4) HO2.out (fun j hj=>hu4.1.block j (HO2.out.lt j hj).2 (HT2.out.ext j (List.mem_append_left _ (Option.mem_toList.2 hj))).2));have HZ4:Hid (W.heap.size<=w4.heap.size):=hyd (Nat.le_trans HZ2.out hu4.1.size);have HR4:=hyd hr4;have HT4:=hyd ht4;have HU4:=hyd (HU2.out.trans' hu4');clear ho4 ht4 hu4 hs4 hr4 hu4' hs40;refine hK.out _ _ (fun _=>HS4.out) (fun hHeld => ?_);replace hHeld:=hHeld (by decide);refine wpTail.ready (rs:=[12]) (by kernel_rfl) (by simp) ?_;refine AllTail.cons rfl (fun K hK => ?_) AllTail.nil;refine step_spreadG T_pkt HOW4.out HR4.out rfl rfl rfl rfl HPL.out HPO.out (by have:=HLN.out;omega) (by have:=HLN.out;omega) HZ4.out ?_;intro v5 w5 hown5 hgr5 hob5;rw [HCV.out,HAL1.out] at hown5;obtain ⟨ht5,hm5,a5,c5,rfl,hbe5⟩:=HT4.out.grew (fun k hk=>Nat.lt_of_lt_of_le (HLT.out k (List.mem_append_left _ hk)) HSZ.out) hown5 hgr5 hob5;have HT5:=hyd ht5;have HBE5:=hyd hbe5;have HM5:=hyd hm5
 have HG3:Hid (∀ k ∈ (Value.slice a2 l1.length c2).ownBlock.toList,w.heap.size < k):=hyd (fun k hk=>by
  have h5:=(HO2.out.lt k (Option.mem_toList.1 hk)).1;have h6:W.drew.heap.size=W.heap.size:=rfl;have h7:=HSX.out.2.1
  omega)
 clear hown5 hgr5 hob5 ht5 hm5 hbe5
 refine hK.out _ _ (fun _=>by
  have hbl:∀ k,k<=w.heap.size->w5.heap[k]? = w4.heap[k]?:=fun k hk=>HM5.out.block k (Nat.lt_of_le_of_lt hk HSX4.out.2.1) (fun e=>by have:=HG3.out k e;omega)
  exact ⟨(World.cell?_of_block (w:=w4) (hbl _ (Nat.le_refl _))).trans HS4.out.1,(World.cell?_of_block (w:=w4) (hbl _ (Nat.le_of_lt HLS.out.1))).trans HS4.out.2.1,(World.cell?_of_block (w:=w4) (hbl _ (Nat.le_of_lt HLS.out.2))).trans HS4.out.2.2⟩) (fun hHeld => ?_)
 replace hHeld:=hHeld (by decide);refine wpTail.ready (rs:=[13]) (by kernel_rfl) (by simp) ?_;refine AllTail.cons rfl (fun K hK => ?_) AllTail.nil;rw [if_pos (by rfl)];go_simp
 go_at_call 120
 refine (HAN.out w5 F4 a5 c5 HT5.out HBE5.out (by have:=HLN.out;have:=HAL1.out;omega)).mono ?_;rintro e w6 ⟨rfl,F6,ht6,hu6⟩;have HD:Hid (TDone c ad tb E F w (acksT c z x T) w6):=hyd ⟨F6,by rw [HE.out];exact ht6,(HU4.out.extra HM5.out (fun k hk=>Nat.le_of_lt (HG3.out k hk))).trans' hu6⟩;clear ht6 hu6;refine hK.out _ _ (fun h=>absurd rfl h) (fun _ => ?_);refine wpTail.done (by kernel_rfl) ?_ _;clear hHeld
 go_wp2_with fail
 go_end0
 exact ⟨rfl,HD.out⟩
end
section
open Go Go.RowKit Go.Maps
theorem built_waitF (op:Int):Tryz.prog.built 110 [(0,.int .i64 op)]=some (waitC op pkZ 0 0 ⟨#[]⟩ none .nilFunc).toArray:=by kernel_rfl
set_option maxRecDepth 100000
set_option maxHeartbeats 4000000
theorem publish_any (w0:World) (hK:Keeps w0) (c:HCfg) (ad:HAd) (tb:Nat) (T:Tn) (E F:List Nat) (w:World) (cl:ByteArray) (z:HSeat) (x:Item) (h:TurnAt c ad w tb T E F) (hB:Base w0 w F) (hok:HOk T) (hn1:1<=c.n) (hn2:c.n<=64) (h0:T.seat cl=some z) (hbz:z.busy=none) (hx:ItOk x) (hc:1<=x.conn) (hcl:x.client=cl)
  (hn:T.mails.length+1<=100000) (hnn:T.notes.length<=100000) (hfl:T.flows.length<=100000) :
  Calls Tryz.prog 66 #[.pointer (some ⟨tb,0,none⟩),.pointer (some ⟨ad.seat cl,0,none⟩),.agg x.cells.toArray] w fun e w'=>e = .returned (.tuple #[])/\TDone c ad tb E F w (publishT c z x T) w':=by
 have hzc:=(seat_at h0).2;have hs:=(hok.seat z (seat_at h0).1).s;obtain ⟨f1,f2,f3⟩:=firstZ_is x z;have h1c:=f1.trans hzc;have h1b:=f2.trans hbz;have h1o:=f3 hs;obtain ⟨z1,hz1⟩:∃ z1,firstZ x z=z1:=⟨_,rfl⟩;rw [hz1] at h1c h1b h1o;obtain ⟨T1,hT1⟩:∃ T1,T.setS cl z1=T1:=⟨_,rfl⟩
 have hok1:HOk T1:=hT1 ▸ hok.set0 h0 (by rw [hbz];rfl) (h1c.trans hzc.symm) (by
  have:=SeOk.idle h1o;rw [<- h1b] at this
  exact this)
 have h1s:T1.seat cl=some z1:=by rw [<- hT1];exact seat_setS' h0 h1c
 obtain ⟨T2,hT2⟩:∃ T2,T1.setS cl ⟨z1.s,some (.flow x.op,0)⟩=T2:=⟨_,rfl⟩;have hok2:HOk T2:=hT2 ▸ hok1.set0 h1s (by rw [h1b];rfl) rfl ⟨h1o,fun k left e=>by cases e;exact ⟨hx.op,rfl⟩⟩;have h2s:T2.seat cl=some ⟨z1.s,some (.flow x.op,0)⟩:=by rw [<- hT2];exact seat_setS' h1s h1c
 have hl:T1.mails.length=T.mails.length/\T1.notes.length=T.notes.length/\T2.mails.length=T.mails.length/\T2.notes.length=T.notes.length/\T2.flows.length=T.flows.length:=by rw [<- hT2,<- hT1];exact ⟨rfl,rfl,rfl,rfl,rfl⟩
 have HER:Hid (¬ firstNo x z->publishT c z x T=routeT c x.op x.client x.conn x.pk T2):=hyd (fun hno=>by
  unfold publishT;dsimp only
  rw [if_neg hno,hzc,hz1,hT1,hT2])
 have HET:Hid (firstNo x z->publishT c z x T=toldT c x.op x.client x.conn x.pk T1):=hyd (fun hno=>by
  unfold publishT;dsimp only
  rw [if_pos hno,hzc,hz1,hT1])
 have HT1S:Hid (z1=z->T1=T):=hyd (fun e=>by rw [<- hT1,e];exact setS_self hok.nd h0);have HTO:=hyd (fun X G (hX:TurnAt c ad X tb T1 E G)=>told_any c ad tb T1 E G X x.op x.conn x.client x.pk hX hn1 hn2 hx.conn.2 (by omega) (by omega));have HRO:=hyd (fun X G (hX:TurnAt c ad X tb T2 E G) (hBX:Base w0 X G)=>route_any w0 hK.t c ad tb T2 E G X x.op x.conn x.client x.pk hX hBX hok2 hn1 hn2 ⟨hx.op,⟨by show 0<=x.conn;omega,hx.conn.2⟩,hx.pk,hx.client⟩ (fun _=>⟨_,by rw [hcl];exact h2s⟩) (by omega) (by omega) (by omega));have HSH:=hyd (fun X G (hX:TurnAt c ad X tb T1 E G)=>hX.seatHeap h1s h1b)
 have HBU:=hyd (fun X wb G (hX:TurnAt c ad X tb T1 ([wb]++E) G) (hwb:w.heap.size<=wb) (hw:X.heap[wb]? = some (.cells (waitC x.op pkZ 0 0 ⟨#[]⟩ none .nilFunc).toArray 110 (0,0))) =>
  hX.busied (k:=.flow x.op) (left:=0) (v1:=⟨[],wb,0,0,0,0,0⟩) hok1.nd h1s h1b (lies_one (cellPc_ok _ _ _) hw) (fun q hq=>by simpa [feet,wkPcs,cellPc] using hq) (fun q hq hqE=>by
   have:=h.lt q (List.mem_append_left _ hqE);have:=List.mem_singleton.1 hq
   omega) trivial)
 rw [hT2] at HBU;have HWB0:=hyd (fun (_:Unit)=>built_waitF x.op);have HPS:Hid ((Tryz.prog.info? 39).map (·.size)=some x.pk.cells.length):=hyd (pkt_size' x.pk);have hb1:=low_alloc w (.cells x.cells.toArray 44);have hx1:=heap_alloc_new w (.cells x.cells.toArray 44);obtain ⟨W,hW⟩:∃ W,w.alloc (.cells x.cells.toArray 44)=W:=⟨_,rfl⟩;rw [hW] at hb1 hx1;obtain ⟨cb,FC,k1,k2,-,k4⟩:=(h.below hb1.drew).cames hok h0;have HFI:=hyd (firstNo_iff cb x.pk.id z.s.came FC W.drew k2 hx.pk.id.1 hx.pk.id.2);have HK4:=hyd (fun w' hr hu=>k4 w' (firstI x.pk.id z.s.came) FC hr hu)
 have HK5:Hid (x.pk.qos=2->T.setS cl ⟨z.s.setC (firstI x.pk.id z.s.came),z.busy⟩=T1):=hyd (fun hq=>by
  rw [<- hT1,<- hz1];unfold firstZ
  rw [if_pos hq])
 have HZ5:Hid (x.pk.qos ≠ 2->z1=z):=hyd (fun hq=>by
  rw [<- hz1];unfold firstZ
  rw [if_neg hq])
 have HIX:=hyd (fun (X:World) (hX:X.heap[w.heap.size]? = some (.cells x.cells.toArray 44 (0,0)))=>(show ItC X w.heap.size x/\X.rangeAt w.heap.size 5 x.pk.cells from ⟨itC hX,item_pk hX⟩));have HSX:Hid (Stay W (E++F) w.heap.size x.cells 44):=hyd (stay_low hx1 h.lt);have HD0:Hid (W.drew.cell? ⟨w.heap.size,7,none⟩=some (.int .u8 x.pk.qos)/\W.drew.cell? ⟨w.heap.size,9,none⟩=some (.int .u16 x.pk.id)/\W.drew.cell? ⟨ad.seat cl,0,none⟩=some (.pointer (some ⟨ad.sess cl,0,none⟩))/\W.drew.cell? ⟨ad.sess cl,10,none⟩=some (.pointer (some ⟨cb,0,none⟩))):=hyd ⟨cell_of_row W _ 7 _ _ _ hx1,item_id (X:=W.drew) hx1,((h.below hb1.drew).seatCells h0).1,k1⟩
 have HD2:Hid (∀ (w2:World) (F2:List Nat),TurnAt c ad w2 tb T1 E F2->w2.heap[w.heap.size]? = some (.cells x.cells.toArray 44 (0,0))->w2.cell? ⟨ad.sess cl,10,none⟩=some (.pointer (some ⟨cb,0,none⟩))->w2.cell? ⟨w.heap.size,7,none⟩=some (.int .u8 x.pk.qos)/\w2.cell? ⟨w.heap.size,9,none⟩=some (.int .u16 x.pk.id)/\w2.cell? ⟨ad.seat cl,0,none⟩=some (.pointer (some ⟨ad.sess cl,0,none⟩))/\w2.cell? ⟨ad.sess cl,10,none⟩=some (.pointer (some ⟨cb,0,none⟩))):=hyd (fun w2 F2 hX hx2 h4 =>
  ⟨cell_of_row _ _ 7 _ _ _ hx2,item_id hx2,(hX.seatCells h1s).1,h4⟩)
 have HT:=hyd h;have HW:=hyd hW;have HB1:=hyd hb1;have HBA:=hyd hB;have HFN:Hid (∀ b,decide (x.pk.id=0 \/ x.pk.id ∈ z.s.came)=b->x.pk.qos=2->(b=true->firstNo x z)/\(b=false -> ¬ firstNo x z)):=hyd (fun b hb hq=>⟨fun e=>⟨hq,by rw [e] at hb;simpa using hb⟩,fun e hno=>by rw [e] at hb;simp at hb;obtain ⟨-,h5⟩:=hno;rcases h5 with h5 | h5;exact hb.1 h5;exact hb.2 h5⟩);have HFQ:Hid (x.pk.qos ≠ 2 -> ¬ firstNo x z):=hyd (fun hq hno=>hq hno.1);clear h hB hok hn1 hn2 h0 hbz hx hc hcl hn hnn hfl hzc hs f1 f2 f3 h1c h1b h1o hz1 hT1 hok1 h1s hT2 hok2 h2s hl hb1 hx1 hW k1 k2 k4 hK;generalize hWL:waitC x.op pkZ 0 0 ⟨#[]⟩ none .nilFunc=WL at *;generalize hIL:x.cells=IL at *;generalize hPL:x.pk.cells=PL at *;obtain ⟨b,hb⟩:∃ b,decide (x.pk.id=0 \/ x.pk.id ∈ z.s.came)=b:=⟨_,rfl⟩;rw [hb] at HFI;have HFN':=hyd (HFN.out b hb);clear hb HFN
 go_enter Tryz.func66, Tryz.ntmps66
 go_upto_region 1 with fail
 rw [HW.out]
 by_cases hq:x.pk.qos=2
 ·have HNO2:=hyd (HFN'.out hq)
  have HK6:=hyd (HK5.out hq);have hd0:=HD0.out;rw [hq] at HD2 hd0;clear HFN' HK5 HZ5 HT1S HFQ hq HD0;refine wp_region_held_drew (S:=fun X=>X.cell? ⟨w.heap.size,7,none⟩=some (.int .u8 2)/\X.cell? ⟨w.heap.size,9,none⟩=some (.int .u16 x.pk.id)/\X.cell? ⟨ad.seat cl,0,none⟩=some (.pointer (some ⟨ad.sess cl,0,none⟩))/\X.cell? ⟨ad.sess cl,10,none⟩=some (.pointer (some ⟨cb,0,none⟩))) (by kernel_rfl) hd0 (fun hHeld => ?_);refine tA 0 (h:=tA 1 (h:=tA 2 (h:=tA 3 (h:=tA 4 (h:=tA 5 (h:=tA 6 (h:=tA 7 (h:=tA 8 (h:=tA 9 (h:=tA 10 (h:=tA 11 (h:=tA 12 (h:=tA 13 (h:=tA 14 (h:=?_)))))))))))))));simp only [tks];refine wpAnyH_ready (rs:=[15]) (by kernel_rfl) (by simp) ?_;refine AllReadyH.cons rfl (fun K hK => ?_) AllReadyH.nil;rw [if_pos (by kernel_rfl)];go_simp
  go_at_call 123
  refine HFI.out.mono ?_;rintro e w2 ⟨rfl,hr2,hu2⟩;obtain ⟨F2,ht2,hv2,-,hs2⟩:=HK4.out w2 hr2 hu2;rw [HK6.out] at ht2;have HT2:=hyd ht2;have HU2:=hyd (Upd.pre HB1.out.drew hv2);have HSX2:Hid (Stay w2 (E++F2) w.heap.size IL 44):=hyd (Stay.upd (w:=W.drew) HSX.out (hv2.ext E));have HS2:=hyd hs2;clear hr2 hu2 ht2 hv2 hs2 hd0;refine hK.out _ _ (HD2.out w2 F2 HT2.out HSX2.out.2.2 HS2.out) (fun hHeld => ?_);refine tA 16 (h:=tA 17 (h:=?_));simp only [tks];refine wpAnyH_done (by kernel_rfl) ?_ _;clear hHeld
  cases b
  case true =>
   have HET':=hyd (HET.out (HNO2.out.1 rfl));obtain ⟨⟨q1,q2,q3⟩,hra⟩:=HIX.out w2 HSX2.out.2.2;have HRA:=hyd hra;clear hra
   go_wp2_with (first
    | (refine wpList_loadMid rfl 39 _ rfl w.heap.size 5 rfl PL _ HRA.out Tryz.underlying39 rfl HPS.out _ rfl ?_)
    | fail)
   refine (HTO.out w2 F2 HT2.out).mono ?_;rintro e w5 ⟨rfl,F5,ht5,hu5⟩;have HD:Hid (TDone c ad tb E F w (publishT c z x T) w5):=hyd ⟨F5,by rw [HET'.out];exact ht5,HU2.out.trans' hu5⟩;clear ht5 hu5 q1 q2 q3
   go_wp2_with fail
   (try simp only [Exit.inBlock,Exit.then])
   refine bodyPost_ret (results_none rfl _ _ _) rfl ?_;exact ⟨rfl,HD.out⟩
  have HNO:=hyd (HNO2.out.2 rfl)
  go_upto_region 3 with fail
  have hsh:=HSH.out w2 F2 HT2.out;have hbx:=low_alloc w2 (.cells WL.toArray 110);have hxw:=heap_alloc_new w2 (.cells WL.toArray 110);have hsh1:=(hbx.block _ (Array.getElem?_eq_some_iff.1 hsh).1).trans hsh;have c1:(w2.alloc (.cells WL.toArray 110)).cell? ⟨ad.seat cl,1,none⟩=some (.pointer none):=by rw [cell_of_row _ _ 1 _ _ _ hsh1];rfl
  have f1:=frozen_of_row _ _ 1 _ _ hsh1;have HTM:Hid (TurnAt c ad (w2.alloc (.cells WL.toArray 110)) tb T1 ([w2.heap.size]++E) F2):=hyd (HT2.out.more hbx (Nat.le_refl _) (by simp));have HWB:Hid (w.heap.size<=w2.heap.size):=hyd HU2.out.1.size;obtain ⟨F4,ht4,hm4,hf4⟩:=HBU.out _ _ F2 HTM.out HWB.out hxw;have HT4:=hyd ht4;have HU4:=hyd (Upd.joinX (HU2.out.next hbx) hm4 hf4 (fun k hk=>by rw [List.mem_singleton.1 hk];exact HWB.out));have HSX4:Hid (((w2.alloc (.cells WL.toArray 110)).setCell ⟨ad.seat cl,1,none⟩ (bxV w2.heap.size)).heap[w.heap.size]? = some (.cells IL.toArray 44 (0,0))):=hyd ((hm4.block _ (HSX2.out.below hbx).2.1 (fun hk=>HSX2.out.1 (List.mem_append_right _ hk))).trans (HSX2.out.below hbx).2.2);have q1:=(HIX.out w2 HSX2.out.2.2).1.op;clear hsh hbx hxw hsh1 ht4 hm4 hf4 HTM
  go_upto_region 4 with (first
   | (refine wpList_buildBy rfl 110 _ rfl _ rfl WL.toArray [(0,.int .i64 x.op)] (by kernel_rfl) (HWB0.out ()) ?_)
   | fail)
  clear c1 f1 q1;have hbv:bxV w2.heap.size = .pointer (some ⟨w2.heap.size,0,none⟩):=rfl;rw [hbv] at HT4 HU4 HSX4;clear hbv;generalize (w2.alloc (.cells WL.toArray 110)).setCell ⟨ad.seat cl,1,none⟩ (.pointer (some ⟨w2.heap.size,0,none⟩))=w4 at *;obtain ⟨⟨q1,q2,q3⟩,hra⟩:=HIX.out w4 HSX4.out;have HRA:=hyd hra;clear hra
  go_wp2_with (first
   | (refine wpList_loadMid rfl 39 _ rfl w.heap.size 5 rfl PL _ HRA.out Tryz.underlying39 rfl HPS.out _ rfl ?_)
   | fail)
  refine (HRO.out w4 F4 HT4.out (HBA.out.upd HU4.out)).mono ?_;rintro e w5 ⟨rfl,F5,ht5,hu5⟩;have HD:Hid (TDone c ad tb E F w (publishT c z x T) w5):=hyd ⟨F5,by rw [HER.out HNO.out];exact ht5,HU4.out.trans' hu5⟩;clear ht5 hu5 q1 q2 q3
  go_wp2_with fail
  go_end0
  exact ⟨rfl,HD.out⟩
 ·have HNO:=hyd (HFQ.out hq)
  have hT:T1=T:=HT1S.out (HZ5.out hq);have HSX2:Hid (Stay W.drew (E++F) w.heap.size IL 44):=HSX;have HT2:Hid (TurnAt c ad W.drew tb T1 E F):=hyd (by rw [hT];exact HT.out.below HB1.out.drew);have HU2:Hid (Upd F F w W.drew):=hyd (Upd.of_below HB1.out.drew);have hd0:=HD0.out;clear HFN' HK5 HZ5 HT1S HFQ HD0 hT;refine wp_region_held_drew (S:=fun X=>X.cell? ⟨w.heap.size,7,none⟩=some (.int .u8 x.pk.qos)/\X.cell? ⟨w.heap.size,9,none⟩=some (.int .u16 x.pk.id)/\X.cell? ⟨ad.seat cl,0,none⟩=some (.pointer (some ⟨ad.sess cl,0,none⟩))/\X.cell? ⟨ad.sess cl,10,none⟩=some (.pointer (some ⟨cb,0,none⟩))) (by kernel_rfl) hd0 (fun hHeld => ?_);have hqd:(x.pk.qos == 2)=false:=by simpa using hq
  refine tA 0 (h:=tA 1 (h:=tA 2 (h:=tA 3 (h:=tA 4 (h:=sA 5 (h:=sA 6 (h:=sA 7 (h:=sA 8 (h:=sA 9 (h:=sA 10 (h:=sA 11 (h:=sA 12 (h:=sA 13 (h:=sA 14 (h:=sA 15 (h:=sA 16 (h:=tA 17 (h:=?_))))))))))))))))));simp only [tks];refine wpAnyH_done (by kernel_rfl) ?_ _;clear hHeld hd0 hqd;generalize W.drew=w2 at *
  go_upto_region 3 with fail
  have hsh:=HSH.out w2 F HT2.out;have hbx:=low_alloc w2 (.cells WL.toArray 110);have hxw:=heap_alloc_new w2 (.cells WL.toArray 110);have hsh1:=(hbx.block _ (Array.getElem?_eq_some_iff.1 hsh).1).trans hsh;have c1:(w2.alloc (.cells WL.toArray 110)).cell? ⟨ad.seat cl,1,none⟩=some (.pointer none):=by rw [cell_of_row _ _ 1 _ _ _ hsh1];rfl
  have f1:=frozen_of_row _ _ 1 _ _ hsh1;have HTM:Hid (TurnAt c ad (w2.alloc (.cells WL.toArray 110)) tb T1 ([w2.heap.size]++E) F):=hyd (HT2.out.more hbx (Nat.le_refl _) (by simp));have HWB:Hid (w.heap.size<=w2.heap.size):=hyd HU2.out.1.size;obtain ⟨F4,ht4,hm4,hf4⟩:=HBU.out _ _ F HTM.out HWB.out hxw;have HT4:=hyd ht4;have HU4:=hyd (Upd.joinX (HU2.out.next hbx) hm4 hf4 (fun k hk=>by rw [List.mem_singleton.1 hk];exact HWB.out));have HSX4:Hid (((w2.alloc (.cells WL.toArray 110)).setCell ⟨ad.seat cl,1,none⟩ (bxV w2.heap.size)).heap[w.heap.size]? = some (.cells IL.toArray 44 (0,0))):=hyd ((hm4.block _ (HSX2.out.below hbx).2.1 (fun hk=>HSX2.out.1 (List.mem_append_right _ hk))).trans (HSX2.out.below hbx).2.2);have q1:=(HIX.out w2 HSX2.out.2.2).1.op;clear hsh hbx hxw hsh1 ht4 hm4 hf4 HTM
  go_upto_region 4 with (first
   | (refine wpList_buildBy rfl 110 _ rfl _ rfl WL.toArray [(0,.int .i64 x.op)] (by kernel_rfl) (HWB0.out ()) ?_)
   | fail)
  clear c1 f1 q1;have hbv:bxV w2.heap.size = .pointer (some ⟨w2.heap.size,0,none⟩):=rfl;rw [hbv] at HT4 HU4 HSX4;clear hbv;generalize (w2.alloc (.cells WL.toArray 110)).setCell ⟨ad.seat cl,1,none⟩ (.pointer (some ⟨w2.heap.size,0,none⟩))=w4 at *;obtain ⟨⟨q1,q2,q3⟩,hra⟩:=HIX.out w4 HSX4.out;have HRA:=hyd hra;clear hra
  go_wp2_with (first
   | (refine wpList_loadMid rfl 39 _ rfl w.heap.size 5 rfl PL _ HRA.out Tryz.underlying39 rfl HPS.out _ rfl ?_)
   | fail)
  refine (HRO.out w4 F4 HT4.out (HBA.out.upd HU4.out)).mono ?_;rintro e w5 ⟨rfl,F5,ht5,hu5⟩;have HD:Hid (TDone c ad tb E F w (publishT c z x T) w5):=hyd ⟨F5,by rw [HER.out HNO.out];exact ht5,HU4.out.trans' hu5⟩;clear ht5 hu5 q1 q2 q3
  go_wp2_with fail
  go_end0
  exact ⟨rfl,HD.out⟩
end
end Go.Proofs.YtcekcoepdhnfgaaGreatDoor
