/- told, flowed, route, the log. -/
import Derived.Test.YtcekcoepdhnfgaaGreatDoorHSN
import Derived.Test.YtcekcoepdhnfgaaGreatDoorOutY
import Derived.Test.YtcekcoepdhnfgaaGreatDoorHMe
namespace Go.Proofs.YtcekcoepdhnfgaaGreatDoor
section
open Go Go.RowKit Go.Maps
set_option maxRecDepth 100000
theorem log_op (b:Nat) (nv:Value) (N:List Note) (ops:Int) (w:World) (h:(logPc b nv N ops).R w) (h0:0<=ops) (h1:ops<=1000000) :
  Calls Tryz.prog 31 #[.pointer (some ⟨b,0,none⟩)] w fun e w'=>e = .returned (.int .i64 (ops+1))/\(logPc b nv N (ops+1)).R w'/\Upd (logPc b nv N ops).F (logPc b nv N (ops+1)).F w w':=by
 obtain ⟨hb,hown,hne⟩:=h;have c1:=cell_of_row w b 1 _ _ _ hb;have f1:=frozen_of_row w b 1 _ _ hb;have h2:=heap_setCell_same w b 1 _ _ (.int .i64 (ops+1)) hb;have c2:=cell_of_row _ b 1 _ _ _ h2;have hw1:IntKind.i64.wrap (ops+1)=ops+1:=w_i64 _ (by omega) (by omega)
 have HQ:Hid ((logPc b nv N (ops+1)).R (w.setCell ⟨b,1,none⟩ (.int .i64 (ops+1)))/\Upd (logPc b nv N ops).F (logPc b nv N (ops+1)).F w (w.setCell ⟨b,1,none⟩ (.int .i64 (ops+1)))):=hyd
  ⟨⟨h2,ownsRow_local hown fun k hk=>heap_setCell_other w _ _ _ (by rintro rfl;exact hne hk),hne⟩,(Mod.refl _ _).setCell (.inl (by simp [logPc])) _,fun k hk => .inl hk⟩
 clear hb hown hne h2
 go_enter Tryz.func31, Tryz.ntmps31
 go_wp2_with fail
 go_ret
 exact ⟨rfl,HQ.out⟩
def ackK (ty id:Int):Pkt:={ pkZ with ty:=ty,id:=id }
theorem built_ackK (ty id:Int):Tryz.prog.built 39 [(0,.int .u8 ty),(4,.int .u16 id)]=some (ackK ty id).cells.toArray:=by kernel_rfl
theorem pk_ones (p:Pkt):∀ u ∈ p.cells.toArray.toList,u.oneCell'=true:=by
 have:p.cells.toArray.all (·.oneCell')=true:=by simp [Pkt.cells,Msg.cells,Value.oneCell']
 rw [Array.all_eq_true_iff_forall_mem] at this;exact fun u hu=>this u (by simpa using hu)
theorem built_noteX (kind op conn:Int) (client:ByteArray):Tryz.prog.built 79 [(0,.int .u8 kind),(1,.int .i64 op),(2,.int .i64 conn),(3,.string client)]=some (noteN kind op conn client).cells.toArray:=by kernel_rfl
theorem answers_notes (c:HCfg) (conn:Int) (R:List Pkt) (T:Tn):(answersT c conn R T).notes=T.notes:=by
 unfold answersT sendsT
 split <;> rfl
set_option maxHeartbeats 4000000
theorem told_any (c:HCfg) (ad:HAd) (tb:Nat) (T:Tn) (E F:List Nat) (w:World) (op conn:Int) (client:ByteArray) (p:Pkt) (h:TurnAt c ad w tb T E F) (hn1:1<=c.n) (hn2:c.n<=64) (hcn:conn<=9223372036854775807)
  (hn:T.mails.length+1<=100000) (hnn:T.notes.length<=100000) :
  Calls Tryz.prog 124 #[.pointer (some ⟨tb,0,none⟩),.int .i64 op,.string client,.int .i64 conn,.agg p.cells.toArray] w fun e w'=>e = .returned (.tuple #[])/\TDone c ad tb E F w (toldT c op client conn p T) w':=by
 obtain ⟨W,hW⟩:∃ W,w.alloc (.cells p.cells.toArray 39)=W:=⟨_,rfl⟩;have hb0:Below w.heap.size w W:=by rw [<- hW];exact low_alloc _ _
 have hx0:W.heap[w.heap.size]? = some (.cells p.cells.toArray 39 (0,0)):=by rw [<- hW];exact heap_alloc_new w _
 have c2:W.cell? ⟨w.heap.size,2,none⟩=some (.int .u8 p.qos):=by rw [cell_of_row _ _ 2 _ _ _ hx0];rfl
 have c4:W.cell? ⟨w.heap.size,4,none⟩=some (.int .u16 p.id):=by rw [cell_of_row _ _ 4 _ _ _ hx0];rfl
 have HB0:=hyd hb0;have HA:=hyd (fun X (hX:TurnAt c ad X tb T E F) (R:List Pkt) (pa:Option Addr) (cp:Nat) (hb:Beside X (E++F) pa (pksV R)) (hR:R.length<=100000)=>answers_any c ad tb T E F X conn R pa cp hX hn1 hn2 hcn hb hn hR);have HN:=hyd (fun X F' R (hX:TurnAt c ad X tb (answersT c conn R T) E F')=>note_any c ad tb (answersT c conn R T) E F' X (noteN 3 op conn client) (noteN 3 op conn client) none 0 hX rfl (.inl rfl) (Nat.zero_le _) (by rw [answers_notes];exact hnn));have HNB:=hyd (fun (_:Unit)=>built_noteX 3 op conn client);have HT:=hyd h;have HLT:=hyd h.lt;have HE:Hid (toldT c op client conn p T=(answersT c conn (told1 p) T).note (noteN 3 op conn client)):=hyd rfl;clear hx0 hn1 hn2 hcn hn hnn hb0 h;generalize p.cells.toArray=PC at *;generalize (noteN 3 op conn client).cells=NL at *
 by_cases h1:p.qos=1
 ·have HR:Hid (told1 p = [ackK 4 p.id]):=hyd (by unfold told1;rw [if_pos h1];rfl)
  have HBU:=hyd (fun (_:Unit)=>built_ackK 4 p.id);have HBS:=hyd (build_pk (ackK 4 p.id));have HO1:=hyd (pk_ones (ackK 4 p.id));have H24:Hid ((ackK 4 p.id).cells.toArray.size=1 * 24):=hyd rfl;have HPV:Hid (([]:List Value)++(ackK 4 p.id).cells.toArray.toList=pksV [ackK 4 p.id]):=hyd (by simp [pksV]);have HBW:=hyd (Below.refl w.heap.size W);have HWS:Hid (w.heap.size<=W.heap.size):=hyd HB0.out.size;generalize (ackK 4 p.id).cells=YL at *;rw [h1] at c2
  go_enter Tryz.func124, Tryz.ntmps124
  go_wp2_with (first
   | (refine wpList_buildBy rfl 39 _ rfl _ rfl YL.toArray [(0,.int .u8 4),(4,.int .u16 p.id)] (by kernel_rfl) (HBU.out ()) ?_)
   | (refine wpList_build1 HBS.out rfl _ rfl rfl _ rfl _ rfl ?_)
   | (at_builtin;refine wpList_app T_pkt (World.ownsRow_nil W w.heap.size 39 24) HBW.out HWS.out rfl rfl rfl rfl H24.out HO1.out (by omega) (by omega) ?_;intro v' w8 hown' hbel3 hsz3 hlt3;have HOW8:=hyd hown';have HBL8:=hyd hbel3;clear hown' hbel3 hsz3 hlt3;go_frame)
   | fail)
  have how:=HOW8.out;rw [HPV.out,Nat.zero_add] at how;obtain ⟨a',c',rfl,hnew⟩:=NewR.of how;refine (HA.out w8 (HT.out.below (HB0.out.trans HBL8.out)) [ackK 4 p.id] a' c' (hnew.beside HLT.out) (by simp)).mono ?_;rintro e w9 ⟨rfl,F9,ht9,hu9⟩;have HT9:=hyd ht9;have HU9:=hyd (Upd.pre (HB0.out.trans HBL8.out) hu9);clear how hnew ht9 hu9
  go_wp2_with (first
   | (refine wpList_buildBy rfl 79 _ rfl _ rfl NL.toArray [(0,.int .u8 3),(1,.int .i64 op),(2,.int .i64 conn),(3,.string client)] (by kernel_rfl) (HNB.out ()) ?_)
   | fail)
  refine (HN.out w9 F9 _ HT9.out).mono ?_;rintro e w10 ⟨rfl,F10,ht10,hu10⟩;have HQ:Hid (TDone c ad tb E F w (toldT c op client conn p T) w10):=hyd ⟨F10,by rw [HE.out,HR.out];exact ht10,HU9.out.trans' hu10⟩;clear ht10 hu10
  go_wp2_with fail
  go_end0
  exact ⟨rfl,HQ.out⟩
 ·by_cases h2:p.qos=2
  ·have HR:Hid (told1 p = [ackK 5 p.id]):=hyd (by unfold told1;rw [if_neg h1,if_pos h2];rfl)
   have HBU:=hyd (fun (_:Unit)=>built_ackK 5 p.id);have HBS:=hyd (build_pk (ackK 5 p.id));have HO1:=hyd (pk_ones (ackK 5 p.id));have H24:Hid ((ackK 5 p.id).cells.toArray.size=1 * 24):=hyd rfl;have HPV:Hid (([]:List Value)++(ackK 5 p.id).cells.toArray.toList=pksV [ackK 5 p.id]):=hyd (by simp [pksV]);have HBW:=hyd (Below.refl w.heap.size W);have HWS:Hid (w.heap.size<=W.heap.size):=hyd HB0.out.size;generalize (ackK 5 p.id).cells=YL at *;rw [h2] at c2
   go_enter Tryz.func124, Tryz.ntmps124
   go_wp2_with (first
    | (refine wpList_buildBy rfl 39 _ rfl _ rfl YL.toArray [(0,.int .u8 5),(4,.int .u16 p.id)] (by kernel_rfl) (HBU.out ()) ?_)
    | (refine wpList_build1 HBS.out rfl _ rfl rfl _ rfl _ rfl ?_)
    | (at_builtin;refine wpList_app T_pkt (World.ownsRow_nil W w.heap.size 39 24) HBW.out HWS.out rfl rfl rfl rfl H24.out HO1.out (by omega) (by omega) ?_;intro v' w8 hown' hbel3 hsz3 hlt3;have HOW8:=hyd hown';have HBL8:=hyd hbel3;clear hown' hbel3 hsz3 hlt3;go_frame)
    | fail)
   have how:=HOW8.out;rw [HPV.out,Nat.zero_add] at how;obtain ⟨a',c',rfl,hnew⟩:=NewR.of how;refine (HA.out w8 (HT.out.below (HB0.out.trans HBL8.out)) [ackK 5 p.id] a' c' (hnew.beside HLT.out) (by simp)).mono ?_;rintro e w9 ⟨rfl,F9,ht9,hu9⟩;have HT9:=hyd ht9;have HU9:=hyd (Upd.pre (HB0.out.trans HBL8.out) hu9);clear how hnew ht9 hu9
   go_wp2_with (first
    | (refine wpList_buildBy rfl 79 _ rfl _ rfl NL.toArray [(0,.int .u8 3),(1,.int .i64 op),(2,.int .i64 conn),(3,.string client)] (by kernel_rfl) (HNB.out ()) ?_)
    | fail)
   refine (HN.out w9 F9 _ HT9.out).mono ?_;rintro e w10 ⟨rfl,F10,ht10,hu10⟩;have HQ:Hid (TDone c ad tb E F w (toldT c op client conn p T) w10):=hyd ⟨F10,by rw [HE.out,HR.out];exact ht10,HU9.out.trans' hu10⟩;clear ht10 hu10
   go_wp2_with fail
   go_end0
   exact ⟨rfl,HQ.out⟩
  ·have HR:Hid (told1 p = []):=hyd (by unfold told1;rw [if_neg h1,if_neg h2])
   generalize p.qos=qs at *
   go_enter Tryz.func124, Tryz.ntmps124
   go_wp2_with fail
   refine (HA.out W (HT.out.below HB0.out) [] none 0 (.inl rfl) (by simp)).mono ?_;rintro e w9 ⟨rfl,F9,ht9,hu9⟩;have HT9:=hyd ht9;have HU9:=hyd (Upd.pre HB0.out hu9);clear ht9 hu9
   go_wp2_with (first
    | (refine wpList_buildBy rfl 79 _ rfl _ rfl NL.toArray [(0,.int .u8 3),(1,.int .i64 op),(2,.int .i64 conn),(3,.string client)] (by kernel_rfl) (HNB.out ()) ?_)
    | fail)
   refine (HN.out w9 F9 _ HT9.out).mono ?_;rintro e w10 ⟨rfl,F10,ht10,hu10⟩;have HQ:Hid (TDone c ad tb E F w (toldT c op client conn p T) w10):=hyd ⟨F10,by rw [HE.out,HR.out];exact ht10,HU9.out.trans' hu10⟩;clear ht10 hu10
   go_wp2_with fail
   go_end0
   exact ⟨rfl,HQ.out⟩
end
section
open Go Go.RowKit Go.Maps
theorem zeroSeat (w:World):(zeroValue 101).run Tryz.prog w = .ok (.pointer none) w:=by kernel_rfl
section
variable {c:HCfg} {ad:HAd} {w w':World} {tb:Nat} {t:Tn} {v:TnV} {E:List Nat}
theorem TurnP.seatCell (h:TurnP c ad w tb t v E) {cl:ByteArray} {z:HSeat} (h0:t.seat cl=some z):w.heap[ad.seat cl]? = some (.cells [bxV (ad.sess cl),busyV (v.sv cl) z.busy].toArray 105 (0,0)):=by
 have h1:=h.seatAt h0 (cellPc (ad.seat z.s.client) [bxV (ad.sess z.s.client),busyV (v.sv cl) z.busy] 105) (by simp [seatPcs]);rw [(seat_at h0).2] at h1;exact h1
theorem TurnP.unbusy (h:TurnP c ad w tb t v E) (hnd:(t.seats.map (·.s.client)).Nodup) {cl:ByteArray} {z:HSeat} (h0:t.seat cl=some z) :
  TurnP c ad (w.setCell ⟨ad.seat cl,1,none⟩ (.pointer none)) tb (t.setS cl ⟨z.s,none⟩) { v with sv:=SeV.put v.sv cl (v.sv cl) } E/\Upd (feet (pcs c ad tb v t)) (feet (pcs c ad tb { v with sv:=SeV.put v.sv cl (v.sv cl) } (t.setS cl ⟨z.s,none⟩))) w (w.setCell ⟨ad.seat cl,1,none⟩ (.pointer none)):=by
 have hzc:z.s.client=cl:=(seat_at h0).2;have hS:=h.seatLies hnd h0;have hc:=h.seatCell h0
 have e0:seatPcs c ad (v.sv cl) z = []++([cellPc (ad.seat cl) [bxV (ad.sess cl),busyV (v.sv cl) z.busy] 105]++(sesPc (ad.sess cl) z.s c.win c.most (v.sv cl).F :: busyPcs (v.sv cl) z.busy)):=by
  unfold seatPcs;rw [hzc];rfl
 have e1:seatPcs c ad (v.sv cl) ⟨z.s,none⟩ = [cellPc (ad.seat cl) [bxV (ad.sess cl),.pointer none] 105]++([sesPc (ad.sess cl) z.s c.win c.most (v.sv cl).F] ++ []):=by
  unfold seatPcs;rw [hzc];rfl
 have hu1:Upd (feet [cellPc (ad.seat cl) [bxV (ad.sess cl),busyV (v.sv cl) z.busy] 105]) (feet [cellPc (ad.seat cl) [bxV (ad.sess cl),.pointer none] 105]) w (w.setCell ⟨ad.seat cl,1,none⟩ (.pointer none)):=
  ⟨(Mod.refl _ _).setCell (.inl (by simp [feet,cellPc])) _,fun k hk => .inl hk⟩
 have hq:Lies (w.setCell ⟨ad.seat cl,1,none⟩ (.pointer none)) [cellPc (ad.seat cl) [bxV (ad.sess cl),.pointer none] 105]:=lies_one (cellPc_ok _ _ _) (by
  have:=heap_setCell_same w (ad.seat cl) 1 _ _ (.pointer none) hc
  simpa [cellPc] using this)
 rw [e0] at hS;have ht:=hS.turn hq hu1
 have hl2:Lies (w.setCell ⟨ad.seat cl,1,none⟩ (.pointer none)) (seatPcs c ad (v.sv cl) ⟨z.s,none⟩):=by
  rw [e1];have h3:=ht.1;have h4:Lies (w.setCell ⟨ad.seat cl,1,none⟩ (.pointer none)) (([cellPc (ad.seat cl) [bxV (ad.sess cl),.pointer none] 105] ++ [sesPc (ad.sess cl) z.s c.win c.most (v.sv cl).F])++busyPcs (v.sv cl) z.busy):=h3;have h5:=h4.left;exact h5
 refine h.setSeat hnd h0 hzc hl2 ?_ (fun F' hu' k left hk=>by cases hk);rw [e0,e1];refine ⟨hu1.1.mono fun k hk => ?_,fun k hk => .inl ?_⟩
 ·rw [feet_app,feet_app];simp [hk]
 ·rw [feet_app,feet_app] at hk ⊢
  have hs:∀ q,q ∈ feet [cellPc (ad.seat cl) [bxV (ad.sess cl),.pointer none] 105]->q ∈ feet [cellPc (ad.seat cl) [bxV (ad.sess cl),busyV (v.sv cl) z.busy] 105]:=fun q hq=>hq
  rcases List.mem_append.1 hk with hk | hk
  ·exact List.mem_append_right _ (List.mem_append_left _ (hs k hk))
  ·refine List.mem_append_right _ (List.mem_append_right _ ?_)
   simp only [feet,List.flatMap_cons] at hk ⊢;exact List.mem_append_left _ (by simpa using hk)
theorem TurnP.lookSeat (h:TurnP c ad w tb t v E) {cl:ByteArray} (hs:cl.size<=maxLen):(Instr.lookup 89 (.map (some ad.ms)) (.string cl) false).run Tryz.prog w = .ok (ptrV ((t.seat cl).map fun _=>ad.seat cl)) w:=by
 have h1:=h.seats.look Tryz.underlying89 zeroSeat hs;rw [h1];unfold seatF;rw [str_eta]
end
theorem mid_cells {w:World} {b:Nat} {A B C:List Value} {T:TypeId} (h:w.heap[b]? = some (.cells (A++(B++C)).toArray T (0,0))):w.rangeAt b A.length B:=fun j u hj=>by
 rw [cell_of_row _ _ _ _ _ _ h];rw [List.getElem?_toArray,List.getElem?_append_right (by omega),Nat.add_sub_cancel_left,List.getElem?_append_left (List.getElem?_eq_some_iff.1 hj).1];exact hj
theorem pkt_size' (p:Pkt):(Tryz.prog.info? 39).map (·.size)=some p.cells.length:=by kernel_rfl
theorem built_note3 (op:Int) (client:ByteArray):Tryz.prog.built 79 [(0,.int .u8 3),(1,.int .i64 op),(3,.string client)]=some (noteN 3 op 0 client).cells.toArray:=by kernel_rfl
set_option maxRecDepth 100000
set_option maxHeartbeats 4000000
theorem flowed_any (c:HCfg) (ad:HAd) (tb:Nat) (T:Tn) (E F:List Nat) (w:World) (f:HFlow) (fb:Nat) (h:TurnAt c ad w tb T E F) (hok:HOk T) (hn1:1<=c.n) (hn2:c.n<=64) (hf:FlOk f) (hst:Stay w F fb (flowC f) 161)
  (hz:f.conn ≠ 0 -> ∃ z,T.seat f.client=some z) (hn:T.mails.length+1<=100000) (hnn:T.notes.length<=100000) :
  Calls Tryz.prog 74 #[.pointer (some ⟨tb,0,none⟩),.int .i64 f.op,.pointer (some ⟨fb,0,none⟩)] w fun e w'=>e = .returned (.tuple #[])/\TDone c ad tb E F w (flowedT c f T) w':=by
 have c0:w.cell? ⟨fb,0,none⟩=some (.string f.client):=by rw [cell_of_row _ _ 0 _ _ _ hst.2.2];rfl
 have c1:w.cell? ⟨fb,1,none⟩=some (.int .i64 f.conn):=by rw [cell_of_row _ _ 1 _ _ _ hst.2.2];rfl
 by_cases hc:f.conn=0
 ·have HE:Hid (flowedT c f T=T.note (noteN 3 f.op 0 f.client)):=hyd (by unfold flowedT;rw [if_pos hc])
  have HN:=hyd (note_any c ad tb T E F w (noteN 3 f.op 0 f.client) (noteN 3 f.op 0 f.client) none 0 h rfl (.inl rfl) (Nat.zero_le _) hnn);have HNB:=hyd (fun (_:Unit)=>built_note3 f.op f.client);rw [hc] at c1;clear h hok hf hst hz hn hnn;generalize (noteN 3 f.op 0 f.client).cells=NL at *
  go_enter Tryz.func74, Tryz.ntmps74
  go_wp2_with (first
   | (refine wpList_buildBy rfl 79 _ rfl _ rfl NL.toArray [(0,.int .u8 3),(1,.int .i64 f.op),(3,.string f.client)] (by kernel_rfl) (HNB.out ()) ?_)
   | fail)
  refine HN.out.mono ?_;rintro e w2 ⟨rfl,hd⟩;have HD:=hyd hd;clear hd
  go_wp2_with fail
  (try simp only [Exit.inBlock,Exit.then])
  refine bodyPost_ret (results_none rfl _ _ _) rfl ?_;exact ⟨rfl,by rw [HE.out];exact HD.out⟩
 ·obtain ⟨z,h0⟩:=hz hc
  obtain ⟨v,hP,rfl⟩:=h;have hP0:=hP.below (Below.refl w.heap.size w).drew
  have hlk:(Instr.lookup 89 (.map (some ad.ms)) (.string f.client) false).run Tryz.prog w.drew = .ok (.pointer (some ⟨ad.seat f.client,0,none⟩)) w.drew:=by
   have:=hP0.lookSeat (cl:=f.client) (by have:=hf.client;unfold maxLen;omega);rw [h0] at this;exact this
  have hub:=hP.unbusy hok.nd h0;have hcs:=hP0.seatCell h0;have HE:Hid (flowedT c f T=toldT c f.op f.client f.conn f.p (T.setS f.client ⟨z.s,none⟩)):=hyd (by unfold flowedT freeT;rw [if_neg hc,h0]);have HTO:=hyd (fun X G' (hX:TurnAt c ad X tb (T.setS f.client ⟨z.s,none⟩) E G')=>told_any c ad tb (T.setS f.client ⟨z.s,none⟩) E G' X f.op f.conn f.client f.p hX hn1 hn2 hf.conn.2 hn hnn);obtain ⟨d0,-,-,-,d6,-⟩:=hP.cells;have HS0:=hyd hst;have HFC:Hid (∀ X:World,X.heap[fb]? = some (.cells (flowC f).toArray 161 (0,0))->X.cell? ⟨fb,0,none⟩=some (.string f.client)/\X.cell? ⟨fb,1,none⟩=some (.int .i64 f.conn)/\X.rangeAt fb 2 f.p.cells):=hyd (fun X hX=>⟨by rw [cell_of_row _ _ 0 _ _ _ hX];rfl,by rw [cell_of_row _ _ 1 _ _ _ hX];rfl,mid_cells (A:=[.string f.client,.int .i64 f.conn]) hX⟩);have HLS:=hyd (pkt_size' f.p);have HQ:Hid (TurnAt c ad (w.setCell ⟨ad.seat f.client,1,none⟩ (.pointer none)).drew tb (T.setS f.client ⟨z.s,none⟩) E (feet (pcs c ad tb { v with sv:=SeV.put v.sv f.client (v.sv f.client) } (T.setS f.client ⟨z.s,none⟩)))/\Upd (feet (pcs c ad tb v T)) (feet (pcs c ad tb { v with sv:=SeV.put v.sv f.client (v.sv f.client) } (T.setS f.client ⟨z.s,none⟩))) w (w.setCell ⟨ad.seat f.client,1,none⟩ (.pointer none)).drew):=hyd ⟨⟨_,hub.1.below (Below.refl _ _).drew,rfl⟩,hub.2.next (Below.refl _ _).drew⟩;have e1:=cell_of_row w (ad.seat f.client) 1 _ _ _ hcs;have g1:=frozen_of_row w.drew (ad.seat f.client) 1 _ _ hcs
  clear hP hP0 hub hcs hst hok hf hz hn hnn hn1 hn2;generalize f.p.cells=PL at *
  go_enter Tryz.func74, Tryz.ntmps74
  go_upto_region 2 with fail
  refine wp_region_tail (S:=fun X=>X.cell? ⟨tb,0,none⟩=some (.pointer (some ⟨ad.hb,0,none⟩))/\X.cell? ⟨ad.hb,6,none⟩=some (.map (some ad.ms))/\X.cell? ⟨fb,0,none⟩=some (.string f.client)/\(Instr.lookup 89 (.map (some ad.ms)) (.string f.client) false).run Tryz.prog X = .ok (.pointer (some ⟨ad.seat f.client,0,none⟩)) X) 14 (by kernel_rfl) ⟨d0,d6,c0,hlk⟩ (fun hHeld => ?_);refine uA 0 (h:=uA 1 (h:=uA 2 (h:=uA 3 (h:=uA 4 (h:=uA 5 (h:=uA 6 (h:=uA 7 (h:=uA 8 (h:=uA 9 (h:=uA 10 (h:=?_)))))))))));simp only [tks];refine ttk 11 (v:=.pointer (some ⟨ad.seat f.client,0,none⟩)) ?_ hHeld ?_;· (intro w0 hS0;(try dsimp only at hS0);go_simp)
  simp only [tks];refine uA 12 (h:=uA 13 (h:=?_));simp only [tks];refine wpTail.ready (rs:=[14]) (by kernel_rfl) (by simp) ?_;refine AllTail.cons rfl (fun K hK => ?_) AllTail.nil;rw [if_pos (by rfl)];go_simp;refine hK.out _ _ (fun h=>absurd rfl h) (fun _ => ?_);refine wpTail.done (by kernel_rfl) ?_ _;have HX2:=hyd (HS0.out.upd HQ.out.2).2.2;clear e1 g1 c0 c1 d0 d6 hHeld hlk;generalize (w.setCell ⟨ad.seat f.client,1,none⟩ (.pointer none)).drew=w2 at *
  go_upto_region 3 with fail
  refine wp_region_held_drew (S:=fun X=>X.cell? ⟨fb,0,none⟩=some (.string f.client)/\X.cell? ⟨fb,1,none⟩=some (.int .i64 f.conn)/\X.rangeAt fb 2 PL) (by kernel_rfl) (HFC.out w2.drew HX2.out) (fun hHeld => ?_);refine tA 0 (h:=tA 1 (h:=tA 2 (h:=tA 3 (h:=tA 4 (h:=tA 5 (h:=tA 6 (h:=tA 7 (h:=tA 8 (h:=tA 9 (h:=tA 10 (h:=tA 11 (h:=tA 12 (h:=?_)))))))))))));simp only [tks];refine tk 13 (v:=.agg PL.toArray) (fun w0 hS0=>exec_load_row rfl rfl hS0.2.2 Tryz.underlying39 rfl HLS.out) hHeld ?_;simp only [tks];refine wpAnyH_ready (rs:=[14]) (by kernel_rfl) (by simp) ?_;refine AllReadyH.cons rfl (fun K hK => ?_) AllReadyH.nil;rw [if_pos (by rfl)];go_simp
  go_at_call 124
  refine (HTO.out _ _ (HQ.out.1.below (Below.refl _ _).drew)).mono ?_;rintro e w4 ⟨rfl,F4,ht4,hu4⟩;have hu5:=HQ.out.2.trans' (Upd.pre (Below.refl _ _).drew hu4);refine hK.out _ _ (HFC.out _ (HS0.out.upd hu5).2.2) (fun hHeld => ?_);have HD:Hid (TDone c ad tb E (feet (pcs c ad tb v T)) w (flowedT c f T) w4):=hyd ⟨F4,by rw [HE.out];exact ht4,hu5⟩;clear ht4 hu4 hu5;refine wpAnyH_done (by kernel_rfl) ?_ _;clear hHeld
  go_wp2_with fail
  go_end0
  exact ⟨rfl,HD.out⟩
end
section
open Go Go.RowKit Go.Maps
def newF (op:Int) (client:ByteArray) (conn:Int) (p:Pkt):HFlow:=⟨op,client,conn,p,-1,0⟩
theorem built_flow (op:Int) (client:ByteArray) (conn:Int) (p:Pkt):Tryz.prog.built 161 [(0,.string client),(1,.int .i64 conn),(2,.agg p.cells.toArray),(3,.int .i64 (-1))]=some (flowC (newF op client conn p)).toArray:=by
 obtain ⟨p0,p1,p2,p3,p4,p5,p6,p7,p8,p9,p10,p11,⟨m0,m1,m2,m3⟩,p13,p14,p15,p16,p17,p18,p19,p20,p21,p22⟩:=p
 kernel_rfl
theorem built_noteM (op conn:Int) (client:ByteArray) (m:Msg):Tryz.prog.built 79 [(0,.int .u8 4),(1,.int .i64 op),(2,.int .i64 conn),(3,.string client),(5,.agg #[.string m.t,.string m.p,.int .u8 m.q,.bool m.r])]=some ({ noteN 4 op conn client with msg:=m }:Note).cells.toArray:=by
 obtain ⟨m0,m1,m2,m3⟩:=m
 kernel_rfl
def routeX (op:Int) (client:ByteArray) (m:Msg) (me:Int):Item:={ itZ with kind:=7,op:=op,client:=client,msg:=m,frm:=me }
theorem built_route (op:Int) (client:ByteArray) (m:Msg) (me:Int):Tryz.prog.built 44 [(0,.int .u8 7),(1,.int .i64 op),(3,.string client),(6,.agg #[.string m.t,.string m.p,.int .u8 m.q,.bool m.r]),(10,.int .i64 me)]=some (routeX op client m me).cells.toArray:=by
 obtain ⟨m0,m1,m2,m3⟩:=m
 kernel_rfl
set_option maxRecDepth 100000
set_option maxHeartbeats 4000000
theorem route_any (w0:World) (hT:Tabs w0) (c:HCfg) (ad:HAd) (tb:Nat) (T:Tn) (E F:List Nat) (w:World) (op conn:Int) (client:ByteArray) (p:Pkt) (h:TurnAt c ad w tb T E F) (hB:Base w0 w F) (hok:HOk T) (hn1:1<=c.n) (hn2:c.n<=64)
  (hf:FlOk (newF op client conn p)) (hz:conn ≠ 0 -> ∃ z,T.seat client=some z) (hn:T.mails.length+1<=100000) (hnn:T.notes.length<=100000) (hfl:T.flows.length<=100000) :
  Calls Tryz.prog 125 #[.pointer (some ⟨tb,0,none⟩),.int .i64 op,.string client,.int .i64 conn,.agg p.cells.toArray] w fun e w'=>e = .returned (.tuple #[])/\TDone c ad tb E F w (routeT c op client conn p T) w':=by
 obtain ⟨W,hW⟩:∃ W,w.alloc (.cells p.cells.toArray 39)=W:=⟨_,rfl⟩;have hb0:Below w.heap.size w W:=by rw [<- hW];exact low_alloc _ _
 have hx0:W.heap[w.heap.size]? = some (.cells p.cells.toArray 39 (0,0)):=by rw [<- hW];exact heap_alloc_new w _
 have hs0:W.heap.size=w.heap.size+1:=by rw [<- hW];simp
 obtain ⟨V,hV⟩:∃ V,W.alloc (.cells (flowC (newF op client conn p)).toArray 161)=V:=⟨_,rfl⟩;have hb1:Below w.heap.size w V:=by rw [<- hV];exact hb0.alloc (by omega) _
 have hx1:V.heap[w.heap.size]? = some (.cells p.cells.toArray 39 (0,0)):=by rw [<- hV];exact (Below.heap_alloc _ _ _ (by omega)).trans hx0
 have hy1:V.heap[W.heap.size]? = some (.cells (flowC (newF op client conn p)).toArray 161 (0,0)):=by rw [<- hV];exact heap_alloc_new W _
 have hs1:V.heap.size=w.heap.size+2:=by rw [<- hV];simp [hs0]
 have hsp:p.topic.size<=1000000:=by have:=hf.p.topic;show _;simp only [newF] at this;omega
 have HB1:=hyd hb1;have HX0:=hyd hx0;have HX1:=hyd hx1;have HY1:=hyd hy1;have HT:=hyd h;have HBA:=hyd hB;have HH:=hyd (fun X hX=>hub_any p.topic c.n X hX hsp hn1 hn2);have HTA:=hyd (fun X (hX:Below w.heap.size w X)=>hT.below (hB.below hX).1);have HFW:=hyd (fun X G (hX:TurnAt c ad X tb T E G) (fb:Nat) (hst:Stay X G fb (flowC (newF op client conn p)) 161)=>flowed_any c ad tb T E G X (newF op client conn p) fb hX hok hn1 hn2 hf hst hz hn hnn);have HLP:Hid ((Tryz.prog.info? 39).map (·.size)=some p.cells.toArray.size):=hyd (pkt_size' p);have HBF:=hyd (fun (_:Unit)=>built_flow op client conn p);have HV:=hyd hV;have HPC:Hid (∀ X:World,X.heap[w.heap.size]? = some (.cells p.cells.toArray 39 (0,0))->X.cell? ⟨w.heap.size,5,none⟩=some (.string p.topic)/\X.cell? ⟨w.heap.size,6,none⟩=some (.string p.payload)/\X.cell? ⟨w.heap.size,2,none⟩=some (.int .u8 p.qos)/\X.cell? ⟨w.heap.size,3,none⟩=some (.bool p.retain)):=hyd (fun X hX=>⟨by rw [cell_of_row _ _ 5 _ _ _ hX];rfl,by rw [cell_of_row _ _ 6 _ _ _ hX];rfl,by rw [cell_of_row _ _ 2 _ _ _ hX];rfl,by rw [cell_of_row _ _ 3 _ _ _ hX];rfl⟩);have hLT:=h.lt;have HLT:=hyd hLT;have HN1:=hyd hn1;have HOP:Hid (i64R op):=hyd hf.op;have HFD:=hyd hok.fnd;have HN:=hyd hn;have HNN:=hyd hnn;have HFL:=hyd hfl;have HS0:=hyd hs0
 have HS1:=hyd hs1;clear hb0 hx0 hb1 hx1 hy1 h hB hok hf hz hn hnn hsp hLT hT hn1 hn2 hV hs0 hs1 hfl;generalize hFC:(flowC (newF op client conn p))=FC at *;have HFCE:=hyd hFC;clear hFC;generalize p.cells.toArray=PC at *
 go_enter Tryz.func125, Tryz.ntmps125
 go_upto_region 2 with (first
  | (refine wpList_load_row rfl 39 _ rfl w.heap.size rfl 39 PC _ _ HX0.out Tryz.underlying39 rfl HLP.out ?_)
  | (refine wpList_buildBy rfl 161 _ rfl _ rfl FC.toArray [(0,.string client),(1,.int .i64 conn),(2,.agg PC),(3,.int .i64 (-1))] (by kernel_rfl) (HBF.out ()) ?_)
  | fail)
 rw [HV.out];have HS:Hid (∀ X:World,TCells c ad tb X->X.heap[w.heap.size]? = some (.cells PC 39 (0,0))->X.cell? ⟨w.heap.size,5,none⟩=some (.string p.topic)/\X.cell? ⟨tb,0,none⟩=some (.pointer (some ⟨ad.hb,0,none⟩))/\X.cell? ⟨ad.hb,0,none⟩=some (.int .i64 c.n)):=hyd (fun X e1 e2=>⟨(HPC.out X e2).1,e1.h,e1.n⟩);refine wp_region_held_drew (S:=fun X=>X.cell? ⟨w.heap.size,5,none⟩=some (.string p.topic)/\X.cell? ⟨tb,0,none⟩=some (.pointer (some ⟨ad.hb,0,none⟩))/\X.cell? ⟨ad.hb,0,none⟩=some (.int .i64 c.n)) (by kernel_rfl) (HS.out V.drew (HT.out.below HB1.out.drew).cells HX1.out) (fun hHeld => ?_);refine tA 0 (h:=tA 1 (h:=tA 2 (h:=tA 3 (h:=tA 4 (h:=tA 5 (h:=tA 6 (h:=tA 7 (h:=tA 8 (h:=tA 9 (h:=?_))))))))));simp only [tks];refine wpAnyH_ready (rs:=[10]) (by kernel_rfl) (by simp) ?_;refine AllReadyH.cons rfl (fun K hK => ?_) AllReadyH.nil;rw [if_pos (by rfl)];go_simp
 go_at_call 204
 refine (HH.out _ (HTA.out _ HB1.out.drew)).mono ?_;rintro e w3 ⟨rfl,hk3⟩;have hb3:Below w.heap.size w w3:=bnext HB1.out.drew (Nat.le_refl _) hk3;have hx3:=(hk3.block w.heap.size (by rw [show V.drew.heap.size=V.heap.size from rfl,HS1.out];omega)).trans HX1.out;have hy3:=(hk3.block W.heap.size (by rw [show V.drew.heap.size=V.heap.size from rfl,HS1.out,HS0.out];omega)).trans HY1.out;have hs3:w.heap.size+2<=w3.heap.size:=by have:=hk3.size;rw [show V.drew.heap.size=V.heap.size from rfl,HS1.out] at this;exact this
 refine hK.out _ _ (HS.out _ (HT.out.below hb3).cells hx3) (fun hHeld => ?_);have HB3:=hyd hb3;have HX3:=hyd hx3;have HY3:=hyd hy3;clear hk3 hb3 hx3 hy3;refine tA 11 (h:=?_);simp only [tks];refine wpAnyH_done (by kernel_rfl) ?_ _;clear hHeld;obtain ⟨b,hb⟩:∃ b,nameB p.topic.data.toList=b:=⟨_,rfl⟩
 cases b
 ·have HE:Hid (routeT c op client conn p T=flowedT c (newF op client conn p) T):=hyd (by unfold routeT;rw [hb];rfl)
  have hhn:hubN p.topic.data.toList c.n = -1:=by unfold hubN;rw [hb];rfl
  rw [hhn];clear hhn hb;have HST:Hid (Stay w3 F W.heap.size FC 161):=hyd ⟨fun hk=>by have:=HLT.out _ (List.mem_append_right _ hk);have:=HS0.out;omega,by have:=HS0.out;omega,HY3.out⟩
  go_wp2_with fail
  refine (HFW.out w3 F (HT.out.below HB3.out) W.heap.size HST.out).mono ?_;rintro e w4 ⟨rfl,hd⟩;have HD:=hyd (TDone.pre HB3.out hd);clear hd
  go_wp2_with fail
  (try simp only [Exit.inBlock,Exit.then])
  refine bodyPost_ret (results_none rfl _ _ _) rfl ?_;exact ⟨rfl,by rw [HE.out];exact HD.out⟩
 ·have hhn:=hubN_in hb HN1.out
  have HE:Hid (routeT c op client conn p T=({ T.note { noteN 4 op conn client with msg:=msgOf p } with flows:=withoutF op T.flows ++ [newF op client conn p] }:Tn).mail (hubN p.topic.data.toList c.n) 4 (routeX op client (msgOf p) c.me)):=hyd (by unfold routeT;rw [if_pos hb];rfl);clear hb;generalize hubN p.topic.data.toList c.n=q at *;obtain ⟨hq1,hq2⟩:=hhn;obtain ⟨c5,c6,c2,c3⟩:=HPC.out w3 HX3.out;have hbm:=low_alloc w3 (.cells #[.string p.topic,.string p.payload,.int .u8 p.qos,.bool p.retain] 36);have hxm:=heap_alloc_new w3 (.cells #[.string p.topic,.string p.payload,.int .u8 p.qos,.bool p.retain] 36);have HNM:=hyd (fun (_:Unit)=>built_noteM op conn client (msgOf p));have HRM:=hyd (fun (_:Unit)=>built_route op client (msgOf p) c.me);have hmore:TurnAt c ad (w3.alloc (.cells #[.string p.topic,.string p.payload,.int .u8 p.qos,.bool p.retain] 36)) tb T (W.heap.size :: E) F:=HT.out.more (bnext HB3.out (Nat.le_refl _) hbm) (by have:=HS0.out;omega) (by have:=HS0.out;have:=hbm.size;omega);have HNO:=hyd (note_any c ad tb T (W.heap.size :: E) F _ ({ noteN 4 op conn client with msg:=msgOf p }:Note) { noteN 4 op conn client with msg:=msgOf p } none 0 hmore rfl (.inl rfl) (Nat.zero_le _) HNN.out);have HSM:Hid (Stay (w3.alloc (.cells #[.string p.topic,.string p.payload,.int .u8 p.qos,.bool p.retain] 36)) F w3.heap.size [.string p.topic,.string p.payload,.int .u8 p.qos,.bool p.retain] 36):=hyd ⟨fun hk=>by have:=HLT.out _ (List.mem_append_right _ hk);omega,by simp,hxm⟩
  have HYM:=hyd ((hbm.block W.heap.size (by have:=HS0.out;omega)).trans HY3.out);have HBM:=hyd (bnext HB3.out (Nat.le_refl _) hbm);have HMO:Hid (∀ X G',TurnAt c ad X tb ({ T.note { noteN 4 op conn client with msg:=msgOf p } with flows:=withoutF op T.flows ++ [newF op client conn p] }:Tn) E G'->Calls Tryz.prog 73 #[.pointer (some ⟨tb,0,none⟩),.int .i64 q,.int .i64 4,.agg (routeX op client (msgOf p) c.me).cells.toArray] X fun e w'=>e = .returned (.tuple #[]) /\ ∃ F',TurnAt c ad w' tb (({ T.note { noteN 4 op conn client with msg:=msgOf p } with flows:=withoutF op T.flows ++ [newF op client conn p] }:Tn).mail q 4 (routeX op client (msgOf p) c.me)) E F'/\Upd G' F' X w'):=hyd (fun X G' hX=>mail_any c ad tb _ E G' X q 4 (routeX op client (msgOf p) c.me) (routeX op client (msgOf p) c.me) none 0 hX rfl (.inl rfl) (by have:=HN.out;show T.mails.length<=_;omega));clear hbm hxm hmore;generalize (routeX op client (msgOf p) c.me).cells=RL at *;generalize ({ noteN 4 op conn client with msg:=msgOf p }:Note).cells=NL at *
  go_upto_region 7 with (first
   | (refine wpList_buildBy rfl 79 _ rfl _ rfl NL.toArray [(0,.int .u8 4),(1,.int .i64 op),(2,.int .i64 conn),(3,.string client),(5,.agg #[.string p.topic,.string p.payload,.int .u8 p.qos,.bool p.retain])] (by kernel_rfl) (HNM.out ()) ?_)
   | (go_at_call 107;refine HNO.out.mono ?_;rintro e w5 ⟨rfl,F5,ht5,hu5⟩;have HT5:=hyd ht5;have HU5:=hyd hu5;clear ht5 hu5)
   | fail)
  clear c5 c6 c2 c3;obtain ⟨v5,hP5,rfl⟩:=HT5.out;obtain ⟨D,hD1,hD2,hD3⟩:=hP5.flows;have hd5:=hP5.cells;have c50:=hd5.h;have c57:=hd5.mf
  have hsz:Maps.size D < maxLen:=by
   have h9:Maps.size D<=100000:=Nat.le_trans hD2 HFL.out;unfold maxLen;omega
  have HP5:=hyd hP5;have HD1:=hyd hD1;have HD2:=hyd hD2;have HD3:=hyd hD3;clear hP5 hD2 hD3 hd5
  go_upto_region 8 with (first
   | (at_mapUpdate;refine wpList_mapUpdate_own _ rfl _ _ _ 90 rfl 3 159 kI Tryz.underlying90 _ ad.mf _ _ rfl hD1 hsz _ _ _ rfl rfl (ikey HOP.out) _ [] (ptrElem_mk _) ?_;intro w6 hown6 hgr6;have HOW6:=hyd hown6;have HGR6:=hyd hgr6;clear hown6 hgr6)
   | fail)
  clear hD1 hsz c50 c57;have hm6:Mod [ad.mf] w5 w6:=(Mod.refl _ _).grown HGR6.out (fun k hk=>by cases hk;left;simp)
  have him:IMap w6 ad.mf (withoutF op (T.note { noteN 4 op conn client with msg:=msgOf p }).flows ++ [newF op client conn p]).length (updF (flowF v5.fb (T.note { noteN 4 op conn client with msg:=msgOf p })) op (some W.heap.size)):=by
   obtain ⟨D',a1,a2,a3⟩:=IMap.put HD1.out HD2.out HD3.out HOP.out HOW6.out;refine ⟨D',a1,Nat.le_trans a2 ?_,a3⟩;have h9:=len_without (op:=op) HFD.out;show T.flows.length+_<=(withoutF op T.flows ++ [_]).length
   rw [List.length_append,List.length_singleton]
   have h10:(flowF v5.fb (T.note { noteN 4 op conn client with msg:=msgOf p }) op).isSome=((T.flows.find? fun f=>f.op == op).map fun _=>()).isSome:=by
    unfold flowF;show ((T.flows.find? fun f=>f.op == op).map _).isSome=_
    cases T.flows.find? fun f=>f.op == op <;> rfl
   rw [h10];generalize (((T.flows.find? fun f=>f.op == op).map fun _=>()).isSome)=bb at *
   cases bb <;> simp at h9 ⊢ <;> omega
  have hst5:w5.heap[W.heap.size]? = some (.cells (flowC (newF op client conn p)).toArray 161 (0,0)):=by
   rw [HFCE.out];exact (HU5.out.1.block W.heap.size (Array.getElem?_eq_some_iff.1 HYM.out).1 (fun hk=>by have:=HLT.out _ (List.mem_append_right _ hk);have:=HS0.out;omega)).trans HYM.out
  have hfs:=HP5.out.flowSet (f:=newF op client conn p) hst5 (fun hk=>by have:=HLT.out _ (List.mem_append_left _ hk);have:=HS0.out;omega) him hm6;have hsm5:=HSM.out.upd HU5.out;have hs6:=hfs.2.1.size
  have HSM6:Hid (Stay w6 (feet (pcs c ad tb { v5 with fb:=fbPut v5.fb op W.heap.size } { T.note { noteN 4 op conn client with msg:=msgOf p } with flows:=withoutF op (T.note { noteN 4 op conn client with msg:=msgOf p }).flows ++ [newF op client conn p] })) w3.heap.size [.string p.topic,.string p.payload,.int .u8 p.qos,.bool p.retain] 36):=hyd
   ⟨fun hk=>(hfs.2.2 _ hk).elim hsm5.1 fun e=>by have:=HS0.out;omega,Nat.lt_of_lt_of_le hsm5.2.1 hs6,(hfs.2.1.block _ hsm5.2.1 hsm5.1).trans hsm5.2.2⟩
  have HU6:=hyd (Upd.join (Upd.pre HBM.out HU5.out) hfs.2.1 hfs.2.2 (show w.heap.size<=W.heap.size by have:=HS0.out;omega));have HT6:Hid (TurnAt c ad w6 tb ({ T.note { noteN 4 op conn client with msg:=msgOf p } with flows:=withoutF op T.flows ++ [newF op client conn p] }:Tn) E (feet (pcs c ad tb { v5 with fb:=fbPut v5.fb op W.heap.size } { T.note { noteN 4 op conn client with msg:=msgOf p } with flows:=withoutF op (T.note { noteN 4 op conn client with msg:=msgOf p }).flows ++ [newF op client conn p] }))):=hyd ⟨_,hfs.1,rfl⟩;clear hm6 him hst5 hfs hsm5 hs6;have HS8:Hid (∀ X:World,TCells c ad tb X->X.heap[w3.heap.size]? = some (.cells [.string p.topic,.string p.payload,.int .u8 p.qos,.bool p.retain].toArray 36 (0,0))->X.rangeAt w3.heap.size 0 [.string p.topic,.string p.payload,.int .u8 p.qos,.bool p.retain]/\X.cell? ⟨tb,0,none⟩=some (.pointer (some ⟨ad.hb,0,none⟩))/\X.cell? ⟨ad.hb,5,none⟩=some (.int .i64 c.me)):=hyd (fun X e1 e2=>⟨range_blk e2,e1.h,e1.me⟩);have HMZ:Hid ((Tryz.prog.info? 36).map (·.size)=some [Value.string p.topic,.string p.payload,.int .u8 p.qos,.bool p.retain].length):=hyd (by kernel_rfl);refine wp_region_held_drew (S:=fun X=>X.rangeAt w3.heap.size 0 [.string p.topic,.string p.payload,.int .u8 p.qos,.bool p.retain]/\X.cell? ⟨tb,0,none⟩=some (.pointer (some ⟨ad.hb,0,none⟩))/\X.cell? ⟨ad.hb,5,none⟩=some (.int .i64 c.me)) (by kernel_rfl) (HS8.out w6.drew (HT6.out.below (Below.refl _ _).drew).cells HSM6.out.2.2) (fun hHeld => ?_)
  refine tA 0 (h:=tA 1 (h:=tA 2 (h:=tA 3 (h:=?_))));simp only [tks];refine tk 4 (v:=.agg #[.string p.topic,.string p.payload,.int .u8 p.qos,.bool p.retain]) (fun w0 hS0=>exec_load_row rfl rfl hS0.1 Tryz.underlying36 rfl HMZ.out) hHeld ?_;simp only [tks];refine tA 5 (h:=tA 6 (h:=tA 7 (h:=tA 8 (h:=tA 9 (h:=tA 10 (h:=tA 11 (h:=?_)))))));simp only [tks];refine tk 12 (v:=.agg RL.toArray) (fun w0 hS0=>exec_build 44 _ rfl RL.toArray [(0,.int .u8 7),(1,.int .i64 op),(3,.string client),(6,.agg #[.string p.topic,.string p.payload,.int .u8 p.qos,.bool p.retain]),(10,.int .i64 c.me)] (by kernel_rfl) (HRM.out ())) hHeld ?_;simp only [tks];refine wpAnyH_ready (rs:=[13]) (by kernel_rfl) (by simp) ?_;refine AllReadyH.cons rfl (fun K hK => ?_) AllReadyH.nil;rw [if_pos (by rfl)];go_simp
  go_at_call 73
  refine (HMO.out _ _ (HT6.out.below (Below.refl _ _).drew)).mono ?_;rintro e w7 ⟨rfl,F7,ht7,hu7⟩;have hu8:=HU6.out.trans' (Upd.pre (Below.refl _ _).drew hu7);refine hK.out _ _ (HS8.out _ ht7.cells (HSM6.out.upd (Upd.pre (Below.refl _ _).drew hu7)).2.2) (fun hHeld => ?_);have HD:Hid (TDone c ad tb E F w (routeT c op client conn p T) w7):=hyd ⟨F7,by rw [HE.out];exact ht7,hu8⟩;clear ht7 hu7 hu8;refine wpAnyH_done (by kernel_rfl) ?_ _;clear hHeld
  go_wp2_with fail
  go_end0
  exact ⟨rfl,HD.out⟩
end
section
open Go Go.RowKit Go.Maps
theorem Lies.perm {w:World} {ps qs:List Pc} (h:Lies w ps) (hp:ps.Perm qs):Lies w qs:=
 ⟨fun p hq=>h.ok p (hp.mem_iff.2 hq),fun p hq=>h.at' p (hp.mem_iff.2 hq),hp.pairwise h.off fun {_ _} hab k hk hk'=>hab k hk' hk⟩
theorem feet_perm {ps qs:List Pc} (hp:ps.Perm qs) (k:Nat):k ∈ feet ps ↔ k ∈ feet qs:=by
 rw [mem_feet,mem_feet];exact ⟨fun ⟨p,h1,h2⟩=>⟨p,hp.mem_iff.1 h1,h2⟩,fun ⟨p,h1,h2⟩=>⟨p,hp.mem_iff.2 h1,h2⟩⟩
theorem Upd.joinX {G0 G G' X:List Nat} {w0 w w':World} (h1:Upd G0 G w0 w) (hm:Mod G w w') (hk:∀ k ∈ G',k ∈ G \/ k ∈ X) (hb:∀ k ∈ X,w0.heap.size<=k):Upd G0 G' w0 w':=
 ⟨h1.1.trans hm h1.2,fun k hk'=>(hk k hk').elim (h1.2 k) fun e => .inr (hb k e)⟩
section
variable {c:HCfg} {ad:HAd} {w w':World} {tb:Nat} {t:Tn} {v:TnV} {E:List Nat}
theorem setS_mem {cl:ByteArray} {z' y:HSeat} (h:y ∈ (t.setS cl z').seats):y=z' \/ (y ∈ t.seats/\y.s.client ≠ cl):=by
 obtain ⟨y0,h1,h2⟩:=List.mem_map.1 h
 split at h2
 ·exact .inl h2.symm
 ·rename_i hn;rw [<- h2];exact .inr ⟨h1,hn⟩
theorem pcs_split (hnd:(t.seats.map (·.s.client)).Nodup) {cl:ByteArray} {z:HSeat} (h0:t.seat cl=some z) :
  ∃ A B,pcs c ad tb v t=A++(seatPcs c ad (v.sv cl) z++B) /\ ∀ v1 z',z'.s.client=cl->pcs c ad tb { v with sv:=SeV.put v.sv cl v1 } (t.setS cl z')=A++(seatPcs c ad v1 z'++B):=by
 obtain ⟨S1,S2,e,h1,h2⟩:=seat_split hnd h0;have hzc:z.s.client=cl:=(seat_at h0).2;refine ⟨turnPc tb ad v.mv v.L :: logPc ad.lg v.nv v.N t.ops :: cellPc ad.hb (homeC c ad) 92 :: mapPc ad.ms t.seats.length (seatF ad t) :: imapPc ad.mf t.flows.length (flowF v.fb t) :: S1.flatMap (fun z=>seatPcs c ad (v.sv z.s.client) z),S2.flatMap (fun z=>seatPcs c ad (v.sv z.s.client) z)++t.flows.map fun f=>flowPc (v.fb f.op) f,?_,fun v1 z' hz => ?_⟩
 ·unfold pcs restPcs
  generalize t.seats.length=n;rw [e,List.flatMap_append,List.flatMap_cons,hzc];simp only [List.cons_append,List.append_assoc]
 ·have e':=setS_split (z':=z') e hzc h1 h2
  have g1:∀ (S:List HSeat),(∀ y ∈ S,y.s.client ≠ cl)->S.flatMap (fun z=>seatPcs c ad (SeV.put v.sv cl v1 z.s.client) z)=S.flatMap (fun z=>seatPcs c ad (v.sv z.s.client) z):=fun S hS=>by
   have:∀ y ∈ S,seatPcs c ad (SeV.put v.sv cl v1 y.s.client) y=seatPcs c ad (v.sv y.s.client) y:=fun y hy=>by unfold SeV.put;rw [if_neg (hS y hy)]
   induction S with
   | nil=>rfl
   | cons a r ih=>rw [List.flatMap_cons,List.flatMap_cons,this a (by simp),ih (fun y hy=>hS y (by simp [hy])) (fun y hy=>this y (by simp [hy]))]
  unfold pcs restPcs;rw [show (t.setS cl z').seats.length=t.seats.length by simp [Tn.setS],e',List.flatMap_append,List.flatMap_cons,seatF_setS h0 hz];dsimp only;rw [g1 S1 h1,g1 S2 h2,hz];rw [show SeV.put v.sv cl v1 cl=v1 by simp [SeV.put]];simp only [List.cons_append,List.append_assoc]
  rfl
theorem Caught.put {F:List Nat} {sv:ByteArray->SeV} {cl:ByteArray} {v1:SeV} {y:HSeat} {k:Wk} (hy:y.s.client ≠ cl) (h:Caught w F ad (sv y.s.client) y k):Caught w F ad (SeV.put sv cl v1 y.s.client) y k:=by
 rw [show SeV.put sv cl v1 y.s.client=sv y.s.client by unfold SeV.put;rw [if_neg hy]];exact h
theorem TurnP.busied {X:List Nat} (h:TurnP c ad w tb t v (X++E)) (hnd:(t.seats.map (·.s.client)).Nodup) {cl:ByteArray} {z:HSeat} (h0:t.seat cl=some z) (hb:z.busy=none) {k:Wk} {left:Int} {v1:SeV}
  (hF:v1.F=(v.sv cl).F) (hl:Lies w (wkPcs v1 k left)) (hX:∀ q ∈ feet (wkPcs v1 k left),q ∈ X) (hXE:∀ q ∈ X,q ∉ E) (hc:Caught w ((X++E)++feet (pcs c ad tb v t)) ad v1 z k) :
  TurnP c ad (w.setCell ⟨ad.seat cl,1,none⟩ (bxV v1.wb)) tb (t.setS cl ⟨z.s,some (k,left)⟩) { v with sv:=SeV.put v.sv cl v1 } E/\Mod (feet (pcs c ad tb v t)) w (w.setCell ⟨ad.seat cl,1,none⟩ (bxV v1.wb)) ∧
   ∀ q ∈ feet (pcs c ad tb { v with sv:=SeV.put v.sv cl v1 } (t.setS cl ⟨z.s,some (k,left)⟩)),q ∈ feet (pcs c ad tb v t) \/ q ∈ X:=by
 have hzc:z.s.client=cl:=(seat_at h0).2;obtain ⟨A,B,e0,e1⟩:=pcs_split (c:=c) (ad:=ad) (tb:=tb) (v:=v) hnd h0;have hcell:=h.seatCell h0
 have eo:seatPcs c ad (v.sv cl) z=cellPc (ad.seat cl) [bxV (ad.sess cl),.pointer none] 105 :: [sesPc (ad.sess cl) z.s c.win c.most (v.sv cl).F]:=by
  unfold seatPcs;rw [hzc,hb];rfl
 have en:seatPcs c ad v1 ⟨z.s,some (k,left)⟩=cellPc (ad.seat cl) [bxV (ad.sess cl),bxV v1.wb] 105 :: (sesPc (ad.sess cl) z.s c.win c.most (v.sv cl).F :: wkPcs v1 k left):=by
  unfold seatPcs;dsimp only;rw [hzc,hF];rfl
 have e2:=e1 v1 ⟨z.s,some (k,left)⟩ hzc;rw [eo] at e0;rw [en] at e2;rw [hb] at hcell;generalize hWK:wkPcs v1 k left=WK at *
 have hL:Lies w ((A++((cellPc (ad.seat cl) [bxV (ad.sess cl),.pointer none] 105 :: [sesPc (ad.sess cl) z.s c.win c.most (v.sv cl).F])++B))++WK):=
  lies_app (e0 ▸ h.lies) hl fun q hq hq'=>(h.ext q (List.mem_append_left _ (hX q hq'))).2 (by rw [e0];exact hq)
 have hp:((A++((cellPc (ad.seat cl) [bxV (ad.sess cl),.pointer none] 105 :: [sesPc (ad.sess cl) z.s c.win c.most (v.sv cl).F])++B))++WK).Perm (A++cellPc (ad.seat cl) [bxV (ad.sess cl),.pointer none] 105 :: (sesPc (ad.sess cl) z.s c.win c.most (v.sv cl).F :: (WK++B))):=by
  simp only [List.append_assoc,List.cons_append,List.nil_append];exact List.Perm.append_left A (List.Perm.cons _ (List.Perm.cons _ List.perm_append_comm))
 have h2:=(hL.perm hp).turn1 (w':=w.setCell ⟨ad.seat cl,1,none⟩ (bxV v1.wb)) (q:=cellPc (ad.seat cl) [bxV (ad.sess cl),bxV v1.wb] 105) (cellPc_ok _ _ _) (by
  have:=heap_setCell_same w (ad.seat cl) 1 _ _ (bxV v1.wb) hcell
  simpa [cellPc] using this) ⟨(Mod.refl _ _).setCell (.inl (by simp [cellPc])) _,fun q hq => .inl hq⟩
 have hm:Mod (feet (pcs c ad tb v t)) w (w.setCell ⟨ad.seat cl,1,none⟩ (bxV v1.wb)):=(Mod.refl _ _).setCell (.inl (by rw [e0];exact mem_feet.2 ⟨_,List.mem_append_right _ (List.mem_append_left _ (List.mem_cons_self)),by simp [cellPc]⟩)) _
 have hft:∀ q ∈ feet (pcs c ad tb { v with sv:=SeV.put v.sv cl v1 } (t.setS cl ⟨z.s,some (k,left)⟩)),q ∈ feet (pcs c ad tb v t) \/ q ∈ X:=fun q hq=>by
  rw [e2] at hq
  have h3:q ∈ feet (A++cellPc (ad.seat cl) [bxV (ad.sess cl),.pointer none] 105 :: (sesPc (ad.sess cl) z.s c.win c.most (v.sv cl).F :: (WK++B))):=by
   rw [feet_app] at hq ⊢;exact hq
  have h4:=(feet_perm hp q).2 h3;rw [feet_app] at h4
  rcases List.mem_append.1 h4 with h4 | h4
  ·left;rw [e0];exact h4
  ·exact .inr (hX q h4)
 have hu:Upd ((X++E)++feet (pcs c ad tb v t)) (E++feet (pcs c ad tb { v with sv:=SeV.put v.sv cl v1 } (t.setS cl ⟨z.s,some (k,left)⟩))) w (w.setCell ⟨ad.seat cl,1,none⟩ (bxV v1.wb)):=by
  refine ⟨hm.mono fun q hq=>List.mem_append_right _ hq,fun q hq => .inl ?_⟩
  rcases List.mem_append.1 hq with hq | hq
  ·exact List.mem_append_left _ (List.mem_append_right _ hq)
  ·exact (hft q hq).elim (fun h3=>List.mem_append_right _ h3) fun h3=>List.mem_append_left _ (List.mem_append_left _ h3)
 refine ⟨⟨by rw [e2];exact h2.1,fun q hq => ?_,All2.mono (fun _ _ k=>k.upd hu) h.mails,All2.mono (fun _ _ k=>k.upd hu) h.notes,fun y hy k1 left1 hk => ?_⟩,hm,hft⟩
 ·have h5:=h.ext q (List.mem_append_right _ hq)
  exact ⟨Nat.lt_of_lt_of_le h5.1 hm.size,fun h6=>(hft q h6).elim h5.2 fun h7=>hXE q h7 hq⟩
 ·rcases setS_mem hy with rfl | ⟨hy1,hy2⟩
  ·cases hk
   show Caught _ _ ad (SeV.put v.sv cl v1 z.s.client) _ _
   rw [hzc,show SeV.put v.sv cl v1 cl=v1 by simp [SeV.put]];have:=hc.upd hu
   cases k <;> exact this
  ·exact Caught.put hy2 ((h.caught y hy1 k1 left1 hk).upd hu)
theorem TurnAt.busied {X G:List Nat} (h:TurnAt c ad w tb t (X++E) G) (hnd:(t.seats.map (·.s.client)).Nodup) {cl:ByteArray} {z:HSeat} (h0:t.seat cl=some z) (hb:z.busy=none) {k:Wk} {left:Int} {v1:SeV}
  (hl:Lies w (wkPcs v1 k left)) (hX:∀ q ∈ feet (wkPcs v1 k left),q ∈ X) (hXE:∀ q ∈ X,q ∉ E) (hc:Caught w ((X++E)++G) ad v1 z k) :
  ∃ G',TurnAt c ad (w.setCell ⟨ad.seat cl,1,none⟩ (bxV v1.wb)) tb (t.setS cl ⟨z.s,some (k,left)⟩) E G'/\Mod G w (w.setCell ⟨ad.seat cl,1,none⟩ (bxV v1.wb)) /\ ∀ q ∈ G',q ∈ G \/ q ∈ X:=by
 obtain ⟨v,h1,rfl⟩:=h;have e1:wkPcs { v1 with F:=(v.sv cl).F } k left=wkPcs v1 k left:=by cases k <;> rfl
 have h2:=h1.busied (v1:={ v1 with F:=(v.sv cl).F }) (k:=k) (left:=left) hnd h0 hb rfl (by rw [e1];exact hl) (by rw [e1];exact hX) hXE (by cases k <;> exact hc);exact ⟨_,⟨_,h2.1,rfl⟩,h2.2⟩
theorem seatF_more {cl:ByteArray} {z:HSeat} {sb ss:Nat} (h0:t.seat cl=none) (hz:z.s.client=cl) :
  seatF { ad with seat:=fun d=>if d=cl then sb else ad.seat d,sess:=fun d=>if d=cl then ss else ad.sess d } { t with seats:=t.seats ++ [z] } = updF (seatF ad t) cl.data.toList (some sb):=by
 funext s
 unfold seatF updF
 have h1:({ t with seats:=t.seats ++ [z] }:Tn).seat ⟨s.toArray⟩=(t.seat ⟨s.toArray⟩).or (if z.s.client=⟨s.toArray⟩ then some z else none):=by
  unfold Tn.seat;dsimp only;rw [List.find?_append]
  congr 1
  rw [List.find?_cons,List.find?_nil]
  by_cases e:z.s.client=⟨s.toArray⟩ <;> simp [e]
 rw [h1,hz]
 by_cases e:s=cl.data.toList
 ·have e2:(⟨s.toArray⟩:ByteArray)=cl:=by rw [e]
  rw [e2,h0,if_pos e];simp
 ·have e2:¬ cl=(⟨s.toArray⟩:ByteArray):=fun h=>e (by rw [h])
  have e3:¬ (⟨s.toArray⟩:ByteArray)=cl:=fun h=>e2 h.symm
  rw [if_neg e,if_neg e2];dsimp only;rw [if_neg e3];simp
theorem seat_none {cl:ByteArray} (h0:t.seat cl=none):∀ y ∈ t.seats,y.s.client ≠ cl:=fun y hy e=>by
 have:=List.find?_eq_none.1 h0 y hy;simp [e] at this
theorem TurnP.seatNew {X:List Nat} (h:TurnP c ad w tb t v (X++E)) {cl:ByteArray} (h0:t.seat cl=none) {s:SS} {sb ss:Nat} {F1:List Nat} (hs:s.client=cl)
  (hcell:w.heap[sb]? = some (.cells [bxV ss,.pointer none].toArray 105 (0,0))) (hses:SesRep w ss c.win c.most s F1) (hsb:sb ∉ F1) (hX:∀ q,q=sb \/ q ∈ F1->q ∈ X) (hXE:∀ q ∈ X,q ∉ E)
  (hmap:PMap w' ad.ms (t.seats.length+1) (updF (seatF ad t) cl.data.toList (some sb))) (hm:Mod [ad.ms] w w') :
  TurnP c { ad with seat:=fun d=>if d=cl then sb else ad.seat d,sess:=fun d=>if d=cl then ss else ad.sess d } w' tb { t with seats:=t.seats ++ [⟨s,none⟩] } { v with sv:=SeV.put v.sv cl ⟨F1,0,0,0,0,0,0⟩ } E ∧
   Mod (feet (pcs c ad tb v t)) w w' /\ ∀ q ∈ feet (pcs c { ad with seat:=fun d=>if d=cl then sb else ad.seat d,sess:=fun d=>if d=cl then ss else ad.sess d } tb { v with sv:=SeV.put v.sv cl ⟨F1,0,0,0,0,0,0⟩ } { t with seats:=t.seats ++ [⟨s,none⟩] }),q ∈ feet (pcs c ad tb v t) \/ q ∈ X:=by
 obtain ⟨ad',had⟩:∃ ad',({ ad with seat:=fun d=>if d=cl then sb else ad.seat d,sess:=fun d=>if d=cl then ss else ad.sess d }:HAd)=ad':=⟨_,rfl⟩;obtain ⟨t',ht'⟩:∃ t',({ t with seats:=t.seats ++ [⟨s,none⟩] }:Tn)=t':=⟨_,rfl⟩;obtain ⟨v',hv'⟩:∃ v',({ v with sv:=SeV.put v.sv cl ⟨F1,0,0,0,0,0,0⟩ }:TnV)=v':=⟨_,rfl⟩;have hne:=seat_none h0;have hmm:=seatF_more (ad:=ad) (sb:=sb) (ss:=ss) (z:=⟨s,none⟩) h0 hs;rw [had,ht'] at hmm;rw [had,ht',hv'];have hmsF:ad.ms ∈ feet (pcs c ad tb v t):=mem_feet.2 ⟨mapPc ad.ms t.seats.length (seatF ad t),by simp [pcs,restPcs],by simp [mapPc]⟩
 have hold:∀ y ∈ t.seats,seatPcs c ad' (v'.sv y.s.client) y=seatPcs c ad (v.sv y.s.client) y:=fun y hy=>by
  rw [<- had,<- hv'];unfold seatPcs SeV.put;dsimp only;rw [if_neg (hne y hy),if_neg (hne y hy),if_neg (hne y hy)]
 have hg:t.seats.flatMap (fun z=>seatPcs c ad' (v'.sv z.s.client) z)=t.seats.flatMap (fun z=>seatPcs c ad (v.sv z.s.client) z):=by
  clear hmm;generalize t.seats=S at hold
  induction S with
  | nil=>rfl
  | cons a r ih=>rw [List.flatMap_cons,List.flatMap_cons,hold a (by simp),ih fun y hy=>hold y (by simp [hy])]
 have hnew:seatPcs c ad' (v'.sv s.client) ⟨s,none⟩ = [cellPc sb [bxV ss,.pointer none] 105, sesPc ss s c.win c.most F1]:=by
  rw [<- had,<- hv'];unfold seatPcs SeV.put;dsimp only;rw [if_pos hs,if_pos hs,if_pos hs]
  rfl
 have e0:pcs c ad tb v t = [turnPc tb ad v.mv v.L,logPc ad.lg v.nv v.N t.ops,cellPc ad.hb (homeC c ad) 92]++mapPc ad.ms t.seats.length (seatF ad t) :: (imapPc ad.mf t.flows.length (flowF v.fb t) :: (t.seats.flatMap (fun z=>seatPcs c ad (v.sv z.s.client) z)++t.flows.map fun f=>flowPc (v.fb f.op) f)):=rfl
 have e1:pcs c ad' tb v' t' = [turnPc tb ad v.mv v.L,logPc ad.lg v.nv v.N t.ops,cellPc ad.hb (homeC c ad) 92]++mapPc ad.ms (t.seats.length+1) (updF (seatF ad t) cl.data.toList (some sb)) :: (imapPc ad.mf t.flows.length (flowF v.fb t) :: ((t.seats.flatMap (fun z=>seatPcs c ad (v.sv z.s.client) z) ++ [cellPc sb [bxV ss,.pointer none] 105, sesPc ss s c.win c.most F1])++t.flows.map fun f=>flowPc (v.fb f.op) f)):=by
  unfold pcs restPcs;rw [hmm];rw [<- ht'];dsimp only;rw [List.flatMap_append,hg,List.flatMap_cons,List.flatMap_nil,List.append_nil,hnew,List.length_append,List.length_singleton];rw [<- had,<- hv']
  rfl
 have hN:Lies w [cellPc sb [bxV ss,.pointer none] 105, sesPc ss s c.win c.most F1]:=by
  refine lies_app (A:=[_]) (lies_one (cellPc_ok _ _ _) hcell) (lies_one (sesPc_ok _ _ _ _ _) hses) fun q hq hq'=>hsb ?_
  simp [feet,cellPc,sesPc] at hq hq';rw [<- hq];exact hq'
 have hNF:∀ q ∈ feet [cellPc sb [bxV ss,.pointer none] 105, sesPc ss s c.win c.most F1],q ∈ X:=fun q hq=>hX q (by simpa [feet,cellPc,sesPc] using hq)
 generalize hNW:[cellPc sb [bxV ss,.pointer none] 105, sesPc ss s c.win c.most F1]=NW at *;have hL:Lies w (pcs c ad tb v t++NW):=lies_app h.lies hN fun q hq hq'=>(h.ext q (List.mem_append_left _ (hNF q hq'))).2 hq
 have hp:(pcs c ad tb v t++NW).Perm ([turnPc tb ad v.mv v.L,logPc ad.lg v.nv v.N t.ops,cellPc ad.hb (homeC c ad) 92]++mapPc ad.ms t.seats.length (seatF ad t) :: (imapPc ad.mf t.flows.length (flowF v.fb t) :: ((t.seats.flatMap (fun z=>seatPcs c ad (v.sv z.s.client) z)++NW)++t.flows.map fun f=>flowPc (v.fb f.op) f))):=by
  rw [e0];simp only [List.append_assoc,List.cons_append,List.nil_append];refine List.Perm.cons _ (List.Perm.cons _ (List.Perm.cons _ (List.Perm.cons _ (List.Perm.cons _ ?_))));exact List.Perm.append_left _ List.perm_append_comm
 have h2:=(hL.perm hp).turn1 (w':=w') (q:=mapPc ad.ms (t.seats.length+1) (updF (seatF ad t) cl.data.toList (some sb))) (mapPc_ok _ _ _) hmap ⟨hm,fun q hq => .inl hq⟩;have hmF:Mod (feet (pcs c ad tb v t)) w w':=hm.mono fun q hq=>by rw [List.mem_singleton.1 hq];exact hmsF
 have hft:∀ q ∈ feet (pcs c ad' tb v' t'),q ∈ feet (pcs c ad tb v t) \/ q ∈ X:=fun q hq=>by
  rw [e1] at hq
  have h3:q ∈ feet ([turnPc tb ad v.mv v.L,logPc ad.lg v.nv v.N t.ops,cellPc ad.hb (homeC c ad) 92]++mapPc ad.ms t.seats.length (seatF ad t) :: (imapPc ad.mf t.flows.length (flowF v.fb t) :: ((t.seats.flatMap (fun z=>seatPcs c ad (v.sv z.s.client) z)++NW)++t.flows.map fun f=>flowPc (v.fb f.op) f))):=by
   rw [feet_app] at hq ⊢;exact hq
  have h4:=(feet_perm hp q).2 h3;rw [feet_app] at h4;exact (List.mem_append.1 h4).imp id (hNF q)
 have hu:Upd ((X++E)++feet (pcs c ad tb v t)) (E++feet (pcs c ad' tb v' t')) w w':=by
  refine ⟨hmF.mono fun q hq=>List.mem_append_right _ hq,fun q hq => .inl ?_⟩
  rcases List.mem_append.1 hq with hq | hq
  ·exact List.mem_append_left _ (List.mem_append_right _ hq)
  ·exact (hft q hq).elim (fun h3=>List.mem_append_right _ h3) fun h3=>List.mem_append_left _ (List.mem_append_left _ h3)
 refine ⟨⟨by rw [e1];exact h2.1,fun q hq => ?_,?_,?_,fun y hy k1 left1 hk => ?_⟩,hmF,hft⟩
 ·have h5:=h.ext q (List.mem_append_right _ hq)
  exact ⟨Nat.lt_of_lt_of_le h5.1 hm.size,fun h6=>(hft q h6).elim h5.2 fun h7=>hXE q h7 hq⟩
 ·have:=All2.mono (fun _ _ k=>MailIs.upd k hu) h.mails
  rw [<- ht',<- hv'] at *;exact this
 ·have:=All2.mono (fun _ _ k=>NoteIs.upd k hu) h.notes
  rw [<- ht',<- hv'] at *;exact this
 ·have hy':y ∈ t.seats ++ [⟨s,none⟩]:=by rw [<- ht'] at hy;exact hy
  rcases List.mem_append.1 hy' with hy1 | hy1
  ·have h8:=(h.caught y hy1 k1 left1 hk).upd hu
   have h9:v'.sv y.s.client=v.sv y.s.client:=by rw [<- hv'];unfold SeV.put;dsimp only;rw [if_neg (hne y hy1)]
   rw [h9];have h10:ad'.seat y.s.client=ad.seat y.s.client:=by rw [<- had];dsimp only;rw [if_neg (hne y hy1)]
   cases k1 <;> simp only [Caught,h10] at h8 ⊢ <;> exact h8
  ·rw [List.mem_singleton.1 hy1] at hk
   cases hk
theorem TurnP.seatDel (h:TurnP c ad w tb t v E) {cl:ByteArray} (hmap:PMap w' ad.ms (t.seats.filter fun z=>decide (z.s.client ≠ cl)).length (updF (seatF ad t) cl.data.toList none)) (hm:Mod [ad.ms] w w') :
  TurnP c ad w' tb { t with seats:=t.seats.filter fun z=>decide (z.s.client ≠ cl) } v E/\Upd (feet (pcs c ad tb v t)) (feet (pcs c ad tb v { t with seats:=t.seats.filter fun z=>decide (z.s.client ≠ cl) })) w w':=by
 have e0:pcs c ad tb v t = [turnPc tb ad v.mv v.L,logPc ad.lg v.nv v.N t.ops,cellPc ad.hb (homeC c ad) 92]++mapPc ad.ms t.seats.length (seatF ad t) :: (imapPc ad.mf t.flows.length (flowF v.fb t) :: (t.seats.flatMap (fun z=>seatPcs c ad (v.sv z.s.client) z)++t.flows.map fun f=>flowPc (v.fb f.op) f)):=rfl
 have hmm:seatF ad { t with seats:=t.seats.filter fun z=>decide (z.s.client ≠ cl) } = updF (seatF ad t) cl.data.toList none:=by
  funext s
  unfold seatF updF Tn.seat;dsimp only;rw [List.find?_filter]
  by_cases e:s=cl.data.toList
  ·rw [if_pos e]
   have e2:(⟨s.toArray⟩:ByteArray)=cl:=by rw [e]
   rw [e2];rw [List.find?_eq_none.2 (fun y _=>by simp)]
   rfl
  ·rw [if_neg e]
   have e3:¬ (⟨s.toArray⟩:ByteArray)=cl:=fun h=>e (by rw [<- h])
   congr 1
   apply congrArg (fun f=>List.find? f t.seats)
   funext y
   by_cases e4:y.s.client=⟨s.toArray⟩
   ·simp [e4,e3]
   ·simp [e4]
 have e1:pcs c ad tb v { t with seats:=t.seats.filter fun z=>decide (z.s.client ≠ cl) } = [turnPc tb ad v.mv v.L,logPc ad.lg v.nv v.N t.ops,cellPc ad.hb (homeC c ad) 92]++mapPc ad.ms (t.seats.filter fun z=>decide (z.s.client ≠ cl)).length (updF (seatF ad t) cl.data.toList none) :: (imapPc ad.mf t.flows.length (flowF v.fb t) :: ((t.seats.filter fun z=>decide (z.s.client ≠ cl)).flatMap (fun z=>seatPcs c ad (v.sv z.s.client) z)++t.flows.map fun f=>flowPc (v.fb f.op) f)):=by
  unfold pcs restPcs;rw [hmm]
  rfl
 have hsub:([turnPc tb ad v.mv v.L,logPc ad.lg v.nv v.N t.ops,cellPc ad.hb (homeC c ad) 92]++mapPc ad.ms t.seats.length (seatF ad t) :: (imapPc ad.mf t.flows.length (flowF v.fb t) :: ((t.seats.filter fun z=>decide (z.s.client ≠ cl)).flatMap (fun z=>seatPcs c ad (v.sv z.s.client) z)++t.flows.map fun f=>flowPc (v.fb f.op) f))).Sublist (pcs c ad tb v t):=by
  rw [e0]
  have h1:∀ S:List HSeat,((S.filter fun z=>decide (z.s.client ≠ cl)).flatMap (fun z=>seatPcs c ad (v.sv z.s.client) z)).Sublist (S.flatMap (fun z=>seatPcs c ad (v.sv z.s.client) z)):=fun S=>by
   induction S with
   | nil=>exact List.Sublist.refl _
   | cons a r ih =>
    rw [List.filter_cons,List.flatMap_cons]
    split
    ·rw [List.flatMap_cons];exact (List.Sublist.refl _).append ih
    ·exact ih.trans (List.sublist_append_right _ _)
  exact (List.Sublist.refl _).append ((((h1 _).append (List.Sublist.refl _)).cons_cons _).cons_cons _)
 have h1:=h.lies.sub hsub;have h2:=h1.turn1 (w':=w') (q:=mapPc ad.ms (t.seats.filter fun (z:HSeat)=>decide (z.s.client ≠ cl)).length (updF (seatF ad t) cl.data.toList none)) (mapPc_ok _ _ _) hmap ⟨hm,fun q hq => .inl hq⟩;have hmsF:ad.ms ∈ feet (pcs c ad tb v t):=mem_feet.2 ⟨mapPc ad.ms t.seats.length (seatF ad t),by simp [pcs,restPcs],by simp [mapPc]⟩
 have hu:Upd (feet (pcs c ad tb v t)) (feet (pcs c ad tb v { t with seats:=t.seats.filter fun z=>decide (z.s.client ≠ cl) })) w w':=by
  refine ⟨hm.mono fun q hq=>by rw [List.mem_singleton.1 hq];exact hmsF,fun q hq => ?_⟩;rw [e1] at hq;exact (h2.2.2 q hq).imp (feet_sub hsub q) id
 have hx:=hu.ext E;refine ⟨⟨by rw [e1];exact h2.1,ext_turn h.ext hu,All2.mono (fun _ _ k=>k.upd hx) h.mails,All2.mono (fun _ _ k=>k.upd hx) h.notes,fun y hy k1 left1 hk => ?_⟩,hu⟩;exact (h.caught y (List.mem_filter.1 hy).1 k1 left1 hk).upd hx
theorem flow_split (hnd:(t.flows.map (·.op)).Nodup) {op:Int} {f:HFlow} (h0:t.flows.find? (fun f=>f.op == op)=some f) :
  ∃ S1 S2,t.flows=S1++f :: S2/\(∀ y ∈ S1,y.op ≠ op)/\(∀ y ∈ S2,y.op ≠ op)/\f.op=op:=by
 have hm:=List.mem_of_find?_eq_some h0;have hc:f.op=op:=by simpa using List.find?_some h0
 obtain ⟨S1,S2,e⟩:=List.append_of_mem hm;rw [e,List.map_append,List.map_cons] at hnd;obtain ⟨-,h2,h3⟩:=List.nodup_append.1 hnd;refine ⟨S1,S2,e,fun y hy e1 => ?_,fun y hy e1 => ?_,hc⟩
 ·exact h3 y.op (List.mem_map_of_mem hy) f.op (by simp) (e1.trans hc.symm)
 ·exact (List.nodup_cons.1 h2).1 (by rw [hc,<- e1];exact List.mem_map_of_mem hy)
theorem TurnP.flowTurn (h:TurnP c ad w tb t v E) (hnd:(t.flows.map (·.op)).Nodup) {op:Int} {f g:HFlow} (h0:t.flows.find? (fun f=>f.op == op)=some f) (hg:g.op=op)
  (hc:w'.heap[v.fb op]? = some (.cells (flowC g).toArray 161 (0,0))) (hm:Mod [v.fb op] w w') :
  TurnP c ad w' tb (t.setF op g) v E/\Upd (feet (pcs c ad tb v t)) (feet (pcs c ad tb v (t.setF op g))) w w':=by
 obtain ⟨S1,S2,e,h1,h2,hf⟩:=flow_split hnd h0
 have es:(t.setF op g).flows=S1++g :: S2:=by
  show t.flows.map _=_
  rw [e,List.map_append,List.map_cons,if_pos hf]
  congr 1
  ·conv=>rhs;rw [<- List.map_id S1]
   exact List.map_congr_left fun y hy=>if_neg (h1 y hy)
  ·congr 1
   conv=>rhs;rw [<- List.map_id S2]
   exact List.map_congr_left fun y hy=>if_neg (h2 y hy)
 have hF:flowF v.fb (t.setF op g)=flowF v.fb t:=by
  funext q
  unfold flowF;rw [es,e,List.find?_append,List.find?_append,List.find?_cons,List.find?_cons,hf,hg]
  cases List.find? (fun f=>f.op == q) S1 with
  | some _=>rfl
  | none=>cases op == q <;> rfl
 have e0:pcs c ad tb v t=([turnPc tb ad v.mv v.L,logPc ad.lg v.nv v.N t.ops,cellPc ad.hb (homeC c ad) 92, mapPc ad.ms t.seats.length (seatF ad t),imapPc ad.mf t.flows.length (flowF v.fb t)]++(t.seats.flatMap (fun z=>seatPcs c ad (v.sv z.s.client) z)++S1.map fun f=>flowPc (v.fb f.op) f))++flowPc (v.fb op) f :: S2.map fun f=>flowPc (v.fb f.op) f:=by
  unfold pcs restPcs;generalize t.flows.length=n;rw [e,List.map_append,List.map_cons,hf];simp only [List.cons_append,List.append_assoc,List.nil_append]
 have e1:pcs c ad tb v (t.setF op g)=([turnPc tb ad v.mv v.L,logPc ad.lg v.nv v.N t.ops,cellPc ad.hb (homeC c ad) 92, mapPc ad.ms t.seats.length (seatF ad t),imapPc ad.mf t.flows.length (flowF v.fb t)]++(t.seats.flatMap (fun z=>seatPcs c ad (v.sv z.s.client) z)++S1.map fun f=>flowPc (v.fb f.op) f))++flowPc (v.fb op) g :: S2.map fun f=>flowPc (v.fb f.op) f:=by
  unfold pcs restPcs;rw [hF,show (t.setF op g).flows.length=t.flows.length by simp [Tn.setF],es,List.map_append,List.map_cons,hg];simp only [List.cons_append,List.append_assoc,List.nil_append]
  rfl
 have hL:=h.lies;rw [e0] at hL;have ht:=hL.turn1 (w':=w') (q:=flowPc (v.fb op) g) (cellPc_ok _ _ _) hc ⟨hm,fun q hq => .inl hq⟩;rw [<- e0,<- e1] at ht;have hx:=ht.2.ext E;exact ⟨⟨ht.1,ext_turn h.ext ht.2,All2.mono (fun _ _ k=>k.upd hx) h.mails,All2.mono (fun _ _ k=>k.upd hx) h.notes,fun z hz k left hk=>(h.caught z hz k left hk).upd hx⟩,ht.2⟩
theorem TurnP.flowDel (h:TurnP c ad w tb t v E) {op:Int} (him:IMap w' ad.mf (withoutF op t.flows).length (updF (flowF v.fb t) op none)) (hm:Mod [ad.mf] w w') :
  TurnP c ad w' tb { t with flows:=withoutF op t.flows } v E/\Upd (feet (pcs c ad tb v t)) (feet (pcs c ad tb v { t with flows:=withoutF op t.flows })) w w':=by
 have hF:flowF v.fb { t with flows:=withoutF op t.flows } = updF (flowF v.fb t) op none:=by
  funext q
  unfold flowF updF;dsimp only;rw [find_without]
  split <;> rfl
 have e0:pcs c ad tb v t = [turnPc tb ad v.mv v.L,logPc ad.lg v.nv v.N t.ops,cellPc ad.hb (homeC c ad) 92, mapPc ad.ms t.seats.length (seatF ad t)]++imapPc ad.mf t.flows.length (flowF v.fb t) :: (t.seats.flatMap (fun z=>seatPcs c ad (v.sv z.s.client) z)++t.flows.map fun f=>flowPc (v.fb f.op) f):=rfl
 have e1:pcs c ad tb v { t with flows:=withoutF op t.flows } = [turnPc tb ad v.mv v.L,logPc ad.lg v.nv v.N t.ops,cellPc ad.hb (homeC c ad) 92, mapPc ad.ms t.seats.length (seatF ad t)]++imapPc ad.mf (withoutF op t.flows).length (updF (flowF v.fb t) op none) :: (t.seats.flatMap (fun z=>seatPcs c ad (v.sv z.s.client) z)++(withoutF op t.flows).map fun f=>flowPc (v.fb f.op) f):=by
  unfold pcs restPcs;rw [hF]
  rfl
 have hsub:([turnPc tb ad v.mv v.L,logPc ad.lg v.nv v.N t.ops,cellPc ad.hb (homeC c ad) 92, mapPc ad.ms t.seats.length (seatF ad t)]++imapPc ad.mf t.flows.length (flowF v.fb t) :: (t.seats.flatMap (fun z=>seatPcs c ad (v.sv z.s.client) z)++(withoutF op t.flows).map fun f=>flowPc (v.fb f.op) f)).Sublist (pcs c ad tb v t):=by
  rw [e0];exact (List.Sublist.refl _).append (((List.Sublist.refl _).append (List.Sublist.map _ List.filter_sublist)).cons_cons _)
 have h1:=h.lies.sub hsub;have h2:=h1.turn1 (w':=w') (q:=imapPc ad.mf (withoutF op t.flows).length (updF (flowF v.fb t) op none)) (imapPc_ok _ _ _) him ⟨hm,fun k hk => .inl hk⟩;have hmf:ad.mf ∈ feet (pcs c ad tb v t):=mem_feet.2 ⟨imapPc ad.mf t.flows.length (flowF v.fb t),by simp [pcs,restPcs],by simp [imapPc]⟩
 have hu:Upd (feet (pcs c ad tb v t)) (feet (pcs c ad tb v { t with flows:=withoutF op t.flows })) w w':=by
  refine ⟨hm.mono fun q hq=>by rw [List.mem_singleton.1 hq];exact hmf,fun q hq => ?_⟩;rw [e1] at hq;exact (h2.2.2 q hq).imp (feet_sub hsub q) id
 have hx:=hu.ext E;exact ⟨⟨by rw [e1];exact h2.1,ext_turn h.ext hu,All2.mono (fun _ _ k=>k.upd hx) h.mails,All2.mono (fun _ _ k=>k.upd hx) h.notes,fun z hz k left hk=>(h.caught z hz k left hk).upd hx⟩,hu⟩
end
end
end Go.Proofs.YtcekcoepdhnfgaaGreatDoor
