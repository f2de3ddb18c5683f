/- subscribe done; answered. -/
import Derived.Test.YtcekcoepdhnfgaaGreatDoorHGX
import Derived.Test.YtcekcoepdhnfgaaGreatDoorHoIter
import Derived.Test.YtcekcoepdhnfgaaGreatDoorHAY
import Derived.StillTailTactics
import Derived.Test.YtcekcoepdhnfgaaGreatDoorHDX
namespace Go.Proofs.YtcekcoepdhnfgaaGreatDoor
section
open Go Go.RowKit Go.Maps
theorem ofGo_snoc:∀ (xs:List SubE) (ks:Str) (l:List SubE) (k:Nat) (hk:k < xs.length) (hk':k < ks.length),ofGo (xs.take (k+1)) (ks.take (k+1)) l=if ks[k] ≠ 128 then setE xs[k].1 xs[k].2 (ofGo (xs.take k) (ks.take k) l) else ofGo (xs.take k) (ks.take k) l
 | [],_,_,_,hk,_=>by simp at hk
 | _ :: _,[],_,_,_,hk'=>by simp at hk'
 | x :: r,c :: cs,l,0,_,_=>by simp [ofGo]
 | x :: r,c :: cs,l,k+1,hk,hk'=>by
  simp only [List.take_succ_cons,ofGo,List.getElem_cons_succ];exact ofGo_snoc r cs _ k (by simpa using hk) (by simpa using hk')
theorem LOk.ofs {xs:List SubE} (hx:∀ y ∈ xs,y.1.length<=1000/\u8R y.2):∀ {ks:Str} {l:List SubE},LOk l->LOk (ofGo xs ks l):=by
 induction xs with
 | nil=>intro ks l h;cases ks <;> exact h
 | cons y r ih =>
  intro ks l h
  cases ks with
  | nil=>exact h
  | cons c cs =>
   unfold ofGo;refine ih (fun z hz=>hx z (by simp [hz])) ?_
   split
   ·exact h.setE (hx y (by simp)).2.1 (hx y (by simp)).1
   ·exact h
def subackK (id:Int) (codes:Str):Pkt:={ pkZ with ty:=9,id:=id,codes:=⟨codes.toArray⟩ }
theorem built_suback (id:Int) (codes:Str):Tryz.prog.built 39 [(0,.int .u8 9),(4,.int .u16 id),(20,.string ⟨codes.toArray⟩)]=some (subackK id codes).cells.toArray:=by kernel_rfl
theorem built_noteC (k op conn:Int) (client:ByteArray) (p:Pkt) (codes:Str):Tryz.prog.built 79 [(0,.int .u8 k),(1,.int .i64 op),(2,.int .i64 conn),(3,.string client),(4,.agg p.cells.toArray),(6,.string ⟨codes.toArray⟩)]=some (noteC k op conn client p codes).cells.toArray:=by
 obtain ⟨p0,p1,p2,p3,p4,p5,p6,p7,p8,p9,p10,p11,⟨m0,m1,m2,m3⟩,p13,p14,p15,p16,p17,p18,p19,p20,p21,p22⟩:=p
 kernel_rfl
theorem built_noteCz (k op conn:Int) (client:ByteArray) (codes:Str):Tryz.prog.built 79 [(0,.int .u8 k),(1,.int .i64 op),(2,.int .i64 conn),(3,.string client),(6,.string ⟨codes.toArray⟩)]=some (noteC k op conn client pkZ codes).cells.toArray:=by kernel_rfl
theorem kept_names {w:World} {b n:Nat} {D:DataW Unit} {l:List Msg} (hown:w.ownsMap Tryz.prog 9 msgElem b n D) (h:Has D l) {ss:List (List UInt8)} (hp:ss.Perm (strKeys D)):(ss.mergeSort fun x y=>decide (x<=y))=l.map Msg.k:=by
 refine sort_keys h.2.2.2.keys (hp.trans ?_);obtain ⟨es,hD,hpw,_⟩:=hown.entries kS;obtain ⟨es',hD',hko⟩:=hown.keysOf;obtain rfl:es=es':=by rw [hD] at hD';simpa using hD'
 subst hD;exact (perm_strKeys hpw (fun p hp=>by obtain ⟨v,hv⟩:=hko p hp;obtain ⟨x,_,hx,_⟩:=Maps.keyOf_str Tryz.underlying9 hv;exact ⟨x,hx⟩) (nodup_keys h.2.2.2.keys) (fun x=>by rw [h.2.1 x,mem_get])).symm
theorem kept_vals (l:List Msg):(l.map Msg.k).map encStr=l.map fun m=>Value.string m.t:=by
 rw [List.map_map];refine List.map_congr_left fun m _ => ?_
 show Value.string ⟨m.t.data.toList.toArray⟩=_
 rw [str_eta]
theorem wpList_look {H:Type} {P:Program} (w:World) {ops:Array Oper} {rest:List Oper} {o:Oper} {a:Go.Act} {Q:Exit->Go.Act->World->Prop} (hg:o.guard=none) (m x:Operand) (t:TypeId) (hop:o.op=Op.lookup t m x false)
  (k e:TypeId) (K:Keyed P k) (ht:P.underlying t=some (.map k e)) (R:Value->Option (DataW H × List MemPlace)) {z:Value} (hz:(zeroValue e).run P w = .ok z w) (zd:DataW H) (zp:List MemPlace) (hzd:R z=some (zd,zp)) (b n:Nat) (D:DataW H)
  (hm:a.eval m = .map (some b)) (hown:w.ownsMap P k R b n D) (key:Value) (kl:Lit) (hx:a.eval x=key) (hkey:keyOf P k key=some kl)
  (hK:∀ v ps,R v=some (D.atKey kl zd,ps)->wpList P ops Q rest (a.put o.dst v) w) :
  wpList P ops Q (o :: rest) a w:=by
 refine wpList_plain hg fun K' hK' => ?_
 obtain ⟨v,ps,hrun,hv⟩:=hown.lookup K ht hz hzd hkey;unfold Oper.wp;simp [execOp,hop,hm,hx,hrun,Result.andThen];exact hK' _ _ (hK v ps hv)
theorem owns_keep {P:Program} {k:TypeId} {R:Value->Option (DataW Unit × List MemPlace)} {w w':World} {b n:Nat} {D:DataW Unit} (h:w.ownsMap P k R b n D) (hb:w'.heap[b]? = w.heap[b]?):w'.ownsMap P k R b n D:=by
 obtain ⟨es,clock,hb0,Ft,hs,hD⟩:=h;exact ⟨es,clock,hb.trans hb0,Ft,hs,hD⟩
end
section
open Go Go.RowKit Go.Maps
set_option maxRecDepth 100000
set_option maxHeartbeats 4000000
theorem subscribe1_any (w0:World) (hK:Keeps w0) (c:HCfg) (hn1:1<=c.n) (hn2:c.n<=64):Sub1Ok w0 c:=by
 intro ad tb T E F w cl z x codes kept b1 b2 b3 wb kb left dv h hB hok h0 hbz q1 q2 q3 q4 hkb hmap hib hx hcl hkm hup hn hnn hkl;have hzc:=(seat_at h0).2;have hs:=(hok.seat z (seat_at h0).1).s;obtain ⟨xs,hxs⟩:∃ xs,x.pk.subs=xs:=⟨_,rfl⟩;have hxl:xs.length<=100:=hxs ▸ hx.pk.nsubs;have hxm:∀ y ∈ xs,y.1.length<=1000/\u8R y.2:=hxs ▸ hx.pk.subs;rw [hxs] at hcl;obtain ⟨L,hL⟩:∃ L:Nat->List SubE,∀ k,(xs.take k).foldl (fun l y=>setE y.1 y.2 l) z.s.l=L k:=⟨_,fun _=>rfl⟩;have hL0:L 0=z.s.l:=by rw [<- hL];rfl
 have hLs:∀ k (hk:k < xs.length),L (k+1)=setE xs[k].1 xs[k].2 (L k):=fun k hk=>by
  rw [<- hL,<- hL,List.take_succ_eq_append_getElem hk,List.foldl_append]
  rfl
 have hLl:∀ k,LOk (L k):=fun k=>by rw [<- hL];exact LOk.sets (fun y hy=>hxm y (List.mem_of_mem_take hy)) hs.lok
 obtain ⟨O,hO⟩:∃ O:Nat->List SubE,∀ k,ofGo (xs.take k) (codes.take k) []=O k:=⟨_,fun _=>rfl⟩;have hO0:O 0 = []:=by rw [<- hO];rfl
 have hOs:∀ k (hk:k < xs.length) (hk':k < codes.length),O (k+1)=if codes[k] ≠ 128 then setE xs[k].1 xs[k].2 (O k) else O k:=fun k hk hk'=>by
  rw [<- hO,<- hO,ofGo_snoc _ _ _ _ hk hk']
 have hOl:∀ k,LOk (O k):=fun k=>by rw [<- hO];exact LOk.ofs (fun y hy=>hxm y (List.mem_of_mem_take hy)) LOk.nil
 obtain ⟨TK,hTK⟩:∃ TK:Nat->Tn,∀ k,T.setS cl ⟨z.s.setL (L k),none⟩=TK k:=⟨_,fun _=>rfl⟩;have hokK:∀ k,HOk (TK k):=fun k=>hTK k ▸ hok.set0 h0 (by rw [hbz];rfl) rfl (SeOk.idle (hs.setL (hLl k)))
 have hsK:∀ k,(TK k).seat cl=some ⟨z.s.setL (L k),none⟩:=fun k=>by rw [<- hTK];exact seat_setS' h0 hzc
 have hT0:TK 0=T:=by
  rw [<- hTK,hL0];have:(⟨z.s.setL z.s.l,none⟩:HSeat)=z:=by rw [<- hbz];rfl
  rw [this];exact setS_self hok.nd h0
 have HTS:=hyd (fun k (hk:k < xs.length)=>show (TK k).setS cl ⟨(z.s.setL (L k)).setL (setE xs[k].1 xs[k].2 (L k)),none⟩=TK (k+1) by
  rw [<- hTK,<- hTK,setS_twice (by exact hzc),hLs k hk]
  rfl)
 have hlK:∀ k,(TK k).mails.length=T.mails.length/\(TK k).notes.length=T.notes.length:=fun k=>by rw [<- hTK];exact ⟨rfl,rfl⟩
 obtain ⟨of,hof⟩:∃ of,O xs.length=of:=⟨_,rfl⟩;have hofl:LOk of:=hof ▸ hOl _;obtain ⟨n1,hn1e⟩:∃ n1,noteC 2 x.op x.conn x.client x.pk.bare codes=n1:=⟨_,rfl⟩;obtain ⟨TN,hTN⟩:∃ TN,TK xs.length=TN:=⟨_,rfl⟩;obtain ⟨fm,hfm⟩:∃ fm:Msg->Msg,∀ m,(⟨m.t,m.p,min m.q (bestS m.k of).1,true⟩:Msg)=fm m:=⟨_,fun _=>rfl⟩;obtain ⟨TP,hTP⟩:∃ TP:Nat->Tn,∀ k,(kept.take k).foldl (fun t m=>putsT c cl x.op 8 (fm m) t) (TN.note n1)=TP k:=⟨_,fun _=>rfl⟩;have hTP0:TP 0=TN.note n1:=by rw [<- hTP];rfl
 have hTPs:∀ k (hk:k < kept.length),TP (k+1)=putsT c cl x.op 8 (fm kept[k]) (TP k):=fun k hk=>by
  rw [<- hTP,<- hTP,List.take_succ_eq_append_getElem hk,List.foldl_append]
  rfl
 have hokN:HOk (TN.note n1):=(hTN ▸ hokK _:HOk TN).note _
 have hsN:(TN.note n1).seat cl=some ⟨z.s.setL (L xs.length),none⟩:=by
  have:=hsK xs.length;rw [hTN] at this;exact this
 have hPk:=fun k=>putss_ok (c:=c) (cl:=cl) (op:=x.op) (kind:=8) fm (kept.take k) hokN hsN
 have hokP:∀ k,HOk (TP k):=fun k=>by rw [<- hTP];exact (hPk k).1
 have hsP:∀ k,∃ o,(TP k).seat cl=some ⟨(z.s.setL (L xs.length)).setO o,none⟩:=fun k=>by rw [<- hTP];exact (hPk k).2
 have hgP:∀ k,(TP k).mails.length<=T.mails.length/\(TP k).notes.length<=T.notes.length+1+kept.length:=fun k=>by
  have g:=gr_putss (c:=c) (t:=TN.note n1) cl x.op 8 fm (kept.take k);have g1:=g.n;have g2:=g.m;rw [hTP] at g1 g2;have e1:(TN.note n1).mails.length=TN.mails.length:=rfl;have e2:(TN.note n1).notes.length=TN.notes.length+1:=by simp [Tn.note]
  have e3:=hlK xs.length;rw [hTN] at e3;have e4:(kept.take k).length<=kept.length:=by simp;omega
  omega
 obtain ⟨T2,hT2⟩:∃ T2,TP kept.length=T2:=⟨_,rfl⟩;obtain ⟨o2,ho2⟩:=hsP kept.length;rw [hT2] at ho2;obtain ⟨z2,hz2⟩:∃ z2:HSeat,⟨(z.s.setL (L xs.length)).setO o2,none⟩=z2:=⟨_,rfl⟩;rw [hz2] at ho2;have hok2:HOk T2:=hT2 ▸ hokP _;obtain ⟨p,hp⟩:∃ p,pumpO c.win z2.s.o.wait z2.s.o.row=p:=⟨_,rfl⟩;obtain ⟨T3,hT3⟩:∃ T3,T2.setS cl ⟨z2.s.setO p.2,z2.busy⟩=T3:=⟨_,rfl⟩;obtain ⟨CK,hCK⟩:∃ CK,subackK x.pk.id codes=CK:=⟨_,rfl⟩;obtain ⟨AL,hAL⟩:∃ AL,CK :: p.1=AL:=⟨_,rfl⟩;have hAL1:1+p.1.length=AL.length:=by rw [<- hAL];simp;omega
 have HE:Hid (doneSub c x codes kept z T=(answersT c x.conn AL T3).note (noteC 3 x.op x.conn x.client pkZ codes)):=hyd (by
  unfold doneSub;dsimp only;have e1:xs.foldl (fun l y=>setE y.1 y.2 l) z.s.l=L xs.length:=by rw [<- hL,List.take_length]
  have e2:ofGo xs codes []=of:=by rw [<- hof,<- hO,List.take_length,<- hcl,List.take_length]
  rw [hzc,hxs,e1,e2,hbz,hTK,hTN,hn1e]
  have e3:kept.foldl (fun t m=>putsT c cl x.op 8 ⟨m.t,m.p,min m.q (bestS m.k of).1,true⟩ t) (TN.note n1)=T2:=by
   rw [<- hT2,<- hTP,List.take_length];simp only [hfm]
  rw [e3,ho2];dsimp only;rw [hp,hT3];show (answersT c x.conn (subackK x.pk.id codes :: p.1) T3).note _=_
  rw [hCK,hAL])
 have HLS:=hyd (fun X E' G' k (hX:TurnAt c ad X tb (TK k) E' G')=>hX.lists (hokK k) (hsK k));have HSC:=hyd (fun X E' G' k (hX:TurnAt c ad X tb (TK k) E' G')=>(hX.seatCells (hsK k)).1);have HSET:=hyd (fun X G' b l FL f q (hBX:Base w0 X G') (hr:SRep X b l FL) (hf:f.length<=1000) (hq:u8R q)=>sset_any b l FL f q X hr (hK.t.below hBX.1) (by omega) hq.1 (by have:=hq.2;omega));have HXM:=hyd hxm;have HNO:=hyd (fun X E' G' (hX:TurnAt c ad X tb TN E' G') (hb:Beside X (E'++G') x.pk.subsA (subsV x.pk.subs))=>note_any c ad tb TN E' G' X (noteC 2 x.op x.conn x.client x.pk codes) n1 x.pk.subsA x.pk.subsC hX (by rw [<- hn1e];rfl) (by rw [<- hn1e];exact hb) (by rw [<- hn1e];have:=hx.pk.nsubs;show x.pk.subs.length<=_;omega) (by have:=hlK xs.length;rw [hTN] at this;omega));have HPT:=hyd (fun X E' G' k m (hX:TurnAt c ad X tb (TP k) E' G') (hBX:Base w0 X G') (hm:MsOk m)=>puts_any w0 hK c ad tb (TP k) E' G' X cl _ x.op 8 m hX hBX (hokP k) (hsP k).choose_spec hm (by have:=hgP k;omega))
 have HBE:=hyd (fun X G' b FO (m:Msg) (hm:m ∈ kept) (hBX:Base w0 X G') (hr:SRep X b of FO)=>show Calls Tryz.prog 68 #[.pointer (some ⟨b,0,none⟩),.string m.t] X fun e w'=>e = .returned (.tuple #[.int .u8 (bestS m.k of).1,.bool (bestS m.k of).2])/\Below X.heap.size X w' by
  have h1:=sbest_any b of FO m.k X hr hofl.ok (hK.t.below hBX.1) (by have:=(hkm m hm).1;show m.t.data.toList.length < _;rw [Array.length_toList];have e:m.t.data.size=m.t.size:=rfl;omega);rw [show (⟨m.k.toArray⟩:ByteArray)=m.t from str_eta _] at h1
  exact h1)
 have HFM:Hid (∀ m ∈ kept,MsOk (fm m)):=hyd (fun m hm=>by
  have h1:=hkm m hm;have h2:=bestS_le (n:=m.k) hofl.ok;have h3:=h1.2.2;rw [<- hfm];refine ⟨h1.1,h1.2.1,?_⟩;show u8R (min m.q (bestS m.k of).1)
  unfold u8R at *
  omega)
 have HPU:=hyd (fun X E' G' (hX:TurnAt c ad X tb T2 E' G') (hBX:Base w0 X G')=>tpump_any w0 hK c ad tb T2 E' G' X cl z2 hX hBX hok2 ho2);rw [hp,hT3] at HPU
 have HPL1:=hyd (fun X E' G' (hX:TurnAt c ad X tb T2 E' G')=>show p.1.length<=1024 from by
  obtain ⟨ob,FO,i1,i2,i3,-⟩:=hX.outs hok2 ho2;have hlen:=i2.lens;have hpl:=pump_len' c.win z2.s.o;rw [hp] at hpl
  omega)
 have h3s:T3.mails.length=T2.mails.length/\T3.notes.length=T2.notes.length:=by rw [<- hT3];exact ⟨rfl,rfl⟩
 have h2n:=hgP kept.length;rw [hT2] at h2n;have HAN:=hyd (fun X E' G a cp (hX:TurnAt c ad X tb T3 E' G) (hb:Beside X (E'++G) a (pksV AL)) (h9:AL.length<=2000)=>answers_any c ad tb T3 E' G X x.conn AL a cp hX hn1 hn2 hx.conn.2 hb (by rw [h3s.1];omega) (by omega))
 have HNP:=hyd (fun X E' G (hX:TurnAt c ad X tb (answersT c x.conn AL T3) E' G)=>note_plain c ad tb (answersT c x.conn AL T3) E' G X (noteC 3 x.op x.conn x.client pkZ codes) hX ⟨rfl,rfl⟩ (by
  have:=(gr_answers (c:=c) (t:=T3) x.conn AL).n
  omega))
 have HNB:=hyd (fun (_:Unit)=>built_noteC 2 x.op x.conn x.client x.pk codes);have HNB3:=hyd (fun (_:Unit)=>built_noteCz 3 x.op x.conn x.client codes);have HCB:=hyd (fun (_:Unit)=>built_suback x.pk.id codes);have HCS:=hyd (build_pk (subackK x.pk.id codes));have HC1:=hyd (fun (W:World) (hW:w.heap.size<=W.heap.size)=>own_built W 39 w.heap.size 24 (subackK x.pk.id codes).cells rfl hW);rw [hCK] at HCB HCS HC1;have HPV:=hyd hAL1;have HCV:Hid (CK.cells++pksV p.1=pksV AL):=hyd (by rw [<- hAL];simp [pksV]);have HPO:=hyd (pksV_ones p.1);have HPLN:=hyd (pksV_len p.1);have HH3:Hid (T3.seat cl=some ⟨z2.s.setO p.2,z2.busy⟩):=hyd (by rw [<- hT3];exact seat_setS' ho2 (seat_at ho2).2);have HPS:Hid ((Tryz.prog.info? 39).map (·.size)=some x.pk.cells.length):=hyd (pkt_size' x.pk)
 have HC:=hyd (fun X G (hu:Upd F G w X)=>show X.cell? ⟨b1,1,none⟩=some (.int .i64 x.op)/\X.cell? ⟨b1,2,none⟩=some (.int .i64 x.conn)/\X.cell? ⟨b1,3,none⟩=some (.string x.client)/\X.rangeAt b1 5 x.pk.cells/\X.cell? ⟨b1,27,none⟩=some (.slice x.pk.subsA xs.length x.pk.subsC)/\X.cell? ⟨b1,9,none⟩=some (.int .u16 x.pk.id)/\X.cell? ⟨b2,0,none⟩=some (.pointer (some ⟨ad.seat cl,0,none⟩))/\X.cell? ⟨b3,0,none⟩=some (.pointer (some ⟨wb,0,none⟩))/\X.cell? ⟨wb,28,none⟩=some (.string ⟨codes.toArray⟩)/\X.cell? ⟨wb,29,none⟩=some (.map (some kb)) by
  have s1:=(q1.upd hu).2.2;have s4:=(q4.upd hu).2.2;obtain ⟨i1,i2,i3⟩:=itC s1
  refine ⟨i1,i2,i3,item_pk s1,by rw [cell_of_row _ _ 27 _ _ _ s1,<- hxs];rfl,by rw [cell_of_row _ _ 9 _ _ _ s1];rfl,stay_cell0 (q2.upd hu),stay_cell0 (q3.upd hu),by rw [cell_of_row _ _ 28 _ _ _ s4];rfl,by rw [cell_of_row _ _ 29 _ _ _ s4];rfl⟩)
 have HMP:=hyd (fun X G (hu:Upd F G w X)=>show ∃ D:DataW Unit,X.ownsMap Tryz.prog 9 msgElem kb (Maps.size D) D/\Has D kept from by
  obtain ⟨D,d1,d2⟩:=hmap
  exact ⟨D,owns_keep d1 (hu.1.block kb d1.lt hkb),d2⟩)
 have HIB:=hyd (fun X E' G (hu:Upd F G w X) (hE:∀ k ∈ E',k ∈ E \/ w.heap.size<=k)=>show ItB X (E'++G) x from hib.upd ⟨hu.1.mono fun k hk=>List.mem_append_right _ hk,fun k hk=>(List.mem_append.1 hk).elim (fun hk=>(hE k hk).imp (fun h=>List.mem_append_left _ h) id) (fun hk=>(hu.2 k hk).imp (fun h=>List.mem_append_right _ h) id)⟩);have HIS:Hid (∀ (X:World) (G':List Nat),ItB X G' x->Row X x.pk.subsA (subsV xs)):=hyd (fun X G' hi=>by rw [<- hxs];exact hi.1.row);have HLB:Hid (b1 < w.heap.size/\b2 < w.heap.size/\ad.seat cl < w.heap.size/\ad.sess cl < w.heap.size):=hyd ⟨q1.2.1,q2.2.1,World.block_lt_of_cell? w _ (h.seatCells h0).1,World.block_lt_of_cell? w _ (h.seatCells h0).2.1⟩;have HSC2:=hyd (fun X E' G' (hX:TurnAt c ad X tb T2 E' G')=>(hX.seatCells ho2).1);have HSC3:=hyd (fun X E' G' (hX:TurnAt c ad X tb T3 E' G')=>(hX.seatCells (show T3.seat cl=some ⟨z2.s.setO p.2,z2.busy⟩ by rw [<- hT3];exact seat_setS' ho2 (seat_at ho2).2)).1);have HT:Hid (TurnAt c ad w tb (TK 0) E F):=hyd (by rw [hT0];exact h);have HBA:=hyd hB;have HLT:=hyd h.lt;have HO0:=hyd hO0;have HOS:=hyd hOs;have HOF:=hyd hof;have HTN:=hyd hTN;have HTP0:=hyd hTP0;have HTPS:=hyd hTPs;have HT2:=hyd hT2;have HFME:=hyd hfm;have HKL:=hyd hkl;have HCL:=hyd hcl;have HXL:=hyd hxl;clear h hB hok h0 hbz q1 q2 q3 q4 hkb hmap hib hx hcl hkm hup hn hnn hkl hzc hs hxs hxl hxm hL hL0 hLs hLl hO hO0 hOs hOl hTK hokK hsK hT0 hlK hof hofl hn1e hTN hfm hTP hTP0 hTPs hokN hsN hPk hokP hsP hgP hT2 ho2 hz2 hok2 hp hT3 hCK hAL hAL1 h3s h2n hn1 hn2 hK
 generalize (noteC 2 x.op x.conn x.client x.pk codes).cells=NL at *;generalize (noteC 3 x.op x.conn x.client pkZ codes).cells=NL3 at *;generalize hCC:CK.cells=CL at *;generalize hPL:x.pk.cells=PL at *;generalize hSA:x.pk.subsA=sa at *;generalize x.pk.subsC=sc at *
 go_enter Tryz.func115, Tryz.ntmps115
 go_wp2_with fail
 refine (snew w).mono ?_;rintro e w1 ⟨rfl,hr1,hw1⟩;have hb1:Below w.heap.size w w1:=by rw [hw1];exact low_alloc _ _
 have hz1:w.heap.size < w1.heap.size:=by rw [hw1];simp
 have HR1:=hyd hr1;have HB1:=hyd hb1;have HT1:Hid (TurnAt c ad w1 tb (TK 0) ([w.heap.size]++E) F):=hyd (HT.out.moreL [w.heap.size] hb1 (fun k hk=>by rw [List.mem_singleton.1 hk];exact ⟨Nat.le_refl _,hz1⟩));have hu1:Upd F F w w1:=Upd.of_below hb1;obtain ⟨-,-,-,-,f27,-,-,-,-,-⟩:=HC.out w1 F hu1;have HU1:=hyd hu1;clear hr1 hw1 hb1 hz1 hu1;obtain ⟨lo,hlo⟩:∃ lo,w.heap.size=lo:=⟨_,rfl⟩;rw [hlo] at HR1 HT1 ⊢;have HLO:=hyd hlo;clear hlo
 go_wp2_with fail
 go_loopw [6,7,19] (fun _ _ i wr => ∃ (k:Nat) (F' FO:List Nat),i = .int .i64 k/\k<=xs.length/\SRep wr lo (O k) FO/\TurnAt c ad wr tb (TK k) (FO++E) F'/\Upd F F' w wr/\(∀ q ∈ FO,w.heap.size<=q)) (fun _ _ i _=>(xs.length - intOf i).toNat)
 case atStart=>exact ⟨0,F,[lo],rfl,Nat.zero_le _,by rw [HO0.out];exact HR1.out,HT1.out,HU1.out,fun q hq=>by rw [List.mem_singleton.1 hq];exact Nat.le_of_eq HLO.out⟩
 case round =>
  obtain ⟨k,F1,FO,rfl,hk,hso,ht,hu,hfo⟩:=hrel;have HSO:=hyd hso;have HTR:=hyd ht;have HUR:=hyd hu;have HFO:=hyd hfo;clear hso ht hu hfo f27
  by_cases hlt:k < xs.length
  ·have hk0:(0:Int)<=k:=by omega
   have hkl:(k:Int) < xs.length:=by omega
   have hkc:k < codes.length:=by have:=HCL.out;omega
   obtain ⟨rb,off,rfl,c0,c1⟩:=subs_row (HIS.out wr _ (HIB.out wr E F1 HUR.out (fun q hq => .inl hq))) hlt;have HOK:=hyd (HOS.out k hlt hkc);have HTK:=hyd (HTS.out k hlt);have HXK:=hyd (HXM.out xs[k] (List.getElem_mem hlt));generalize xs[k]=y at *;obtain ⟨yn,yq⟩:=y;dsimp only at *;have hw1:IntKind.i64.wrap ((k:Int)+1)=(k:Int)+1:=w_i64 _ (by omega) (by have:=HXL.out;omega)
   go_upto_region 4 with fail
   clear c0 c1;have hbx:=low_alloc wr (.cells #[Value.string ⟨yn.toArray⟩,.int .u8 yq] 76);have hxb:(wr.alloc (.cells #[Value.string ⟨yn.toArray⟩,.int .u8 yq] 76)).heap[wr.heap.size]? = some (.cells [Value.string ⟨yn.toArray⟩,.int .u8 yq].toArray 76 (0,0)):=heap_alloc_new wr _;have HSO2:=hyd (HSO.out.below hbx);have HT2':=hyd (HTR.out.below hbx);have HU2:=hyd (HUR.out.next hbx);have HXB:Hid (Stay (wr.alloc (.cells #[Value.string ⟨yn.toArray⟩,.int .u8 yq] 76)) F1 wr.heap.size [Value.string ⟨yn.toArray⟩,.int .u8 yq] 76):=hyd (stay_low hxb (fun k hk=>HTR.out.lt k (List.mem_append_right _ hk)));have HXF:Hid (∀ q ∈ FO,q ≠ wr.heap.size):=hyd (fun q hq e=>by have:=HSO.out.lt q hq;omega);clear hbx hxb HSO HTR HUR;generalize wr.alloc (.cells #[Value.string ⟨yn.toArray⟩,.int .u8 yq] 76)=w2 at *;generalize wr.heap.size=bx at *;have d0:=HSC.out w2 _ _ k HT2'.out;obtain ⟨lb,FL,l1,l2,-,l4⟩:=HLS.out w2.drew _ _ k (HT2'.out.below (Below.refl _ _).drew);have l1':w2.cell? ⟨ad.sess cl,8,none⟩=some (.pointer (some ⟨lb,0,none⟩)):=l1;have l2':SRep w2.drew lb (L k) FL:=l2;have HDR:=hyd (HSET.out w2.drew F1 lb (L k) FL yn yq ((HBA.out.upd HU2.out).below (Below.refl _ _).drew) l2' HXK.out.1 HXK.out.2);have HL4:=hyd l4;have p0:w2.cell? ⟨bx,0,none⟩=some (.string ⟨yn.toArray⟩):=cell_of_row _ _ 0 _ _ _ HXB.out.2.2
   have p1:w2.cell? ⟨bx,1,none⟩=some (.int .u8 yq):=cell_of_row _ _ 1 _ _ _ HXB.out.2.2;obtain ⟨-,-,-,-,-,-,f2,-,-,-⟩:=HC.out w2 F1 HU2.out;clear l1 l2 l2' l4
   go_still_tail 11,(by kernel_rfl)
   change wpList _ _ _ _ _ w2.drew
   go_wp2_with fail
   refine HDR.out.mono ?_;rintro e w3 ⟨rfl,FL3,hr3,hu3⟩;obtain ⟨F3,ht3,hv3,-,-⟩:=HL4.out w3 _ FL3 hr3 hu3;rw [HTK.out] at ht3;have hv3':Upd F1 F3 w2 w3:=Upd.pre (Below.refl _ _).drew hv3;have HT3:=hyd ht3;have HU3:=hyd (HU2.out.trans' hv3');have HXB3:=hyd (HXB.out.upd hv3');have HSO3:=hyd (HSO2.out.mod hv3'.1 (fun q hq=>(HT2'.out.ext q (List.mem_append_left _ hq)).2));clear hr3 hu3 ht3 hv3 hv3' d0 l1' p0 p1 f2 HT2' HU2 HSO2 HXB HDR HL4;obtain ⟨-,-,-,-,-,-,-,f3,f28,-⟩:=HC.out w3 F3 HU3.out;have hkb:k < (⟨codes.toArray⟩:ByteArray).size:=by show k < codes.toArray.size;simpa using hkc
   have hbe:(⟨codes.toArray⟩:ByteArray)[k]'hkb=codes[k]:=by show codes.toArray[k]=codes[k];simp
   by_cases h128:codes[k]=128
   ·have hq:((((⟨codes.toArray⟩:ByteArray)[k]'hkb).toNat:Int) != 128)=false:=by rw [hbe,h128];rfl
    have HG1:Hid (O (k+1)=O k):=hyd (by rw [HOK.out,if_neg (fun h=>h h128)]);clear h128 hbe
    go_wp2_with fail
    go_roundw
    case rel=>exact ⟨k+1,F3,FO,by go_num,by omega,by rw [HG1.out];exact HSO3.out,HT3.out,HU3.out,HFO.out⟩
    case measure=>simp [intOf];omega
   ·have hq:((((⟨codes.toArray⟩:ByteArray)[k]'hkb).toNat:Int) != 128)=true:=by
     rw [hbe];have:codes[k].toNat ≠ 128:=fun e=>h128 (UInt8.toNat_inj.1 e)
     simp;omega
    have HG1:Hid (O (k+1)=setE yn yq (O k)):=hyd (by rw [HOK.out,if_pos h128]);have p0:w3.cell? ⟨bx,0,none⟩=some (.string ⟨yn.toArray⟩):=cell_of_row _ _ 0 _ _ _ HXB3.out.2.2;have p1:w3.cell? ⟨bx,1,none⟩=some (.int .u8 yq):=cell_of_row _ _ 1 _ _ _ HXB3.out.2.2;clear hbe h128
    go_wp2_with fail
    refine (HSET.out w3 F3 lo (O k) FO yn yq (HBA.out.upd HU3.out) HSO3.out HXK.out.1 HXK.out.2).mono ?_;rintro e w4 ⟨rfl,FO4,hr4,hu4⟩;have HR4:=hyd hr4;have HU4:=hyd hu4;clear hr4 hu4 p0 p1 f3 f28
    go_wp2_with fail
    go_roundw
    case rel =>
     have hE4:∀ q ∈ FO4++E,q ∈ FO++E \/ w3.heap.size<=q:=fun q hq=>(List.mem_append.1 hq).elim (fun hq=>(HU4.out.2 q hq).imp (fun h=>List.mem_append_left _ h) id) (fun hq => .inl (List.mem_append_right _ hq))
     refine ⟨k+1,F3,FO4,by go_num,by omega,by rw [HG1.out];exact HR4.out,HT3.out.chg HU4.out.1 (fun q hq=>List.mem_append_left _ hq) hE4 (fun q hq => ?_),HU3.out.extra HU4.out.1 HFO.out,fun q hq => ?_⟩
     ·rcases List.mem_append.1 hq with hq | hq
      ·exact HR4.out.lt q hq
      ·exact Nat.lt_of_lt_of_le (HT3.out.lt q (List.mem_append_left _ (List.mem_append_right _ hq))) HU4.out.1.size
     ·exact (HU4.out.2 q hq).elim (HFO.out q) (fun h=>Nat.le_trans HU3.out.1.size h)
    case measure=>simp [intOf];omega
  ·have hkl:¬ (k:Int) < xs.length:=by omega
   obtain rfl:k=xs.length:=by omega
   rw [HTN.out] at HTR;rw [HOF.out] at HSO;have HNC:=hyd (HNO.out wr.drew _ _ (HTR.out.below (Below.refl _ _).drew) (by have:=((HIB.out wr (FO++E) F1 HUR.out (fun q hq=>(List.mem_append.1 hq).elim (fun h => .inr (HFO.out q h)) .inl)).upd (Upd.of_below (Below.refl _ _).drew)).1;rw [hSA] at this;exact this));obtain ⟨f1,f2,f3,f5,f27,-,-,fb,f28,-⟩:=HC.out wr F1 HUR.out;have HCS0:=hyd (show wr.drew.cell? ⟨b1,1,none⟩=some (.int .i64 x.op)/\wr.drew.cell? ⟨b1,2,none⟩=some (.int .i64 x.conn)/\wr.drew.cell? ⟨b1,3,none⟩=some (.string x.client)/\wr.drew.cell? ⟨b3,0,none⟩=some (.pointer (some ⟨wb,0,none⟩))/\wr.drew.cell? ⟨wb,28,none⟩=some (.string ⟨codes.toArray⟩)/\wr.drew.rangeAt b1 5 PL from ⟨f1,f2,f3,fb,f28,f5⟩);clear f1 f2 f3 f5 fb f28
   go_upto_region 8 with fail
   refine wp_region_tail (S:=fun X=>X.cell? ⟨b1,1,none⟩=some (.int .i64 x.op)/\X.cell? ⟨b1,2,none⟩=some (.int .i64 x.conn)/\X.cell? ⟨b1,3,none⟩=some (.string x.client)/\X.cell? ⟨b3,0,none⟩=some (.pointer (some ⟨wb,0,none⟩))/\X.cell? ⟨wb,28,none⟩=some (.string ⟨codes.toArray⟩)/\X.rangeAt b1 5 PL) 14 (by kernel_rfl) HCS0.out (fun hHeld => ?_);refine uA 0 (h:=uA 1 (h:=uA 2 (h:=uA 3 (h:=uA 4 (h:=uA 5 (h:=uA 6 (h:=uA 7 (h:=?_))))))));simp only [tks];refine ttk 8 (v:=.agg PL.toArray) (fun w0 hS0=>exec_load_row rfl rfl hS0.2.2.2.2.2 Tryz.underlying39 rfl HPS.out) hHeld ?_;simp only [tks];refine uA 9 (h:=uA 10 (h:=uA 11 (h:=uA 12 (h:=?_))));simp only [tks];refine ttk 13 (v:=.agg NL.toArray) (fun w0 hS0=>exec_build 79 _ rfl NL.toArray [(0,.int .u8 2),(1,.int .i64 x.op),(2,.int .i64 x.conn),(3,.string x.client),(4,.agg PL.toArray),(6,.string ⟨codes.toArray⟩)] (by kernel_rfl) (HNB.out ())) hHeld ?_;simp only [tks];refine wpTail.ready (rs:=[14]) (by kernel_rfl) (by simp) ?_;refine AllTail.cons rfl (fun K hK => ?_) AllTail.nil;rw [if_pos (by rfl)];go_simp
   go_at_call 107
   refine HNC.out.mono ?_;rintro e w6 ⟨rfl,F6,ht6,hu6⟩;have hu6':Upd F1 F6 wr w6:=Upd.pre (Below.refl _ _).drew hu6;have HT6:=hyd ht6;have HU6:=hyd (HUR.out.trans' hu6');have HSO6:=hyd (HSO.out.mod hu6'.1 (fun q hq=>(HTR.out.ext q (List.mem_append_left _ hq)).2));clear ht6 hu6 hu6' f27 HNC;refine hK.out _ _ (fun h=>absurd rfl h) (fun _ => ?_);refine wpTail.done (by kernel_rfl) ?_ _;clear hHeld HCS0 HTR HUR HSO;obtain ⟨D,hown,hhas⟩:=HMP.out w6 F6 HU6.out;obtain ⟨-,-,-,-,-,-,-,f3,-,f29⟩:=HC.out w6 F6 HU6.out;have hmax:Maps.size D<=maxLen:=by have:=hhas.1;have:=HKL.out;unfold maxLen;omega
   have hbytes:Maps.size D * 16<=140737488355328:=by have:=hhas.1;have:=HKL.out;omega
   have HPM:=hyd (fun (ss:List (List UInt8)) (hp:ss.Perm (strKeys D))=>kept_names hown hhas hp);clear hhas
   go_wp2_with fail
   go_at_call 119
   refine (callsIn_wide.1 (Tryz.maps_Keys_119 _ _)).mono ?_;rintro e w7 ⟨rfl,rfl⟩
   go_wp2_with fail
   refine (callsIn_wide.1 (Tryz.slices_Sorted_keys_118_119 kb _ D msgElem w6 hown hmax hbytes)).mono ?_;rintro e w8 ⟨v8,ss,rfl,hS,hrow,-,hb8⟩;have hlen:ss.length=kept.length:=by have:=congrArg List.length (HPM.out ss hS);simpa using this
   rw [HPM.out ss hS,hlen,kept_vals] at hrow;have hb8':Below w6.heap.size w6 w8:=Below.trans ((Below.refl _ _).alloc (Nat.le_refl _) _) (hb8.mono (by simp));have hrl:=fun j hj=>hrow.lt j hj
   have HROW:=hyd hrow
   have HT8:Hid (TurnAt c ad w8 tb (TP 0) (v8.ownBlock.toList++(FO++E)) F6):=hyd (by
    rw [HTP0.out];refine HT6.out.moreL _ hb8' (fun k hk => ?_);have h1:=hrow.lt k (Option.mem_toList.1 hk);simp only [World.size_alloc] at h1
    exact ⟨by omega,h1.2⟩)
   have HU8:=hyd (HU6.out.next hb8');have HSO8:=hyd (HSO6.out.below hb8');obtain ⟨ra,rc,rfl,hr8,-,-⟩:=ownsRow_row hrow;clear hrow hb8 hb8' hlen hS hown f3 f29 hmax hbytes HPM HT6 HU6 HSO6 hrl hr8
   go_wp2_with fail
   obtain ⟨base,hbase⟩:∃ base,(w6.alloc (.cells #[Value.map (some kb)] 107)).heap.size=base:=⟨_,rfl⟩;rw [hbase] at HROW;clear hbase;obtain ⟨EE,hEE⟩:∃ EE,(Value.slice ra kept.length rc).ownBlock.toList++(FO++E)=EE:=⟨_,rfl⟩;rw [hEE] at HT8;have HEF:Hid (∀ q ∈ FO,q ∈ EE):=hyd (fun q hq=>by rw [<- hEE];exact List.mem_append_right _ (List.mem_append_left _ hq));have HEO:Hid (∀ q,(Value.slice ra kept.length rc).ownBlock=some q->q ∈ EE):=hyd (fun q hq=>by rw [<- hEE];exact List.mem_append_left _ (Option.mem_toList.2 hq));have HEE:Hid (∀ q ∈ E,q ∈ EE):=hyd (fun q hq=>by rw [<- hEE];exact List.mem_append_right _ (List.mem_append_right _ hq));clear hEE
   go_loopw [9,10,11,12,72] (fun _ _ _ _ i wr => ∃ (k:Nat) (F':List Nat),i = .int .i64 k/\k<=kept.length/\SRep wr lo of FO/\wr.ownsRow base 9 1 (.slice ra kept.length rc) kept.length (kept.map fun m=>Value.string m.t)/\TurnAt c ad wr tb (TP k) EE F'/\Upd F F' w wr) (fun _ _ _ _ i _=>(kept.length - intOf i).toNat)
   case atStart=>exact ⟨0,F6,rfl,Nat.zero_le _,HSO8.out,HROW.out,HT8.out,HU8.out⟩
   case round =>
    obtain ⟨k,F9,rfl,hk,hso,hro,ht,hu⟩:=hrel;have HSO:=hyd hso;have HRO:=hyd hro;have HTR:=hyd ht;have HUR:=hyd hu;clear hso hro ht hu HSO8 HROW HT8 HU8
    by_cases hlt:k < kept.length
    ·have hk0:(0:Int)<=k:=by omega
     have hkl:(k:Int) < kept.length:=by omega
     obtain ⟨ra',rc',hv,hrr,-,-⟩:=ownsRow_row HRO.out
     cases hv
     obtain ⟨rb,off,rfl,kc⟩:=hrr.at (j:=k) (u:=.string kept[k].t) (by simp [hlt]);obtain ⟨D,hown,hhas⟩:=HMP.out wr F9 HUR.out;have hat:=hhas.2.2.1 _ _ (get_of_mem hhas.2.2.2 (List.getElem_mem hlt)) Msg.none.dat;have hmm:=List.getElem_mem hlt;have hsz:=(HFM.out _ hmm);have hkey:=WideMaps.keyOf_string_mk (s:=kept[k].t) Tryz.underlying9 (by have:=hsz.1;rw [<- HFME.out] at this;unfold maxLen;show kept[k].t.size<=_;have h9:kept[k].t.size<=1000:=this;omega);have HTK:=hyd (HTPS.out k hlt);have HPK:=hyd (fun X E' G' hX hBX=>HPT.out X E' G' k (fm kept[k]) hX hBX hsz);have HFK:=hyd (HFME.out kept[k]);have HMM:=hyd hmm;have HAT:=hyd hat;clear hhas hat hmm hrr hsz;generalize kept[k]=m at *;obtain ⟨mt,mp,mq,mr⟩:=m;dsimp only [Msg.k] at *;obtain ⟨-,-,-,-,-,-,-,f3,-,f29⟩:=HC.out wr F9 HUR.out;have hw1:IntKind.i64.wrap ((k:Int)+1)=(k:Int)+1:=w_i64 _ (by omega) (by have:=HKL.out;omega)
     go_upto_region 13 with (first
      | (at_lookup;refine wpList_look _ rfl _ _ 107 rfl 9 36 kS Tryz.underlying107 msgElem (zeroMsg _) Msg.none.dat [] (msgElem_mk Msg.none) kb _ D rfl hown _ _ rfl hkey ?_;intro v ps hv;rw [HAT.out] at hv;obtain rfl:=msgElem_inv hv;dsimp only [Msg.val])
      | fail)
     clear kc hown hkey f3 f29;have hbx:=low_alloc wr (.cells #[Value.string mt,Value.string mp,.int .u8 mq,.bool mr] 36);have hxb:(wr.alloc (.cells #[Value.string mt,Value.string mp,.int .u8 mq,.bool mr] 36)).heap[wr.heap.size]? = some (.cells [Value.string mt,Value.string mp,.int .u8 mq,.bool mr].toArray 36 (0,0)):=heap_alloc_new wr _;have HS2:=hyd (HSO.out.below hbx);have HT2':=hyd (HTR.out.moreL [wr.heap.size] hbx (fun q hq=>by rw [List.mem_singleton.1 hq];simp));have HU2:=hyd (HUR.out.next hbx);have HRO2:=hyd (HRO.out.alloc (.cells #[Value.string mt,Value.string mp,.int .u8 mq,.bool mr] 36));have HXB:Hid (Stay (wr.alloc (.cells #[Value.string mt,Value.string mp,.int .u8 mq,.bool mr] 36)) (EE++F9) wr.heap.size [Value.string mt,Value.string mp,.int .u8 mq,.bool mr] 36):=hyd (stay_low hxb (fun k hk=>HTR.out.lt k hk));have HBZ:Hid (w.heap.size<=wr.heap.size):=hyd HUR.out.1.size;clear hbx hxb HSO HTR HUR HRO;generalize wr.alloc (.cells #[Value.string mt,Value.string mp,.int .u8 mq,.bool mr] 36)=w2 at *;generalize wr.heap.size=bm at *
     go_wp2_with fail
     refine (HBE.out w2 F9 lo FO _ HMM.out (HBA.out.upd HU2.out) HS2.out).mono ?_;rintro e w3 ⟨rfl,hb3⟩;have HS3:=hyd (HS2.out.below hb3);have HT3':=hyd (HT2'.out.below hb3);have HU3:=hyd (HU2.out.next hb3);have HRO3:=hyd (ownsRow_local (w':=w3) HRO2.out (fun j hj=>hb3.block j (HRO2.out.lt j hj).2));have HXB3:=hyd (HXB.out.below hb3);clear hb3 HS2 HT2' HU2 HRO2 HXB;dsimp only [Msg.k] at *;have c2:w3.cell? ⟨bm,2,none⟩=some (.int .u8 mq):=cell_of_row _ _ 2 _ _ _ HXB3.out.2.2;have c3:w3.cell? ⟨bm,3,none⟩=some (.bool mr):=cell_of_row _ _ 3 _ _ _ HXB3.out.2.2;have f2:=frozen_of_row w3 _ 2 _ _ HXB3.out.2.2;have f3:=frozen_of_row w3 _ 3 _ _ HXB3.out.2.2
     go_upto_region 15 with fail
     clear c2 c3 f2 f3;obtain ⟨q9,hq9⟩:∃ q9,min mq (bestS mt.data.toList of).fst=q9:=⟨_,rfl⟩;rw [hq9] at HFK ⊢;have hx5:=heap_setCell_same (w3.setCell ⟨bm,2,none⟩ (.int .u8 q9)) bm 3 _ _ (.bool true) (heap_setCell_same w3 bm 2 _ _ (.int .u8 q9) HXB3.out.2.2);have hm5:Mod [bm] w3 ((w3.setCell ⟨bm,2,none⟩ (.int .u8 q9)).setCell ⟨bm,3,none⟩ (.bool true)):=((Mod.refl [bm] w3).setCell (.inl (by simp)) _).setCell (.inl (by simp)) _;have HX5:Hid (((w3.setCell ⟨bm,2,none⟩ (.int .u8 q9)).setCell ⟨bm,3,none⟩ (.bool true)).heap[bm]? = some (.cells [Value.string mt,.string mp,.int .u8 q9,.bool true].toArray 36 (0,0))):=hyd hx5;have HM5:=hyd hm5;clear hx5 hm5 hq9;generalize (w3.setCell ⟨bm,2,none⟩ (.int .u8 q9)).setCell ⟨bm,3,none⟩ (.bool true)=w5 at *;have HBE5:Hid (bm ∉ EE/\bm ∉ F9):=hyd ⟨fun h=>HXB3.out.1 (List.mem_append_left _ h),fun h=>HXB3.out.1 (List.mem_append_right _ h)⟩;have HS5:=hyd (HS3.out.mod HM5.out (fun q hq e=>HBE5.out.1 (by rw [<- List.mem_singleton.1 e];exact HEF.out q hq)));have HRO5:=hyd (ownsRow_local (w':=w5) HRO3.out (fun j hj=>HM5.out.block j (HRO3.out.lt j hj).2 (fun e=>HBE5.out.1 (by rw [<- List.mem_singleton.1 e];exact HEO.out j hj))));have HT5:Hid (TurnAt c ad w5 tb (TP k) EE F9):=hyd ((HT3'.out.wrote HM5.out (fun q hq=>List.mem_append_left _ hq)).less (fun q hq=>List.mem_append_right _ hq));have HU5:=hyd (HU3.out.extra HM5.out (fun q hq=>by rw [List.mem_singleton.1 hq];exact HBZ.out))
     have HPQ:=hyd (HPK.out w5 EE F9 HT5.out (HBA.out.upd HU5.out));rw [<- HFK.out] at HPQ;have hcl:(⟨mt,mp,q9,true⟩:Msg).cells = [Value.string mt,.string mp,.int .u8 q9,.bool true]:=rfl;rw [hcl] at HPQ;clear hcl HS3 HRO3 HT3' HU3 HXB3;have hra:=range_blk HX5.out;have HRA:=hyd hra;obtain ⟨g1,-,-,-,-,-,g2,-,-,-⟩:=HC.out w5 F9 HU5.out;clear hra
     go_wp2_with (first
      | (refine wpList_loadMid rfl 36 _ rfl bm 0 rfl [Value.string mt,.string mp,.int .u8 q9,.bool true] _ HRA.out Tryz.underlying36 rfl rfl _ rfl ?_)
      | fail)
     refine HPQ.out.mono ?_;rintro e w7 ⟨rfl,F7,ht7,hu7⟩;rw [HFK.out] at ht7;rw [<- HTK.out] at ht7;have HT7:=hyd ht7;have HU7:=hyd (HU5.out.trans' hu7);have HS7:=hyd (HS5.out.mod hu7.1 (fun q hq=>(HT5.out.ext q (HEF.out q hq)).2));have HRO7:=hyd (ownsRow_local (w':=w7) HRO5.out (fun j hj=>hu7.1.block j (HRO5.out.lt j hj).2 (HT5.out.ext j (HEO.out j hj)).2));clear ht7 hu7 g1 g2
     go_wp2_with fail
     go_roundw
     case rel=>exact ⟨k+1,F7,by go_num,by omega,HS7.out,HRO7.out,HT7.out,HU7.out⟩
     case measure=>simp [intOf];omega
    ·have hkl:¬ (k:Int) < kept.length:=by omega
     obtain rfl:k=kept.length:=by omega
     rw [HT2.out] at HTR;have HTA:=hyd (HTR.out.less (E':=E) HEE.out);have HPL9:=hyd (HPL1.out wr E F9 HTA.out);clear HTR HSO HRO;obtain ⟨-,-,-,-,-,g9,-,gb,g28,-⟩:=HC.out wr F9 HUR.out;have HCS0:=hyd (show wr.drew.cell? ⟨b1,9,none⟩=some (.int .u16 x.pk.id)/\wr.drew.cell? ⟨b3,0,none⟩=some (.pointer (some ⟨wb,0,none⟩))/\wr.drew.cell? ⟨wb,28,none⟩=some (.string ⟨codes.toArray⟩) from ⟨g9,gb,g28⟩);clear g9 gb g28
     go_upto_region 17 with fail
     refine wp_region_held_drew (S:=fun X=>X.cell? ⟨b1,9,none⟩=some (.int .u16 x.pk.id)/\X.cell? ⟨b3,0,none⟩=some (.pointer (some ⟨wb,0,none⟩))/\X.cell? ⟨wb,28,none⟩=some (.string ⟨codes.toArray⟩)) (by kernel_rfl) HCS0.out (fun hHeld => ?_);refine tA 0 (h:=tA 1 (h:=tA 2 (h:=tA 3 (h:=tA 4 (h:=tA 5 (h:=tA 6 (h:=?_)))))));simp only [tks];refine tk 7 (v:=.agg CL.toArray) (fun w0 hS0=>exec_build 39 _ rfl CL.toArray [(0,.int .u8 9),(4,.int .u16 x.pk.id),(20,.string ⟨codes.toArray⟩)] (by kernel_rfl) (HCB.out ())) hHeld ?_;simp only [tks];refine wpAnyH_ready (rs:=[8]) (by kernel_rfl) (by simp) ?_;refine AllReadyH.cons rfl (fun K hK => ?_) AllReadyH.nil;rw [if_pos (by rfl)];refine HCS.out _ _ _ _ _ _ rfl rfl ?_;have hbn:Below wr.heap.size wr (wr.drew.alloc (.cells CL.toArray 39)):=(Below.refl _ _).drew.trans (low_alloc wr.drew _);have HOW3:=hyd (HC1.out wr.drew HUR.out.1.size);have HT3':=hyd (HTA.out.moreL [wr.drew.heap.size] hbn (fun q hq=>by rw [List.mem_singleton.1 hq];exact ⟨Nat.le_refl _,by simp⟩));have HU3:=hyd (HUR.out.next hbn);have HG3:Hid (w.heap.size<=wr.drew.heap.size):=hyd HUR.out.1.size;clear hbn HTA HUR;generalize wr.drew.alloc (.cells CL.toArray 39)=w3 at *;generalize wr.drew.heap.size=g3 at *;have hcx:=HC.out w3 F9 HU3.out;refine hK.out _ _ ⟨hcx.2.2.2.2.2.1,hcx.2.2.2.2.2.2.2.1,hcx.2.2.2.2.2.2.2.2.1⟩ (fun hHeld => ?_);refine tA 9 (h:=?_)
     simp only [tks];refine wpAnyH_done (by kernel_rfl) ?_ _;clear hHeld hcx HCS0;have HUd:=hyd (HU3.out.next (Below.refl _ _).drew);obtain ⟨ot,hot,hpu⟩:=HPU.out w3.drew _ F9 (HT3'.out.below (Below.refl _ _).drew) (HBA.out.upd HUd.out);have HP:=hyd (hpu w3.drew (Below.refl _ _))
     have HSK:Hid (∀ X Y:World,(∀ k,k < w.heap.size->Y.heap[k]? = X.heap[k]?)->(X.cell? ⟨b1,2,none⟩=some (.int .i64 x.conn)/\X.cell? ⟨b2,0,none⟩=some (.pointer (some ⟨ad.seat cl,0,none⟩))/\X.cell? ⟨ad.seat cl,0,none⟩=some (.pointer (some ⟨ad.sess cl,0,none⟩))/\X.cell? ⟨ad.sess cl,9,none⟩=some (.pointer (some ⟨ot,0,none⟩)))->(Y.cell? ⟨b1,2,none⟩=some (.int .i64 x.conn)/\Y.cell? ⟨b2,0,none⟩=some (.pointer (some ⟨ad.seat cl,0,none⟩))/\Y.cell? ⟨ad.seat cl,0,none⟩=some (.pointer (some ⟨ad.sess cl,0,none⟩))/\Y.cell? ⟨ad.sess cl,9,none⟩=some (.pointer (some ⟨ot,0,none⟩)))):=hyd (fun X Y hXY ⟨q1,q2,q3,q4⟩ =>
      ⟨(World.cell?_of_block (w:=X) (hXY b1 HLB.out.1)).trans q1,(World.cell?_of_block (w:=X) (hXY b2 HLB.out.2.1)).trans q2,(World.cell?_of_block (w:=X) (hXY _ HLB.out.2.2.1)).trans q3,(World.cell?_of_block (w:=X) (hXY _ HLB.out.2.2.2)).trans q4⟩)
     have hcx:=HC.out w3.drew F9 HUd.out;have HS0:Hid ((fun X:World=>X.cell? ⟨b1,2,none⟩=some (.int .i64 x.conn)/\X.cell? ⟨b2,0,none⟩=some (.pointer (some ⟨ad.seat cl,0,none⟩))/\X.cell? ⟨ad.seat cl,0,none⟩=some (.pointer (some ⟨ad.sess cl,0,none⟩))/\X.cell? ⟨ad.sess cl,9,none⟩=some (.pointer (some ⟨ot,0,none⟩))) w3.drew):=hyd ⟨hcx.2.1,hcx.2.2.2.2.2.2.1,HSC2.out w3.drew _ F9 (HT3'.out.below (Below.refl _ _).drew),hot⟩;clear hot hpu hcx
     go_upto_region 18 with fail
     refine wp_region_tail (S:=fun X=>X.cell? ⟨b1,2,none⟩=some (.int .i64 x.conn)/\X.cell? ⟨b2,0,none⟩=some (.pointer (some ⟨ad.seat cl,0,none⟩))/\X.cell? ⟨ad.seat cl,0,none⟩=some (.pointer (some ⟨ad.sess cl,0,none⟩))/\X.cell? ⟨ad.sess cl,9,none⟩=some (.pointer (some ⟨ot,0,none⟩))) 13 (by kernel_rfl) HS0.out (fun hHeld => ?_);refine uA 0 (h:=uA 1 (h:=uA 2 (h:=uA 3 (h:=uA 4 (h:=uA 5 (h:=uA 6 (h:=uA 7 (h:=uA 8 (h:=uA 9 (h:=uA 10 (h:=?_)))))))))));simp only [tks];refine wpTail.ready (rs:=[11]) (by kernel_rfl) (by simp) ?_;refine AllTail.cons rfl (fun K hK => ?_) AllTail.nil;rw [if_pos (by rfl)];go_simp
     go_at_call 71
     refine HP.out.mono ?_;rintro e w4 ⟨v4,F4,rfl,ho4,ht4,hu4,-,hs4⟩;obtain ⟨a4,c4,rfl,hr4,-,-⟩:=ownsRow_row ho4;have hu4':Upd F F4 w w4:=HUd.out.trans' hu4;have hcx:=HC.out w4 F4 hu4';have HS4:Hid ((fun X:World=>X.cell? ⟨b1,2,none⟩=some (.int .i64 x.conn)/\X.cell? ⟨b2,0,none⟩=some (.pointer (some ⟨ad.seat cl,0,none⟩))/\X.cell? ⟨ad.seat cl,0,none⟩=some (.pointer (some ⟨ad.sess cl,0,none⟩))/\X.cell? ⟨ad.sess cl,9,none⟩=some (.pointer (some ⟨ot,0,none⟩))) w4):=hyd ⟨hcx.2.1,hcx.2.2.2.2.2.2.1,HSC3.out w4 _ F4 ht4,hs4⟩;have HOW4:=hyd (ownsRow_local (w':=w4) HOW3.out (fun j hj=>hu4.1.block j (HOW3.out.lt j hj).2 (HT3'.out.ext j (List.mem_append_left _ (by rw [Value.ownBlock] at hj;simpa using hj.symm))).2));have HR4:=hyd hr4;have HT4:Hid (TurnAt c ad w4 tb T3 ((Value.slice (some ⟨g3,0,none⟩) 1 1).ownBlock.toList++E) F4):=hyd ht4;have HU4:=hyd hu4';clear ho4 ht4 hu4 hs4 hr4 hu4' hcx;refine hK.out _ _ (fun _=>HS4.out) (fun hHeld => ?_);replace hHeld:=hHeld (by decide);refine wpTail.ready (rs:=[12]) (by kernel_rfl) (by simp) ?_;refine AllTail.cons rfl (fun K hK => ?_) AllTail.nil;refine step_spreadG T_pkt HOW4.out HR4.out rfl rfl rfl rfl HPLN.out HPO.out (by have:=HPL9.out;omega) (by have:=HPL9.out;omega) HU4.out.1.size ?_;intro v5 w5 hown5 hgr5 hob5;rw [HCV.out,HPV.out] at hown5;obtain ⟨ht5,hm5,a5,c5,rfl,hbe5⟩:=HT4.out.grew (fun k hk=>HLT.out k (List.mem_append_left _ hk)) hown5 hgr5 hob5
     have HT5:=hyd ht5;have HBE5:=hyd hbe5;have HM5:Hid (Mod [g3] w4 w5):=hyd hm5;clear hown5 hgr5 hob5 ht5 hm5 hbe5;refine hK.out _ _ (fun _=>HSK.out w4 w5 (fun k hk=>HM5.out.block k (Nat.lt_of_lt_of_le hk HU4.out.1.size) (fun e=>by have:=List.mem_singleton.1 e;have:=HG3.out;omega)) HS4.out) (fun hHeld => ?_);replace hHeld:=hHeld (by decide);refine wpTail.ready (rs:=[13]) (by kernel_rfl) (by simp) ?_;refine AllTail.cons rfl (fun K hK => ?_) AllTail.nil;rw [if_pos (by rfl)];go_simp
     go_at_call 120
     refine (HAN.out w5 E F4 a5 c5 HT5.out HBE5.out (by have:=HPV.out;have:=HPL9.out;omega)).mono ?_;rintro e w6 ⟨rfl,F6,ht6,hu6⟩;have HU6:=hyd ((HU4.out.extra HM5.out (fun k hk=>by rw [List.mem_singleton.1 hk];exact HG3.out)).trans' hu6);have HT6:=hyd ht6;clear ht6 hu6;refine hK.out _ _ (fun h=>absurd rfl h) (fun _ => ?_);refine wpTail.done (by kernel_rfl) ?_ _;clear hHeld HS0;have HNC:=hyd (HNP.out w6.drew E F6 (HT6.out.below (Below.refl _ _).drew));have hcx:=HC.out w6.drew F6 (HU6.out.next (Below.refl _ _).drew);have HS0:Hid ((fun X:World=>X.cell? ⟨b1,1,none⟩=some (.int .i64 x.op)/\X.cell? ⟨b1,2,none⟩=some (.int .i64 x.conn)/\X.cell? ⟨b1,3,none⟩=some (.string x.client)/\X.cell? ⟨b3,0,none⟩=some (.pointer (some ⟨wb,0,none⟩))/\X.cell? ⟨wb,28,none⟩=some (.string ⟨codes.toArray⟩)) w6.drew):=hyd ⟨hcx.1,hcx.2.1,hcx.2.2.1,hcx.2.2.2.2.2.2.2.1,hcx.2.2.2.2.2.2.2.2.1⟩;clear hcx
     go_upto_region 19 with fail
     refine wp_region_tail (S:=fun X=>X.cell? ⟨b1,1,none⟩=some (.int .i64 x.op)/\X.cell? ⟨b1,2,none⟩=some (.int .i64 x.conn)/\X.cell? ⟨b1,3,none⟩=some (.string x.client)/\X.cell? ⟨b3,0,none⟩=some (.pointer (some ⟨wb,0,none⟩))/\X.cell? ⟨wb,28,none⟩=some (.string ⟨codes.toArray⟩)) 12 (by kernel_rfl) HS0.out (fun hHeld => ?_);refine uA 0 (h:=uA 1 (h:=uA 2 (h:=uA 3 (h:=uA 4 (h:=uA 5 (h:=uA 6 (h:=uA 7 (h:=uA 8 (h:=uA 9 (h:=uA 10 (h:=?_)))))))))));simp only [tks];refine ttk 11 (v:=.agg NL3.toArray) (fun w0 hS0=>exec_build 79 _ rfl NL3.toArray [(0,.int .u8 3),(1,.int .i64 x.op),(2,.int .i64 x.conn),(3,.string x.client),(6,.string ⟨codes.toArray⟩)] (by kernel_rfl) (HNB3.out ())) hHeld ?_;simp only [tks];refine wpTail.ready (rs:=[12]) (by kernel_rfl) (by simp) ?_;refine AllTail.cons rfl (fun K hK => ?_) AllTail.nil;rw [if_pos (by rfl)];go_simp
     go_at_call 107
     refine HNC.out.mono ?_;rintro e w7 ⟨rfl,F7,ht7,hu7⟩;have HD:Hid (TDone c ad tb E F w (doneSub c x codes kept z T) w7):=hyd ⟨F7,by rw [HE.out];exact ht7,(HU6.out.next (Below.refl _ _).drew).trans' hu7⟩;clear ht7 hu7;refine hK.out _ _ (fun h=>absurd rfl h) (fun _ => ?_);refine wpTail.done (by kernel_rfl) ?_ _;clear hHeld
     go_wp2_with fail
     go_end0
     exact ⟨rfl,HD.out⟩
end
section
open Go Go.RowKit Go.Maps
theorem item_33 {w:World} {b:Nat} {x:Item} (h:w.heap[b]? = some (.cells x.cells.toArray 44 (0,0))):w.cell? ⟨b,0,none⟩=some (.int .u8 x.kind)/\w.cell? ⟨b,33,none⟩=some (.slice x.msA x.ms.length x.msC)/\w.cell? ⟨b,37,none⟩=some (.int .i64 x.many):=
 ⟨by rw [cell_of_row _ _ 0 _ _ _ h];rfl,by rw [cell_of_row _ _ 33 _ _ _ h];rfl,by rw [cell_of_row _ _ 37 _ _ _ h];rfl⟩
theorem wait_cells {w:World} {b:Nat} {op kind left:Int} {p:Pkt} {codes:ByteArray} {kept:Option Nat} {done:Value} {T:TypeId} (h:w.heap[b]? = some (.cells (waitC op p kind left codes kept done).toArray T (0,0))) :
  w.cell? ⟨b,27,none⟩=some (.int .i64 left)/\w.cell? ⟨b,29,none⟩=some (.map kept)/\w.cell? ⟨b,30,none⟩=some done/\w.frozen? ⟨b,27,none⟩=false:=
 ⟨by rw [cell_of_row _ _ 27 _ _ _ h];rfl,by rw [cell_of_row _ _ 29 _ _ _ h];rfl,by rw [cell_of_row _ _ 30 _ _ _ h];rfl,frozen_of_row w _ 27 _ _ h⟩
def boxW (w:World) (x:Item):World:=w.alloc (.cells x.cells.toArray 44)
theorem boxW_low (w:World) (x:Item):Below w.heap.size w (boxW w x):=low_alloc _ _
set_option maxRecDepth 100000
set_option maxHeartbeats 4000000
theorem ans9_more (tb sb wb:Nat) (w:World) (x:Item) (op:Int) (p:Pkt) (kind left:Int) (codes:ByteArray) (kept:Option Nat) (done ses:Value)
  (hw:w.heap[wb]? = some (.cells (waitC op p kind left codes kept done).toArray 110 (0,0)))
  (hs:w.heap[sb]? = some (.cells [ses,bxV wb].toArray 105 (0,0))) (hk:x.kind=9) (hl:left - 1 ≠ 0) (h1:1<=left) (h2:left<=100000) :
  Calls Tryz.prog 43 #[.pointer (some ⟨tb,0,none⟩),.pointer (some ⟨sb,0,none⟩),.agg x.cells.toArray] w fun e w'=>e = .returned (.tuple #[])/\w'=(boxW w x).setCell ⟨wb,27,none⟩ (.int .i64 (left - 1)):=by
 obtain ⟨W,hW⟩:∃ W,boxW w x=W:=⟨_,rfl⟩;have hb:=boxW_low w x;rw [hW] at hb;have hx:=heap_alloc_new w (.cells x.cells.toArray 44);rw [show w.alloc (.cells x.cells.toArray 44)=W from hW] at hx;obtain ⟨c0,-,-⟩:=item_33 hx;rw [hk] at c0;have hw':=(hb.block wb (Array.getElem?_eq_some_iff.1 hw).1).trans hw;have hs':=(hb.block sb (Array.getElem?_eq_some_iff.1 hs).1).trans hs;obtain ⟨c27,c29,c30,f27⟩:=wait_cells hw';have c1:W.cell? ⟨sb,1,none⟩=some (.pointer (some ⟨wb,0,none⟩)):=by rw [cell_of_row _ _ 1 _ _ _ hs'];rfl
 have hwr:IntKind.i64.wrap (left - 1)=left - 1:=w_i64 _ (by omega) (by omega);have hd:(left - 1 == 0)=false:=by simpa using hl
 have hx9:=wait_left hw' (left - 1);obtain ⟨d27,-,-,-⟩:=wait_cells hx9;have HW:=hyd (show w.alloc (.cells x.cells.toArray 44)=W from hW);have HD:=hyd d27;have HWE:=hyd hW;clear hb hx hk hw hs hw' hs' hW hl h1 h2 hx9 d27;generalize x.cells=IL at *
 go_enter Tryz.func43, Tryz.ntmps43
 go_upto_region 1 with fail
 rw [HW.out]
 go_upto_region 12 with fail
 have d27:=HD.out;clear c27 c29 c30 f27 c0
 go_wp2_with fail
 go_end0
 rw [HWE.out];exact ⟨rfl,rfl⟩
theorem ans9_att (tb sb wb b1 b2 b3:Nat) (w:World) (x:Item) (op:Int) (p:Pkt) (kind left:Int) (codes:ByteArray) (kept:Option Nat) (ses:Value) (Q:World->Prop)
  (hw:w.heap[wb]? = some (.cells (waitC op p kind left codes kept (.func (.func 190) #[] #[bxV b1,bxV b2,bxV b3])).toArray 110 (0,0)))
  (hs:w.heap[sb]? = some (.cells [ses,bxV wb].toArray 105 (0,0))) (hne:wb ≠ sb) (hk:x.kind=9) (hl:left - 1=0)
  (hc:Calls Tryz.prog 190 #[.pointer (some ⟨tb,0,none⟩),bxV b1,bxV b2,bxV b3] (((boxW w x).setCell ⟨wb,27,none⟩ (.int .i64 (left - 1))).setCell ⟨sb,1,none⟩ (.pointer none)) fun e w'=>e = .returned (.tuple #[])/\Q w') :
  Calls Tryz.prog 43 #[.pointer (some ⟨tb,0,none⟩),.pointer (some ⟨sb,0,none⟩),.agg x.cells.toArray] w fun e w'=>e = .returned (.tuple #[])/\Q w':=by
 obtain rfl:left=1:=by omega
 obtain ⟨W,hW⟩:∃ W,boxW w x=W:=⟨_,rfl⟩;have hb:=boxW_low w x;rw [hW] at hb hc;have hx:=heap_alloc_new w (.cells x.cells.toArray 44);rw [show w.alloc (.cells x.cells.toArray 44)=W from hW] at hx;obtain ⟨c0,-,-⟩:=item_33 hx;rw [hk] at c0;have hw':=(hb.block wb (Array.getElem?_eq_some_iff.1 hw).1).trans hw;have hs':=(hb.block sb (Array.getElem?_eq_some_iff.1 hs).1).trans hs;obtain ⟨c27,-,-,f27⟩:=wait_cells hw';have c1:W.cell? ⟨sb,1,none⟩=some (.pointer (some ⟨wb,0,none⟩)):=by rw [cell_of_row _ _ 1 _ _ _ hs'];rfl
 have hx9:=wait_left hw' 0;obtain ⟨d27,-,d30,-⟩:=wait_cells hx9;have hs9:(W.setCell ⟨wb,27,none⟩ (.int .i64 0)).heap[sb]? = _:=(heap_setCell_other W ⟨wb,27,none⟩ _ _ (fun e=>hne e.symm)).trans hs';have e1:(W.setCell ⟨wb,27,none⟩ (.int .i64 0)).cell? ⟨sb,1,none⟩=some (.pointer (some ⟨wb,0,none⟩)):=by rw [cell_of_row _ _ 1 _ _ _ hs9];rfl
 have g1:=frozen_of_row _ _ 1 _ _ hs9;have hwA:((W.setCell ⟨wb,27,none⟩ (.int .i64 0)).setCell ⟨sb,1,none⟩ (.pointer none)).heap[wb]? = _:=(heap_setCell_other (W.setCell ⟨wb,27,none⟩ (.int .i64 0)) ⟨sb,1,none⟩ _ _ (fun e=>hne e)).trans hx9;obtain ⟨-,-,a30,-⟩:=wait_cells hwA;have HW:=hyd (show w.alloc (.cells x.cells.toArray 44)=W from hW);have HD27:=hyd d27;have HE1:=hyd e1;have HG1:=hyd g1;have HA30:=hyd a30;have HC:=hyd hc;clear hb hx hk hw hs hw' hs' hW hl hx9 d27 d30 hs9 e1 g1 hwA a30 hne hc;generalize x.cells=IL at *
 go_enter Tryz.func43, Tryz.ntmps43
 go_upto_region 1 with fail
 rw [HW.out]
 go_upto_region 12 with fail
 have d27:=HD27.out;have e1:=HE1.out;have g1:=HG1.out;clear c27 f27 c0 c1;rw [show ((1:Int) - 1)=0 from rfl] at *
 go_upto_region 14 with fail
 have a30:=HA30.out;clear d27 e1 g1
 go_wp2_with fail
 refine HC.out.mono ?_;rintro e w2 ⟨rfl,hq⟩
 go_wp2_with fail
 go_end0
 exact ⟨rfl,hq⟩
theorem ans9_uns (tb sb wb b1:Nat) (w:World) (x:Item) (op:Int) (p:Pkt) (kind left:Int) (codes:ByteArray) (kept:Option Nat) (ses:Value) (Q:World->Prop)
  (hw:w.heap[wb]? = some (.cells (waitC op p kind left codes kept (.func (.func 122) #[] #[bxV b1])).toArray 110 (0,0)))
  (hs:w.heap[sb]? = some (.cells [ses,bxV wb].toArray 105 (0,0))) (hne:wb ≠ sb) (hk:x.kind=9) (hl:left - 1=0)
  (hc:Calls Tryz.prog 122 #[.pointer (some ⟨tb,0,none⟩),bxV b1] (((boxW w x).setCell ⟨wb,27,none⟩ (.int .i64 (left - 1))).setCell ⟨sb,1,none⟩ (.pointer none)) fun e w'=>e = .returned (.tuple #[])/\Q w') :
  Calls Tryz.prog 43 #[.pointer (some ⟨tb,0,none⟩),.pointer (some ⟨sb,0,none⟩),.agg x.cells.toArray] w fun e w'=>e = .returned (.tuple #[])/\Q w':=by
 obtain rfl:left=1:=by omega
 obtain ⟨W,hW⟩:∃ W,boxW w x=W:=⟨_,rfl⟩;have hb:=boxW_low w x;rw [hW] at hb hc;have hx:=heap_alloc_new w (.cells x.cells.toArray 44);rw [show w.alloc (.cells x.cells.toArray 44)=W from hW] at hx;obtain ⟨c0,-,-⟩:=item_33 hx;rw [hk] at c0;have hw':=(hb.block wb (Array.getElem?_eq_some_iff.1 hw).1).trans hw;have hs':=(hb.block sb (Array.getElem?_eq_some_iff.1 hs).1).trans hs;obtain ⟨c27,-,-,f27⟩:=wait_cells hw';have c1:W.cell? ⟨sb,1,none⟩=some (.pointer (some ⟨wb,0,none⟩)):=by rw [cell_of_row _ _ 1 _ _ _ hs'];rfl
 have hx9:=wait_left hw' 0;obtain ⟨d27,-,d30,-⟩:=wait_cells hx9;have hs9:(W.setCell ⟨wb,27,none⟩ (.int .i64 0)).heap[sb]? = _:=(heap_setCell_other W ⟨wb,27,none⟩ _ _ (fun e=>hne e.symm)).trans hs';have e1:(W.setCell ⟨wb,27,none⟩ (.int .i64 0)).cell? ⟨sb,1,none⟩=some (.pointer (some ⟨wb,0,none⟩)):=by rw [cell_of_row _ _ 1 _ _ _ hs9];rfl
 have g1:=frozen_of_row _ _ 1 _ _ hs9;have hwA:((W.setCell ⟨wb,27,none⟩ (.int .i64 0)).setCell ⟨sb,1,none⟩ (.pointer none)).heap[wb]? = _:=(heap_setCell_other (W.setCell ⟨wb,27,none⟩ (.int .i64 0)) ⟨sb,1,none⟩ _ _ (fun e=>hne e)).trans hx9;obtain ⟨-,-,a30,-⟩:=wait_cells hwA;have HW:=hyd (show w.alloc (.cells x.cells.toArray 44)=W from hW);have HD27:=hyd d27;have HE1:=hyd e1;have HG1:=hyd g1;have HA30:=hyd a30;have HC:=hyd hc;clear hb hx hk hw hs hw' hs' hW hl hx9 d27 d30 hs9 e1 g1 hwA a30 hne hc;generalize x.cells=IL at *
 go_enter Tryz.func43, Tryz.ntmps43
 go_upto_region 1 with fail
 rw [HW.out]
 go_upto_region 12 with fail
 have d27:=HD27.out;have e1:=HE1.out;have g1:=HG1.out;clear c27 f27 c0 c1;rw [show ((1:Int) - 1)=0 from rfl] at *
 go_upto_region 14 with fail
 have a30:=HA30.out;clear d27 e1 g1
 go_wp2_with fail
 refine HC.out.mono ?_;rintro e w2 ⟨rfl,hq⟩
 go_wp2_with fail
 go_end0
 exact ⟨rfl,hq⟩
theorem ans9_fin (tb sb wb b1 b2:Nat) (w:World) (x:Item) (op:Int) (p:Pkt) (kind left:Int) (codes:ByteArray) (kept:Option Nat) (ses:Value) (Q:World->Prop)
  (hw:w.heap[wb]? = some (.cells (waitC op p kind left codes kept (.func (.func 111) #[] #[bxV b1,bxV b2])).toArray 110 (0,0)))
  (hs:w.heap[sb]? = some (.cells [ses,bxV wb].toArray 105 (0,0))) (hne:wb ≠ sb) (hk:x.kind=9) (hl:left - 1=0)
  (hc:Calls Tryz.prog 111 #[.pointer (some ⟨tb,0,none⟩),bxV b1,bxV b2] (((boxW w x).setCell ⟨wb,27,none⟩ (.int .i64 (left - 1))).setCell ⟨sb,1,none⟩ (.pointer none)) fun e w'=>e = .returned (.tuple #[])/\Q w') :
  Calls Tryz.prog 43 #[.pointer (some ⟨tb,0,none⟩),.pointer (some ⟨sb,0,none⟩),.agg x.cells.toArray] w fun e w'=>e = .returned (.tuple #[])/\Q w':=by
 obtain rfl:left=1:=by omega
 obtain ⟨W,hW⟩:∃ W,boxW w x=W:=⟨_,rfl⟩;have hb:=boxW_low w x;rw [hW] at hb hc;have hx:=heap_alloc_new w (.cells x.cells.toArray 44);rw [show w.alloc (.cells x.cells.toArray 44)=W from hW] at hx;obtain ⟨c0,-,-⟩:=item_33 hx;rw [hk] at c0;have hw':=(hb.block wb (Array.getElem?_eq_some_iff.1 hw).1).trans hw;have hs':=(hb.block sb (Array.getElem?_eq_some_iff.1 hs).1).trans hs;obtain ⟨c27,-,-,f27⟩:=wait_cells hw';have c1:W.cell? ⟨sb,1,none⟩=some (.pointer (some ⟨wb,0,none⟩)):=by rw [cell_of_row _ _ 1 _ _ _ hs'];rfl
 have hx9:=wait_left hw' 0;obtain ⟨d27,-,d30,-⟩:=wait_cells hx9;have hs9:(W.setCell ⟨wb,27,none⟩ (.int .i64 0)).heap[sb]? = _:=(heap_setCell_other W ⟨wb,27,none⟩ _ _ (fun e=>hne e.symm)).trans hs';have e1:(W.setCell ⟨wb,27,none⟩ (.int .i64 0)).cell? ⟨sb,1,none⟩=some (.pointer (some ⟨wb,0,none⟩)):=by rw [cell_of_row _ _ 1 _ _ _ hs9];rfl
 have g1:=frozen_of_row _ _ 1 _ _ hs9;have hwA:((W.setCell ⟨wb,27,none⟩ (.int .i64 0)).setCell ⟨sb,1,none⟩ (.pointer none)).heap[wb]? = _:=(heap_setCell_other (W.setCell ⟨wb,27,none⟩ (.int .i64 0)) ⟨sb,1,none⟩ _ _ (fun e=>hne e)).trans hx9;obtain ⟨-,-,a30,-⟩:=wait_cells hwA;have HW:=hyd (show w.alloc (.cells x.cells.toArray 44)=W from hW);have HD27:=hyd d27;have HE1:=hyd e1;have HG1:=hyd g1;have HA30:=hyd a30;have HC:=hyd hc;clear hb hx hk hw hs hw' hs' hW hl hx9 d27 d30 hs9 e1 g1 hwA a30 hne hc;generalize x.cells=IL at *
 go_enter Tryz.func43, Tryz.ntmps43
 go_upto_region 1 with fail
 rw [HW.out]
 go_upto_region 12 with fail
 have d27:=HD27.out;have e1:=HE1.out;have g1:=HG1.out;clear c27 f27 c0 c1;rw [show ((1:Int) - 1)=0 from rfl] at *
 go_upto_region 14 with fail
 have a30:=HA30.out;clear d27 e1 g1
 go_wp2_with fail
 refine HC.out.mono ?_;rintro e w2 ⟨rfl,hq⟩
 go_wp2_with fail
 go_end0
 exact ⟨rfl,hq⟩
end
section
open Go Go.RowKit Go.Maps
set_option maxRecDepth 100000
set_option maxHeartbeats 4000000
theorem ans4 (tb sb wb b1 b2 b3 b4:Nat) (w:World) (x:Item) (op:Int) (p:Pkt) (kind left:Int) (codes:ByteArray) (kept:Option Nat) (ses:Value) (Q:World->Prop)
  (hw:w.heap[wb]? = some (.cells (waitC op p kind left codes kept (.func (.func 104) #[] #[bxV b1,bxV b2,bxV b3,bxV b4])).toArray 110 (0,0)))
  (hs:w.heap[sb]? = some (.cells [ses,bxV wb].toArray 105 (0,0))) (hk:x.kind=4)
  (hc:Calls Tryz.prog 104 #[.pointer (some ⟨tb,0,none⟩),bxV b1,bxV b2,bxV b3,bxV b4] ((boxW w x).setCell ⟨wb,27,none⟩ (.int .i64 x.many)) fun e w'=>e = .returned (.tuple #[])/\Q w') :
  Calls Tryz.prog 43 #[.pointer (some ⟨tb,0,none⟩),.pointer (some ⟨sb,0,none⟩),.agg x.cells.toArray] w fun e w'=>e = .returned (.tuple #[])/\Q w':=by
 obtain ⟨W,hW⟩:∃ W,boxW w x=W:=⟨_,rfl⟩;have hb:=boxW_low w x;rw [hW] at hb hc;have hx:=heap_alloc_new w (.cells x.cells.toArray 44);rw [show w.alloc (.cells x.cells.toArray 44)=W from hW] at hx;obtain ⟨c0,-,c37⟩:=item_33 hx;rw [hk] at c0;have hw':=(hb.block wb (Array.getElem?_eq_some_iff.1 hw).1).trans hw;have hs':=(hb.block sb (Array.getElem?_eq_some_iff.1 hs).1).trans hs;obtain ⟨c27,-,-,f27⟩:=wait_cells hw';have c1:W.cell? ⟨sb,1,none⟩=some (.pointer (some ⟨wb,0,none⟩)):=by rw [cell_of_row _ _ 1 _ _ _ hs'];rfl
 have hx9:=wait_left hw' x.many;obtain ⟨-,-,d30,-⟩:=wait_cells hx9;have HW:=hyd (show w.alloc (.cells x.cells.toArray 44)=W from hW);have HD30:=hyd d30;have HC:=hyd hc;clear hb hx hk hw hs hw' hs' hW hx9 d30 hc;generalize x.cells=IL at *
 go_enter Tryz.func43, Tryz.ntmps43
 go_upto_region 1 with fail
 rw [HW.out]
 go_upto_region 4 with fail
 have d30:=HD30.out;clear c27 f27 c0 c1 c37
 go_wp2_with fail
 refine HC.out.mono ?_;rintro e w2 ⟨rfl,hq⟩
 go_wp2_with fail
 (try simp only [Exit.inBlock,Exit.then])
 refine bodyPost_ret (results_none rfl _ _ _) rfl ?_;exact ⟨rfl,hq⟩
theorem ans8 (tb sb wb kb b1 b2 b3:Nat) (w:World) (x:Item) (op:Int) (p:Pkt) (left:Int) (codes:ByteArray) (kept:List Msg) (ses:Value) (Q:World->Prop)
  (hw:w.heap[wb]? = some (.cells (waitC op p 8 left codes (some kb) (.func (.func 115) #[] #[bxV b1,bxV b2,bxV b3])).toArray 110 (0,0)))
  (hs:w.heap[sb]? = some (.cells [ses,bxV wb].toArray 105 (0,0))) (hne:wb ≠ sb) (hkw:kb ≠ wb) (hks:kb ≠ sb) (hk:x.kind=8) (h1:1<=left) (h2:left<=100000)
  (hkp:(keptPc kb kept).R w) (hkl:kept.length<=1000000) (hms:Beside w [kb] x.msA (msgs x.ms)) (hml:x.ms.length<=100) (hmo:∀ m ∈ x.ms,MsOk m)
  (hc:∀ X,(keptPc kb (x.ms.foldl (fun l m=>put m l) kept)).R X->Mod [kb] w X->(left - 1 ≠ 0->Q (X.setCell ⟨wb,27,none⟩ (.int .i64 (left - 1)))) ∧
   (left - 1=0->Calls Tryz.prog 115 #[.pointer (some ⟨tb,0,none⟩),bxV b1,bxV b2,bxV b3] ((X.setCell ⟨wb,27,none⟩ (.int .i64 (left - 1))).setCell ⟨sb,1,none⟩ (.pointer none)) fun e w'=>e = .returned (.tuple #[])/\Q w')) :
  Calls Tryz.prog 43 #[.pointer (some ⟨tb,0,none⟩),.pointer (some ⟨sb,0,none⟩),.agg x.cells.toArray] w fun e w'=>e = .returned (.tuple #[])/\Q w':=by
 obtain ⟨W,hW⟩:∃ W,boxW w x=W:=⟨_,rfl⟩;have hb:=boxW_low w x;rw [hW] at hb;have hx:=heap_alloc_new w (.cells x.cells.toArray 44);rw [show w.alloc (.cells x.cells.toArray 44)=W from hW] at hx;obtain ⟨c0,c33,-⟩:=item_33 hx;rw [hk] at c0;have hsw:=(Array.getElem?_eq_some_iff.1 hw).1;have hss:=(Array.getElem?_eq_some_iff.1 hs).1;have hwr:IntKind.i64.wrap (left - 1)=left - 1:=w_i64 _ (by omega) (by omega);obtain ⟨KP,hKP⟩:∃ KP:Nat->List Msg,∀ k,(x.ms.take k).foldl (fun l m=>put m l) kept=KP k:=⟨_,fun _=>rfl⟩;have hKP0:KP 0=kept:=by rw [<- hKP];rfl
 have hKPs:∀ k (hk:k < x.ms.length),KP (k+1)=put x.ms[k] (KP k):=fun k hk=>by
  rw [<- hKP,<- hKP,List.take_succ_eq_append_getElem hk,List.foldl_append]
  rfl
 have hKPe:KP x.ms.length=x.ms.foldl (fun l m=>put m l) kept:=by rw [<- hKP,List.take_length]
 rw [<- hKPe] at hc
 have HF:=hyd (fun X (hX:Mod [kb] w X)=>show X.cell? ⟨sb,1,none⟩=some (.pointer (some ⟨wb,0,none⟩))/\X.heap[wb]? = some (.cells (waitC op p 8 left codes (some kb) (.func (.func 115) #[] #[bxV b1,bxV b2,bxV b3])).toArray 110 (0,0))/\X.heap[sb]? = some (.cells [ses,bxV wb].toArray 105 (0,0))/\Row X x.msA (msgs x.ms) from by
  have e1:=(hX.block sb hss (fun e=>hks (List.mem_singleton.1 e).symm)).trans hs;have e2:=(hX.block wb hsw (fun e=>hkw (List.mem_singleton.1 e).symm)).trans hw
  exact ⟨by rw [cell_of_row _ _ 1 _ _ _ e1];rfl,e2,e1,(hms.upd (F':=[kb]) ⟨hX,fun k hk => .inl hk⟩).row⟩)
 have HKP0:Hid ((keptPc kb (KP 0)).R W):=hyd (by
  rw [hKP0];obtain ⟨D,d1,d2⟩:=hkp
  exact ⟨D,owns_keep d1 (hb.block kb d1.lt),d2⟩)
 have HM0:Hid (Mod [kb] w W):=hyd (Mod.of_below hb _);have HKL:Hid ((KP 0).length<=1000000):=hyd (by rw [hKP0];exact hkl);have HKS:=hyd hKPs;have HMO:=hyd (fun k (hk:k < x.ms.length)=>hmo _ (List.getElem_mem hk));have HX0:Hid (W.heap[w.heap.size]? = some (.cells x.cells.toArray 44 (0,0))):=hyd hx;have hkb:kb < w.heap.size:=by obtain ⟨D,d1,d2⟩:=hkp;exact d1.lt
 have HKB:=hyd hkb;have HHB:=hyd hb;have HML:=hyd hml;have HC:=hyd hc;have HNE:=hyd hne;have HH:=hyd (And.intro h1 h2);have HWR:=hyd hwr;have HW:=hyd (show w.alloc (.cells x.cells.toArray 44)=W from hW);clear hb hx hk hw hs hW hc hne hkw hks hkp hkl hms hml hmo hsw hss hKP hKP0 hKPs hKPe hkb h1 h2 hwr;generalize x.cells=IL at *;generalize x.ms=ms at *;generalize x.msA=ma at *;generalize x.msC=mc at *;have c1:=(HF.out W HM0.out).1
 go_enter Tryz.func43, Tryz.ntmps43
 go_upto_region 1 with fail
 rw [HW.out]
 go_wp2_with fail
 go_loopw [8,33] (fun _ i wr => ∃ (k:Nat),i = .int .i64 k/\k<=ms.length/\(KP k).length<=1000000+k/\(keptPc kb (KP k)).R wr/\Mod [kb] w wr) (fun _ i _=>(ms.length - intOf i).toNat)
 case atStart=>exact ⟨0,rfl,Nat.zero_le _,HKL.out,HKP0.out,HM0.out⟩
 case round =>
  obtain ⟨k,rfl,hk,hkn,hkp,hm⟩:=hrel;have HKN:=hyd hkn;have HKP:=hyd hkp;have HMR:=hyd hm;clear hkp hm hkn c0 c1 c33 HKP0 HM0 HKL;obtain ⟨c1,hwr',-,hrw⟩:=HF.out wr HMR.out
  by_cases hlt:k < ms.length
  ·have hk0:(0:Int)<=k:=by omega
   have hkl:(k:Int) < ms.length:=by omega
   obtain ⟨rb,off,rfl,r0,r1,r2,r3⟩:=msgs_row hrw (k:=k) (m:=ms[k]) (by simp [hlt]);have HKSk:=hyd (HKS.out k hlt);have HMOk:=hyd (HMO.out k hlt);generalize ms[k]=m at *;obtain ⟨mt,mp,mq,mr⟩:=m;dsimp only at *;have hw1:IntKind.i64.wrap ((k:Int)+1)=(k:Int)+1:=w_i64 _ (by omega) (by have:=HML.out;omega);clear hrw hwr' c1
   go_upto_region 9 with fail
   clear r0 r1 r2 r3;have hbx:=low_alloc wr (.cells #[Value.string mt,Value.string mp,.int .u8 mq,.bool mr] 36);have hxb:(wr.alloc (.cells #[Value.string mt,Value.string mp,.int .u8 mq,.bool mr] 36)).heap[wr.heap.size]? = some (.cells [Value.string mt,Value.string mp,.int .u8 mq,.bool mr].toArray 36 (0,0)):=heap_alloc_new wr _;have HM2:=hyd (HMR.out.next hbx);obtain ⟨D,hown0,hhas⟩:=HKP.out;have hown2:(wr.alloc (.cells #[Value.string mt,Value.string mp,.int .u8 mq,.bool mr] 36)).drew.ownsMap Tryz.prog 9 msgElem kb (Maps.size D) D:=owns_keep hown0 (hbx.block kb hown0.lt);have hsz:Maps.size D < maxLen:=by have:=hhas.1;have:=HKN.out;have:=HML.out;unfold maxLen;omega
   have hkey:=WideMaps.keyOf_string_mk (s:=mt) Tryz.underlying9 (by have h9:mt.size<=1000:=HMOk.out.1;unfold maxLen;omega);have HTD:=hyd (hown0.tidy kS);have HHS:=hyd hhas;obtain ⟨c1,hw2,-,-⟩:=HF.out _ HM2.out;obtain ⟨-,c29,-,-⟩:=wait_cells hw2;obtain ⟨s0,s1,s2,s3⟩:=cells4 hxb;clear hbx hxb hown0 hhas hw2;generalize wr.alloc (.cells #[Value.string mt,Value.string mp,.int .u8 mq,.bool mr] 36)=w2 at *;generalize wr.heap.size=bm at *
   go_still_tail 7,(by kernel_rfl)
   change wpList _ _ _ _ _ w2.drew
   go_wp2_with (first | (at_mapUpdate;refine wpList_mapUpdate_own _ rfl _ _ _ 107 rfl 9 36 kS Tryz.underlying107 _ kb _ _ rfl hown2 hsz _ _ _ rfl rfl hkey _ [] (msgElem_mk ⟨mt,mp,mq,mr⟩) ?_;intro w3 hown3 hgr3;have HO3:=hyd hown3;have HG3:=hyd hgr3;clear hown3 hgr3) | fail)
   go_roundw
   case rel =>
    have hu:=HHS.out.put HTD.out ⟨mt,mp,mq,mr⟩;have hlp:=len_put (m:=⟨mt,mp,mq,mr⟩) HHS.out.2.2.2;refine ⟨k+1,by go_num,by omega,?_,?_,(HM2.out.drew).grown HG3.out (fun q hq=>by cases hq;left;simp)⟩
    ·rw [HKSk.out,hlp]
     have:=HKN.out
     split <;> omega
    ·rw [HKSk.out]
     exact ⟨_,owns_tightM HO3.out,hu⟩
   case measure=>simp [intOf];omega
  ·have hkl:¬ (k:Int) < ms.length:=by omega
   obtain rfl:k=ms.length:=by omega
   obtain ⟨h1,h2⟩:=HH.out;have hwr:=HWR.out;obtain ⟨-,hwr',hsr',-⟩:=HF.out wr HMR.out;obtain ⟨c27,-,-,f27⟩:=wait_cells hwr';obtain ⟨hc1,hc2⟩:=HC.out wr HKP.out HMR.out
   by_cases hl:left - 1=0
   ·replace hc2:=hc2 hl
    obtain rfl:left=1:=by omega
    rw [show ((1:Int) - 1)=0 from rfl] at hc2;have HC2:=hyd hc2;have hx9:=wait_left hwr' 0;obtain ⟨d27,-,d30,-⟩:=wait_cells hx9;have HD27:=hyd d27;have hs9:(wr.setCell ⟨wb,27,none⟩ (.int .i64 0)).heap[sb]? = _:=(heap_setCell_other wr ⟨wb,27,none⟩ _ _ (fun e=>HNE.out e.symm)).trans hsr';have e1:(wr.setCell ⟨wb,27,none⟩ (.int .i64 0)).cell? ⟨sb,1,none⟩=some (.pointer (some ⟨wb,0,none⟩)):=by rw [cell_of_row _ _ 1 _ _ _ hs9];rfl
    have g1:=frozen_of_row _ _ 1 _ _ hs9;have hwA:((wr.setCell ⟨wb,27,none⟩ (.int .i64 0)).setCell ⟨sb,1,none⟩ (.pointer none)).heap[wb]? = _:=(heap_setCell_other (wr.setCell ⟨wb,27,none⟩ (.int .i64 0)) ⟨sb,1,none⟩ _ _ (fun e=>HNE.out e)).trans hx9;obtain ⟨-,-,a30,-⟩:=wait_cells hwA;have HE1:=hyd e1;have HG1:=hyd g1;have HA30:=hyd a30;clear hc1 hc2 hwr' hsr' hx9 d27 d30 hs9 e1 g1 hwA a30 hrw hl h1 h2 hwr
    go_upto_region 12 with fail
    have d27:=HD27.out;have e1:=HE1.out;have g1:=HG1.out;clear c27 f27 c1;rw [show ((1:Int) - 1)=0 from rfl] at *
    go_upto_region 14 with fail
    have a30:=HA30.out;clear d27 e1 g1
    go_wp2_with fail
    refine HC2.out.mono ?_;rintro e w2 ⟨rfl,hq⟩
    go_wp2_with fail
    go_end0
    exact ⟨rfl,hq⟩
   ·have HC1:=hyd (hc1 hl)
    have hl0:(left - 1 == 0)=false:=by simpa using hl
    have hx9:=wait_left hwr' (left - 1);obtain ⟨d27,-,d30,-⟩:=wait_cells hx9;have HD27:=hyd d27;clear hc1 hc2 hwr' hsr' hx9 d27 d30 hrw
    go_upto_region 12 with fail
    have d27:=HD27.out;clear c27 f27 c1 hwr
    go_wp2_with fail
    go_end0
    exact ⟨rfl,HC1.out⟩
end
section
open Go Go.RowKit Go.Maps
section
variable {c:HCfg} {ad:HAd} {w w':World} {tb:Nat} {t:Tn} {v:TnV} {E F:List Nat} {cl:ByteArray} {z:HSeat} {k k':Wk} {left left':Int}
theorem setS_names {z':HSeat} (hz:z'.s.client=cl):(t.setS cl z').seats.map (·.s.client)=t.seats.map (·.s.client):=by
 unfold Tn.setS;rw [List.map_map];refine List.map_congr_left fun y _ => ?_
 simp only [Function.comp]
 split
 ·rename_i e;rw [hz,e]
 ·rfl
theorem seat_parts (hzc:z.s.client=cl) (hbz:z.busy=some (k,left)) (v1:SeV):seatPcs c ad v1 z = [cellPc (ad.seat cl) [bxV (ad.sess cl),bxV v1.wb] 105, sesPc (ad.sess cl) z.s c.win c.most v1.F]++wkPcs v1 k left:=by
 unfold seatPcs;rw [hzc,hbz]
 rfl
theorem TurnP.busyTurn (h:TurnP c ad w tb t v E) (hnd:(t.seats.map (·.s.client)).Nodup) (h0:t.seat cl=some z) (hbz:z.busy=some (k,left)) (hl:Lies w' (wkPcs (v.sv cl) k' left')) (hu:Upd (feet (wkPcs (v.sv cl) k left)) (feet (wkPcs (v.sv cl) k' left')) w w')
  (hc:∀ F',Caught w' F' ad (v.sv cl) z k->Caught w' F' ad (v.sv cl) ⟨z.s,some (k',left')⟩ k') :
  TurnP c ad w' tb (t.setS cl ⟨z.s,some (k',left')⟩) { v with sv:=SeV.put v.sv cl (v.sv cl) } E/\Upd (feet (pcs c ad tb v t)) (feet (pcs c ad tb { v with sv:=SeV.put v.sv cl (v.sv cl) } (t.setS cl ⟨z.s,some (k',left')⟩))) w w':=by
 have hzc:z.s.client=cl:=(seat_at h0).2;have hS:=h.seatLies hnd h0;have e0:=seat_parts (c:=c) (ad:=ad) hzc hbz (v.sv cl);have e1:=seat_parts (c:=c) (ad:=ad) (z:=⟨z.s,some (k',left')⟩) hzc rfl (v.sv cl);rw [e0,<- List.append_nil (wkPcs (v.sv cl) k left)] at hS;have ht:=hS.turn hl hu;refine h.setSeat hnd h0 hzc (by rw [e1];have:=ht.1;rw [List.append_nil] at this;exact this) (by rw [e0,e1];have:=ht.2;rw [List.append_nil,List.append_nil] at this;exact this) (fun F' hu' k1 left1 hk => ?_)
 cases hk
 have h5:=(h.caught z (seat_at h0).1 k left hbz).upd hu';rw [hzc] at h5;exact hc F' h5
theorem TurnP.freed (h:TurnP c ad w tb t v E) (hnd:(t.seats.map (·.s.client)).Nodup) (h0:t.seat cl=some z) (hbz:z.busy=some (k,left)) :
  ∀ q ∈ feet (wkPcs (v.sv cl) k left),q ∉ feet (pcs c ad tb { v with sv:=SeV.put v.sv cl (v.sv cl) } (t.setS cl ⟨z.s,none⟩)):=by
 have hzc:z.s.client=cl:=(seat_at h0).2;obtain ⟨A,B,e0,e1⟩:=pcs_split (c:=c) (ad:=ad) (tb:=tb) (v:=v) hnd h0;have e2:=e1 (v.sv cl) ⟨z.s,none⟩ hzc;have hL:=h.lies;rw [e0,seat_parts (c:=c) (ad:=ad) hzc hbz (v.sv cl)] at hL
 have en:seatPcs c ad (v.sv cl) ⟨z.s,none⟩ = [cellPc (ad.seat cl) [bxV (ad.sess cl),.pointer none] 105, sesPc (ad.sess cl) z.s c.win c.most (v.sv cl).F]:=by
  unfold seatPcs;dsimp only;rw [hzc];rfl
 rw [e2,en];generalize wkPcs (v.sv cl) k left=WK at *
 have hp:(A++(([cellPc (ad.seat cl) [bxV (ad.sess cl),bxV (v.sv cl).wb] 105, sesPc (ad.sess cl) z.s c.win c.most (v.sv cl).F]++WK)++B)).Perm ((A++([cellPc (ad.seat cl) [bxV (ad.sess cl),bxV (v.sv cl).wb] 105, sesPc (ad.sess cl) z.s c.win c.most (v.sv cl).F]++B))++WK):=by
  simp only [List.append_assoc,List.cons_append,List.nil_append];exact List.Perm.append_left A (List.Perm.cons _ (List.Perm.cons _ List.perm_append_comm))
 have hoff:=off_feet.1 (List.pairwise_append.1 (hL.perm hp).off).2.2;intro q hq hq';refine hoff q ?_ hq;simp only [feet_app] at hq' ⊢;exact hq'
theorem TurnAt.busyAt (h:TurnAt c ad w tb t E F) (hnd:(t.seats.map (·.s.client)).Nodup) (h0:t.seat cl=some z) (hbz:z.busy=some (k,left)) :
  ∃ v1:SeV,w.heap[ad.seat cl]? = some (.cells [bxV (ad.sess cl),bxV v1.wb].toArray 105 (0,0))/\Lies w (wkPcs v1 k left)/\Caught w (E++F) ad v1 z k/\(∀ q ∈ feet (wkPcs v1 k left),q ∈ F/\q ≠ ad.seat cl) ∧
   ∀ w' k' left',Lies w' (wkPcs v1 k' left')->Upd (feet (wkPcs v1 k left)) (feet (wkPcs v1 k' left')) w w'->(∀ F',Caught w' F' ad v1 z k->Caught w' F' ad v1 ⟨z.s,some (k',left')⟩ k') →
    ∃ F',TurnAt c ad w' tb (t.setS cl ⟨z.s,some (k',left')⟩) E F'/\Upd F F' w w'/\Caught w' (E++F') ad v1 ⟨z.s,some (k',left')⟩ k' ∧
     ∃ F2,TurnAt c ad (w'.setCell ⟨ad.seat cl,1,none⟩ (.pointer none)) tb (t.setS cl ⟨z.s,none⟩) E F2/\Upd F' F2 w' (w'.setCell ⟨ad.seat cl,1,none⟩ (.pointer none)) /\ ∀ q ∈ feet (wkPcs v1 k' left'),q ∉ F2:=by
 obtain ⟨v,hP,rfl⟩:=h;have hzc:z.s.client=cl:=(seat_at h0).2;have hS:=hP.seatLies hnd h0;rw [seat_parts (c:=c) (ad:=ad) hzc hbz (v.sv cl)] at hS;have hcell:=hP.seatCell h0;rw [hbz] at hcell;have hca:=hP.caught z (seat_at h0).1 k left hbz;rw [hzc] at hca;refine ⟨v.sv cl,hcell,hS.right,hca,fun q hq=>⟨?_,fun e => ?_⟩,fun w' k' left' hl hu hc => ?_⟩
 ·obtain ⟨A,B,e0,-⟩:=pcs_split (c:=c) (ad:=ad) (tb:=tb) (v:=v) hnd h0
  rw [e0,seat_parts (c:=c) (ad:=ad) hzc hbz (v.sv cl)];simp only [feet_app];simp [hq]
 ·have hoff:=off_feet.1 (List.pairwise_append.1 hS.off).2.2
  exact hoff q (by rw [e];simp [feet,cellPc]) hq
 ·obtain ⟨h1,h2⟩:=hP.busyTurn hnd h0 hbz hl hu hc
  have hnd1:((t.setS cl ⟨z.s,some (k',left')⟩).seats.map (·.s.client)).Nodup:=by
   rw [setS_names (by exact hzc)];exact hnd
  have h01:(t.setS cl ⟨z.s,some (k',left')⟩).seat cl=some ⟨z.s,some (k',left')⟩:=seat_setS' h0 hzc;have ev:SeV.put v.sv cl (v.sv cl) cl=v.sv cl:=by simp [SeV.put]
  have hca1:Caught w' (E++feet (pcs c ad tb { v with sv:=SeV.put v.sv cl (v.sv cl) } (t.setS cl ⟨z.s,some (k',left')⟩))) ad (SeV.put v.sv cl (v.sv cl) z.s.client) ⟨z.s,some (k',left')⟩ k':=h1.caught ⟨z.s,some (k',left')⟩ (seat_at h01).1 k' left' rfl;rw [hzc,ev] at hca1;have h3:=h1.unbusy hnd1 h01;have h4:=h1.freed hnd1 h01 rfl;dsimp only at h3 h4;simp only [ev] at h3 h4;have e5:(t.setS cl ⟨z.s,some (k',left')⟩).setS cl ⟨z.s,none⟩=t.setS cl ⟨z.s,none⟩:=setS_twice (by exact hzc);rw [e5] at h3 h4;exact ⟨_,⟨_,h1,rfl⟩,h2,hca1,_,⟨_,h3.1,rfl⟩,h3.2,h4⟩
end
end
section
open Go Go.RowKit Go.Maps
def keptN:Wk->Nat
 | .sub _ _ kept=>kept.length
 | _=>0
theorem TDone.preU {c:HCfg} {ad:HAd} {tb:Nat} {E F F1:List Nat} {w w1 w':World} {T' T2:Tn} (h:TDone c ad tb E F1 w1 T' w') (hu:Upd F F1 w w1) (e:T'=T2):TDone c ad tb E F w T2 w':=by
 obtain ⟨F2,a,b⟩:=h;exact ⟨F2,e ▸ a,hu.trans' b⟩
theorem put_len1 (m:Msg) (l:List Msg) (h:Up l):(put m l).length<=l.length+1:=by
 rw [len_put h]
 split <;> omega
theorem puts_len:∀ (ms l:List Msg),Up l->(ms.foldl (fun l m=>put m l) l).length<=l.length+ms.length
 | [],l,_=>by simp
 | m :: r,l,h=>by
  have h1:=puts_len r (put m l) h.put;have h2:=put_len1 m l h;simp only [List.foldl_cons,List.length_cons];omega
set_option maxHeartbeats 1000000
theorem answered_any (w0:World) (hK:Keeps w0) (c:HCfg) (ad:HAd) (tb:Nat) (T:Tn) (E F:List Nat) (w:World) (cl:ByteArray) (z:HSeat) (k:Wk) (left:Int) (x:Item) (h:TurnAt c ad w tb T E F) (hB:Base w0 w F) (hok:HOk T) (hn1:1<=c.n) (hn2:c.n<=64) (h0:T.seat cl=some z) (hbz:z.busy=some (k,left)) (hkk:wkKind k=x.kind) (hk0:wkKind k ≠ 0)
  (hx:ItOk x) (hib:ItB w (E++F) x) (hkn:keptN k<=80000) (hn:T.mails.length+3000<=100000) (hnn:T.notes.length+keptN k+200<=100000) (hfl:T.flows.length<=100000) (ho0:0<=T.ops) (ho1:T.ops+1<=1000000) :
  Calls Tryz.prog 43 #[.pointer (some ⟨tb,0,none⟩),.pointer (some ⟨ad.seat cl,0,none⟩),.agg x.cells.toArray] w fun e w'=>e = .returned (.tuple #[])/\TDone c ad tb E F w (answeredT c z k left x T) w':=by
 have hzc:z.s.client=cl:=(seat_at h0).2;have hzk:=hok.seat z (seat_at h0).1;have hwk:=hzk.w k left hbz;have hnf:isFlow z.busy=false:=by rw [hbz];cases k <;> first | rfl | exact absurd rfl hk0
 have hok1:HOk (T.setS cl ⟨z.s,none⟩):=hok.set0 h0 hnf rfl (SeOk.idle hzk.s);have h1s:(T.setS cl ⟨z.s,none⟩).seat cl=some ⟨z.s,none⟩:=seat_setS' h0 hzc;have hl1:(T.setS cl ⟨z.s,none⟩).mails.length=T.mails.length/\(T.setS cl ⟨z.s,none⟩).notes.length=T.notes.length:=⟨rfl,rfl⟩;obtain ⟨v1,hse,hli,hca,hin,hturn⟩:=h.busyAt hok.nd h0 hbz;have hbw:=boxW_low w x;have hws:v1.wb ≠ ad.seat cl:=(hin v1.wb (by cases k <;> simp [wkPcs,feet,cellPc])).2
 cases k with
 | flow op=>exact absurd rfl hk0
 | close y old =>
  obtain ⟨y1,y2,y3,-⟩:=hwk;have hw:w.heap[v1.wb]? = some (.cells (waitC y.op pkZ 4 left ⟨#[]⟩ none (.func (.func 104) #[] #[bxV v1.b1,bxV v1.b2,bxV v1.b3,bxV v1.b4])).toArray 110 (0,0)):=hli.at' (cellPc v1.wb (wkC v1 (.close y old) left) 110) (by simp [wkPcs]);have hwb:=(hbw.block v1.wb (Array.getElem?_eq_some_iff.1 hw).1).trans hw;have hx1:=wait_left hwb x.many;have hm1:Mod [v1.wb] w ((boxW w x).setCell ⟨v1.wb,27,none⟩ (.int .i64 x.many)):=(Mod.of_below hbw [v1.wb]).setCell (.inl (by simp)) _;obtain ⟨F1,ht1,hu1,hc1,-⟩:=hturn _ (.close y old) x.many (lies_one (cellPc_ok _ _ _) hx1) ⟨hm1,fun q hq => .inl hq⟩ (fun F' h=>h);obtain ⟨s1,s2,s3,s4,s5⟩:=hc1;dsimp only at s1;rw [hzc] at s1;have e1:(T.setS cl ⟨z.s,some (.close y old,x.many)⟩).setS cl ⟨z.s,none⟩=T.setS cl ⟨z.s,none⟩:=setS_twice (by exact hzc);refine ans4 tb (ad.seat cl) v1.wb v1.b1 v1.b2 v1.b3 v1.b4 w x y.op pkZ 4 left ⟨#[]⟩ none (bxV (ad.sess cl)) _ hw hse (by rw [<- hkk];rfl) ?_;have hcc:=connect1_any w0 hK c ad tb _ E F1 _ cl ⟨z.s,some (.close y old,x.many)⟩ y old x.many v1.b1 v1.b2 v1.b3 v1.b4 v1.wb ht1 (hB.upd hu1) (by rw [setS_names (by exact hzc)];exact hok.nd) (by dsimp only;rw [e1];exact hok1) hn1 hn2 (seat_setS' h0 hzc) s1 s2 s3 s4 s5 hws (by rw [cell_of_row _ _ 27 _ _ _ hx1];rfl) y1 y2 hn (by show T.notes.length+_<=_;omega) hfl ho0 ho1;refine hcc.mono ?_;rintro e w' ⟨rfl,htd⟩
  refine ⟨rfl,htd.preU hu1 ?_⟩;unfold closedAtt answeredT;dsimp only;rw [hzc,e1]
 | att y pres =>
  have hw:w.heap[v1.wb]? = some (.cells (waitC y.op pkZ 9 left ⟨#[]⟩ none (.func (.func 190) #[] #[bxV v1.b1,bxV v1.b2,bxV v1.b3])).toArray 110 (0,0)):=hli.at' (cellPc v1.wb (wkC v1 (.att y pres) left) 110) (by simp [wkPcs]);have hwb:=(hbw.block v1.wb (Array.getElem?_eq_some_iff.1 hw).1).trans hw;have hx1:=wait_left hwb (left - 1);have hm1:Mod [v1.wb] w ((boxW w x).setCell ⟨v1.wb,27,none⟩ (.int .i64 (left - 1))):=(Mod.of_below hbw [v1.wb]).setCell (.inl (by simp)) _;obtain ⟨F1,ht1,hu1,hc1,F2,ht2,hu2,hno⟩:=hturn _ (.att y pres) (left - 1) (lies_one (cellPc_ok _ _ _) hx1) ⟨hm1,fun q hq => .inl hq⟩ (fun F' h=>h)
  by_cases hl:left - 1=0
  ·refine ans9_att tb (ad.seat cl) v1.wb v1.b1 v1.b2 v1.b3 w x y.op pkZ 9 left ⟨#[]⟩ none (bxV (ad.sess cl)) _ hw hse hws (by rw [<- hkk];rfl) hl ?_
   have hc2:=hca.upd ((hu1.trans' hu2).ext E);have hsub:∀ q ∈ F2,q ∈ E++F2:=fun q hq=>List.mem_append_right _ hq
   obtain ⟨s1,s2,s3,-⟩:=hc2;rw [hzc] at s2;have hcc:=attach1_any w0 hK c ad tb _ E F2 _ cl ⟨z.s,none⟩ y pres v1.b1 v1.b2 v1.b3 ht2 (hB.upd (hu1.trans' hu2)) hok1 hn1 hn2 h1s (s1.sub hsub) (s2.sub hsub) (s3.sub hsub) hwk.1 (by rw [hl1.1];omega) (by rw [hl1.2];omega);refine hcc.mono ?_;rintro e w' ⟨rfl,htd⟩;refine ⟨rfl,htd.preU (hu1.trans' hu2) ?_⟩;unfold answeredT;dsimp only [wkAdd];rw [if_pos hl,hzc]
   rfl
  ·refine (ans9_more tb (ad.seat cl) v1.wb w x y.op pkZ 9 left ⟨#[]⟩ none _ (bxV (ad.sess cl)) hw hse (by rw [<- hkk];rfl) hl hwk.2.2.2.1 hwk.2.2.2.2).mono ?_
   rintro e w' ⟨rfl,rfl⟩;refine ⟨rfl,F1,?_,hu1⟩;unfold answeredT;dsimp only [wkAdd];rw [if_neg hl,hzc];exact ht1
 | uns y =>
  have hw:w.heap[v1.wb]? = some (.cells (waitC y.op pkZ 9 left ⟨#[]⟩ none (.func (.func 122) #[] #[bxV v1.b1])).toArray 110 (0,0)):=hli.at' (cellPc v1.wb (wkC v1 (.uns y) left) 110) (by simp [wkPcs]);have hwb:=(hbw.block v1.wb (Array.getElem?_eq_some_iff.1 hw).1).trans hw;have hx1:=wait_left hwb (left - 1);have hm1:Mod [v1.wb] w ((boxW w x).setCell ⟨v1.wb,27,none⟩ (.int .i64 (left - 1))):=(Mod.of_below hbw [v1.wb]).setCell (.inl (by simp)) _;obtain ⟨F1,ht1,hu1,hc1,F2,ht2,hu2,hno⟩:=hturn _ (.uns y) (left - 1) (lies_one (cellPc_ok _ _ _) hx1) ⟨hm1,fun q hq => .inl hq⟩ (fun F' h=>h)
  by_cases hl:left - 1=0
  ·refine ans9_uns tb (ad.seat cl) v1.wb v1.b1 w x y.op pkZ 9 left ⟨#[]⟩ none (bxV (ad.sess cl)) _ hw hse hws (by rw [<- hkk];rfl) hl ?_
   have hc2:=hca.upd ((hu1.trans' hu2).ext E);have hsub:∀ q ∈ F2,q ∈ E++F2:=fun q hq=>List.mem_append_right _ hq
   obtain ⟨s1,-⟩:=hc2;have hcc:=unsub1_any c ad tb _ E F2 _ y v1.b1 ht2 hn1 hn2 (s1.sub hsub) hwk.1 (by rw [hl1.1];omega) (by rw [hl1.2];omega);refine hcc.mono ?_;rintro e w' ⟨rfl,htd⟩;refine ⟨rfl,htd.preU (hu1.trans' hu2) ?_⟩;unfold answeredT;dsimp only [wkAdd];rw [if_pos hl,hzc]
   rfl
  ·refine (ans9_more tb (ad.seat cl) v1.wb w x y.op pkZ 9 left ⟨#[]⟩ none _ (bxV (ad.sess cl)) hw hse (by rw [<- hkk];rfl) hl hwk.2.2.2.1 hwk.2.2.2.2).mono ?_
   rintro e w' ⟨rfl,rfl⟩;refine ⟨rfl,F1,?_,hu1⟩;unfold answeredT;dsimp only [wkAdd];rw [if_neg hl,hzc];exact ht1
 | fin y clean =>
  have hw:w.heap[v1.wb]? = some (.cells (waitC y.op pkZ 9 left ⟨#[]⟩ none (.func (.func 111) #[] #[bxV v1.b1,bxV v1.b2])).toArray 110 (0,0)):=hli.at' (cellPc v1.wb (wkC v1 (.fin y clean) left) 110) (by simp [wkPcs]);have hwb:=(hbw.block v1.wb (Array.getElem?_eq_some_iff.1 hw).1).trans hw;have hx1:=wait_left hwb (left - 1);have hm1:Mod [v1.wb] w ((boxW w x).setCell ⟨v1.wb,27,none⟩ (.int .i64 (left - 1))):=(Mod.of_below hbw [v1.wb]).setCell (.inl (by simp)) _;obtain ⟨F1,ht1,hu1,hc1,F2,ht2,hu2,hno⟩:=hturn _ (.fin y clean) (left - 1) (lies_one (cellPc_ok _ _ _) hx1) ⟨hm1,fun q hq => .inl hq⟩ (fun F' h=>h)
  by_cases hl:left - 1=0
  ·refine ans9_fin tb (ad.seat cl) v1.wb v1.b1 v1.b2 w x y.op pkZ 9 left ⟨#[]⟩ none (bxV (ad.sess cl)) _ hw hse hws (by rw [<- hkk];rfl) hl ?_
   have hc2:=hca.upd ((hu1.trans' hu2).ext E);have hsub:∀ q ∈ F2,q ∈ E++F2:=fun q hq=>List.mem_append_right _ hq
   obtain ⟨s1,s2,-⟩:=hc2;have hcc:=ends1_any c ad tb _ E F2 _ cl ⟨z.s,none⟩ y clean v1.b1 v1.b2 ht2 hok1 hn1 hn2 h1s (hwk.2.2.1.trans hzc) (s1.sub hsub) (s2.sub hsub) hwk.1 (by rw [hl1.1];omega) (by rw [hl1.2];omega);refine hcc.mono ?_;rintro e w' ⟨rfl,htd⟩;refine ⟨rfl,htd.preU (hu1.trans' hu2) ?_⟩;unfold answeredT;dsimp only [wkAdd];rw [if_pos hl,hzc]
   rfl
  ·refine (ans9_more tb (ad.seat cl) v1.wb w x y.op pkZ 9 left ⟨#[]⟩ none _ (bxV (ad.sess cl)) hw hse (by rw [<- hkk];rfl) hl hwk.2.2.2.2.1 hwk.2.2.2.2.2).mono ?_
   rintro e w' ⟨rfl,rfl⟩;refine ⟨rfl,F1,?_,hu1⟩;unfold answeredT;dsimp only [wkAdd];rw [if_neg hl,hzc];exact ht1
 | sub y codes kept =>
  obtain ⟨y1,y2,y3,y4,y5,y6,y7,y8⟩:=hwk;have hw:w.heap[v1.wb]? = some (.cells (waitC y.op y.pk 8 left ⟨codes.toArray⟩ (some v1.kb) (.func (.func 115) #[] #[bxV v1.b1,bxV v1.b2,bxV v1.b3])).toArray 110 (0,0)):=hli.at' (cellPc v1.wb (wkC v1 (.sub y codes kept) left) 110) (by simp [wkPcs]);have hkp:(keptPc v1.kb kept).R w:=hli.at' (keptPc v1.kb kept) (by simp [wkPcs]);have hks:=hin v1.kb (by simp [wkPcs,feet,keptPc,cellPc]);have hwF:=hin v1.wb (by simp [wkPcs,feet,keptPc,cellPc])
  have hkw:v1.kb ≠ v1.wb:=fun e=>by
   have h9:=off_feet.1 (List.pairwise_append.1 (show (([cellPc v1.wb (wkC v1 (.sub y codes kept) left) 110]:List Pc) ++ [keptPc v1.kb kept]).Pairwise (fun a b=>Off a.F b.F) from hli.off)).2.2;exact h9 v1.wb (by simp [feet,cellPc]) (by simp [feet,keptPc,e])
  have hkl:kept.length<=80000:=hkn;have hnn':T.notes.length+kept.length+200<=100000:=hnn;obtain ⟨kp,hkpe⟩:∃ kp,x.ms.foldl (fun l m=>put m l) kept=kp:=⟨_,rfl⟩;have hkpl:kp.length<=kept.length+x.ms.length:=by rw [<- hkpe];exact puts_len _ _ y5
  have hmsl:=hx.nms;have hw1:=wkAdd_ok (s:=z.s) (left:=left) (k:=.sub y codes kept) hx ⟨y1,y2,y3,y4,y5,y6,y7,y8⟩
  have hkpo:Up kp /\ ∀ m ∈ kp,MsOk m:=by
   obtain ⟨-,-,-,-,a1,a2,-⟩:=hw1;rw [hkpe] at a1 a2;exact ⟨a1,a2⟩
  refine ans8 tb (ad.seat cl) v1.wb v1.kb v1.b1 v1.b2 v1.b3 w x y.op y.pk left ⟨codes.toArray⟩ kept (bxV (ad.sess cl)) _ hw hse hws hkw hks.2 (by rw [<- hkk];rfl) y7 y8 hkp (by omega) (hib.2.1.sub (fun q hq=>by rw [List.mem_singleton.1 hq];exact List.mem_append_right _ hks.1)) hmsl hx.ms ?_;intro X hkX hmX;rw [hkpe] at hkX;have hwX:X.heap[v1.wb]? = _:=(hmX.block v1.wb (Array.getElem?_eq_some_iff.1 hw).1 (fun e=>hkw (List.mem_singleton.1 e).symm)).trans hw;have hx1:=wait_left hwX (left - 1);have hm1:Mod [v1.wb,v1.kb] w (X.setCell ⟨v1.wb,27,none⟩ (.int .i64 (left - 1))):=(hmX.mono (fun q hq=>by rw [List.mem_singleton.1 hq];simp)).setCell (.inl (by simp)) _
  have hk1:(keptPc v1.kb kp).R (X.setCell ⟨v1.wb,27,none⟩ (.int .i64 (left - 1))):=by
   obtain ⟨D,d1,d2⟩:=hkX;exact ⟨D,owns_keep d1 (heap_setCell_other X ⟨v1.wb,27,none⟩ _ _ (fun e=>hkw e)),d2⟩
  obtain ⟨F1,ht1,hu1,hc1,F2,ht2,hu2,hno⟩:=hturn _ (.sub y codes kp) (left - 1) (lies_app (A:=[_]) (lies_one (cellPc_ok _ _ _) hx1) (lies_one (keptPc_ok _ _) hk1) (fun q hq hq'=>hkw (by
   have e1:q=v1.wb:=by simpa [feet,cellPc] using hq
   have e2:q=v1.kb:=by simpa [feet,keptPc] using hq'
   rw [<- e1,<- e2]))) ⟨hm1,fun q hq => .inl hq⟩ (fun F' h=>h)
  refine ⟨fun hl => ?_,fun hl => ?_⟩
  ·refine ⟨F1,?_,hu1⟩
   unfold answeredT;dsimp only [wkAdd];rw [if_neg hl,hzc,hkpe];exact ht1
  ·obtain ⟨s1,s2,s3,s4⟩:=hca.upd ((hu1.trans' hu2).ext E)
   have hsub:∀ q ∈ F2,q ∈ E++F2:=fun q hq=>List.mem_append_right _ hq
   rw [hzc] at s2;have hno1:v1.wb ∉ F2:=hno v1.wb (by simp [wkPcs,feet,keptPc,cellPc]);have hno2:v1.kb ∉ F2:=hno v1.kb (by simp [wkPcs,feet,keptPc,cellPc]);have hx2:((X.setCell ⟨v1.wb,27,none⟩ (.int .i64 (left - 1))).setCell ⟨ad.seat cl,1,none⟩ (.pointer none)).heap[v1.wb]? = _:=(heap_setCell_other (X.setCell ⟨v1.wb,27,none⟩ (.int .i64 (left - 1))) ⟨ad.seat cl,1,none⟩ _ _ (fun e=>hws e)).trans hx1
   have hk2:(keptPc v1.kb kp).R ((X.setCell ⟨v1.wb,27,none⟩ (.int .i64 (left - 1))).setCell ⟨ad.seat cl,1,none⟩ (.pointer none)):=by
    obtain ⟨D,d1,d2⟩:=hk1;exact ⟨D,owns_keep d1 (heap_setCell_other _ ⟨ad.seat cl,1,none⟩ _ _ (fun e=>hks.2 e)),d2⟩
   have hcc:=subscribe1_any w0 hK c hn1 hn2 ad tb _ E F2 _ cl ⟨z.s,none⟩ y codes kp v1.b1 v1.b2 v1.b3 v1.wb v1.kb (left - 1) _ ht2 (hB.upd (hu1.trans' hu2)) hok1 h1s rfl (s1.sub hsub) (s2.sub hsub) (s3.sub hsub) ⟨hno1,(Array.getElem?_eq_some_iff.1 hx2).1,hx2⟩ hno2 hk2 s4 y1 y4 hkpo.2 hkpo.1 (by rw [hl1.1];omega) (by rw [hl1.2];omega) (by omega);refine hcc.mono ?_;rintro e w' ⟨rfl,htd⟩;refine ⟨rfl,htd.preU (hu1.trans' hu2) ?_⟩;unfold answeredT;dsimp only [wkAdd];rw [if_pos hl,hzc,hkpe]
   rfl
end
end Go.Proofs.YtcekcoepdhnfgaaGreatDoor
