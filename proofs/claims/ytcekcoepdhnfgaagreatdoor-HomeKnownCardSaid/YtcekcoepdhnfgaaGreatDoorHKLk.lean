/- HomeKnown, walked. -/
import Derived.Test.YtcekcoepdhnfgaaGreatDoorHMX
import Derived.Test.YtcekcoepdhnfgaaGreatDoorHKXk
namespace Go.Proofs.YtcekcoepdhnfgaaGreatDoor
section
open Go
def pubI:Item:=asksI 3 1 { pkZ with ty:=3,topic:=⟨#[97]⟩ }
def cloI:Item:={ itZ with kind:=4,op:=4,client:=xB }
def tK0:Tn:={ Tn.new with ops:=4 }
def tK1:Tn:=hearT cfg1 (helloI 1 1 true) tK0.begin
def tK2 (b:Nat):Tn:=hearT cfg1 (subI b) tK1.begin
def tK3 (b:Nat):Tn:=hearT cfg1 (addI 2) (tK2 b).begin
def tK4 (b:Nat):Tn:=hearT cfg1 (helloI 4 2 true) (tK3 b).begin
def tK5 (b:Nat):Tn:=hearT cfg1 cloI (tK4 b).begin
set_option maxRecDepth 100000
theorem tK1_ref:refusedB (helloI 1 1 true) tK0=false:=by kernel_rfl
theorem tK2_ref (b:Nat):refusedB (subI b) tK1=false:=by kernel_rfl
theorem tKp_ref (b:Nat):refusedB pubI (tK2 b)=true:=by kernel_rfl
theorem tKp_same (b:Nat):hearT cfg1 pubI (tK2 b).begin=(tK2 b).begin:=by kernel_rfl
theorem tK3_ref (b:Nat):refusedB (addI 2) (tK2 b).begin=false:=rfl
theorem tK4_ref (b:Nat):refusedB (helloI 4 2 true) (tK3 b)=false:=by kernel_rfl
theorem tK5_ref (b:Nat):refusedB cloI (tK4 b)=false:=rfl
theorem tK1_kinds:tK1.mails.map (fun m=>m.it.kind) = [13,14]:=by kernel_rfl
theorem tK2_mails (b:Nat):(tK2 b).mails.map (fun m=>(m.it.kind,m.lane,m.it.filter.data.toList)) = [(5,4,[97,47,43])]:=by kernel_rfl
theorem tK3_kinds (b:Nat):(tK3 b).mails.map (fun m=>m.it.kind) = [13,14]:=by kernel_rfl
theorem tK3_pks (b:Nat):(tK3 b).mails.map (fun m=>m.it.pks.map fun p=>p.codes.data.toList) = [[[1]],[]]:=by kernel_rfl
theorem tK4_mails (b:Nat):(tK4 b).mails.map (fun m=>(m.it.kind,m.lane,m.it.conn)) = [(3,2,1)]:=by kernel_rfl
theorem tK5_mails (b:Nat):(tK5 b).mails.map (fun m=>(m.it.kind,m.it.op)) = [(6,4)]:=by kernel_rfl
theorem tK5_live (b:Nat):liveT xB (tK5 b)=2:=by kernel_rfl
theorem tK5_busy (b:Nat):(tK5 b).seats.map (fun z=>(z.s.client.data.toList,z.busy.isSome)) = [([120],true)]:=by kernel_rfl
theorem tK5_notes (b:Nat):(tK5 b).notes.map (fun n=>(n.kind,n.op)) = [(2,1),(3,1),(2,2),(3,2),(1,5),(2,5),(3,5),(2,4)]:=by kernel_rfl
end
section
open Go Go.RowKit Go.Maps Go.Lib Go.Sort
set_option maxRecDepth 100000
set_option maxHeartbeats 4000000
theorem idle_no (cf:HCfg) (ad:HAd) (T:Tn) (E F:List Nat) (w:World) (h:HomeAt cf ad w T E F) (x0:Str) (z0:HSeat) (h0:T.seat ⟨x0.toArray⟩=some z0) (hbz:∀ cl z,T.seat cl=some z->z.busy.isSome=true) :
  Calls Tryz.prog 23 #[.pointer (some ⟨ad.hb,0,none⟩)] w fun e w'=>e = .returned (.bool false)/\Below w.heap.size w w':=by
 obtain ⟨c0,-⟩:=home_c6 h;obtain ⟨v0,hP,-⟩:=id h;obtain ⟨D,hown,hDN,hD⟩:=hP.seats;clear hP;have hsb:=hown.lt;have HLK:=hyd (fun X d x (hb:Below w.heap.size w X) (hx:T.seat d=some x)=>(h.below hb).look hx);have HD:=hyd hD;have HBZ:=hyd hbz;generalize ad.ms=sb at *;have HST:Hid (Maps.has D (.string x0)=true):=hyd (by rw [(hD x0).1];unfold seatF;rw [h0];rfl);clear h hD hbz h0
 go_enter Tryz.func23, Tryz.ntmps23
 go_wp2_with (first
  | (at_range;refine wpList_range_own _ rfl _ 89 rfl 9 101 kS Tryz.underlying89 ptrElem sb _ _ rfl hown ?_;intro w0 hrg0 hg0 hs0)
  | fail)
 go_frame
 clear hs0
 go_loopw [4] (fun _ wr => ∃ (left:Lit->Bool) (cnt:Nat),wr.ranges Tryz.prog 9 ptrElem sb w.heap.size (Maps.size D) D left cnt/\left (.string x0)=true/\Below w.heap.size w wr)
  (fun _ wr=>wr.rangeLeft sb w.heap.size)
 case atStart=>exact ⟨_,_,hrg0,HST.out,(Below.refl _ _).grown hg0 (Nat.le_refl _) (fun j hj=>by cases hj)⟩
 case round =>
  obtain ⟨left,cnt,hrg,hlx,hnx⟩:=hrel;have HLX:=hyd hlx;have HNX:=hyd hnx;clear hlx hnx hown
  go_wp2_with (first
   | (at_next;refine wpList_next_ranges _ rfl _ rfl 9 kS ptrElem (fun v=>v) (fun v=>v) (fun key _ _=>⟨key,rfl⟩) (fun v y _=>⟨v,rfl⟩) sb w.heap.size _ _ _ _ rfl hrg ?_ ?_)
   | fail)
  ·intro hc0 hl0
   exact absurd (HLX.out.symm.trans (hl0 (.string x0))) (by decide)
  ·intro x c kl yd yp w2 cnt2 hkey hlk hv hat hrg2 hlt hg2 hs2 hen
   obtain ⟨z,rfl,rfl,hzl⟩:=Maps.keyOf_str Tryz.underlying9 hkey;have hhas:Maps.has D (.string z)=true:=has_true_of_atKey hat
   obtain ⟨x,hx,hxc⟩:∃ x,T.seat ⟨z.toArray⟩=some x/\c = .pointer (some ⟨ad.seat ⟨z.toArray⟩,0,none⟩):=by
    obtain ⟨h1,h2⟩:=HD.out z;rw [hhas] at h1;unfold seatF at h1 h2
    cases ho:T.seat ⟨z.toArray⟩ with
    | none=>rw [ho] at h1;cases h1
    | some x =>
     refine ⟨x,rfl,?_⟩;have h3:=h2 (ad.seat ⟨z.toArray⟩) (by rw [ho];rfl) yd;rw [hat] at h3;subst h3;exact ptrElem_inv hv
   subst hxc;have hb2:=HNX.out.grown hg2 HNX.out.size (fun j hj=>by cases hj;exact Nat.le_refl _);obtain ⟨lb,G,u0,hse,hu,-,-,-⟩:=HLK.out w2 _ _ hb2 hx;have hbs:=HBZ.out _ _ hx
   obtain ⟨bz,rfl⟩:∃ bz,u0 = .pointer (some ⟨bz,0,none⟩):=by
    rcases hu with ⟨-,h1⟩ | ⟨⟨b,h1⟩,-⟩
    ·rw [h1] at hbs;cases hbs
    ·exact ⟨b,h1⟩
   have d1:w2.cell? ⟨ad.seat ⟨z.toArray⟩,1,none⟩=some (.pointer (some ⟨bz,0,none⟩)):=by rw [cell_of_row _ _ 1 _ _ _ hse];rfl
   generalize ad.seat ⟨z.toArray⟩=sq at *;have HB2:=hyd hb2;replace hen:(Instr.entry (.pointer (some ⟨w.heap.size,0,none⟩))).run Tryz.prog w2 = .ok (.tuple #[.string ⟨z.toArray⟩,.pointer (some ⟨sq,0,none⟩)]) w2:=hen;clear hrg hrg2 hse hx hv hat hkey hlk hb2 hg2 hs2 hhas HNX hlt hu hbs
   go_wp2_with fail
   go_ret
   exact ⟨rfl,HB2.out⟩
theorem idle_nil (w:World):Calls Tryz.prog 23 #[.pointer none] w fun e w'=>e = .returned (.bool true)/\w=w':=by
 go_enter Tryz.func23, Tryz.ntmps23
 go_wp2_with fail
 go_ret
 exact ⟨rfl,rfl⟩
theorem lists_nil (w:World):Calls Tryz.prog 16 #[.pointer none] w fun e w'=>e = .returned (.slice none 0 0)/\w=w':=by
 go_enter Tryz.func16, Tryz.ntmps16
 go_wp2_with fail
 go_ret
 exact ⟨rfl,rfl⟩
theorem live_nil (cl:ByteArray) (w:World):Calls Tryz.prog 15 #[.pointer none,.string cl] w fun e w'=>e = .returned (.int .i64 0)/\w=w':=by
 go_enter Tryz.func15, Tryz.ntmps15
 go_wp2_with fail
 go_ret
 exact ⟨rfl,rfl⟩
theorem hear_nil (lv:Value) (x:Item) (w:World):Calls Tryz.prog 13 #[.pointer none,lv,.agg x.cells.toArray] w fun e w'=>e = .returned (.tuple #[.slice none 0 0,.bool true])/\Below w.heap.size w w':=by
 have HBL:=hyd (low_alloc w (.cells x.cells.toArray 44));generalize x.cells=XL at *
 go_enter Tryz.func13, Tryz.ntmps13
 go_wp2_with fail
 (try simp only [Exit.inBlock,Exit.then])
 go_ret2
 exact ⟨rfl,HBL.out⟩
end
section
open Go Go.RowKit Go.Maps Go.Lib
def noteKO (n:Note):Int × Int:=(n.kind,n.op)
theorem all2_get {α β:Type} {R:α -> β->Prop}:∀ {l:List α} {m:List β},All2 R l m -> ∀ (k:Nat) (h1:k < l.length) (h2:k < m.length),R l[k] m[k]
 | [],_,_,k,h1,_=>absurd h1 (by simp)
 | _ :: _,[],h,_,_,_=>h.elim
 | a :: l,b :: m,h,0,_,_=>h.1
 | a :: l,b :: m,h,k+1,h1,h2=>all2_get h.2 k (by simpa using h1) (by simpa using h2)
theorem note_width (n:Note):n.cells.length=35:=rfl
theorem HomeAt.notes {c:HCfg} {ad:HAd} {w:World} {t:Tn} {E F:List Nat} (h:HomeAt c ad w t E F):∃ (a:Option Addr) (cp:Nat) (N:List Note),N.length=t.notes.length/\w.cell? ⟨ad.lg,0,none⟩=some (.slice a N.length cp)/\w.ownsRow 0 79 35 (.slice a N.length cp) N.length (notesV N) ∧
  ∀ (k:Nat) (h1:k < N.length) (h2:k < t.notes.length),NoteIs w (E++F) N[k] t.notes[k]:=by
 obtain ⟨v,hP,rfl⟩:=h;have h1:(logPc ad.lg v.nv v.N t.ops).R w:=hP.lies.at' _ (by simp [hpcs]);obtain ⟨a,cp,hv,-⟩:=ownsRow_row h1.2.1;refine ⟨a,cp,v.N,All2.len hP.notes,?_,by rw [<- hv];exact h1.2.1,fun k k1 k2=>all2_get hP.notes k k1 k2⟩;rw [cell_of_row _ _ 0 _ _ _ h1.1,<- hv];rfl
set_option maxRecDepth 100000
set_option maxHeartbeats 4000000
theorem all_any (c:HCfg) (ad:HAd) (T:Tn) (E F:List Nat) (w:World) (h:HomeAt c ad w T E F) (hn:T.notes.length<=100000) (hs:∀ n ∈ T.notes,n.pk.subs.length<=100000) :
  Calls Tryz.prog 26 #[.pointer (some ⟨ad.lg,0,none⟩)] w fun e w' => ∃ v N,e = .returned v/\w'.ownsRow w.heap.size 79 35 v T.notes.length (notesV N)/\N.map noteKO=T.notes.map noteKO/\Below w.heap.size w w':=by
 have HLEN:=hyd (len_any c ad T E F w h);obtain ⟨a,cp,N,hN,c0,hown,hni⟩:=h.notes;obtain ⟨a',cp',e,hrow,-⟩:=ownsRow_row hown
 cases e
 have HROW:=hyd hrow
 have HOW:Hid (∀ (k:Nat) (h1:k < N.length) X,Below w.heap.size w X->Calls Tryz.prog 54 #[.agg N[k].cells.toArray] X fun e w' => ∃ a c,e = .returned (.agg (N[k].lay a c).cells.toArray)/\Below X.heap.size X w'):=hyd (fun k h1 X hX=>by
  obtain ⟨b,q,e,hb⟩:=hni k h1 (by omega);have e1:N[k].pk.subs=T.notes[k].pk.subs:=by rw [e]
  have e2:N[k].pk.subsA=b:=by rw [e]
  exact (own_any N[k] X (by rw [e1,e2];exact hb.row.below hX (Nat.le_refl _)) (by rw [e1];exact hs _ (List.getElem_mem _))).mono fun e w' ⟨a,c,h1,_,h2⟩=>⟨a,c,h1,h2⟩)
 have HKO:Hid (N.map noteKO=T.notes.map noteKO):=hyd (by
  refine List.ext_getElem (by simp [hN]) fun k h1 h2 => ?_
  obtain ⟨b,q,e,-⟩:=hni k (by simpa using h1) (by simpa using h2);rw [List.getElem_map,List.getElem_map,e]
  rfl)
 have HNN:=hyd hN;have HN:=hyd (show N.length<=100000 by omega);rw [<- hN] at HLEN ⊢;clear h hni hown hrow hs hn hN
 go_enter Tryz.func26, Tryz.ntmps26
 go_wp2_with fail
 refine HLEN.out.mono ?_;rintro e w1 ⟨rfl,rfl⟩
 go_wp2_with fail
 go_loopw [3,7] (fun v i wr => ∃ (k:Nat) (N':List Note),i = .int .i64 k/\k<=N.length/\wr.ownsRow w.heap.size 79 35 v k (notesV N')/\N'.map noteKO=(N.take k).map noteKO/\Below w.heap.size w wr)
  (fun _ i _=>(N.length - intOf i).toNat)
 case atStart=>exact ⟨0,[],rfl,by omega,World.ownsRow_nil _ _ _ _,rfl,Below.refl _ _⟩
 case round =>
  obtain ⟨k,N',rfl,hk,hown,hko,hb⟩:=hrel
  by_cases hlt:k < N.length
  ·have hk0:(0:Int)<=k:=by omega
   have hkl:(k:Int) < N.length:=by omega
   have hkm:k < 100000:=by have:=HN.out;omega
   obtain ⟨b,o,rfl,hrg⟩:=row_mid (mk:=Note.cells) (m:=35) note_width (HROW.out.below hb (Nat.le_refl _)) hlt (by decide);have c1:=(hb.cell (World.block_lt_of_cell? _ _ c0)).trans c0;have HRG:=hyd hrg;have HBR:=hyd hb;have HOR:=hyd hown;have HCA:=hyd (HOW.out k hlt wr hb);have HBN:=hyd (fun a c=>build_note (N[k].lay a c))
   have HNO:Hid (∀ a c,∀ u ∈ (N[k].lay a c).cells.toArray.toList,u.oneCell'=true):=hyd (fun a c=>by
    have:=note_one (N[k].lay a c);rw [Array.all_eq_true_iff_forall_mem] at this
    exact fun u hu=>this u (by simpa using hu))
   have HTK:Hid (∀ a c,(N' ++ [N[k].lay a c]).map noteKO=(N.take (k+1)).map noteKO):=hyd (fun a c=>by
    rw [List.take_succ_eq_append_getElem hlt,List.map_append,List.map_append,hko];rfl)
   have HVV:Hid (∀ a c,notesV N'++(N[k].lay a c).cells.toArray.toList=notesV (N' ++ [N[k].lay a c])):=hyd (fun a c=>by simp [notesV]);have H35:Hid (∀ a c,(N[k].lay a c).cells.toArray.size=1 * 35):=hyd (fun a c=>rfl);have HLS:Hid ((Tryz.prog.info? 79).map (·.size)=some N[k].cells.length):=hyd (note_size N[k]);have HKN:=hyd hlt;clear hrg hb hown hko hk;generalize N[k].cells=NL at *
   go_wp2_with (first
    | (refine wpList_loadMid rfl 79 _ rfl b (o+k * 35) rfl NL _ HRG.out Tryz.underlying79 rfl HLS.out _ rfl ?_)
    | fail)
   refine HCA.out.mono ?_;rintro e w2 ⟨a2,q2,rfl,hb2⟩;have hrow2:=ownsRow_local HOR.out fun j hj=>hb2.block j (HOR.out.lt j hj).2
   have hbb:=bnext HBR.out (Nat.le_refl _) hb2;have HSZ:=hbb.size;have HB1:=hyd (HBN.out a2 q2);have HN1:=hyd (HNO.out a2 q2);have HT1:=hyd (HTK.out a2 q2);have HV1:=hyd (HVV.out a2 q2);have H31:=hyd (H35.out a2 q2);clear HBN HNO HTK HVV H35 hb2 HCA HOR HBR HRG HLS;generalize N[k].lay a2 q2=Z at *;obtain ⟨ZL,hZL⟩:∃ ZL,Z.cells=ZL:=⟨_,rfl⟩;rw [hZL] at HB1 HN1 HV1 H31 ⊢;clear hZL
   go_wp2_with (first
    | (refine wpList_build1 HB1.out rfl _ rfl rfl _ rfl _ rfl ?_)
    | (at_builtin;refine wpList_appN T_note hrow2 hbb HSZ rfl rfl rfl rfl rfl H31.out HN1.out (by have:=HN.out;omega) (by have:=HN.out;omega) ?_;intro v' w8 hown' hbel3 hsz3 hg3)
    | fail)
   have HOW8:=hyd hown';clear hown' hg3
   go_roundw
   case rel=>exact ⟨k+1,N' ++ [Z],by go_num,by have:=HKN.out;omega,by rw [<- HV1.out];exact HOW8.out,HT1.out,hbel3⟩
   case measure=>simp [intOf];have:=HKN.out;omega
  ·obtain rfl:k=N.length:=by omega
   have hkl:¬ (N.length:Int) < N.length:=by omega
   rw [List.take_length,HKO.out] at hko;have HOR:=hyd hown;clear hown
   go_wp2_with fail
   go_ret
   refine ⟨_,rfl,?_⟩;exact ⟨N',HOR.out,hko,hb⟩
end
section
open Go Go.RowKit Go.Maps Go.Lib
def newPcs (hb ms mf:Nat):List Pc:=[cellPc hb (homeC cfg1 (adN hb 0 ms mf)) 92, mapPc ms 0 (fun _=>none),imapPc mf 0 (fun _=>none)]
structure LogNew (w0:World) (hb ms mf b:Nat) (n:Int) (X:World):Prop where
 log:(logPc b (.slice none 0 0) [] n).R X
 home:HomeNew cfg1 X hb ms mf
 low:Below w0.heap.size w0 X
 far:∀ k ∈ feet (newPcs hb ms mf),k ≠ b
 new:∀ k ∈ [b,hb,ms,mf],w0.heap.size<=k
section
variable {w0 X Y:World} {hb ms mf b:Nat} {n:Int}
theorem LogNew.below (h:LogNew w0 hb ms mf b n X) (hw:Below X.heap.size X Y):LogNew w0 hb ms mf b n Y:=
 ⟨(logPc_ok b _ _ n).mod h.log (Mod.of_below hw []) (by simp),Lies.below h.home hw,bnext h.low (Nat.le_refl _) hw,h.far,h.new⟩
theorem LogNew.op (h:LogNew w0 hb ms mf b n X) (hr:(logPc b (.slice none 0 0) [] (n+1)).R Y) (hu:Mod [b] X Y):LogNew w0 hb ms mf b (n+1) Y:=
 ⟨hr,Lies.mod h.home hu fun k hk hk'=>h.far k hk (List.mem_singleton.1 hk'),h.low.trans (hu.below h.low.size fun k hk=>by rw [List.mem_singleton.1 hk];exact h.new b (by simp)),h.far,h.new⟩
theorem LogNew.at' (h:LogNew w0 hb ms mf b 4 X):HomeAt cfg1 (adN hb b ms mf) X tK0 [] [b,hb,ms,mf]:=by
 have e:restPcs cfg1 (adN hb b ms mf) ⟨.slice none 0 0,[],.slice none 0 0,[],fun _=>⟨[],0,0,0,0,0,0⟩,fun _=>0⟩ tK0=newPcs hb ms mf:=rfl;refine ⟨⟨.slice none 0 0,[],.slice none 0 0,[],fun _=>⟨[],0,0,0,0,0,0⟩,fun _=>0⟩,⟨?_,fun k hk=>(by cases hk),trivial,fun z hz=>(by cases hz)⟩,?_⟩
 ·unfold hpcs
  rw [e];refine lies_app (A:=[_]) (lies_one (logPc_ok _ _ _ _) h.log) h.home fun k hk hk' => ?_
  have e1:k=b:=by simpa [feet,logPc,Value.ownBlock,adN] using hk
  exact h.far k hk' e1
 ·unfold hpcs
  rw [e]
  rfl
end
theorem op_new (w0:World) (hb ms mf b:Nat) (n:Int) (X:World) (h:LogNew w0 hb ms mf b n X) (h0:0<=n) (h1:n<=1000000):Calls Tryz.prog 31 #[.pointer (some ⟨b,0,none⟩)] X fun e w'=>e = .returned (.int .i64 (n+1))/\LogNew w0 hb ms mf b (n+1) w':=
 (log_op b _ _ n X h.log h0 h1).mono fun e w' ⟨he,hr,hu⟩=>⟨he,h.op hr (by simpa [logPc,Value.ownBlock] using hu.1)⟩
theorem mails_map {β:Type} (f:HMl -> β) (hf:∀ (m h:HMl) (a:Option Addr) (cp:Nat),m.lane=h.lane->m.it = { h.it with pksA:=a,pksC:=cp } -> f m=f h) {w:World} {F:List Nat}:∀ {L M:List HMl},All2 (MailIs w F) L M->L.map f=M.map f
 | [],[],_=>rfl
 | [],_ :: _,h=>h.elim
 | _ :: _,[],h=>h.elim
 | m :: L,k :: M,h=>by
  obtain ⟨-,h2,a,cp,e,-⟩:=h.1;rw [List.map_cons,List.map_cons,hf m k a cp h2 e,mails_map f hf h.2]
theorem heard_mails {ad:HAd} {F:List Nat} {w w':World} {T':Tn} {mv:Value} (h:Heard cfg1 ad [] F w T' mv w'):∃ ad' L F' a cp,ad.like ad'/\HomeAt cfg1 ad' w' T' [] F'/\Upd F F' w w'/\mv = .slice a L.length cp/\Beside w' F' a (hmlsV L)/\All2 (MailIs w' F') L T'.mails:=by
 obtain ⟨ad',L,F',h1,h2,h3,h4,h5,h6⟩:=h;obtain ⟨a,cp,rfl,hr,-⟩:=ownsRow_row h4;refine ⟨ad',L,F',a,cp,h1,h2,h3,rfl,?_,h5⟩
 cases L with
 | nil=>exact .inl rfl
 | cons m L =>
  obtain ⟨rb,o,rfl,-⟩:=row_mid (mk:=HMl.cells) (m:=40) (k:=0) hml_width hr (by simp) (by decide);exact .inr ⟨rb,o,rfl,h6 rb (by simp [Value.ownBlock]),(h4.lt rb (by simp [Value.ownBlock])).2,hr⟩
def f1 (m:HMl):Int:=m.it.kind
def f2 (m:HMl):Int × Int × List UInt8:=(m.it.kind,m.lane,m.it.filter.data.toList)
def f3 (m:HMl):Int × Int × Int:=(m.it.kind,m.lane,m.it.conn)
def f4 (m:HMl):Int × Int:=(m.it.kind,m.it.op)
theorem map_one {α β:Type} {f:α -> β} {l:List α} {y:β} (h:l.map f = [y]):∃ m,l = [m]/\f m=y:=by
 cases l with
 | nil=>simp at h
 | cons m l =>
  cases l with
  | cons k l=>simp at h
  | nil=>exact ⟨m,rfl,by simpa using h⟩
theorem map_two {α β:Type} {f:α -> β} {l:List α} {x y:β} (h:l.map f = [x,y]):∃ m n,l = [m,n]/\f m=x/\f n=y:=by
 cases l with
 | nil=>simp at h
 | cons m l =>
  cases l with
  | nil=>simp at h
  | cons n l =>
   cases l with
   | cons k l=>simp at h
   | nil=>exact ⟨m,n,rfl,by simpa using h⟩
theorem kinds_two {L:List HMl} {x y:Int} (h:L.map f1 = [x,y]) (hx:u8R x) (hy:u8R y):L.length=2/\kindsB L = [UInt8.ofNat x.toNat,UInt8.ofNat y.toNat] /\ ∀ m ∈ L,u8R m.it.kind:=by
 obtain ⟨m,n,rfl,h1,h2⟩:=map_two h;unfold f1 at h1 h2;refine ⟨rfl,by simp [kindsB,h1,h2],fun k hk => ?_⟩;simp only [List.mem_cons,List.not_mem_nil,or_false] at hk
 rcases hk with rfl | rfl
 ·rw [h1];exact hx
 ·rw [h2];exact hy
theorem kinds_one {m:HMl} {x:Int} (h:m.it.kind=x) (hx:u8R x):kindsB [m] = [UInt8.ofNat x.toNat] /\ ∀ k ∈ [m],u8R k.it.kind:=
 ⟨by simp [kindsB,h],fun k hk=>by rw [List.mem_singleton.1 hk,h];exact hx⟩
theorem one_cells {w:World} {a:Option Addr} {m:HMl} (h:Row w a (hmlsV [m])):∃ b o,a=some ⟨b,o,none⟩/\HMlC w b o m:=by
 obtain ⟨rb,o,rfl,hr⟩:=row_mid (mk:=HMl.cells) (m:=40) (k:=0) (l:=[m]) hml_width h (by simp) (by decide);exact ⟨rb,o,rfl,hml_c (by simpa using hr)⟩
theorem f1_ok (m h:HMl) (a:Option Addr) (cp:Nat) (_:m.lane=h.lane) (e:m.it = { h.it with pksA:=a,pksC:=cp }):f1 m=f1 h:=by unfold f1;rw [e]
theorem f2_ok (m h:HMl) (a:Option Addr) (cp:Nat) (hl:m.lane=h.lane) (e:m.it = { h.it with pksA:=a,pksC:=cp }):f2 m=f2 h:=by unfold f2;rw [e,hl]
theorem f3_ok (m h:HMl) (a:Option Addr) (cp:Nat) (hl:m.lane=h.lane) (e:m.it = { h.it with pksA:=a,pksC:=cp }):f3 m=f3 h:=by unfold f3;rw [e,hl]
theorem f4_ok (m h:HMl) (a:Option Addr) (cp:Nat) (_:m.lane=h.lane) (e:m.it = { h.it with pksA:=a,pksC:=cp }):f4 m=f4 h:=by unfold f4;rw [e]
def Gave2 (ad:HAd) (F:List Nat) (w:World) (T':Tn) (mv:Value) (w':World) (x y:UInt8):Prop:=
 ∃ ad' F' a cp L,ad.like ad'/\HomeAt cfg1 ad' w' T' [] F'/\Upd F F' w w'/\mv = .slice a 2 cp/\L.length=2/\Beside w' F' a (hmlsV L)/\kindsB L = [x,y] /\ ∀ m ∈ L,u8R m.it.kind
def Gave1 (ad:HAd) (F:List Nat) (w:World) (T':Tn) (mv:Value) (w':World) (R:HMl->Prop):Prop:=
 ∃ ad' F' a cp m,ad.like ad'/\HomeAt cfg1 ad' w' T' [] F'/\Upd F F' w w'/\mv = .slice a 1 cp/\Beside w' F' a (hmlsV [m])/\R m
section
variable {ad:HAd} {F:List Nat} {w w':World} {mv:Value} {b:Nat}
theorem heard1 (h:Heard cfg1 ad [] F w tK1 mv w'):Gave2 ad F w tK1 mv w' 13 14:=by
 obtain ⟨ad',L,F',a,cp,h1,h2,h3,rfl,h5,h6⟩:=heard_mails h;obtain ⟨k1,k2,k3⟩:=kinds_two ((mails_map f1 f1_ok h6).trans tK1_kinds) (u8R_of rfl) (u8R_of rfl);exact ⟨ad',F',a,cp,L,h1,h2,h3,by rw [k1],k1,h5,k2,k3⟩
theorem heard2 (h:Heard cfg1 ad [] F w (tK2 b) mv w'):Gave1 ad F w (tK2 b) mv w' fun m=>m.it.kind=5/\m.lane=4/\m.it.filter=⟨#[97,47,43]⟩:=by
 obtain ⟨ad',L,F',a,cp,h1,h2,h3,rfl,h5,h6⟩:=heard_mails h;obtain ⟨m,rfl,e⟩:=map_one ((mails_map f2 f2_ok h6).trans (tK2_mails b));simp only [f2,Prod.mk.injEq] at e;exact ⟨ad',F',a,cp,m,h1,h2,h3,rfl,h5,e.1,e.2.1,str_inj e.2.2⟩
theorem heard4 (h:Heard cfg1 ad [] F w (tK4 b) mv w'):Gave1 ad F w (tK4 b) mv w' fun m=>m.it.kind=3/\m.lane=2/\m.it.conn=1:=by
 obtain ⟨ad',L,F',a,cp,h1,h2,h3,rfl,h5,h6⟩:=heard_mails h;obtain ⟨m,rfl,e⟩:=map_one ((mails_map f3 f3_ok h6).trans (tK4_mails b));simp only [f3,Prod.mk.injEq] at e;exact ⟨ad',F',a,cp,m,h1,h2,h3,rfl,h5,e⟩
theorem heard5 (h:Heard cfg1 ad [] F w (tK5 b) mv w'):Gave1 ad F w (tK5 b) mv w' fun m=>m.it.kind=6/\m.it.op=4:=by
 obtain ⟨ad',L,F',a,cp,h1,h2,h3,rfl,h5,h6⟩:=heard_mails h;obtain ⟨m,rfl,e⟩:=map_one ((mails_map f4 f4_ok h6).trans (tK5_mails b));simp only [f4,Prod.mk.injEq] at e;exact ⟨ad',F',a,cp,m,h1,h2,h3,rfl,h5,e⟩
theorem pks_two {M:List HMl} (h:M.map (fun m=>m.it.pks.map fun p=>p.codes.data.toList) = [[[1]],[]]):∃ m n p,M = [m,n]/\m.it.pks = [p]/\p.codes=⟨#[1]⟩:=by
 obtain ⟨m,n,rfl,h1,-⟩:=map_two h;obtain ⟨p,hp,h2⟩:=map_one h1;exact ⟨m,n,p,rfl,hp,str_inj h2⟩
theorem heard3 (h:Heard cfg1 ad [] F w (tK3 b) mv w'):Gave2 ad F w (tK3 b) mv w' 13 14 /\ ∃ rb o pb po pc cp,mv = .slice (some ⟨rb,o,none⟩) 2 cp/\w'.cell? ⟨rb,o+37,none⟩=some (.slice (some ⟨pb,po,none⟩) 1 pc)/\w'.cell? ⟨pb,po+23,none⟩=some (.string ⟨#[1]⟩):=by
 obtain ⟨ad',L,F',a,cp,h1,h2,h3,rfl,h5,h6⟩:=heard_mails h;obtain ⟨k1,k2,k3⟩:=kinds_two ((mails_map f1 f1_ok h6).trans (tK3_kinds b)) (u8R_of rfl) (u8R_of rfl);refine ⟨⟨ad',F',a,cp,L,h1,h2,h3,by rw [k1],k1,h5,k2,k3⟩,?_⟩;obtain ⟨n1,n2,p,hm,hp,hq⟩:=pks_two (tK3_pks b);rw [hm] at h6;obtain ⟨m1,m2,rfl,r1,r2⟩:=all2_two h6;obtain ⟨-,-,a1,c1,e1,hb1⟩:=r1;have q3:m1.it.pks = [p]:=by rw [e1];exact hp
 have q4:m1.it.pksA=a1:=by rw [e1]
 obtain ⟨rb,o,rfl,hrg⟩:=row_mid (mk:=HMl.cells) (m:=40) (k:=0) hml_width h5.row (by simp) (by decide);rw [hp] at hb1;obtain ⟨pb,po,ea,hpr⟩:=row_mid (mk:=Pkt.cells) (m:=24) (k:=0) (l:=[p]) pkt_len (show Row w' a1 ([p].flatMap Pkt.cells) from hb1.row) (by simp) (by decide);have c37:w'.cell? ⟨rb,o+0 * 40+37,none⟩=some (.slice m1.it.pksA m1.it.pks.length m1.it.pksC):=(hml_c (m:=m1) hrg).pks;rw [q3,q4,ea] at c37;refine ⟨rb,o,pb,po,m1.it.pksC,cp,rfl,by simpa using c37,?_⟩;have:=hpr 23 (.string p.codes) rfl;rw [hq] at this
 simpa using this
end
theorem inv0K:HInv 2 tK0:=⟨⟨List.Pairwise.nil,fun z hz=>(by cases hz),List.Pairwise.nil,fun f hf=>(by cases hf),fun f hf=>(by cases hf)⟩,⟨fun z hz=>(by cases hz),Nat.zero_le _,fun f hf=>(by cases hf),fun z hz=>(by cases hz)⟩,Nat.zero_le _,Nat.zero_le _,by show (0:Int)<=4;decide,by show (4:Int)<=2 * (2:Nat);decide⟩
theorem inv1K:HInv 3 tK1:=HInv.hear (c:=cfg1) cok1.n1 cok1.n2 inv0K.begin (by decide) (itOk_hello true (i64R_of rfl) (i64R_of rfl)) (by decide) (by decide)
theorem inv2K (b:Nat):HInv 4 (tK2 b):=HInv.hear (c:=cfg1) cok1.n1 cok1.n2 inv1K.begin (by decide) (itOk_asks (i64R_of rfl) (i64R_of rfl) (pkOk_sub b)) (Nat.zero_le _) (Nat.zero_le _)
theorem inv3K (b:Nat):HInv 5 (tK3 b):=HInv.hear (c:=cfg1) cok1.n1 cok1.n2 (inv2K b).begin (by decide) (itOk_add (i64R_of rfl)) (Nat.zero_le _) (Nat.zero_le _)
theorem inv4K (b:Nat):HInv 6 (tK4 b):=HInv.hear (c:=cfg1) cok1.n1 cok1.n2 (inv3K b).begin (by decide) (itOk_hello true (i64R_of rfl) (i64R_of rfl)) (Nat.zero_le _) (Nat.zero_le _)
theorem pkOk_pub:PkOk { pkZ with ty:=3,topic:=⟨#[97]⟩ }:=⟨u8R_of rfl,u8R_of rfl,by show (0:Int)<=0/\(0:Int)<=65535;decide,Nat.le_of_ble_eq_true rfl,Nat.le_of_ble_eq_true rfl,msOk_none,Nat.zero_le _,fun y hy=>(by cases hy)⟩
theorem itOk_pub:ItOk pubI:=itOk_asks (i64R_of rfl) (i64R_of rfl) pkOk_pub
theorem itOk_clo:ItOk cloI:=⟨u8R_of rfl,i64R_of rfl,i64R_of rfl,i64R_of rfl,i64R_of rfl,Nat.le_of_ble_eq_true rfl,pkOk_z,msOk_none,Nat.zero_le _,fun m hm=>(by cases hm),Nat.zero_le _,fun s hs=>(by cases hs)⟩
theorem built_clo:Tryz.prog.built 44 [(0,.int .u8 4),(1,.int .i64 4),(3,.string ⟨#[120]⟩)]=some cloI.cells.toArray:=by kernel_rfl
theorem built_pubA:Tryz.prog.built 39 [(0,.int .u8 3),(5,.string ⟨#[97]⟩)]=some ({ pkZ with ty:=3,topic:=⟨#[97]⟩ }:Pkt).cells.toArray:=by kernel_rfl
end
section
open Go Go.RowKit Go.Maps Go.Lib
theorem new_1no (X:World):Calls Tryz.prog 9 #[.agg cfgA1,.int .i64 1] X fun e w'=>e = .returned (.pointer none)/\Below X.heap.size X w':=
 new_no 1 4 1000 5 5 1 X (by decide)
theorem new_0no (X:World):Calls Tryz.prog 9 #[.agg #[.int .i64 0,.int .i64 0,.int .i64 0,.int .i64 0,.int .i64 0],.int .i64 0] X fun e w'=>e = .returned (.pointer none)/\Below X.heap.size X w':=
 new_no 0 0 0 0 0 0 X (by decide)
def koB (n:Int × Int):List UInt8:=[UInt8.ofNat (48+n.1).toNat,UInt8.ofNat (48+n.2).toNat,32]
def koL:List (Int × Int):=[(2,1),(3,1),(2,2),(3,2),(1,5),(2,5),(3,5),(2,4)]
theorem tK5_subs (b:Nat):∀ n ∈ (tK5 b).notes,n.pk.subs.length<=100000:=by
 have h:((tK5 b).notes.all fun n=>decide (n.pk.subs.length<=100000))=true:=by kernel_rfl
 exact fun n hn=>of_decide_eq_true (List.all_eq_true.1 h n hn)
theorem tK5_len (b:Nat):(tK5 b).notes.length=8:=by kernel_rfl
theorem tK5_ko (b:Nat):(tK5 b).notes.map noteKO=koL:=tK5_notes b
theorem tK5_seat (b:Nat):∃ z,(tK5 b).seat ⟨#[120]⟩=some z:=by
 have h:((tK5 b).seat ⟨#[120]⟩).isSome=true:=by kernel_rfl
 exact Option.isSome_iff_exists.1 h
theorem tK5_allbusy (b:Nat):∀ cl z,(tK5 b).seat cl=some z->z.busy.isSome=true:=fun cl z h=>by
 have h1:=(seat_at h).1;have h2:((tK5 b).seats.all fun z=>z.busy.isSome)=true:=by kernel_rfl
 exact List.all_eq_true.1 h2 z h1
theorem idle_5 (ad:HAd) (b:Nat) (F:List Nat) (w:World) (h:HomeAt cfg1 ad w (tK5 b) [] F):Calls Tryz.prog 23 #[.pointer (some ⟨ad.hb,0,none⟩)] w fun e w'=>e = .returned (.bool false)/\Below w.heap.size w w':=by
 obtain ⟨z,hz⟩:=tK5_seat b;exact idle_no cfg1 ad (tK5 b) [] F w h [120] z hz (tK5_allbusy b)
theorem live_5 (ad:HAd) (b:Nat) (F:List Nat) (w:World) (h:HomeAt cfg1 ad w (tK5 b) [] F):Calls Tryz.prog 15 #[.pointer (some ⟨ad.hb,0,none⟩),.string ⟨#[120]⟩] w fun e w'=>e = .returned (.int .i64 2)/\Below w.heap.size w w':=by
 have h1:=live_any cfg1 ad (tK5 b) [] F w xB h (by unfold maxLen;decide);rw [tK5_live] at h1;exact h1
theorem all_5 (ad:HAd) (b:Nat) (F:List Nat) (w:World) (h:HomeAt cfg1 ad w (tK5 b) [] F):Calls Tryz.prog 26 #[.pointer (some ⟨ad.lg,0,none⟩)] w fun e w' => ∃ a c N,e = .returned (.slice a 8 c)/\Row w' a (notesV N)/\N.map noteKO=koL/\Below w.heap.size w w':=
 (all_any cfg1 ad (tK5 b) [] F w h (by rw [tK5_len];decide) (tK5_subs b)).mono fun e w' ⟨v,N,he,ho,hk,hb⟩=>by
  obtain ⟨a,c,rfl,hr,-⟩:=ownsRow_row ho;rw [tK5_len] at he;exact ⟨a,c,N,he,hr,hk.trans (tK5_ko b),hb⟩
theorem ko_step {N:List Note} (h:N.map noteKO=koL) {k:Nat} (hk:k < N.length):∃ kd op:Int,N[k].kind=kd/\N[k].op=op/\(0<=kd/\kd<=9)/\(0<=op/\op<=9)/\(koL.take (k+1)).flatMap koB=(koL.take k).flatMap koB ++ [UInt8.ofNat (48+kd).toNat,UInt8.ofNat (48+op).toNat,32]:=by
 have hlen:k < koL.length:=by rw [<- h,List.length_map];exact hk
 have e:koL[k]=noteKO N[k]:=by
  have h1:=List.getElem_of_eq h.symm hlen;rw [h1,List.getElem_map]
 have hall:∀ x ∈ koL,(0<=x.1/\x.1<=9)/\(0<=x.2/\x.2<=9):=by decide
 obtain ⟨h1,h2⟩:=hall koL[k] (List.getElem_mem _);refine ⟨N[k].kind,N[k].op,rfl,rfl,?_,?_,?_⟩
 ·rw [e] at h1;exact h1
 ·rw [e] at h2;exact h2
 ·rw [List.take_succ_eq_append_getElem hlen,List.flatMap_append,e];simp [koB,noteKO]
set_option maxRecDepth 100000
set_option maxHeartbeats 4000000
theorem homeKnown_any (w:World) (hK:Keeps w):Calls Tryz.prog 7 #[] w fun e w'=>e = .returned (.bool true)/\Below w.heap.size w w':=by
 have HK:=hyd hK;have HHE:=hyd (fun ad T F X x k (h:HomeAt cfg1 ad X T [] F) (hB:Base w X F) (hi:HInv k T) (hk:k<=80) (hx:ItOk x) (hib:ItB X ([]++F) x)=>hear_any w hK cfg1 cok1 ad T [] F X x k h hB hi hk hx hib);have HBP:=hyd (fun b=>built_sub b);have HBA:=hyd (fun (_:Unit)=>built_add8 2);have HBC:=hyd (fun (_:Unit)=>built_clo);have HBU:=hyd (fun (_:Unit)=>built_pubA);have HAN:=hyd (fun X=>new_1 X);have HA1:=hyd (fun X=>new_1no X);have HA0:=hyd (fun X=>new_0no X);have HAL:=hyd (fun X=>alone_any X);have HASK:=hyd (fun b X=>asks_any 2 1 (subP b) X);have HASP:=hyd (fun X=>asks_any 3 1 { pkZ with ty:=3,topic:=⟨#[97]⟩ } X);have HHEL:=hyd (fun X=>hello_any 1 1 true X);have HHE4:=hyd (fun X=>hello_any 4 2 true X);have HAI:Hid (∀ b,asksI 2 1 (subP b)=subI b):=hyd fun _=>rfl
 have HAP:Hid (asksI 3 1 { pkZ with ty:=3,topic:=⟨#[97]⟩ } = pubI):=hyd rfl;generalize cfgA1=CA at *;clear hK
 go_enter Tryz.func7, Tryz.ntmps7
 go_wp2_with fail
 refine (HAL.out w).mono ?_;rintro e w1 ⟨rfl,hb1⟩
 go_wp2_with fail
 refine (HAN.out w1).mono ?_;rintro e w2 ⟨hb,ms,mf,rfl,hn,hb2,hl1,hl2,hl3⟩;have HN:=hyd hn;have HB2:=hyd (bnext hb1 (Nat.le_refl _) hb2);have HS1:=hyd hb1.size;clear hn hb1 hb2
 go_wp2_with fail
 refine (lognew_any w2).mono ?_;rintro e w3 ⟨rfl,hw3⟩
 have HL3:Hid (LogNew w hb ms mf w2.heap.size 0 w3):=hyd (by
  have hb3:=low_alloc w2 (.cells #[.slice none 0 0,.int .i64 0] 97);have hx3:=heap_alloc_new w2 (.cells #[.slice none 0 0,.int .i64 0] 97);rw [hw3] at hb3 hx3
  exact ⟨⟨hx3,World.ownsRow_nil _ _ _ _,by simp [Value.ownBlock]⟩,Lies.below HN.out hb3,bnext HB2.out (Nat.le_refl _) hb3,fun k hk e=>by have:=HN.out.lt k hk;omega,fun k hk=>by
   have h1:=HS1.out;have h2:=HB2.out.size;simp only [List.mem_cons,List.not_mem_nil,or_false] at hk
   omega⟩)
 clear hw3 hl1 hl2 hl3;generalize w2.heap.size=lg at *
 go_wp2_with fail
 refine (HA0.out w3).mono ?_;rintro e w4 ⟨rfl,hb4⟩;have HL4:=hyd (HL3.out.below hb4);clear hb4
 go_wp2_with fail
 refine (HAL.out w4).mono ?_;rintro e w5 ⟨rfl,hb5⟩;have HL5:=hyd (HL4.out.below hb5);clear hb5
 go_wp2_with fail
 refine (HA1.out w5).mono ?_;rintro e w6 ⟨rfl,hb6⟩;have HL6:=hyd (HL5.out.below hb6);clear hb6
 go_wp2_with fail
 go_loopw [3] (fun i wr => ∃ k:Nat,i = .int .i64 k/\k<=4/\LogNew w hb ms mf lg k wr) (fun i _=>(4 - intOf i).toNat)
 case atStart=>exact ⟨0,rfl,by omega,HL6.out⟩
 case round =>
  obtain ⟨k,rfl,hk,hl⟩:=hrel
  by_cases hlt:k < 4
  ·have hkl:(k:Int) < 4:=by omega
   have hk0:(0:Int)<=k:=by omega
   have HOP:=hyd (op_new w hb ms mf lg k wr hl (by omega) (by omega));clear hl
   go_wp2_with fail
   refine HOP.out.mono ?_;rintro e wq ⟨rfl,hl2⟩;have HL7:=hyd hl2;clear hl2
   go_wp2_with fail
   go_roundw
   case rel=>exact ⟨k+1,by go_num,by omega,HL7.out⟩
   case measure=>simp [intOf];omega
  ·obtain rfl:k=4:=by omega
   have H0:=hyd (LogNew.at' hl);have HB0:Hid (Base w wr [lg,hb,ms,mf]):=hyd ⟨hl.low,hl.new⟩;clear hl;rw [HAP.out] at HASP;generalize ({ pkZ with ty:=3,topic:=⟨#[97]⟩ }:Pkt).cells.toArray=PB at *
   go_wp2_with fail
   refine (HHEL.out wr).mono ?_;rintro e wA ⟨rfl,hbA⟩
   go_wp2_with fail
   refine (HHE.out (adN hb lg ms mf) tK0 [lg,hb,ms,mf] wA (helloI 1 1 true) 2 (H0.out.below hbA) (HB0.out.below hbA) inv0K (by decide) (itOk_hello true (i64R_of rfl) (i64R_of rfl)) (itb_none rfl rfl rfl)).mono ?_;rintro e wB ⟨mv1,rfl,hh⟩;obtain ⟨ad1,F1,a1,q1,L1,hl1,hh1,hu1,rfl,hle1,hbs1,hkb1,hku1⟩:=heard1 hh;have H1:=hyd hh1;have HB1:=hyd ((HB0.out.below hbA).upd hu1);have HS1:=hyd hbs1;have HE1:Hid (ad1.hb=hb):=hyd hl1.1;have HE2:Hid (ad1.lg=lg):=hyd hl1.2.1;have HK1:=hyd (And.intro hle1 (And.intro hkb1 hku1));clear hh hbA hl1 hh1 hu1 hle1 hbs1 hkb1 hku1;have hb6:=low_alloc wB (.cells #[.string ⟨#[97,47,43]⟩,.int .u8 1] 76);have hbn:=Beside.new (F:=[]++F1) H1.out.lt [.string ⟨#[97,47,43]⟩,.int .u8 1] 76;have HB6:=hyd hb6;have HBN:=hyd hbn;clear hb6 hbn
   go_wp2_with (first
    | (refine wpList_buildBy rfl 39 _ rfl _ rfl (subP wB.heap.size).cells.toArray [(0,.int .u8 8),(4,.int .u16 7),(19,.slice (some ⟨wB.heap.size,0,none⟩) 1 1)] (by kernel_rfl) (HBP.out _) ?_)
    | fail)
   refine (HASK.out wB.heap.size _).mono ?_;rintro e wC ⟨rfl,hb7⟩;rw [HAI.out];have HBN7:=hyd (HBN.out.below hb7);have HB7:=hyd (bnext HB6.out (Nat.le_refl _) hb7);clear hb7 HBN HB6;have HC2:=hyd (HHE.out ad1 tK1 F1 wC (subI wB.heap.size) 3 (H1.out.below HB7.out) (HB1.out.below HB7.out) inv1K (by decide) (itOk_asks (i64R_of rfl) (i64R_of rfl) (pkOk_sub _)) ⟨HBN7.out,.inl rfl,.inl rfl⟩);rw [HE1.out,HE2.out] at HC2;replace HB1:=hyd (HB1.out.below HB7.out);replace HS1:=hyd (HS1.out.below HB7.out);clear HB7 HBN7;generalize wB.heap.size=sb at *;generalize (subI sb).cells.toArray=SI at *
   go_wp2_with fail
   refine HC2.out.mono ?_;rintro e wD ⟨mv2,rfl,hh⟩;obtain ⟨ad2,F2,a2,q2,m2,hl2,hh2,hu2,rfl,hbs2,r1,r2,r3⟩:=heard2 (b:=sb) hh;have H2:=hyd hh2;replace HB1:=hyd (HB1.out.upd hu2);replace HS1:=hyd (HS1.out.upd hu2);have HS2:=hyd hbs2;have HK2:=hyd (And.intro r1 (And.intro r2 r3));replace HE1:Hid (ad2.hb=hb):=hyd (hl2.1.trans HE1.out);replace HE2:Hid (ad2.lg=lg):=hyd (hl2.2.1.trans HE2.out);clear hh hl2 hh2 hu2 hbs2 r1 r2 r3 HC2 H1
   go_wp2_with (first
    | (refine wpList_buildBy rfl 39 _ rfl _ rfl PB [(0,.int .u8 3),(5,.string ⟨#[97]⟩)] (by kernel_rfl) (HBU.out ()) ?_)
    | fail)
   refine (HASP.out wD).mono ?_;rintro e wE ⟨rfl,hbE⟩;have HC3:=hyd (HHE.out ad2 (tK2 sb) F2 wE pubI 4 (H2.out.below hbE) (HB1.out.below hbE) (inv2K sb) (by decide) itOk_pub (itb_none rfl rfl rfl));rw [HE1.out,HE2.out,tKp_ref,tKp_same] at HC3;replace HB1:=hyd (HB1.out.below hbE);replace HS1:=hyd (HS1.out.below hbE);replace HS2:=hyd (HS2.out.below hbE);clear hbE;generalize pubI.cells.toArray=PI at *
   go_wp2_with fail
   refine HC3.out.mono ?_;rintro e wF ⟨mv3,rfl,hh⟩;obtain ⟨ad3,L3,F3,a3,q3,hl3,hh3,hu3,rfl,-,-⟩:=heard_mails hh;have H3:=hyd hh3;replace HB1:=hyd (HB1.out.upd hu3);replace HS1:=hyd (HS1.out.upd hu3);replace HS2:=hyd (HS2.out.upd hu3);replace HE1:Hid (ad3.hb=hb):=hyd (hl3.1.trans HE1.out);replace HE2:Hid (ad3.lg=lg):=hyd (hl3.2.1.trans HE2.out);clear hh hl3 hh3 hu3 HC3 H2;have HC4:=hyd (HHE.out ad3 (tK2 sb).begin F3 wF (addI 2) 4 H3.out HB1.out (inv2K sb).begin (by decide) (itOk_add (i64R_of rfl)) (itb_none rfl rfl rfl));rw [HE1.out,HE2.out,show (tK2 sb).begin.begin=(tK2 sb).begin from rfl] at HC4;generalize (addI 2).cells.toArray=AI at *
   go_wp2_with (first
    | (refine wpList_buildBy rfl 44 _ rfl _ rfl AI [(0,.int .u8 8),(1,.int .i64 2),(3,.string ⟨#[120]⟩)] (by kernel_rfl) (HBA.out ()) ?_)
    | fail)
   refine HC4.out.mono ?_;rintro e wG ⟨mv4,rfl,hh⟩;obtain ⟨⟨ad4,F4,a4,q4,L4,hl4,hh4,hu4,rfl,hle4,hbs4,hkb4,hku4⟩,rb,o4,pb,po,pc,q4',e4,d37,d23⟩:=heard3 (b:=sb) hh
   cases e4
   have H4:=hyd hh4;replace HB1:=hyd (HB1.out.upd hu4);replace HS1:=hyd (HS1.out.upd hu4);replace HS2:=hyd (HS2.out.upd hu4);replace HE1:Hid (ad4.hb=hb):=hyd (hl4.1.trans HE1.out);replace HE2:Hid (ad4.lg=lg):=hyd (hl4.2.1.trans HE2.out);obtain ⟨b2,o2,rfl,hc2⟩:=one_cells HS2.out.row
   have HCB:Hid (∀ X:World,Below wG.heap.size wG X->X.cell? ⟨b2,o2+1,none⟩=some (.int .i64 4)/\X.cell? ⟨b2,o2+6,none⟩=some (.string ⟨#[97,47,43]⟩)):=hyd (fun X hX=>by
    have h1:=hc2.lane;have h2:=hc2.filter;rw [HK2.out.2.1] at h1;rw [HK2.out.2.2] at h2
    exact ⟨(hX.cell (World.block_lt_of_cell? _ _ h1)).trans h1,(hX.cell (World.block_lt_of_cell? _ _ h2)).trans h2⟩)
   have HCC:Hid (∀ X:World,Below wG.heap.size wG X->X.cell? ⟨rb,o4+37,none⟩=some (.slice (some ⟨pb,po,none⟩) 1 pc)/\X.cell? ⟨pb,po+23,none⟩=some (.string ⟨#[1]⟩)):=hyd (fun X hX =>
    ⟨(hX.cell (World.block_lt_of_cell? _ _ d37)).trans d37,(hX.cell (World.block_lt_of_cell? _ _ d23)).trans d23⟩)
   have HKA:Hid (∀ X:World,Below wG.heap.size wG X->Calls Tryz.prog 34 #[.slice a1 2 q1] X fun e w'=>e = .returned (.string ⟨#[13,14]⟩)/\Below X.heap.size X w'):=hyd (fun X hX=>by
    have h:=kinds_any a1 q1 L1 X (HS1.out.row.below hX (Nat.le_refl _)) HK1.out.2.2 (by have:=HK1.out.1;omega);rw [HK1.out.1,HK1.out.2.1] at h
    exact h)
   have HKB:Hid (∀ X:World,Below wG.heap.size wG X->Calls Tryz.prog 34 #[.slice (some ⟨b2,o2,none⟩) 1 q2] X fun e w'=>e = .returned (.string ⟨#[5]⟩)/\Below X.heap.size X w'):=hyd (fun X hX=>by
    obtain ⟨k1,k2⟩:=kinds_one HK2.out.1 (u8R_of rfl);have h:=kinds_any (some ⟨b2,o2,none⟩) q2 [m2] X (HS2.out.row.below hX (Nat.le_refl _)) k2 (by simp);rw [k1] at h
    exact h)
   have HKC:Hid (∀ X:World,Below wG.heap.size wG X->Calls Tryz.prog 34 #[.slice (some ⟨rb,o4,none⟩) 2 q4] X fun e w'=>e = .returned (.string ⟨#[13,14]⟩)/\Below X.heap.size X w'):=hyd (fun X hX=>by
    have h:=kinds_any (some ⟨rb,o4,none⟩) q4 L4 X (hbs4.row.below hX (Nat.le_refl _)) hku4 (by omega);rw [hle4,hkb4] at h
    exact h)
   clear hh hl4 hh4 hu4 hle4 hbs4 hkb4 hku4 d37 d23 hc2 HC4 H3 HS1 HS2 HK1 HK2
   go_wp2_with fail
   refine (HKA.out wG (Below.refl _ _)).mono ?_;rintro e wH ⟨rfl,hbH⟩;have HBH:=hyd hbH;clear hbH
   go_wp2_with fail
   refine (HKB.out wH HBH.out).mono ?_;rintro e wI ⟨rfl,hbI⟩;have HBI:=hyd (bnext HBH.out (Nat.le_refl _) hbI);obtain ⟨x1,x6⟩:=HCB.out wI HBI.out;clear hbI
   go_wp2_with fail
   refine (HKC.out wI HBI.out).mono ?_;rintro e wJ ⟨rfl,hbJ⟩;have HBJ:=hyd (bnext HBI.out (Nat.le_refl _) hbJ);obtain ⟨y37,y23⟩:=HCC.out wJ HBJ.out;clear hbJ x1 x6;replace HB1:=hyd (HB1.out.below HBJ.out);replace H4:=hyd (H4.out.below HBJ.out);clear HBJ HBI HBH HKA HKB HKC HCB HCC
   go_wp2_with fail
   clear y37 y23;refine (HHE4.out wJ).mono ?_;rintro e wK ⟨rfl,hbK⟩;have HC5:=hyd (HHE.out ad4 (tK3 sb) F4 wK (helloI 4 2 true) 5 (H4.out.below hbK) (HB1.out.below hbK) (inv3K sb) (by decide) (itOk_hello true (i64R_of rfl) (i64R_of rfl)) (itb_none rfl rfl rfl));rw [HE1.out,HE2.out] at HC5;replace HB1:=hyd (HB1.out.below hbK);clear hbK;generalize (helloI 4 2 true).cells.toArray=HI at *
   go_wp2_with fail
   refine HC5.out.mono ?_;rintro e wL ⟨mv5,rfl,hh⟩;obtain ⟨ad5,F5,a5,q5,m5,hl5,hh5,hu5,rfl,hbs5,r1,r2,r3⟩:=heard4 (b:=sb) hh;have H5:=hyd hh5;replace HB1:=hyd (HB1.out.upd hu5);have HS5:=hyd hbs5;have HK5:=hyd (And.intro r1 (And.intro r2 r3));replace HE1:Hid (ad5.hb=hb):=hyd (hl5.1.trans HE1.out);replace HE2:Hid (ad5.lg=lg):=hyd (hl5.2.1.trans HE2.out);clear hh hl5 hh5 hu5 hbs5 r1 r2 r3 HC5 H4;have HC6:=hyd (HHE.out ad5 (tK4 sb) F5 wL cloI 6 H5.out HB1.out (inv4K sb) (by decide) itOk_clo (itb_none rfl rfl rfl));rw [HE1.out,HE2.out] at HC6;generalize cloI.cells.toArray=CI at *
   go_wp2_with (first
    | (refine wpList_buildBy rfl 44 _ rfl _ rfl CI [(0,.int .u8 4),(1,.int .i64 4),(3,.string ⟨#[120]⟩)] (by kernel_rfl) (HBC.out ()) ?_)
    | fail)
   refine HC6.out.mono ?_;rintro e wM ⟨mv6,rfl,hh⟩;obtain ⟨ad6,F6,a6,q6,m6,hl6,hh6,hu6,rfl,hbs6,r1,r2⟩:=heard5 (b:=sb) hh;have H6:=hyd hh6;replace HB1:=hyd (HB1.out.upd hu6);replace HS5:=hyd (HS5.out.upd hu6);replace HE1:Hid (ad6.hb=hb):=hyd (hl6.1.trans HE1.out);replace HE2:Hid (ad6.lg=lg):=hyd (hl6.2.1.trans HE2.out);obtain ⟨b5,o5,rfl,hc5⟩:=one_cells HS5.out.row;obtain ⟨b6,o6,rfl,hc6⟩:=one_cells hbs6.row
   have HCD:Hid (∀ X:World,Below wM.heap.size wM X->X.cell? ⟨b5,o5+1,none⟩=some (.int .i64 2)/\X.cell? ⟨b5,o5+4,none⟩=some (.int .i64 1)/\X.cell? ⟨b6,o6+3,none⟩=some (.int .i64 4)):=hyd (fun X hX=>by
    have h1:=hc5.lane;have h2:=hc5.conn;have h3:=hc6.op;rw [HK5.out.2.1] at h1;rw [HK5.out.2.2] at h2;rw [r2] at h3
    exact ⟨(hX.cell (World.block_lt_of_cell? _ _ h1)).trans h1,(hX.cell (World.block_lt_of_cell? _ _ h2)).trans h2,(hX.cell (World.block_lt_of_cell? _ _ h3)).trans h3⟩)
   have HKD:Hid (∀ X:World,Below wM.heap.size wM X->Calls Tryz.prog 34 #[.slice (some ⟨b5,o5,none⟩) 1 q5] X fun e w'=>e = .returned (.string ⟨#[3]⟩)/\Below X.heap.size X w'):=hyd (fun X hX=>by
    obtain ⟨k1,k2⟩:=kinds_one HK5.out.1 (u8R_of rfl);have h:=kinds_any (some ⟨b5,o5,none⟩) q5 [m5] X (HS5.out.row.below hX (Nat.le_refl _)) k2 (by simp);rw [k1] at h
    exact h)
   have HKE:Hid (∀ X:World,Below wM.heap.size wM X->Calls Tryz.prog 34 #[.slice (some ⟨b6,o6,none⟩) 1 q6] X fun e w'=>e = .returned (.string ⟨#[6]⟩)/\Below X.heap.size X w'):=hyd (fun X hX=>by
    obtain ⟨k1,k2⟩:=kinds_one r1 (u8R_of rfl);have h:=kinds_any (some ⟨b6,o6,none⟩) q6 [m6] X (hbs6.row.below hX (Nat.le_refl _)) k2 (by simp);rw [k1] at h
    exact h)
   have HLI:Hid (∀ X:World,Below wM.heap.size wM X->Calls Tryz.prog 15 #[.pointer (some ⟨hb,0,none⟩),.string ⟨#[120]⟩] X fun e w'=>e = .returned (.int .i64 2)/\Below X.heap.size X w'):=hyd (fun X hX=>by
    have h:=live_5 ad6 sb F6 X (H6.out.below hX);rw [HE1.out] at h
    exact h)
   have HID:Hid (∀ X:World,Below wM.heap.size wM X->Calls Tryz.prog 23 #[.pointer (some ⟨hb,0,none⟩)] X fun e w'=>e = .returned (.bool false)/\Below X.heap.size X w'):=hyd (fun X hX=>by
    have h:=idle_5 ad6 sb F6 X (H6.out.below hX);rw [HE1.out] at h
    exact h)
   have HAA:Hid (∀ X:World,Below wM.heap.size wM X->Calls Tryz.prog 26 #[.pointer (some ⟨lg,0,none⟩)] X fun e w' => ∃ a c N,e = .returned (.slice a 8 c)/\Row w' a (notesV N)/\N.map noteKO=koL/\Below X.heap.size X w'):=hyd (fun X hX=>by
    have h:=all_5 ad6 sb F6 X (H6.out.below hX);rw [HE2.out] at h
    exact h)
   clear hh hl6 hh6 hu6 hbs6 r1 r2 hc5 hc6 HC6 H5 HS5 HK5;obtain ⟨x1,x4,z3⟩:=HCD.out wM (Below.refl _ _);clear x1 x4 z3
   go_wp2_with fail
   refine (HKD.out wM (Below.refl _ _)).mono ?_;rintro e wN ⟨rfl,hbN⟩;have HBN:=hyd hbN;obtain ⟨x1,x4,z3⟩:=HCD.out wN hbN;clear hbN
   go_wp2_with fail
   refine (HKE.out wN HBN.out).mono ?_;rintro e wO ⟨rfl,hbO⟩;have HBO:=hyd (bnext HBN.out (Nat.le_refl _) hbO);clear hbO x1 x4 z3;obtain ⟨x1,x4,z3⟩:=HCD.out wO HBO.out
   go_wp2_with fail
   refine (HLI.out wO HBO.out).mono ?_;rintro e wP ⟨rfl,hbP⟩;have HBP2:=hyd (bnext HBO.out (Nat.le_refl _) hbP);clear hbP x1 x4 z3
   go_wp2_with fail
   refine (HID.out wP HBP2.out).mono ?_;rintro e wQ ⟨rfl,hbQ⟩;have HBQ:=hyd (bnext HBP2.out (Nat.le_refl _) hbQ);clear hbQ
   go_wp2_with fail
   refine (HAA.out wQ HBQ.out).mono ?_;rintro e wR ⟨aR,qR,N,rfl,hrN,hko,hbR⟩;have HBR:Hid (Below w.heap.size w wR):=hyd (bnext (bnext HB1.out.1 (Nat.le_refl _) HBQ.out) (Nat.le_refl _) hbR);have HRN:=hyd hrN;have HKO:=hyd hko;clear hrN hko hbR HBQ HBP2 HBO HBN HAA HID HLI HKE HKD HCD H6 HB1
   go_wp2_with fail
   clear H0 HB0;generalize wr=wb at *;have HNL:Hid (N.length=8):=hyd (by have:=congrArg List.length HKO.out;simpa [koL] using this)
   go_loopw [17,18] (fun tv i wr => ∃ k:Nat,i = .int .i64 k/\k<=8/\tv = .string ⟨((koL.take k).flatMap koB).toArray⟩/\Below wR.heap.size wR wr) (fun _ i _=>(8 - intOf i).toNat)
   case atStart=>exact ⟨0,rfl,by omega,rfl,Below.refl _ _⟩
   case round =>
    obtain ⟨k,rfl,hk,rfl,hbq⟩:=hrel
    by_cases hlt:k < 8
    ·have hkl:(k:Int) < 8:=by omega
     have hk0:(0:Int)<=k:=by omega
     have hkn:k < N.length:=by have:=HNL.out;omega
     obtain ⟨b,o,rfl,hrg⟩:=row_mid (mk:=Note.cells) (m:=35) note_width (HRN.out.below hbq (Nat.le_refl _)) hkn (by decide);obtain ⟨kd,op,h1,h2,h3,h4,h5⟩:=ko_step HKO.out hkn;have c0:=hrg 0 (.int .u8 N[k].kind) rfl;have c1:=hrg 1 (.int .i64 N[k].op) rfl;rw [h1] at c0;rw [h2] at c1;rw [Nat.add_zero] at c0;have HBQ:=hyd hbq
     have HS:Hid (∀ X:World,Below wr.heap.size wr X->X.cell? ⟨b,o+k * 35,none⟩=some (.int .u8 kd)/\X.cell? ⟨b,o+k * 35+1,none⟩=some (.int .i64 op)):=hyd (fun X hX =>
      ⟨(hX.cell (World.block_lt_of_cell? _ _ c0)).trans c0,(hX.cell (World.block_lt_of_cell? _ _ c1)).trans c1⟩)
     have H5:=hyd h5;have HBA2:Hid (Below wr.heap.size wr ((wr.alloc (.cells #[.int .u8 (48+kd),.int .u8 (48+op),.int .u8 32] 5)).drew)):=hyd (low_alloc _ _).drew
     have HCV:Hid (∀ c,(convert 80 9 (.slice (some ⟨wr.heap.size,0,none⟩) 3 c)).run Tryz.prog ((wr.alloc (.cells #[.int .u8 (48+kd),.int .u8 (48+op),.int .u8 32] 5)).drew) = .ok (.string ⟨#[UInt8.ofNat (48+kd).toNat,UInt8.ofNat (48+op).toNat,32]⟩) ((wr.alloc (.cells #[.int .u8 (48+kd),.int .u8 (48+op),.int .u8 32] 5)).drew)):=
      hyd (fun c=>run_string_new (P:=Tryz.prog) (e:=5) (t:=80) (T:=9) Tryz.underlying80 Tryz.underlying5 Tryz.underlying9 [48+kd,48+op,32] c wr.drew)
     have hw1:IntKind.u8.wrap (48+kd)=48+kd:=w_u8 _ (by omega) (by omega);have hw2:IntKind.u8.wrap (48+op)=48+op:=w_u8 _ (by omega) (by omega);have hw3:IntKind.u8.wrap op=op:=w_u8 _ (by omega) (by omega);clear hrg h1 h2 h5 hbq c0 c1;have htl:((koL.take k).flatMap koB).length<=24:=(by decide:∀ k < 8,((koL.take k).flatMap koB).length<=24) k hlt;have htn:¬ 9223372036854775807 < ((koL.take k).flatMap koB).length+3:=by omega
     clear htl;generalize ((koL.take k).flatMap koB)=TL at *
     go_upto_region 23 with fail
     refine wp_region_held_drew (S:=fun X=>X.cell? ⟨b,o+k * 35,none⟩=some (.int .u8 kd)/\X.cell? ⟨b,o+k * 35+1,none⟩=some (.int .i64 op)) (by kernel_rfl) (HS.out _ (Below.refl _ _).drew) (fun hHeld => ?_);refine tA 0 (h:=tA 1 (h:=tA 2 (h:=tA 3 (h:=tA 4 (h:=tA 5 (h:=tA 6 (h:=tA 7 (h:=tA 8 (h:=tA 9 (h:=tA 10 (h:=tA 11 (h:=tA 12 (h:=tA 13 (h:=?_))))))))))))));simp only [tks];refine wpAnyH_ready (rs:=[14]) (by kernel_rfl) (by simp) ?_;refine AllReadyH.cons rfl (fun K hK => ?_) AllReadyH.nil;rw [if_pos (by rfl)];go_simp;obtain ⟨W,hW⟩:∃ W,(wr.alloc (.cells #[.int .u8 (48+kd),.int .u8 (48+op),.int .u8 32] 5)).drew=W:=⟨_,rfl⟩;have HBW:=HBA2.out;have HCW:=HCV.out;rw [hW] at HBW HCW ⊢;refine hK.out _ _ (HS.out _ HBW) (fun hHeld => ?_);clear hW;have hcv:=HCW 3;refine wpAnyH_ready (rs:=[15]) (by kernel_rfl) (by simp) ?_;refine AllReadyH.cons rfl (fun K hK => ?_) AllReadyH.nil;rw [if_pos (by rfl)];go_simp;refine hK.out _ _ (HS.out _ HBW) (fun hHeld => ?_);refine tA 16 (h:=tA 17 (h:=?_));simp only [tks];refine wpAnyH_done (by kernel_rfl) ?_ _;have HBV:=hyd (bnext HBQ.out (Nat.le_refl _) HBW);clear hHeld hcv HCW HBW
     go_wp2_with fail
     go_roundw
     case rel=>exact ⟨k+1,by go_num,by omega,by rw [H5.out];congr 1,HBV.out⟩
     case measure=>simp [intOf];omega
    ·obtain rfl:k=8:=by omega
     have HBQ:=hyd (bnext HBR.out (Nat.le_refl _) hbq);have e8:((koL.take 8).flatMap koB).toArray = #[50,49,32,51,49,32,50,50,32,51,50,32,49,53,32,50,53,32,51,53,32,50,52,32]:=by decide
     rw [e8];clear hbq e8
     go_wp2_with fail
     refine (HHEL.out wr).mono ?_;rintro e wS ⟨rfl,hbS⟩;have HBS:=hyd (bnext HBQ.out (Nat.le_refl _) hbS);clear hbS;have HHN:=hyd (hear_nil (.pointer (some ⟨lg,0,none⟩)) (helloI 1 1 true) wS);generalize (helloI 1 1 true).cells.toArray=EI at *
     go_wp2_with fail
     refine HHN.out.mono ?_;rintro e wT ⟨rfl,hbT⟩;have HBT:=hyd (bnext HBS.out (Nat.le_refl _) hbT);clear hbT
     go_wp2_with fail
     refine (live_nil _ _).mono ?_;rintro e w' ⟨rfl,rfl⟩
     go_wp2_with fail
     refine (lists_nil _).mono ?_;rintro e w' ⟨rfl,rfl⟩
     go_wp2_with fail
     refine (idle_nil _).mono ?_;rintro e w' ⟨rfl,rfl⟩
     go_wp2_with fail
     refine (awake_any w wT HK.out HBT.out).mono ?_;rintro e wU ⟨rfl,hbU⟩;have HBU2:=hyd (bnext HBT.out (Nat.le_refl _) hbU);clear hbU
     go_wp2_with fail
     go_ret
     exact ⟨rfl,HBU2.out⟩
end
end Go.Proofs.YtcekcoepdhnfgaaGreatDoor
