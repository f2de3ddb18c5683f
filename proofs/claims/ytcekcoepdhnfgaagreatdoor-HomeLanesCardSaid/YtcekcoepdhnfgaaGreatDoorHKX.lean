/- awake and Great, walked. -/
import Derived.Test.YtcekcoepdhnfgaaGreatDoorHoJ5
import Derived.Test.YtcekcoepdhnfgaaGreatDoorHMX
import Derived.Test.YtcekcoepdhnfgaaGreatDoorHHJ
import Derived.Test.YtcekcoepdhnfgaaGreatDoorHGX
import Derived.Test.YtcekcoepdhnfgaaGreatDoorHSN
namespace Go.Proofs.YtcekcoepdhnfgaaGreatDoor
section
open Go Go.RowKit Go.Maps Go.Lib
theorem Keeps.below {w0 w:World} (h:Keeps w0) (hb:Below w0.heap.size w0 w):Keeps w:=⟨h.t.below hb,h.b.below hb⟩
theorem hml_width (m:HMl):m.cells.length=40:=rfl
structure HMlC (w:World) (b o:Nat) (m:HMl):Prop where
 dest:w.cell? ⟨b,o,none⟩=some (.int .i64 m.dest)
 lane:w.cell? ⟨b,o+1,none⟩=some (.int .i64 m.lane)
 kind:w.cell? ⟨b,o+2,none⟩=some (.int .u8 m.it.kind)
 op:w.cell? ⟨b,o+3,none⟩=some (.int .i64 m.it.op)
 conn:w.cell? ⟨b,o+4,none⟩=some (.int .i64 m.it.conn)
 filter:w.cell? ⟨b,o+6,none⟩=some (.string m.it.filter)
 pks:w.cell? ⟨b,o+37,none⟩=some (.slice m.it.pksA m.it.pks.length m.it.pksC)
theorem hml_c {w:World} {b o:Nat} {m:HMl} (h:w.rangeAt b o m.cells):HMlC w b o m:=⟨h 0 _ rfl,h 1 _ rfl,h 2 _ rfl,h 3 _ rfl,h 4 _ rfl,h 6 _ rfl,h 37 _ rfl⟩
def kindsB (L:List HMl):List UInt8:=L.map fun m=>UInt8.ofNat m.it.kind.toNat
set_option maxRecDepth 100000
set_option maxHeartbeats 4000000
theorem kinds_any (a:Option Addr) (c:Nat) (L:List HMl) (w:World) (hr:Row w a (hmlsV L)) (hk:∀ m ∈ L,u8R m.it.kind) (hl:L.length<=1000000) :
  Calls Tryz.prog 34 #[.slice a L.length c] w fun e w'=>e = .returned (.string ⟨(kindsB L).toArray⟩)/\Below w.heap.size w w':=by
 have HR:=hyd hr;have HKK:=hyd hk;have HL:=hyd hl;clear hr hk hl
 go_enter Tryz.func34, Tryz.ntmps34
 go_wp2_with fail
 go_loopw [3,4] (fun v i wr => ∃ k:Nat,i = .int .i64 k/\k<=L.length/\wr.ownsRow w.heap.size 5 1 v k (u8s (kindsB (L.take k)))/\Below w.heap.size w wr) (fun _ i _=>(L.length - intOf i).toNat)
 case atStart=>exact ⟨0,rfl,by omega,World.ownsRow_nil _ _ _ _,Below.refl _ _⟩
 case round =>
  obtain ⟨k,rfl,hk,hown,hb⟩:=hrel
  by_cases hlt:k < L.length
  ·have hk0:(0:Int)<=k:=by omega
   have hkl:(k:Int) < L.length:=by omega
   obtain ⟨b,o,rfl,hrg⟩:=row_mid (mk:=HMl.cells) (m:=40) hml_width (HR.out.below hb (Nat.le_refl _)) hlt (by decide);have c2:=(hml_c hrg).kind;have hkd:=HKK.out _ (List.getElem_mem hlt)
   have HTK:Hid (u8s (kindsB (L.take k)) ++ [.int .u8 L[k].it.kind]=u8s (kindsB (L.take (k+1)))):=hyd (by
    rw [List.take_succ_eq_append_getElem hlt];unfold kindsB;rw [List.map_append,<- u8s_append]
    congr 1
    unfold u8s u8R at *;simp only [List.map_cons,List.map_nil]
    congr 2
    have:(UInt8.ofNat L[k].it.kind.toNat).toNat=L[k].it.kind.toNat:=by
     rw [UInt8.toNat_ofNat'];omega
    omega)
   have hbs:=hb.size;have hlm:L.length<=1000000:=HL.out;generalize L[k].it.kind=kd at *;generalize u8s (kindsB (L.take k))=V at *;clear hrg
   go_wp2_with (first
    | (at_builtin;refine wpList_app T_u8H hown hb hbs rfl rfl rfl rfl (by rfl) (by simp [Value.oneCell']) (by omega) (by omega) ?_;intro v' w3 hown' hbel3 hsz3 hlt3;clear hown hb;go_frame)
    | fail)
   go_roundw
   case rel=>exact ⟨k+1,by go_num,by omega,by rw [<- HTK.out];exact hown',hbel3⟩
   case measure=>simp [intOf];omega
  ·have hkl:¬ (k:Int) < L.length:=by omega
   obtain rfl:k=L.length:=by omega
   rw [List.take_length] at hown;have HOW:=hyd hown;have HB:=hyd hb;have hcv:=str_ownH HOW.out;clear hown hb
   go_wp2_with fail
   go_ret
   exact ⟨rfl,HB.out⟩
theorem HomeAt.log {c:HCfg} {ad:HAd} {w:World} {t:Tn} {E F:List Nat} (h:HomeAt c ad w t E F):∃ a cp,w.cell? ⟨ad.lg,0,none⟩=some (.slice a t.notes.length cp)/\w.cell? ⟨ad.lg,1,none⟩=some (.int .i64 t.ops):=by
 obtain ⟨v,hP,-⟩:=h;have h1:(logPc ad.lg v.nv v.N t.ops).R w:=hP.lies.at' _ (by simp [hpcs]);obtain ⟨a,cp,hv,-⟩:=ownsRow_row h1.2.1;have hl:=All2.len hP.notes;refine ⟨a,cp,?_,?_⟩
 ·rw [cell_of_row _ _ 0 _ _ _ h1.1,<- hl,<- hv];rfl
 ·rw [cell_of_row _ _ 1 _ _ _ h1.1];rfl
theorem len_any (c:HCfg) (ad:HAd) (T:Tn) (E F:List Nat) (w:World) (h:HomeAt c ad w T E F) :
  Calls Tryz.prog 29 #[.pointer (some ⟨ad.lg,0,none⟩)] w fun e w'=>e = .returned (.int .i64 T.notes.length)/\w=w':=by
 obtain ⟨a,cp,c0,-⟩:=h.log;clear h
 go_enter Tryz.func29, Tryz.ntmps29
 go_wp2_with fail
 go_ret
 exact ⟨rfl,rfl⟩
theorem lognew_any (w:World):Calls Tryz.prog 12 #[] w fun e w'=>e = .returned (.pointer (some ⟨w.heap.size,0,none⟩))/\w.alloc (.cells #[.slice none 0 0,.int .i64 0] 97)=w':=by
 go_enter Tryz.func12, Tryz.ntmps12
 go_wp2_with fail
 go_ret
 exact ⟨rfl,rfl⟩
theorem HomeNew.withLog {c:HCfg} {w w':World} {hb ms mf:Nat} (h:HomeNew c w hb ms mf) (hbw:Below w.heap.size w w') (hx:w'.heap[w.heap.size]? = some (.cells #[.slice none 0 0,.int .i64 0] 97 (0,0))):HomeAt c (adN hb w.heap.size ms mf) w' Tn.new [] [w.heap.size,hb,ms,mf]:=by
 have hlt:=h.lt;have e:restPcs c (adN hb w.heap.size ms mf) ⟨.slice none 0 0,[],.slice none 0 0,[],fun _=>⟨[],0,0,0,0,0,0⟩,fun _=>0⟩ Tn.new = [cellPc hb (homeC c (adN hb 0 ms mf)) 92, mapPc ms 0 (fun _=>none),imapPc mf 0 (fun _=>none)]:=rfl;refine ⟨⟨.slice none 0 0,[],.slice none 0 0,[],fun _=>⟨[],0,0,0,0,0,0⟩,fun _=>0⟩,⟨?_,fun k hk=>(by cases hk),trivial,fun z hz=>(by cases hz)⟩,?_⟩
 ·unfold hpcs
  rw [e];refine lies_app (A:=[_]) (lies_one (logPc_ok _ _ _ _) ⟨hx,World.ownsRow_nil _ _ _ _,by simp [Value.ownBlock]⟩) (h.below hbw) fun k hk hk' => ?_
  have e1:k=w.heap.size:=by simpa [feet,logPc,Value.ownBlock,adN] using hk
  have:=hlt k hk';omega
 ·unfold hpcs
  rw [e]
  rfl
end
section
open Go Go.RowKit Go.Maps Go.Lib
theorem u8R_of {x:Int} (h:decide (0<=x) && decide (x<=255)=true):u8R x:=by simpa [u8R] using h
theorem pkOk_hello (b:Bool):PkOk (helloP b):=⟨u8R_of rfl,u8R_of rfl,by show (0:Int)<=0/\(0:Int)<=65535;decide,Nat.le_of_ble_eq_true rfl,Nat.le_of_ble_eq_true rfl,msOk_none,Nat.zero_le _,fun y hy=>(by cases hy)⟩
theorem pkOk_sub (b:Nat):PkOk (subP b):=⟨u8R_of rfl,u8R_of rfl,by show (0:Int)<=7/\(7:Int)<=65535;decide,Nat.le_of_ble_eq_true rfl,Nat.le_of_ble_eq_true rfl,msOk_none,Nat.le_of_ble_eq_true rfl,fun y hy=>(by
 have:y=([97,47,43],1):=by simpa [subP] using hy
 subst this
 exact ⟨by decide,u8R_of rfl⟩)⟩
theorem i64R_of {x:Int} (h:decide (-9223372036854775808<=x) && decide (x<=9223372036854775807)=true):i64R x:=by simpa [i64R] using h
theorem itOk_asks {op conn:Int} {p:Pkt} (ho:i64R op) (hc:i64R conn) (hp:PkOk p):ItOk (asksI op conn p):=⟨u8R_of rfl,ho,hc,i64R_of rfl,i64R_of rfl,Nat.le_of_ble_eq_true rfl,hp,msOk_none,Nat.zero_le _,fun m hm=>(by cases hm),Nat.zero_le _,fun s hs=>(by cases hs)⟩
theorem itOk_hello {op conn:Int} (b:Bool) (ho:i64R op) (hc:i64R conn):ItOk (helloI op conn b):=itOk_asks ho hc (pkOk_hello b)
theorem itOk_add {op:Int} (ho:i64R op):ItOk (addI op):=⟨u8R_of rfl,ho,i64R_of rfl,i64R_of rfl,i64R_of rfl,Nat.le_of_ble_eq_true rfl,pkOk_z,msOk_none,Nat.zero_le _,fun m hm=>(by cases hm),Nat.zero_le _,fun s hs=>(by cases hs)⟩
theorem itOk_del (d:Nat):ItOk (delI d):=⟨u8R_of rfl,i64R_of rfl,i64R_of rfl,i64R_of rfl,i64R_of rfl,Nat.le_of_ble_eq_true rfl,pkOk_z,⟨Nat.le_of_ble_eq_true rfl,Nat.le_of_ble_eq_true rfl,u8R_of rfl⟩,Nat.zero_le _,fun m hm=>(by cases hm),Nat.le_of_ble_eq_true rfl,fun s hs=>(by
 have:s=xB:=by simpa [delI] using hs
 subst this
 decide)⟩
theorem cok1:COk cfg1:=⟨by decide,by decide,by decide,by decide⟩
theorem inv1:HInv 1 tA1:=HInv.hear (c:=cfg1) cok1.n1 cok1.n2 HInv.new.begin (by decide) (itOk_hello true (i64R_of rfl) (i64R_of rfl)) (by decide) (by decide)
theorem inv2 (b:Nat):HInv 2 (tA2 b):=HInv.hear (c:=cfg1) cok1.n1 cok1.n2 inv1.begin (by decide) (itOk_asks (i64R_of rfl) (i64R_of rfl) (pkOk_sub b)) (Nat.zero_le _) (Nat.zero_le _)
theorem inv3 (b:Nat):HInv 3 (tA3 b):=HInv.hear (c:=cfg1) cok1.n1 cok1.n2 (inv2 b).begin (by decide) (itOk_add (i64R_of rfl)) (Nat.zero_le _) (Nat.zero_le _)
theorem itb_none {w:World} {F:List Nat} {x:Item} (h1:x.pk.subs = []) (h2:x.ms = []) (h3:x.cls = []):ItB w F x:=⟨.inl (by rw [h1];rfl),.inl (by rw [h2];rfl),.inl (by rw [h3];rfl)⟩
theorem built_sub (b:Nat):Tryz.prog.built 39 [(0,.int .u8 8),(4,.int .u16 7),(19,.slice (some ⟨b,0,none⟩) 1 1)]=some (subP b).cells.toArray:=by kernel_rfl
theorem built_add8 (op:Int):Tryz.prog.built 44 [(0,.int .u8 8),(1,.int .i64 op),(3,.string ⟨#[120]⟩)]=some (addI op).cells.toArray:=by kernel_rfl
theorem new_1 (X:World):Calls Tryz.prog 9 #[.agg cfgA1,.int .i64 0] X fun e w' => ∃ hb ms mf,e = .returned (.pointer (some ⟨hb,0,none⟩))/\HomeNew cfg1 w' hb ms mf/\Below X.heap.size X w'/\X.heap.size<=hb/\X.heap.size<=ms/\X.heap.size<=mf:=
 new_yes cfg1 X (by decide) (by decide) (by decide) (by decide) (by decide) (by decide) (by decide)
set_option maxRecDepth 100000
set_option maxHeartbeats 4000000
theorem begun_any (w:World) (hK:Keeps w):Calls Tryz.prog 41 #[] w fun e w' => ∃ ad F b,e = .returned (.tuple #[.pointer (some ⟨ad.hb,0,none⟩),.pointer (some ⟨ad.lg,0,none⟩)])/\HomeAt cfg1 ad w' (tA3 b) [] F/\Base w w' F:=by
 have HK:=hyd hK;have HHE:=hyd (fun ad T F X x k (h:HomeAt cfg1 ad X T [] F) (hB:Base w X F) (hi:HInv k T) (hk:k<=80) (hx:ItOk x) (hib:ItB X ([]++F) x)=>hear_any w hK cfg1 cok1 ad T [] F X x k h hB hi hk hx hib);have HBP:=hyd (fun b=>built_sub b);have HBA:=hyd (fun (_:Unit)=>built_add8 2);have HAN:=hyd (fun X=>new_1 X);have HAL:=hyd (fun X=>alone_any X);have HASK:=hyd (fun b X=>asks_any 2 1 (subP b) X);have HHEL:=hyd (fun X=>hello_any 1 1 true X);have HAI:Hid (∀ b,asksI 2 1 (subP b)=subI b):=hyd fun _=>rfl
 generalize cfgA1=CA at *;clear hK
 go_enter Tryz.func41, Tryz.ntmps41
 go_wp2_with fail
 refine (HAL.out w).mono ?_;rintro e w1 ⟨rfl,hb1⟩
 go_wp2_with fail
 refine (HAN.out w1).mono ?_;rintro e w2 ⟨hb,ms,mf,rfl,hn,hb2,hl1,hl2,hl3⟩;have HN:=hyd hn;have HB2:=hyd (bnext hb1 (Nat.le_refl _) hb2);have HS1:=hyd hb1.size;have HS2:=hyd hb2.size;have HLL:=hyd (And.intro hl1 (And.intro hl2 hl3));clear hn hb1 hb2 hl1 hl2 hl3
 go_wp2_with fail
 refine (lognew_any w2).mono ?_;rintro e w3 ⟨rfl,hw3⟩;have hb3:=low_alloc w2 (.cells #[.slice none 0 0,.int .i64 0] 97);have hx3:=heap_alloc_new w2 (.cells #[.slice none 0 0,.int .i64 0] 97);rw [hw3] at hb3 hx3;have h0:=HN.out.withLog hb3 hx3
 have hB3:Base w w3 [w2.heap.size,hb,ms,mf]:=⟨bnext HB2.out (Nat.le_refl _) hb3,fun k hk=>by
  have h1:=HLL.out;have h2:=HS1.out;have h3:=HS2.out;simp only [List.mem_cons,List.not_mem_nil,or_false] at hk
  omega⟩
 have H0:=hyd h0;have HB3:=hyd hB3;clear hw3 hb3 hx3 h0 hB3;generalize w2.heap.size=lg at *
 go_wp2_with fail
 refine (HHEL.out w3).mono ?_;rintro e w4 ⟨rfl,hb4⟩;have HB4:=hyd hb4;clear hb4
 go_wp2_with fail
 refine (HHE.out (adN hb lg ms mf) Tn.new [lg,hb,ms,mf] w4 (helloI 1 1 true) 0 (H0.out.below HB4.out) (HB3.out.below HB4.out) HInv.new (by decide) (itOk_hello true (i64R_of rfl) (i64R_of rfl)) (itb_none rfl rfl rfl)).mono ?_;rintro e w5 ⟨mv1,rfl,ad1,L1,F1,hl1,hh1,hu1,-⟩;have H1:Hid (HomeAt cfg1 ad1 w5 tA1 [] F1):=hyd hh1;have HB5:=hyd ((HB3.out.below HB4.out).upd hu1);obtain ⟨e1,e2,-⟩:=hl1;have e1':ad1.hb=hb:=e1;have e2':ad1.lg=lg:=e2;have HE1:=hyd e1';have HE2:=hyd e2';clear hh1 hu1 e1 e2 e1' e2';have hb6:=low_alloc w5 (.cells #[.string ⟨#[97,47,43]⟩,.int .u8 1] 76);have hbn:=Beside.new (F:=[]++F1) H1.out.lt [.string ⟨#[97,47,43]⟩,.int .u8 1] 76;have HB6:=hyd hb6;have HBN:=hyd hbn;clear hb6 hbn
 go_wp2_with (first
  | (refine wpList_buildBy rfl 39 _ rfl _ rfl (subP w5.heap.size).cells.toArray [(0,.int .u8 8),(4,.int .u16 7),(19,.slice (some ⟨w5.heap.size,0,none⟩) 1 1)] (by kernel_rfl) (HBP.out _) ?_)
  | fail)
 refine (HASK.out w5.heap.size _).mono ?_;rintro e w7 ⟨rfl,hb7⟩;rw [HAI.out];have hbn7:=HBN.out.below hb7;have HBN7:=hyd hbn7;have HB7:=hyd (bnext HB6.out (Nat.le_refl _) hb7);clear hb7 hbn7 HBN HB6;have HC2:=hyd (HHE.out ad1 tA1 F1 w7 (subI w5.heap.size) 1 (H1.out.below HB7.out) (HB5.out.below HB7.out) inv1 (by decide) (itOk_asks (i64R_of rfl) (i64R_of rfl) (pkOk_sub _)) ⟨HBN7.out,.inl rfl,.inl rfl⟩);rw [HE1.out,HE2.out] at HC2;have HB57:=hyd (HB5.out.below HB7.out);generalize w5.heap.size=sb at *;generalize (subI sb).cells.toArray=SI at *
 go_wp2_with fail
 refine HC2.out.mono ?_;rintro e w8 ⟨mv2,rfl,ad2,L2,F2,hl2,hh2,hu2,-⟩;have H2:Hid (HomeAt cfg1 ad2 w8 (tA2 sb) [] F2):=hyd hh2;have HB8:=hyd (HB57.out.upd hu2);obtain ⟨e1,e2,-⟩:=hl2;have e1':ad2.hb=hb:=e1.trans HE1.out;have e2':ad2.lg=lg:=e2.trans HE2.out;have HE3:=hyd e1';have HE4:=hyd e2';clear hh2 hu2 e1 e2 e1' e2';have HC3:=hyd (HHE.out ad2 (tA2 sb) F2 w8 (addI 2) 2 H2.out HB8.out (inv2 sb) (by decide) (itOk_add (i64R_of rfl)) (itb_none rfl rfl rfl));rw [HE3.out,HE4.out] at HC3;generalize (addI 2).cells.toArray=AI at *
 go_wp2_with (first
  | (refine wpList_buildBy rfl 44 _ rfl _ rfl AI [(0,.int .u8 8),(1,.int .i64 2),(3,.string ⟨#[120]⟩)] (by kernel_rfl) (HBA.out ()) ?_)
  | fail)
 refine HC3.out.mono ?_;rintro e w9 ⟨mv3,rfl,ad3,L3,F3,hl3,hh3,hu3,-⟩;have HR:Hid (∃ ad F b,(.pointer (some ⟨hb,0,none⟩):Value) = .pointer (some ⟨ad.hb,0,none⟩)/\(.pointer (some ⟨lg,0,none⟩):Value) = .pointer (some ⟨ad.lg,0,none⟩)/\HomeAt cfg1 ad w9 (tA3 b) [] F/\Base w w9 F):=hyd ⟨ad3,F3,sb,by rw [hl3.1,HE3.out],by rw [hl3.2.1,HE4.out],hh3,HB8.out.upd hu3⟩;clear hl3 hh3 hu3
 go_wp2_with fail
 go_ret2
 obtain ⟨ad,F,b,r1,r2,r3,r4⟩:=HR.out;exact ⟨ad,F,b,by rw [<- r1,<- r2];rfl,r3,r4⟩
end
section
open Go Go.RowKit Go.Maps Go.Lib
theorem mails_two {M:List HMl} (h1:M.map (fun m=>m.it.kind) = [13,12]) (h2:M.map (fun m=>m.it.pks.map fun p=>(p.qos,p.topic.data.toList)) = [[(1,[97,47,98])],[]]) :
  ∃ a b p,M = [a,b]/\a.it.kind=13/\b.it.kind=12/\a.it.pks = [p]/\p.qos=1/\p.topic=⟨#[97,47,98]⟩:=by
 cases M with
 | nil=>simp at h1
 | cons a M =>
  cases M with
  | nil=>simp at h1
  | cons b M =>
   cases M with
   | cons c M=>simp at h1
   | nil =>
    simp only [List.map_cons,List.map_nil,List.cons.injEq,and_true] at h1 h2;obtain ⟨h3,-⟩:=h2;obtain ⟨l,hp⟩:∃ l,a.it.pks=l:=⟨_,rfl⟩;rw [hp] at h3
    cases l with
    | nil=>simp at h3
    | cons p l =>
     cases l with
     | cons q l=>simp at h3
     | nil =>
      simp only [List.map_cons,List.map_nil,List.cons.injEq,and_true,Prod.mk.injEq] at h3;exact ⟨a,b,p,rfl,h1.1,h1.2,hp,h3.1,str_inj h3.2⟩
theorem all2_two {α β:Type} {R:α -> β->Prop} {l:List α} {x y:β} (h:All2 R l [x,y]):∃ a b,l = [a,b]/\R a x/\R b y:=by
 cases l with
 | nil=>exact h.elim
 | cons a l =>
  cases l with
  | nil=>exact h.2.elim
  | cons b l =>
   cases l with
   | nil=>exact ⟨a,b,rfl,h.1,h.2.1⟩
   | cons c l=>exact h.2.2.elim
theorem built_del (d:Nat):Tryz.prog.built 44 [(0,.int .u8 11),(1,.int .i64 9),(8,.slice (some ⟨d,0,none⟩) 1 1),(6,.agg #[.string ⟨#[97,47,98]⟩,.string ⟨#[49]⟩,.int .u8 2,.bool false])]=some (delI d).cells.toArray:=by kernel_rfl
theorem tA4_ref (b d:Nat):refusedB (delI d) (tA3 b)=false:=rfl
theorem lists_1 (ad:HAd) (b:Nat) (F:List Nat) (w:World) (h:HomeAt cfg1 ad w (tA3 b) [] F):Calls Tryz.prog 16 #[.pointer (some ⟨ad.hb,0,none⟩)] w fun e w' => ∃ a c,e = .returned (.slice a 1 c)/\Below w.heap.size w w':=
 (hlists_any cfg1 ad (tA3 b) [] F w h (inv3 b).ok (by have:=(inv3 b).bd.s;omega)).mono fun e w' ⟨v,he,ho,hb,_⟩=>by
  obtain ⟨a,c,rfl,-⟩:=ownsRow_row ho;rw [tA3_lists] at he;exact ⟨a,c,he,hb⟩
theorem heard_del {ad:HAd} {b d:Nat} {F:List Nat} {w w':World} {mv:Value} (h:Heard cfg1 ad [] F w (hearT cfg1 (delI d) (tA3 b).begin) mv w') :
  ∃ L a c rb o pb po pc,L.length=2/\mv = .slice a 2 c/\a=some ⟨rb,o,none⟩/\Row w' a (hmlsV L)/\kindsB L = [13,12]/\(∀ m ∈ L,u8R m.it.kind)/\w'.cell? ⟨rb,o+37,none⟩=some (.slice (some ⟨pb,po,none⟩) 1 pc)/\w'.cell? ⟨pb,po+2,none⟩=some (.int .u8 1)/\w'.cell? ⟨pb,po+5,none⟩=some (.string ⟨#[97,47,98]⟩):=by
 obtain ⟨ad',L,F',-,-,-,ho,ha,-⟩:=h;have e:hearT cfg1 (delI d) (tA3 b).begin=tA4 b d:=rfl;rw [e] at ha;obtain ⟨h1,h2,p,hm,k1,k2,hp,hq,ht⟩:=mails_two (tA4_kinds b d) (tA4_pks b d);rw [hm] at ha;obtain ⟨m1,m2,rfl,r1,r2⟩:=all2_two ha;obtain ⟨-,-,a1,c1,e1,hb1⟩:=r1;obtain ⟨-,-,a2,c2,e2,-⟩:=r2;have q1:m1.it.kind=13:=by rw [e1];exact k1
 have q2:m2.it.kind=12:=by rw [e2];exact k2
 have q3:m1.it.pks = [p]:=by rw [e1];exact hp
 have q4:m1.it.pksA=a1:=by rw [e1]
 obtain ⟨a,c,rfl,hr,-⟩:=ownsRow_row ho;obtain ⟨rb,o,rfl,hrg⟩:=row_mid (mk:=HMl.cells) (m:=40) (k:=0) hml_width hr (by simp) (by decide);rw [hp] at hb1;have hrow:=hb1.row;obtain ⟨pb,po,ea,hpr⟩:=row_mid (mk:=Pkt.cells) (m:=24) (k:=0) (l:=[p]) pkt_len (show Row w' a1 ([p].flatMap Pkt.cells) from hrow) (by simp) (by decide);have c37:w'.cell? ⟨rb,o+0 * 40+37,none⟩=some (.slice m1.it.pksA m1.it.pks.length m1.it.pksC):=(hml_c (m:=m1) hrg).pks;rw [q3,q4,ea] at c37;refine ⟨[m1,m2],_,c,rb,o,pb,po,m1.it.pksC,rfl,rfl,rfl,hr,by simp [kindsB,q1,q2],fun m hm => ?_,by simpa using c37,?_,?_⟩
 ·simp only [List.mem_cons,List.not_mem_nil,or_false] at hm
  rcases hm with rfl | rfl
  ·rw [q1];exact u8R_of rfl
  ·rw [q2];exact u8R_of rfl
 ·have:=hpr 2 (.int .u8 p.qos) rfl
  rw [hq] at this
  simpa using this
 ·have:=hpr 5 (.string p.topic) rfl
  rw [ht] at this
  simpa using this
set_option maxRecDepth 100000
set_option maxHeartbeats 4000000
theorem awake_any (w0 w:World) (hK0:Keeps w0) (hbw:Below w0.heap.size w0 w):Calls Tryz.prog 11 #[] w fun e w'=>e = .returned (.bool true)/\Below w.heap.size w w':=by
 have hK:=hK0.below hbw;have HBE:=hyd (begun_any w hK);have HHE:=hyd (fun ad b F X d (h:HomeAt cfg1 ad X (tA3 b) [] F) (hB:Base w X F) (hib:ItB X ([]++F) (delI d))=>hear_any w hK cfg1 cok1 ad (tA3 b) [] F X (delI d) 3 h hB (inv3 b) (by decide) (itOk_del d) hib);have HBD:=hyd (fun d=>built_del d);clear hK hK0 hbw
 go_enter Tryz.func11, Tryz.ntmps11
 go_wp2_with fail
 refine HBE.out.mono ?_;rintro e w1 ⟨ad,F,b,rfl,h1,hB1⟩;have H1:=hyd h1;have HB1:=hyd hB1;have hli:=live_any cfg1 ad (tA3 b) [] F w1 xB h1 (by unfold maxLen;decide);rw [tA3_live] at hli;have HLI:=hyd hli;have HLS:=hyd (fun X (hX:Below w1.heap.size w1 X)=>lists_1 ad b F X (h1.below hX));have HLN:=hyd (fun X (hX:Below w1.heap.size w1 X)=>show Calls Tryz.prog 29 #[.pointer (some ⟨ad.lg,0,none⟩)] X fun e w'=>e = .returned (.int .i64 4)/\X=w' from (len_any cfg1 ad (tA3 b) [] F X (h1.below hX)).mono fun e w' ⟨he,hw⟩=>⟨by rw [he,tA3_notes];rfl,hw⟩);clear h1 hB1 hli;replace HLI:Hid (Calls Tryz.prog 15 #[.pointer (some ⟨ad.hb,0,none⟩),.string ⟨#[120]⟩] w1 fun e w'=>e = .returned (.int .i64 1)/\Below w1.heap.size w1 w'):=HLI
 go_wp2_with fail
 refine HLI.out.mono ?_;rintro e w2 ⟨rfl,hb2⟩;have HB2:=hyd hb2;clear hb2
 go_wp2_with fail
 refine (HLS.out w2 HB2.out).mono ?_;rintro e w3 ⟨la,lc,rfl,hb3⟩;have HB3:=hyd (bnext HB2.out (Nat.le_refl _) hb3);clear hb3
 go_wp2_with fail
 refine (HLN.out w3 HB3.out).mono ?_;rintro e w4 ⟨rfl,rfl⟩;have hb5:=low_alloc w3 (.cells #[.string ⟨#[120]⟩] 9);have hbn:=Beside.new (F:=[]++F) (H1.out.below HB3.out).lt [.string ⟨#[120]⟩] 9;have HB5:=hyd (bnext HB3.out (Nat.le_refl _) hb5);have HHD:=hyd (HHE.out ad b F _ w3.heap.size (H1.out.below HB5.out) (HB1.out.below HB5.out) ⟨.inl rfl,.inl rfl,hbn⟩);rw [tA4_ref] at HHD;clear hb5 hbn;generalize hDI:(delI w3.heap.size).cells.toArray=DI at *;have HBD2:=hyd (HBD.out w3.heap.size);rw [hDI] at HBD2;clear hDI
 go_wp2_with (first
  | (refine wpList_buildBy rfl 44 _ rfl _ rfl DI [(0,.int .u8 11),(1,.int .i64 9),(8,.slice (some ⟨w3.heap.size,0,none⟩) 1 1),(6,.agg #[.string ⟨#[97,47,98]⟩,.string ⟨#[49]⟩,.int .u8 2,.bool false])] (by kernel_rfl) HBD2.out ?_)
  | fail)
 refine HHD.out.mono ?_;rintro e w6 ⟨mv,rfl,hh⟩;obtain ⟨L,a,c,rb,o,pb,po,pc,hl2,rfl,rfl,hr,hkb,hku,d37,d2,d5⟩:=heard_del hh;have HR6:=hyd (hh);have HKI0:=kinds_any (some ⟨rb,o,none⟩) c L w6 hr hku (by omega);rw [hl2,hkb] at HKI0;have HKI:=hyd HKI0
 have HB6:Hid (Below w.heap.size w w6):=hyd (by
  obtain ⟨ad',L',F',-,-,hu,-⟩:=hh
  exact ((HB1.out.below HB5.out).upd hu).1)
 clear hh hr hkb hku HKI0 hl2
 go_wp2_with fail
 refine HKI.out.mono ?_;rintro e w7 ⟨rfl,hb7⟩;have HB7:=hyd (bnext HB6.out (Nat.le_refl _) hb7);have e37:=(hb7.cell (World.block_lt_of_cell? _ _ d37)).trans d37;have e2:=(hb7.cell (World.block_lt_of_cell? _ _ d2)).trans d2;have e5:=(hb7.cell (World.block_lt_of_cell? _ _ d5)).trans d5;clear hb7 d37 d2 d5
 go_wp2_with fail
 go_ret
 exact ⟨by simp,HB7.out⟩
end
section
open Go Go.RowKit Go.Maps Go.Lib
def itemsV (l:List Item):List Value:=l.flatMap Item.cells
theorem item_width (x:Item):x.cells.length=38:=rfl
structure Sm21 (x:Item):Prop where
 client:x.client.size<=200
 filter:x.filter.size<=200
 nms:x.ms.length<=10
 ncls:x.cls.length<=10
 pks:x.pks = []
 sm:Sm17 x.pk x.msg
 ms:∀ m ∈ x.ms,m.t.size<=200/\m.p.size<=200
 cls:∀ s ∈ x.cls,s.size<=200
def Sm21L (l:List Item):Prop:=l.length<=80 /\ ∀ x ∈ l,Sm21 x
theorem itOk_of {W:World} {x:Item} (h:x.ok W) (s:Sm21 x):ItOk x:=by
 obtain ⟨h1,h2,h3,-,-,⟨p1,p2,p3,-,-,-,-,-,⟨-,-,w1,w2⟩,-,-,-,⟨-,-,-,p5⟩,-⟩,⟨-,-,m1,m2⟩,⟨-,-,-,h8⟩,-,-,h11,h12⟩:=h;have g:=s.sm;exact ⟨h1,h2,h3,h11,h12,by have:=s.client;omega,⟨p1,p2,p3,by have:=g.topic;omega,by have:=g.payload;omega,⟨by have:=g.wt;omega,by have:=g.wp;omega,w1,w2⟩,by have:=g.nsubs;omega,fun y hy=>⟨by have:=g.subs y hy;omega,p5 y hy⟩⟩,⟨by have:=g.mt;omega,by have:=g.mp;omega,m1,m2⟩,by have:=s.nms;omega,fun m hm=>⟨by have:=s.ms m hm;omega,by have:=s.ms m hm;omega,(h8 m hm).2.2.1,(h8 m hm).2.2.2⟩,by have:=s.ncls;omega,fun q hq=>by have:=s.cls q hq;omega⟩
def laneN (k:Int):Int:=if k=1 \/ k=2 then 1 else if k=4 then 3 else if k=8 \/ k=9 \/ k=10 \/ k=11 then 5 else if k=12 then 6 else 9
theorem lane_any (k:Int) (w:World):Calls Tryz.prog 14 #[.int .u8 k] w fun e w'=>e = .returned (.int .i64 (laneN k))/\w=w':=by
 by_cases h1:k=1
 ·subst h1
  go_enter Tryz.func14, Tryz.ntmps14
  go_wp2_with fail
  go_ret
  exact ⟨rfl,rfl⟩
 by_cases h2:k=2
 ·subst h2
  go_enter Tryz.func14, Tryz.ntmps14
  go_wp2_with fail
  go_ret
  exact ⟨rfl,rfl⟩
 by_cases h4:k=4
 ·subst h4
  go_enter Tryz.func14, Tryz.ntmps14
  go_wp2_with fail
  go_ret
  exact ⟨rfl,rfl⟩
 by_cases h8:k=8
 ·subst h8
  go_enter Tryz.func14, Tryz.ntmps14
  go_wp2_with fail
  go_ret
  exact ⟨rfl,rfl⟩
 by_cases h9:k=9
 ·subst h9
  go_enter Tryz.func14, Tryz.ntmps14
  go_wp2_with fail
  go_ret
  exact ⟨rfl,rfl⟩
 by_cases h10:k=10
 ·subst h10
  go_enter Tryz.func14, Tryz.ntmps14
  go_wp2_with fail
  go_ret
  exact ⟨rfl,rfl⟩
 by_cases h11:k=11
 ·subst h11
  go_enter Tryz.func14, Tryz.ntmps14
  go_wp2_with fail
  go_ret
  exact ⟨rfl,rfl⟩
 by_cases h12:k=12
 ·subst h12
  go_enter Tryz.func14, Tryz.ntmps14
  go_wp2_with fail
  go_ret
  exact ⟨rfl,rfl⟩
 have e:Hid (laneN k=9):=hyd (by unfold laneN;rw [if_neg (by omega),if_neg h4,if_neg (by omega),if_neg h12]);have b1:(k == 1)=false:=by simpa using h1
 have b2:(k == 2)=false:=by simpa using h2
 have b4:(k == 4)=false:=by simpa using h4
 have b8:(k == 8)=false:=by simpa using h8
 have b9:(k == 9)=false:=by simpa using h9
 have b10:(k == 10)=false:=by simpa using h10
 have b11:(k == 11)=false:=by simpa using h11
 have b12:(k == 12)=false:=by simpa using h12
 clear h1 h2 h4 h8 h9 h10 h11 h12
 go_enter Tryz.func14, Tryz.ntmps14
 go_wp2_with fail
 go_ret
 exact ⟨by rw [e.out];rfl,rfl⟩
theorem wpList_loadMidG {P:Program} {ops:Array Oper} {rest:List Oper} {op:Oper} {a:Act} {w:World} {Q:Exit->Act->World->Prop} (hw:Region.wanted op (yielded ops a.tmps)=true) (ty:TypeId) (x:Operand) (ho:op.op = .load ty x)
  (b o:Nat) (hx:a.eval x = .pointer (some ⟨b,o,none⟩)) (cs:List Value) (d:TypeDesc) (hc:w.rangeAt b o cs)
  (hu:P.underlying ty=some d) (hd:d.isRow=true) (hi:(P.info? ty).map (·.size)=some cs.length) (t:Option Tmp) (ht:op.dst=t)
  (h:wpList P ops Q rest (a.put t (.agg cs.toArray)) w):wpList P ops Q (op :: rest) a w:=by
 subst ht;exact wpList_ask hw fun K hK=>wp_load_mid ty x ho b o hx cs d hc hu hd hi (hK _ _ h)
theorem wpList_build1G {P:Program} {T e:TypeId} {NL:List Value} (hB:Build1 P T e NL) {ops:Array Oper} {rest:List Oper} {o:Oper} {a:Act} {w:World} {Q:Exit->Act->World->Prop} (hw:Region.wanted o (yielded ops a.tmps)=true) (x:Operand) (ho:o.op = .buildSlice T 1 #[(0,x)]) (hx:a.eval x = .agg NL.toArray)
  (d:Option Tmp) (hd:o.dst=d) (nb:Nat) (hnb:w.heap.size=nb) (h:wpList P ops Q rest (a.put d (.slice (some ⟨nb,0,none⟩) 1 1)) (w.alloc (.cells NL.toArray e))):wpList P ops Q (o :: rest) a w:=by
 subst hd hnb;exact wpList_ask hw fun K hK=>hB o a w K Q x ho hx (hK _ _ h)
def noteG (p:Pkt) (m:Msg):Note:=⟨0,0,0,⟨#[]⟩,p,m,⟨#[]⟩,false,0⟩
theorem built_noteG (p:Pkt) (m:Msg):Tryz.prog.built 79 [(4,.agg p.cells.toArray),(5,.agg #[.string m.t,.string m.p,.int .u8 m.q,.bool m.r])]=some (noteG p m).cells.toArray:=by
 obtain ⟨p0,p1,p2,p3,p4,p5,p6,p7,p8,p9,p10,p11,⟨m0,m1,m2,m3⟩,p13,p14,p15,p16,p17,p18,p19,p20,p21,p22⟩:=p;obtain ⟨n0,n1,n2,n3⟩:=m
 kernel_rfl
theorem item_g {w:World} {b:Nat} {x:Item} (h:w.heap[b]? = some (.cells x.cells.toArray 44 (0,0))) :
  w.cell? ⟨b,3,none⟩=some (.string x.client)/\w.cell? ⟨b,4,none⟩=some (.string x.filter)/\w.rangeAt b 5 x.pk.cells/\w.rangeAt b 29 [.string x.msg.t,.string x.msg.p,.int .u8 x.msg.q,.bool x.msg.r]/\w.cell? ⟨b,33,none⟩=some (.slice x.msA x.ms.length x.msC)/\w.cell? ⟨b,34,none⟩=some (.slice x.clsA x.cls.length x.clsC)/\w.cell? ⟨b,35,none⟩=some (.slice x.pksA x.pks.length x.pksC):=by
 refine ⟨cell_of_row w b 3 _ _ _ h,cell_of_row w b 4 _ _ _ h,?_,?_,cell_of_row w b 33 _ _ _ h,cell_of_row w b 34 _ _ _ h,cell_of_row w b 35 _ _ _ h⟩
 ·have e:x.cells = [.int .u8 x.kind,.int .i64 x.op,.int .i64 x.conn,.string x.client,.string x.filter]++(x.pk.cells++(x.msg.cells ++ [.slice x.msA x.ms.length x.msC,.slice x.clsA x.cls.length x.clsC,.slice x.pksA x.pks.length x.pksC,.int .i64 x.frm,.int .i64 x.many])):=rfl
  rw [e] at h;exact mid_cells h
 ·have e:x.cells=([.int .u8 x.kind,.int .i64 x.op,.int .i64 x.conn,.string x.client,.string x.filter]++x.pk.cells)++(x.msg.cells ++ [.slice x.msA x.ms.length x.msC,.slice x.clsA x.cls.length x.clsC,.slice x.pksA x.pks.length x.pksC,.int .i64 x.frm,.int .i64 x.many]):=by simp [Item.cells]
  rw [e] at h;exact mid_cells h
set_option maxRecDepth 100000
set_option maxHeartbeats 4000000
theorem great21 (a:Option Addr) (c:Nat) (l:List Item) (w:World) (ha:Row w a (itemsV l)) (hok:∀ x ∈ l,x.ok w) (hl:l.length<=maxLen) :
  Calls Tryz.prog 10 #[.slice a l.length c] w fun e w'=>(e = .returned (.bool true) \/ (e = .returned (.bool false)/\Hid (Sm21L l)))/\Below w.heap.size w w':=by
 have HA:=hyd ha;have HOK:=hyd hok;have hl2:(l.length:Int)<=9223372036854775807:=by unfold maxLen at hl;omega
 clear ha hok hl
 go_enter Tryz.func10, Tryz.ntmps10
 go_wp2_with fail
 go_loopw [3,4,5,6] (fun i _ _ _ wr => ∃ k:Nat,i = .int .i64 k/\k<=l.length/\Below w.heap.size w wr/\Hid (∀ x ∈ l.take k,Sm21 x)) (fun i _ _ _ _=>(l.length - intOf i).toNat)
 case atStart=>exact ⟨0,rfl,by omega,Below.refl _ _,hyd (by simp)⟩
 case round =>
  obtain ⟨k,rfl,hk,hb,HS⟩:=hrel
  by_cases hlt:k < l.length
  ·have hk0:(0:Int)<=k:=by omega
   have hkl:(k:Int) < l.length:=by omega
   have HB:=hyd hb;have HOX:=hyd (HOK.out _ (List.getElem_mem hlt));obtain ⟨b,o,rfl,hrg⟩:=row_mid (mk:=Item.cells) (m:=38) item_width (HA.out.below hb (Nat.le_refl _)) hlt (by decide);have HRG:=hyd hrg
   have HNX:Hid (Sm21 l[k] -> ∀ n ∈ l.take (k+1),Sm21 n):=hyd (fun h n hn=>by
    rw [List.take_succ_eq_append_getElem hlt] at hn
    rcases List.mem_append.1 hn with hn | hn
    ·exact HS.out n hn
    ·rw [List.mem_singleton.1 hn];exact h)
   generalize l[k]=x at *;clear hrg hb HS;have HLI:=hyd (item_size x);have HLZ:Hid ((Tryz.prog.info? 44).map (·.size)=some x.cells.toArray.size):=hyd (item_size x);have H38:Hid (∀ U:Array Value,U.size=38->U.size=x.cells.toArray.size):=hyd (fun U hU=>hU.trans rfl);have HON:=hyd (item_oneB x);have hx1:=heap_alloc_new wr (.cells x.cells.toArray 44);have hb1:=low_alloc wr (.cells x.cells.toArray 44);have HX1:=hyd hx1;have HB1:=hyd (bnext HB.out (Nat.le_refl _) hb1);have HIG:=hyd (fun (X:World) (hX:X.heap[wr.heap.size]? = some (.cells x.cells.toArray 44 (0,0)))=>item_g hX);clear hx1 hb1;generalize hIL:x.cells=IL at *;clear hIL
   go_upto_region 5 with (first
    | (refine wpList_loadMid rfl 44 _ rfl b (o+k * 38) rfl IL _ HRG.out Tryz.underlying44 rfl HLI.out _ rfl ?_)
    | (refine wpList_store_newTo rfl 44 _ _ rfl rfl wr.heap.size rfl IL.toArray _ rfl rfl HLZ.out (H38.out _ rfl) HON.out ?_)
    | fail)
   generalize wr.alloc (.cells IL.toArray 44)=w1 at *;generalize wr.heap.size=xb at *;obtain ⟨c3,c4,r5,r29,c33,c34,c35⟩:=HIG.out w1 HX1.out
   by_cases g1:(200:Int) < x.client.size
   ·clear c4 r5 r29 c33 c34 c35
    go_wp2_with fail
    go_ret
    exact ⟨.inl rfl,HB1.out⟩
   by_cases g2:(200:Int) < x.filter.size
   ·clear r5 r29 c33 c34 c35
    go_wp2_with fail
    go_ret
    exact ⟨.inl rfl,HB1.out⟩
   by_cases g3:(10:Int) < x.ms.length
   ·clear r5 r29 c34 c35
    go_wp2_with fail
    go_ret
    exact ⟨.inl rfl,HB1.out⟩
   by_cases g4:(10:Int) < x.cls.length
   ·clear r5 r29 c35
    go_wp2_with fail
    go_ret
    exact ⟨.inl rfl,HB1.out⟩
   obtain ⟨np,hnp⟩:∃ np,x.pks.length=np:=⟨_,rfl⟩;rw [hnp] at c35
   by_cases g5:(0:Int) < np
   ·clear r5 r29 hnp
    have g6:0 < np:=by omega
    have g7:(np:Int) ≠ 0:=by omega
    have g8:np ≠ 0:=by omega
    go_wp2_with fail
    go_ret
    exact ⟨.inl rfl,HB1.out⟩
   obtain rfl:np=0:=by omega
   have HSM:Hid (Sm17 x.pk x.msg->(∀ m ∈ x.ms,m.t.size<=200/\m.p.size<=200)->(∀ s ∈ x.cls,s.size<=200)->Sm21 x):=hyd (fun h1 h2 h3=>⟨by omega,by omega,by omega,by omega,List.eq_nil_of_length_eq_zero hnp,h1,h2,h3⟩);clear hnp g5;have HPL:=hyd (pkt_size' x.pk);have HML:Hid ((Tryz.prog.info? 36).map (·.size)=some ([.string x.msg.t,.string x.msg.p,.int .u8 x.msg.q,.bool x.msg.r]:List Value).length):=hyd (by kernel_rfl);have HBN:=hyd (fun (_:Unit)=>built_noteG x.pk x.msg);have HBS:=hyd (build_note (noteG x.pk x.msg));have hb2:=low_alloc w1 (.cells (noteG x.pk x.msg).cells.toArray 79);have hg:=great17_one (noteG x.pk x.msg) w1.heap.size 1 (w1.alloc (.cells (noteG x.pk x.msg).cells.toArray 79)) (range_blk (heap_alloc_new w1 _)) ((HOX.out.2.2.2.2.2.1.2.2.2.2.2.2.2.2.2.2.2.2.1.1.below HB1.out (Nat.le_refl _)).below hb2 (Nat.le_refl _)) (by have h9:=HOX.out.2.2.2.2.2.1.2.2.2.2.2.2.2.2.2.2.2.2.1.2;show x.pk.subs.length<=_;omega);have HG:=hyd hg;have HB2:=hyd (bnext HB1.out (Nat.le_refl _) hb2);have HB12:=hyd hb2;have HMS:=hyd (fun X (hX:Below w.heap.size w X)=>show Row X x.msA (msgs x.ms) from HOX.out.2.2.2.2.2.2.2.1.1.below hX (Nat.le_refl _))
   have HCS:=hyd (fun X (hX:Below w.heap.size w X)=>show Row X x.clsA (x.cls.map .string) from by
    have:=HOX.out.2.2.2.2.2.2.2.2.1.1.below hX (Nat.le_refl _)
    have e:x.cls.flatMap strCells=x.cls.map .string:=by
     induction x.cls with
     | nil=>rfl
     | cons a r ih=>rw [List.flatMap_cons,ih];rfl
    rw [e] at this
    exact this)
   clear hg hb2;have e17:(noteG x.pk x.msg).pk=x.pk/\(noteG x.pk x.msg).msg=x.msg:=⟨rfl,rfl⟩;rw [e17.1,e17.2] at HG;clear e17;generalize (noteG x.pk x.msg).cells=NL at *;generalize x.pk.cells=PL at *
   go_wp2_with (first
    | (refine wpList_loadMidG (by kernel_rfl) 39 _ rfl xb 5 rfl PL _ r5 Tryz.underlying39 rfl HPL.out _ rfl ?_)
    | (refine wpList_loadMidG (by kernel_rfl) 36 _ rfl xb 29 rfl [.string x.msg.t,.string x.msg.p,.int .u8 x.msg.q,.bool x.msg.r] _ r29 Tryz.underlying36 rfl HML.out _ rfl ?_)
    | (refine wpList_buildG (by kernel_rfl) 79 _ rfl _ rfl NL.toArray [(4,.agg PL.toArray),(5,.agg #[.string x.msg.t,.string x.msg.p,.int .u8 x.msg.q,.bool x.msg.r])] (by kernel_rfl) (HBN.out ()) ?_)
    | (refine wpList_build1G HBS.out (by kernel_rfl) _ rfl rfl _ rfl _ rfl ?_)
    | fail)
   refine HG.out.mono ?_;rintro e w3 ⟨he,hb3⟩;have HB3:=hyd (bnext HB2.out (Nat.le_refl _) hb3);have hbx:=bnext HB12.out (Nat.le_refl _) hb3;have d33:=(hbx.cell (World.block_lt_of_cell? _ _ c33)).trans c33;have d34:=(hbx.cell (World.block_lt_of_cell? _ _ c34)).trans c34;clear c3 c4 r5 r29 c33 c34 c35 hb3 hbx
   rcases he with rfl | ⟨rfl,HS17⟩
   ·go_wp2_with fail
    go_ret
    exact ⟨.inl rfl,HB3.out⟩
   have HM3:=hyd (HMS.out w3 HB3.out);have HC3:=hyd (HCS.out w3 HB3.out);generalize x.msA=ma at *;generalize x.msC=mc at *;generalize x.clsA=ca at *;generalize x.clsC=cc at *
   go_wp2_with fail
   go_loopw [5] (fun i wq => ∃ j:Nat,i = .int .i64 j/\j<=x.ms.length/\w3=wq/\Hid (∀ m ∈ x.ms.take j,m.t.size<=200/\m.p.size<=200)) (fun i _=>(x.ms.length - intOf i).toNat)
   case atStart=>exact ⟨0,rfl,by omega,rfl,hyd (by simp)⟩
   case round =>
    obtain ⟨j,rfl,hj,rfl,HT⟩:=hrel
    by_cases hjt:j < x.ms.length
    ·have hj0:(0:Int)<=j:=by omega
     have hjl:(j:Int) < x.ms.length:=by omega
     obtain ⟨mb,mo,rfl,hmr⟩:=row_mid (mk:=Msg.cells) (m:=4) (fun _=>rfl) HM3.out hjt (by decide);have m0:w3.cell? ⟨mb,mo+j * 4,none⟩=some (.string x.ms[j].t):=hmr 0 _ rfl;have m1:w3.cell? ⟨mb,mo+j * 4+1,none⟩=some (.string x.ms[j].p):=hmr 1 _ rfl
     have HNM:Hid (¬ (200:Int) < x.ms[j].t.size -> ¬ (200:Int) < x.ms[j].p.size -> ∀ m ∈ x.ms.take (j+1),m.t.size<=200/\m.p.size<=200):=hyd (fun h1 h2 m hm=>by
      rw [List.take_succ_eq_append_getElem hjt] at hm
      rcases List.mem_append.1 hm with hm | hm
      ·exact HT.out m hm
      ·rw [List.mem_singleton.1 hm];omega)
     clear hmr;generalize x.ms[j].t=mt at *;generalize x.ms[j].p=mp at *
     by_cases q1:(200:Int) < mt.size
     ·go_wp2_with fail
      go_ret
      exact ⟨.inl rfl,HB3.out⟩
     by_cases q2:(200:Int) < mp.size
     ·go_wp2_with fail
      go_ret
      exact ⟨.inl rfl,HB3.out⟩
     have HX:=hyd (HNM.out q1 q2)
     go_wp2_with fail
     go_roundw
     case rel=>exact ⟨j+1,by go_num,by omega,by first | rfl | trivial,HX⟩
     case measure=>simp [intOf];omega
    ·obtain rfl:j=x.ms.length:=by omega
     have hjl:¬ (x.ms.length:Int) < x.ms.length:=by omega
     have HT2:Hid (∀ m ∈ x.ms,m.t.size<=200/\m.p.size<=200):=hyd (by rw [List.take_length] at HT;exact HT.out);clear HT
     go_wp2_with fail
     go_loopw [6] (fun i wq => ∃ j:Nat,i = .int .i64 j/\j<=x.cls.length/\w3=wq/\Hid (∀ s ∈ x.cls.take j,s.size<=200)) (fun i _=>(x.cls.length - intOf i).toNat)
     case atStart=>exact ⟨0,rfl,by omega,rfl,hyd (by simp)⟩
     case round =>
      obtain ⟨j,rfl,hj,rfl,HT⟩:=hrel
      by_cases hjt:j < x.cls.length
      ·have hj0:(0:Int)<=j:=by omega
       have hjl2:(j:Int) < x.cls.length:=by omega
       obtain ⟨cb,co,rfl,m0⟩:=HC3.out.at (j:=j) (u:=.string x.cls[j]) (by simp [hjt])
       have HNM:Hid (¬ (200:Int) < x.cls[j].size -> ∀ s ∈ x.cls.take (j+1),s.size<=200):=hyd (fun h1 s hs=>by
        rw [List.take_succ_eq_append_getElem hjt] at hs
        rcases List.mem_append.1 hs with hs | hs
        ·exact HT.out s hs
        ·rw [List.mem_singleton.1 hs];omega)
       generalize x.cls[j]=sj at *
       by_cases q1:(200:Int) < sj.size
       ·go_wp2_with fail
        go_ret
        exact ⟨.inl rfl,HB3.out⟩
       have HX:=hyd (HNM.out q1)
       go_wp2_with fail
       go_roundw
       case rel=>exact ⟨j+1,by go_num,by omega,by first | rfl | trivial,HX⟩
       case measure=>simp [intOf];omega
      ·obtain rfl:j=x.cls.length:=by omega
       have hjl2:¬ (x.cls.length:Int) < x.cls.length:=by omega
       have HX:Hid (∀ n ∈ l.take (k+1),Sm21 n):=hyd (HNX.out (HSM.out HS17.out HT2.out (by rw [List.take_length] at HT;exact HT.out)))
       go_wp2_with fail
       go_roundw
       case rel=>exact ⟨k+1,by go_num,by omega,HB3.out,HX⟩
       case measure=>simp [intOf];omega
  ·have hkl:¬ (k:Int) < l.length:=by omega
   obtain rfl:k=l.length:=by omega
   have HB:=hyd hb;rw [List.take_length] at HS
   by_cases g:(80:Int) < l.length
   ·go_wp2_with fail
    go_ret
    exact ⟨.inl (by simp),HB.out⟩
   ·have HX:Hid (Sm21L l):=hyd ⟨by omega,HS.out⟩
    go_wp2_with fail
    go_ret
    exact ⟨.inr (by first | exact ⟨rfl,HX⟩ | rfl | simp),HB.out⟩
end
end Go.Proofs.YtcekcoepdhnfgaaGreatDoor
