/- HomeLanes, walked. -/
import Derived.Test.YtcekcoepdhnfgaaGreatDoorHKX
import Derived.Test.YtcekcoepdhnfgaaGreatDoorHPl
import Derived.Deep.CutRange
import Derived.Deep.CutBlock
namespace Go.Proofs.YtcekcoepdhnfgaaGreatDoor
section
open Go Go.RowKit Go.Maps Go.Lib
theorem pk_below {W W':World} {p:Pkt} (h:p.ok W) (hb:Below W.heap.size W W'):p.ok W':=by
 obtain ⟨h1,h2,h3,h4,h5,h6,h7,h8,h9,h10,h11,h12,⟨r,r2⟩,h14⟩:=h;exact ⟨h1,h2,h3,h4,h5,h6,h7,h8,h9,h10,h11,h12,⟨r.below hb (Nat.le_refl _),r2⟩,h14⟩
theorem item_below {W W':World} {x:Item} (h:x.ok W) (hb:Below W.heap.size W W'):x.ok W':=by
 obtain ⟨h1,h2,h3,h4,h5,h6,h7,⟨r1,r2⟩,⟨s1,s2⟩,⟨t1,t2,t3,t4⟩,h11,h12⟩:=h;exact ⟨h1,h2,h3,h4,h5,pk_below h6 hb,h7,⟨r1.below hb (Nat.le_refl _),r2⟩,⟨s1.below hb (Nat.le_refl _),s2⟩,⟨t1.below hb (Nat.le_refl _),t2,t3,fun y hy=>pk_below (t4 y hy) hb⟩,h11,h12⟩
theorem item_beside {W w:World} {x:Item} {F:List Nat} (h:x.ok W) (hb:Below W.heap.size W w) (hF:∀ k ∈ F,W.heap.size<=k):ItB w F x:=by
 obtain ⟨-,-,-,-,-,⟨-,-,-,-,-,-,-,-,-,-,-,-,⟨r,-⟩,-⟩,-,⟨r1,-⟩,⟨s1,-⟩,-⟩:=h
 have e:x.cls.flatMap strCells=x.cls.map .string:=by
  induction x.cls with
  | nil=>rfl
  | cons a r ih=>rw [List.flatMap_cons,ih];rfl
 rw [e] at s1;exact ⟨Beside.base r hb hF,Beside.base r1 hb hF,Beside.base s1 hb hF⟩
theorem HOk.seatsC {t:Tn} (h:HOk t):SeatsC t:=fun z hz=>⟨(h.seat z hz).s.conn.1,fun k left hb=>by
 have hw:=(h.seat z hz).w k left hb
 cases k with
 | close y old=>exact ⟨hw.2.1,hw.2.2.2.2.1⟩
 | att y pres=>exact hw.2.1
 | sub y codes kept=>exact hw.2.1
 | uns y=>exact hw.2.1
 | flow op=>trivial
 | fin y clean=>exact hw.2.1⟩
theorem HOk.flowsC {t:Tn} (h:HOk t):FlowsC t:=fun f hf=>(h.flow f hf).conn.1
structure LaneF (n:Nat) (k:Int) (m:HMl):Prop where
 kind:m.it.kind=3/\m.lane=2 \/ (m.it.kind=5 \/ m.it.kind=6 \/ m.it.kind=7)/\m.lane=4 \/ m.it.kind=12/\m.lane=6 \/ (m.it.kind=13 \/ m.it.kind=14 \/ m.it.kind=15)/\m.lane=7
 d0:0<=m.dest
 d1:m.dest < n
 gt:laneN k < m.lane
 l3:laneN k=3->4<=m.lane
 l5:laneN k=5->6<=m.lane
theorem lane_f {n:Nat} {k:Int} {m:HMl} (h:LaneP n k m):LaneF n k m:=by
 have key:(m.it.kind=3/\m.lane=2 \/ (m.it.kind=5 \/ m.it.kind=6 \/ m.it.kind=7)/\m.lane=4 \/ m.it.kind=12/\m.lane=6 \/ (m.it.kind=13 \/ m.it.kind=14 \/ m.it.kind=15)/\m.lane=7)/\0<=m.dest/\m.dest < n/\laneN k < m.lane/\(laneN k=3->4<=m.lane)/\(laneN k=5->6<=m.lane):=by
  unfold LaneP To47 To2 To4 To6 To7 at h;unfold laneN
  split at h
  ·rename_i h1
   rw [if_pos h1];omega
  ·rename_i h1
   rw [if_neg h1]
   split at h
   ·rename_i h4
    rw [if_pos h4];omega
   ·rename_i h4
    rw [if_neg h4]
    split at h
    ·rename_i h12
     rw [if_neg (by omega),if_pos h12];omega
    ·rename_i h12
     rw [if_pos (by omega)];omega
 exact ⟨key.1,key.2.1,key.2.2.1,key.2.2.2.1,key.2.2.2.2.1,key.2.2.2.2.2⟩
theorem All2.mem {α β:Type} {R:α -> β->Prop}:∀ {l:List α} {m:List β},All2 R l m -> ∀ a ∈ l,∃ b ∈ m,R a b
 | [],_,_,a,ha=>by cases ha
 | x :: r,[],h,_,_=>h.elim
 | x :: r,y :: s,h,a,ha=>by
  rcases List.mem_cons.1 ha with rfl | ha
  ·exact ⟨y,by simp,h.1⟩
  ·obtain ⟨b,hb,hr⟩:=All2.mem h.2 a ha
   exact ⟨b,by simp [hb],hr⟩
theorem heard_lanes {c:HCfg} (hn:1<=c.n) {ad:HAd} {F:List Nat} {w w':World} {x:Item} {T:Tn} {mv:Value} (hok:HOk T) (h:Heard c ad [] F w (hearT c x T.begin) mv w') :
  ∃ L am cm,mv = .slice am L.length cm/\Row w' am (hmlsV L)/\L.length<=maxLen /\ ∀ m ∈ L,LaneF c.n x.kind m:=by
 obtain ⟨ad',L,F',-,-,-,ho,ha,-⟩:=h;obtain ⟨am,cm,rfl,hr,h1,h2⟩:=ownsRow_row ho;have hok':HOk T.begin:=hok.of rfl rfl;obtain ⟨new,hnew,hP⟩:=hear_lanes hn (x:=x) hok'.seatsC hok'.flowsC;refine ⟨L,am,cm,rfl,hr,Nat.le_trans h1 h2,fun m hm => ?_⟩;obtain ⟨h9,hh,h10,h11,a,cp,h12,-⟩:=All2.mem ha m hm;rw [hnew] at hh;have hl:=lane_f (hP h9 (by simpa [Tn.begin] using hh));have hk:m.it.kind=h9.it.kind:=by rw [h12]
 obtain ⟨k1,k2,k3,k4,k5,k6⟩:=hl;exact ⟨by rw [hk,h11];exact k1,by rw [h10];exact k2,by rw [h10];exact k3,by rw [h11];exact k4,by rw [h11];exact k5,by rw [h11];exact k6⟩
theorem may_cfg {n mail packet most win worker:Int} (hw:-9223372036854775808<=worker/\worker<=9223372036854775807) (h:(1<=n/\n<=64)/\(1<=IntKind.i64.wrap (worker+1)/\IntKind.i64.wrap (worker+1)<=n)/\(1<=win/\win<=1024)/\(1<=most/\most<=1024)) :
  ∃ c:HCfg,n=(c.n:Int)/\mail=c.mail/\packet=c.packet/\most=c.most/\win=c.win/\worker=(c.me:Int)/\COk c/\c.me < c.n:=by
 obtain ⟨h1,h2,h3,h4⟩:=h
 have hm:worker ≠ 9223372036854775807:=fun e=>by
  subst e;have:IntKind.i64.wrap (9223372036854775807+1) = -9223372036854775808:=by decide
  omega
 rw [w_i64 _ (by omega) (by omega)] at h2;exact ⟨⟨n.toNat,mail,packet,most,win,worker.toNat⟩,by show n=(n.toNat:Int);omega,rfl,rfl,rfl,rfl,by show worker=(worker.toNat:Int);omega,⟨by show 1<=n.toNat;omega,by show n.toNat<=64;omega,h4,h3⟩,by show worker.toNat < n.toNat;omega⟩
set_option maxRecDepth 100000
set_option maxHeartbeats 4000000
theorem homeLanes_no (n mail packet most win worker:Int) (a:Option Addr) (c:Nat) (l:List Item) (W:World) (hr:Row W a (itemsV l)) (hok:∀ x ∈ l,x.ok W) (hl:l.length<=maxLen) (hK:Keeps W)
  (hno:¬ ((1<=n/\n<=64)/\(1<=IntKind.i64.wrap (worker+1)/\IntKind.i64.wrap (worker+1)<=n)/\(1<=win/\win<=1024)/\(1<=most/\most<=1024))) :
  Calls Tryz.prog 3 #[.agg #[.int .i64 n,.int .i64 mail,.int .i64 packet,.int .i64 most,.int .i64 win],.int .i64 worker,.slice a l.length c] W fun e W'=>e = .returned (.bool true)/\Below W.heap.size W W':=by
 have HNO:=hyd (fun X=>new_no n mail packet most win worker X hno);have HGR:=hyd (fun X (hX:Below W.heap.size W X)=>great21 a c l X (hr.below hX (Nat.le_refl _)) (fun x hx=>item_below (hok x hx) hX) hl);have HAW:=hyd (fun X (hX:Below W.heap.size W X)=>awake_any W X hK hX);have hx0:=heap_alloc_new W (.cells #[.int .i64 n,.int .i64 mail,.int .i64 packet,.int .i64 most,.int .i64 win] 23);have hb0:=low_alloc W (.cells #[.int .i64 n,.int .i64 mail,.int .i64 packet,.int .i64 most,.int .i64 win] 23);have HCS:Hid ((Tryz.prog.info? 23).map (·.size)=some (#[Value.int .i64 n,.int .i64 mail,.int .i64 packet,.int .i64 most,.int .i64 win]:Array Value).toList.length):=hyd (by kernel_rfl);obtain ⟨V,hV⟩:∃ V,W.alloc (.cells #[.int .i64 n,.int .i64 mail,.int .i64 packet,.int .i64 most,.int .i64 win] 23)=V:=⟨_,rfl⟩;rw [hV] at hx0 hb0;have HX0:=hyd hx0;have HB0:=hyd hb0;have HV:=hyd hV;clear hno hr hok hl hK hx0 hb0 hV
 go_enter Tryz.func3, Tryz.ntmps3
 go_upto_region 1 with fail
 rw [HV.out]
 go_wp2_with (first
  | (refine wpList_load_row rfl 23 _ rfl W.heap.size rfl 23 _ _ _ HX0.out Tryz.underlying23 rfl HCS.out ?_)
  | fail)
 refine (HNO.out V).mono ?_;rintro e w2 ⟨rfl,hb2⟩;have HB2:=hyd (bnext HB0.out (Nat.le_refl _) hb2);clear hb2
 go_wp2_with fail
 refine (HGR.out w2 HB2.out).mono ?_;rintro e w3 ⟨he,hb3⟩;have HB3:=hyd (bnext HB2.out (Nat.le_refl _) hb3);clear hb3;have he2:e = .returned (.bool true) \/ e = .returned (.bool false):=he.imp id fun h=>h.1
 clear he
 rcases he2 with rfl | rfl
 all_goals
  go_wp2_with fail
  refine (HAW.out w3 HB3.out).mono ?_;rintro e w4 ⟨rfl,hb4⟩;have HB4:=hyd (bnext HB3.out (Nat.le_refl _) hb4);clear hb4
  go_wp2_with fail
  go_ret
  exact ⟨rfl,HB4.out⟩
end
section
open Go Go.RowKit Go.Maps Go.Lib
set_option maxRecDepth 100000
set_option maxHeartbeats 8000000
theorem homeLanes_yes (cf:HCfg) (a:Option Addr) (c:Nat) (l:List Item) (W:World) (hr:Row W a (itemsV l)) (hok:∀ x ∈ l,x.ok W) (hl:l.length<=maxLen) (hK:Keeps W) (hc:COk cf) (hme:cf.me < cf.n) :
  Calls Tryz.prog 3 #[.agg #[.int .i64 cf.n,.int .i64 cf.mail,.int .i64 cf.packet,.int .i64 cf.most,.int .i64 cf.win],.int .i64 cf.me,.slice a l.length c] W fun e W'=>e = .returned (.bool true)/\Below W.heap.size W W':=by
 have HYES:=hyd (fun X=>new_yes cf X hc.n1 hc.n2 hme hc.win.1 hc.win.2 hc.most.1 hc.most.2);have HGR:=hyd (fun X (hX:Below W.heap.size W X)=>great21 a c l X (hr.below hX (Nat.le_refl _)) (fun x hx=>item_below (hok x hx) hX) hl);have HAW:=hyd (fun X (hX:Below W.heap.size W X)=>awake_any W X hK hX);have hx0:=heap_alloc_new W (.cells #[.int .i64 cf.n,.int .i64 cf.mail,.int .i64 cf.packet,.int .i64 cf.most,.int .i64 cf.win] 23);have hb0:=low_alloc W (.cells #[.int .i64 cf.n,.int .i64 cf.mail,.int .i64 cf.packet,.int .i64 cf.most,.int .i64 cf.win] 23);have HCS:Hid ((Tryz.prog.info? 23).map (·.size)=some (#[Value.int .i64 cf.n,.int .i64 cf.mail,.int .i64 cf.packet,.int .i64 cf.most,.int .i64 cf.win]:Array Value).toList.length):=hyd (by kernel_rfl);obtain ⟨V,hV⟩:∃ V,W.alloc (.cells #[.int .i64 cf.n,.int .i64 cf.mail,.int .i64 cf.packet,.int .i64 cf.most,.int .i64 cf.win] 23)=V:=⟨_,rfl⟩;rw [hV] at hx0 hb0;have hsV:W.heap.size < V.heap.size:=(Array.getElem?_eq_some_iff.1 hx0).1;have HHE:=hyd (fun ad T F X x k (h:HomeAt cf ad X T [] F) (hB:Base V X F) (hi:HInv k T) (hk:k<=80) (hx:ItOk x) (hib:ItB X ([]++F) x)=>hear_any V (hK.below hb0) cf hc ad T [] F X x k h hB hi hk hx hib);have HX0:=hyd hx0;have HB0:=hyd hb0;have HV:=hyd hV;have HSV:=hyd hsV;have HRA:=hyd hr;have HOK:=hyd hok
 have HC:=hyd hc
 have hcw:∀ X,Below V.heap.size V X->X.cell? ⟨W.heap.size,0,none⟩=some (.int .i64 cf.n):=fun X hX=>by
  have h9:=cell_of_row V W.heap.size 0 _ _ _ hx0;exact (hX.cell hsV).trans (h9.trans rfl)
 have HCW:=hyd hcw;have hl2:(l.length:Int)<=9223372036854775807:=by unfold maxLen at hl;omega
 clear hr hok hl hK hx0 hb0 hV hc hme hsV hcw
 go_enter Tryz.func3, Tryz.ntmps3
 go_upto_region 1 with fail
 rw [HV.out]
 go_wp2_with (first
  | (refine wpList_load_row rfl 23 _ rfl W.heap.size rfl 23 _ _ _ HX0.out Tryz.underlying23 rfl HCS.out ?_)
  | fail)
 refine (HYES.out V).mono ?_;rintro e w2 ⟨hb,ms,mf,rfl,hn,hb2,hl1,hl3,hl4⟩;have HN:=hyd hn;have HB2:=hyd (bnext HB0.out (Nat.le_refl _) hb2);have HV2:=hyd hb2;have HLL:=hyd (And.intro hl1 (And.intro hl3 hl4));clear hn hb2 hl1 hl3 hl4
 go_wp2_with fail
 refine (HGR.out w2 HB2.out).mono ?_;rintro e w3 ⟨he,hb3⟩;have HB3:=hyd (bnext HB2.out (Nat.le_refl _) hb3);have HV3:=hyd (bnext HV2.out (Nat.le_refl _) hb3);have HN3:=hyd (show HomeNew cf w3 hb ms mf from HN.out.below hb3);clear hb3 HN
 rcases he with rfl | ⟨rfl,HSM⟩
 ·go_wp2_with fail
  refine (HAW.out w3 HB3.out).mono ?_;rintro e w4 ⟨rfl,hb4⟩;have HB4:=hyd (bnext HB3.out (Nat.le_refl _) hb4);clear hb4
  go_wp2_with fail
  go_ret
  exact ⟨rfl,HB4.out⟩
 go_wp2_with fail
 refine (lognew_any w3).mono ?_;rintro e w4 ⟨rfl,hw4⟩;have hb4:=low_alloc w3 (.cells #[.slice none 0 0,.int .i64 0] 97);have hx4:=heap_alloc_new w3 (.cells #[.slice none 0 0,.int .i64 0] 97);rw [hw4] at hb4 hx4;have h0:=HN3.out.withLog hb4 hx4
 have hB4:Base V w4 [w3.heap.size,hb,ms,mf]:=⟨bnext HV3.out (Nat.le_refl _) hb4,fun k hk=>by
  have h1:=HLL.out;have h2:=HV3.out.size;simp only [List.mem_cons,List.not_mem_nil,or_false] at hk
  omega⟩
 have H0:=hyd h0;have HB4:=hyd hB4;have HBW4:=hyd (bnext HB3.out (Nat.le_refl _) hb4);clear hw4 hb4 hx4 h0 hB4;generalize w3.heap.size=lg at *
 go_wp2_with fail
 go_loopw [9,10,11,12,13] (fun i _ _ _ _ wr => ∃ (k:Nat) (T:Tn) (ad:HAd) (F:List Nat),i = .int .i64 k/\k<=l.length/\HomeAt cf ad wr T [] F/\Base V wr F/\HInv k T/\ad.hb=hb/\ad.lg=lg) (fun i _ _ _ _ _=>(l.length - intOf i).toNat)
 case atStart=>exact ⟨0,Tn.new,adN hb lg ms mf,[lg,hb,ms,mf],rfl,by omega,H0.out,HB4.out,HInv.new,rfl,rfl⟩
 case round =>
  obtain ⟨k,T,ad,F,rfl,hk,hh,hB,hi,he1,he2⟩:=hrel;have HBW:=hyd (bnext HB0.out (Nat.le_refl _) hB.1)
  by_cases hlt:k < l.length
  ·have hk0:(0:Int)<=k:=by omega
   have hkl:(k:Int) < l.length:=by omega
   obtain ⟨b,o,rfl,hrg0⟩:=row_mid (mk:=Item.cells) (m:=38) item_width HRA.out hlt (by decide);have hrg:wr.rangeAt b (o+k * 38) l[k].cells:=fun j v hj=>(HBW.out.cell (World.block_lt_of_cell? _ _ (hrg0 j v hj))).trans (hrg0 j v hj)
   have HRG:=hyd hrg;have hsm:=HSM.out.2 _ (List.getElem_mem hlt);have hox:=HOK.out _ (List.getElem_mem hlt);have hio:=itOk_of hox hsm;have h80:k<=80:=by have:=HSM.out.1;omega
   have HHC0:=HHE.out ad T F wr l[k] k hh hB hi h80 hio (item_beside hox HBW.out (fun q hq=>Nat.le_trans (Nat.le_of_lt HSV.out) (hB.2 q (by simpa using hq))));rw [he1,he2] at HHC0;have HHC:=hyd HHC0;have HIN:=hyd (hi.begin.hear HC.out.n1 HC.out.n2 (by omega) hio hsm.nms hsm.ncls);have HBB:=hyd hB;have HAE:=hyd (And.intro he1 he2);have HIO:=hyd hi.ok;have HLZ:=hyd (item_size l[k])
   have hkd:∀ X,Below W.heap.size W X->X.cell? ⟨b,o+k * 38,none⟩=some (.int .u8 l[k].kind):=fun X hX=>by
    have h9:W.cell? ⟨b,o+k * 38,none⟩=some (.int .u8 l[k].kind):=hrg0 0 _ rfl;exact (hX.cell (World.block_lt_of_cell? _ _ h9)).trans h9
   have HKD:=hyd hkd;clear hh hB hi he1 he2 hrg hrg0 hsm hox hio HHC0 hkd h80;generalize l[k]=x at *;generalize x.cells=IL at *
   go_wp2_with (first
    | (refine wpList_loadMid rfl 44 _ rfl b (o+k * 38) rfl IL _ HRG.out Tryz.underlying44 rfl HLZ.out _ rfl ?_)
    | fail)
   refine HHC.out.mono ?_;rintro e w6 ⟨mv,rfl,hhd⟩;obtain ⟨L,am,cm,rfl,hrow,hll,hlane⟩:=heard_lanes HC.out.n1 HIO.out hhd;obtain ⟨ad',L',F',hlk,hh',hu',-⟩:=hhd;have H6:=hyd hh';have HB6:=hyd (HBB.out.upd hu');have HAE6:Hid (ad'.hb=hb/\ad'.lg=lg):=hyd ⟨hlk.1.trans HAE.out.1,hlk.2.1.trans HAE.out.2⟩;have HROW:=hyd hrow;have HLN:=hyd hlane;have hL2:(L.length:Int)<=9223372036854775807:=by unfold maxLen at hll;omega
   have HBW6:=hyd (bnext HB0.out (Nat.le_refl _) HB6.out.1);have HLA0:=fun X=>lane_any x.kind X
   have hlane2:∀ m ∈ L,(m.it.kind=3/\m.lane=2 \/ (m.it.kind=5 \/ m.it.kind=6 \/ m.it.kind=7)/\m.lane=4 \/ m.it.kind=12/\m.lane=6 \/ (m.it.kind=13 \/ m.it.kind=14 \/ m.it.kind=15)/\m.lane=7)/\0<=m.dest/\m.dest < (cf.n:Int)/\laneN x.kind < m.lane/\(laneN x.kind=3->4<=m.lane)/\(laneN x.kind=5->6<=m.lane):=fun m hm=>⟨(hlane m hm).kind,(hlane m hm).d0,(hlane m hm).d1,(hlane m hm).gt,(hlane m hm).l3,(hlane m hm).l5⟩
   generalize laneN x.kind=ln at *;have HLA:=hyd HLA0;have HLN2:=hyd hlane2;generalize x.kind=kx at *;clear hlane hrow hh' hu' hlk hll HLN hlane2 HLA0 HRG HLZ HHC
   go_wp2_with fail
   go_loopw [12,13] (fun i _ wq => ∃ j:Nat,i = .int .i64 j/\j<=L.length/\Below w6.heap.size w6 wq) (fun i _ _=>(L.length - intOf i).toNat)
   case atStart=>exact ⟨0,rfl,by omega,Below.refl _ _⟩
   case round =>
    obtain ⟨j,rfl,hj,hbq⟩:=hrel;have HBQ:=hyd hbq;clear hbq
    by_cases hjt:j < L.length
    ·have hj0:(0:Int)<=j:=by omega
     have hjl:(j:Int) < L.length:=by omega
     obtain ⟨mb,mo,rfl,hmr⟩:=row_mid (mk:=HMl.cells) (m:=40) hml_width (HROW.out.below HBQ.out (Nat.le_refl _)) hjt (by decide);have hmc:=hml_c hmr;have m0:=hmc.dest;have m1:=hmc.lane;have m2:=hmc.kind;have hf:=HLN2.out _ (List.getElem_mem hjt);clear hmr hmc;generalize L[j].it.kind=kd at *;generalize L[j].lane=lv at *;generalize L[j].dest=dv at *
     go_upto_block 4 with fail
     go_cut [13] from 41 to 125 (fun t wx=>t = .int .i64 lv/\wx=wr)
     case first =>
      rcases hf.1 with ⟨rfl,rfl⟩ | ⟨rfl | rfl | rfl,rfl⟩ | ⟨rfl,rfl⟩ | ⟨rfl | rfl | rfl,rfl⟩
      all_goals
       clear hf m0 m1
       go_wp2_with fail
       go_meet
       exact ⟨rfl,rfl⟩
     case rest =>
     obtain ⟨rfl,rfl⟩:=hcut;have HS:Hid ((fun X:World=>X.cell? ⟨mb,mo+j * 40,none⟩=some (.int .i64 dv)/\X.cell? ⟨mb,mo+j * 40+1,none⟩=some (.int .i64 lv)/\X.cell? ⟨b,o+k * 38,none⟩=some (.int .u8 kx)/\X.cell? ⟨W.heap.size,0,none⟩=some (.int .i64 cf.n)) wc.drew):=hyd ⟨m0,m1,HKD.out wc.drew (bnext HBW6.out (Nat.le_refl _) HBQ.out).drew,HCW.out wc.drew (bnext HB6.out.1 (Nat.le_refl _) HBQ.out).drew⟩;have hd0:¬ dv < 0:=by have:=hf.2.1;omega
     have hd1:¬ (cf.n:Int)<=dv:=by have:=hf.2.2.1;omega
     have hgt:¬ lv<=ln:=by have:=hf.2.2.2.1;omega
     clear m0 m1 m2
     go_upto_region 26 with fail
     by_cases h3:ln=3
     ·obtain rfl:ln=3:=h3
      have hl4:¬ lv < 4:=by have:=hf.2.2.2.2.1 rfl;omega
      clear hf;refine wp_region_held_drew (S:=fun X=>X.cell? ⟨mb,mo+j * 40,none⟩=some (.int .i64 dv)/\X.cell? ⟨mb,mo+j * 40+1,none⟩=some (.int .i64 lv)/\X.cell? ⟨b,o+k * 38,none⟩=some (.int .u8 kx)/\X.cell? ⟨W.heap.size,0,none⟩=some (.int .i64 cf.n)) (by kernel_rfl) HS.out (fun hHeld => ?_);refine tA 0 (h:=tA 1 (h:=tA 2 (h:=tA 3 (h:=tA 4 (h:=tA 5 (h:=tA 6 (h:=tA 7 (h:=tA 8 (h:=tA 9 (h:=tA 10 (h:=tA 11 (h:=tA 12 (h:=tA 13 (h:=?_))))))))))))));simp only [tks];refine wpAnyH_ready (rs:=[14]) (by kernel_rfl) (by simp) ?_;refine AllReadyH.cons rfl (fun K hK => ?_) AllReadyH.nil;rw [if_pos (by rfl)];go_simp
      go_at_call 14
      refine (HLA.out _).mono ?_;rintro e w7 ⟨rfl,rfl⟩;refine hK.out _ _ HS.out (fun hHeld => ?_);refine tA 15 (h:=tA 16 (h:=tA 17 (h:=tA 18 (h:=tA 19 (h:=tA 20 (h:=tA 21 (h:=tA 22 (h:=tA 23 (h:=tA 24 (h:=tA 25 (h:=tA 26 (h:=tA 27 (h:=tA 28 (h:=tA 29 (h:=tA 30 (h:=tA 31 (h:=tA 32 (h:=tA 33 (h:=tA 34 (h:=tA 35 (h:=tA 36 (h:=tA 37 (h:=tA 38 (h:=tA 39 (h:=tA 40 (h:=?_))))))))))))))))))))))))));simp only [tks];refine wpAnyH_ready (rs:=[41]) (by kernel_rfl) (by simp) ?_;refine AllReadyH.cons rfl (fun K hK => ?_) AllReadyH.nil;rw [if_pos (by rfl)];go_simp
      go_at_call 14
      refine (HLA.out _).mono ?_;rintro e w7 ⟨rfl,rfl⟩;refine hK.out _ _ HS.out (fun hHeld => ?_);refine tA 42 (h:=tA 43 (h:=tA 44 (h:=tA 45 (h:=tA 46 (h:=tA 47 (h:=tA 48 (h:=tA 49 (h:=tA 50 (h:=tA 51 (h:=tA 52 (h:=tA 53 (h:=?_))))))))))));simp only [tks];refine wpAnyH_ready (rs:=[54]) (by kernel_rfl) (by simp) ?_;refine AllReadyH.cons rfl (fun K hK => ?_) AllReadyH.nil;rw [if_pos (by rfl)];go_simp
      go_at_call 14
      refine (HLA.out _).mono ?_;rintro e w7 ⟨rfl,rfl⟩;refine hK.out _ _ HS.out (fun hHeld => ?_);refine tA 55 (h:=tA 56 (h:=sA 57 (h:=sA 58 (h:=tA 59 (h:=tA 60 (h:=?_))))));simp only [tks];refine wpAnyH_done (by kernel_rfl) ?_ _;clear hHeld HS
      go_wp2_with fail
      go_roundw
      case rel=>exact ⟨j+1,by go_num,by omega,HBQ.out.drew⟩
      case measure=>simp [intOf];omega
     by_cases h5:ln=5
     ·obtain rfl:ln=5:=h5
      have hl6:¬ lv < 6:=by have:=hf.2.2.2.2.2 rfl;omega
      clear hf;refine wp_region_held_drew (S:=fun X=>X.cell? ⟨mb,mo+j * 40,none⟩=some (.int .i64 dv)/\X.cell? ⟨mb,mo+j * 40+1,none⟩=some (.int .i64 lv)/\X.cell? ⟨b,o+k * 38,none⟩=some (.int .u8 kx)/\X.cell? ⟨W.heap.size,0,none⟩=some (.int .i64 cf.n)) (by kernel_rfl) HS.out (fun hHeld => ?_);refine tA 0 (h:=tA 1 (h:=tA 2 (h:=tA 3 (h:=tA 4 (h:=tA 5 (h:=tA 6 (h:=tA 7 (h:=tA 8 (h:=tA 9 (h:=tA 10 (h:=tA 11 (h:=tA 12 (h:=tA 13 (h:=?_))))))))))))));simp only [tks];refine wpAnyH_ready (rs:=[14]) (by kernel_rfl) (by simp) ?_;refine AllReadyH.cons rfl (fun K hK => ?_) AllReadyH.nil;rw [if_pos (by rfl)];go_simp
      go_at_call 14
      refine (HLA.out _).mono ?_;rintro e w7 ⟨rfl,rfl⟩;refine hK.out _ _ HS.out (fun hHeld => ?_);refine tA 15 (h:=tA 16 (h:=tA 17 (h:=tA 18 (h:=tA 19 (h:=tA 20 (h:=tA 21 (h:=tA 22 (h:=tA 23 (h:=tA 24 (h:=tA 25 (h:=tA 26 (h:=tA 27 (h:=tA 28 (h:=tA 29 (h:=tA 30 (h:=tA 31 (h:=tA 32 (h:=tA 33 (h:=tA 34 (h:=tA 35 (h:=tA 36 (h:=tA 37 (h:=tA 38 (h:=tA 39 (h:=tA 40 (h:=?_))))))))))))))))))))))))));simp only [tks];refine wpAnyH_ready (rs:=[41]) (by kernel_rfl) (by simp) ?_;refine AllReadyH.cons rfl (fun K hK => ?_) AllReadyH.nil;rw [if_pos (by rfl)];go_simp
      go_at_call 14
      refine (HLA.out _).mono ?_;rintro e w7 ⟨rfl,rfl⟩;refine hK.out _ _ HS.out (fun hHeld => ?_);refine tA 42 (h:=tA 43 (h:=sA 44 (h:=sA 45 (h:=tA 46 (h:=tA 47 (h:=tA 48 (h:=tA 49 (h:=tA 50 (h:=tA 51 (h:=tA 52 (h:=tA 53 (h:=?_))))))))))));simp only [tks];refine wpAnyH_ready (rs:=[54]) (by kernel_rfl) (by simp) ?_;refine AllReadyH.cons rfl (fun K hK => ?_) AllReadyH.nil;rw [if_pos (by rfl)];go_simp
      go_at_call 14
      refine (HLA.out _).mono ?_;rintro e w7 ⟨rfl,rfl⟩;refine hK.out _ _ HS.out (fun hHeld => ?_);refine tA 55 (h:=tA 56 (h:=tA 57 (h:=tA 58 (h:=tA 59 (h:=tA 60 (h:=?_))))));simp only [tks];refine wpAnyH_done (by kernel_rfl) ?_ _;clear hHeld HS
      go_wp2_with fail
      go_roundw
      case rel=>exact ⟨j+1,by go_num,by omega,HBQ.out.drew⟩
      case measure=>simp [intOf];omega
     ·have hb3:(ln == 3)=false:=by simpa using h3
      have hb5:(ln == 5)=false:=by simpa using h5
      clear hf h3 h5;refine wp_region_held_drew (S:=fun X=>X.cell? ⟨mb,mo+j * 40,none⟩=some (.int .i64 dv)/\X.cell? ⟨mb,mo+j * 40+1,none⟩=some (.int .i64 lv)/\X.cell? ⟨b,o+k * 38,none⟩=some (.int .u8 kx)/\X.cell? ⟨W.heap.size,0,none⟩=some (.int .i64 cf.n)) (by kernel_rfl) HS.out (fun hHeld => ?_);refine tA 0 (h:=tA 1 (h:=tA 2 (h:=tA 3 (h:=tA 4 (h:=tA 5 (h:=tA 6 (h:=tA 7 (h:=tA 8 (h:=tA 9 (h:=tA 10 (h:=tA 11 (h:=tA 12 (h:=tA 13 (h:=?_))))))))))))));simp only [tks];refine wpAnyH_ready (rs:=[14]) (by kernel_rfl) (by simp) ?_;refine AllReadyH.cons rfl (fun K hK => ?_) AllReadyH.nil;rw [if_pos (by rfl)];go_simp
      go_at_call 14
      refine (HLA.out _).mono ?_;rintro e w7 ⟨rfl,rfl⟩;refine hK.out _ _ HS.out (fun hHeld => ?_);refine tA 15 (h:=tA 16 (h:=tA 17 (h:=tA 18 (h:=tA 19 (h:=tA 20 (h:=tA 21 (h:=tA 22 (h:=tA 23 (h:=tA 24 (h:=tA 25 (h:=tA 26 (h:=tA 27 (h:=tA 28 (h:=tA 29 (h:=tA 30 (h:=tA 31 (h:=tA 32 (h:=tA 33 (h:=tA 34 (h:=tA 35 (h:=tA 36 (h:=tA 37 (h:=tA 38 (h:=tA 39 (h:=tA 40 (h:=?_))))))))))))))))))))))))));simp only [tks];refine wpAnyH_ready (rs:=[41]) (by kernel_rfl) (by simp) ?_;refine AllReadyH.cons rfl (fun K hK => ?_) AllReadyH.nil;rw [if_pos (by rfl)];go_simp
      go_at_call 14
      refine (HLA.out _).mono ?_;rintro e w7 ⟨rfl,rfl⟩;refine hK.out _ _ HS.out (fun hHeld => ?_);refine tA 42 (h:=tA 43 (h:=sA 44 (h:=sA 45 (h:=tA 46 (h:=tA 47 (h:=tA 48 (h:=tA 49 (h:=tA 50 (h:=tA 51 (h:=tA 52 (h:=tA 53 (h:=?_))))))))))));simp only [tks];refine wpAnyH_ready (rs:=[54]) (by kernel_rfl) (by simp) ?_;refine AllReadyH.cons rfl (fun K hK => ?_) AllReadyH.nil;rw [if_pos (by rfl)];go_simp
      go_at_call 14
      refine (HLA.out _).mono ?_;rintro e w7 ⟨rfl,rfl⟩;refine hK.out _ _ HS.out (fun hHeld => ?_);refine tA 55 (h:=tA 56 (h:=sA 57 (h:=sA 58 (h:=tA 59 (h:=tA 60 (h:=?_))))));simp only [tks];refine wpAnyH_done (by kernel_rfl) ?_ _;clear hHeld HS
      go_wp2_with fail
      go_roundw
      case rel=>exact ⟨j+1,by go_num,by omega,HBQ.out.drew⟩
      case measure=>simp [intOf];omega
    ·obtain rfl:j=L.length:=by omega
     have hjl:¬ (L.length:Int) < L.length:=by omega
     go_wp2_with fail
     go_roundw
     case rel=>exact ⟨k+1,_,ad',F',by go_num,by omega,H6.out.below HBQ.out,HB6.out.below HBQ.out,HIN.out,HAE6.out.1,HAE6.out.2⟩
     case measure=>simp [intOf];omega
  ·have hkl:¬ (k:Int) < l.length:=by omega
   clear hh hB hi he1 he2
   go_wp2_with fail
   refine (HAW.out wr HBW.out).mono ?_;rintro e w5 ⟨rfl,hb5⟩;have HB5:=hyd (bnext HBW.out (Nat.le_refl _) hb5);clear hb5
   go_wp2_with fail
   go_ret
   exact ⟨rfl,HB5.out⟩
end
section
open Go Go.RowKit
theorem homeLanes_any (n mail packet most win worker:Int) (a:Option Addr) (c:Nat) (l:List Item) (W:World) (hr:Row W a (itemsV l)) (hl:l.length<=maxLen) (hok:∀ x ∈ l,x.ok W) (hw:-9223372036854775808<=worker/\worker<=9223372036854775807) (hK:Keeps W) :
  Calls Tryz.prog 3 #[.agg #[.int .i64 n,.int .i64 mail,.int .i64 packet,.int .i64 most,.int .i64 win],.int .i64 worker,.slice a l.length c] W fun e W'=>e = .returned (.bool true)/\Below W.heap.size W W':=by
 by_cases h:(1<=n/\n<=64)/\(1<=IntKind.i64.wrap (worker+1)/\IntKind.i64.wrap (worker+1)<=n)/\(1<=win/\win<=1024)/\(1<=most/\most<=1024)
 ·obtain ⟨cf,rfl,rfl,rfl,rfl,rfl,rfl,hc,hme⟩:=may_cfg (mail:=mail) (packet:=packet) hw h
  exact homeLanes_yes cf a c l W hr hok hl hK hc hme
 ·exact homeLanes_no n mail packet most win worker a c l W hr hok hl hK h
end
end Go.Proofs.YtcekcoepdhnfgaaGreatDoor
