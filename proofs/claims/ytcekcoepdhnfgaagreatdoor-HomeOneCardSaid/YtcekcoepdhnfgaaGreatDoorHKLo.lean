/- HomeOne, walked. -/
import Derived.Test.YtcekcoepdhnfgaaGreatDoorHMX
import Derived.Deep.QuietTactic
import Derived.Test.YtcekcoepdhnfgaaGreatDoorHKX
import Derived.Test.YtcekcoepdhnfgaaGreatDoorHPl
import Derived.Deep.CutRange
import Derived.Deep.CutBlock
namespace Go.Proofs.YtcekcoepdhnfgaaGreatDoor
section
open Go Go.RowKit
theorem ba_toList {a b:ByteArray}:a.toList=b.toList ↔ a=b:=by
 rw [Lib.toList_data,Lib.toList_data];exact ⟨ba_ext,fun h=>by rw [h]⟩
theorem mk_inj {a b:Str}:(⟨a.toArray⟩:ByteArray)=⟨b.toArray⟩ ↔ a=b:=by
 constructor
 ·intro h
  have:=congrArg (fun x:ByteArray=>x.data.toList) h
  simpa using this
 ·rintro rfl;rfl
theorem hint_neq (b:Bool) (w:World) (f c f' c':Str) (h:decide (((f,c):Hint)=(f',c'))=b) :
  (binOp .neq 119 (.agg #[.string ⟨f.toArray⟩,.string ⟨c.toArray⟩]) (.agg #[.string ⟨f'.toArray⟩,.string ⟨c'.toArray⟩])).run Tryz.prog w = .ok (.bool (!b)) w:=by
 have hst:Tryz.prog.stoodInHeld 119 = false:=by kernel_rfl
 have hgd:Tryz.prog.eqGuardType Tryz.prog.depth 119 = false:=by kernel_rfl
 go_simp
 try simp only [ba_toList,mk_inj]
 subst h
 by_cases h1:f=f'
 ·by_cases h2:c=c' <;> simp [h1,h2]
 ·simp [h1]
theorem hint_eql (b:Bool) (w:World) (f c f' c':Str) (h:decide (((f,c):Hint)=(f',c'))=b) :
  (binOp .eql 119 (.agg #[.string ⟨f.toArray⟩,.string ⟨c.toArray⟩]) (.agg #[.string ⟨f'.toArray⟩,.string ⟨c'.toArray⟩])).run Tryz.prog w = .ok (.bool b) w:=by
 have hst:Tryz.prog.stoodInHeld 119 = false:=by kernel_rfl
 have hgd:Tryz.prog.eqGuardType Tryz.prog.depth 119 = false:=by kernel_rfl
 go_simp
 try simp only [ba_toList,mk_inj]
 subst h
 by_cases h1:f=f'
 ·by_cases h2:c=c' <;> simp [h1,h2]
 ·simp [h1]
set_option maxRecDepth 100000
set_option maxHeartbeats 2000000
theorem sameH_any (bb:Bool) (a b:Option Addr) (c d:Nat) (l m:List Hint) (w:World) (ha:Row w a (hintsV l)) (hb:Row w b (hintsV m)) (hm:m.length<=100000) (hbb:decide (l=m)=bb) :
  Calls Tryz.prog 17 #[.slice a l.length c,.slice b m.length d] w fun e w'=>e = .returned (.bool bb) /\ ∃ n,w'=w.drewN n:=by
 have HBB:=hyd hbb;have HA:=hyd ha;have HB:=hyd hb;clear ha hb hbb
 by_cases hlen:l.length=m.length
 ·have HL:=hyd hlen
  rw [hlen];have hl':m.length<=100000:=hm;clear hlen
  go_enter Tryz.func17, Tryz.ntmps17
  go_wp2_with fail
  go_loopw [5] (fun i wr => ∃ k:Nat,i = .int .i64 k/\k<=m.length/\(∃ n,wr=w.drewN n)/\l.take k=m.take k) (fun i _=>(m.length - intOf i).toNat)
  case atStart=>exact ⟨0,rfl,by omega,⟨0,rfl⟩,by simp⟩
  case round =>
   obtain ⟨k,rfl,hk,⟨n,rfl⟩,htk⟩:=hrel;have HTK:=hyd htk;clear htk
   by_cases hlt:k < m.length
   ·have hlt':k < l.length:=by rw [HL.out];exact hlt
    obtain ⟨b1,o1,rfl,k0,k1⟩:=hints_row HA.out hlt';obtain ⟨b2,o2,rfl,j0,j1⟩:=hints_row HB.out hlt;have h1:l.take (k+1)=l.take k ++ [l[k]]:=List.take_succ_eq_append_getElem hlt';have h2:m.take (k+1)=m.take k ++ [m[k]]:=List.take_succ_eq_append_getElem hlt;have HE:Hid (l[k]=m[k]->l.take (k+1)=m.take (k+1)):=hyd (fun e=>by rw [h1,h2,HTK.out,e]);have HN:Hid (l[k] ≠ m[k]->false=bb):=hyd (fun e=>by rw [<- HBB.out];symm;simp only [decide_eq_false_iff_not];rintro rfl;exact e rfl);clear h1 h2;generalize l[k]=x at *;generalize m[k]=y at *;obtain ⟨xf,xc⟩:=x;obtain ⟨yf,yc⟩:=y;have hk0:(0:Int)<=k:=by omega
    have hkl:(k:Int) < m.length:=by omega
    simp only at k0 k1 j0 j1;obtain ⟨b,hb⟩:∃ b,decide (((xf,xc):Hint)=(yf,yc))=b:=⟨_,rfl⟩;have hcmp:=fun w=>hint_neq b w xf xc yf yc hb
    cases b with
    | true =>
     have HE':=hyd (HE.out (of_decide_eq_true hb));clear HE HN hb
     go_wp2_with fail
     go_quiet (fail)
     go_wp2_with fail
     go_roundw
     case rel=>exact ⟨k+1,by go_num,by omega,⟨n+_,rfl⟩,HE'.out⟩
     case measure=>simp [intOf];omega
    | false =>
     have HN':=hyd (HN.out (of_decide_eq_false hb));clear HE HN hb
     go_wp2_with fail
     go_quiet (fail)
     go_wp2_with fail
     go_ret
     exact ⟨ret_bool HN'.out,_,World.drewN_drewN _ _ _⟩
   ·have hkl:¬ (k:Int) < m.length:=by omega
    have HBT:Hid (true=bb):=hyd (by
     have:=HTK.out;have hL:=HL.out;rw [List.take_of_length_le (by omega),List.take_of_length_le (by omega)] at this
     rw [<- HBB.out,this];simp)
    go_wp2_with fail
    go_ret
    exact ⟨ret_bool HBT.out,n,rfl⟩
 ·have hne:((l.length:Int) == m.length)=false:=by simp;omega
  have HN:Hid (false=bb):=hyd (by rw [<- HBB.out];symm;simp only [decide_eq_false_iff_not];rintro rfl;exact hlen rfl);clear hlen
  go_enter Tryz.func17, Tryz.ntmps17
  go_wp2_with fail
  go_ret
  exact ⟨ret_bool HN.out,0,rfl⟩
end
section
open Go Go.RowKit Go.Maps Go.Lib
theorem pk_below {W W':World} {p:Pkt} (h:p.ok W) (hb:Below W.heap.size W W'):p.ok W':=by
 obtain ⟨h1,h2,h3,h4,h5,h6,h7,h8,h9,h10,h11,h12,⟨r,r2⟩,h14⟩:=h;exact ⟨h1,h2,h3,h4,h5,h6,h7,h8,h9,h10,h11,h12,⟨r.below hb (Nat.le_refl _),r2⟩,h14⟩
theorem item_below {W W':World} {x:Item} (h:x.ok W) (hb:Below W.heap.size W W'):x.ok W':=by
 obtain ⟨h1,h2,h3,h4,h5,h6,h7,⟨r1,r2⟩,⟨s1,s2⟩,⟨t1,t2,t3,t4⟩,h11,h12⟩:=h;exact ⟨h1,h2,h3,h4,h5,pk_below h6 hb,h7,⟨r1.below hb (Nat.le_refl _),r2⟩,⟨s1.below hb (Nat.le_refl _),s2⟩,⟨t1.below hb (Nat.le_refl _),t2,t3,fun y hy=>pk_below (t4 y hy) hb⟩,h11,h12⟩
theorem item_beside {W w:World} {x:Item} {F:List Nat} (h:x.ok W) (hb:Below W.heap.size W w) (hF:∀ k ∈ F,W.heap.size<=k):ItB w F x:=by
 obtain ⟨-,-,-,-,-,⟨-,-,-,-,-,-,-,-,-,-,-,-,⟨r,-⟩,-⟩,-,⟨r1,-⟩,⟨s1,-⟩,-⟩:=h
 have e:x.cls.flatMap strCells=x.cls.map .string:=by
  induction x.cls with
  | nil=>rfl
  | cons a r ih=>rw [List.flatMap_cons,ih];rfl
 rw [e] at s1;exact ⟨Beside.base r hb hF,Beside.base r1 hb hF,Beside.base s1 hb hF⟩
theorem HOk.seatsC {t:Tn} (h:HOk t):SeatsC t:=fun z hz=>⟨(h.seat z hz).s.conn.1,fun k left hb=>by
 have hw:=(h.seat z hz).w k left hb
 cases k with
 | close y old=>exact ⟨hw.2.1,hw.2.2.2.2.1⟩
 | att y pres=>exact hw.2.1
 | sub y codes kept=>exact hw.2.1
 | uns y=>exact hw.2.1
 | flow op=>trivial
 | fin y clean=>exact hw.2.1⟩
theorem HOk.flowsC {t:Tn} (h:HOk t):FlowsC t:=fun f hf=>(h.flow f hf).conn.1
structure LaneF (n:Nat) (k:Int) (m:HMl):Prop where
 kind:m.it.kind=3/\m.lane=2 \/ (m.it.kind=5 \/ m.it.kind=6 \/ m.it.kind=7)/\m.lane=4 \/ m.it.kind=12/\m.lane=6 \/ (m.it.kind=13 \/ m.it.kind=14 \/ m.it.kind=15)/\m.lane=7
 d0:0<=m.dest
 d1:m.dest < n
 gt:laneN k < m.lane
 l3:laneN k=3->4<=m.lane
 l5:laneN k=5->6<=m.lane
theorem lane_f {n:Nat} {k:Int} {m:HMl} (h:LaneP n k m):LaneF n k m:=by
 have key:(m.it.kind=3/\m.lane=2 \/ (m.it.kind=5 \/ m.it.kind=6 \/ m.it.kind=7)/\m.lane=4 \/ m.it.kind=12/\m.lane=6 \/ (m.it.kind=13 \/ m.it.kind=14 \/ m.it.kind=15)/\m.lane=7)/\0<=m.dest/\m.dest < n/\laneN k < m.lane/\(laneN k=3->4<=m.lane)/\(laneN k=5->6<=m.lane):=by
  unfold LaneP To47 To2 To4 To6 To7 at h;unfold laneN
  split at h
  ·rename_i h1
   rw [if_pos h1];omega
  ·rename_i h1
   rw [if_neg h1]
   split at h
   ·rename_i h4
    rw [if_pos h4];omega
   ·rename_i h4
    rw [if_neg h4]
    split at h
    ·rename_i h12
     rw [if_neg (by omega),if_pos h12];omega
    ·rename_i h12
     rw [if_pos (by omega)];omega
 exact ⟨key.1,key.2.1,key.2.2.1,key.2.2.2.1,key.2.2.2.2.1,key.2.2.2.2.2⟩
theorem All2.mem {α β:Type} {R:α -> β->Prop}:∀ {l:List α} {m:List β},All2 R l m -> ∀ a ∈ l,∃ b ∈ m,R a b
 | [],_,_,a,ha=>by cases ha
 | x :: r,[],h,_,_=>h.elim
 | x :: r,y :: s,h,a,ha=>by
  rcases List.mem_cons.1 ha with rfl | ha
  ·exact ⟨y,by simp,h.1⟩
  ·obtain ⟨b,hb,hr⟩:=All2.mem h.2 a ha
   exact ⟨b,by simp [hb],hr⟩
theorem heard_lanes {c:HCfg} (hn:1<=c.n) {ad:HAd} {F:List Nat} {w w':World} {x:Item} {T:Tn} {mv:Value} (hok:HOk T) (h:Heard c ad [] F w (hearT c x T.begin) mv w') :
  ∃ L am cm,mv = .slice am L.length cm/\Row w' am (hmlsV L)/\L.length<=maxLen /\ ∀ m ∈ L,LaneF c.n x.kind m:=by
 obtain ⟨ad',L,F',-,-,-,ho,ha,-⟩:=h;obtain ⟨am,cm,rfl,hr,h1,h2⟩:=ownsRow_row ho;have hok':HOk T.begin:=hok.of rfl rfl;obtain ⟨new,hnew,hP⟩:=hear_lanes hn (x:=x) hok'.seatsC hok'.flowsC;refine ⟨L,am,cm,rfl,hr,Nat.le_trans h1 h2,fun m hm => ?_⟩;obtain ⟨h9,hh,h10,h11,a,cp,h12,-⟩:=All2.mem ha m hm;rw [hnew] at hh;have hl:=lane_f (hP h9 (by simpa [Tn.begin] using hh));have hk:m.it.kind=h9.it.kind:=by rw [h12]
 obtain ⟨k1,k2,k3,k4,k5,k6⟩:=hl;exact ⟨by rw [hk,h11];exact k1,by rw [h10];exact k2,by rw [h10];exact k3,by rw [h11];exact k4,by rw [h11];exact k5,by rw [h11];exact k6⟩
theorem may_cfg {n mail packet most win worker:Int} (hw:-9223372036854775808<=worker/\worker<=9223372036854775807) (h:(1<=n/\n<=64)/\(1<=IntKind.i64.wrap (worker+1)/\IntKind.i64.wrap (worker+1)<=n)/\(1<=win/\win<=1024)/\(1<=most/\most<=1024)) :
  ∃ c:HCfg,n=(c.n:Int)/\mail=c.mail/\packet=c.packet/\most=c.most/\win=c.win/\worker=(c.me:Int)/\COk c/\c.me < c.n:=by
 obtain ⟨h1,h2,h3,h4⟩:=h
 have hm:worker ≠ 9223372036854775807:=fun e=>by
  subst e;have:IntKind.i64.wrap (9223372036854775807+1) = -9223372036854775808:=by decide
  omega
 rw [w_i64 _ (by omega) (by omega)] at h2;exact ⟨⟨n.toNat,mail,packet,most,win,worker.toNat⟩,by show n=(n.toNat:Int);omega,rfl,rfl,rfl,rfl,by show worker=(worker.toNat:Int);omega,⟨by show 1<=n.toNat;omega,by show n.toNat<=64;omega,h4,h3⟩,by show worker.toNat < n.toNat;omega⟩
set_option maxRecDepth 100000
set_option maxHeartbeats 4000000
theorem homeLanes_no (n mail packet most win worker:Int) (a:Option Addr) (c:Nat) (l:List Item) (W:World) (hr:Row W a (itemsV l)) (hok:∀ x ∈ l,x.ok W) (hl:l.length<=maxLen) (hK:Keeps W)
  (hno:¬ ((1<=n/\n<=64)/\(1<=IntKind.i64.wrap (worker+1)/\IntKind.i64.wrap (worker+1)<=n)/\(1<=win/\win<=1024)/\(1<=most/\most<=1024))) :
  Calls Tryz.prog 3 #[.agg #[.int .i64 n,.int .i64 mail,.int .i64 packet,.int .i64 most,.int .i64 win],.int .i64 worker,.slice a l.length c] W fun e W'=>e = .returned (.bool true)/\Below W.heap.size W W':=by
 have HNO:=hyd (fun X=>new_no n mail packet most win worker X hno);have HGR:=hyd (fun X (hX:Below W.heap.size W X)=>great21 a c l X (hr.below hX (Nat.le_refl _)) (fun x hx=>item_below (hok x hx) hX) hl);have HAW:=hyd (fun X (hX:Below W.heap.size W X)=>awake_any W X hK hX);have hx0:=heap_alloc_new W (.cells #[.int .i64 n,.int .i64 mail,.int .i64 packet,.int .i64 most,.int .i64 win] 23);have hb0:=low_alloc W (.cells #[.int .i64 n,.int .i64 mail,.int .i64 packet,.int .i64 most,.int .i64 win] 23);have HCS:Hid ((Tryz.prog.info? 23).map (·.size)=some (#[Value.int .i64 n,.int .i64 mail,.int .i64 packet,.int .i64 most,.int .i64 win]:Array Value).toList.length):=hyd (by kernel_rfl);obtain ⟨V,hV⟩:∃ V,W.alloc (.cells #[.int .i64 n,.int .i64 mail,.int .i64 packet,.int .i64 most,.int .i64 win] 23)=V:=⟨_,rfl⟩;rw [hV] at hx0 hb0;have HX0:=hyd hx0;have HB0:=hyd hb0;have HV:=hyd hV;clear hno hr hok hl hK hx0 hb0 hV
 go_enter Tryz.func3, Tryz.ntmps3
 go_upto_region 1 with fail
 rw [HV.out]
 go_wp2_with (first
  | (refine wpList_load_row rfl 23 _ rfl W.heap.size rfl 23 _ _ _ HX0.out Tryz.underlying23 rfl HCS.out ?_)
  | fail)
 refine (HNO.out V).mono ?_;rintro e w2 ⟨rfl,hb2⟩;have HB2:=hyd (bnext HB0.out (Nat.le_refl _) hb2);clear hb2
 go_wp2_with fail
 refine (HGR.out w2 HB2.out).mono ?_;rintro e w3 ⟨he,hb3⟩;have HB3:=hyd (bnext HB2.out (Nat.le_refl _) hb3);clear hb3;have he2:e = .returned (.bool true) \/ e = .returned (.bool false):=he.imp id fun h=>h.1
 clear he
 rcases he2 with rfl | rfl
 all_goals
  go_wp2_with fail
  refine (HAW.out w3 HB3.out).mono ?_;rintro e w4 ⟨rfl,hb4⟩;have HB4:=hyd (bnext HB3.out (Nat.le_refl _) hb4);clear hb4
  go_wp2_with fail
  go_ret
  exact ⟨rfl,HB4.out⟩
end
section
open Go Go.RowKit Go.Maps Go.Lib
theorem lists_len {t:Tn} (hok:HOk t):(listsT t).length<=16 * t.seats.length:=by
 rw [(listsT_ok hok).2.length_eq]
 have key:∀ l:List HSeat,(∀ z ∈ l,z.s.l.length<=16)->(l.flatMap fun z=>hintsOf z.s.client.data.toList z.s.l).length<=16 * l.length:=by
  intro l
  induction l with
  | nil=>intro _;simp
  | cons a r ih =>
   intro h;have h1:=ih fun z hz=>h z (by simp [hz])
   have h2:=h a (by simp);rw [List.flatMap_cons,List.length_append,hintsOf_len,List.length_cons];omega
 exact key t.seats fun z hz=>(hok.seat z hz).s.len
theorem lists_row (cf:HCfg) (ad:HAd) (T:Tn) (F:List Nat) (k:Nat) (w:World) (h:HomeAt cf ad w T [] F) (hi:HInv k T) (hk:k<=81):Calls Tryz.prog 16 #[.pointer (some ⟨ad.hb,0,none⟩)] w fun e w' => ∃ a c,e = .returned (.slice a (listsT T).length c)/\Beside w' F a (hintsV (listsT T))/\Below w.heap.size w w':=
 (hlists_any cf ad T [] F w h hi.ok (by have:=hi.bd.s;omega)).mono fun e w' ⟨v,he,ho,hb,_⟩=>by
  obtain ⟨a,c,rfl,h1,h2,hbe⟩:=Beside.own (F:=F) ho fun q hq=>h.lt q (by simpa using hq)
  exact ⟨a,c,he,hbe,hb⟩
theorem item_oneC {X:World} {b:Nat} {x:Item} {T:TypeId} (h:X.heap[b]? = some (.cells x.cells.toArray T (0,0))):X.cell? ⟨b,0,none⟩=some (.int .u8 x.kind)/\X.cell? ⟨b,2,none⟩=some (.int .i64 x.conn)/\X.cell? ⟨b,3,none⟩=some (.string x.client)/\X.cell? ⟨b,5,none⟩=some (.int .u8 x.pk.ty):=
 ⟨by rw [cell_of_row _ _ 0 _ _ _ h];rfl,by rw [cell_of_row _ _ 2 _ _ _ h];rfl,by rw [cell_of_row _ _ 3 _ _ _ h];rfl,by rw [cell_of_row _ _ 5 _ _ _ h];rfl⟩
def stillB (x:Item):Bool:=decide (x.kind=11 \/ x.kind=12 \/ x.kind=10 \/ x.kind=1/\3<=x.pk.ty/\x.pk.ty<=7)
set_option maxRecDepth 100000
set_option maxHeartbeats 4000000
theorem homeOne_no (n mail packet most win worker:Int) (a:Option Addr) (c:Nat) (l:List Item) (W:World) (hr:Row W a (itemsV l)) (hok:∀ x ∈ l,x.ok W) (hl:l.length<=maxLen) (hK:Keeps W)
  (hno:¬ ((1<=n/\n<=64)/\(1<=IntKind.i64.wrap (worker+1)/\IntKind.i64.wrap (worker+1)<=n)/\(1<=win/\win<=1024)/\(1<=most/\most<=1024))) :
  Calls Tryz.prog 4 #[.agg #[.int .i64 n,.int .i64 mail,.int .i64 packet,.int .i64 most,.int .i64 win],.int .i64 worker,.slice a l.length c] W fun e W'=>e = .returned (.bool true)/\Below W.heap.size W W':=by
 have HNO:=hyd (fun X=>new_no n mail packet most win worker X hno);have HGR:=hyd (fun X (hX:Below W.heap.size W X)=>great21 a c l X (hr.below hX (Nat.le_refl _)) (fun x hx=>item_below (hok x hx) hX) hl);have HAW:=hyd (fun X (hX:Below W.heap.size W X)=>awake_any W X hK hX);have hx0:=heap_alloc_new W (.cells #[.int .i64 n,.int .i64 mail,.int .i64 packet,.int .i64 most,.int .i64 win] 23);have hb0:=low_alloc W (.cells #[.int .i64 n,.int .i64 mail,.int .i64 packet,.int .i64 most,.int .i64 win] 23);have HCS:Hid ((Tryz.prog.info? 23).map (·.size)=some (#[Value.int .i64 n,.int .i64 mail,.int .i64 packet,.int .i64 most,.int .i64 win]:Array Value).toList.length):=hyd (by kernel_rfl);obtain ⟨V,hV⟩:∃ V,W.alloc (.cells #[.int .i64 n,.int .i64 mail,.int .i64 packet,.int .i64 most,.int .i64 win] 23)=V:=⟨_,rfl⟩;rw [hV] at hx0 hb0;have HX0:=hyd hx0;have HB0:=hyd hb0;have HV:=hyd hV;clear hno hr hok hl hK hx0 hb0 hV
 go_enter Tryz.func4, Tryz.ntmps4
 go_upto_region 1 with fail
 rw [HV.out]
 go_wp2_with (first
  | (refine wpList_load_row rfl 23 _ rfl W.heap.size rfl 23 _ _ _ HX0.out Tryz.underlying23 rfl HCS.out ?_)
  | fail)
 refine (HNO.out V).mono ?_;rintro e w2 ⟨rfl,hb2⟩;have HB2:=hyd (bnext HB0.out (Nat.le_refl _) hb2);clear hb2
 go_wp2_with fail
 refine (HGR.out w2 HB2.out).mono ?_;rintro e w3 ⟨he,hb3⟩;have HB3:=hyd (bnext HB2.out (Nat.le_refl _) hb3);clear hb3;have he2:e = .returned (.bool true) \/ e = .returned (.bool false):=he.imp id fun h=>h.1
 clear he
 rcases he2 with rfl | rfl
 all_goals
  go_wp2_with fail
  refine (HAW.out w3 HB3.out).mono ?_;rintro e w4 ⟨rfl,hb4⟩;have HB4:=hyd (bnext HB3.out (Nat.le_refl _) hb4);clear hb4
  go_wp2_with fail
  go_ret
  exact ⟨rfl,HB4.out⟩
set_option maxHeartbeats 8000000
theorem homeOne_yes (cf : HCfg) (a : Option Addr) (c : Nat) (l : List Item) (W : World) (hr : Row W a (itemsV l)) (hok : ∀ x ∈ l, x.ok W) (hl : l.length ≤ maxLen) (hK : Keeps W) (hc : COk cf) (hme : cf.me < cf.n) :
    Calls Tryz.prog 4 #[.agg #[.int .i64 cf.n, .int .i64 cf.mail, .int .i64 cf.packet, .int .i64 cf.most, .int .i64 cf.win], .int .i64 cf.me, .slice a l.length c] W fun e W' => e = .returned (.bool true) ∧ Below W.heap.size W W' := by
  have HYES := hyd (fun X => new_yes cf X hc.n1 hc.n2 hme hc.win.1 hc.win.2 hc.most.1 hc.most.2)
  have HGR := hyd (fun X (hX : Below W.heap.size W X) => great21 a c l X (hr.below hX (Nat.le_refl _)) (fun x hx => item_below (hok x hx) hX) hl)
  have HAW := hyd (fun X (hX : Below W.heap.size W X) => awake_any W X hK hX)
  have hx0 := heap_alloc_new W (.cells #[.int .i64 cf.n, .int .i64 cf.mail, .int .i64 cf.packet, .int .i64 cf.most, .int .i64 cf.win] 23)
  have hb0 := low_alloc W (.cells #[.int .i64 cf.n, .int .i64 cf.mail, .int .i64 cf.packet, .int .i64 cf.most, .int .i64 cf.win] 23)
  have HCS : Hid ((Tryz.prog.info? 23).map (·.size) = some (#[Value.int .i64 cf.n, .int .i64 cf.mail, .int .i64 cf.packet, .int .i64 cf.most, .int .i64 cf.win] : Array Value).toList.length) := hyd (by kernel_rfl)
  obtain ⟨V, hV⟩ : ∃ V, W.alloc (.cells #[.int .i64 cf.n, .int .i64 cf.mail, .int .i64 cf.packet, .int .i64 cf.most, .int .i64 cf.win] 23) = V := ⟨_, rfl⟩
  rw [hV] at hx0 hb0
  have hsV : W.heap.size < V.heap.size := (Array.getElem?_eq_some_iff.1 hx0).1
  have HHE := hyd (fun ad T F X x k (h : HomeAt cf ad X T [] F) (hB : Base V X F) (hi : HInv k T) (hk : k ≤ 80) (hx : ItOk x) (hib : ItB X ([] ++ F) x) => hear_any V (hK.below hb0) cf hc ad T [] F X x k h hB hi hk hx hib)
  have HX0 := hyd hx0
  have HB0 := hyd hb0
  have HV := hyd hV
  have HSV := hyd hsV
  have HRA := hyd hr
  have HOK := hyd hok
  have HC := hyd hc
  have hl2 : (l.length : Int) ≤ 9223372036854775807 := by unfold maxLen at hl; omega
  clear hr hok hl hK hx0 hb0 hV hc hme hsV
  go_enter Tryz.func4, Tryz.ntmps4
  go_upto_region 1 with fail
  rw [HV.out]
  go_wp2_with (first
    | (refine wpList_load_row rfl 23 _ rfl W.heap.size rfl 23 _ _ _ HX0.out Tryz.underlying23 rfl HCS.out ?_)
    | fail)
  refine (HYES.out V).mono ?_
  rintro e w2 ⟨hb, ms, mf, rfl, hn, hb2, hl1, hl3, hl4⟩
  have HN := hyd hn
  have HB2 := hyd (bnext HB0.out (Nat.le_refl _) hb2)
  have HV2 := hyd hb2
  have HLL := hyd (And.intro hl1 (And.intro hl3 hl4))
  clear hn hb2 hl1 hl3 hl4
  go_wp2_with fail
  refine (HGR.out w2 HB2.out).mono ?_
  rintro e w3 ⟨he, hb3⟩
  have HB3 := hyd (bnext HB2.out (Nat.le_refl _) hb3)
  have HV3 := hyd (bnext HV2.out (Nat.le_refl _) hb3)
  have HN3 := hyd (show HomeNew cf w3 hb ms mf from HN.out.below hb3)
  clear hb3 HN
  rcases he with rfl | ⟨rfl, HSM⟩
  · go_wp2_with fail
    refine (HAW.out w3 HB3.out).mono ?_
    rintro e w4 ⟨rfl, hb4⟩
    have HB4 := hyd (bnext HB3.out (Nat.le_refl _) hb4)
    clear hb4
    go_wp2_with fail
    go_ret
    exact ⟨rfl, HB4.out⟩
  go_wp2_with fail
  refine (lognew_any w3).mono ?_
  rintro e w4 ⟨rfl, hw4⟩
  have hb4 := low_alloc w3 (.cells #[.slice none 0 0, .int .i64 0] 97)
  have hx4 := heap_alloc_new w3 (.cells #[.slice none 0 0, .int .i64 0] 97)
  rw [hw4] at hb4 hx4
  have h0 := HN3.out.withLog hb4 hx4
  have hB4 : Base V w4 [w3.heap.size, hb, ms, mf] := ⟨bnext HV3.out (Nat.le_refl _) hb4, fun k hk => by
    have h1 := HLL.out
    have h2 := HV3.out.size
    simp only [List.mem_cons, List.not_mem_nil, or_false] at hk
    omega⟩
  have H0 := hyd h0
  have HB4 := hyd hB4
  have HBW4 := hyd (bnext HB3.out (Nat.le_refl _) hb4)
  clear hw4 hb4 hx4 h0 hB4
  generalize w3.heap.size = lg at *
  go_wp2_with fail
  go_loopw [9, 10, 11, 12, 13, 14] (fun i _ _ _ _ _ wr => ∃ (k : Nat) (T : Tn) (ad : HAd) (F : List Nat), i = .int .i64 k ∧ k ≤ l.length ∧ HomeAt cf ad wr T [] F ∧ Base V wr F ∧ HInv k T ∧ ad.hb = hb ∧ ad.lg = lg) (fun i _ _ _ _ _ _ => (l.length - intOf i).toNat)
  case atStart => exact ⟨0, Tn.new, adN hb lg ms mf, [lg, hb, ms, mf], rfl, by omega, H0.out, HB4.out, HInv.new, rfl, rfl⟩
  case round =>
    obtain ⟨k, T, ad, F, rfl, hk, hh, hB, hi, he1, he2⟩ := hrel
    have HBW := hyd (bnext HB0.out (Nat.le_refl _) hB.1)
    have HH := hyd hh
    have HBB := hyd hB
    have HI := hyd hi
    have HAE := hyd (And.intro he1 he2)
    clear hh hB hi he1 he2
    by_cases hlt : k < l.length
    · have hk0 : (0 : Int) ≤ k := by omega
      have hkl : (k : Int) < l.length := by omega
      obtain ⟨b, o, rfl, hrg0⟩ := row_mid (mk := Item.cells) (m := 38) item_width HRA.out hlt (by decide)
      have hrg : wr.rangeAt b (o + k * 38) l[k].cells := fun j v hj => (HBW.out.cell (World.block_lt_of_cell? _ _ (hrg0 j v hj))).trans (hrg0 j v hj)
      have HRG := hyd hrg
      have hsm := HSM.out.2 _ (List.getElem_mem hlt)
      have hox := HOK.out _ (List.getElem_mem hlt)
      have HIO := hyd (itOk_of hox hsm)
      have h80 : k ≤ 80 := by have := HSM.out.1; omega
      have HOX := hyd hox
      have HSX := hyd hsm
      clear hrg hrg0 hsm hox
      generalize l[k] = x at *
      have HLZ := hyd (item_size x)
      have HLY : Hid ((Tryz.prog.info? 44).map (·.size) = some x.cells.toArray.size) := hyd (item_size x)
      have H38 : Hid (∀ U : Array Value, U.size = 38 → U.size = x.cells.toArray.size) := hyd (fun U hU => hU.trans rfl)
      have HON := hyd (item_oneB x)
      have hb1 := low_alloc wr (.cells x.cells.toArray 44)
      have hx1 := heap_alloc_new wr (.cells x.cells.toArray 44)
      have HB1 := hyd hb1
      have HX1 := hyd hx1
      have HIC := hyd (fun (X : World) (hX : X.heap[wr.heap.size]? = some (.cells x.cells.toArray 44 (0, 0))) => item_oneC hX)
      have HXF : Hid (wr.heap.size ∉ F) := hyd (fun hm => Nat.lt_irrefl _ (HH.out.lt _ (by simpa using hm)))
      clear hb1 hx1
      generalize hIL : x.cells = IL at *
      have HILE := hyd hIL
      clear hIL
      go_upto_region 9 with (first
        | (refine wpList_loadMid rfl 44 _ rfl b (o + k * 38) rfl IL _ HRG.out Tryz.underlying44 rfl HLZ.out _ rfl ?_)
        | (refine wpList_store_newTo rfl 44 _ _ rfl rfl wr.heap.size rfl IL.toArray _ rfl rfl HLY.out (H38.out _ rfl) HON.out ?_)
        | fail)
      have HH1 := hyd (HH.out.below HB1.out)
      have HBB1 := hyd (HBB.out.below HB1.out)
      generalize wr.alloc (.cells IL.toArray 44) = w5 at *
      generalize wr.heap.size = xb at *
      obtain ⟨-, -, c3, -⟩ := HIC.out w5 HX1.out
      have hxl : xb < w5.heap.size := (Array.getElem?_eq_some_iff.1 HX1.out).1
      have HXL := hyd hxl
      have hli := live_any cf ad T [] F w5 x.client HH1.out (by have := HIO.out.client; unfold maxLen; omega)
      rw [HAE.out.1] at hli
      have HLI := hyd hli
      clear hli hxl
      generalize hlv : liveT x.client T = lv at *
      have HLV := hyd hlv
      clear hlv
      go_wp2_with fail
      refine HLI.out.mono ?_
      rintro e w6 ⟨rfl, hb6⟩
      have HH6 := hyd (HH1.out.below hb6)
      have HBB6 := hyd (HBB1.out.below hb6)
      have HX6 := hyd ((hb6.block xb HXL.out).trans HX1.out)
      have hls := lists_row cf ad T F k w6 HH6.out HI.out (by omega)
      rw [HAE.out.1] at hls
      have HLS := hyd hls
      clear hb6 hls c3
      go_wp2_with fail
      refine HLS.out.mono ?_
      rintro e w7 ⟨la, lc, rfl, hbe, hb7⟩
      have HH7 := hyd (HH6.out.below hb7)
      have HBB7 := hyd (HBB6.out.below hb7)
      have hx7 := (hb7.block xb (Array.getElem?_eq_some_iff.1 HX6.out).1).trans HX6.out
      have HX7 := hyd hx7
      have HBE7 := hyd hbe
      have HBW7 := hyd (bnext HB0.out (Nat.le_refl _) HBB7.out.1)
      have hhc := HHE.out ad T F w7 x k HH7.out HBB7.out HI.out h80 HIO.out (item_beside HOX.out HBW7.out (fun q hq => Nat.le_trans (Nat.le_of_lt HSV.out) (HBB7.out.2 q (by simpa using hq))))
      rw [HAE.out.1, HAE.out.2, HILE.out] at hhc
      have HHC := hyd hhc
      clear hb7 hbe hx7 hhc
      go_wp2_with (first
        | (refine wpList_load_row rfl 44 _ rfl xb rfl 44 IL.toArray _ _ HX7.out Tryz.underlying44 rfl HLZ.out ?_)
        | fail)
      refine HHC.out.mono ?_
      rintro e w8 ⟨mv, rfl, hhd⟩
      obtain ⟨ad', L', F', hlk, hh8, hu8, -⟩ := hhd
      have HH8 := hyd hh8
      have HBB8 := hyd (HBB7.out.upd hu8)
      have HAE8 : Hid (ad'.hb = hb ∧ ad'.lg = lg) := hyd ⟨hlk.1.trans HAE.out.1, hlk.2.1.trans HAE.out.2⟩
      have HX8 := hyd ((hu8.1.block xb (Array.getElem?_eq_some_iff.1 HX7.out).1 HXF.out).trans HX7.out)
      have HBE8 := hyd (HBE7.out.upd hu8)
      have HI8 := hyd (HI.out.begin.hear HC.out.n1 HC.out.n2 (by omega) HIO.out HSX.out.nms HSX.out.ncls)
      have hone : OneP x T.begin (hearT cf x T.begin) := hear_one (HI.out.ok.of rfl rfl) HI.out.begin.bd.z
      have hstl : stillB x = true → listsT (hearT cf x T.begin) = listsT T := fun h => by
        have h1 : listsT T.begin = listsT T := rfl
        rw [← h1]
        exact lists_same HI.out.begin.ok HI8.out.ok (hear_still (by simpa [stillB] using h))
      have HSTL := hyd hstl
      obtain ⟨-, -, c3, -⟩ := HIC.out w8 HX8.out
      have hli := live_any cf ad' (hearT cf x T.begin) [] F' w8 x.client HH8.out (by have := HIO.out.client; unfold maxLen; omega)
      rw [HAE8.out.1] at hli
      have HLI8 := hyd hli
      have e0 : liveT x.client T.begin = lv := HLV.out
      have honA := hone.a
      have honB := hone.b
      have honC := hone.c
      rw [e0] at honA honB honC
      clear hli hone hstl e0 hlk hh8 hu8 HHC HHE
      generalize liveT x.client (hearT cf x T.begin) = nw at *
      generalize hT8 : hearT cf x T.begin = T8 at *
      clear hT8
      have HLA0 := fun X => lane_any x.kind X
      have HLB : Hid ((x.kind = 1 ∨ x.kind = 2 ∨ x.kind = 4) → ¬ 3 < laneN x.kind) := hyd (fun h => by unfold laneN; rcases h with h | h | h <;> rw [h] <;> decide)
      have HST0 : Hid (stillB x = decide (x.kind = 11 ∨ x.kind = 12 ∨ x.kind = 10 ∨ x.kind = 1 ∧ 3 ≤ x.pk.ty ∧ x.pk.ty ≤ 7)) := hyd rfl
      generalize stillB x = sb at *
      generalize laneN x.kind = ln at *
      have HLA := hyd HLA0
      have HOA := hyd honA
      have HOB := hyd honB
      have HOC := hyd honC
      clear HLA0 honA honB honC
      go_wp2_with fail
      refine HLI8.out.mono ?_
      rintro e w9 ⟨rfl, hb9⟩
      have HH9 := hyd (HH8.out.below hb9)
      have HBB9 := hyd (HBB8.out.below hb9)
      have hx9 := (hb9.block xb (Array.getElem?_eq_some_iff.1 HX8.out).1).trans HX8.out
      have HBE9 := hyd (HBE8.out.below hb9)
      obtain ⟨d0, d2, -, d5⟩ := HIC.out w9 hx9
      clear hb9 hx9 c3 HX8 HX7 HX6 HX1 HIC
      generalize x.kind = kd at *
      generalize x.conn = cn at *
      generalize x.pk.ty = ty at *
      go_upto_region 12 with fail
      have HD0 := hyd d0
      have HD2 := hyd d2
      have HD5 := hyd d5
      go_cut [76] from 26 to 137 (fun t wx => t = .bool false ∧ wx = w9)
      case first =>
        clear d2 d5
        by_cases h : nw = lv
        · have g1 : (nw != lv) = false := by simp [h]
          clear h
          go_wp2_with fail
          go_meet
          exact ⟨rfl, rfl⟩
        · have g1 : (nw != lv) = true := by simpa using h
          have hb3 := HLB.out (HOB.out h)
          have hg : decide (3 < ln) = false := decide_eq_false (by omega)
          have hg' : ¬ 3 < ln := by omega
          clear hb3
          by_cases h0 : lv = 0
          · have g2 : (lv != 0) = false := by simp [h0]
            clear h h0
            go_wp2_with (first
          | (go_at_call 14; refine (HLA.out _).mono ?_; rintro e w10 ⟨rfl, rfl⟩)
          | fail)
            go_meet
            exact ⟨rfl, rfl⟩
          · have g2 : (lv != 0) = true := by simpa using h0
            by_cases h1 : nw = 0
            · have g3 : (nw != 0) = false := by simp [h1]
              clear h h0 h1
              go_wp2_with (first
          | (go_at_call 14; refine (HLA.out _).mono ?_; rintro e w10 ⟨rfl, rfl⟩)
          | fail)
              go_meet
              exact ⟨rfl, rfl⟩
            · have g3 : (nw != 0) = true := by simpa using h1
              have g4 : (kd != 4) = false := by simp [HOA.out h h0 h1]
              clear h h0 h1
              go_wp2_with (first
          | (go_at_call 14; refine (HLA.out _).mono ?_; rintro e w10 ⟨rfl, rfl⟩)
          | fail)
              go_meet
              exact ⟨rfl, rfl⟩
      case rest =>
      obtain ⟨rfl, rfl⟩ := hcut
      clear HOA HOB HLB HLA
      go_upto_region 14 with fail
      go_cut [99] from 26 to 137 (fun t wx => t = .bool false ∧ wx = wc)
      case first =>
        by_cases h1 : nw = 0
        · have g1 : (nw == 0) = true := by simp [h1]
          by_cases h0 : lv = 0
          · have g2 : (lv != 0) = false := by simp [h0]
            clear h0 h1
            go_wp2_with fail
            go_meet
            exact ⟨rfl, rfl⟩
          · have g2 : (lv != 0) = true := by simpa using h0
            obtain ⟨hc1, hc2⟩ := HOC.out h1 h0
            have g3 : (cn != lv) = false := by simp [hc1]
            by_cases hk2 : kd = 2
            · have g4 : (kd != 2) = false := by simp [hk2]
              clear h0 h1 hc1 hc2 hk2
              go_wp2_with fail
              go_meet
              exact ⟨rfl, rfl⟩
            · have g4 : (kd != 2) = true := by simpa using hk2
              have h14 : ty = 14 := hc2.resolve_left hk2
              have g5 : (ty != 14) = false := by simp [h14]
              clear h0 h1 hc1 hc2 hk2 h14
              go_wp2_with fail
              go_meet
              exact ⟨rfl, rfl⟩
        · have g1 : (nw == 0) = false := by simpa using h1
          clear h1
          go_wp2_with fail
          go_meet
          exact ⟨rfl, rfl⟩
      case rest =>
      obtain ⟨rfl, rfl⟩ := hcut
      clear HOC d2
      go_upto_region 16 with fail
      go_cut [14] from 26 to 137 (fun t wx => t = .bool sb ∧ wx = wc)
      case first =>
        by_cases q11 : kd = 11
        · have HSB : Hid (sb = true) := hyd (by rw [HST0.out]; exact decide_eq_true (.inl q11))
          have g1 : (kd == 11) = true := by simp [q11]
          clear q11
          go_wp2_with fail
          go_meet
          exact ⟨by rw [HSB.out], rfl⟩
        have g1 : (kd == 11) = false := by simpa using q11
        by_cases q12 : kd = 12
        · have HSB : Hid (sb = true) := hyd (by rw [HST0.out]; exact decide_eq_true (.inr (.inl q12)))
          have g2 : (kd == 12) = true := by simp [q12]
          clear q12 q11
          go_wp2_with fail
          go_meet
          exact ⟨by rw [HSB.out], rfl⟩
        have g2 : (kd == 12) = false := by simpa using q12
        by_cases q10 : kd = 10
        · have HSB : Hid (sb = true) := hyd (by rw [HST0.out]; exact decide_eq_true (.inr (.inr (.inl q10))))
          have g3 : (kd == 10) = true := by simp [q10]
          clear q10 q11 q12
          go_wp2_with fail
          go_meet
          exact ⟨by rw [HSB.out], rfl⟩
        have g3 : (kd == 10) = false := by simpa using q10
        by_cases q1 : kd = 1
        · have g4 : (kd == 1) = true := by simp [q1]
          by_cases q3 : 3 ≤ ty
          · by_cases q7 : ty ≤ 7
            · have HSB : Hid (sb = true) := hyd (by rw [HST0.out]; exact decide_eq_true (by omega))
              clear q10 q11 q12 q1
              go_wp2_with fail
              go_meet
              exact ⟨by rw [HSB.out], rfl⟩
            · have HSB : Hid (sb = false) := hyd (by rw [HST0.out]; exact decide_eq_false (by omega))
              clear q10 q11 q12 q1
              go_wp2_with fail
              go_meet
              exact ⟨by rw [HSB.out], rfl⟩
          · have HSB : Hid (sb = false) := hyd (by rw [HST0.out]; exact decide_eq_false (by omega))
            clear q10 q11 q12 q1
            go_wp2_with fail
            go_meet
            exact ⟨by rw [HSB.out], rfl⟩
        · have g4 : (kd == 1) = false := by simpa using q1
          have HSB : Hid (sb = false) := hyd (by rw [HST0.out]; exact decide_eq_false (by omega))
          clear q10 q11 q12 q1
          go_wp2_with fail
          go_meet
          exact ⟨by rw [HSB.out], rfl⟩
      case rest =>
      obtain ⟨rfl, rfl⟩ := hcut
      clear d0 d5 HD0 HD2 HD5 HST0
      cases sb with
      | false =>
        go_wp2_with fail
        go_roundw
        case rel => exact ⟨k + 1, _, ad', F', by go_num, by omega, HH9.out, HBB9.out, HI8.out, HAE8.out.1, HAE8.out.2⟩
        case measure => simp [intOf]; omega
      | true =>
        have hls := lists_row cf ad' T8 F' (k + 1) wc HH9.out HI8.out (by omega)
        rw [HAE8.out.1, HSTL.out rfl] at hls
        have HLS8 := hyd hls
        have HLL8 : Hid ((listsT T).length ≤ 100000) := hyd (by have := lists_len HI.out.ok; have := HI.out.bd.s; omega)
        clear hls
        go_wp2_with fail
        refine HLS8.out.mono ?_
        rintro e w10 ⟨ma, mc, rfl, hbe, hb10⟩
        have HS8 := hyd (sameH_any true ma la mc lc (listsT T) (listsT T) w10 hbe.row (HBE9.out.row.below hb10 (Nat.le_refl _)) HLL8.out (by simp))
        have HH10 := hyd (HH9.out.below hb10)
        have HBB10 := hyd (HBB9.out.below hb10)
        clear hbe hb10
        go_wp2_with fail
        refine HS8.out.mono ?_
        rintro e w11 ⟨rfl, nn, rfl⟩
        have hb11 : Below w10.heap.size w10 (w10.drewN nn) := ⟨rfl, rfl, rfl, Nat.le_refl _, fun _ _ => rfl⟩
        have HH11 := hyd (HH10.out.below hb11)
        have HBB11 := hyd (HBB10.out.below hb11)
        clear hb11
        go_wp2_with fail
        go_roundw
        case rel => exact ⟨k + 1, _, ad', F', by go_num, by omega, HH11.out, HBB11.out, HI8.out, HAE8.out.1, HAE8.out.2⟩
        case measure => simp [intOf]; omega
    · have hkl : ¬ (k : Int) < l.length := by omega
      go_wp2_with fail
      refine (HAW.out wr HBW.out).mono ?_
      rintro e w5 ⟨rfl, hb5⟩
      have HB5 := hyd (bnext HBW.out (Nat.le_refl _) hb5)
      clear hb5
      go_wp2_with fail
      go_ret
      exact ⟨rfl, HB5.out⟩
end
section
open Go Go.RowKit
theorem homeOne_any (n mail packet most win worker:Int) (a:Option Addr) (c:Nat) (l:List Item) (W:World) (hr:Row W a (itemsV l)) (hl:l.length<=maxLen) (hok:∀ x ∈ l,x.ok W) (hw:-9223372036854775808<=worker/\worker<=9223372036854775807) (hK:Keeps W) :
  Calls Tryz.prog 4 #[.agg #[.int .i64 n,.int .i64 mail,.int .i64 packet,.int .i64 most,.int .i64 win],.int .i64 worker,.slice a l.length c] W fun e W'=>e = .returned (.bool true)/\Below W.heap.size W W':=by
 by_cases h:(1<=n/\n<=64)/\(1<=IntKind.i64.wrap (worker+1)/\IntKind.i64.wrap (worker+1)<=n)/\(1<=win/\win<=1024)/\(1<=most/\most<=1024)
 ·obtain ⟨cf,rfl,rfl,rfl,rfl,rfl,rfl,hc,hme⟩:=may_cfg (mail:=mail) (packet:=packet) hw h
  exact homeOne_yes cf a c l W hr hok hl hK hc hme
 ·exact homeOne_no n mail packet most win worker a c l W hr hok hl hK h
end
end Go.Proofs.YtcekcoepdhnfgaaGreatDoor
