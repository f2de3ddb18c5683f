/- Lists and Live, walked. -/
import Derived.Test.YtcekcoepdhnfgaaGreatDoorHHJ
import Derived.Test.YtcekcoepdhnfgaaGreatDoorRSX
import Derived.Test.YtcekcoepdhnfgaaGreatDoorHoIter
namespace Go.Proofs.YtcekcoepdhnfgaaGreatDoor
section
open Go Go.RowKit Go.Maps Go.Lib Go.Sort
def hintsOf (c:Str) (l:List SubE):List Hint:=l.map fun y=>(y.1,c)
theorem hintsOf_len (c:Str) (l:List SubE):(hintsOf c l).length=l.length:=by simp [hintsOf]
def allHints (t:Tn):List Hint:=t.seats.flatMap fun z=>hintsOf z.s.client.data.toList z.s.l
def listsT (t:Tn):List Hint:=addAll (allHints t)
theorem hintsOf_nodup {c:Str} {l:List SubE} (h:SUp l):(hintsOf c l).Nodup:=by
 unfold hintsOf;rw [List.Nodup,List.pairwise_map];exact List.Pairwise.imp (fun hlt e=>lt_ne hlt (congrArg Prod.fst e)) h
theorem mem_allHints {t:Tn} {f c:Str}:(f,c) ∈ allHints t ↔ ∃ z ∈ t.seats,z.s.client.data.toList=c/\f ∈ z.s.l.map (·.1):=by
 unfold allHints hintsOf;rw [List.mem_flatMap];constructor
 ·rintro ⟨z,hx,h⟩
  obtain ⟨y,hy,e⟩:=List.mem_map.1 h
  cases e
  exact ⟨z,hx,rfl,List.mem_map.2 ⟨y,hy,rfl⟩⟩
 ·rintro ⟨z,hx,rfl,h⟩
  obtain ⟨y,hy,rfl⟩:=List.mem_map.1 h;exact ⟨z,hx,List.mem_map.2 ⟨y,hy,rfl⟩⟩
theorem str_inj {a b:ByteArray} (h:a.data.toList=b.data.toList):a=b:=by
 rw [<- str_eta a,<- str_eta b,h]
theorem seat_of {t:Tn} (hnd:(t.seats.map (·.s.client)).Nodup) {z:HSeat} (hz:z ∈ t.seats):t.seat z.s.client=some z:=by
 obtain ⟨S1,S2,e⟩:=List.append_of_mem hz;rw [e,List.map_append,List.map_cons] at hnd;obtain ⟨-,-,h3⟩:=List.nodup_append.1 hnd;unfold Tn.seat
 rw [e,List.find?_append,List.find?_eq_none.2 (fun y hy=>by
  have:=h3 y.s.client (List.mem_map_of_mem hy) z.s.client (by simp)
  simpa using this)]
 simp
theorem mem_hints {t:Tn} (hok:HOk t) {f c:Str}:(f,c) ∈ allHints t ↔ ∃ z,t.seat ⟨c.toArray⟩=some z/\f ∈ z.s.l.map (·.1):=by
 rw [mem_allHints];constructor
 ·rintro ⟨z,hz,rfl,h⟩
  refine ⟨z,?_,h⟩;rw [str_eta];exact seat_of hok.nd hz
 ·rintro ⟨z,hz,h⟩
  exact ⟨z,(seat_at hz).1,by rw [(seat_at hz).2],h⟩
theorem hints_nodup:∀ (l:List HSeat),(l.map (·.s.client)).Nodup->(∀ z ∈ l,SUp z.s.l)->(l.flatMap fun z=>hintsOf z.s.client.data.toList z.s.l).Nodup
 | [],_,_=>List.nodup_nil
 | x :: r,hk,hu=>by
  rw [List.map_cons,List.nodup_cons] at hk;have ih:=hints_nodup r hk.2 (fun y hy=>hu y (by simp [hy]));rw [List.flatMap_cons];refine List.nodup_append.2 ⟨hintsOf_nodup (hu x (by simp)),ih,?_⟩;rintro ⟨f,c⟩ ha b hb rfl;obtain ⟨y,-,e⟩:=List.mem_map.1 ha;obtain ⟨z,hz,hb⟩:=List.mem_flatMap.1 hb;obtain ⟨y',-,e'⟩:=List.mem_map.1 hb
  cases e
  have e2:z.s.client.data.toList=x.s.client.data.toList:=congrArg Prod.snd e';exact hk.1 (List.mem_map.2 ⟨z,hz,str_inj e2⟩)
theorem listsT_ok {t:Tn} (hok:HOk t):HRising (listsT t)/\(listsT t).Perm (allHints t):=addAll_ok (hints_nodup t.seats hok.nd fun z hz=>(hok.seat z hz).s.up)
theorem lists_same {t t':Tn} (hok:HOk t) (hok':HOk t') (h:VwS t t'):listsT t'=listsT t:=by
 obtain ⟨r1,p1⟩:=listsT_ok hok;obtain ⟨r2,p2⟩:=listsT_ok hok';have n1:=hints_nodup t.seats hok.nd fun z hz=>(hok.seat z hz).s.up
 have n2:=hints_nodup t'.seats hok'.nd fun z hz=>(hok'.seat z hz).s.up
 have hp:(allHints t').Perm (allHints t):=(List.perm_ext_iff_of_nodup n2 n1).2 fun ⟨f,c⟩=>by
  show (f,c) ∈ allHints t' ↔ (f,c) ∈ allHints t
  rw [mem_hints hok,mem_hints hok'];have e:=h ⟨c.toArray⟩;constructor
  ·rintro ⟨z,hz,hf⟩
   rw [hz] at e;obtain ⟨z0,h0,e0⟩:=Option.map_eq_some_iff.1 e.symm;exact ⟨z0,h0,by rw [(Prod.mk.inj e0).2];exact hf⟩
  ·rintro ⟨z,hz,hf⟩
   rw [hz] at e;obtain ⟨z0,h0,e0⟩:=Option.map_eq_some_iff.1 e;exact ⟨z0,h0,by rw [(Prod.mk.inj e0).2];exact hf⟩
 exact List.Perm.eq_of_pairwise (fun a b _ _ h1 h2=>absurd (ahead_trans h1 h2) (ahead_irrefl _)) r2 r1 (p2.trans (hp.trans p1.symm))
def CollT (t:Tn) (left:Lit->Bool) (hs:List Hint):Prop:=hs.Nodup /\ ∀ f c,(f,c) ∈ hs ↔ ∃ z,t.seat ⟨c.toArray⟩=some z/\left (.string c)=false/\f ∈ z.s.l.map (·.1)
theorem collT_start (t:Tn) {left:Lit->Bool} (h:∀ c z,t.seat ⟨c.toArray⟩=some z->left (.string c)=true):CollT t left []:=⟨List.nodup_nil,fun f c=>⟨fun h=>(by cases h),fun ⟨s,h1,h2,_⟩=>(by rw [h c s h1] at h2;cases h2)⟩⟩
theorem collT_step {t:Tn} {left:Lit->Bool} {hs:List Hint} (h:CollT t left hs) {c:Str} {z:HSeat} (hc:t.seat ⟨c.toArray⟩=some z) (hl:left (.string c)=true) (hU:SUp z.s.l) :
  CollT t (fun y=>left y && !y.sameKey (.string c)) (hs++hintsOf c z.s.l):=by
 refine ⟨List.nodup_append.2 ⟨h.1,hintsOf_nodup hU,?_⟩,fun f d => ?_⟩
 ·rintro ⟨f,d⟩ ha b hb rfl
  obtain ⟨y,-,e⟩:=List.mem_map.1 hb
  cases e
  obtain ⟨_,_,h2,_⟩:=(h.2 _ _).1 ha;rw [hl] at h2;cases h2
 ·rw [List.mem_append,h.2]
  constructor
  ·rintro (⟨x,h1,h2,h3⟩ | h1)
   ·exact ⟨x,h1,(by show (left _ && _)=false;rw [h2];rfl),h3⟩
   ·obtain ⟨y,hy,e⟩:=List.mem_map.1 h1
    cases e
    exact ⟨z,hc,by simp [Lit.sameKey],List.mem_map.2 ⟨y,hy,rfl⟩⟩
  ·rintro ⟨x,h1,h2,h3⟩
   by_cases e:d=c
   ·subst e
    rw [hc] at h1
    cases h1
    obtain ⟨y,hy,rfl⟩:=List.mem_map.1 h3;exact .inr (List.mem_map.2 ⟨y,hy,rfl⟩)
   ·refine .inl ⟨x,h1,?_,h3⟩
    simpa [Lit.sameKey,e] using h2
theorem collT_done {t:Tn} (hok:HOk t) {left:Lit->Bool} {hs:List Hint} (h:CollT t left hs) (hl:∀ kl,left kl=false):hs.Perm (listsT t):=by
 refine List.Perm.trans ?_ (listsT_ok hok).2.symm;refine (List.perm_ext_iff_of_nodup h.1 (hints_nodup t.seats hok.nd fun z hz=>(hok.seat z hz).s.up)).2 fun ⟨f,c⟩ => ?_
 rw [h.2];show _ ↔ (f,c) ∈ allHints t
 rw [mem_hints hok];constructor
 ·rintro ⟨x,h1,-,h3⟩
  exact ⟨x,h1,h3⟩
 ·rintro ⟨x,h1,h3⟩
  exact ⟨x,h1,hl _,h3⟩
theorem ranges_keep {k:TypeId} {R:Value->Option (DataW Unit × List MemPlace)} {W W1:World} {b r n cnt:Nat} {D:DataW Unit} {left:Lit->Bool} (h:W.ranges Tryz.prog k R b r n D left cnt) (h1:W1.heap[b]? = W.heap[b]?) (h2:W1.heap[r]? = W.heap[r]?):W1.ranges Tryz.prog k R b r n D left cnt:=by
 obtain ⟨es,clock,since,seen,c0,a1,a2,a3,a4,a5,a6⟩:=h;exact ⟨es,clock,since,seen,c0,h1.trans a1,a2,a3,a4,h2.trans a5,a6⟩
theorem iter_lt {k:TypeId} {R:Value->Option (DataW Unit × List MemPlace)} {W:World} {b r n cnt:Nat} {D:DataW Unit} {left:Lit->Bool} (h:W.ranges Tryz.prog k R b r n D left cnt):b < W.heap.size/\r < W.heap.size:=by
 obtain ⟨es,clock,since,seen,c0,a1,a2,a3,a4,a5,a6⟩:=h;exact ⟨(Array.getElem?_eq_some_iff.1 a1).1,(Array.getElem?_eq_some_iff.1 a5).1⟩
theorem iter_ne {k:TypeId} {R:Value->Option (DataW Unit × List MemPlace)} {w:World} {b r n:Nat} {D:DataW Unit} {left:Lit->Bool} {cnt base:Nat} {e:TypeId} {size:Nat} {v:Value} {m:Nat} {xs:List Value}
  (h:w.ownsRow base e size v m xs) (hr:w.ranges Tryz.prog k R b r n D left cnt):some r ≠ v.ownBlock:=by
 obtain ⟨_,_,_,_,_,_,_,_,_,hit,_⟩:=hr
 rcases h.2 with ⟨rfl,_⟩ | ⟨g,cap,cur,rfl,_,hb,_⟩
 ·simp [Value.ownBlock]
 ·intro e1
  have:r=g:=by simpa [Value.ownBlock] using e1
  subst this;rw [hit] at hb
  cases hb
theorem low_ne {w:World} {base:Nat} {e:TypeId} {size:Nat} {v:Value} {n:Nat} {xs:List Value} (h:w.ownsRow base e size v n xs) {b:Nat} (hb:b < base):some b ≠ v.ownBlock:=fun e1=>by
 have:=(h.lt b e1.symm).1;omega
theorem own_ne {w:World} {B B':Nat} {e e':TypeId} {s s' n n':Nat} {v v':Value} {xs xs':List Value} (h:w.ownsRow B e s v n xs) (h':w.ownsRow B' e' s' v' n' xs') (he:e ≠ e'):∀ k,v.ownBlock=some k->v'.ownBlock ≠ some k:=by
 intro k hk hk'
 rcases h.2 with ⟨rfl,_⟩ | ⟨g,cap,cur,rfl,_,hb,_⟩
 ·simp [Value.ownBlock] at hk
 ·rcases h'.2 with ⟨rfl,_⟩ | ⟨g',cap',cur',rfl,_,hb',_⟩
  ·simp [Value.ownBlock] at hk'
  ·obtain rfl:g=k:=by simpa [Value.ownBlock] using hk
   obtain rfl:g'=g:=by simpa [Value.ownBlock] using hk'
   rw [hb] at hb';simp at hb';exact he hb'.2
theorem wpList_appN {P:Program} {t e:TypeId} {z:Value} {size bytes:Nat} (E:ElemT P t e z size bytes) {w0 w:World} {B:Nat} {v:Value} {n:Nat} {xs:List Value} (hown:w.ownsRow B e size v n xs) (hbel:Below B w0 w) (hB:B<=w.heap.size) {nb:Nat} (hnb:nb=w.heap.size)
  {ops:Array Oper} {rest:List Oper} {o:Oper} {a:Act} {Q:Exit->Act->World->Prop} {s x:Operand} {cur:Array Value} {m c:Nat}
  (hgd:o.guard=none) (ho:o.op = .call { callee:=.builtin .append,args:=#[s,x],argTypes:=#[t,t] }) (hs:a.eval s=v) (hx:a.eval x = .slice (some ⟨nb,0,none⟩) m c)
  (hc:cur.size=m * size) (h1:∀ u ∈ cur.toList,u.oneCell'=true) (hbytes:(n+m) * bytes<=140737488355328) (hn:n+m < 140737488355328)
  (h:∀ v' w',w'.ownsRow B e size v' (n+m) (xs++cur.toList)->Below B w0 w'->B<=w'.heap.size->(w.alloc (.cells cur e)).grownBy w' v.ownBlock->wpList P ops Q rest (a.put o.dst v') w'):wpList P ops Q (o :: rest) a (w.alloc (.cells cur e)):=by
 subst hnb;exact wpList_appG E hown hbel hB hgd ho hs hx hc h1 hbytes hn h
theorem hlays_any (blk off size:Nat) (w:World):CmpLays Tryz.prog 48 #[] hintCells 2 cmpH blk off size w:=
 fun _ _ _ _ x y=>closure_any x y _
theorem hsort_any (g cap:Nat) (l Gs:List Hint) (w:World) (hH:HoldsK hintCells 2 w g 0 l.toArray) (hg:g < w.heap.size) (hl:l.length < 1000000) (hG:HRising Gs) (hp:l.Perm Gs) :
  Calls Tryz.prog 47 #[.slice (some ⟨g,0,none⟩) l.length cap,.func (.func 48) #[] #[]] w fun e w'=>e = .returned (.tuple #[]) /\ ∃ n os,w'=sortWorldK hintCells 2 w g 0 n Gs.toArray os:=by
 have eg:∀ args w,(callFunc 48 args).run Tryz.prog w = .ok (.enter 48 args) w:=enters_of Tryz.func48 (by kernel_rfl) rfl;have hz:l.toArray.size=l.length:=by simp
 have hsc:=AnyQ.slices_SortFunc_total Tryz.sortF47 2 Tryz.isAgg119 Tryz.sizeOf119 hintCells (fun _=>rfl) hint_one cmpH swo_hint 48 #[] g 0 cap l.toArray w
  eg (hlays_any g 0 _ w) hH hg (by rw [hz];omega) tot_hint
 rw [hz] at hsc;change Calls Tryz.prog 47 _ _ _ at hsc;have hm:(l.toArray.toList.mergeSort fun x y => !(ltOf cmpH) y x)=Gs:=sort_hints hG hp;rw [hm] at hsc;exact hsc
theorem hownsort_any (B:Nat) (v:Value) (l Gs:List Hint) (w:World) (hown:w.ownsRow B 119 2 v l.length (hintsV l)) (hl:l.length < 1000000) (hG:HRising Gs) (hp:l.Perm Gs) :
  Calls Tryz.prog 47 #[v,.func (.func 48) #[] #[]] w fun e w'=>e = .returned (.tuple #[])/\w'.ownsRow B 119 2 v Gs.length (hintsV Gs)/\w.grownBy w' v.ownBlock:=by
 have hlen:=hp.length_eq
 rcases hown.2 with ⟨rfl,hn0⟩ | ⟨g,cap,cur,rfl,hbase,hgb,hnc,hcm,hcs,htk⟩
 ·have hg0:Gs = []:=List.eq_nil_of_length_eq_zero (by omega)
  subst hg0;have hsc:=AnyF.slices_SortFunc_none Tryz.sortF47 none 0 (.func (.func 48) #[] #[]) w;change Calls Tryz.prog 47 _ _ _ at hsc;refine hsc.mono ?_;rintro e w' ⟨rfl,rfl⟩;exact ⟨rfl,World.ownsRow_nil _ _ _ _,World.grownBy.refl _ _⟩
 ·refine (hsort_any g cap l Gs w (holds_hints hgb htk) (Array.getElem?_eq_some_iff.1 hgb).1 hl hG hp).mono ?_
  rintro e w' ⟨rfl,n,os,rfl⟩;obtain ⟨ho,hg⟩:=own_sorted (n:=n) (os:=os) (l:=l) (m:=Gs) hlen.symm hbase hgb hnc hcm hcs;rw [hlen] at ho ⊢;exact ⟨rfl,ho,hg⟩
end
section
open Go Go.RowKit Go.Maps Go.Lib Go.Sort
section
variable {c:HCfg} {ad:HAd} {w w':World} {t:Tn} {v:TnV} {E F:List Nat}
theorem HomeP.seats (h:HomeP c ad w t v E):PMap w ad.ms t.seats.length (seatF ad t):=h.lies.at' (mapPc ad.ms t.seats.length (seatF ad t)) (by simp [hpcs,restPcs])
theorem HomeP.seatAt (h:HomeP c ad w t v E) {cl:ByteArray} {z:HSeat} (h0:t.seat cl=some z):∀ p ∈ seatPcs c ad (v.sv cl) z,p.R w:=fun p hp=>by
 obtain ⟨hm,hc⟩:=seat_at h0;refine h.lies.at' p ?_;unfold hpcs restPcs;refine List.mem_cons_of_mem _ (List.mem_cons_of_mem _ (List.mem_cons_of_mem _ (List.mem_cons_of_mem _ (List.mem_append_left _ (List.mem_flatMap.2 ⟨z,hm,?_⟩)))));rw [hc];exact hp
theorem HomeAt.look (h:HomeAt c ad w t E F) {cl:ByteArray} {z:HSeat} (h0:t.seat cl=some z):∃ lb FL u,w.heap[ad.seat cl]? = some (.cells [bxV (ad.sess cl),u].toArray 105 (0,0))/\(u = .pointer none/\z.busy=none \/ (∃ b,u=bxV b)/\z.busy.isSome=true)/\w.cell? ⟨ad.sess cl,1,none⟩=some (.int .i64 z.s.conn)/\w.cell? ⟨ad.sess cl,8,none⟩=some (.pointer (some ⟨lb,0,none⟩))/\SRep w lb z.s.l FL:=by
 obtain ⟨v,hP,-⟩:=h;have hzc:=(seat_at h0).2;have h1:=hP.seatAt h0 (cellPc (ad.seat z.s.client) [bxV (ad.sess z.s.client),busyV (v.sv cl) z.busy] 105) (by simp [seatPcs]);have h2:=hP.seatAt h0 (sesPc (ad.sess z.s.client) z.s c.win c.most (v.sv cl).F) (by simp [seatPcs]);rw [hzc] at h1 h2;obtain ⟨lb,ob,cb,FL,FO,FC,hp,-⟩:=h2;refine ⟨lb,FL,_,h1,?_,hp.cells.2.1,hp.cells.2.2.2.2.2.2.2.2.1,hp.subs⟩
 cases z.busy with
 | none=>exact .inl ⟨rfl,rfl⟩
 | some k=>exact .inr ⟨⟨_,rfl⟩,rfl⟩
theorem HomeAt.lookSeat (h:HomeAt c ad w t E F) {cl:ByteArray} (hs:cl.size<=maxLen):(Instr.lookup 89 (.map (some ad.ms)) (.string cl) false).run Tryz.prog w = .ok (ptrV ((t.seat cl).map fun _=>ad.seat cl)) w:=by
 obtain ⟨v,hP,-⟩:=h;have h1:=hP.seats.look Tryz.underlying89 zeroSeat hs;rw [h1];unfold seatF;rw [str_eta]
end
theorem home_c6 {c:HCfg} {ad:HAd} {w:World} {t:Tn} {E F:List Nat} (h:HomeAt c ad w t E F):w.cell? ⟨ad.hb,6,none⟩=some (.map (some ad.ms))/\w.cell? ⟨ad.hb,7,none⟩=some (.map (some ad.mf)):=⟨cell_of_row _ _ 6 _ _ _ h.cells,cell_of_row _ _ 7 _ _ _ h.cells⟩
set_option maxRecDepth 100000
set_option maxHeartbeats 4000000
theorem hlists_any (cf:HCfg) (ad:HAd) (T:Tn) (E F:List Nat) (w:World) (h:HomeAt cf ad w T E F) (hO:HOk T) (hN:T.seats.length<=10000) :
  Calls Tryz.prog 16 #[.pointer (some ⟨ad.hb,0,none⟩)] w fun e w' => ∃ v,e = .returned v/\w'.ownsRow w.heap.size 119 2 v (listsT T).length (hintsV (listsT T))/\Below w.heap.size w w'/\Hid ((listsT T).length<=160000):=by
 obtain ⟨c0,-⟩:=home_c6 h;obtain ⟨v0,hP,-⟩:=id h;obtain ⟨D,hown,hDN,hD⟩:=hP.seats;clear hP;have hsb:=hown.lt;have HLK:=hyd (fun X d x (hb:Below w.heap.size w X) (hx:T.seat d=some x)=>(h.below hb).look hx);have HD:=hyd hD;generalize ad.ms=sb at *;have HOK:=hyd hO;have HST:Hid (∀ c s',T.seat ⟨c.toArray⟩=some s'->Maps.has D (.string c)=true):=hyd (fun c s' hc=>by rw [(hD c).1];unfold seatF;rw [hc];rfl);clear h hO hD
 go_enter Tryz.func16, Tryz.ntmps16
 go_wp2_with (first
  | (at_range;refine wpList_range_own _ rfl _ 89 rfl 9 101 kS Tryz.underlying89 ptrElem sb _ _ rfl hown ?_;intro w0 hrg0 hg0 hs0)
  | fail)
 go_frame
 clear hs0
 go_loopw [3,4,5] (fun v _ _ wr => ∃ (left:Lit->Bool) (cnt:Nat) (hs:List Hint),wr.ranges Tryz.prog 9 ptrElem sb w.heap.size (Maps.size D) D left cnt/\hs.length+16 * cnt<=16 * Maps.size D/\cnt<=Maps.size D ∧
   wr.ownsRow w.heap.size 119 2 v hs.length (hintsV hs)/\CollT T left hs/\Below w.heap.size w wr)
  (fun _ _ _ wr=>wr.rangeLeft sb w.heap.size)
 case atStart=>exact ⟨_,_,[],hrg0,by simp,Nat.le_refl _,World.ownsRow_nil _ _ _ _,collT_start _ HST.out,(Below.refl _ _).grown hg0 (Nat.le_refl _) (fun j hj=>by cases hj)⟩
 case round =>
  obtain ⟨left,cnt,hs,hrg,hcs,hcs2,hrow,hC,hnx⟩:=hrel;have HC:=hyd hC;have HNX:=hyd hnx;have HROW:=hyd hrow;clear hC hnx hrow hown
  go_wp2_with (first
   | (at_next;refine wpList_next_ranges _ rfl _ rfl 9 kS ptrElem (fun v=>v) (fun v=>v) (fun key _ _=>⟨key,rfl⟩) (fun v y _=>⟨v,rfl⟩) sb w.heap.size _ _ _ _ rfl hrg ?_ ?_)
   | fail)
  ·intro hc0 hl0
   have hP:=collT_done HOK.out HC.out hl0;have HLEN:=hyd (show (listsT T).length<=160000 by have:=hP.length_eq;omega);have HSO:=hyd (hownsort_any w.heap.size _ hs (listsT T) wr HROW.out (by omega) (listsT_ok HOK.out).1 hP);clear hP hl0 hcs
   go_wp2_with fail
   refine HSO.out.mono ?_;rintro e w' ⟨rfl,hrow',hgr⟩;have HR2:=hyd hrow';have HB2:=hyd (HNX.out.grown hgr HNX.out.size (fun k hk=>(HROW.out.lt k hk).1));clear hrow' hgr
   go_wp2_with fail
   go_ret
   exact ⟨_,rfl,HR2.out,HB2.out,HLEN⟩
  ·intro x c kl yd yp w2 cnt2 hkey hlk hv hat hrg2 hlt hg2 hs2 hen
   obtain ⟨z,rfl,rfl,hzl⟩:=Maps.keyOf_str Tryz.underlying9 hkey;have hhas:Maps.has D (.string z)=true:=has_true_of_atKey hat
   obtain ⟨x,hx,hxc⟩:∃ x,T.seat ⟨z.toArray⟩=some x/\c = .pointer (some ⟨ad.seat ⟨z.toArray⟩,0,none⟩):=by
    obtain ⟨h1,h2⟩:=HD.out z;rw [hhas] at h1;unfold seatF at h1 h2
    cases ho:T.seat ⟨z.toArray⟩ with
    | none=>rw [ho] at h1;cases h1
    | some x =>
     refine ⟨x,rfl,?_⟩;have h3:=h2 (ad.seat ⟨z.toArray⟩) (by rw [ho];rfl) yd;rw [hat] at h3;subst h3;exact ptrElem_inv hv
   subst hxc;have hb2:=HNX.out.grown hg2 HNX.out.size (fun j hj=>by cases hj;exact Nat.le_refl _);have hrow2:=HROW.out.kept hg2 (Or.inr (iter_ne HROW.out hrg).symm);obtain ⟨lb,G,u0,hse,-,-,d8,hsr⟩:=HLK.out w2 _ _ hb2 hx;have d0:w2.cell? ⟨ad.seat ⟨z.toArray⟩,0,none⟩=some (.pointer (some ⟨ad.sess ⟨z.toArray⟩,0,none⟩)):=by rw [cell_of_row _ _ 0 _ _ _ hse];rfl
   have h16:=(HOK.out.seat x (seat_at hx).1).s.len;have HUP:=hyd (HOK.out.seat x (seat_at hx).1).s.up;generalize ad.seat ⟨z.toArray⟩=sq at *;generalize ad.sess ⟨z.toArray⟩=sp at *;have HSS:=hyd (subs_any lb x.s.l G w2 hsr);have HR2:=hyd hrow2;have HB2:=hyd hb2;have HRG:=hyd hrg2;have HRGL:=hyd hrg.left_eq;have HCN:=hyd (collT_step HC.out hx hlk HUP.out);have HLT:=hyd hlt;replace hen:(Instr.entry (.pointer (some ⟨w.heap.size,0,none⟩))).run Tryz.prog w2 = .ok (.tuple #[.string ⟨z.toArray⟩,.pointer (some ⟨sq,0,none⟩)]) w2:=hen;clear hrg hrg2 hrow2 hsr hse hx hv hat hkey hlk hb2 hg2 hs2 hhas HROW HNX HC hlt
   go_wp2_with fail
   refine HSS.out.mono ?_;rintro e w3 ⟨sv,rfl,hsub,hk3⟩;have HSUB:=hyd hsub;have HRG3:=hyd (ranges_keep HRG.out (hk3.block _ (iter_lt HRG.out).1) (hk3.block _ (iter_lt HRG.out).2));have HR3:=hyd (ownsRow_local HR2.out fun k hk=>hk3.block k (HR2.out.lt k hk).2);have HB3:=hyd (bnext HB2.out (Nat.le_refl _) hk3);obtain ⟨sa,sc,rfl,-,hslc,-⟩:=ownsRow_row hsub;clear hsub hk3 HSS HR2 HRG HB2;have HHL:=hyd (fun l=>hintsOf_len z l);have hcs3:hs.length+x.s.l.length+16 * cnt2<=16 * Maps.size D:=by have:=HLT.out;omega
   have hsz3:=HB3.out.size
   go_wp2_with fail
   go_loopw [3,29] (fun v i wq => ∃ k:Nat,i = .int .i64 k/\k<=x.s.l.length/\wq.ranges Tryz.prog 9 ptrElem sb w.heap.size (Maps.size D) D (fun y=>left y && !y.sameKey (.string z)) cnt2 ∧
     wq.ownsRow w.heap.size 119 2 v (hs.length+k) (hintsV (hs++hintsOf z (x.s.l.take k)))/\wq.ownsRow w2.heap.size 76 2 (.slice sa x.s.l.length sc) x.s.l.length (subsV x.s.l)/\Below w.heap.size w wq)
    (fun _ i _=>(x.s.l.length - intOf i).toNat)
   case atStart=>exact ⟨0,rfl,by omega,HRG3.out,by simpa [hintsOf] using HR3.out,HSUB.out,HB3.out⟩
   case round =>
    obtain ⟨k,rfl,hkl,hrgq,hrowq,hsubq,hbq⟩:=hrel
    by_cases hlt:k < x.s.l.length
    ·have hkI:(k:Int) < x.s.l.length:=by omega
     have hk0:(0:Int)<=k:=by omega
     obtain ⟨a1,c1,e1,hr1,-,-⟩:=ownsRow_row hsubq
     cases e1
     obtain ⟨b1,o1,rfl,d0,d1⟩:=subs_row hr1 hlt
     have HTK:=hyd (show hs++hintsOf z (x.s.l.take k) ++ [(x.s.l[k].1,z)]=hs++hintsOf z (x.s.l.take (k+1)) by
      rw [List.take_succ_eq_append_getElem hlt,hintsOf,hintsOf,List.map_append,List.append_assoc];rfl)
     generalize x.s.l[k]=y at *;obtain ⟨yf,yq⟩:=y;dsimp only at *;have hrow2:=hrowq.alloc (.cells #[.string ⟨yf.toArray⟩,.int .u8 yq] 76);have hb2:=hbq.alloc hbq.size (.cells #[.string ⟨yf.toArray⟩,.int .u8 yq] 76);have hs2:=hb2.size;have HNB:=hyd (show wr.heap.size+1=(wr.alloc (.cells #[.string ⟨yf.toArray⟩,.int .u8 yq] 76)).heap.size by simp);have n0:=cell_of_row _ _ 0 _ _ _ (heap_alloc_new wr (.cells #[.string ⟨yf.toArray⟩,.int .u8 yq] 76));simp only [List.getElem?_toArray,List.getElem?_cons_zero] at n0
     have HFR:Hid (∀ W,(((wr.alloc (.cells #[.string ⟨yf.toArray⟩,.int .u8 yq] 76)).alloc (.cells #[.string ⟨yf.toArray⟩,.string ⟨z.toArray⟩] 119)).grownBy W u3.ownBlock) →
       W.ranges Tryz.prog 9 ptrElem sb w.heap.size (Maps.size D) D (fun y=>left y && !y.sameKey (.string z)) cnt2/\W.ownsRow w2.heap.size 76 2 (.slice (some ⟨b1,o1,none⟩) x.s.l.length sc) x.s.l.length (subsV x.s.l)):=hyd (fun W hg=>by
      obtain ⟨i1,i2⟩:=iter_lt hrgq
      have ks:∀ k,k < wr.heap.size->u3.ownBlock ≠ some k->W.heap[k]? = wr.heap[k]?:=fun k hk hne=>by
       rw [hg.block k (by simp;omega) (fun e=>hne e.symm),Below.heap_alloc _ _ _ (by simp;omega),Below.heap_alloc _ _ _ hk]
      refine ⟨ranges_keep hrgq (ks _ i1 fun e=>(low_ne hrowq hsb) e.symm) (ks _ i2 fun e=>(iter_ne hrowq hrgq) e.symm),ownsRow_local hsubq fun k hk=>ks k (hsubq.lt k hk).2 fun e=>own_ne hsubq hrowq (by decide) k hk e⟩)
     have hxl:(hs++hintsOf z (x.s.l.take k)).length=hs.length+k:=by rw [List.length_append,HHL.out,List.length_take];omega
     clear hrgq hsubq hr1 hrowq hbq
     go_wp2_with (first | (at_builtin;refine wpList_appN T_hint hrow2 hb2 hs2 HNB.out rfl rfl rfl rfl (by rfl) (by simp [Value.oneCell']) (by omega) (by omega) ?_;intro v' w8 hown' hbel3 hsz3 hg3) | fail)
     obtain ⟨f1,f2⟩:=HFR.out _ hg3;have HOW:=hyd hown';clear hown' hg3 hrow2
     go_roundw
     case rel=>exact ⟨k+1,by go_num,by omega,f1,by rw [<- HTK.out,hintsV_append];exact HOW.out,f2,hbel3⟩
     case measure=>simp [intOf];omega
    ·obtain rfl:k=x.s.l.length:=by omega
     have hkI:¬ (x.s.l.length:Int) < x.s.l.length:=by omega
     rw [List.take_length] at hrowq;have HROWQ:=hyd hrowq;clear hrowq hsubq
     go_wp2_with fail
     go_roundw
     case rel=>exact ⟨_,cnt2,hs++hintsOf z x.s.l,hrgq,by rw [List.length_append,HHL.out];omega,by omega,by rw [List.length_append,HHL.out];exact HROWQ.out,HCN.out,hbq⟩
     case measure=>rw [hrgq.left_eq,HRGL.out];exact HLT.out
end
section
open Go Go.RowKit Go.Maps Go.Lib
set_option maxRecDepth 100000
set_option maxHeartbeats 2000000
theorem live_any (c:HCfg) (ad:HAd) (T:Tn) (E F:List Nat) (w:World) (cl:ByteArray) (h:HomeAt c ad w T E F) (hs:cl.size<=maxLen) :
  Calls Tryz.prog 15 #[.pointer (some ⟨ad.hb,0,none⟩),.string cl] w fun e w'=>e = .returned (.int .i64 (liveT cl T))/\Below w.heap.size w w':=by
 obtain ⟨c6,-⟩:=home_c6 h;have hlk:=h.lookSeat hs;have hlk':=(h.below (Below.refl w.heap.size w).drew).lookSeat hs
 cases h0:T.seat cl with
 | none =>
  rw [h0] at hlk hlk';have HL:Hid (liveT cl T=0):=hyd (by unfold liveT;rw [h0]);have e1:(Instr.lookup 89 (.map (some ad.ms)) (.string cl) false).run Tryz.prog w = .ok (.pointer none) w:=hlk;have e2:(Instr.lookup 89 (.map (some ad.ms)) (.string cl) false).run Tryz.prog w.drew = .ok (.pointer none) w.drew:=hlk';clear hlk hlk' h0 h
  go_enter Tryz.func15, Tryz.ntmps15
  go_wp2_with fail
  go_ret
  exact ⟨by rw [HL.out];rfl,by first | exact Below.refl _ _ | exact (Below.refl _ _).drew⟩
 | some z =>
  rw [h0] at hlk hlk';obtain ⟨lb,FL,u,hse,-,g1,-⟩:=h.look h0;have g0:w.cell? ⟨ad.seat cl,0,none⟩=some (.pointer (some ⟨ad.sess cl,0,none⟩)):=by rw [cell_of_row _ _ 0 _ _ _ hse];rfl
  have HL:Hid (liveT cl T=z.s.conn):=hyd (live_at h0);have e1:(Instr.lookup 89 (.map (some ad.ms)) (.string cl) false).run Tryz.prog w = .ok (.pointer (some ⟨ad.seat cl,0,none⟩)) w:=hlk;have e2:(Instr.lookup 89 (.map (some ad.ms)) (.string cl) false).run Tryz.prog w.drew = .ok (.pointer (some ⟨ad.seat cl,0,none⟩)) w.drew:=hlk';clear hlk hlk' h0 h hse
  go_enter Tryz.func15, Tryz.ntmps15
  go_wp2_with fail
  go_ret
  exact ⟨by rw [HL.out];rfl,by first | exact Below.refl _ _ | exact (Below.refl _ _).drew | exact (Below.refl _ _).drew.drew⟩
end
section
open Go
def subP (b:Nat):Pkt:={ pkZ with ty:=8,id:=7,subsA:=some ⟨b,0,none⟩,subsC:=1,subs:=[([97,47,43],1)] }
def subI (b:Nat):Item:=asksI 2 1 (subP b)
def addI (op:Int):Item:={ itZ with kind:=8,op:=op,client:=xB }
def delI (b:Nat):Item:={ itZ with kind:=11,op:=9,clsA:=some ⟨b,0,none⟩,clsC:=1,cls:=[xB],msg:=⟨⟨#[97,47,98]⟩,⟨#[49]⟩,2,false⟩ }
def tA1:Tn:=hearT cfg1 (helloI 1 1 true) Tn.new.begin
def tA2 (b:Nat):Tn:=hearT cfg1 (subI b) tA1.begin
def tA3 (b:Nat):Tn:=hearT cfg1 (addI 2) (tA2 b).begin
def tA4 (b d:Nat):Tn:=hearT cfg1 (delI d) (tA3 b).begin
set_option maxRecDepth 100000
theorem tA3_live (b:Nat):liveT xB (tA3 b)=1:=by kernel_rfl
theorem tA3_lists (b:Nat):(listsT (tA3 b)).length=1:=by kernel_rfl
theorem tA3_notes (b:Nat):(tA3 b).notes.length=4:=by kernel_rfl
theorem tA4_kinds (b d:Nat):(tA4 b d).mails.map (fun m=>m.it.kind) = [13,12]:=by kernel_rfl
theorem tA4_pks (b d:Nat):(tA4 b d).mails.map (fun m=>m.it.pks.map fun p=>(p.qos,p.topic.data.toList)) = [[(1,[97,47,98])],[]]:=by kernel_rfl
end
end Go.Proofs.YtcekcoepdhnfgaaGreatDoor
