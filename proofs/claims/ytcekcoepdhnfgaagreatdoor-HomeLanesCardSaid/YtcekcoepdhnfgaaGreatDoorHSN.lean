/- mail, note, gate, sends, hubs. -/
import Derived.Test.YtcekcoepdhnfgaaGreatDoorHMe
import Derived.Test.YtcekcoepdhnfgaaGreatDoorOutZ
import Derived.Test.YtcekcoepdhnfgaaGreatDoorStB
import Derived.Test.YtcekcoepdhnfgaaGreatDoorShG
import Derived.Test.YtcekcoepdhnfgaaGreatDoorSubClear
import Derived.Test.YtcekcoepdhnfgaaGreatDoorPkI
import Derived.Test.YtcekcoepdhnfgaaGreatDoorKHas
namespace Go.Proofs.YtcekcoepdhnfgaaGreatDoor
section
open Go Go.RowKit Go.Maps
def hmlZ:HMl:=⟨0,0,itZ⟩
theorem T_mail:ElemT Tryz.prog 31 46 (.agg hmlZ.cells.toArray) 40 400:=⟨Tryz.underlying31, by kernel_rfl,by kernel_rfl,by decide⟩
theorem hml_one (m:HMl):∀ u ∈ m.cells.toArray.toList,u.oneCell'=true:=by
 have:m.cells.toArray.all (·.oneCell')=true:=by simp [HMl.cells,Item.cells,Pkt.cells,Msg.cells,Value.oneCell']
 rw [Array.all_eq_true_iff_forall_mem] at this;exact fun u hu=>this u (by simpa using hu)
theorem item_size (x:Item):(Tryz.prog.info? 44).map (·.size)=some x.cells.length:=by kernel_rfl
theorem build_mail (n:HMl):Build1 Tryz.prog 31 46 n.cells:=by
 intro o a w K Q x ho hx h;obtain ⟨i,hi,hz0,hz1,hz2⟩:=info_parts T_mail.hi;refine wp_buildSlice 31 46 1 _ ho n.cells.toArray i _ Tryz.underlying31 hi hz0 (by rw [hz1];decide) (by rw [hz1];decide) ?_ h;rw [hz1];simp only [List.map_toArray,List.map_cons,List.map_nil,hx];clear hx h ho hi hz0 hz1 hz2;obtain ⟨d,l,⟨ki,op,co,cl,fi,⟨p0,p1,p2,p3,p4,p5,p6,p7,p8,p9,p10,p11,⟨m0,m1,m2,m3⟩,p13,p14,p15,p16,p17,p18,p19,p20,p21,p22⟩,⟨n0,n1,n2,n3⟩,a1,a2,a3,b1,b2,b3,c1,c2,c3,fr,ma⟩⟩:=n
 kernel_rfl
theorem built_mail (n:HMl):Tryz.prog.built 46 [(0,.int .i64 n.dest),(1,.int .i64 n.lane),(2,.agg n.it.cells.toArray)]=some n.cells.toArray:=by
 obtain ⟨d,l,⟨ki,op,co,cl,fi,⟨p0,p1,p2,p3,p4,p5,p6,p7,p8,p9,p10,p11,⟨m0,m1,m2,m3⟩,p13,p14,p15,p16,p17,p18,p19,p20,p21,p22⟩,⟨n0,n1,n2,n3⟩,a1,a2,a3,b1,b2,b3,c1,c2,c3,fr,ma⟩⟩:=n
 kernel_rfl
set_option maxRecDepth 100000
set_option maxHeartbeats 4000000
theorem mail_any (c:HCfg) (ad:HAd) (tb:Nat) (T:Tn) (E F:List Nat) (w:World) (d lane:Int) (x h1:Item) (pa:Option Addr) (pc:Nat) (h:TurnAt c ad w tb T E F) (hx:x = { h1 with pksA:=pa,pksC:=pc }) (hb:Beside w (E++F) pa (pksV h1.pks)) (hn:T.mails.length<=100000) :
  Calls Tryz.prog 73 #[.pointer (some ⟨tb,0,none⟩),.int .i64 d,.int .i64 lane,.agg x.cells.toArray] w fun e w'=>e = .returned (.tuple #[]) /\ ∃ F',TurnAt c ad w' tb (T.mail d lane h1) E F'/\Upd F F' w w':=by
 obtain ⟨v,hP,rfl⟩:=h;have hlen:=hP.mails.len;rw [<- hlen] at hn;have HP:=hyd hP;have HMI:Hid (∀ w' F',Upd (E++feet (pcs c ad tb v T)) F' w w'->MailIs w' F' ⟨d,lane,x⟩ ⟨d,lane,h1⟩):=hyd (fun w' F' hu=>⟨rfl,rfl,pa,pc,hx,hb.upd hu⟩);obtain ⟨htb,hown,hne⟩:=hP.turn;clear hx hb hlen;obtain ⟨a,cp,hmv,-,-,-⟩:=ownsRow_row hown;rw [hmv] at htb hown hne;have HMV:=hyd hmv;have hbw:=low_alloc w (.cells x.cells.toArray 44);have hnb:=heap_alloc_new w (.cells x.cells.toArray 44);have htl:=(Array.getElem?_eq_some_iff.1 htb).1;have htb1:=(hbw.block tb htl).trans htb;have HLS:=hyd (item_size x);have HBU:=hyd (fun (_:Unit)=>built_mail ⟨d,lane,x⟩);have HML:Hid (hmlsV v.L++(HMl.mk d lane x).cells.toArray.toList=hmlsV (v.L ++ [⟨d,lane,x⟩])):=hyd (by simp [hmlsV]);have H40:Hid ((HMl.mk d lane x).cells.toArray.size=1 * 40):=hyd rfl;have H1:=hyd (hml_one ⟨d,lane,x⟩);have HBS:=hyd (build_mail ⟨d,lane,x⟩);have HLL:Hid ((v.L ++ [HMl.mk d lane x]).length=v.L.length+1):=hyd (by simp);replace HBU:=hyd (fun (_:Unit)=>(show Tryz.prog.built 46 [(0,.int .i64 d),(1,.int .i64 lane),(2,.agg x.cells.toArray)]=some (HMl.mk d lane x).cells.toArray from HBU.out ()));generalize (HMl.mk d lane x).cells=ML at *;generalize x.cells=IL at *;have HS:Hid (∀ X:World,X.heap[tb]? = w.heap[tb]? -> X.heap[w.heap.size]? = some (.cells IL.toArray 44 (0,0))->X.cell? ⟨tb,2,none⟩=some (.slice a v.L.length cp)/\X.rangeAt w.heap.size 0 IL):=hyd (fun X e1 e2=>⟨cell_of_row X tb 2 _ _ _ (e1.trans htb),range_blk e2⟩)
 have HNE:Hid (∀ j,(Value.slice a v.L.length cp).ownBlock=some j->j ≠ tb/\j < w.heap.size):=hyd (fun j hj=>⟨fun e=>hne (by rw [hj,e]),(hown.lt j hj).2⟩);have HTB:=hyd htb;have HW1:=hyd hbw;have HOWN:=hyd hown;have HNB:=hyd hnb;have HTB1:=hyd htb1;clear htb hown hnb htb1 hbw hne hP hmv
 go_enter Tryz.func73, Tryz.ntmps73
 go_wp2_with fail
 obtain ⟨w1,hw1⟩:∃ w1,w.alloc (.cells IL.toArray 44)=w1:=⟨_,rfl⟩;rw [hw1] at HNB HTB1 HW1 ⊢;have hsz1:w1.heap.size=w.heap.size+1:=by rw [<- hw1];simp
 clear hw1;refine wp_region_tail (S:=fun X=>X.cell? ⟨tb,2,none⟩=some (.slice a v.L.length cp)/\X.rangeAt w.heap.size 0 IL) 13 (by kernel_rfl) (HS.out _ (HTB1.out.trans HTB.out.symm) HNB.out) (fun hHeld => ?_);refine uA 0 (h:=uA 1 (h:=uA 2 (h:=uA 3 (h:=uA 4 (h:=uA 5 (h:=uA 6 (h:=?_)))))));simp only [tks];refine ttk 7 (v:=.agg IL.toArray) (fun w0 hS0=>exec_load_row rfl rfl hS0.2 Tryz.underlying44 rfl HLS.out) hHeld ?_;simp only [tks];refine ttk 8 (v:=.agg ML.toArray) (fun w0 hS0=>exec_build 46 _ rfl ML.toArray [(0,.int .i64 d),(1,.int .i64 lane),(2,.agg IL.toArray)] (by kernel_rfl) (HBU.out ())) hHeld ?_;simp only [tks];refine wpTail.ready (rs:=[9]) (by kernel_rfl) (by simp) ?_;refine AllTail.cons rfl (fun K hK => ?_) AllTail.nil;rw [if_pos (by rfl)];refine HBS.out _ _ _ _ _ _ rfl rfl ?_;have HB4:Hid (Below w1.heap.size w1 (w1.drew.alloc (.cells ML.toArray 46))):=hyd ((Below.refl w1.heap.size w1).drew.trans (low_alloc w1.drew _));refine hK.out _ _ (fun _=>HS.out _ ((HB4.out.block tb (by omega)).trans (HTB1.out.trans HTB.out.symm)) ((HB4.out.block w.heap.size (by omega)).trans HNB.out)) (fun hHeld => ?_);replace hHeld:=hHeld (by decide);have HO3:=hyd (ownsRow_local (w':=w1.drew) HOWN.out fun j hj=>HW1.out.block j (HNE.out j hj).2);refine wpTail.ready (rs:=[10]) (by kernel_rfl) (by simp) ?_;refine AllTail.cons rfl (fun K hK => ?_) AllTail.nil;refine step_app (m:=1) T_mail (HO3.out.alloc _) (heap_alloc_new w1.drew _) rfl rfl rfl rfl H40.out (by omega) H1.out ?_ ?_ ?_ ?_
 ·omega
 ·omega
 ·exact Nat.zero_le _
 intro g cap w6 hown6 hgr6 hg6 hgl6;have hm6:Mod (tb :: (Value.slice a v.L.length cp).ownBlock.toList) w w6:=((((Mod.of_below HW1.out _)).drew.alloc _).grown hgr6 (fun j hj => .inl (List.mem_cons_of_mem _ (Option.mem_toList.2 hj))))
 have hks:∀ j,j < w1.heap.size->(j=tb \/ j=w.heap.size)->w6.heap[j]? = w1.heap[j]?:=fun j hj hor=>by
  rw [hgr6.block j (by simp;omega) (fun e=>by
   obtain ⟨e1,e2⟩:=HNE.out j e.symm
   rcases hor with h | h
   ·exact e1 h
   ·omega)]
  exact Below.heap_alloc _ _ _ hj
 have h6l:w6.heap[tb]? = w.heap[tb]?:=(hks tb (by omega) (.inl rfl)).trans (HTB1.out.trans HTB.out.symm);refine hK.out _ _ (fun _=>HS.out _ h6l ((hks w.heap.size (by omega) (.inr rfl)).trans HNB.out)) (fun hHeld => ?_);replace hHeld:=hHeld (by decide);have h6g:=h6l.trans HTB.out;have fz6:=frozen_of_row _ _ 2 _ _ h6g;have h7:=heap_setCell_same w6 tb 2 _ _ (.slice (some ⟨g,0,none⟩) (v.L.length+1) cap) h6g;have h7c:=cell_of_row _ _ 2 _ _ _ h6g
 have hgn:g ≠ tb:=fun e=>by
  rcases hg6 with h | h
  ·exact (HNE.out g h).1 e
  ·simp at h;omega
 rw [HML.out] at hown6
 have HQ:Hid (∃ F',TurnAt c ad (w6.setCell ⟨tb,2,none⟩ (.slice (some ⟨g,0,none⟩) (v.L.length+1) cap)) tb (T.mail d lane h1) E F'/\Upd (feet (pcs c ad tb v T)) F' w (w6.setCell ⟨tb,2,none⟩ (.slice (some ⟨g,0,none⟩) (v.L.length+1) cap))):=hyd (by
  have hq:(turnPc tb ad (.slice (some ⟨g,0,none⟩) (v.L.length+1) cap) (v.L ++ [⟨d,lane,x⟩])).R (w6.setCell ⟨tb,2,none⟩ (.slice (some ⟨g,0,none⟩) (v.L.length+1) cap)):=
   ⟨h7,by
    rw [HLL.out]
    exact ownsRow_local hown6 fun j hj=>heap_setCell_other w6 _ _ _ (by
     obtain rfl:g=j:=by simpa [Value.ownBlock] using hj
     exact hgn),by simp [Value.ownBlock,hgn]⟩
  have hu:Upd (turnPc tb ad v.mv v.L).F (turnPc tb ad (.slice (some ⟨g,0,none⟩) (v.L.length+1) cap) (v.L ++ [⟨d,lane,x⟩])).F w (w6.setCell ⟨tb,2,none⟩ (.slice (some ⟨g,0,none⟩) (v.L.length+1) cap)):=by
   unfold turnPc;rw [HMV.out];refine ⟨hm6.setCell (.inl (by simp)) _,fun j hj => ?_⟩;simp only [Value.ownBlock,Option.toList,List.mem_cons,List.not_mem_nil,or_false] at hj
   rcases hj with rfl | rfl
   ·exact .inl (by simp)
   ·rcases hg6 with h | h
    ·exact .inl (List.mem_cons_of_mem _ (Option.mem_toList.2 h))
    ·right;simp at h;omega
  obtain ⟨h8,h9⟩:=HP.out.mailed hq hu (HMI.out _)
  exact ⟨_,⟨_,h8,rfl⟩,h9⟩)
 clear hown6 hgr6 hg6 hgl6 hm6 hks h6l hgn;refine uA 11 (h:=uA 12 (h:=?_));simp only [tks];refine wpTail.ready (rs:=[13]) (by kernel_rfl) (by simp) ?_;refine AllTail.cons rfl (fun K hK => ?_) AllTail.nil;rw [if_pos (by rfl)];go_simp;refine hK.out _ _ (fun h=>absurd rfl h) (fun _ => ?_);refine wpTail.done (by kernel_rfl) ?_ _
 go_wp2_with fail
 go_end0
 exact ⟨rfl,HQ.out⟩
end
section
open Go Go.RowKit Go.Maps
def NewR (w w':World) (a:Option Addr) (xs:List Value):Prop:=xs = [] \/ ∃ b,a=some ⟨b,0,none⟩/\w.heap.size<=b/\b < w'.heap.size/\Row w' a xs
theorem NewR.of {w w':World} {T:TypeId} {sz n:Nat} {v:Value} {xs:List Value} (h:w'.ownsRow w.heap.size T sz v n xs):∃ a c,v = .slice a n c/\NewR w w' a xs:=by
 obtain ⟨a,c,rfl,hr,-,-⟩:=ownsRow_row h;refine ⟨a,c,rfl,?_⟩
 rcases h.2 with ⟨e,hn⟩ | ⟨g,cap,cur,e,hb,hg,-⟩
 ·cases e
  rcases hr with hr | ⟨b,o,e,-⟩
  ·exact .inl hr
  ·cases e
 ·cases e
  exact .inr ⟨g,rfl,hb,(Array.getElem?_eq_some_iff.1 hg).1,hr⟩
theorem NewR.beside {w w':World} {a:Option Addr} {xs:List Value} (h:NewR w w' a xs) {F:List Nat} (hF:∀ k ∈ F,k < w.heap.size):Beside w' F a xs:=by
 rcases h with h | ⟨b,rfl,h1,h2,h3⟩
 ·exact .inl h
 ·exact .inr ⟨b,0,rfl,fun hk=>by have:=hF b hk;omega,h2,h3⟩
theorem NewR.below {w w1 w2:World} {a:Option Addr} {xs:List Value} (h:NewR w w1 a xs) (hb:Below w1.heap.size w1 w2):NewR w w2 a xs:=by
 rcases h with h | ⟨b,rfl,h1,h2,h3⟩
 ·exact .inl h
 ·exact .inr ⟨b,rfl,h1,Nat.lt_of_lt_of_le h2 hb.size,h3.below hb (Nat.le_refl _)⟩
theorem wpList_spread {P:Program} {t e:TypeId} {z:Value} {size bytes:Nat} (E:ElemT P t e z size bytes) {w:World} {B:Nat} {v:Value} {n:Nat} {xs:List Value} (hown:w.ownsRow B e size v n xs)
  {ad:Option Addr} {ys:List Value} {m c:Nat} (hrow:Row w ad ys)
  {ops:Array Oper} {rest:List Oper} {o:Oper} {a:Act} {Q:Exit->Act->World->Prop} {s x:Operand} (hgd:o.guard=none)
  (ho:o.op = .call { callee:=.builtin .append,args:=#[s,x],argTypes:=#[t,t] }) (hs:a.eval s=v) (hx:a.eval x = .slice ad m c) (d:Option Tmp) (hd:o.dst=d)
  (hc:ys.length=m * size) (h1:∀ u ∈ ys,u.oneCell'=true) (hbytes:(n+m) * bytes<=140737488355328) (hn:n+m < 140737488355328) (hB:B<=w.heap.size)
  (h:∀ v' w',w'.ownsRow B e size v' (n+m) (xs++ys)->w.grownBy w' v.ownBlock->wpList P ops Q rest (a.put d v') w'):wpList P ops Q (o :: rest) a w:=by
 subst hd;exact wpList_step fun K hK=>step_spread E hown hrow hgd ho hs hx hc h1 hbytes hn hB fun v' w' h2 h3=>hK _ _ (h v' w' h2 h3)
theorem T_subS:ElemT Tryz.prog 37 76 (.agg #[.string ⟨#[]⟩,.int .u8 0]) 2 24:=⟨Tryz.underlying37, by kernel_rfl,by kernel_rfl,by decide⟩
theorem subsV_len (l:List SubE):(subsV l).length=l.length * 2:=by
 induction l with
 | nil=>rfl
 | cons x r ih =>
  unfold subsV at *;rw [List.flatMap_cons,List.length_append,ih,List.length_cons];show 2+r.length * 2=_
  omega
set_option maxRecDepth 100000
set_option maxHeartbeats 2000000
theorem clone_any (a:Option Addr) (cp:Nat) (l:List SubE) (w:World) (hr:Row w a (subsV l)) (hl:l.length<=100000) :
  Calls Tryz.prog 88 #[.slice a l.length cp] w fun e w' => ∃ a' c',e = .returned (.slice a' l.length c')/\NewR w w' a' (subsV l)/\Below w.heap.size w w':=by
 have heq:=fun w:World=>Go.Lib.run_eql_slice_nil (P:=Tryz.prog) w 37 76 a l.length cp 0 0 Tryz.underlying37
 cases a with
 | none =>
  have h0:subsV l = []:=by
   rcases hr with h | ⟨b,o,e,-⟩
   ·exact h
   ·cases e
  have hl0:l.length=0:=by
   have:=subsV_len l;rw [h0] at this;simp at this;omega
  rw [hl0] at heq ⊢;have H0:=hyd h0;clear hr hl h0 hl0
  go_enter Tryz.func88, Tryz.ntmps88
  go_wp2_with fail
  go_ret
  exact ⟨_,_,rfl,.inl H0.out,Below.refl _ _⟩
 | some ad =>
  have HR:=hyd (hr.below (low_alloc w (.cells #[] 76)) (Nat.le_refl _));have ho1:=own_empty w 76 w.heap.size 2 (Nat.le_refl _);have HO1:=hyd ho1;have HLE:=hyd (subsV_len l);have HON:=hyd (subsV_one l);have HL:=hyd hl;clear hr ho1 hl;generalize subsV l=XS at *;generalize l.length=n at *
  go_enter Tryz.func88, Tryz.ntmps88
  go_wp2_with (first
   | (at_builtin;refine wpList_spread T_subS HO1.out HR.out rfl rfl rfl rfl _ rfl HLE.out HON.out (by have:=HL.out;omega) (by have:=HL.out;omega) (by simp) ?_;intro v' w8 hown' hgr;have HOW8:=hyd hown';have HGR:=hyd hgr;clear hown' hgr;go_frame)
   | fail)
  have hown:=HOW8.out;rw [Nat.zero_add,List.nil_append] at hown;obtain ⟨a',c',rfl,hnew⟩:=NewR.of hown
  go_wp2_with fail
  go_ret
  refine ⟨a',c',rfl,hnew,((low_alloc w _).grown HGR.out (by simp) ?_)⟩;intro k hk
  cases hk
  simp
theorem below_row {B g:Nat} {w0 w:World} (hb:Below B w0 w) (hBg:B<=g) (cs:Array Value):Below B w0 (w.setRow g cs):=
 hb.trans ⟨rfl,rfl,rfl,by simp,fun k hk=>setRow_other _ _ _ _ (by omega)⟩
def NewO (w w':World) (F:List Nat) (a:Option Addr) (xs:List Value):Prop:=xs = [] \/ ∃ b,a=some ⟨b,0,none⟩/\w.heap.size<=b/\b < w'.heap.size/\b ∉ F/\Row w' a xs
def Note.lay (n:Note) (a:Option Addr) (c:Nat):Note:={ n with pk:={ n.pk with subsA:=a,subsC:=c } }
theorem lay_cells (n:Note) (a:Option Addr) (c:Nat):n.cells.toArray.setIfInBounds 26 (.slice a n.pk.subs.length c)=(n.lay a c).cells.toArray:=by
 rw [List.setIfInBounds_toArray];rfl
theorem note_size (n:Note):(Tryz.prog.info? 79).map (·.size)=some n.cells.toArray.size:=by kernel_rfl
theorem note_one (n:Note):n.cells.toArray.all (·.oneCell')=true:=by simp [Note.cells,Pkt.cells,Msg.cells,Value.oneCell']
def noteZ:Note:=⟨0,0,0,⟨#[]⟩,pkZ,Msg.none,⟨#[]⟩,false,0⟩
set_option maxHeartbeats 4000000
theorem own_any (n:Note) (w:World) (hr:Row w n.pk.subsA (subsV n.pk.subs)) (hl:n.pk.subs.length<=100000) :
  Calls Tryz.prog 54 #[.agg n.cells.toArray] w fun e w' => ∃ a c,e = .returned (.agg (n.lay a c).cells.toArray)/\NewR w w' a (subsV n.pk.subs)/\Below w.heap.size w w':=by
 have HSZ:=hyd (fun a c=>note_size (n.lay a c));have HON:=hyd (fun a c=>note_one (n.lay a c));have HLC:=hyd (lay_cells n);have HZS:Hid (∀ a c,35=(n.lay a c).cells.toArray.size):=hyd (fun a c=>rfl);have H26:Hid (n.cells.toArray[26]? = some (.slice n.pk.subsA n.pk.subs.length n.pk.subsC)):=hyd rfl;have HR:=hyd (fun X (hX:Below w.heap.size w X)=>clone_any n.pk.subsA n.pk.subsC n.pk.subs X (hr.below hX (Nat.le_refl _)) hl);clear hr hl;generalize n.cells.toArray=NC at *
 go_enter Tryz.func54, Tryz.ntmps54
 go_upto_region 1 with fail
 obtain ⟨W,hW⟩:∃ W,World.alloc (World.alloc w (.cells NC 79)) (.cells #[.int .u8 0,.int .i64 0,.int .i64 0,.string ⟨#[]⟩,.int .u8 0,.bool false,.int .u8 0,.bool false,.int .u16 0,.string ⟨#[]⟩,.string ⟨#[]⟩,.int .u8 0,.bool false,.int .u16 0,.string ⟨#[]⟩,.bool false,.string ⟨#[]⟩,.string ⟨#[]⟩,.int .u8 0,.bool false,.bool false,.bool false,.string ⟨#[]⟩,.string ⟨#[]⟩,.bool false,.int .u8 0,.slice none 0 0,.string ⟨#[]⟩,.string ⟨#[]⟩,.string ⟨#[]⟩,.int .u8 0,.bool false,.string ⟨#[]⟩,.bool false,.int .u8 0] 79)=W:=⟨_,rfl⟩;rw [hW];have hx0:W.heap[w.heap.size]? = some (.cells NC 79 (0,0)):=by rw [<- hW];exact (Below.heap_alloc _ _ _ (by simp)).trans (heap_alloc_new w _)
 have hy0:∃ Z:Array Value,Z.size=35/\W.heap[w.heap.size+1]? = some (.cells Z 79 (0,0)):=by
  refine ⟨_,?_,by
   have:=heap_alloc_new (w.alloc (.cells NC 79)) (.cells #[.int .u8 0,.int .i64 0,.int .i64 0,.string ⟨#[]⟩,.int .u8 0,.bool false,.int .u8 0,.bool false,.int .u16 0,.string ⟨#[]⟩,.string ⟨#[]⟩,.int .u8 0,.bool false,.int .u16 0,.string ⟨#[]⟩,.bool false,.string ⟨#[]⟩,.string ⟨#[]⟩,.int .u8 0,.bool false,.bool false,.bool false,.string ⟨#[]⟩,.string ⟨#[]⟩,.bool false,.int .u8 0,.slice none 0 0,.string ⟨#[]⟩,.string ⟨#[]⟩,.string ⟨#[]⟩,.int .u8 0,.bool false,.string ⟨#[]⟩,.bool false,.int .u8 0] 79);rw [hW] at this
   simpa using this⟩
  rfl
 obtain ⟨Z,hZ,hy0⟩:=hy0;have hb0:Below w.heap.size w W:=by rw [<- hW];exact ((Below.refl _ _).alloc (Nat.le_refl _) _).alloc (by simp) _
 have hs0:W.heap.size=w.heap.size+2:=by rw [<- hW];simp
 clear hW;have c26:W.cell? ⟨w.heap.size,26,none⟩=some (.slice n.pk.subsA n.pk.subs.length n.pk.subsC):=by rw [cell_of_row _ _ 26 _ _ _ hx0];exact H26.out
 have HX0:=hyd hx0;have HY0:=hyd hy0;have HB0:=hyd hb0;have HZ:=hyd hZ;have HS0:=hyd hs0;clear hx0 hy0 hb0 hZ hs0
 go_wp2_with fail
 refine (HR.out W HB0.out).mono ?_;rintro e w2 ⟨a',c',rfl,hnew,hk2⟩;have hx2:=(hk2.block w.heap.size (by rw [HS0.out];omega)).trans HX0.out;have hy2:=(hk2.block (w.heap.size+1) (by rw [HS0.out];omega)).trans HY0.out;have HB2:=hyd (HB0.out.trans (hk2.mono HB0.out.size));have c26':w2.cell? ⟨w.heap.size,26,none⟩=some (.slice n.pk.subsA n.pk.subs.length n.pk.subsC):=by rw [cell_of_row _ _ 26 _ _ _ hx2];exact H26.out
 have f26:=frozen_of_row w2 w.heap.size 26 _ _ hx2;have h3:=heap_setCell_same w2 w.heap.size 26 _ _ (.slice a' n.pk.subs.length c') hx2;rw [HLC.out] at h3;have h4:=(heap_setCell_other w2 ⟨w.heap.size,26,none⟩ (w.heap.size+1) (.slice a' n.pk.subs.length c') (by simp)).trans hy2;have H3:=hyd h3;have H4:=hyd h4;have HSL:=hyd (HSZ.out a' c');have HOL:=hyd (HON.out a' c');have HZL:Hid (Z.size=(n.lay a' c').cells.toArray.size):=hyd (HZ.out.trans (HZS.out a' c'))
 have HNW:Hid (NewR w w2 a' (subsV n.pk.subs)):=hyd (by
  rcases hnew with h | ⟨b,e,h1,h2,h3⟩
  ·exact .inl h
  ·exact .inr ⟨b,e,Nat.le_trans (by rw [HS0.out];omega) h1,h2,h3⟩)
 have HNB:Hid (∀ b,a'=some ⟨b,0,none⟩->subsV n.pk.subs ≠ []->b ≠ w.heap.size/\b ≠ w.heap.size+1):=hyd (fun b e hne=>by
  rcases hnew with h | ⟨b',e',h1,-,-⟩
  ·exact absurd h hne
  ·rw [e] at e';cases e';rw [HS0.out] at h1;omega)
 clear c26 hk2 hnew hx2 hy2 h3 h4;generalize hLC:(n.lay a' c').cells.toArray=LC at *;have HLL:=hyd hLC;clear hLC
 go_wp2_with (first
  | (refine wpList_load_row rfl 79 _ rfl w.heap.size rfl 79 LC _ _ H3.out Tryz.underlying79 rfl HSL.out ?_)
  | (refine wpList_store_rowTo rfl 79 _ _ rfl rfl (w.heap.size+1) LC rfl rfl 79 Z H4.out HSL.out HZL.out HOL.out ?_)
  | fail)
 (try simp only [Exit.inBlock,Exit.then])
 have hbe:∀ b,b ≠ w.heap.size->b ≠ w.heap.size+1->((w2.setCell ⟨w.heap.size,26,none⟩ (.slice a' n.pk.subs.length c')).setRow (w.heap.size+1) LC).heap[b]? = w2.heap[b]?:=fun b h1 h2 =>
  (setRow_other _ _ _ _ h2).trans (heap_setCell_other w2 _ _ _ h1)
 refine bodyPost_ret (results_cell_row rfl _ _ (w.heap.size+1) 79 LC (0,0) _ rfl (setRow_heap _ _ _ _ _ _ H4.out) Tryz.underlying79 rfl HSL.out) rfl ⟨a',c',by rw [HLL.out],?_,below_row (HB2.out.setCell (Nat.le_refl _) _) (by omega) _⟩
 rcases HNW.out with h | ⟨b,e,h1,h2,h3⟩
 ·exact .inl h
 ·by_cases hne:subsV n.pk.subs = []
  ·exact .inl hne
  ·obtain ⟨k1,k2⟩:=HNB.out b e hne
   refine .inr ⟨b,e,h1,by simpa using h2,?_⟩
   rcases h3 with h3 | ⟨b',o',e',hc⟩
   ·exact .inl h3
   ·rw [e] at e'
    cases e'
    exact .inr ⟨_,_,e,fun i u hi=>by rw [World.cell?_of_block (w:=w2) (hbe b k1 k2)];exact hc i u hi⟩
theorem T_note:ElemT Tryz.prog 57 79 (.agg noteZ.cells.toArray) 35 304:=⟨Tryz.underlying57, by kernel_rfl,by kernel_rfl,by decide⟩
theorem build_note (n:Note):Build1 Tryz.prog 57 79 n.cells:=by
 intro o a w K Q x ho hx h;obtain ⟨i,hi,hz0,hz1,hz2⟩:=info_parts T_note.hi;refine wp_buildSlice 57 79 1 _ ho n.cells.toArray i _ Tryz.underlying57 hi hz0 (by rw [hz1];decide) (by rw [hz1];decide) ?_ h;rw [hz1];simp only [List.map_toArray,List.map_cons,List.map_nil,hx];clear hx h ho hi hz0 hz1 hz2;obtain ⟨ki,op,co,cl,⟨p0,p1,p2,p3,p4,p5,p6,p7,p8,p9,p10,p11,⟨m0,m1,m2,m3⟩,p13,p14,p15,p16,p17,p18,p19,p20,p21,p22⟩,⟨n0,n1,n2,n3⟩,cs,pr,qo⟩:=n
 kernel_rfl
theorem log_add (b:Nat) (nv:Value) (N:List Note) (ops:Int) (n:Note) (w:World) (h:(logPc b nv N ops).R w) (hr:Row w n.pk.subsA (subsV n.pk.subs)) (hl:n.pk.subs.length<=100000) (hn:N.length<=100000) :
  Calls Tryz.prog 182 #[.pointer (some ⟨b,0,none⟩),.agg n.cells.toArray] w fun e w' => ∃ (i:Int) (a':Option Addr) (c':Nat) (nv':Value),e = .returned (.int .i64 i)/\(logPc b nv' (N ++ [n.lay a' c']) ops).R w'/\Upd (logPc b nv N ops).F (logPc b nv' (N ++ [n.lay a' c']) ops).F w w'/\NewO w w' (logPc b nv' (N ++ [n.lay a' c']) ops).F a' (subsV n.pk.subs):=by
 obtain ⟨htb,hown,hne⟩:=h;obtain ⟨a,cp,hmv,-,-,-⟩:=ownsRow_row hown;subst hmv;have hbw:=low_alloc w (.cells n.cells.toArray 79);have hnb:=heap_alloc_new w (.cells n.cells.toArray 79);have htl:=(Array.getElem?_eq_some_iff.1 htb).1;have htb1:=(hbw.block b htl).trans htb;have HLS:Hid ((Tryz.prog.info? 79).map (·.size)=some n.cells.length):=hyd (by kernel_rfl);have HNL:Hid (∀ a c,notesV N++(n.lay a c).cells.toArray.toList=notesV (N ++ [n.lay a c])):=hyd (fun a c=>by simp [notesV]);have H35:Hid (∀ a c,(n.lay a c).cells.toArray.size=1 * 35):=hyd (fun a c=>rfl)
 have H1:Hid (∀ a c,∀ u ∈ (n.lay a c).cells.toArray.toList,u.oneCell'=true):=hyd (fun a c=>by
  have:=note_one (n.lay a c);rw [Array.all_eq_true_iff_forall_mem] at this
  exact fun u hu=>this u (by simpa using hu))
 have HBS:=hyd (fun a c=>build_note (n.lay a c));have HLL:Hid (∀ x,(N ++ [x]).length=N.length+1):=hyd (fun (x:Note)=>by simp);have HOW:=hyd (fun X (hX:Below w.heap.size w X)=>own_any n X (hr.below hX (Nat.le_refl _)) hl);have HS:Hid (∀ X:World,X.heap[b]? = w.heap[b]? -> X.heap[w.heap.size]? = some (.cells n.cells.toArray 79 (0,0))->X.cell? ⟨b,0,none⟩=some (.slice a N.length cp)/\X.rangeAt w.heap.size 0 n.cells):=hyd (fun X e1 e2=>⟨cell_of_row X b 0 _ _ _ (e1.trans htb),range_blk e2⟩);generalize n.cells=NL at *;have HNE:Hid (∀ j,(Value.slice a N.length cp).ownBlock=some j->j ≠ b/\j < w.heap.size):=hyd (fun j hj=>⟨fun e=>hne (by rw [hj,e]),(hown.lt j hj).2⟩);have HTB:=hyd htb;have HW1:=hyd hbw;have HOWN:=hyd hown;have HNB:=hyd hnb;have HTB1:=hyd htb1;clear htb hown hnb htb1 hbw hne hr hl
 go_enter Tryz.func182, Tryz.ntmps182
 go_wp2_with fail
 obtain ⟨w1,hw1⟩:∃ w1,w.alloc (.cells NL.toArray 79)=w1:=⟨_,rfl⟩;rw [hw1] at HNB HTB1 HW1 ⊢;have hsz1:w1.heap.size=w.heap.size+1:=by rw [<- hw1];simp
 clear hw1;refine wp_region_tail (S:=fun X=>X.cell? ⟨b,0,none⟩=some (.slice a N.length cp)/\X.rangeAt w.heap.size 0 NL) 11 (by kernel_rfl) (HS.out _ (HTB1.out.trans HTB.out.symm) HNB.out) (fun hHeld => ?_);refine uA 0 (h:=uA 1 (h:=uA 2 (h:=uA 3 (h:=uA 4 (h:=?_)))));simp only [tks];refine ttk 5 (v:=.agg NL.toArray) (fun w0 hS0=>exec_load_row rfl rfl hS0.2 Tryz.underlying79 rfl HLS.out) hHeld ?_;simp only [tks];refine wpTail.ready (rs:=[6]) (by kernel_rfl) (by simp) ?_;refine AllTail.cons rfl (fun K hK => ?_) AllTail.nil;rw [if_pos (by rfl)];go_simp
 go_at_call 54
 refine (HOW.out _ HW1.out.drew).mono ?_;rintro e w3 ⟨a',c',rfl,hnew,hk3⟩;have hb3:Below w1.heap.size w1 w3:=(Below.refl w1.heap.size w1).drew.trans hk3;have hs3:=hb3.size;have HB3:=hyd hb3
 have HNW:Hid (NewR w w3 a' (subsV n.pk.subs)):=hyd (by
  rcases hnew with h | ⟨q,e,h1,h2,h3⟩
  ·exact .inl h
  ·exact .inr ⟨q,e,Nat.le_trans (show w.heap.size<=w1.heap.size by omega) h1,h2,h3⟩)
 refine hK.out _ _ (fun _=>HS.out _ ((hb3.block b (by omega)).trans (HTB1.out.trans HTB.out.symm)) ((hb3.block w.heap.size (by omega)).trans HNB.out)) (fun hHeld => ?_);replace hHeld:=hHeld (by decide);clear hk3 hb3 hnew;replace HNL:=hyd (HNL.out a' c');replace H35:=hyd (H35.out a' c');replace H1:=hyd (H1.out a' c');replace HBS:=hyd (HBS.out a' c');replace HLL:=hyd (HLL.out (n.lay a' c'));generalize (n.lay a' c').cells=ML at *;refine wpTail.ready (rs:=[7]) (by kernel_rfl) (by simp) ?_;refine AllTail.cons rfl (fun K hK => ?_) AllTail.nil;rw [if_pos (by rfl)];refine HBS.out _ _ _ _ _ _ rfl rfl ?_;have HB4:Hid (Below w1.heap.size w1 (w3.alloc (.cells ML.toArray 79))):=hyd (HB3.out.alloc hs3 _);refine hK.out _ _ (fun _=>HS.out _ ((HB4.out.block b (by omega)).trans (HTB1.out.trans HTB.out.symm)) ((HB4.out.block w.heap.size (by omega)).trans HNB.out)) (fun hHeld => ?_);replace hHeld:=hHeld (by decide);have HO3:=hyd (ownsRow_local (w':=w3) HOWN.out fun j hj=>(HB3.out.block j (by have:=(HNE.out j hj).2;omega)).trans (HW1.out.block j (HNE.out j hj).2));refine wpTail.ready (rs:=[8]) (by kernel_rfl) (by simp) ?_;refine AllTail.cons rfl (fun K hK => ?_) AllTail.nil;refine step_app (m:=1) T_note (HO3.out.alloc _) (heap_alloc_new w3 _) rfl rfl rfl rfl H35.out (by omega) H1.out ?_ ?_ ?_ ?_
 ·omega
 ·omega
 ·exact Nat.zero_le _
 intro g cap w6 hown6 hgr6 hg6 hgl6;have hm6:Mod (b :: (Value.slice a N.length cp).ownBlock.toList) w w6:=((((Mod.of_below HW1.out _).trans (Mod.of_below HB3.out (b :: (Value.slice a N.length cp).ownBlock.toList)) (fun k hk => .inl hk)).alloc _).grown hgr6 (fun j hj => .inl (List.mem_cons_of_mem _ (Option.mem_toList.2 hj))))
 have hks:∀ j,j < w3.heap.size->(j=b \/ w.heap.size<=j)->w6.heap[j]? = w3.heap[j]?:=fun j hj hor=>by
  rw [hgr6.block j (by simp;omega) (fun e=>by
   obtain ⟨e1,e2⟩:=HNE.out j e.symm
   rcases hor with h | h
   ·exact e1 h
   ·omega)]
  exact Below.heap_alloc _ _ _ hj
 have h6l:w6.heap[b]? = w.heap[b]?:=(hks b (by omega) (.inl rfl)).trans ((HB3.out.block b (by omega)).trans (HTB1.out.trans HTB.out.symm));refine hK.out _ _ (fun _=>HS.out _ h6l ((hks w.heap.size (by omega) (.inr (Nat.le_refl _))).trans ((HB3.out.block w.heap.size (by omega)).trans HNB.out))) (fun hHeld => ?_);replace hHeld:=hHeld (by decide);have h6g:=h6l.trans HTB.out;have fz6:=frozen_of_row _ _ 0 _ _ h6g;have h7:=heap_setCell_same w6 b 0 _ _ (.slice (some ⟨g,0,none⟩) (N.length+1) cap) h6g;have h7c:=cell_of_row _ _ 0 _ _ _ h7
 have hgn:g ≠ b:=fun e=>by
  rcases hg6 with h | h
  ·exact (HNE.out g h).1 e
  ·simp at h;omega
 rw [HNL.out] at hown6
 have HQ:Hid ((logPc b (.slice (some ⟨g,0,none⟩) (N.length+1) cap) (N ++ [n.lay a' c']) ops).R (w6.setCell ⟨b,0,none⟩ (.slice (some ⟨g,0,none⟩) (N.length+1) cap))/\Upd (logPc b (.slice a N.length cp) N ops).F (logPc b (.slice (some ⟨g,0,none⟩) (N.length+1) cap) (N ++ [n.lay a' c']) ops).F w (w6.setCell ⟨b,0,none⟩ (.slice (some ⟨g,0,none⟩) (N.length+1) cap)) ∧
   NewO w (w6.setCell ⟨b,0,none⟩ (.slice (some ⟨g,0,none⟩) (N.length+1) cap)) (logPc b (.slice (some ⟨g,0,none⟩) (N.length+1) cap) (N ++ [n.lay a' c']) ops).F a' (subsV n.pk.subs)):=hyd (by
  refine ⟨⟨h7,by
   rw [HLL.out]
   exact ownsRow_local hown6 fun j hj=>heap_setCell_other w6 _ _ _ (by
    obtain rfl:g=j:=by simpa [Value.ownBlock] using hj
    exact hgn),by simp [Value.ownBlock,hgn]⟩,⟨hm6.setCell (.inl (by simp)) _,fun j hj => ?_⟩,?_⟩
  ·simp only [logPc,Value.ownBlock,Option.toList,List.mem_cons,List.not_mem_nil,or_false] at hj
   rcases hj with rfl | rfl
   ·exact .inl (by simp [logPc])
   ·rcases hg6 with h | h
    ·exact .inl (List.mem_cons_of_mem _ (Option.mem_toList.2 h))
    ·right;simp at h;omega
  ·rcases HNW.out with h | ⟨q,e,h1,h2,h3⟩
   ·exact .inl h
   ·have hq:(w6.setCell ⟨b,0,none⟩ (.slice (some ⟨g,0,none⟩) (N.length+1) cap)).heap[q]? = w3.heap[q]?:=(heap_setCell_other w6 _ _ _ (by show q ≠ b;omega)).trans (hks q h2 (.inr h1))
    refine .inr ⟨q,e,h1,by have:=hgr6.size;simp at this ⊢;omega,fun hk => ?_,?_⟩
    ·simp only [logPc,Value.ownBlock,Option.toList,List.mem_cons,List.not_mem_nil,or_false] at hk
     rcases hk with hk | hk
     ·omega
     ·rcases hg6 with h | h
      ·have:=(HNE.out g h).2;omega
      ·simp at h;omega
    rcases h3 with h3 | ⟨b',o',e',hc⟩
    ·exact .inl h3
    ·rw [e] at e'
     cases e'
     exact .inr ⟨_,_,e,fun i u hi=>by rw [World.cell?_of_block (w:=w3) hq];exact hc i u hi⟩)
 clear hown6 hgr6 hg6 hgl6 hm6 hks h6l hgn;refine uA 9 (h:=uA 10 (h:=?_));simp only [tks];refine wpTail.ready (rs:=[11]) (by kernel_rfl) (by simp) ?_;refine AllTail.cons rfl (fun K hK => ?_) AllTail.nil;rw [if_pos (by rfl)];go_simp;refine hK.out _ _ (fun h=>absurd rfl h) (fun _ => ?_);refine wpTail.done (by kernel_rfl) ?_ _
 go_wp2_with fail
 go_ret
 exact ⟨_,_,_,_,rfl,HQ.out⟩
end
section
open Go Go.RowKit Go.Maps
def TDone (c:HCfg) (ad:HAd) (tb:Nat) (E F:List Nat) (w:World) (T':Tn) (w':World):Prop:=∃ F',TurnAt c ad w' tb T' E F'/\Upd F F' w w'
theorem TDone.pre {c:HCfg} {ad:HAd} {tb:Nat} {E F:List Nat} {w0 w w':World} {T':Tn} (hb:Below w0.heap.size w0 w) (h:TDone c ad tb E F w T' w'):TDone c ad tb E F w0 T' w':=by
 obtain ⟨F',h1,h2⟩:=h;exact ⟨F',h1,Upd.pre hb h2⟩
theorem TDone.next {c:HCfg} {ad:HAd} {tb:Nat} {E F:List Nat} {w w1 w':World} {T':Tn} (h:TDone c ad tb E F w T' w1) (hb:Below w1.heap.size w1 w'):TDone c ad tb E F w T' w':=by
 obtain ⟨F',h1,h2⟩:=h;exact ⟨F',h1.below hb,h2.next hb⟩
theorem note_size' (n:Note):(Tryz.prog.info? 79).map (·.size)=some n.cells.length:=by kernel_rfl
set_option maxRecDepth 100000
set_option maxHeartbeats 2000000
theorem note_any (c:HCfg) (ad:HAd) (tb:Nat) (T:Tn) (E F:List Nat) (w:World) (n n1:Note) (pa:Option Addr) (pc:Nat) (h:TurnAt c ad w tb T E F) (hx:n=n1.lay pa pc) (hb:Beside w (E++F) pa (subsV n1.pk.subs)) (hl:n1.pk.subs.length<=100000) (hn:T.notes.length<=100000) :
  Calls Tryz.prog 107 #[.pointer (some ⟨tb,0,none⟩),.agg n.cells.toArray] w fun e w'=>e = .returned (.tuple #[])/\TDone c ad tb E F w (T.note n1) w':=by
 obtain ⟨v,hP,rfl⟩:=h;have hlen:=hP.notes.len;rw [<- hlen] at hn;have hbw:=low_alloc w (.cells n.cells.toArray 79);have hnb:=heap_alloc_new w (.cells n.cells.toArray 79);have hP1:=hP.below hbw
 have hr:Row (w.alloc (.cells n.cells.toArray 79)).drew n.pk.subsA (subsV n.pk.subs):=by
  have:=((hb.below hbw).below (Below.refl _ _).drew).row;subst hx;exact this
 have hLA:=log_add ad.lg v.nv v.N T.ops n _ (hP1.below (Below.refl _ _).drew).log hr (by rw [hx];exact hl) hn;have hlt:=hP.lt
 have HFN:Hid (w.heap.size ∉ (logPc ad.lg v.nv v.N T.ops).F):=hyd (fun hk=>by
  have:=hlt _ (List.mem_append_right _ (mem_feet.2 ⟨_,by simp [pcs],hk⟩));omega)
 have HFT:Hid (∀ k ∈ (logPc ad.lg v.nv v.N T.ops).F,k < w.heap.size):=hyd (fun k hk=>hlt _ (List.mem_append_right _ (mem_feet.2 ⟨_,by simp [pcs],hk⟩)));have HLA:=hyd hLA;have HP1:=hyd hP1;have HBW:=hyd hbw;have HX:=hyd hx;have HLS:=hyd (note_size' n);have c1:=cell_of_row _ tb 1 _ _ _ hP1.turn.1;have HS:Hid (∀ X:World,X.cell? ⟨tb,1,none⟩=some (bxV ad.lg)->X.heap[w.heap.size]? = some (.cells n.cells.toArray 79 (0,0))->X.cell? ⟨tb,1,none⟩=some (.pointer (some ⟨ad.lg,0,none⟩))/\X.rangeAt w.heap.size 0 n.cells):=hyd (fun X e1 e2=>⟨e1,range_blk e2⟩);have hnx:w.heap.size < (w.alloc (.cells n.cells.toArray 79)).heap.size:=by simp
 generalize n.cells=NL at *;have HC1:=hyd c1;have HNB:=hyd hnb;have HNX:=hyd hnx;clear hP hlen hn hP1 hr hLA hlt hl c1 hnb hb hbw hx hnx
 go_enter Tryz.func107, Tryz.ntmps107
 go_wp2_with fail
 obtain ⟨w1,hw1⟩:∃ w1,w.alloc (.cells NL.toArray 79)=w1:=⟨_,rfl⟩;rw [hw1] at HNB HC1 HLA HP1 HBW HNX ⊢;clear hw1;refine wp_region_held_drew (S:=fun X=>X.cell? ⟨tb,1,none⟩=some (.pointer (some ⟨ad.lg,0,none⟩))/\X.rangeAt w.heap.size 0 NL) (by kernel_rfl) (HS.out _ HC1.out HNB.out) (fun hHeld => ?_);refine tA 0 (h:=tA 1 (h:=tA 2 (h:=tA 3 (h:=?_))));simp only [tks];refine tk 4 (v:=.agg NL.toArray) (fun w0 hS0=>exec_load_row rfl rfl hS0.2 Tryz.underlying79 rfl HLS.out) hHeld ?_;simp only [tks];refine wpAnyH_ready (rs:=[5]) (by kernel_rfl) (by simp) ?_;refine AllReadyH.cons rfl (fun K hK => ?_) AllReadyH.nil;rw [if_pos (by rfl)];go_simp
 go_at_call 182
 refine HLA.out.mono ?_;rintro e w2 ⟨i,a',c',nv',rfl,hq,hu,hnw⟩
 have hp2:=(HP1.out.below (Below.refl _ _).drew).noted hq hu (n1:=n1) (fun F' hin=>⟨a',c',by rw [HX.out];rfl,by
  have:=hnw;rw [HX.out] at this
  rcases this with h | ⟨q,e,h1,h2,h3,h4⟩
  ·exact .inl h
  ·exact .inr ⟨q,0,e,fun hk=>(hin q hk).elim (fun h5=>by
    have h6:=(HP1.out.below (Below.refl _ _).drew).lt q h5
    omega) (fun h5=>h3 (by rw [HX.out] at h5;exact h5)),h2,h4⟩⟩)
 refine hK.out _ _ (HS.out _ (cell_of_row _ tb 1 _ _ _ hp2.1.turn.1) ((hu.1.block w.heap.size HNX.out HFN.out).trans HNB.out)) (fun hHeld => ?_);have HQ:Hid (TDone c ad tb E (feet (pcs c ad tb v T)) w (T.note n1) w2):=hyd ⟨_,⟨_,hp2.1,rfl⟩,Upd.pre HBW.out (Upd.pre (Below.refl _ _).drew hp2.2)⟩;clear hp2 hq hu hnw;refine wpAnyH_done (by kernel_rfl) ?_ _;clear hHeld
 go_wp2_with fail
 go_end0
 exact ⟨rfl,HQ.out⟩
structure TCells (c:HCfg) (ad:HAd) (tb:Nat) (X:World):Prop where
 h:X.cell? ⟨tb,0,none⟩=some (.pointer (some ⟨ad.hb,0,none⟩))
 l:X.cell? ⟨tb,1,none⟩=some (.pointer (some ⟨ad.lg,0,none⟩))
 n:X.cell? ⟨ad.hb,0,none⟩=some (.int .i64 c.n)
 me:X.cell? ⟨ad.hb,5,none⟩=some (.int .i64 c.me)
 ms:X.cell? ⟨ad.hb,6,none⟩=some (.map (some ad.ms))
 mf:X.cell? ⟨ad.hb,7,none⟩=some (.map (some ad.mf))
theorem TurnP.cells {c:HCfg} {ad:HAd} {w:World} {tb:Nat} {T:Tn} {v:TnV} {E:List Nat} (h:TurnP c ad w tb T v E):TCells c ad tb w:=
 ⟨cell_of_row _ tb 0 _ _ _ h.turn.1,cell_of_row _ tb 1 _ _ _ h.turn.1,cell_of_row _ ad.hb 0 _ _ _ h.home,cell_of_row _ ad.hb 5 _ _ _ h.home,cell_of_row _ ad.hb 6 _ _ _ h.home,cell_of_row _ ad.hb 7 _ _ _ h.home⟩
theorem TurnAt.cells {c:HCfg} {ad:HAd} {w:World} {tb:Nat} {T:Tn} {E F:List Nat} (h:TurnAt c ad w tb T E F):TCells c ad tb w:=by
 obtain ⟨v,h1,-⟩:=h;exact h1.cells
theorem TDone.cells {c:HCfg} {ad:HAd} {tb:Nat} {E F:List Nat} {w w':World} {T':Tn} (h:TDone c ad tb E F w T' w'):TCells c ad tb w':=by
 obtain ⟨F',h1,-⟩:=h;exact h1.cells
theorem TDone.stay {c:HCfg} {ad:HAd} {tb:Nat} {E F:List Nat} {w w':World} {T':Tn} {b:Nat} {cs:List Value} {U:TypeId} (h:TDone c ad tb E F w T' w') (hs:Stay w F b cs U):w'.heap[b]? = some (.cells cs.toArray U (0,0)):=by
 obtain ⟨F',-,h2⟩:=h;exact (hs.upd h2).2.2
theorem conn_cells (x:Item) (conn:Int):x.cells.toArray.setIfInBounds 2 (.int .i64 conn) = { x with conn:=conn }.cells.toArray:=by
 rw [List.setIfInBounds_toArray];rfl
theorem item_one (x:Item):x.cells.toArray.all (·.oneCell')=true:=by simp [Item.cells,Pkt.cells,Msg.cells,Value.oneCell']
set_option maxHeartbeats 4000000
theorem tgate_any (c:HCfg) (ad:HAd) (tb:Nat) (T:Tn) (E F:List Nat) (w:World) (lane conn:Int) (x h1:Item) (pa:Option Addr) (pc lb:Nat) (h:TurnAt c ad w tb T E F) (hn1:1<=c.n) (hn2:c.n<=64) (hcn:conn<=9223372036854775807)
  (hst:Stay w F lb x.cells 44) (hx:x = { h1 with pksA:=pa,pksC:=pc }) (hb:Beside w (E++F) pa (pksV h1.pks)) (hn:T.mails.length<=100000) :
  Calls Tryz.prog 106 #[.pointer (some ⟨tb,0,none⟩),.int .i64 lane,.int .i64 conn,.slice (some ⟨lb,0,none⟩) 1 1] w fun e w'=>e = .returned (.tuple #[])/\TDone c ad tb E F w (gateT c lane conn h1 T) w':=by
 have hlt:=h.lt;have HLT:=hyd hlt;have HT:=hyd h;have HG:=hyd (fun W=>gate_any conn c.n W hcn hn1 hn2);have HLS:=hyd (item_size x);have HLS':=hyd (show (Tryz.prog.info? 44).map (·.size)=some x.cells.toArray.size from item_size x);have HLC:=hyd (item_size { x with conn:=conn });have HON:=hyd (item_one x);have HCC:=hyd (conn_cells x conn);have HRA:=hyd (fun (X:World) (e:X.heap[lb]? = w.heap[lb]?)=>range_blk (e.trans hst.2.2));have HMA:=hyd (fun X hX=>mail_any c ad tb T E F X (gateN conn c.n) lane { x with conn:=conn } { h1 with conn:=conn } pa pc (h.below (w':=X) hX) (by rw [hx]) (hb.below hX) hn);have HXZ:Hid (∀ U:Array Value,U.size=38->U.size=x.cells.toArray.size):=hyd (fun U hU=>hU.trans rfl);have H2:Hid (x.cells.toArray[2]? = some (.int .i64 x.conn)):=hyd rfl;have hlb:=hst.2.1;clear hst hx hb hn hlt h hn1 hn2;generalize ({ x with conn:=conn }:Item).cells=CL at *;generalize x.cells=IL at *
 go_enter Tryz.func106, Tryz.ntmps106
 go_wp2_with fail
 go_loopw [9,12] (fun _ i wr=>(i = .int .i64 0/\wr=w) \/ (i = .int .i64 1/\TDone c ad tb E F w (gateT c lane conn h1 T) wr)) (fun _ i _=>(1 - intOf i).toNat)
 case atStart=>exact .inl ⟨rfl,rfl⟩
 case round =>
  rcases hrel with ⟨rfl,rfl⟩ | ⟨rfl,hd⟩
  ·have hra:=HRA.out _ rfl
   go_upto_region 3 with (first
    | (refine wpList_loadMid rfl 44 _ rfl lb 0 rfl IL _ hra Tryz.underlying44 rfl HLS.out _ rfl ?_)
    | (refine wpList_store_newTo rfl 44 _ _ rfl rfl wr.heap.size rfl IL.toArray _ rfl rfl HLS'.out (HXZ.out _ rfl) HON.out ?_)
    | fail)
   have hxa:=heap_alloc_new wr (.cells IL.toArray 44);obtain ⟨w1,hw1⟩:∃ w1,wr.alloc (.cells IL.toArray 44)=w1:=⟨_,rfl⟩;have hb1:Below wr.heap.size wr w1:=by rw [<- hw1];exact low_alloc _ _
   have hs1:w1.heap.size=wr.heap.size+1:=by rw [<- hw1];simp
   rw [hw1] at hxa ⊢;clear hw1;have f2:=frozen_of_row w1 wr.heap.size 2 _ _ hxa;have c2:∃ u,w1.cell? ⟨wr.heap.size,2,none⟩=some u:=⟨_,by rw [cell_of_row _ _ 2 _ _ _ hxa];exact H2.out⟩;obtain ⟨u2,c2⟩:=c2;have h2:=heap_setCell_same w1 wr.heap.size 2 _ _ (.int .i64 conn) hxa;rw [HCC.out] at h2;have HX2:=hyd h2;have HB2:Hid (Below wr.heap.size wr (w1.setCell ⟨wr.heap.size,2,none⟩ (.int .i64 conn))):=hyd (hb1.setCell (Nat.le_refl _) _);have hs2:(w1.setCell ⟨wr.heap.size,2,none⟩ (.int .i64 conn)).heap.size=wr.heap.size+1:=by rw [<- hs1];simp
   clear hxa h2 hb1 hra
   go_upto_region 4 with fail
   clear c2 f2 hs1;generalize w1.setCell ⟨wr.heap.size,2,none⟩ (.int .i64 conn)=w2 at *;have HST:Hid (Stay w2 F wr.heap.size CL 44):=hyd ⟨fun hk=>by have:=HLT.out _ (List.mem_append_right _ hk);omega,by omega,HX2.out⟩;have HS:Hid (∀ X:World,TCells c ad tb X->X.heap[wr.heap.size]? = some (.cells CL.toArray 44 (0,0))->X.cell? ⟨tb,0,none⟩=some (.pointer (some ⟨ad.hb,0,none⟩))/\X.cell? ⟨ad.hb,0,none⟩=some (.int .i64 c.n)/\X.rangeAt wr.heap.size 0 CL):=hyd (fun X e1 e2=>⟨e1.h,e1.n,range_blk e2⟩);refine wp_region_held_drew (S:=fun X=>X.cell? ⟨tb,0,none⟩=some (.pointer (some ⟨ad.hb,0,none⟩))/\X.cell? ⟨ad.hb,0,none⟩=some (.int .i64 c.n)/\X.rangeAt wr.heap.size 0 CL) (by kernel_rfl) (HS.out _ (HT.out.below HB2.out.drew).cells HX2.out) (fun hHeld => ?_);refine tA 0 (h:=tA 1 (h:=tA 2 (h:=tA 3 (h:=tA 4 (h:=tA 5 (h:=tA 6 (h:=tA 7 (h:=tA 8 (h:=tA 9 (h:=tA 11 (h:=?_)))))))))));simp only [tks];refine tk 12 (v:=.agg CL.toArray) (fun w0 hS0=>exec_load_row rfl rfl hS0.2.2 Tryz.underlying44 rfl HLC.out) hHeld ?_;simp only [tks];refine wpAnyH_ready (rs:=[10]) (by kernel_rfl) (by simp) ?_;refine AllReadyH.cons rfl (fun K hK => ?_) AllReadyH.nil;rw [if_pos (by rfl)];go_simp
   go_at_call 192
   refine (HG.out _).mono ?_;rintro e w3 ⟨rfl,rfl⟩;refine hK.out _ _ (HS.out _ ((HT.out.below HB2.out).below (Below.refl _ _).drew).cells HX2.out) (fun hHeld => ?_);refine wpAnyH_ready (rs:=[13]) (by kernel_rfl) (by simp) ?_;refine AllReadyH.cons rfl (fun K hK => ?_) AllReadyH.nil;rw [if_pos (by rfl)];go_simp
   go_at_call 73
   refine (HMA.out w2.drew HB2.out.drew).mono ?_;rintro e w4 ⟨rfl,hd⟩;have hd':TDone c ad tb E F wr (gateT c lane conn h1 T) w4:=TDone.pre HB2.out.drew hd;refine hK.out _ _ (HS.out _ hd'.cells (TDone.stay hd (HST.out.below (Below.refl _ _).drew))) (fun hHeld => ?_);have HD:=hyd hd';clear hd hd';refine wpAnyH_done (by kernel_rfl) ?_ _;clear hHeld
   go_wp2_with fail
   go_roundw
   case rel=>exact .inr ⟨by go_num,HD.out⟩
   case measure=>simp [intOf]
  ·have HD:=hyd hd
   clear hd
   go_wp2_with fail
   go_end0
   exact ⟨rfl,HD.out⟩
end
section
open Go Go.RowKit Go.Maps
theorem T_item:ElemT Tryz.prog 24 44 (.agg itZ.cells.toArray) 38 384:=⟨Tryz.underlying24, by kernel_rfl,by kernel_rfl,by decide⟩
theorem build_item (n:Item):Build1 Tryz.prog 24 44 n.cells:=by
 intro o a w K Q x ho hx h;obtain ⟨i,hi,hz0,hz1,hz2⟩:=info_parts T_item.hi;refine wp_buildSlice 24 44 1 _ ho n.cells.toArray i _ Tryz.underlying24 hi hz0 (by rw [hz1];decide) (by rw [hz1];decide) ?_ h;rw [hz1];simp only [List.map_toArray,List.map_cons,List.map_nil,hx];clear hx h ho hi hz0 hz1 hz2;obtain ⟨ki,op,co,cl,fi,⟨p0,p1,p2,p3,p4,p5,p6,p7,p8,p9,p10,p11,⟨m0,m1,m2,m3⟩,p13,p14,p15,p16,p17,p18,p19,p20,p21,p22⟩,⟨n0,n1,n2,n3⟩,a1,a2,a3,b1,b2,b3,c1,c2,c3,fr,ma⟩:=n
 kernel_rfl
def sendX (R:List Pkt) (pa:Option Addr) (cp:Nat):Item:={ itZ with kind:=13,pks:=R,pksA:=pa,pksC:=cp }
def bareX (k:Int):Item:={ itZ with kind:=k }
theorem built_send (R:List Pkt) (pa:Option Addr) (cp:Nat):Tryz.prog.built 44 [(0,.int .u8 13),(9,.slice pa R.length cp)]=some (sendX R pa cp).cells.toArray:=by kernel_rfl
theorem built_bare (k:Int):Tryz.prog.built 44 [(0,.int .u8 k)]=some (bareX k).cells.toArray:=by kernel_rfl
theorem stay_new {w:World} {F:List Nat} (hF:∀ k ∈ F,k < w.heap.size) (cs:List Value) (T:TypeId):Stay (w.alloc (.cells cs.toArray T)) F w.heap.size cs T:=
 ⟨fun hk=>by have:=hF _ hk;omega,by simp,heap_alloc_new w _⟩
set_option maxRecDepth 100000
set_option maxHeartbeats 2000000
theorem sends_any (c:HCfg) (ad:HAd) (tb:Nat) (T:Tn) (E F:List Nat) (w:World) (conn:Int) (R:List Pkt) (pa:Option Addr) (cp:Nat) (h:TurnAt c ad w tb T E F) (hn1:1<=c.n) (hn2:c.n<=64) (hcn:conn<=9223372036854775807)
  (hb:Beside w (E++F) pa (pksV R)) (hn:T.mails.length<=100000) (hR:R.length<=100000) :
  Calls Tryz.prog 70 #[.pointer (some ⟨tb,0,none⟩),.int .i64 conn,.slice pa R.length cp] w fun e w'=>e = .returned (.tuple #[])/\TDone c ad tb E F w (sendsT c conn R T) w':=by
 by_cases hR0:R = []
 ·have HD:Hid (TDone c ad tb E F w (sendsT c conn R T) w):=hyd ⟨F,by unfold sendsT;rw [if_pos hR0];exact h,Upd.refl _ _⟩
  have h0:(R.length:Int)=0:=by rw [hR0];rfl
  clear h hb hR0
  go_enter Tryz.func70, Tryz.ntmps70
  go_wp2_with fail
  go_end0
  exact ⟨rfl,HD.out⟩
 ·have hb1:=low_alloc w (.cells (sendX R pa cp).cells.toArray 44)
  have HG:=hyd (tgate_any c ad tb T E F _ 7 conn (sendX R pa cp) { itZ with kind:=13,pks:=R } pa cp w.heap.size (h.below hb1) hn1 hn2 hcn (stay_new (fun k hk=>h.lt k (List.mem_append_right _ hk)) _ _) rfl (hb.below hb1) hn);have HE:Hid (sendsT c conn R T=gateT c 7 conn { itZ with kind:=13,pks:=R } T):=hyd (by unfold sendsT;rw [if_neg hR0]);have HB1:=hyd hb1;have HBU:=hyd (fun (_:Unit)=>built_send R pa cp);have HBS:=hyd (build_item (sendX R pa cp))
  have h0:(0:Int) < R.length:=by
   have:0 < R.length:=List.length_pos_iff.2 hR0;omega
  clear h hb hb1 hn1 hn2 hcn hn hR0;generalize (sendX R pa cp).cells=XL at *
  go_enter Tryz.func70, Tryz.ntmps70
  go_wp2_with (first
   | (refine wpList_buildBy rfl 44 _ rfl _ rfl XL.toArray [(0,.int .u8 13),(9,.slice pa R.length cp)] (by kernel_rfl) (HBU.out ()) ?_)
   | (refine wpList_build1 HBS.out rfl _ rfl rfl _ rfl _ rfl ?_)
   | fail)
  refine HG.out.mono ?_;rintro e w2 ⟨rfl,hd⟩;have HD:=hyd (TDone.pre HB1.out hd);clear hd
  go_wp2_with fail
  go_end0
  exact ⟨rfl,by rw [HE.out];exact HD.out⟩
theorem answers_any (c:HCfg) (ad:HAd) (tb:Nat) (T:Tn) (E F:List Nat) (w:World) (conn:Int) (R:List Pkt) (pa:Option Addr) (cp:Nat) (h:TurnAt c ad w tb T E F) (hn1:1<=c.n) (hn2:c.n<=64) (hcn:conn<=9223372036854775807)
  (hb:Beside w (E++F) pa (pksV R)) (hn:T.mails.length+1<=100000) (hR:R.length<=100000) :
  Calls Tryz.prog 120 #[.pointer (some ⟨tb,0,none⟩),.int .i64 conn,.slice pa R.length cp] w fun e w'=>e = .returned (.tuple #[])/\TDone c ad tb E F w (answersT c conn R T) w':=by
 have hlm:(sendsT c conn R T).mails.length<=100000:=by
  unfold sendsT
  split
  ·omega
  ·show (T.mails ++ [_]).length<=_
   simpa using hn
 have HS:=hyd (sends_any c ad tb T E F w conn R pa cp h hn1 hn2 hcn hb (by omega) hR);have HG:=hyd (fun X F' (hX:TurnAt c ad X tb (sendsT c conn R T) E F') (lb:Nat) (hst:Stay X F' lb (bareX 14).cells 44)=>tgate_any c ad tb (sendsT c conn R T) E F' X 7 conn (bareX 14) (bareX 14) none 0 lb hX hn1 hn2 hcn hst rfl (.inl rfl) hlm);have HBU:=hyd (fun (_:Unit)=>built_bare 14);have HBS:=hyd (build_item (bareX 14));clear h hb hn1 hn2 hcn hn hlm;generalize (bareX 14).cells=XL at *
 go_enter Tryz.func120, Tryz.ntmps120
 go_wp2_with fail
 refine HS.out.mono ?_;rintro e w2 ⟨rfl,F',ht2,hu2⟩;have HT2:=hyd ht2;have HU2:=hyd hu2;clear ht2 hu2
 go_wp2_with (first
  | (refine wpList_buildBy rfl 44 _ rfl _ rfl XL.toArray [(0,.int .u8 14)] (by kernel_rfl) (HBU.out ()) ?_)
  | (refine wpList_build1 HBS.out rfl _ rfl rfl _ rfl _ rfl ?_)
  | fail)
 refine (HG.out _ F' (HT2.out.below (low_alloc w2 _)) w2.heap.size (stay_new (fun k hk=>HT2.out.lt k (List.mem_append_right _ hk)) _ _)).mono ?_;rintro e w3 ⟨rfl,hd⟩;obtain ⟨F3,h3,hu3⟩:=TDone.pre (low_alloc w2 _) hd;have HD:Hid (TDone c ad tb E F w (answersT c conn R T) w3):=hyd ⟨F3,h3,HU2.out.trans' hu3⟩;clear hd h3 hu3
 go_wp2_with fail
 go_end0
 exact ⟨rfl,HD.out⟩
end
section
open Go Go.RowKit Go.Maps
def Base (w0 w:World) (F:List Nat):Prop:=Below w0.heap.size w0 w /\ ∀ k ∈ F,w0.heap.size<=k
theorem Base.upd {w0 w w':World} {F F':List Nat} (h:Base w0 w F) (hu:Upd F F' w w'):Base w0 w' F':=
 ⟨h.1.trans (hu.1.below h.1.size h.2),fun k hk=>(hu.2 k hk).elim (h.2 k) fun h1=>Nat.le_trans h.1.size h1⟩
theorem Base.below {w0 w w':World} {F:List Nat} (h:Base w0 w F) (hb:Below w.heap.size w w'):Base w0 w' F:=⟨bnext h.1 (Nat.le_refl _) hb,h.2⟩
def xf (c:HCfg) (x:Item) (f:Str):Item:={ x with filter:=⟨f.toArray⟩,frm:=c.me }
theorem frm_cells (x:Item) (v:Int):x.cells.toArray.setIfInBounds 36 (.int .i64 v) = { x with frm:=v }.cells.toArray:=by rw [List.setIfInBounds_toArray];rfl
theorem filter_cells (x:Item) (f:ByteArray):x.cells.toArray.setIfInBounds 4 (.string f) = { x with filter:=f }.cells.toArray:=by rw [List.setIfInBounds_toArray];rfl
theorem namesV_at {w:World} {a:Option Addr} {l:List (List UInt8)} (h:Row w a (namesV l)) {k:Nat} (hk:k < l.length):∃ b o,a=some ⟨b,o,none⟩/\w.cell? ⟨b,o+k,none⟩=some (.string ⟨l[k].toArray⟩):=
 h.at (by simp [namesV,hk])
theorem natsV_at {w:World} {a:Option Addr} {l:List Nat} (h:Row w a (natsV l)) {k:Nat} (hk:k < l.length):∃ b o,a=some ⟨b,o,none⟩/\w.cell? ⟨b,o+k,none⟩=some (.int .i64 (l[k]:Nat)):=
 h.at (by simp [natsV,hk])
theorem hubsT_snoc (c:HCfg) (x:Item) (fs:List Str) (t:Tn) {k:Nat} (hk:k < fs.length):hubsT c x (fs.take (k+1)) t=hubT c x fs[k] (hubsT c x (fs.take k) t):=by
 unfold hubsT;rw [List.take_succ_eq_append_getElem hk,List.foldl_append];rfl
theorem hubsK_snoc (c:HCfg) (fs:List Str) {k:Nat} (hk:k < fs.length):hubsK c (fs.take (k+1))=hubsK c (fs.take k)+(hubsN fs[k] c.n).length:=by
 unfold hubsK;rw [List.take_succ_eq_append_getElem hk,List.map_append,List.sum_append];simp
theorem hubsK_le (c:HCfg) (fs:List Str) (k:Nat):hubsK c (fs.take k)<=hubsK c fs:=by
 unfold hubsK
 conv=>rhs;rw [<- List.take_append_drop k fs,List.map_append,List.sum_append]
 omega
def hubTk (c:HCfg) (x:Item) (f:Str) (m:Nat) (t:Tn):Tn:=((hubsN f c.n).take m).foldl (fun t (k:Nat)=>t.mail k 4 (xf c x f)) t
theorem hubTk_snoc (c:HCfg) (x:Item) (f:Str) (t:Tn) {m:Nat} (hm:m < (hubsN f c.n).length):hubTk c x f (m+1) t=(hubTk c x f m t).mail ((hubsN f c.n)[m]:Nat) 4 (xf c x f):=by
 unfold hubTk;rw [List.take_succ_eq_append_getElem hm,List.foldl_append];rfl
theorem hubTk_all (c:HCfg) (x:Item) (f:Str) (t:Tn):hubTk c x f (hubsN f c.n).length t=hubT c x f t:=by
 unfold hubTk hubT;rw [List.take_length];rfl
theorem hubTk_len (c:HCfg) (x:Item) (f:Str) (t:Tn):∀ m,m<=(hubsN f c.n).length->(hubTk c x f m t).mails.length=t.mails.length+m
 | 0,_=>rfl
 | m+1,h=>by
  rw [hubTk_snoc c x f t (by omega)];show ((hubTk c x f m t).mails ++ [_]).length=_
  rw [List.length_append,hubTk_len c x f t m (by omega)];simp;omega
theorem hubsT_len (c:HCfg) (x:Item) (fs:List Str) (t:Tn):∀ k,k<=fs.length->(hubsT c x (fs.take k) t).mails.length=t.mails.length+hubsK c (fs.take k)
 | 0,_=>by simp [hubsT,hubsK]
 | k+1,h=>by
  rw [hubsT_snoc c x fs t (by omega),hubsK_snoc c fs (by omega),<- hubTk_all,hubTk_len c x _ _ _ (Nat.le_refl _),hubsT_len c x fs t k (by omega)];omega
set_option maxRecDepth 100000
set_option maxHeartbeats 4000000
theorem thubs_any (w0:World) (hT:Tabs w0) (c:HCfg) (ad:HAd) (tb:Nat) (T:Tn) (E F:List Nat) (w:World) (x:Item) (fs:List Str) (fa:Option Addr) (fc:Nat) (h:TurnAt c ad w tb T E F) (hB:Base w0 w F) (hn1:1<=c.n) (hn2:c.n<=64)
  (hx:x.pks = []) (hf:Beside w (E++F) fa (namesV fs)) (hfl:∀ f ∈ fs,f.length<=1000000) (hfn:fs.length<=10000) (hn:T.mails.length+hubsK c fs<=100000) :
  Calls Tryz.prog 109 #[.pointer (some ⟨tb,0,none⟩),.agg x.cells.toArray,.slice fa fs.length fc] w fun e w'=>e = .returned (.int .i64 (hubsK c fs))/\TDone c ad tb E F w (hubsT c x fs T) w':=by
 obtain ⟨W,hW⟩:∃ W,w.alloc (.cells x.cells.toArray 44)=W:=⟨_,rfl⟩;have hb0:Below w.heap.size w W:=by rw [<- hW];exact low_alloc _ _
 have hx0:W.heap[w.heap.size]? = some (.cells x.cells.toArray 44 (0,0)):=by rw [<- hW];exact heap_alloc_new w _
 have hs0:W.heap.size=w.heap.size+1:=by rw [<- hW];simp
 have h0:=h.more hb0 (Nat.le_refl _) (by omega);have c36:W.cell? ⟨w.heap.size,36,none⟩=some (.int .i64 x.frm):=by rw [cell_of_row _ _ 36 _ _ _ hx0];rfl
 have f36:=frozen_of_row W w.heap.size 36 _ _ hx0;obtain ⟨c1,-,c3,c4,-,-⟩:=h0.cells;have hx1:=heap_setCell_same W w.heap.size 36 _ _ (.int .i64 c.me) hx0;rw [frm_cells] at hx1;have hm1:Mod [w.heap.size] W (W.setCell ⟨w.heap.size,36,none⟩ (.int .i64 c.me)):=(Mod.refl _ _).setCell (.inl (by simp)) _;have h1:=h0.wrote hm1 (by simp);have hb1:Below w.heap.size w (W.setCell ⟨w.heap.size,36,none⟩ (.int .i64 c.me)):=hb0.setCell (Nat.le_refl _) _;have HX1:=hyd hx1;have HT1:=hyd h1;have HB1:=hyd hb1;have HT:=hyd hT;have HBA:=hyd hB;have HF:Hid (∀ X F',Upd F F' w X->Row X fa (namesV fs)):=hyd (fun X F' hu=>((hf.sub fun k hk=>List.mem_append_right _ hk).upd hu).row);have HFL:=hyd hfl;have HN:=hyd hn;have HX:=hyd hx;have HN1:=hyd hn1;have HN2:=hyd hn2;have HLT:=hyd h.lt;clear h h0 hb0 hx0 hx1 hm1 h1 hb1 hT hB hf hfl hn hx hn1 hn2 hs0;generalize hIL:x.cells.toArray=IL0 at *;clear hIL
 go_enter Tryz.func109, Tryz.ntmps109
 go_upto_region 3 with fail
 clear hW c1 c3 c4 c36 f36;generalize W.setCell ⟨w.heap.size,36,none⟩ (.int .i64 c.me)=w1 at *
 go_wp2_with fail
 go_loopw [7,9,11,22] (fun n _ _ i wr => ∃ (k:Nat) (F':List Nat) (fl:ByteArray),i = .int .i64 k/\k<=fs.length/\n = .int .i64 (hubsK c (fs.take k))/\TurnAt c ad wr tb (hubsT c x (fs.take k) T) (w.heap.size :: E) F'/\Upd F F' w wr/\wr.heap[w.heap.size]? = some (.cells ({ x with filter:=fl,frm:=c.me }:Item).cells.toArray 44 (0,0))) (fun _ _ _ i _=>(fs.length - intOf i).toNat)
 case atStart=>exact ⟨0,F,x.filter,rfl,by omega,rfl,HT1.out,Upd.of_below HB1.out,HX1.out⟩
 case round =>
  obtain ⟨k,F',fl,rfl,hk,rfl,htu,hu,hxb⟩:=hrel;have HTU:=hyd htu;have HU:=hyd hu;have HXB:=hyd hxb
  by_cases hlt:k < fs.length
  ·have hk0:(0:Int)<=k:=by omega
   have hkl:(k:Int) < fs.length:=by omega
   have hw1:IntKind.i64.wrap ((k:Int)+1)=(k:Int)+1:=w_i64 _ (by omega) (by omega);obtain ⟨fb,fo,rfl,hfc⟩:=namesV_at (HF.out _ _ hu) hlt;have c4:wr.cell? ⟨w.heap.size,4,none⟩=some (.string fl):=by rw [cell_of_row _ _ 4 _ _ _ hxb];rfl
   have f4:=frozen_of_row wr w.heap.size 4 _ _ hxb;have hx2:=heap_setCell_same wr w.heap.size 4 _ _ (.string ⟨fs[k].toArray⟩) hxb;rw [filter_cells] at hx2;have hm2:Mod [w.heap.size] wr (wr.setCell ⟨w.heap.size,4,none⟩ (.string ⟨fs[k].toArray⟩)):=(Mod.refl _ _).setCell (.inl (by simp)) _;have ht2:=htu.wrote hm2 (by simp);have hu2:Upd F F' w (wr.setCell ⟨w.heap.size,4,none⟩ (.string ⟨fs[k].toArray⟩)):=⟨hu.1.setCell (.inr (Nat.le_refl _)) _,hu.2⟩;obtain ⟨d1,-,d3,-,-,-⟩:=ht2.cells;have HK:=hyd (hubsK_snoc c fs hlt);have HTS:=hyd (hubsT_snoc c x fs T hlt);have HLN:=hyd (hubsT_len c x fs T k hk);have HKL:=hyd (hubsK_le c fs (k+1));have HFK:=hyd (HFL.out _ (List.getElem_mem hlt));have HX2:=hyd hx2;have HT2:=hyd ht2;have HU2:=hyd hu2;clear htu hu hxb hx2 hm2 ht2 hu2;generalize fs[k]=f at *
   go_upto_region 7 with fail
   clear c4 f4 hfc;generalize wr.setCell ⟨w.heap.size,4,none⟩ (.string ⟨f.toArray⟩)=w2 at *
   go_wp2_with fail
   have hb2:=HBA.out.upd HU2.out;refine (hubs_any ⟨f.toArray⟩ c.n w2 (HT.out.below hb2.1) HFK.out HN1.out HN2.out).mono ?_;rintro e w3 ⟨hv,rfl,hown,hk3⟩;obtain ⟨va,vc,rfl,hnew⟩:=NewR.of hown;have HR3:=hyd (hnew.beside (F:=F') fun k hk=>HT2.out.lt k (List.mem_append_right _ hk));have HT3:=hyd (HT2.out.below hk3);have HU3:=hyd (HU2.out.next hk3);have HX3:=hyd ((hk3.block w.heap.size (Array.getElem?_eq_some_iff.1 HX2.out).1).trans HX2.out);have HSL:Hid ((Tryz.prog.info? 44).map (·.size)=some (xf c x f).cells.toArray.size):=hyd (item_size (xf c x f));have hll:=hubsN_len f (n:=c.n) HN1.out;have h64:=HN2.out;have hln:=HLN.out;have hkl2:=HKL.out;have hkk:=HK.out;have hnn:=HN.out;clear hb2 hown hk3 hnew
   go_wp2_with fail
   generalize hKk:hubsK c (fs.take k)=Kk at *;generalize hTk:hubsT c x (fs.take k) T=Tk at *;have HTK:=hyd hTk;have HKK:=hyd hKk;clear hTk hKk
   go_loopw [7,11,39] (fun n _ j wq => ∃ (m:Nat) (F2:List Nat),j = .int .i64 m/\m<=(hubsN f c.n).length/\n = .int .i64 ((Kk+m:Nat):Int)/\TurnAt c ad wq tb (hubTk c x f m Tk) (w.heap.size :: E) F2/\Upd F' F2 w3 wq/\wq.heap[w.heap.size]? = some (.cells (xf c x f).cells.toArray 44 (0,0))) (fun _ _ j _=>((hubsN f c.n).length - intOf j).toNat)
   case atStart=>exact ⟨0,F',rfl,by omega,rfl,HT3.out,Upd.refl _ _,HX3.out⟩
   case round =>
    obtain ⟨m,F2,rfl,hm,rfl,htu,hu,hxb⟩:=hrel
    by_cases hmt:m < (hubsN f c.n).length
    ·have hm0:(0:Int)<=m:=by omega
     have hml:(m:Int) < (hubsN f c.n).length:=by omega
     have hw2:IntKind.i64.wrap ((m:Int)+1)=(m:Int)+1:=w_i64 _ (by omega) (by omega);have hw3:IntKind.i64.wrap (((Kk+m:Nat):Int)+1)=((Kk+(m+1):Nat):Int):=by rw [w_i64 _ (by omega) (by omega)];omega
     obtain ⟨qb,qo,rfl,hqc⟩:=natsV_at (HR3.out.upd hu).row hmt;have hTl:=hubTk_len c x f Tk m hm;have HMA:=hyd (mail_any c ad tb (hubTk c x f m Tk) (w.heap.size :: E) F2 wr ((hubsN f c.n)[m]:Nat) 4 (xf c x f) (xf c x f) x.pksA x.pksC htu rfl (.inl (by show pksV x.pks = [];rw [HX.out];rfl)) (by omega));have HSN:=hyd (hubTk_snoc c x f Tk hmt);have HU4:=hyd hu;have HST:Hid (Stay wr F2 w.heap.size (xf c x f).cells 44):=hyd ⟨(htu.ext w.heap.size (by simp)).2,(htu.ext w.heap.size (by simp)).1,hxb⟩;have HXQ:=hyd hxb;clear htu hu hxb hTl;generalize (hubsN f c.n)[m]=q at *;generalize (xf c x f).cells=CL at *
     go_wp2_with (first
      | (refine wpList_load_row rfl 44 _ rfl w.heap.size rfl 44 CL.toArray _ _ HXQ.out Tryz.underlying44 rfl HSL.out ?_)
      | fail)
     refine HMA.out.mono ?_;rintro e w5 ⟨rfl,F5,ht5,hu5⟩;have HT5:=hyd ht5;have HU5:=hyd (HU4.out.trans' hu5);have HX5:=hyd (HST.out.upd hu5).2.2;clear ht5 hu5 hqc
     go_wp2_with fail
     go_roundw
     case rel=>exact ⟨m+1,F5,by go_num,by omega,by first | rfl | (rw [<- hw3]),by rw [HSN.out];exact HT5.out,HU5.out,HX5.out⟩
     case measure=>simp [intOf];omega
    ·have hml:¬ (m:Int) < (hubsN f c.n).length:=by omega
     obtain rfl:m=(hubsN f c.n).length:=by omega
     rw [hubTk_all] at htu;have HT5:=hyd htu;have HU5:=hyd (HU3.out.trans' hu);have HX5:=hyd hxb;clear htu hu hxb
     go_wp2_with fail
     go_roundw
     case rel=>exact ⟨k+1,F2,_,by go_num,by omega,by rw [HK.out],by rw [HTS.out];exact HT5.out,HU5.out,HX5.out⟩
     case measure=>simp [intOf];omega
  ·have hkl:¬ (k:Int) < fs.length:=by omega
   obtain rfl:k=fs.length:=by omega
   rw [List.take_length] at HTU;rw [List.take_length];have HQ:Hid (TDone c ad tb E F w (hubsT c x fs T) wr):=hyd ⟨F',HTU.out.less (fun _ hk=>List.mem_cons_of_mem _ hk),HU.out⟩;clear htu hu hxb
   go_wp2_with fail
   go_ret
   exact ⟨rfl,HQ.out⟩
end
section
open Go Go.RowKit Go.Maps Go.Lib
theorem pkt_cell {w:World} {b:Nat} {n:Pkt} {T:TypeId} {fr:Nat × Nat} (h:w.heap[b]? = some (.cells n.cells.toArray T fr)) :
  w.cell? ⟨b,5,none⟩=some (.string n.topic)/\w.cell? ⟨b,6,none⟩=some (.string n.payload)/\w.cell? ⟨b,10,none⟩=some (.string n.client)/\w.cell? ⟨b,12,none⟩=some (.string n.will.t)/\w.cell? ⟨b,13,none⟩=some (.string n.will.p)/\w.cell? ⟨b,18,none⟩=some (.string n.user)/\w.cell? ⟨b,19,none⟩=some (.string n.pass)/\w.cell? ⟨b,22,none⟩=some (.slice n.subsA n.subs.length n.subsC)/\w.cell? ⟨b,23,none⟩=some (.string n.codes):=
 ⟨cell_of_row w b 5 _ _ _ h,cell_of_row w b 6 _ _ _ h,cell_of_row w b 10 _ _ _ h,cell_of_row w b 12 _ _ _ h,cell_of_row w b 13 _ _ _ h,cell_of_row w b 18 _ _ _ h,cell_of_row w b 19 _ _ _ h,cell_of_row w b 22 _ _ _ h,cell_of_row w b 23 _ _ _ h⟩
structure Sm17 (p:Pkt) (m:Msg):Prop where
 mt:m.t.size<=300
 mp:m.p.size<=300
 topic:p.topic.size<=300
 payload:p.payload.size<=300
 wt:p.will.t.size<=300
 wp:p.will.p.size<=300
 nsubs:p.subs.length<=20
 subs:∀ y ∈ p.subs,y.1.length<=300
theorem pk_size24 (p:Pkt):(Tryz.prog.info? 39).map (·.size)=some p.cells.length:=by kernel_rfl
theorem pk_one17 (p:Pkt):p.cells.toArray.all (·.oneCell')=true:=by simp [Pkt.cells,Msg.cells,Value.oneCell']
set_option maxRecDepth 100000
set_option maxHeartbeats 4000000
theorem great17_one (n:Note) (b c:Nat) (w:World) (hr:w.rangeAt b 0 n.cells) (hs:Row w n.pk.subsA (subsV n.pk.subs)) (hl:n.pk.subs.length<=maxLen) :
  Calls Tryz.prog 40 #[.slice (some ⟨b,0,none⟩) 1 c] w fun e w'=>(e = .returned (.bool true) \/ (e = .returned (.bool false)/\Hid (Sm17 n.pk n.msg)))/\Below w.heap.size w w':=by
 have hpk:∀ X,Below w.heap.size w X->X.rangeAt b 4 n.pk.cells:=fun X hX j v hj=>by
  have:=(hX.cell (World.block_lt_of_cell? _ _ (hr (4+j) v (by
   show ([Value.int .u8 n.kind,.int .i64 n.op,.int .i64 n.conn,.string n.client]++_)[4+j]? = _
   rw [List.getElem?_append_right (by simp),show 4+j - ([Value.int .u8 n.kind,.int .i64 n.op,.int .i64 n.conn,.string n.client]:List Value).length=j by simp,List.getElem?_append_left (List.getElem?_eq_some_iff.1 hj).1]
   exact hj)))).trans (hr (4+j) v (by
   show ([Value.int .u8 n.kind,.int .i64 n.op,.int .i64 n.conn,.string n.client]++_)[4+j]? = _
   rw [List.getElem?_append_right (by simp),show 4+j - ([Value.int .u8 n.kind,.int .i64 n.op,.int .i64 n.conn,.string n.client]:List Value).length=j by simp,List.getElem?_append_left (List.getElem?_eq_some_iff.1 hj).1]
   exact hj))
  rw [Nat.zero_add] at this;exact this
 have c3:w.cell? ⟨b,3,none⟩=some (.string n.client):=hr 3 _ rfl;have c28:w.cell? ⟨b,28,none⟩=some (.string n.msg.t):=hr 28 _ rfl;have c29:w.cell? ⟨b,29,none⟩=some (.string n.msg.p):=hr 29 _ rfl;have c32:w.cell? ⟨b,32,none⟩=some (.string n.codes):=hr 32 _ rfl;have HPK:=hyd hpk;have HSU:=hyd hs;have hl2:(n.pk.subs.length:Int)<=9223372036854775807:=by unfold maxLen at hl;omega
 have HLP:=hyd (pk_size24 n.pk);have HLQ:Hid ((Tryz.prog.info? 39).map (·.size)=some n.pk.cells.toArray.size):=hyd (pk_size24 n.pk);have H24:Hid (∀ U:Array Value,U.size=24->U.size=n.pk.cells.toArray.size):=hyd (fun U hU=>hU.trans rfl);have HOP:=hyd (pk_one17 n.pk);have HPC:=hyd (fun (X:World) (d:Nat) (h:X.heap[d]? = some (.cells n.pk.cells.toArray 39 (0,0)))=>pkt_cell h);generalize n.pk.cells=PL at *;clear hr hpk hs hl
 go_enter Tryz.func40, Tryz.ntmps40
 go_upto_region 2 with fail
 go_loopw [3,4,5,6,7] (fun i _ _ _ _ wr=>Below w.heap.size w wr/\(i = .int .i64 0 \/ i = .int .i64 1/\Hid (Sm17 n.pk n.msg))) (fun i _ _ _ _ _=>(1 - intOf i).toNat)
 case atStart=>exact ⟨Below.refl _ _,.inl rfl⟩
 case round =>
  obtain ⟨hb,hi⟩:=hrel
  rcases hi with rfl | ⟨rfl,HSM⟩
  ·have HB:=hyd hb
   have hra:=HPK.out wr hb;have HRA:=hyd hra;have d3:wr.cell? ⟨b,3,none⟩=some (.string n.client):=(hb.cell (World.block_lt_of_cell? _ _ c3)).trans c3;have d28:wr.cell? ⟨b,28,none⟩=some (.string n.msg.t):=(hb.cell (World.block_lt_of_cell? _ _ c28)).trans c28;have d29:wr.cell? ⟨b,29,none⟩=some (.string n.msg.p):=(hb.cell (World.block_lt_of_cell? _ _ c29)).trans c29;have d32:wr.cell? ⟨b,32,none⟩=some (.string n.codes):=(hb.cell (World.block_lt_of_cell? _ _ c32)).trans c32;have hba:=low_alloc wr (.cells PL.toArray 39);have hnb:=heap_alloc_new wr (.cells PL.toArray 39);clear hra hb
   go_upto_region 5 with (first
    | (refine wpList_loadMid rfl 39 _ rfl b 4 rfl PL _ HRA.out Tryz.underlying39 rfl HLP.out _ rfl ?_)
    | (refine wpList_store_newTo rfl 39 _ _ rfl rfl wr.heap.size rfl PL.toArray _ rfl rfl HLQ.out (H24.out _ rfl) HOP.out ?_)
    | fail)
   have e3:=(hba.cell (World.block_lt_of_cell? _ _ d3)).trans d3;have e28:=(hba.cell (World.block_lt_of_cell? _ _ d28)).trans d28;have e29:=(hba.cell (World.block_lt_of_cell? _ _ d29)).trans d29;have e32:=(hba.cell (World.block_lt_of_cell? _ _ d32)).trans d32;obtain ⟨p5,p6,p10,p12,p13,p18,p19,p22,p23⟩:=HPC.out _ _ hnb;have HNB:=hyd hnb;have HB1:=hyd (bnext HB.out (Nat.le_refl _) hba);have hpb:wr.heap.size < (wr.alloc (.cells PL.toArray 39)).heap.size:=by simp
   have HPB:=hyd hpb;clear hpb hnb hba d3 d28 d29 d32 c3 c28 c29 c32 HB HRA;generalize wr.alloc (.cells PL.toArray 39)=w1 at *;generalize wr.heap.size=pb at *;obtain ⟨s1,hs1⟩:∃ s1,n.client=s1:=⟨_,rfl⟩;obtain ⟨s2,hs2⟩:∃ s2,n.codes=s2:=⟨_,rfl⟩;rw [hs1] at e3;rw [hs2] at e32;clear hs1 hs2;have HS:Hid ((fun X:World=>X.cell? ⟨b,3,none⟩=some (.string s1)/\X.cell? ⟨b,32,none⟩=some (.string s2)/\X.cell? ⟨b,28,none⟩=some (.string n.msg.t)/\X.cell? ⟨b,29,none⟩=some (.string n.msg.p)/\X.cell? ⟨pb,5,none⟩=some (.string n.pk.topic)/\X.cell? ⟨pb,6,none⟩=some (.string n.pk.payload)/\X.cell? ⟨pb,10,none⟩=some (.string n.pk.client)/\X.cell? ⟨pb,12,none⟩=some (.string n.pk.will.t)/\X.cell? ⟨pb,13,none⟩=some (.string n.pk.will.p)/\X.cell? ⟨pb,18,none⟩=some (.string n.pk.user)/\X.cell? ⟨pb,19,none⟩=some (.string n.pk.pass)/\X.cell? ⟨pb,23,none⟩=some (.string n.pk.codes)) w1.drew):=hyd ⟨e3,e32,e28,e29,p5,p6,p10,p12,p13,p18,p19,p23⟩;clear e3 e32 e28 e29 p5 p6 p10 p12 p13 p18 p19 p23;refine wp_region_held_drew (S:=fun X=>X.cell? ⟨b,3,none⟩=some (.string s1)/\X.cell? ⟨b,32,none⟩=some (.string s2)/\X.cell? ⟨b,28,none⟩=some (.string n.msg.t)/\X.cell? ⟨b,29,none⟩=some (.string n.msg.p)/\X.cell? ⟨pb,5,none⟩=some (.string n.pk.topic)/\X.cell? ⟨pb,6,none⟩=some (.string n.pk.payload)/\X.cell? ⟨pb,10,none⟩=some (.string n.pk.client)/\X.cell? ⟨pb,12,none⟩=some (.string n.pk.will.t)/\X.cell? ⟨pb,13,none⟩=some (.string n.pk.will.p)/\X.cell? ⟨pb,18,none⟩=some (.string n.pk.user)/\X.cell? ⟨pb,19,none⟩=some (.string n.pk.pass)/\X.cell? ⟨pb,23,none⟩=some (.string n.pk.codes)) (by kernel_rfl) HS.out (fun hHeld => ?_)
   refine tA 0 (h:=tA 1 (h:=tA 2 (h:=tA 3 (h:=tA 4 (h:=tA 5 (h:=tA 6 (h:=tA 7 (h:=tA 8 (h:=tA 9 (h:=tA 10 (h:=tA 11 (h:=tA 12 (h:=tA 13 (h:=tA 14 (h:=tA 15 (h:=tA 16 (h:=tA 17 (h:=tA 18 (h:=tA 19 (h:=tA 20 (h:=tA 21 (h:=tA 22 (h:=tA 23 (h:=tA 24 (h:=tA 25 (h:=tA 26 (h:=tA 27 (h:=tA 28 (h:=tA 29 (h:=tA 30 (h:=tA 31 (h:=tA 32 (h:=tA 33 (h:=tA 34 (h:=tA 35 (h:=tA 36 (h:=tA 37 (h:=tA 38 (h:=tA 39 (h:=?_))))))))))))))))))))))))))))))))))))))));simp only [tks];refine wpAnyH_ready (rs:=[40]) (by kernel_rfl) (by simp) ?_;refine AllReadyH.cons rfl (fun K hK => ?_) AllReadyH.nil;rw [if_pos (by rfl)];go_simp;obtain ⟨W2,hW2⟩:∃ W2,(w1.alloc (.cells #[.string s1,.string s2,.string n.msg.t,.string n.msg.p,.string n.pk.topic,.string n.pk.payload,.string n.pk.client,.string n.pk.will.t,.string n.pk.will.p,.string n.pk.user,.string n.pk.pass,.string n.pk.codes] 9)).drew=W2:=⟨_,rfl⟩;have hb2:Below w1.heap.size w1 W2:=by rw [<- hW2];exact (low_alloc w1 _).drew
   have hrw:Row W2 (some ⟨w1.heap.size,0,none⟩) ([s1,s2,n.msg.t,n.msg.p,n.pk.topic,n.pk.payload,n.pk.client,n.pk.will.t,n.pk.will.p,n.pk.user,n.pk.pass,n.pk.codes].map Value.string):=by rw [<- hW2];exact .inr ⟨_,_,rfl,fun j v hj=>cell_of_row (w1.alloc _) w1.heap.size (0+j) _ _ _ (heap_alloc_new w1 _) |>.trans (by rw [Nat.zero_add];simpa using hj)⟩
   have hS2:=HS.out;obtain ⟨q1,q2,q3,q4,q5,q6,q7,q8,q9,q10,q11,q12⟩:=hS2;refine hK.out _ _ (by rw [hW2];exact ⟨(hb2.cell (World.block_lt_of_cell? _ _ q1)).trans q1,(hb2.cell (World.block_lt_of_cell? _ _ q2)).trans q2,(hb2.cell (World.block_lt_of_cell? _ _ q3)).trans q3,(hb2.cell (World.block_lt_of_cell? _ _ q4)).trans q4,(hb2.cell (World.block_lt_of_cell? _ _ q5)).trans q5,(hb2.cell (World.block_lt_of_cell? _ _ q6)).trans q6,(hb2.cell (World.block_lt_of_cell? _ _ q7)).trans q7,(hb2.cell (World.block_lt_of_cell? _ _ q8)).trans q8,(hb2.cell (World.block_lt_of_cell? _ _ q9)).trans q9,(hb2.cell (World.block_lt_of_cell? _ _ q10)).trans q10,(hb2.cell (World.block_lt_of_cell? _ _ q11)).trans q11,(hb2.cell (World.block_lt_of_cell? _ _ q12)).trans q12⟩) (fun hHeld => ?_);clear q1 q2 q3 q4 q5 q6 q7 q8 q9 q10 q11 q12;refine tA 41 (h:=?_);simp only [tks];refine wpAnyH_done (by kernel_rfl) ?_ _;rw [hW2] at hHeld;clear hHeld HS;rw [hW2];have HB2:=hyd (bnext HB1.out (Nat.le_refl _) hb2);have d22:W2.cell? ⟨pb,22,none⟩=some (.slice n.pk.subsA n.pk.subs.length n.pk.subsC):=(hb2.cell (World.block_lt_of_cell? _ _ p22)).trans p22;have HSM:Hid ((∀ s ∈ [s1,s2,n.msg.t,n.msg.p,n.pk.topic,n.pk.payload,n.pk.client,n.pk.will.t,n.pk.will.p,n.pk.user,n.pk.pass,n.pk.codes],s.size<=300)->n.pk.subs.length<=20->(∀ y ∈ n.pk.subs,y.1.length<=300)->Sm17 n.pk n.msg):=hyd (fun h1 h2 h3=>⟨h1 _ (by simp),h1 _ (by simp),h1 _ (by simp),h1 _ (by simp),h1 _ (by simp),h1 _ (by simp),h2,h3⟩)
   obtain ⟨S0,hS0⟩:∃ S0,[s1,s2,n.msg.t,n.msg.p,n.pk.topic,n.pk.payload,n.pk.client,n.pk.will.t,n.pk.will.p,n.pk.user,n.pk.pass,n.pk.codes]=S0:=⟨_,rfl⟩;rw [hS0] at hrw HSM;have HL0:Hid (S0.length=12):=hyd (by rw [<- hS0];rfl);have HRW:=hyd hrw;have HSU2:=hyd (HSU.out.below HB2.out (Nat.le_refl _));generalize w1.heap.size=ab at *;generalize n.pk.subsA=sa at *;generalize n.pk.subsC=sc at *;clear hW2 hb2 hrw hS0 p22 HNB
   go_wp2_with fail
   go_loopw [6] (fun i wr => ∃ k:Nat,i = .int .i64 k/\k<=12/\W2=wr/\Hid (∀ s ∈ S0.take k,s.size<=300)) (fun i _=>(12 - intOf i).toNat)
   case atStart=>exact ⟨0,rfl,by omega,rfl,hyd (by simp)⟩
   case round =>
    obtain ⟨k,rfl,hk,rfl,HT⟩:=hrel
    by_cases hlt:k < 12
    ·have hk0:(0:Int)<=k:=by omega
     have hkI:(k:Int) < 12:=by omega
     have hkS:k < S0.length:=by rw [HL0.out];exact hlt
     obtain ⟨b1,o1,e1,d0⟩:=HRW.out.at (j:=k) (u:=.string S0[k]) (by simp [hkS])
     cases e1
     rw [Nat.zero_add] at d0
     have HNX:Hid (¬ (300:Int) < S0[k].size -> ∀ s ∈ S0.take (k+1),s.size<=300):=hyd (fun h s hs=>by
      rw [List.take_succ_eq_append_getElem hkS] at hs
      rcases List.mem_append.1 hs with hs | hs
      ·exact HT.out s hs
      ·rw [List.mem_singleton.1 hs];omega)
     generalize S0[k]=y at *
     by_cases hgt:(300:Int) < y.size
     ·go_wp2_with fail
      go_ret
      exact ⟨.inl rfl,HB2.out⟩
     ·have HX:=hyd (HNX.out hgt)
      go_wp2_with fail
      go_roundw
      case rel=>exact ⟨k+1,by go_num,by omega,by first | rfl | trivial,HX⟩
      case measure=>simp [intOf];omega
    ·obtain rfl:k=12:=by omega
     have HT2:Hid (∀ s ∈ S0,s.size<=300):=hyd (by rw [List.take_of_length_le (by rw [HL0.out];omega)] at HT;exact HT.out);clear HT
     go_wp2_with fail
     go_loopw [7] (fun i wr => ∃ k:Nat,i = .int .i64 k/\k<=n.pk.subs.length/\k<=20/\W2=wr/\Hid (∀ y ∈ n.pk.subs.take k,y.1.length<=300)) (fun i _=>(n.pk.subs.length - intOf i).toNat)
     case atStart=>exact ⟨0,rfl,by omega,by omega,rfl,hyd (by simp)⟩
     case round =>
      obtain ⟨k,rfl,hk,hk20,rfl,HT⟩:=hrel
      by_cases hlt:k < n.pk.subs.length
      ·have hk0:(0:Int)<=k:=by omega
       have hkI:(k:Int) < n.pk.subs.length:=by omega
       obtain ⟨b1,o1,rfl,d0,d1⟩:=subs_row HSU2.out hlt
       have HNX:Hid (¬ (300:Int) < (⟨n.pk.subs[k].1.toArray⟩:ByteArray).size -> ∀ y ∈ n.pk.subs.take (k+1),y.1.length<=300):=hyd (fun h y hy=>by
        rw [List.take_succ_eq_append_getElem hlt] at hy
        rcases List.mem_append.1 hy with hy | hy
        ·exact HT.out y hy
        ·rw [List.mem_singleton.1 hy]
         have:(⟨n.pk.subs[k].1.toArray⟩:ByteArray).size=n.pk.subs[k].1.length:=by simp [ByteArray.size]
         omega)
       generalize (⟨n.pk.subs[k].1.toArray⟩:ByteArray)=y at *
       by_cases hgt:(300:Int) < y.size
       ·go_wp2_with fail
        go_ret
        exact ⟨.inl rfl,HB2.out⟩
       ·have HX:=hyd (HNX.out hgt)
        by_cases h20:(20:Int)<=k
        ·go_wp2_with fail
         go_ret
         exact ⟨.inl rfl,HB2.out⟩
        ·go_wp2_with fail
         go_roundw
         case rel=>exact ⟨k+1,by go_num,by omega,by omega,by first | rfl | trivial,HX⟩
         case measure=>simp [intOf];omega
      ·obtain rfl:k=n.pk.subs.length:=by omega
       have hkI:¬ (n.pk.subs.length:Int) < n.pk.subs.length:=by omega
       have HX:Hid (Sm17 n.pk n.msg):=hyd (HSM.out HT2.out hk20 (by rw [List.take_length] at HT;exact HT.out))
       go_wp2_with fail
       go_roundw
       case rel=>exact ⟨HB2.out,.inr ⟨by go_num,HX⟩⟩
       case measure=>simp [intOf]
  ·clear c3 c28 c29 c32
   go_wp2_with fail
   go_ret
   exact ⟨.inr ⟨rfl,HSM⟩,hb⟩
end
end Go.Proofs.YtcekcoepdhnfgaaGreatDoor
