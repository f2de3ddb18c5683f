/- keeps; a home between turns. -/
import Derived.Test.YtcekcoepdhnfgaaGreatDoorHGY
import Derived.StillTailTactics
namespace Go.Proofs.YtcekcoepdhnfgaaGreatDoor
section
open Go Go.RowKit Go.Maps
theorem del_put {m:Msg}:∀ {l:List Msg},del m.k (put m l)=del m.k l
 | []=>by simp [put,del]
 | x :: r=>by
  unfold put
  split
  ·simp [del]
  ·split
   ·rename_i h2
    simp [del,h2]
   ·have ih:=del_put (m:=m) (l:=r)
    unfold del at *;rw [List.filter_cons,List.filter_cons,ih]
set_option maxRecDepth 100000
set_option maxHeartbeats 4000000
theorem keeps1_any (b:Nat) (m:Msg) (f:Str) (w:World) (hT:Tabs w) (hb:w.heap[b]? = some (.cells m.cells.toArray 36 (0,0))) (hf:f.length<=1000000) (hm:m.t.size<=1000000) :
  Calls Tryz.prog 136 #[.string ⟨f.toArray⟩,.pointer (some ⟨b,0,none⟩)] w fun e w'=>e = .returned (.bool (matchB f m.k))/\Below w.heap.size w w':=by
 have c0:w.cell? ⟨b,0,none⟩=some (.string m.t):=by rw [cell_of_row _ _ 0 _ _ _ hb];rfl
 have HM:=hyd (match_any ⟨f.toArray⟩ m.t w hT (by show f.toArray.size < _;simp;omega) (by omega));rw [show (⟨f.toArray⟩:ByteArray).data.toList=f by simp] at HM;clear hb
 go_enter Tryz.func136, Tryz.ntmps136
 go_wp2_with fail
 refine HM.out.mono ?_;rintro e w' ⟨rfl,hk⟩;have HK:=hyd hk;clear hk
 go_wp2_with fail
 go_ret
 exact ⟨rfl,HK.out⟩
theorem findex_any (a:Option Addr) (c:Nat) (l:List Str) (b:Nat) (m:Msg) (w:World) (hT:Tabs w) (ha:Row w a (namesV l)) (hn:l.length<=100000) (hb:w.heap[b]? = some (.cells m.cells.toArray 36 (0,0))) (hf:∀ f ∈ l,f.length<=1000000) (hm:m.t.size<=1000000) :
  Calls Tryz.prog 216 #[.slice a l.length c,.func (.func 136) #[] #[.pointer (some ⟨b,0,none⟩)]] w fun e w'=>Below w.heap.size w w' /\ ∃ i:Int,e = .returned (.int .i64 i)/\(decide (0<=i)=l.any fun f=>matchB f m.k):=by
 have HA:=hyd (fun X (hX:Below w.heap.size w X)=>ha.below hX (Nat.le_refl _));have HK:=hyd (fun X f (hX:Below w.heap.size w X) (h:f.length<=1000000)=>keeps1_any b m f X (hT.below hX) ((hX.block b (Array.getElem?_eq_some_iff.1 hb).1).trans hb) h hm);have HF:=hyd hf;clear ha hT hb hf hm
 go_enter Tryz.func216, Tryz.ntmps216
 go_wp2_with fail
 go_loopw [5,8] (fun _ i wr => ∃ k:Nat,i = .int .i64 k/\k<=l.length/\Below w.heap.size w wr /\ ∀ y ∈ l.take k,matchB y m.k=false) (fun _ i _=>(l.length - intOf i).toNat)
 case atStart=>exact ⟨0,rfl,by omega,Below.refl _ _,by simp⟩
 case round =>
  obtain ⟨k,rfl,hk,hbr,hno⟩:=hrel;have HNO:=hyd hno;have HBR:=hyd hbr;clear hno hbr
  by_cases hlt:k < l.length
  ·have hk0:(0:Int)<=k:=by omega
   have hkl:(k:Int) < l.length:=by omega
   obtain ⟨rb,off,rfl,c0⟩:=namesV_at (HA.out wr HBR.out) hlt;have HIN:Hid (matchB l[k] m.k=true->(l.any fun f=>matchB f m.k)=true):=hyd (fun e=>List.any_eq_true.2 ⟨l[k],List.getElem_mem hlt,e⟩)
   have HSN:Hid (matchB l[k] m.k=false -> ∀ y ∈ l.take (k+1),matchB y m.k=false):=hyd (fun e y hy=>by
    rw [List.take_succ_eq_append_getElem hlt] at hy
    rcases List.mem_append.1 hy with hy | hy
    ·exact HNO.out y hy
    ·rw [List.mem_singleton.1 hy];exact e)
   have HKK:=hyd (HK.out wr l[k] HBR.out (HF.out _ (List.getElem_mem hlt)));have hw1:IntKind.i64.wrap ((k:Int)+1)=(k:Int)+1:=w_i64 _ (by omega) (by omega);generalize l[k]=y at *
   go_wp2_with fail
   refine HKK.out.mono ?_;rintro e w2 ⟨rfl,hb2⟩;have HB2:=hyd (bnext HBR.out (Nat.le_refl _) hb2);clear c0 hb2;obtain ⟨mb,hmb⟩:∃ mb,matchB y m.k=mb:=⟨_,rfl⟩;rw [hmb] at HIN HSN ⊢;clear hmb
   cases mb
   ·have HS:=hyd (HSN.out rfl)
    go_wp2_with fail
    go_roundw
    case rel=>exact ⟨k+1,by go_num,by omega,HB2.out,HS.out⟩
    case measure=>simp [intOf];omega
   ·have HI:=hyd (HIN.out rfl)
    go_wp2_with fail
    go_ret
    exact ⟨HB2.out,k,rfl,by rw [HI.out];simp⟩
  ·have hkl:¬ (k:Int) < l.length:=by omega
   obtain rfl:k=l.length:=by omega
   have HNI:Hid ((l.any fun f=>matchB f m.k)=false):=hyd (by
    rw [List.any_eq_false];intro y hy;rw [HNO.out y (by rw [List.take_length];exact hy)]
    simp)
   go_wp2_with fail
   go_ret
   exact ⟨HBR.out,-1,rfl,by rw [HNI.out];rfl⟩
theorem fcontains_any (a:Option Addr) (c:Nat) (l:List Str) (b:Nat) (m:Msg) (w:World) (hT:Tabs w) (ha:Row w a (namesV l)) (hn:l.length<=100000) (hb:w.heap[b]? = some (.cells m.cells.toArray 36 (0,0))) (hf:∀ f ∈ l,f.length<=1000000) (hm:m.t.size<=1000000) :
  Calls Tryz.prog 135 #[.slice a l.length c,.func (.func 136) #[] #[.pointer (some ⟨b,0,none⟩)]] w fun e w'=>Below w.heap.size w w'/\e = .returned (.bool (l.any fun f=>matchB f m.k)):=by
 have HI:=hyd (findex_any a c l b m w hT ha hn hb hf hm);clear ha hn hT hb hf hm
 go_enter Tryz.func135, Tryz.ntmps135
 go_wp2_with fail
 refine HI.out.mono ?_;rintro e w' ⟨hb,i,rfl,hi⟩;have HB:=hyd hb;clear hb
 go_wp2_with fail
 go_ret
 refine ⟨HB.out,?_⟩;rw [<- hi]
 rfl
end
section
open Go Go.RowKit Go.Maps
theorem granted_short {xs:List SubE} (h:∀ y ∈ xs,y.1.length<=1000) (ks:Str):∀ f ∈ granted xs ks,f.length<=1000:=by
 have:∀ (l:List SubE) (ks:Str) (o:List Str),(∀ y ∈ l,y.1.length<=1000)->(∀ f ∈ o,f.length<=1000) -> ∀ f ∈ grantGo l ks o,f.length<=1000:=by
  intro l
  induction l with
  | nil=>intro ks o _ ho f hf;cases ks <;> exact ho f hf
  | cons y r ih =>
   intro ks o hl ho f hf
   cases ks with
   | nil=>exact ho f hf
   | cons k ks =>
    unfold grantGo at hf;refine ih ks _ (fun q hq=>hl q (by simp [hq])) (fun q hq => ?_) f hf
    split at hq
    ·rcases List.mem_append.1 hq with hq | hq
     ·exact ho q hq
     ·rw [List.mem_singleton.1 hq];exact hl y (by simp)
    ·exact ho q hq
 exact this xs ks [] h (fun f hf=>by cases hf)
set_option maxRecDepth 100000
set_option maxHeartbeats 4000000
theorem keeps_any (wb kb:Nat) (y:Item) (codes:Str) (kept:List Msg) (left:Int) (dv:Value) (m:Msg) (w:World) (hT:Tabs w) (hw:w.heap[wb]? = some (.cells (waitC y.op y.pk 8 left ⟨codes.toArray⟩ (some kb) dv).toArray 110 (0,0))) (hkp:(keptPc kb kept).R w) (hkw:kb ≠ wb) (hkn:kept.length<=1000000)
  (hsub:Row w y.pk.subsA (subsV y.pk.subs)) (hy:ItOk y) (hcl:codes.length=y.pk.subs.length) (hm:MsOk m) :
  Calls Tryz.prog 72 #[.pointer (some ⟨wb,0,none⟩),.agg m.cells.toArray] w fun e w'=>e = .returned (.tuple #[])/\(keptPc kb (keepsW m y codes kept)).R w'/\Mod [kb] w w':=by
 obtain ⟨gs,hgs⟩:∃ gs,granted y.pk.subs codes=gs:=⟨_,rfl⟩;have hgl:=grant_len y.pk.subs codes []
 have hgl':gs.length<=100:=by
  rw [<- hgs];have:=hy.pk.nsubs;unfold granted;simp at hgl;omega
 have hgf:∀ f ∈ gs,f.length<=1000000:=by
  rw [<- hgs];intro f hf;have:=granted_short (fun q hq=>(hy.pk.subs q hq).1) codes f hf;omega
 obtain ⟨a,ha⟩:∃ a,(gs.any fun f=>matchB f m.k)=a:=⟨_,rfl⟩
 have HE:Hid (keepsW m y codes kept=if a then (if m.p.size=0 then del m.k (put m kept) else put m kept) else kept):=hyd (by
  unfold keepsW
  rw [hgs,ha,del_put])
 have HGR:=hyd (fun X (hX:Below w.heap.size w X)=>granted_any y.pk y.pk.subs codes X rfl hcl (hsub.below hX (Nat.le_refl _)) hy.pk.nsubs);rw [hgs] at HGR;have hmt:m.t.size<=1000000:=by have:=hm.1;omega
 have HFC:=hyd (fun X a' c' b (hX:Below w.heap.size w X) (hr:Row X a' (namesV gs)) (hb:X.heap[b]? = some (.cells m.cells.toArray 36 (0,0)))=>fcontains_any a' c' gs b m X (hT.below hX) hr (by omega) hb hgf hmt);rw [ha] at HFC;have HPS:Hid ((Tryz.prog.info? 39).map (·.size)=some y.pk.cells.length):=hyd (pkt_size' y.pk);have hws:=(Array.getElem?_eq_some_iff.1 hw).1;have hks:kb < w.heap.size:=by obtain ⟨D,d1,-⟩:=hkp;exact d1.lt
 have HC:=hyd (fun X (hX:Mod [kb] w X)=>show X.rangeAt wb 2 y.pk.cells/\X.cell? ⟨wb,28,none⟩=some (.string ⟨codes.toArray⟩)/\X.cell? ⟨wb,29,none⟩=some (.map (some kb)) from by
  have h1:=(hX.block wb hws (fun e=>hkw (List.mem_singleton.1 e).symm)).trans hw;refine ⟨?_,by rw [cell_of_row _ _ 28 _ _ _ h1];rfl,(wait_cells h1).2.1⟩
  exact mid_cells (A:=[.int .i64 y.op,.int .i64 0]) h1)
 have hkey:=WideMaps.keyOf_string_mk (s:=m.t) Tryz.underlying9 (by unfold maxLen;omega)
 have HKP:=hyd (fun X (hX:Below w.heap.size w X)=>show (keptPc kb kept).R X from by
  obtain ⟨D,d1,d2⟩:=hkp
  exact ⟨D,owns_keep d1 (hX.block kb d1.lt),d2⟩)
 have HKN:=hyd hkn;have HKS:=hyd hks;obtain ⟨W,hW⟩:∃ W,w.alloc (.cells m.cells.toArray 36)=W:=⟨_,rfl⟩;have hb1:Below w.heap.size w W:=by rw [<- hW];exact low_alloc _ _
 have hx1:W.heap[w.heap.size]? = some (.cells m.cells.toArray 36 (0,0)):=by rw [<- hW];exact heap_alloc_new w _
 have HW:=hyd hW;have HB1:=hyd hb1;have HX1:=hyd hx1;have hz:w.heap.size < W.heap.size:=by rw [<- hW];simp
 have HZ:=hyd hz;clear hT hw hkp hkw hsub hy hcl hm hgs hgl hgl' hgf ha hmt hws hks hkn hW hb1 hx1 hz;obtain ⟨ML,hML⟩:∃ ML,m.cells=ML:=⟨_,rfl⟩;have HML:=hyd hML;rw [hML] at HW HX1 ⊢;clear hML;generalize hPL:y.pk.cells=PL at *
 go_enter Tryz.func72, Tryz.ntmps72
 go_upto_region 1 with fail
 rw [HW.out];have hc0:=HC.out W.drew (Mod.of_below HB1.out.drew _);have HC0:Hid (W.drew.rangeAt wb 2 PL/\W.drew.cell? ⟨wb,28,none⟩=some (.string ⟨codes.toArray⟩)):=hyd ⟨hc0.1,hc0.2.1⟩;clear hc0;refine wp_region_held_drew (S:=fun X=>X.rangeAt wb 2 PL/\X.cell? ⟨wb,28,none⟩=some (.string ⟨codes.toArray⟩)) (by kernel_rfl) HC0.out (fun hHeld => ?_);refine tA 0 (h:=tA 1 (h:=tA 2 (h:=?_)));simp only [tks];refine tk 3 (v:=.agg PL.toArray) (fun w0 hS0=>exec_load_row rfl rfl hS0.1 Tryz.underlying39 rfl HPS.out) hHeld ?_;simp only [tks];refine tA 4 (h:=tA 5 (h:=tA 6 (h:=tA 7 (h:=tA 9 (h:=?_)))));simp only [tks];refine wpAnyH_ready (rs:=[8]) (by kernel_rfl) (by simp) ?_;refine AllReadyH.cons rfl (fun K hK => ?_) AllReadyH.nil;rw [if_pos (by rfl)];go_simp
 go_at_call 114
 refine (HGR.out W.drew HB1.out.drew).mono ?_;rintro e w2 ⟨v2,rfl,hown2,hb2⟩;obtain ⟨a2,c2,rfl,hr2,-,-⟩:=ownsRow_row hown2;have hbw:Below w.heap.size w w2:=bnext HB1.out.drew (Nat.le_refl _) hb2;have hx2:w2.heap[w.heap.size]? = _:=(hb2.block w.heap.size HZ.out).trans HX1.out;have HBW:=hyd hbw;have HX2:=hyd hx2;have HR2:=hyd hr2;clear hown2 hb2 hr2 hbw hx2;have hc0:=HC.out w2 (Mod.of_below HBW.out _);refine hK.out _ _ ⟨hc0.1,hc0.2.1⟩ (fun hHeld => ?_);clear hc0;refine wpAnyH_ready (rs:=[10]) (by kernel_rfl) (by simp) ?_;refine AllReadyH.cons rfl (fun K hK => ?_) AllReadyH.nil;rw [if_pos (by rfl)];go_simp
 go_at_call 135
 refine (HFC.out w2 a2 c2 w.heap.size HBW.out HR2.out (by have:=HX2.out;rw [<- HML.out] at this;exact this)).mono ?_;rintro e w3 ⟨hb3,rfl⟩;have hz2:w.heap.size < w2.heap.size:=(Array.getElem?_eq_some_iff.1 HX2.out).1;have HX3:=hyd ((hb3.block w.heap.size hz2).trans HX2.out);have HBW3:Hid (Below w.heap.size w w3):=hyd (bnext HBW.out (Nat.le_refl _) hb3);clear hb3 hz2;have hc0:=HC.out w3 (Mod.of_below HBW3.out _);refine hK.out _ _ ⟨hc0.1,hc0.2.1⟩ (fun hHeld => ?_);clear hc0;refine tA 11 (h:=?_);simp only [tks];refine wpAnyH_done (by kernel_rfl) ?_ _;clear hHeld HC0
 cases a
 case false =>
  have HD:Hid ((keptPc kb (keepsW m y codes kept)).R w3/\Mod [kb] w w3):=hyd ⟨by rw [HE.out];exact HKP.out w3 HBW3.out,Mod.of_below HBW3.out _⟩
  go_wp2_with fail
  (try simp only [Exit.inBlock,Exit.then])
  refine bodyPost_ret (results_none rfl _ _ _) rfl ?_;exact ⟨rfl,HD.out⟩
 case true =>
  obtain ⟨mt,mp,mq,mr⟩:=m;have hml:=HML.out;subst hml;dsimp only [Msg.k] at *;have hx3:w3.heap[w.heap.size]? = some (.cells #[.string mt,.string mp,.int .u8 mq,.bool mr] 36 (0,0)):=HX3.out;obtain ⟨s0,s1,s2,s3⟩:=cells4 hx3;have c29:=(HC.out w3 (Mod.of_below HBW3.out _)).2.2;obtain ⟨D,hown0,hhas⟩:=HKP.out w3 HBW3.out;have hown3:w3.drew.ownsMap Tryz.prog 9 msgElem kb (Maps.size D) D:=hown0;have hsz:Maps.size D < maxLen:=by have:=hhas.1;have:=HKN.out;unfold maxLen;omega
  have HTD:=hyd (hown0.tidy kS);have HHS:=hyd hhas;have HKB:=HKS;clear hown0 hhas hx3
  go_upto_region 2 with fail
  go_still_tail 7,(by kernel_rfl)
  change wpList _ _ _ _ _ w3.drew
  go_upto_region 3 with (first | (at_mapUpdate;refine wpList_mapUpdate_own _ rfl _ _ _ 107 rfl 9 36 kS Tryz.underlying107 _ kb _ _ rfl hown3 hsz _ _ _ rfl rfl hkey _ [] (msgElem_mk ⟨mt,mp,mq,mr⟩) ?_;intro w4 hown4 hgr4;have HO4:=hyd hown4;have HG4:=hyd hgr4;clear hown4 hgr4) | fail)
  have hhas4:=HHS.out.put HTD.out ⟨mt,mp,mq,mr⟩;have hm4:Mod [kb] w w4:=((Mod.of_below HBW3.out [kb]).drew).grown HG4.out (fun q hq=>by cases hq;left;simp);have hx4:w4.heap[w.heap.size]? = some (.cells #[.string mt,.string mp,.int .u8 mq,.bool mr] 36 (0,0)):=(HG4.out.block w.heap.size ((Array.getElem?_eq_some_iff.1 HX3.out).1) (fun e=>by cases e;exact Nat.lt_irrefl _ HKB.out)).trans HX3.out;have HM4:=hyd hm4;have HP4:Hid ((keptPc kb (put ⟨mt,mp,mq,mr⟩ kept)).R w4):=hyd ⟨_,owns_tightM HO4.out,hhas4⟩;obtain ⟨t0,t1,t2,t3⟩:=cells4 hx4;have c29':=(HC.out w4 HM4.out).2.2;clear s0 s1 s2 s3 c29 hown3 hsz HTD HHS HO4 HG4 hhas4 hm4 hx4
  by_cases hp:mp.data.toList = []
  ·have hp':mp=⟨#[]⟩:=ba_ext hp
   have HK5:Hid (keepsW ⟨mt,mp,mq,mr⟩ y codes kept=del mt.data.toList (put ⟨mt,mp,mq,mr⟩ kept)):=hyd (by
    rw [HE.out,if_pos rfl,if_pos (by rw [hp'];rfl)])
   subst hp';clear hp;obtain ⟨D,hown0,hhas⟩:=HP4.out;have hown3:w4.drew.ownsMap Tryz.prog 9 msgElem kb (Maps.size D) D:=hown0;have HTD:=hyd (hown0.tidy kS);have HHS:=hyd hhas;clear hown0 hhas
   go_upto_region 4 with fail
   go_still_tail 6,(by kernel_rfl)
   change wpList _ _ _ _ _ w4.drew
   go_wp2_with (first | (at_delete;refine wpList_delete_own _ rfl _ _ 107 9 rfl 36 kS Tryz.underlying107 _ kb _ _ rfl hown3 _ _ rfl hkey ?_;intro w5 hown5 hturn5;have HO5:=hyd hown5;have HG5:=hyd hturn5.grown;clear hown5 hturn5) | fail)
   have HD:Hid ((keptPc kb (keepsW ⟨mt,⟨#[]⟩,mq,mr⟩ y codes kept)).R w5/\Mod [kb] w w5):=hyd ⟨by rw [HK5.out];exact ⟨_,owns_tightM HO5.out,HHS.out.del HTD.out _⟩,(HM4.out.drew).grown HG5.out (fun q hq=>by cases hq;left;simp)⟩
   go_end0
   exact ⟨rfl,HD.out⟩
  ·have hp1:¬ mp.toList = []:=fun h=>hp (by rw [<- Lib.toList_data];exact h)
   have hp2:mp.toList.isEmpty=false:=by rw [List.isEmpty_eq_false_iff];exact hp1
   have HD:Hid ((keptPc kb (keepsW ⟨mt,mp,mq,mr⟩ y codes kept)).R w4/\Mod [kb] w w4):=hyd ⟨by
    rw [HE.out,if_pos rfl,if_neg (fun h=>hp (by
     have h9:mp.data.size=0:=h;have:=Array.eq_empty_of_size_eq_zero h9
     rw [this]))]
    exact HP4.out,HM4.out⟩
   clear hp
   go_wp2_with fail
   go_end0
   exact ⟨rfl,HD.out⟩
end
section
open Go Go.RowKit Go.Maps
section
variable {c:HCfg} {t t':Tn} {K K':Nat} {cl:ByteArray} {z z':HSeat}
theorem KeptLe.of (h:KeptLe K t) (e:t'.seats=t.seats):KeptLe K t':=fun z hz=>h z (e ▸ hz)
theorem KeptLe.mono (h:KeptLe K t) (hk:K<=K'):KeptLe K' t:=fun z hz y codes kept left hb=>Nat.le_trans (h z hz y codes kept left hb) hk
theorem KeptLe.setB (h:KeptLe K t) (h0:t.seat cl=some z) (hb:z'.busy=z.busy):KeptLe K (t.setS cl z'):=fun y hy q codes kept left hq=>by
 rcases setS_mem hy with rfl | ⟨hy1,-⟩
 ·rw [hb] at hq
  exact h z (seat_at h0).1 q codes kept left hq
 ·exact h y hy1 q codes kept left hq
theorem KeptLe.puts {op kind:Int} {m:Msg} (h:KeptLe K t):KeptLe K (putsT c cl op kind m t):=by
 unfold putsT
 split
 ·exact h
 ·rename_i z h0
  exact KeptLe.of (h.setB (z':=⟨z.s.setO (putO c.most m z.s.o).2,z.busy⟩) h0 rfl) rfl
theorem deliverP_seat {x:Item} (h0:t.seat cl=some z):∃ o,(deliverP c x cl z t).seat cl=some ⟨z.s.setO o,z.busy⟩:=by
 unfold deliverP
 split
 ·obtain ⟨o,ho⟩:=puts_seat (c:=c) (op:=x.op) (kind:=6) (m:=⟨x.msg.t,x.msg.p,min x.msg.q (bestS x.msg.k z.s.l).1,false⟩) h0
  dsimp only
  split
  ·exact ⟨o,ho⟩
  ·rw [ho]
   dsimp only;refine ⟨(pumpO c.win (z.s.setO o).o.wait (z.s.setO o).o.row).2,?_⟩;rw [(ssf_sends _ _ _ _).seat];exact seat_setS' ho (seat_at h0).2
 ·exact ⟨z.s.o,h0⟩
theorem KeptLe.deliverP {x:Item} (h:KeptLe K t) (h0:t.seat cl=some z):KeptLe K (Go.Proofs.YtcekcoepdhnfgaaGreatDoor.deliverP c x cl z t):=by
 unfold Go.Proofs.YtcekcoepdhnfgaaGreatDoor.deliverP
 split
 ·obtain ⟨o,ho⟩:=puts_seat (c:=c) (op:=x.op) (kind:=6) (m:=⟨x.msg.t,x.msg.p,min x.msg.q (bestS x.msg.k z.s.l).1,false⟩) h0
  dsimp only
  split
  ·exact h.puts
  ·rw [ho]
   dsimp only;exact KeptLe.of ((h.puts (c:=c)).setB (z':=⟨(z.s.setO o).setO (pumpO c.win (z.s.setO o).o.wait (z.s.setO o).o.row).2,z.busy⟩) ho rfl) (ssf_sends _ _ _ _).s
 ·exact h
theorem keepsW_len {m:Msg} {x:Item} {codes:Str} {kept:List Msg} (hu:Up kept):(keepsW m x codes kept).length<=kept.length+1:=by
 unfold keepsW
 split
 ·split
  ·exact Nat.le_trans (List.length_filter_le _ _) (Nat.le_succ _)
  ·exact put_len1 m kept hu
 ·omega
theorem KeptLe.keepT {x:Item} (h:KeptLe K t) (hok:HOk t):KeptLe (K+1) (Go.Proofs.YtcekcoepdhnfgaaGreatDoor.keepT x cl t):=by
 unfold Go.Proofs.YtcekcoepdhnfgaaGreatDoor.keepT
 split
 ·rename_i s y codes kept left h0
  split
  ·intro q hq y' codes' kept' left' hb
   rcases setS_mem hq with rfl | ⟨hq1,-⟩
   ·cases hb
    have h1:=h _ (seat_at h0).1 y codes kept left rfl;have hw:=(hok.seat _ (seat_at h0).1).w _ left rfl;have h2:=keepsW_len (m:=x.msg) (x:=y) (codes:=codes) hw.2.2.2.2.1;omega
   ·have:=h q hq1 y' codes' kept' left' hb
    omega
  ·exact h.mono (Nat.le_succ _)
 ·exact h.mono (Nat.le_succ _)
theorem KeptLe.deliver1 {x:Item} (h:KeptLe K t) (hok:HOk t):KeptLe (K+1) (Go.Proofs.YtcekcoepdhnfgaaGreatDoor.deliver1 c x cl t):=by
 unfold Go.Proofs.YtcekcoepdhnfgaaGreatDoor.deliver1
 split
 ·exact h.mono (Nat.le_succ _)
 ·rename_i z h0
  exact (h.deliverP h0).keepT (deliverP_ok hok)
theorem keepT_none {x:Item} {s:SS} (h0:t.seat cl=some ⟨s,none⟩):keepT x cl t=t:=by
 unfold keepT;rw [h0]
theorem keepT_not {x:Item} {s:SS} {k:Wk} {left:Int} (h0:t.seat cl=some ⟨s,some (k,left)⟩) (h:¬ ∃ y codes kept,k = .sub y codes kept):keepT x cl t=t:=by
 unfold keepT;rw [h0]
 cases k <;> first | rfl | exact absurd ⟨_,_,_,rfl⟩ h
theorem wk_kept {w:World} {v1:SeV} {k:Wk} {left:Int} (h:¬ ∃ y codes kept,k = .sub y codes kept) (hl:Lies w (wkPcs v1 k left)):w.cell? ⟨v1.wb,29,none⟩=some (.map none):=by
 have h1:=hl.at' (cellPc v1.wb (wkC v1 k left) 110) (by cases k <;> simp [wkPcs])
 cases k with
 | sub y codes kept=>exact absurd ⟨_,_,_,rfl⟩ h
 | close y old=>exact (wait_cells (op:=y.op) (p:=pkZ) (kind:=4) (left:=left) (codes:=⟨#[]⟩) (kept:=none) (done:=doneV v1 (.close y old)) h1).2.1
 | att y pres=>exact (wait_cells (op:=y.op) (p:=pkZ) (kind:=9) (left:=left) (codes:=⟨#[]⟩) (kept:=none) (done:=doneV v1 (.att y pres)) h1).2.1
 | uns y=>exact (wait_cells (op:=y.op) (p:=pkZ) (kind:=9) (left:=left) (codes:=⟨#[]⟩) (kept:=none) (done:=doneV v1 (.uns y)) h1).2.1
 | flow op=>exact (wait_cells (op:=op) (p:=pkZ) (kind:=0) (left:=left) (codes:=⟨#[]⟩) (kept:=none) (done:=doneV v1 (.flow op)) h1).2.1
 | fin y clean=>exact (wait_cells (op:=y.op) (p:=pkZ) (kind:=9) (left:=left) (codes:=⟨#[]⟩) (kept:=none) (done:=doneV v1 (.fin y clean)) h1).2.1
end
theorem wpList_ne {P:Program} {ops:Array Oper} {Q:Exit->Go.Act->World->Prop} {a:Go.Act} {w:World} {rest:List Oper} {o:Oper} (t:TypeId) (x y:Operand) (_hop:o.op=Op.binOp .neq t x y t) (v:Value) (hg:Region.wanted o (yielded ops a.tmps)=true) (hx:(execOp a.eval o).run P w = .ok (.value v) w)
  (h:wpList P ops Q rest (a.put o.dst v) w):wpList P ops Q (o :: rest) a w:=
 wpList_step fun K hK=>by
  rw [if_pos hg];unfold Oper.wp;rw [hx];exact hK _ _ h
end
section
open Go
def FZ (z:HSeat):Prop:=(∀ y b left,z.busy=some (.fin y b,left)->z.s.conn=0) /\ ∀ y old left,z.busy=some (.close y old,left)->y.pk.ty=1
theorem FZ.none {z:HSeat} (h:z.busy=none):FZ z:=⟨fun _ _ _ e=>(by rw [h] at e;cases e),fun _ _ _ e=>(by rw [h] at e;cases e)⟩
theorem FZ.conn0 {z:HSeat} (h:FZ z) {s:SS} (e:s.conn=0):FZ ⟨s,z.busy⟩:=⟨fun _ _ _ _=>e,h.2⟩
theorem FZ.same {z:HSeat} (h:FZ z) {s:SS} (e:s.conn=z.s.conn):FZ ⟨s,z.busy⟩:=⟨fun y b left hb=>e.trans (h.1 y b left hb),h.2⟩
structure Bd (K S M:Nat) (t:Tn):Prop where
 k:KeptLe K t
 s:t.seats.length<=S
 f:∀ f ∈ t.flows,0<=f.taken/\f.taken<=M
 z:∀ y ∈ t.seats,FZ y
def KB (K:Nat) (b:Option (Wk × Int)):Prop:=∀ y codes kept left,b=some (.sub y codes kept,left)->kept.length<=K
section
variable {c:HCfg} {t t':Tn} {K S M K' S' M':Nat} {cl:ByteArray} {z z':HSeat} {x:Item}
theorem Bd.mono (h:Bd K S M t) (h1:K<=K':=by omega) (h2:S<=S':=by omega) (h3:M<=M':=by omega):Bd K' S' M' t:=⟨h.k.mono h1,Nat.le_trans h.s h2,fun f hf=>⟨(h.f f hf).1,Int.le_trans (h.f f hf).2 (by omega)⟩,h.z⟩
theorem Bd.of (h:Bd K S M t) (e1:t'.seats=t.seats) (e2:t'.flows=t.flows):Bd K S M t':=⟨h.k.of e1,e1 ▸ h.s,e2 ▸ h.f,e1 ▸ h.z⟩
theorem Bd.ssf (h:Bd K S M t) (e:SSF t t'):Bd K S M t':=h.of e.s e.f
theorem Bd.note (h:Bd K S M t) {n:Note}:Bd K S M (t.note n):=h.of rfl rfl
theorem Bd.op (h:Bd K S M t):Bd K S M t.op:=h.of rfl rfl
theorem Bd.mail (h:Bd K S M t) {d lane:Int} {x:Item}:Bd K S M (t.mail d lane x):=h.of rfl rfl
theorem Bd.gate (h:Bd K S M t) {lane conn:Int} {x:Item}:Bd K S M (gateT c lane conn x t):=h.of rfl rfl
theorem Bd.setN (h:Bd K S M t) (hz:KB K z.busy) (hf:FZ z):Bd K S M (t.setS cl z):=by
 refine ⟨fun y hy q codes kept left hq => ?_,by show (t.seats.map _).length<=S;rw [List.length_map];exact h.s,h.f,fun y hy=>(setS_mem hy).elim (fun e=>e ▸ hf) fun h1=>h.z y h1.1⟩
 rcases setS_mem hy with rfl | ⟨hy1,-⟩
 ·exact hz q codes kept left hq
 ·exact h.k y hy1 q codes kept left hq
theorem KB.none:KB K (none:Option (Wk × Int)):=fun _ _ _ _ h=>by cases h
theorem FZ.at (h:Bd K S M t) (h0:t.seat cl=some z):FZ z:=h.z z (seat_at h0).1
theorem KB.at (h:Bd K S M t) (h0:t.seat cl=some z):KB K z.busy:=fun y codes kept left hb=>h.k z (seat_at h0).1 y codes kept left hb
theorem Bd.addF (h:Bd K S M t) {op:Int} {g:HFlow} (hg:g.taken=0):Bd K S M { t with flows:=withoutF op t.flows ++ [g] }:=
 ⟨h.k,h.s,fun f hf=>by
  rcases List.mem_append.1 hf with hf | hf
  ·exact h.f f (List.mem_filter.1 hf).1
  ·rw [List.mem_singleton.1 hf,hg];omega,h.z⟩
theorem Bd.delF (h:Bd K S M t) (op:Int):Bd K S M { t with flows:=withoutF op t.flows }:=⟨h.k,h.s,fun f hf=>h.f f (List.mem_filter.1 hf).1,h.z⟩
theorem Bd.free (h:Bd K S M t):Bd K S M (freeT cl t):=by
 unfold freeT
 split
 ·exact h
 ·exact h.setN KB.none (FZ.none rfl)
theorem Bd.flowed (h:Bd K S M t) {f:HFlow}:Bd K S M (flowedT c f t):=by
 unfold flowedT
 split
 ·exact h.note
 ·exact h.free.ssf (ssf_told _ _ _ _ _ _)
theorem Bd.route (h:Bd K S M t) {op conn:Int} {p:Pkt}:Bd K S M (routeT c op cl conn p t):=by
 unfold routeT
 split
 ·exact (Bd.addF h.note rfl).mail
 ·exact h.flowed
theorem Bd.loses (h:Bd K S M t) (hz:KB K z.busy) (hf:FZ z) {left:Bool}:Bd K S M (losesT c z left t):=by
 have h1:Bd K S M (t.setS z.s.client ⟨leaveS z.s,z.busy⟩):=h.setN hz (hf.conn0 rfl);unfold losesT;dsimp only
 split
 ·exact h1
 ·split
  ·exact Bd.route h1.op.note
  ·exact h1
theorem Bd.closed (h:Bd K S M t) (hz:KB K z.busy) (hf:FZ z) {old many:Int}:Bd K S M (closedT c z old many t):=by
 unfold closedT;exact (Bd.loses (h.ssf (closedO_ssf z old many t)).note hz hf).note
theorem Bd.doneAtt (h:Bd K S M t) (hz:KB K z.busy) (hf:FZ z) {pres:Bool}:Bd K S M (Go.Proofs.YtcekcoepdhnfgaaGreatDoor.doneAtt c x pres z t):=by
 unfold Go.Proofs.YtcekcoepdhnfgaaGreatDoor.doneAtt;refine Bd.note (Bd.ssf ?_ (ssf_answers _ _ _ _));exact h.setN hz (hf.same rfl)
theorem Bd.attach (h:Bd K S M t) (hn:z.busy=none):Bd K S M (attachT c z x t):=by
 have hz:KB K z.busy:=hn ▸ KB.none
 have h2:Bd K S M (hubsT c (itK 6 x.op x.client) (beginA x.conn x.pk z.s).2 ((t.setS z.s.client ⟨beginS x.conn x.pk z.s,z.busy⟩).note (noteA 2 x.op x.conn x.client x.pk.bare (beginA x.conn x.pk z.s).1))):=by
  refine Bd.ssf (Bd.note ?_) (ssf_hubs _ _ _ _);exact h.setN hz (FZ.none hn)
 unfold attachT;dsimp only
 split
 ·exact h2.doneAtt (z:=⟨beginS x.conn x.pk z.s,z.busy⟩) hz (FZ.none hn)
 ·exact h2.setN (fun _ _ _ _ e=>by cases e) ⟨fun _ _ _ e=>(by cases e),fun _ _ _ e=>(by cases e)⟩
theorem Bd.connect (h:Bd K S M t) (hty:x.pk.ty=1) (hb:∀ z,t.seat x.client=some z->z.busy=none):Bd K (S+1) M (connectT c x t):=by
 have key:∀ (t1:Tn) (z:HSeat),Bd K (S+1) M t1->z.busy=none->Bd K (S+1) M (if z.s.conn=0 \/ z.s.conn=x.conn then attachT c z x t1 else gateT c 2 z.s.conn (itK 3 x.op x.client) (t1.setS z.s.client ⟨z.s,some (.close x z.s.conn,0)⟩)):=fun t1 z h1 hz=>by
  split
  ·exact h1.attach hz
  ·refine Bd.gate ?_
   exact h1.setN (fun _ _ _ _ e=>by cases e) ⟨fun _ _ _ e=>(by cases e),fun _ _ _ e=>(by cases e;exact hty)⟩
 unfold connectT
 cases hz:t.seat x.client with
 | some z=>exact key t z h.mono (hb z hz)
 | none =>
  refine key _ ⟨SS.new x.client,none⟩ ⟨fun y hy q codes kept left hq => ?_,?_,h.f,fun y hy=>(List.mem_append.1 hy).elim (h.z y) fun hy=>by rw [List.mem_singleton.1 hy];exact FZ.none rfl⟩ rfl
  ·rcases List.mem_append.1 hy with hy | hy
   ·exact h.k y hy q codes kept left hq
   ·rw [List.mem_singleton.1 hy] at hq;cases hq
  ·show (t.seats ++ [_]).length<=S+1
   have:=h.s;simp;omega
theorem Bd.puts (h:Bd K S M t) {op kind:Int} {m:Msg}:Bd K S M (putsT c cl op kind m t):=by
 unfold putsT
 split
 ·exact h
 ·rename_i z h0
  refine Bd.note ?_;have hf:=FZ.at h h0;have hk:=KB.at h h0;exact h.setN hk (hf.same rfl)
theorem Bd.putss {op kind:Int} (f:Msg->Msg):∀ (l:List Msg) {t:Tn},Bd K S M t->Bd K S M (l.foldl (fun t m=>putsT c cl op kind (f m) t) t)
 | [],_,h=>h
 | _ :: r,_,h=>Bd.putss f r h.puts
theorem Bd.doneSub (h:Bd K S M t) (hz:KB K z.busy) (hf:FZ z) {codes:Str} {kept:List Msg}:Bd K S M (Go.Proofs.YtcekcoepdhnfgaaGreatDoor.doneSub c x codes kept z t):=by
 have h1:Bd K S M ((t.setS z.s.client ⟨z.s.setL (x.pk.subs.foldl (fun l y=>setE y.1 y.2 l) z.s.l),z.busy⟩).note (noteC 2 x.op x.conn x.client x.pk.bare codes)):=by
  refine Bd.note ?_;exact h.setN hz (hf.same rfl)
 have h2:=Bd.putss (c:=c) (cl:=z.s.client) (op:=x.op) (kind:=8) (fun m=>⟨m.t,m.p,min m.q (bestS m.k (ofGo x.pk.subs codes [])).1,true⟩) kept h1;unfold Go.Proofs.YtcekcoepdhnfgaaGreatDoor.doneSub;dsimp only
 split
 ·exact h2
 ·rename_i z2 hz2
  refine Bd.note (Bd.ssf ?_ (ssf_answers _ _ _ _));have hf2:=FZ.at h2 hz2;have hk2:=KB.at h2 hz2;exact h2.setN hk2 (hf2.same rfl)
theorem Bd.subscribe (h:Bd K S M t) (hz:KB K z.busy) (hf:FZ z):Bd K S M (subscribeT c z x t):=by
 have h1:=h.ssf (ssf_hubs c (itK 5 x.op x.client) (granted x.pk.subs (codesGo x.pk.subs z.s.l [])) t);unfold subscribeT;dsimp only
 split
 ·exact h1.doneSub hz hf
 ·exact h1.setN (fun _ _ _ _ e=>by cases e;exact Nat.zero_le _) ⟨fun _ _ _ e=>(by cases e),fun _ _ _ e=>(by cases e)⟩
theorem Bd.doneUns (h:Bd K S M t):Bd K S M (Go.Proofs.YtcekcoepdhnfgaaGreatDoor.doneUns c x t):=Bd.note (h.ssf (ssf_answers _ _ _ _))
theorem Bd.unsubscribe (h:Bd K S M t) (hz:KB K z.busy) (hf:FZ z):Bd K S M (unsubscribeT c z x t):=by
 have h1:Bd K S M (hubsT c (itK 6 x.op x.client) (goneGo x.pk.subs z.s.l []).1 ((t.setS z.s.client ⟨z.s.setL (goneGo x.pk.subs z.s.l []).2,z.busy⟩).note (noteP 2 x.op x.conn x.client x.pk.bare))):=by
  refine Bd.ssf (Bd.note ?_) (ssf_hubs _ _ _ _);exact h.setN hz (hf.same rfl)
 unfold unsubscribeT;dsimp only
 split
 ·exact h1.doneUns
 ·exact h1.setN (fun _ _ _ _ e=>by cases e) ⟨fun _ _ _ e=>(by cases e),fun _ _ _ e=>(by cases e)⟩
theorem Bd.publish (h:Bd K S M t) (hz:KB K z.busy) (hf:FZ z):Bd K S M (publishT c z x t):=by
 have h1:Bd K S M (t.setS z.s.client (firstZ x z)):=h.setN (by rw [(firstZ_is x z).2.1];exact hz) (by unfold firstZ;split;exact hf.same rfl;exact hf);unfold publishT;dsimp only
 split
 ·exact h1.ssf (ssf_told _ _ _ _ _ _)
 ·refine Bd.route ?_
  exact h1.setN (fun _ _ _ _ e=>by cases e) ⟨fun _ _ _ e=>(by cases e),fun _ _ _ e=>(by cases e)⟩
theorem Bd.acks (h:Bd K S M t) (hz:KB K z.busy) (hf:FZ z):Bd K S M (acksT c z x t):=by
 unfold acksT
 split
 ·refine Bd.ssf ?_ (ssf_answers _ _ _ _)
  exact h.setN hz (hf.same rfl)
 ·refine Bd.ssf ?_ (ssf_answers _ _ _ _)
  exact h.setN hz (hf.same rfl)
theorem Bd.doneFin (h:Bd K S M t) {clean:Bool}:Bd K S M (Go.Proofs.YtcekcoepdhnfgaaGreatDoor.doneFin c x clean t):=by
 have h1:Bd K S M (finS x clean t):=by
  unfold finS
  split
  ·exact ⟨fun y hy=>h.k y (List.mem_filter.1 hy).1,Nat.le_trans (List.length_filter_le _ _) h.s,h.f,fun y hy=>h.z y (List.mem_filter.1 hy).1⟩
  ·exact h
 unfold Go.Proofs.YtcekcoepdhnfgaaGreatDoor.doneFin
 split
 ·exact h1.gate.note
 ·exact h1.note
theorem Bd.ends (h:Bd K S M t) (hz:KB K z.busy) (hf:FZ z):Bd K S M (endsT c z x t):=by
 have h1:Bd K S M (losesT c z (decide (x.kind=1)) (t.note (noteP 2 x.op x.conn x.client x.pk.bare))):=Bd.loses h.note hz hf
 have h2:Bd K S M (finH c z x (losesT c z (decide (x.kind=1)) (t.note (noteP 2 x.op x.conn x.client x.pk.bare)))):=by
  unfold finH
  split
  ·refine Bd.ssf ?_ (ssf_hubs _ _ _ _)
   exact h1.setN hz (hf.conn0 rfl)
  ·exact h1
 unfold endsT;dsimp only
 split
 ·exact h2.doneFin
 ·exact h2.setN (fun _ _ _ _ e=>by cases e) ⟨fun _ _ _ _=>rfl,fun _ _ _ e=>by cases e⟩
theorem Bd.deliverP (h:Bd K S M t) (_h0:t.seat cl=some z):Bd K S M (Go.Proofs.YtcekcoepdhnfgaaGreatDoor.deliverP c x cl z t):=by
 unfold Go.Proofs.YtcekcoepdhnfgaaGreatDoor.deliverP
 split
 ·dsimp only
  have h1:Bd K S M (putsT c cl x.op 6 ⟨x.msg.t,x.msg.p,min x.msg.q (bestS x.msg.k z.s.l).1,false⟩ t):=h.puts
  split
  ·exact h1
  ·split
   ·exact h1
   ·rename_i z1 hz1
    refine Bd.ssf ?_ (ssf_sends _ _ _ _);have hf1:=FZ.at h1 hz1;have hk1:=KB.at h1 hz1;exact h1.setN hk1 (hf1.same rfl)
 ·exact h
theorem Bd.keep (h:Bd K S M t) (hok:HOk t):Bd (K+1) S M (keepT x cl t):=
 ⟨h.k.keepT hok,by
  unfold keepT
  split
  ·split
   ·show (t.seats.map _).length<=S
    rw [List.length_map];exact h.s
   ·exact h.s
  ·exact h.s,by
  unfold keepT
  split
  ·split
   ·exact h.f
   ·exact h.f
  ·exact h.f,by
  unfold keepT
  split
  ·split
   ·exact fun y hy=>(setS_mem hy).elim (fun e=>e ▸ ⟨fun _ _ _ e1=>(by cases e1),fun _ _ _ e1=>(by cases e1)⟩) fun h1=>h.z y h1.1
   ·exact h.z
  ·exact h.z⟩
theorem Bd.deliver1 (h:Bd K S M t) (hok:HOk t):Bd (K+1) S M (Go.Proofs.YtcekcoepdhnfgaaGreatDoor.deliver1 c x cl t):=by
 unfold Go.Proofs.YtcekcoepdhnfgaaGreatDoor.deliver1
 split
 ·exact h.mono
 ·rename_i z h0
  exact (h.deliverP h0).keep (deliverP_ok hok)
theorem Bd.deliver (h:Bd K S M t) (hok:HOk t) (hx:ItOk x):Bd (K+x.cls.length) S M (deliverT c x t):=by
 have key:∀ (l:List ByteArray) (K:Nat) (t:Tn),Bd K S M t->HOk t->Bd (K+l.length) S M (l.foldl (fun t cl=>Go.Proofs.YtcekcoepdhnfgaaGreatDoor.deliver1 c x cl t) t):=by
  intro l
  induction l with
  | nil=>exact fun K t h _=>h
  | cons d r ih =>
   intro K t h hok;have:=ih (K+1) _ (h.deliver1 (c:=c) (x:=x) (cl:=d) hok) (deliver1_hok hok hx);rw [List.length_cons,show K+(r.length+1)=K+1+r.length by omega];exact this
 unfold deliverT;dsimp only
 split
 ·exact (key x.cls K t h hok).mail
 ·exact key x.cls K t h hok
theorem Bd.counted (h:Bd K S M t):Bd K S (M+1) (countedT c x t):=by
 have hM:=h.mono (K':=K) (S':=S) (M':=M+1);unfold countedT
 split
 ·exact hM
 ·rename_i f h0
  have hf:=h.f f (List.mem_of_find?_eq_some h0)
  split
  ·exact Bd.flowed (hM.delF x.op)
  ·refine ⟨h.k,h.s,fun g hg => ?_,h.z⟩
   obtain ⟨g0,hg0,e⟩:=List.mem_map.1 hg
   split at e
   ·rw [<- e]
    unfold countF
    split
    ·exact ⟨hf.1,by show f.taken<=_;have:=hf.2;omega⟩
    ·show 0<=f.taken+1/\f.taken+1<=_
     have:=hf.1;have:=hf.2;omega
   ·rw [<- e];exact hM.f g0 hg0
theorem Bd.done (h:Bd K S M t) (hz:KB K z.busy) (hf:FZ z) {k:Wk}:Bd K S M (doneT c k z t):=by
 unfold doneT
 split
 ·exact h.doneAtt hz hf
 ·exact h.doneSub hz hf
 ·exact h.doneUns
 ·exact h.doneFin
 ·exact h
theorem Bd.answered (h:Bd K S M t) (hok:HOk t) {k:Wk} {left:Int} (h0:t.seat cl=some z) (hb:z.busy=some (k,left)):Bd (K+x.ms.length) S M (answeredT c z k left x t):=by
 have h1:Bd K S M (t.setS z.s.client ⟨z.s,none⟩):=h.setN KB.none (FZ.none rfl)
 have key:∀ k1:Wk,FZ ⟨z.s,some (k1,left - 1)⟩->KB (K+x.ms.length) (some (k1,left - 1))->Bd (K+x.ms.length) S M (if left - 1=0 then doneT c k1 ⟨z.s,none⟩ (t.setS z.s.client ⟨z.s,none⟩) else t.setS z.s.client ⟨z.s,some (k1,left - 1)⟩):=fun k1 hf hk=>by
  split
  ·exact (h1.done (z:=⟨z.s,none⟩) KB.none (FZ.none rfl)).mono
  ·exact (h.mono (K':=K+x.ms.length)).setN hk hf
 cases k with
 | close y old=>exact Bd.attach (Bd.closed (h1.mono) (z:=⟨z.s,none⟩) KB.none (FZ.none rfl)) (z:=⟨leaveS z.s,none⟩) rfl
 | sub y codes kept =>
  have hkp:=h.k z (seat_at h0).1 y codes kept left hb;have hw:=(hok.seat z (seat_at h0).1).w _ left hb;refine key _ ⟨fun _ _ _ e=>(by cases e),fun _ _ _ e=>(by cases e)⟩ fun y' codes' kept' left' e => ?_
  have:=puts_len x.ms kept hw.2.2.2.2.1
  cases e
  omega
 | att y pres=>exact key _ ⟨fun _ _ _ e=>(by cases e),fun _ _ _ e=>(by cases e)⟩ fun _ _ _ _ e=>by cases e
 | uns y=>exact key _ ⟨fun _ _ _ e=>(by cases e),fun _ _ _ e=>(by cases e)⟩ fun _ _ _ _ e=>by cases e
 | flow op=>exact key _ ⟨fun _ _ _ e=>(by cases e),fun _ _ _ e=>(by cases e)⟩ fun _ _ _ _ e=>by cases e
 | fin y clean =>
  have hf:=FZ.at h h0;have h9:=hf.1 y clean left hb;exact key _ ⟨fun _ _ _ _=>h9,fun _ _ _ e=>by cases e⟩ fun _ _ _ _ e=>by cases e
theorem Bd.asked (h:Bd K S M t) (hb:∀ z,t.seat x.client=some z->z.busy=none):Bd K (S+1) M (askedT c x t):=by
 have h1:=h.mono (K':=K) (S':=S+1) (M':=M);unfold askedT
 split
 ·rename_i hc
  exact h.connect hc.2.1 hb
 ·split
  ·exact h1
  ·rename_i z h0
   have hz:=KB.at h h0;have hf:=FZ.at h h0
   split
   ·exact h1
   ·split
    ·exact Bd.ends h1 hz hf
    ·split
     ·exact h1.subscribe hz hf
     ·split
      ·exact h1.unsubscribe hz hf
      ·split
       ·exact h1.publish hz hf
       ·split
        ·exact h1.ends hz hf
        ·exact h1.acks hz hf
theorem Bd.hear (h:Bd K S M t) (hok:HOk t) (hx:ItOk x) (hm:x.ms.length<=10) (hc:x.cls.length<=10):Bd (K+10) (S+1) (M+1) (hearT c x t):=by
 have h1:=h.mono (K':=K+10) (S':=S+1) (M':=M+1);unfold hearT
 split
 ·exact h1
 ·rename_i hr
  split
  ·rename_i hk
   refine (h.asked fun z hz => ?_).mono;unfold refusedB at hr;rw [hz] at hr;have h2:(decide (x.kind=1) || decide (x.kind=2))=true:=by simpa using hk
   rw [h2,Bool.true_and] at hr
   simpa using hr
  ·split
   ·split
    ·rename_i h0
     split
     ·exact (h.answered hok h0 rfl).mono
     ·exact h1
    ·exact h1
   ·split
    ·exact (h.deliver hok hx).mono
    ·split
     ·exact h.counted.mono
     ·exact h1
end
theorem gr_done {c:HCfg} {t:Tn} {k:Wk} {z:HSeat} {K:Nat} (hk:KB K (some (k,0))):Gr (K+2) 2 0 0 t (doneT c k z t):=by
 unfold doneT
 split
 ·exact (gr_doneAtt _ _ _).le
 ·rename_i y codes kept
  have:=hk y codes kept 0 rfl;exact (gr_doneSub _ _ _ _).le
 ·exact (gr_doneUns _).le
 ·exact (gr_doneFin _ _).le
 ·exact Gr.refl.le
theorem gr_hear {c:HCfg} (hn1:1<=c.n) (hn2:c.n<=64) {t:Tn} {x:Item} (hok:HOk t) (hx:ItOk x) {K S M:Nat} (hb:Bd K S M t) (hm:x.ms.length<=10) (hc:x.cls.length<=10):Gr (K+20) 6600 2 1 t (hearT c x t):=by
 have hcl:=hx.ncls;have hns:=hx.pk.nsubs;unfold hearT
 split
 ·exact Gr.refl.le
 ·split
  ·unfold askedT
   split
   ·exact (gr_connect hn1 hn2 hok x).le
   ·split
    ·exact Gr.refl.le
    ·rename_i z h0
     have hs:=(hok.seat z (seat_at h0).1).s
     split
     ·exact Gr.refl.le
     ·split
      ·exact (gr_ends hn1 hn2 z hs _).le
      ·split
       ·exact (gr_subscribe hn1 hn2 z x hns).le
       ·split
        ·exact (gr_unsubscribe hn1 hn2 z x hns).le
        ·split
         ·exact (gr_publish z x).le
         ·split
          ·exact (gr_ends hn1 hn2 z hs x).le
          ·exact (gr_acks z x).le
  ·split
   ·split
    ·rename_i s k left h0
     split
     ·cases k with
      | close y old =>
       have hs:SsOk s:=(hok.seat _ (seat_at h0).1).s;have h4:=beginA_len hs.leave y.conn y.pk;have g1:Gr 2 (hubsK c (beginA y.conn y.pk (leaveS s)).2+2) 0 0 (closedT c ⟨s,none⟩ old x.many (t.setS s.client ⟨s,none⟩)) (attachT c ⟨leaveS s,none⟩ y (closedT c ⟨s,none⟩ old x.many (t.setS s.client ⟨s,none⟩))):=gr_attach ⟨leaveS s,none⟩ y;exact (((gr_setS _ _).trans (gr_closed ⟨s,none⟩ old x.many)).trans g1).le (h2:=by have h7:=hubsK_cap c hn1 hn2 (beginA y.conn y.pk (leaveS s)).2;omega)
      | sub y codes kept =>
       have hkp:=hb.k _ (seat_at h0).1 y codes kept left rfl;have hw:=(hok.seat _ (seat_at h0).1).w _ left rfl;have h5:=puts_len x.ms kept hw.2.2.2.2.1;unfold answeredT;dsimp only
       split
       ·exact ((gr_setS _ _).trans (gr_done (K:=K+x.ms.length) fun _ _ _ _ e=>by cases e;omega)).le
       ·exact (gr_setS _ _).le
      | att y pres =>
       unfold answeredT;dsimp only
       split
       ·exact ((gr_setS _ _).trans (gr_done (K:=K) fun _ _ _ _ e=>by cases e)).le
       ·exact (gr_setS _ _).le
      | uns y =>
       unfold answeredT;dsimp only
       split
       ·exact ((gr_setS _ _).trans (gr_done (K:=K) fun _ _ _ _ e=>by cases e)).le
       ·exact (gr_setS _ _).le
      | flow op =>
       unfold answeredT;dsimp only
       split
       ·exact ((gr_setS _ _).trans (gr_done (K:=K) fun _ _ _ _ e=>by cases e)).le
       ·exact (gr_setS _ _).le
      | fin y clean =>
       unfold answeredT;dsimp only
       split
       ·exact ((gr_setS _ _).trans (gr_done (K:=K) fun _ _ _ _ e=>by cases e)).le
       ·exact (gr_setS _ _).le
     ·exact Gr.refl.le
    ·exact Gr.refl.le
   ·split
    ·exact (gr_deliver x).le
    ·split
     ·exact (gr_counted x).le
     ·exact Gr.refl.le
structure HInv (k:Nat) (t:Tn):Prop where
 ok:HOk t
 bd:Bd (10 * k) k k t
 notes:t.notes.length<=(10 * 81+20) * k
 flows:t.flows.length<=k
 ops0:0<=t.ops
 ops1:t.ops<=2 * k
theorem HInv.new:HInv 0 Tn.new:=⟨⟨List.Pairwise.nil,fun z hz=>(by cases hz),List.Pairwise.nil,fun f hf=>(by cases hf),fun f hf=>(by cases hf)⟩,⟨fun z hz=>(by cases hz),Nat.zero_le _,fun f hf=>(by cases hf),fun z hz=>(by cases hz)⟩,Nat.zero_le _,Nat.zero_le _,Int.le_refl _,Int.le_refl _⟩
theorem HInv.begin {k:Nat} {t:Tn} (h:HInv k t):HInv k t.begin:=⟨h.ok.of rfl rfl,h.bd.of rfl rfl,h.notes,h.flows,h.ops0,h.ops1⟩
theorem HInv.hear {c:HCfg} (hn1:1<=c.n) (hn2:c.n<=64) {k:Nat} {t:Tn} {x:Item} (h:HInv k t) (hk:k<=81) (hx:ItOk x) (hm:x.ms.length<=10) (hc:x.cls.length<=10):HInv (k+1) (hearT c x t):=by
 have g:=gr_hear (c:=c) hn1 hn2 h.ok hx h.bd hm hc;have a1:=h.notes;have a2:=h.flows;have a3:=h.ops0;have a4:=h.ops1;have g1:=g.n;have g2:=g.f;have g3:=g.o0;have g4:=g.o1;exact ⟨hear_ok hn1 hn2 h.ok hx h.ops0 (by omega),(h.bd.hear h.ok hx hm hc).mono,by omega,by omega,by omega,by omega⟩
end
section
open Go Go.RowKit Go.Maps
def hpcs (c:HCfg) (ad:HAd) (v:TnV) (t:Tn):List Pc:=logPc ad.lg v.nv v.N t.ops :: restPcs c ad v t
structure HomeP (c:HCfg) (ad:HAd) (w:World) (t:Tn) (v:TnV) (E:List Nat):Prop where
 lies:Lies w (hpcs c ad v t)
 ext:∀ k ∈ E,k < w.heap.size/\k ∉ feet (hpcs c ad v t)
 notes:All2 (NoteIs w (E++feet (hpcs c ad v t))) v.N t.notes
 caught:∀ z ∈ t.seats,∀ k left,z.busy=some (k,left)->Caught w (E++feet (hpcs c ad v t)) ad (v.sv z.s.client) z k
def HomeAt (c:HCfg) (ad:HAd) (w:World) (t:Tn) (E G:List Nat):Prop:=∃ v,HomeP c ad w t v E/\G=feet (hpcs c ad v t)
section
variable {c:HCfg} {ad:HAd} {w w':World} {tb:Nat} {t:Tn} {v:TnV} {E F G:List Nat}
theorem HomeP.upd {E':List Nat} (h:HomeP c ad w t v E) (hl:Lies w' (hpcs c ad v t)) (he:∀ k ∈ E',k < w'.heap.size/\k ∉ feet (hpcs c ad v t)) (hu:Upd (E++feet (hpcs c ad v t)) (E'++feet (hpcs c ad v t)) w w'):HomeP c ad w' t v E':=
 ⟨hl,he,All2.mono (fun _ _ k=>k.upd hu) h.notes,fun z hz k left hk=>(h.caught z hz k left hk).upd hu⟩
theorem HomeAt.begin (h:HomeAt c ad w t E G):HomeAt c ad w t.begin E G:=by
 obtain ⟨v,hP,e⟩:=h;exact ⟨v,⟨hP.lies,hP.ext,hP.notes,hP.caught⟩,e⟩
theorem HomeAt.ext (h:HomeAt c ad w t E G):∀ k ∈ E,k < w.heap.size/\k ∉ G:=by
 obtain ⟨v,h1,rfl⟩:=h;exact h1.ext
theorem HomeAt.lt (h:HomeAt c ad w t E G):∀ k ∈ E++G,k < w.heap.size:=by
 obtain ⟨v,h1,rfl⟩:=h;exact fun k hk=>(List.mem_append.1 hk).elim (fun h2=>(h1.ext k h2).1) (h1.lies.lt k)
theorem HomeAt.below (h:HomeAt c ad w t E G) (hb:Below w.heap.size w w'):HomeAt c ad w' t E G:=by
 obtain ⟨v,h1,rfl⟩:=h;exact ⟨v,h1.upd (h1.lies.below hb) (ext_turn h1.ext (Upd.of_below hb)) (Upd.of_below hb),rfl⟩
theorem HomeP.home (h:HomeP c ad w t v E):w.heap[ad.hb]? = some (.cells (homeC c ad).toArray 92 (0,0)):=h.lies.at' (cellPc ad.hb (homeC c ad) 92) (by simp [hpcs,restPcs])
theorem HomeAt.cells (h:HomeAt c ad w t E G):w.heap[ad.hb]? = some (.cells (homeC c ad).toArray 92 (0,0)):=by
 obtain ⟨v,h1,rfl⟩:=h;exact h1.home
theorem HomeAt.turn (h:HomeAt c ad w t E F) (hb:Below w.heap.size w w') (hx:w'.heap[w.heap.size]? = some (.cells #[bxV ad.hb,bxV ad.lg,.slice none 0 0] 100 (0,0))):TurnAt c ad w' w.heap.size t.begin E (w.heap.size :: F):=by
 have hlt:=h.lt;obtain ⟨v,h1,rfl⟩:=h
 have hu:Upd (E++feet (hpcs c ad v t)) (E++(w.heap.size :: feet (hpcs c ad v t))) w w':=⟨Mod.of_below hb _,fun k hk=>by
  rcases List.mem_append.1 hk with hk | hk
  ·exact .inl (List.mem_append_left _ hk)
  ·rcases List.mem_cons.1 hk with rfl | hk
   ·exact .inr (Nat.le_refl _)
   ·exact .inl (List.mem_append_right _ hk)⟩
 have hT:(turnPc w.heap.size ad (.slice none 0 0) []).R w':=⟨hx,World.ownsRow_nil _ _ _ _,by simp [Value.ownBlock]⟩;have e:feet (pcs c ad w.heap.size { v with mv:=.slice none 0 0,L:=[] } t.begin)=w.heap.size :: feet (hpcs c ad v t):=rfl;refine ⟨{ v with mv:=.slice none 0 0,L:=[] },⟨?_,fun k hk => ?_,trivial,?_,fun z hz k left hk => ?_⟩,e.symm⟩
 ·exact lies_app (A:=[turnPc w.heap.size ad (.slice none 0 0) []]) (lies_one (turnPc_ok _ _ _ _) hT) (h1.lies.below hb) fun k hk hk'=>by
   have:k=w.heap.size:=by simpa [feet,turnPc,Value.ownBlock] using hk
   have:=h1.lies.lt k hk';omega
 ·rw [e]
  refine ⟨Nat.lt_of_lt_of_le (h1.ext k hk).1 hb.size,fun h2 => ?_⟩
  rcases List.mem_cons.1 h2 with rfl | h2
  ·exact absurd (h1.ext _ hk).1 (Nat.lt_irrefl _)
  ·exact (h1.ext k hk).2 h2
 ·rw [e];exact All2.mono (fun _ _ k=>k.upd hu) h1.notes
 ·rw [e];exact (h1.caught z hz k left hk).upd hu
theorem TurnAt.home (h:TurnAt c ad w tb t E F):∃ (mv:Value) (L:List HMl) (F':List Nat),HomeAt c ad w t E F'/\(∀ q ∈ F',q ∈ F)/\w.heap[tb]? = some (.cells #[bxV ad.hb,bxV ad.lg,mv] 100 (0,0))/\w.ownsRow 0 46 40 mv L.length (hmlsV L)/\All2 (MailIs w (E++F')) L t.mails/\(∀ j ∈ mv.ownBlock.toList,j ∉ E++F'):=by
 obtain ⟨v,hP,rfl⟩:=h;have hL:Lies w ([turnPc tb ad v.mv v.L]++hpcs c ad v t):=hP.lies
 have hsub:∀ q ∈ feet (hpcs c ad v t),q ∈ feet (pcs c ad tb v t):=fun q hq=>by
  obtain ⟨p,hp,hk⟩:=mem_feet.1 hq;exact mem_feet.2 ⟨p,List.mem_cons_of_mem _ hp,hk⟩
 have hu:Upd (E++feet (pcs c ad tb v t)) (E++feet (hpcs c ad v t)) w w:=⟨Mod.refl _ _,fun k hk => .inl ((List.mem_append.1 hk).elim (fun h=>List.mem_append_left _ h) fun h=>List.mem_append_right _ (hsub k h))⟩;refine ⟨v.mv,v.L,feet (hpcs c ad v t),⟨v,⟨hL.right,fun k hk=>⟨(hP.ext k hk).1,fun h2=>(hP.ext k hk).2 (hsub k h2)⟩,All2.mono (fun _ _ k=>k.upd hu) hP.notes,fun z hz k left hk=>(hP.caught z hz k left hk).upd hu⟩,rfl⟩,hsub,hP.turn.1,hP.turn.2.1,All2.mono (fun _ _ k=>k.upd hu) hP.mails,fun j hj hj' => ?_⟩;have hjt:j ∈ (turnPc tb ad v.mv v.L).F:=List.mem_cons_of_mem _ hj
 rcases List.mem_append.1 hj' with hj' | hj'
 ·exact (hP.ext j hj').2 (mem_feet.2 ⟨_,List.mem_cons_self,hjt⟩)
 ·obtain ⟨p,hp,hk⟩:=mem_feet.1 hj'
  exact (List.pairwise_append.1 hL.off).2.2 _ (List.mem_singleton_self _) p hp j hjt hk
end
end
section
open Go
def VwS (t t':Tn):Prop:=∀ d,(t'.seat d).map (fun z=>(z.s.conn,z.s.l))=(t.seat d).map (fun z=>(z.s.conn,z.s.l))
def LvS (t t':Tn):Prop:=∀ d,liveT d t'=liveT d t
section
variable {c:HCfg} {t t1 t':Tn} {cl:ByteArray} {z z0:HSeat} {x:Item}
theorem liveT_map (d:ByteArray) (t:Tn):liveT d t=(((t.seat d).map (fun z=>(z.s.conn,z.s.l))).map (·.1)).getD 0:=by
 unfold liveT
 cases t.seat d <;> rfl
theorem VwS.refl:VwS t t:=fun _=>rfl
theorem VwS.trans (h:VwS t t1) (h':VwS t1 t'):VwS t t':=fun d=>(h' d).trans (h d)
theorem LvS.refl:LvS t t:=fun _=>rfl
theorem LvS.trans (h:LvS t t1) (h':LvS t1 t'):LvS t t':=fun d=>(h' d).trans (h d)
theorem VwS.lv (h:VwS t t'):LvS t t':=fun d=>by rw [liveT_map,liveT_map,h d]
theorem VwS.of (e:t'.seats=t.seats):VwS t t':=fun d=>by rw [seat_same e]
theorem VwS.ssf (e:SSF t t'):VwS t t':=VwS.of e.s
theorem LvS.ssf (e:SSF t t'):LvS t t':=(VwS.ssf e).lv
theorem VwS.setS (h0:t.seat cl=some z0) (hz:z.s.client=cl) (e1:z.s.conn=z0.s.conn) (e2:z.s.l=z0.s.l):VwS t (t.setS cl z):=fun d=>by
 rw [seat_setS h0 hz]
 by_cases hd:d=cl
 ·rw [if_pos hd,hd,h0]
  simp [e1,e2]
 ·rw [if_neg hd]
theorem liveT_setS (h0:t.seat cl=some z0) (hz:z.s.client=cl) (d:ByteArray):liveT d (t.setS cl z)=if d=cl then z.s.conn else liveT d t:=by
 unfold liveT;rw [seat_setS h0 hz]
 by_cases e:d=cl
 ·rw [if_pos e,if_pos e]
 ·rw [if_neg e,if_neg e]
theorem LvS.setS (h0:t.seat cl=some z0) (hz:z.s.client=cl) (e1:z.s.conn=z0.s.conn):LvS t (t.setS cl z):=fun d=>by
 rw [liveT_setS h0 hz]
 split
 ·rename_i hd
  unfold liveT;rw [hd,h0,e1]
 ·rfl
theorem live_at (h0:t.seat cl=some z):liveT cl t=z.s.conn:=by unfold liveT;rw [h0]
theorem vw_free:VwS t (freeT cl t):=by
 unfold freeT
 split
 ·exact VwS.refl
 ·rename_i z h0
  exact VwS.setS h0 (seat_at h0).2 rfl rfl
theorem vw_flowed {f:HFlow}:VwS t (flowedT c f t):=by
 unfold flowedT
 split
 ·exact VwS.of rfl
 ·exact vw_free.trans (VwS.ssf (ssf_told _ _ _ _ _ _))
theorem vw_route {op conn:Int} {p:Pkt}:VwS t (routeT c op cl conn p t):=by
 unfold routeT
 split
 ·exact VwS.of rfl
 ·exact vw_flowed
theorem vw_puts {op kind:Int} {m:Msg}:VwS t (putsT c cl op kind m t):=by
 unfold putsT
 split
 ·exact VwS.refl
 ·rename_i z h0
  exact VwS.trans (t1:=t.setS cl ⟨z.s.setO (putO c.most m z.s.o).2,z.busy⟩) (VwS.setS h0 (seat_at h0).2 rfl rfl) (VwS.of rfl)
theorem vw_putss {op kind:Int} (f:Msg->Msg):∀ (l:List Msg) {t:Tn},VwS t (l.foldl (fun t m=>putsT c cl op kind (f m) t) t)
 | [],_=>VwS.refl
 | _ :: r,_=>vw_puts.trans (vw_putss f r)
theorem vw_deliverP (_h0:t.seat cl=some z):VwS t (deliverP c x cl z t):=by
 unfold deliverP
 split
 ·dsimp only
  have h1:VwS t (putsT c cl x.op 6 ⟨x.msg.t,x.msg.p,min x.msg.q (bestS x.msg.k z.s.l).1,false⟩ t):=vw_puts
  split
  ·exact h1
  ·split
   ·exact h1
   ·rename_i z1 hz1
    refine VwS.trans ?_ (VwS.ssf (ssf_sends _ _ _ _));refine h1.trans ?_;exact VwS.setS hz1 (seat_at hz1).2 rfl rfl
 ·exact VwS.refl
theorem vw_keep:VwS t (keepT x cl t):=by
 unfold keepT
 split
 ·rename_i s y codes kept left h0
  split
  ·exact VwS.setS h0 (seat_at h0).2 rfl rfl
  ·exact VwS.refl
 ·exact VwS.refl
theorem vw_deliver1:VwS t (deliver1 c x cl t):=by
 unfold deliver1
 split
 ·exact VwS.refl
 ·rename_i z h0
  exact (vw_deliverP h0).trans vw_keep
theorem vw_delivers:∀ (l:List ByteArray) {t:Tn},VwS t (l.foldl (fun t cl=>deliver1 c x cl t) t)
 | [],_=>VwS.refl
 | _ :: r,_=>vw_deliver1.trans (vw_delivers r)
theorem vw_deliver:VwS t (deliverT c x t):=by
 unfold deliverT;dsimp only
 split
 ·exact (vw_delivers x.cls).trans (VwS.of rfl)
 ·exact vw_delivers x.cls
theorem vw_counted:VwS t (countedT c x t):=by
 unfold countedT
 split
 ·exact VwS.refl
 ·split
  ·exact VwS.trans (t1:={ t with flows:=withoutF x.op t.flows }) (VwS.of rfl) vw_flowed
  ·exact VwS.of rfl
theorem firstZ_l (x:Item) (z:HSeat):(firstZ x z).s.conn=z.s.conn/\(firstZ x z).s.l=z.s.l:=by
 unfold firstZ
 split <;> exact ⟨rfl,rfl⟩
theorem vw_publish (h0:t.seat cl=some z):VwS t (publishT c z x t):=by
 have hc:=(seat_at h0).2;have hf:=firstZ_l x z;have h1:VwS t (t.setS z.s.client (firstZ x z)):=VwS.setS (hc.symm ▸ h0) (firstZ_is x z).1 hf.1 hf.2;have h2:(t.setS z.s.client (firstZ x z)).seat z.s.client=some (firstZ x z):=seat_setS' (hc.symm ▸ h0) (firstZ_is x z).1;unfold publishT;dsimp only
 split
 ·exact h1.trans (VwS.ssf (ssf_told _ _ _ _ _ _))
 ·exact (h1.trans (VwS.setS (z:=⟨(firstZ x z).s,some (.flow x.op,0)⟩) h2 (firstZ_is x z).1 rfl rfl)).trans vw_route
theorem vw_acks (h0:t.seat cl=some z):VwS t (acksT c z x t):=by
 have h1:t.seat z.s.client=some z:=(seat_at h0).2.symm ▸ h0;unfold acksT
 split
 ·refine VwS.trans ?_ (VwS.ssf (ssf_answers _ _ _ _))
  exact VwS.setS h1 rfl rfl rfl
 ·refine VwS.trans ?_ (VwS.ssf (ssf_answers _ _ _ _))
  exact VwS.setS h1 rfl rfl rfl
theorem lv_doneSub (h0:t.seat cl=some z) {codes:Str} {kept:List Msg}:LvS t (doneSub c x codes kept z t):=by
 have h1:t.seat z.s.client=some z:=(seat_at h0).2.symm ▸ h0
 have h2:LvS t ((t.setS z.s.client ⟨z.s.setL (x.pk.subs.foldl (fun l y=>setE y.1 y.2 l) z.s.l),z.busy⟩).note (noteC 2 x.op x.conn x.client x.pk.bare codes)):=by
  refine LvS.trans ?_ (VwS.ssf (ssf_note _ _)).lv;exact LvS.setS h1 rfl rfl
 have h3:=h2.trans (vw_putss (c:=c) (cl:=z.s.client) (op:=x.op) (kind:=8) (fun m=>⟨m.t,m.p,min m.q (bestS m.k (ofGo x.pk.subs codes [])).1,true⟩) kept).lv;unfold doneSub;dsimp only
 split
 ·exact h3
 ·rename_i z2 hz2
  refine LvS.trans (LvS.trans ?_ (LvS.ssf (ssf_answers _ _ _ _))) (VwS.ssf (ssf_note _ _)).lv;refine h3.trans ?_;exact LvS.setS hz2 (seat_at hz2).2 rfl
theorem lv_subscribe (h0:t.seat cl=some z):LvS t (subscribeT c z x t):=by
 have e:=ssf_hubs c (itK 5 x.op x.client) (granted x.pk.subs (codesGo x.pk.subs z.s.l [])) t;have h1:=LvS.ssf e;have h2:=(e.seat cl).trans h0;unfold subscribeT;dsimp only
 split
 ·exact h1.trans (lv_doneSub h2)
 ·refine h1.trans ?_
  have h3:(hubsT c (itK 5 x.op x.client) (granted x.pk.subs (codesGo x.pk.subs z.s.l [])) t).seat z.s.client=some z:=(seat_at h0).2.symm ▸ h2;exact LvS.setS h3 rfl rfl
theorem vw_doneUns:VwS t (doneUns c x t):=(VwS.ssf (ssf_answers _ _ _ _)).trans (VwS.ssf (ssf_note _ _))
theorem lv_unsubscribe (h0:t.seat cl=some z):LvS t (unsubscribeT c z x t):=by
 have h1:t.seat z.s.client=some z:=(seat_at h0).2.symm ▸ h0
 have g1:LvS t ((t.setS z.s.client ⟨z.s.setL (goneGo x.pk.subs z.s.l []).2,z.busy⟩).note (noteP 2 x.op x.conn x.client x.pk.bare)):=by
  refine LvS.trans ?_ (VwS.ssf (ssf_note _ _)).lv;exact LvS.setS h1 rfl rfl
 have e:=ssf_hubs c (itK 6 x.op x.client) (goneGo x.pk.subs z.s.l []).1 ((t.setS z.s.client ⟨z.s.setL (goneGo x.pk.subs z.s.l []).2,z.busy⟩).note (noteP 2 x.op x.conn x.client x.pk.bare));have g2:=g1.trans (LvS.ssf e);have g3:=(e.seat z.s.client).trans (seat_setS' (t:=t) (z':=⟨z.s.setL (goneGo x.pk.subs z.s.l []).2,z.busy⟩) h1 rfl);unfold unsubscribeT;dsimp only
 split
 ·exact g2.trans vw_doneUns.lv
 ·refine g2.trans ?_
  exact LvS.setS g3 rfl rfl
theorem vw_doneAtt (h0:t.seat cl=some z) {pres:Bool}:VwS t (doneAtt c x pres z t):=by
 have h1:t.seat z.s.client=some z:=(seat_at h0).2.symm ▸ h0;unfold doneAtt;refine VwS.trans (VwS.trans ?_ (VwS.ssf (ssf_answers _ _ _ _))) (VwS.ssf (ssf_note _ _));exact VwS.setS h1 rfl rfl rfl
theorem begin_conn (conn:Int) (p:Pkt) (s:SS) (hc:1<=conn) (hty:p.ty=1):(beginS conn p s).conn=conn:=by
 have hm:mayB conn p=true:=by unfold mayB;simp [hty];omega
 unfold beginS;rw [if_pos hm]
 by_cases h:freshB p s=true
 ·rw [if_pos h]
 ·rw [if_neg h]
theorem live_attach (h0:t.seat cl=some z) (hc:1<=x.conn) (hty:x.pk.ty=1) (d:ByteArray):liveT d (attachT c z x t)=if d=cl then x.conn else liveT d t:=by
 have hzc:=(seat_at h0).2;have h1:t.seat z.s.client=some z:=hzc.symm ▸ h0;have hbc:(beginS x.conn x.pk z.s).client=z.s.client:=begin_client _ _ _;have e:=(ssf_note (noteA 2 x.op x.conn x.client x.pk.bare (beginA x.conn x.pk z.s).1) (t.setS z.s.client ⟨beginS x.conn x.pk z.s,z.busy⟩)).trans (ssf_hubs c (itK 6 x.op x.client) (beginA x.conn x.pk z.s).2 ((t.setS z.s.client ⟨beginS x.conn x.pk z.s,z.busy⟩).note (noteA 2 x.op x.conn x.client x.pk.bare (beginA x.conn x.pk z.s).1)));have h2:=(e.seat z.s.client).trans (seat_setS' (t:=t) (z':=⟨beginS x.conn x.pk z.s,z.busy⟩) h1 hbc)
 have h3:liveT d (hubsT c (itK 6 x.op x.client) (beginA x.conn x.pk z.s).2 ((t.setS z.s.client ⟨beginS x.conn x.pk z.s,z.busy⟩).note (noteA 2 x.op x.conn x.client x.pk.bare (beginA x.conn x.pk z.s).1)))=if d=cl then x.conn else liveT d t:=by
  rw [LvS.ssf e d,liveT_setS h1 hbc,hzc];dsimp only;rw [begin_conn _ _ _ hc hty]
 unfold attachT;dsimp only
 split
 ·rw [(vw_doneAtt h2).lv d,h3]
 ·refine Eq.trans ?_ h3
  exact LvS.setS (z:=⟨beginS x.conn x.pk z.s,some (.att x (beginA x.conn x.pk z.s).1,hubsK c (beginA x.conn x.pk z.s).2)⟩) h2 hbc rfl d
theorem loses_live (h0:t.seat cl=some z) (left:Bool) (d:ByteArray):liveT d (losesT c z left t)=if d=cl then 0 else liveT d t:=by
 have hzc:=(seat_at h0).2;have h1:t.seat z.s.client=some z:=hzc.symm ▸ h0;rw [(VwS.of (loses_seats (c:=c) (z:=z) (t:=t) left)).lv d];have:=liveT_setS (z:=⟨leaveS z.s,z.busy⟩) h1 rfl d;rw [this,hzc]
 rfl
theorem live_ends (h0:t.seat cl=some z) (hcl:x.client=cl):liveT cl (endsT c z x t)=0:=by
 have hzc:=(seat_at h0).2;have h1s:(t.note (noteP 2 x.op x.conn x.client x.pk.bare)).seat cl=some z:=h0;have g2:=loses_live (c:=c) h1s (decide (x.kind=1)) cl;have h2s:=loses_seat (c:=c) h1s (decide (x.kind=1));rw [if_pos rfl] at g2;unfold endsT;generalize losesT c z (decide (x.kind=1)) (t.note (noteP 2 x.op x.conn x.client x.pk.bare))=t2 at *
 have h3:∃ z3,(finH c z x t2).seat cl=some z3/\z3.s.conn=0:=by
  unfold finH
  split
  ·rw [hzc]
   exact ⟨_,((ssf_hubs c _ _ _).seat cl).trans (seat_setS' h2s hzc),rfl⟩
  ·exact ⟨_,h2s,rfl⟩
 obtain ⟨z3,h3s,h3c⟩:=h3;dsimp only;generalize finH c z x t2=t3 at *
 split
 ·have h4:liveT cl (finS x z.s.clean t3)=0:=by
   unfold finS
   split
   ·unfold liveT
    have:({ t3 with seats:=t3.seats.filter fun z=>decide (z.s.client ≠ x.client) }:Tn).seat cl=none:=by
     unfold Tn.seat;refine List.find?_eq_none.2 fun y hy => ?_
     have:=(List.mem_filter.1 hy).2;rw [hcl] at this
     simpa using this
    rw [this]
   ·rw [live_at h3s,h3c]
  unfold doneFin
  split
  ·exact ((VwS.of rfl).lv cl).trans h4
  ·exact ((VwS.of rfl).lv cl).trans h4
 ·have h9:=liveT_setS (z:=⟨finL z.s,some (.fin x z.s.clean,hubsK c (finN z.s))⟩) h3s hzc cl
  rw [if_pos rfl] at h9;rw [hzc,h9]
  rfl
end
structure OneP (x:Item) (t t':Tn):Prop where
 a:liveT x.client t' ≠ liveT x.client t->liveT x.client t ≠ 0->liveT x.client t' ≠ 0->x.kind=4
 b:liveT x.client t' ≠ liveT x.client t->x.kind=1 \/ x.kind=2 \/ x.kind=4
 c:liveT x.client t'=0->liveT x.client t ≠ 0->x.conn=liveT x.client t/\(x.kind=2 \/ x.pk.ty=14)
theorem OneP.of {x:Item} {t t':Tn} (h:liveT x.client t'=liveT x.client t):OneP x t t':=⟨fun h1=>absurd h h1,fun h1=>absurd h h1,fun h1 h2=>absurd (h ▸ h1) h2⟩
theorem asked_one {c:HCfg} {x:Item} {t:Tn} (hk:x.kind=1 \/ x.kind=2):OneP x t (askedT c x t):=by
 have hb:x.kind=1 \/ x.kind=2 \/ x.kind=4:=hk.elim .inl (.inr ∘ .inl);unfold askedT
 split
 ·rename_i h1
  have key:∀ (t1:Tn) (z:HSeat),t1.seat x.client=some z->liveT x.client t1=liveT x.client t->OneP x t (if z.s.conn=0 \/ z.s.conn=x.conn then attachT c z x t1 else gateT c 2 z.s.conn (itK 3 x.op x.client) (t1.setS z.s.client ⟨z.s,some (.close x z.s.conn,0)⟩)):=fun t1 z h0 hl=>by
   have hzl:=live_at h0
   split
   ·rename_i hcn
    have e:liveT x.client (attachT c z x t1)=x.conn:=by rw [live_attach h0 (by omega) h1.2.1,if_pos rfl]
    refine ⟨fun g1 g2 g3 => ?_,fun _=>hb,fun g1 => ?_⟩
    ·rw [e] at g1
     rw [<- hl,hzl] at g1 g2;omega
    ·rw [e] at g1
     omega
   ·have e:liveT x.client (gateT c 2 z.s.conn (itK 3 x.op x.client) (t1.setS z.s.client ⟨z.s,some (.close x z.s.conn,0)⟩))=liveT x.client t1:=by
     rw [(VwS.of (gate_seats' (c:=c) 2 z.s.conn (itK 3 x.op x.client)):VwS (t1.setS z.s.client ⟨z.s,some (.close x z.s.conn,0)⟩) _).lv x.client];have h9:t1.seat z.s.client=some z:=(seat_at h0).2.symm ▸ h0;exact LvS.setS (z:=⟨z.s,some (.close x z.s.conn,0)⟩) h9 rfl rfl x.client
    exact OneP.of (e.trans hl)
  unfold connectT
  cases h0:t.seat x.client with
  | some z=>exact key t z h0 rfl
  | none =>
   have hs:({ t with seats:=t.seats ++ [⟨SS.new x.client,none⟩] }:Tn).seat x.client=some ⟨SS.new x.client,none⟩:=by
    unfold Tn.seat at h0 ⊢;rw [List.find?_append,h0];simp [SS.new]
   refine key _ ⟨SS.new x.client,none⟩ hs ?_;rw [live_at hs];unfold liveT;rw [h0]
   rfl
 ·split
  ·exact OneP.of rfl
  ·rename_i z h0
   split
   ·exact OneP.of rfl
   ·rename_i hcn
    have hlz:=live_at h0
    have ends:∀ y:Item,y.client=x.client->(x.kind=2 \/ x.pk.ty=14)->OneP x t (endsT c z y t):=fun y hy h9=>by
     have e:=live_ends (c:=c) (x:=y) h0 hy;exact ⟨fun _ _ g3=>absurd e g3,fun _=>hb,fun _ _=>⟨by rw [hlz];omega,h9⟩⟩
    split
    ·rename_i h2
     exact ends { x with pk:=pkZ } rfl (.inl h2)
    ·split
     ·exact OneP.of (lv_subscribe h0 x.client)
     ·split
      ·exact OneP.of (lv_unsubscribe h0 x.client)
      ·split
       ·exact OneP.of ((vw_publish h0).lv x.client)
       ·split
        ·rename_i h14
         exact ends x rfl (.inr h14)
        ·exact OneP.of ((vw_acks h0).lv x.client)
theorem answered_one {c:HCfg} {x:Item} {t:Tn} {s:SS} {k:Wk} {left:Int} (h0:t.seat x.client=some ⟨s,some (k,left)⟩) (hw:WkOk s left k) (hf:FZ ⟨s,some (k,left)⟩) (hk:wkKind k=x.kind) (h0k:wkKind k ≠ 0):OneP x t (answeredT c ⟨s,some (k,left)⟩ k left x t):=by
 have hsc:s.client=x.client:=(seat_at h0).2;have h1:t.seat s.client=some ⟨s,some (k,left)⟩:=hsc.symm ▸ h0;have g1:LvS t (t.setS s.client ⟨s,none⟩):=LvS.setS (z:=⟨s,none⟩) h1 rfl rfl;have g1s:(t.setS s.client ⟨s,none⟩).seat s.client=some ⟨s,none⟩:=seat_setS' h1 rfl;have g2:∀ k1:Wk,LvS t (t.setS s.client ⟨s,some (k1,left - 1)⟩):=fun k1=>LvS.setS (z:=⟨s,_⟩) h1 rfl rfl
 have key:∀ k1:Wk,LvS (t.setS s.client ⟨s,none⟩) (doneT c k1 ⟨s,none⟩ (t.setS s.client ⟨s,none⟩))->OneP x t (if left - 1=0 then doneT c k1 ⟨s,none⟩ (t.setS s.client ⟨s,none⟩) else t.setS s.client ⟨s,some (k1,left - 1)⟩):=fun k1 hd=>by
  split
  ·exact OneP.of ((g1.trans hd) x.client)
  ·exact OneP.of (g2 k1 x.client)
 cases k with
 | close y old =>
  have hy:1<=y.conn:=hw.2.1
  have e:liveT x.client (answeredT c ⟨s,some (.close y old,left)⟩ (.close y old) left x t)=y.conn:=by
   have hcs:∃ o,(closedT c ⟨s,none⟩ old x.many (t.setS s.client ⟨s,none⟩)).seat s.client=some o/\o=⟨leaveS s,none⟩:=by
    have e3:SSF (t.setS s.client ⟨s,none⟩) ((closedO ⟨s,none⟩ old x.many (t.setS s.client ⟨s,none⟩)).note (noteP 2 (closedN x.many (t.setS s.client ⟨s,none⟩)) old s.client (closedP x.many))):=(closedO_ssf _ old x.many _).trans (ssf_note _ _);have:=loses_seat (c:=c) ((e3.seat s.client).trans g1s) (!decide (x.many=0));exact ⟨_,this,rfl⟩
   obtain ⟨o,ho,rfl⟩:=hcs;show liveT x.client (attachT c ⟨leaveS s,none⟩ y _)=_
   rw [live_attach ho hy (hf.2 y old left rfl),if_pos hsc.symm]
  exact ⟨fun _ _ _=>hk.symm,fun _ => .inr (.inr hk.symm),fun g=>by rw [e] at g;omega⟩
 | att y pres=>exact key (.att y pres) (vw_doneAtt g1s).lv
 | sub y codes kept=>exact key (wkAdd x (.sub y codes kept)) (lv_doneSub g1s)
 | uns y=>exact key (.uns y) vw_doneUns.lv
 | flow op=>exact absurd rfl h0k
 | fin y clean =>
  have hc0:s.conn=0:=hf.1 y clean left rfl;have hl0:liveT x.client t=0:=by rw [live_at h0];exact hc0
  have hyc:y.client=s.client:=hw.2.2.1
  have hd:liveT x.client (doneFin c y clean (t.setS s.client ⟨s,none⟩))=0:=by
   have h4:liveT x.client (finS y clean (t.setS s.client ⟨s,none⟩))=0:=by
    unfold finS
    split
    ·unfold liveT
     have:({ (t.setS s.client ⟨s,none⟩) with seats:=(t.setS s.client ⟨s,none⟩).seats.filter fun z=>decide (z.s.client ≠ y.client) }:Tn).seat x.client=none:=by
      unfold Tn.seat;refine List.find?_eq_none.2 fun q hq => ?_
      have:=(List.mem_filter.1 hq).2;rw [hyc,hsc] at this
      simpa using this
     rw [this]
    ·rw [g1 x.client,hl0]
   unfold doneFin
   split
   ·exact ((VwS.of rfl).lv x.client).trans h4
   ·exact ((VwS.of rfl).lv x.client).trans h4
  show OneP x t (if left - 1=0 then doneFin c y clean (t.setS s.client ⟨s,none⟩) else t.setS s.client ⟨s,some (.fin y clean,left - 1)⟩)
  split
  ·exact OneP.of (hd.trans hl0.symm)
  ·exact OneP.of (g2 _ x.client)
theorem hear_one {c:HCfg} {x:Item} {t:Tn} (hok:HOk t) (hz:∀ z ∈ t.seats,FZ z):OneP x t (hearT c x t):=by
 unfold hearT
 split
 ·exact OneP.of rfl
 ·split
  ·rename_i hk
   exact asked_one hk
  ·split
   ·split
    ·rename_i s k left h0
     split
     ·rename_i hw
      exact answered_one h0 ((hok.seat _ (seat_at h0).1).w k left rfl) (hz _ (seat_at h0).1) hw.1 (by omega)
     ·exact OneP.of rfl
    ·exact OneP.of rfl
   ·split
    ·exact OneP.of (vw_deliver.lv x.client)
    ·split
     ·exact OneP.of (vw_counted.lv x.client)
     ·exact OneP.of rfl
theorem hear_still {c:HCfg} {x:Item} {t:Tn} (h:x.kind=11 \/ x.kind=12 \/ x.kind=10 \/ x.kind=1/\3<=x.pk.ty/\x.pk.ty<=7):VwS t (hearT c x t):=by
 unfold hearT
 split
 ·exact VwS.refl
 ·split
  ·unfold askedT
   split
   ·omega
   ·split
    ·exact VwS.refl
    ·rename_i z h0
     split
     ·exact VwS.refl
     ·split
      ·omega
      ·split
       ·omega
       ·split
        ·omega
        ·split
         ·exact vw_publish h0
         ·split
          ·omega
          ·exact vw_acks h0
  ·split
   ·omega
   ·split
    ·exact vw_deliver
    ·split
     ·exact vw_counted
     ·exact VwS.refl
end
section
open Go Go.RowKit Go.Maps
def withinB (n most:Int):Bool:=decide (1<=n) && decide (n<=most)
theorem within_any (n most:Int) (w:World):Calls Tryz.prog 39 #[.int .i64 n,.int .i64 most] w fun e w'=>e = .returned (.bool (withinB n most))/\w=w':=by
 unfold withinB
 by_cases h1:1<=n
 ·have g1:decide (1<=n)=true:=decide_eq_true h1
  rw [g1,Bool.true_and];clear g1
  by_cases h2:n<=most
  ·rw [decide_eq_true h2]
   go_enter Tryz.func39, Tryz.ntmps39
   go_wp2_with fail
   go_ret
   exact ⟨rfl,rfl⟩
  ·rw [decide_eq_false h2]
   go_enter Tryz.func39, Tryz.ntmps39
   go_wp2_with fail
   go_ret
   exact ⟨rfl,rfl⟩
 ·rw [decide_eq_false h1,Bool.false_and]
  go_enter Tryz.func39, Tryz.ntmps39
  go_wp2_with fail
  go_ret
  exact ⟨rfl,rfl⟩
theorem within_iff {n most:Int}:withinB n most=true ↔ 1<=n/\n<=most:=by unfold withinB;simp
set_option maxRecDepth 100000
set_option maxHeartbeats 2000000
theorem new_no (n mail packet most win worker:Int) (w:World) (hno:¬ ((1<=n/\n<=64)/\(1<=IntKind.i64.wrap (worker+1)/\IntKind.i64.wrap (worker+1)<=n)/\(1<=win/\win<=1024)/\(1<=most/\most<=1024))) :
  Calls Tryz.prog 9 #[.agg #[.int .i64 n,.int .i64 mail,.int .i64 packet,.int .i64 most,.int .i64 win],.int .i64 worker] w fun e w'=>e = .returned (.pointer none)/\Below w.heap.size w w':=by
 have hcs:withinB n 64=false \/ withinB n 64=true/\withinB (IntKind.i64.wrap (worker+1)) n=false \/ withinB n 64=true/\withinB (IntKind.i64.wrap (worker+1)) n=true/\withinB win 1024=false \/ withinB n 64=true/\withinB (IntKind.i64.wrap (worker+1)) n=true/\withinB win 1024=true/\withinB most 1024=false:=by
  by_cases a1:withinB n 64=true
  ·by_cases a2:withinB (IntKind.i64.wrap (worker+1)) n=true
   ·by_cases a3:withinB win 1024=true
    ·by_cases a4:withinB most 1024=true
     ·exact absurd ⟨within_iff.1 a1,within_iff.1 a2,within_iff.1 a3,within_iff.1 a4⟩ hno
     ·exact .inr (.inr (.inr ⟨a1,a2,a3,by simpa using a4⟩))
    ·exact .inr (.inr (.inl ⟨a1,a2,by simpa using a3⟩))
   ·exact .inr (.inl ⟨a1,by simpa using a2⟩)
  ·exact .inl (by simpa using a1)
 clear hno;obtain ⟨wk,hwk⟩:∃ wk,IntKind.i64.wrap (worker+1)=wk:=⟨_,rfl⟩;rw [hwk] at hcs;have hb:=low_alloc w (.cells #[.int .i64 n,.int .i64 mail,.int .i64 packet,.int .i64 most,.int .i64 win] 23);have HB:=hyd hb;clear hb
 rcases hcs with h1 | ⟨h1,h2⟩ | ⟨h1,h2,h3⟩ | ⟨h1,h2,h3,h4⟩
 all_goals
  go_enter Tryz.func9, Tryz.ntmps9
  go_wp2_with (first
   | (go_at_call 39;refine (within_any _ _ _).mono ?_;rintro e w' ⟨rfl,rfl⟩)
   | fail)
  go_ret
  exact ⟨rfl,HB.out⟩
theorem built_home (n mail packet most win me:Int) (ms mf:Nat):Tryz.prog.built 92 [(0,.agg #[.int .i64 n,.int .i64 mail,.int .i64 packet,.int .i64 most,.int .i64 win]),(1,.int .i64 me),(2,.map (some ms)),(3,.map (some mf))]=some #[.int .i64 n,.int .i64 mail,.int .i64 packet,.int .i64 most,.int .i64 win,.int .i64 me,.map (some ms),.map (some mf)]:=by kernel_rfl
theorem pmap_new (w:World):PMap (w.alloc (.map #[] 0)) w.heap.size 0 fun _=>none:=⟨.map [],World.ownsMap_made w Tryz.prog 9 ptrElem,Nat.le_refl _,fun x=>⟨rfl,fun b h=>by cases h⟩⟩
theorem imap_new (w:World):IMap (w.alloc (.map #[] 0)) w.heap.size 0 fun _=>none:=⟨.map [],World.ownsMap_made w Tryz.prog 3 ptrElem,Nat.le_refl _,fun x _=>⟨rfl,fun b h=>by cases h⟩⟩
def adN (hb lg ms mf:Nat):HAd:=⟨hb,lg,ms,mf,fun _=>0,fun _=>0⟩
def HomeNew (c:HCfg) (w':World) (hb ms mf:Nat):Prop:=Lies w' [cellPc hb (homeC c (adN hb 0 ms mf)) 92, mapPc ms 0 (fun _=>none),imapPc mf 0 (fun _=>none)]
theorem new_yes (c:HCfg) (w:World) (h1:1<=c.n) (h2:c.n<=64) (hme:c.me < c.n) (hw1:1<=c.win) (hw2:c.win<=1024) (hm1:1<=c.most) (hm2:c.most<=1024) :
  Calls Tryz.prog 9 #[.agg #[.int .i64 c.n,.int .i64 c.mail,.int .i64 c.packet,.int .i64 c.most,.int .i64 c.win],.int .i64 c.me] w fun e w' => ∃ hb ms mf,e = .returned (.pointer (some ⟨hb,0,none⟩))/\HomeNew c w' hb ms mf/\Below w.heap.size w w'/\w.heap.size<=hb/\w.heap.size<=ms/\w.heap.size<=mf:=by
 have hwk:IntKind.i64.wrap ((c.me:Int)+1)=(c.me:Int)+1:=w_i64 _ (by omega) (by omega);have g1:withinB c.n 64=true:=within_iff.2 ⟨by omega,by omega⟩;have g2:withinB ((c.me:Int)+1) c.n=true:=within_iff.2 ⟨by omega,by omega⟩;have g3:withinB c.win 1024=true:=within_iff.2 ⟨hw1,hw2⟩;have g4:withinB c.most 1024=true:=within_iff.2 ⟨hm1,hm2⟩;have HE:Hid (∀ ms mf hb,homeC c (adN hb 0 ms mf) = [.int .i64 c.n,.int .i64 c.mail,.int .i64 c.packet,.int .i64 c.most,.int .i64 c.win,.int .i64 c.me,.map (some ms),.map (some mf)]):=hyd fun _ _ _=>rfl
 have hmm:=@run_makeMap Tryz.prog;clear h1 h2 hme hw1 hw2 hm1 hm2;generalize (c.n:Int)=n at *;generalize (c.me:Int)=me at *;generalize c.mail=mail at *;generalize c.packet=packet at *;generalize c.most=most at *;generalize c.win=win at *;have hx0:=heap_alloc_new w (.cells #[.int .i64 n,.int .i64 mail,.int .i64 packet,.int .i64 most,.int .i64 win] 23);have hb0:=low_alloc w (.cells #[.int .i64 n,.int .i64 mail,.int .i64 packet,.int .i64 most,.int .i64 win] 23);have hs0:(w.alloc (.cells #[.int .i64 n,.int .i64 mail,.int .i64 packet,.int .i64 most,.int .i64 win] 23)).heap.size=w.heap.size+1:=by simp
 have HX0:=hyd hx0;have HB0:=hyd hb0;have HS0:=hyd hs0;have HCS:Hid ((Tryz.prog.info? 23).map (·.size)=some (#[Value.int .i64 n,.int .i64 mail,.int .i64 packet,.int .i64 most,.int .i64 win]:Array Value).toList.length):=hyd (by kernel_rfl);have HBH:=hyd (fun ms mf=>built_home n mail packet most win me ms mf);clear hx0 hb0 hs0
 go_enter Tryz.func9, Tryz.ntmps9
 go_upto_region 3 with (first
  | (go_at_call 39;refine (within_any _ _ _).mono ?_;rintro e w' ⟨rfl,rfl⟩)
  | fail)
 generalize w.alloc (.cells #[.int .i64 n,.int .i64 mail,.int .i64 packet,.int .i64 most,.int .i64 win] 23)=W at *
 go_wp2_with (first
  | (refine wpList_load_row rfl 23 _ rfl w.heap.size rfl 23 _ _ _ HX0.out Tryz.underlying23 rfl HCS.out ?_)
  | (refine wpList_buildBy rfl 92 _ rfl _ rfl #[.int .i64 n,.int .i64 mail,.int .i64 packet,.int .i64 most,.int .i64 win,.int .i64 me,.map (some W.heap.size),.map (some (W.heap.size+1))] [(0,.agg #[.int .i64 n,.int .i64 mail,.int .i64 packet,.int .i64 most,.int .i64 win]),(1,.int .i64 me),(2,.map (some W.heap.size)),(3,.map (some (W.heap.size+1)))] (by kernel_rfl) (HBH.out _ _) ?_)
  | fail)
 have hb1:=low_alloc W (.map #[] 0);have hp1:=pmap_new W;obtain ⟨W1,hW1⟩:∃ W1,W.alloc (.map #[] 0)=W1:=⟨_,rfl⟩;rw [hW1] at hb1 hp1;have hs1:W1.heap.size=W.heap.size+1:=by rw [<- hW1];simp
 have hb2:=low_alloc W1 (.map #[] 0);have hp2:=imap_new W1;obtain ⟨W2,hW2⟩:∃ W2,W1.alloc (.map #[] 0)=W2:=⟨_,rfl⟩;rw [hW2] at hb2 hp2;have hs2:W2.heap.size=W.heap.size+2:=by rw [<- hW2];simp [hs1]
 obtain ⟨HC,hHC⟩:∃ HC:Array Value,#[.int .i64 n,.int .i64 mail,.int .i64 packet,.int .i64 most,.int .i64 win,.int .i64 me,.map (some W.heap.size),.map (some (W.heap.size+1))]=HC:=⟨_,rfl⟩;have hb3:=low_alloc W2 (.cells HC 92);have hx3:=heap_alloc_new W2 (.cells HC 92)
 go_ret
 have hb12:Below W.heap.size W W2:=hb1.trans (hb2.mono (by omega));have hbW:Below W.heap.size W (W2.alloc (.cells HC 92)):=bnext hb12 (by omega) hb3;simp only [hW1,hW2,hHC];rw [hs2] at hx3;refine ⟨W.heap.size+2,W.heap.size,W.heap.size+1,rfl,?_,bnext HB0.out (Nat.le_refl _) hbW,by rw [HS0.out];omega,by rw [HS0.out];omega,by rw [HS0.out];omega⟩;have p1:(mapPc W.heap.size 0 (fun _=>none)).R (W2.alloc (.cells HC 92)):=(mapPc_ok _ _ _).mod ((mapPc_ok _ _ _).mod hp1 (Mod.of_below hb2 []) (by simp)) (Mod.of_below hb3 []) (by simp);have p2:(imapPc (W.heap.size+1) 0 (fun _=>none)).R (W2.alloc (.cells HC 92)):=(imapPc_ok _ _ _).mod (by rw [hs1] at hp2;exact hp2) (Mod.of_below hb3 []) (by simp)
 have p3:(cellPc (W.heap.size+2) (homeC c (adN (W.heap.size+2) 0 W.heap.size (W.heap.size+1))) 92).R (W2.alloc (.cells HC 92)):=by
  rw [HE.out W.heap.size (W.heap.size+1) (W.heap.size+2)];show _=some (Obj.cells _ _ _)
  rw [hx3,<- hHC]
 exact lies_app (A:=[_]) (lies_one (cellPc_ok _ _ _) p3) (lies_app (A:=[_]) (lies_one (mapPc_ok _ _ _) p1) (lies_one (imapPc_ok _ _ _) p2) (fun q hq hq'=>by
  have e1:q=W.heap.size:=by simpa [feet,mapPc] using hq
  have e2:q=W.heap.size+1:=by simpa [feet,imapPc] using hq'
  omega)) (fun q hq hq'=>by
  have e1:q=W.heap.size+2:=by simpa [feet,cellPc] using hq
  have e2:q=W.heap.size \/ q=W.heap.size+1:=by simpa [feet,imapPc,mapPc] using hq'
  omega)
end
section
open Go Go.RowKit Go.Maps
def xB:ByteArray:=⟨#[120]⟩
def cfg1:HCfg:=⟨1,4,1000,5,5,0⟩
def helloP (clean:Bool):Pkt:={ pkZ with ty:=1,level:=4,clean:=clean,client:=xB }
def helloI (op conn:Int) (clean:Bool):Item:={ itZ with kind:=1,op:=op,conn:=conn,client:=xB,pk:=helloP clean }
def asksI (op conn:Int) (p:Pkt):Item:={ itZ with kind:=1,op:=op,conn:=conn,client:=xB,pk:=p }
theorem built_helloP (clean:Bool):Tryz.prog.built 39 [(0,.int .u8 1),(7,.int .u8 4),(8,.bool clean),(10,.string ⟨#[120]⟩)]=some (helloP clean).cells.toArray:=by kernel_rfl
theorem built_helloI (op conn:Int) (p:Pkt):Tryz.prog.built 44 [(0,.int .u8 1),(1,.int .i64 op),(2,.int .i64 conn),(3,.string ⟨#[120]⟩),(5,.agg p.cells.toArray)]=some (asksI op conn p).cells.toArray:=by
 obtain ⟨p0,p1,p2,p3,p4,p5,p6,p7,p8,p9,p10,p11,⟨m0,m1,m2,m3⟩,p13,p14,p15,p16,p17,p18,p19,p20,p21,p22⟩:=p
 kernel_rfl
theorem item_oneB (x:Item):x.cells.toArray.all (·.oneCell')=true:=by simp [Item.cells,Pkt.cells,Msg.cells,Value.oneCell']
def cfgA1:Array Value:=#[.int .i64 1,.int .i64 4,.int .i64 1000,.int .i64 5,.int .i64 5]
set_option maxRecDepth 100000
theorem alone_any (w:World):Calls Tryz.prog 30 #[] w fun e w'=>e = .returned (.agg cfgA1)/\Below w.heap.size w w':=by
 have HBU:Hid (Tryz.prog.built 23 [(0,.int .i64 1),(1,.int .i64 4),(2,.int .i64 1000),(3,.int .i64 5),(4,.int .i64 5)]=some cfgA1):=hyd (by kernel_rfl);have HIS:Hid ((Tryz.prog.info? 23).map (·.size)=some cfgA1.size):=hyd (by kernel_rfl);have H5:Hid ((5:Nat)=cfgA1.size):=hyd rfl;have HON:Hid (cfgA1.all (·.oneCell')=true):=hyd (by kernel_rfl);generalize cfgA1=CA at *;have HBL:=hyd (low_alloc w (.cells CA 23));have HNB:=hyd (heap_alloc_new w (.cells CA 23))
 go_enter Tryz.func30, Tryz.ntmps30
 go_wp2_with (first
  | (refine wpList_buildBy rfl 23 _ rfl _ rfl CA [(0,.int .i64 1),(1,.int .i64 4),(2,.int .i64 1000),(3,.int .i64 5),(4,.int .i64 5)] (by kernel_rfl) HBU.out ?_)
  | (refine wpList_store_newTo rfl 23 _ _ rfl rfl w.heap.size rfl CA _ rfl rfl HIS.out H5.out HON.out ?_)
  | fail)
 (try simp only [Exit.inBlock,Exit.then])
 exact bodyPost_ret (results_cell_row rfl _ _ w.heap.size 23 CA (0,0) _ rfl HNB.out Tryz.underlying23 rfl HIS.out) rfl ⟨rfl,HBL.out⟩
theorem hello_any (op conn:Int) (clean:Bool) (w:World):Calls Tryz.prog 32 #[.int .i64 op,.int .i64 conn,.bool clean] w fun e w'=>e = .returned (.agg (helloI op conn clean).cells.toArray)/\Below w.heap.size w w':=by
 have HBP:=hyd (fun (_:Unit)=>built_helloP clean);have HBI:=hyd (fun (_:Unit)=>built_helloI op conn (helloP clean));have HE:Hid ((asksI op conn (helloP clean)).cells=(helloI op conn clean).cells):=hyd rfl;rw [HE.out] at HBI;have HIS:=hyd (item_size (helloI op conn clean));have HIZ:Hid ((Tryz.prog.info? 44).map (·.size)=some (helloI op conn clean).cells.toArray.size):=hyd (item_size _);have H38:Hid ((38:Nat)=(helloI op conn clean).cells.toArray.size):=hyd rfl;have HON:=hyd (item_oneB (helloI op conn clean));generalize (helloI op conn clean).cells.toArray=IL at *;generalize (helloP clean).cells.toArray=PL at *;have HBL:=hyd (low_alloc w (.cells IL 44));have HNB:=hyd (heap_alloc_new w (.cells IL 44))
 go_enter Tryz.func32, Tryz.ntmps32
 go_wp2_with (first
  | (refine wpList_buildBy rfl 39 _ rfl _ rfl PL [(0,.int .u8 1),(7,.int .u8 4),(8,.bool clean),(10,.string ⟨#[120]⟩)] (by kernel_rfl) (HBP.out ()) ?_)
  | (refine wpList_buildBy rfl 44 _ rfl _ rfl IL [(0,.int .u8 1),(1,.int .i64 op),(2,.int .i64 conn),(3,.string ⟨#[120]⟩),(5,.agg PL)] (by kernel_rfl) (HBI.out ()) ?_)
  | (refine wpList_store_newTo rfl 44 _ _ rfl rfl w.heap.size rfl IL _ rfl rfl HIZ.out H38.out HON.out ?_)
  | fail)
 (try simp only [Exit.inBlock,Exit.then])
 exact bodyPost_ret (results_cell_row rfl _ _ w.heap.size 44 IL (0,0) _ rfl HNB.out Tryz.underlying44 rfl HIZ.out) rfl ⟨rfl,HBL.out⟩
theorem asks_any (op conn:Int) (p:Pkt) (w:World):Calls Tryz.prog 33 #[.int .i64 op,.int .i64 conn,.agg p.cells.toArray] w fun e w'=>e = .returned (.agg (asksI op conn p).cells.toArray)/\Below w.heap.size w w':=by
 have HBI:=hyd (fun (_:Unit)=>built_helloI op conn p);have HPS:=hyd (pkt_size' p);have HIZ:Hid ((Tryz.prog.info? 44).map (·.size)=some (asksI op conn p).cells.toArray.size):=hyd (item_size _);have H38:Hid ((38:Nat)=(asksI op conn p).cells.toArray.size):=hyd rfl;have HON:=hyd (item_oneB (asksI op conn p));generalize (asksI op conn p).cells.toArray=IL at *;generalize p.cells=PL at *;have HX0:=hyd (heap_alloc_new w (.cells PL.toArray 39));have HB0:=hyd (low_alloc w (.cells PL.toArray 39))
 go_enter Tryz.func33, Tryz.ntmps33
 go_upto_region 1 with fail
 have hsz:w.heap.size+1=(w.alloc (.cells PL.toArray 39)).heap.size:=by simp
 have hlt:w.heap.size < (w.alloc (.cells PL.toArray 39)).heap.size:=by simp
 generalize w.alloc (.cells PL.toArray 39)=W at *;have HX1:Hid (∀ U,(W.alloc (.cells U 44)).heap[w.heap.size]? = some (.cells PL.toArray 39 (0,0))):=hyd (fun U=>((low_alloc W _).block _ hlt).trans HX0.out);have HBL:=hyd (bnext HB0.out (Nat.le_refl _) (low_alloc W (.cells IL 44)));have HNB:=hyd (heap_alloc_new W (.cells IL 44));have HSZ:=hyd hsz;rw [<- hsz] at HNB;clear hsz hlt
 go_wp2_with (first
  | (refine wpList_load_row rfl 39 _ rfl w.heap.size rfl 39 PL.toArray _ _ (HX1.out _) Tryz.underlying39 rfl HPS.out ?_)
  | (refine wpList_buildBy rfl 44 _ rfl _ rfl IL [(0,.int .u8 1),(1,.int .i64 op),(2,.int .i64 conn),(3,.string ⟨#[120]⟩),(5,.agg PL.toArray)] (by kernel_rfl) (HBI.out ()) ?_)
  | (refine wpList_store_newTo rfl 44 _ _ rfl rfl (w.heap.size+1) HSZ.out IL _ rfl rfl HIZ.out H38.out HON.out ?_)
  | fail)
 (try simp only [Exit.inBlock,Exit.then])
 exact bodyPost_ret (results_cell_row rfl _ _ (w.heap.size+1) 44 IL (0,0) _ rfl HNB.out Tryz.underlying44 rfl HIZ.out) rfl ⟨rfl,HBL.out⟩
end
end Go.Proofs.YtcekcoepdhnfgaaGreatDoor
