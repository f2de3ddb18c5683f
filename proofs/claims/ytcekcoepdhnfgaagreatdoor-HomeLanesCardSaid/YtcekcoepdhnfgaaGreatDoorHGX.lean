/- subscribe, granted, Try. -/
import Derived.Test.YtcekcoepdhnfgaaGreatDoorHEX
namespace Go.Proofs.YtcekcoepdhnfgaaGreatDoor
section
open Go Go.RowKit Go.Maps
set_option maxRecDepth 100000
set_option maxHeartbeats 4000000
theorem sindex_any (a:Option Addr) (c:Nat) (l:List Str) (f:Str) (w:World) (ha:Row w a (namesV l)) (hn:l.length<=100000) :
  Calls Tryz.prog 265 #[.slice a l.length c,.string ⟨f.toArray⟩] w fun e w'=>w=w' /\ ∃ i:Int,e = .returned (.int .i64 i)/\(decide (0<=i)=decide (f ∈ l)):=by
 have HA:=hyd ha;clear ha
 go_enter Tryz.func265, Tryz.ntmps265
 go_wp2_with fail
 go_loopw [5,8] (fun _ i wr => ∃ k:Nat,i = .int .i64 k/\k<=l.length/\w=wr /\ ∀ y ∈ l.take k,f ≠ y) (fun _ i _=>(l.length - intOf i).toNat)
 case atStart=>exact ⟨0,rfl,by omega,rfl,by simp⟩
 case round =>
  obtain ⟨k,rfl,hk,rfl,hno⟩:=hrel;have HNO:=hyd hno;clear hno
  by_cases hlt:k < l.length
  ·have hk0:(0:Int)<=k:=by omega
   have hkl:(k:Int) < l.length:=by omega
   obtain ⟨rb,off,rfl,c0⟩:=namesV_at HA.out hlt;have HIN:Hid (f=l[k]->f ∈ l):=hyd (fun e=>by rw [e];exact List.getElem_mem hlt)
   have HSN:Hid (f ≠ l[k] -> ∀ y ∈ l.take (k+1),f ≠ y):=hyd (fun e y hy=>by
    rw [List.take_succ_eq_append_getElem hlt] at hy
    rcases List.mem_append.1 hy with hy | hy
    ·exact HNO.out y hy
    ·rw [List.mem_singleton.1 hy];exact e)
   have hw1:IntKind.i64.wrap ((k:Int)+1)=(k:Int)+1:=w_i64 _ (by omega) (by omega);generalize l[k]=y at *
   by_cases he:f=y
   ·have HI:=hyd (HIN.out he)
    have hq:(f == y)=true:=by simpa using he
    clear HIN HSN he
    go_wp2_with fail
    go_ret
    exact ⟨rfl,k,rfl,by simp [HI.out]⟩
   ·have HS:=hyd (HSN.out he)
    have hq:(f == y)=false:=by simpa using he
    clear HIN HSN he
    go_wp2_with fail
    go_roundw
    case rel=>exact ⟨k+1,by go_num,by omega,by trivial,HS.out⟩
    case measure=>simp [intOf];omega
  ·have hkl:¬ (k:Int) < l.length:=by omega
   obtain rfl:k=l.length:=by omega
   have hni:¬ f ∈ l:=fun hi=>HNO.out f (by rw [List.take_length];exact hi) rfl
   have HNI:=hyd hni;clear hni
   go_wp2_with fail
   go_ret
   exact ⟨rfl,-1,rfl,by simp [HNI.out]⟩
theorem scontains_any (a:Option Addr) (c:Nat) (l:List Str) (f:Str) (w:World) (ha:Row w a (namesV l)) (hn:l.length<=100000) :
  Calls Tryz.prog 198 #[.slice a l.length c,.string ⟨f.toArray⟩] w fun e w'=>w=w'/\e = .returned (.bool (decide (f ∈ l))):=by
 have HI:=hyd (sindex_any a c l f w ha hn);clear ha hn
 go_enter Tryz.func198, Tryz.ntmps198
 go_wp2_with fail
 refine HI.out.mono ?_;rintro e w' ⟨rfl,i,rfl,hi⟩
 go_wp2_with fail
 go_ret
 refine ⟨rfl,?_⟩;rw [<- hi]
 rfl
theorem grant_snoc (x:SubE) (k:UInt8):∀ (xs:List SubE) (ks:Str) (out:List Str),ks.length=xs.length->grantGo (xs ++ [x]) (ks ++ [k]) out=if k ≠ 128 /\ ¬ x.1 ∈ grantGo xs ks out then grantGo xs ks out ++ [x.1] else grantGo xs ks out
 | [],[],out,_=>rfl
 | y :: r,j :: js,out,h=>by
  rw [List.cons_append,List.cons_append];unfold grantGo;exact grant_snoc x k r js _ (by simpa using h)
 | [],_ :: _,_,h=>by simp at h
 | _ :: _,[],_,h=>by simp at h
theorem granted_any (p:Pkt) (xs:List SubE) (codes:Str) (w:World) (hxs:p.subs=xs) (hl:codes.length=xs.length) (hr:Row w p.subsA (subsV xs)) (hn:xs.length<=100) :
  Calls Tryz.prog 114 #[.agg p.cells.toArray,.string ⟨codes.toArray⟩] w fun e w' => ∃ v,e = .returned v/\w'.ownsRow w.heap.size 9 1 v (granted xs codes).length (namesV (granted xs codes))/\Below w.heap.size w w':=by
 obtain ⟨GR,hGR⟩:∃ GR:Nat->List Str,∀ k,grantGo (xs.take k) (codes.take k) []=GR k:=⟨_,fun _=>rfl⟩;have HG0:Hid (GR 0 = []):=hyd (by rw [<- hGR];rfl)
 have HGS:=hyd (fun k (hk:k < xs.length) (hk':k < codes.length)=>show GR (k+1)=if codes[k] ≠ 128 /\ ¬ xs[k].1 ∈ GR k then GR k ++ [xs[k].1] else GR k by
  rw [<- hGR,<- hGR,List.take_succ_eq_append_getElem hk,List.take_succ_eq_append_getElem hk',grant_snoc _ _ _ _ _ (by simp;omega)])
 have HGN:Hid (∀ k,(GR k).length<=k):=hyd (fun k=>by
  have:=grant_len (xs.take k) (codes.take k) [];rw [hGR] at this;simp at this
  omega)
 have HGE:Hid (GR xs.length=granted xs codes):=hyd (by rw [<- hGR,List.take_length,<- hl,List.take_length];rfl);obtain ⟨W,hW⟩:∃ W,w.alloc (.cells p.cells.toArray 39)=W:=⟨_,rfl⟩;have hb1:Below w.heap.size w W:=by rw [<- hW];exact low_alloc _ _
 have hx1:W.heap[w.heap.size]? = some (.cells p.cells.toArray 39 (0,0)):=by rw [<- hW];exact heap_alloc_new w _
 have q22:W.cell? ⟨w.heap.size,22,none⟩=some (.slice p.subsA xs.length p.subsC):=by rw [cell_of_row _ _ 22 _ _ _ hx1,<- hxs];rfl
 have HR:Hid (∀ X,Below w.heap.size w X->Row X p.subsA (subsV xs)):=hyd (fun X hX=>hr.below hX (Nat.le_refl _));have HB1:=hyd hb1;have HW:=hyd hW;clear hGR hW hb1 hx1 hr hxs;generalize p.cells=PL at *;generalize p.subsA=sa at *
 go_enter Tryz.func114, Tryz.ntmps114
 go_upto_region 1 with fail
 rw [HW.out]
 go_wp2_with fail
 go_loopw [5,6,7,11] (fun g0 _ _ i wr => ∃ (k:Nat) (g:Value),g=g0/\i = .int .i64 k/\k<=xs.length/\wr.ownsRow w.heap.size 9 1 g (GR k).length (namesV (GR k))/\Below w.heap.size w wr) (fun _ _ _ i _=>(xs.length - intOf i).toNat)
 case atStart=>exact ⟨0,_,rfl,rfl,Nat.zero_le _,by rw [HG0.out];exact World.ownsRow_nil _ _ _ _,HB1.out⟩
 case round =>
  obtain ⟨k,g,rfl,rfl,hk,hown,hbr⟩:=hrel;have HOW:=hyd hown;have HBR:=hyd hbr;clear hown hbr
  by_cases hlt:k < xs.length
  ·have hk0:(0:Int)<=k:=by omega
   have hkl:(k:Int) < xs.length:=by omega
   have hkc:k < codes.length:=by omega
   obtain ⟨rb,off,rfl,c0,c1⟩:=subs_row (HR.out wr HBR.out) hlt;have HGK:=hyd (HGS.out k hlt hkc);generalize xs[k]=y at *;obtain ⟨yn,yq⟩:=y;dsimp only at *;have hw1:IntKind.i64.wrap ((k:Int)+1)=(k:Int)+1:=w_i64 _ (by omega) (by omega);have hkb:k < (⟨codes.toArray⟩:ByteArray).size:=by show k < codes.toArray.size;simpa using hkc
   have hbe:(⟨codes.toArray⟩:ByteArray)[k]'hkb=codes[k]:=by show codes.toArray[k]=codes[k];simp
   by_cases h128:codes[k]=128
   ·have hq:((((⟨codes.toArray⟩:ByteArray)[k]'hkb).toNat:Int) != 128)=false:=by rw [hbe,h128];rfl
    have HG1:Hid (GR (k+1)=GR k):=hyd (by rw [HGK.out,if_neg (fun h=>h.1 h128)]);have HO2:=hyd (HOW.out.alloc (.cells #[Value.string ⟨yn.toArray⟩,.int .u8 yq] 76));have HB2:=hyd (HBR.out.alloc HBR.out.size (.cells #[Value.string ⟨yn.toArray⟩,.int .u8 yq] 76));clear h128 hbe
    go_wp2_with fail
    go_roundw
    case rel=>exact ⟨k+1,_,rfl,by go_num,by omega,by rw [HG1.out];exact HO2.out,HB2.out⟩
    case measure=>simp [intOf];omega
   ·have hq:((((⟨codes.toArray⟩:ByteArray)[k]'hkb).toNat:Int) != 128)=true:=by
     rw [hbe];have:codes[k].toNat ≠ 128:=fun e=>h128 (UInt8.toNat_inj.1 e)
     simp;omega
    have H128:=hyd h128;clear hbe h128;have HO2:=hyd (HOW.out.alloc (.cells #[Value.string ⟨yn.toArray⟩,.int .u8 yq] 76));have HB2:=hyd (HBR.out.alloc HBR.out.size (.cells #[Value.string ⟨yn.toArray⟩,.int .u8 yq] 76));have HXB:Hid ((wr.alloc (.cells #[Value.string ⟨yn.toArray⟩,.int .u8 yq] 76)).cell? ⟨wr.heap.size,0,none⟩=some (.string ⟨yn.toArray⟩)):=hyd (cell_of_row _ _ 0 _ _ _ (heap_alloc_new wr _))
    go_upto_region 5 with fail
    clear c0 c1;generalize wr.alloc (.cells #[Value.string ⟨yn.toArray⟩,.int .u8 yq] 76)=w2 at *;generalize wr.heap.size=bx at *;have p0:=HXB.out;obtain ⟨ga,gc,rfl,hgr,-,-⟩:=ownsRow_row HO2.out;have HGR':=hyd hgr;clear hgr
    go_wp2_with fail
    refine (scontains_any ga gc (GR k) yn w2 HGR'.out (by have:=HGN.out k;omega)).mono ?_;rintro e w3 ⟨rfl,rfl⟩
    by_cases hin:yn ∈ GR k
    ·have HG1:Hid (GR (k+1)=GR k):=hyd (by rw [HGK.out,if_neg (fun h=>h.2 hin)])
     have hdi:decide (yn ∈ GR k)=true:=decide_eq_true hin;rw [hdi];clear hin hdi
     go_wp2_with fail
     go_roundw
     case rel=>exact ⟨k+1,_,rfl,by go_num,by omega,by rw [HG1.out];exact HO2.out,HB2.out⟩
     case measure=>simp [intOf];omega
    ·have HG1:Hid (GR (k+1)=GR k ++ [yn]):=hyd (by rw [HGK.out,if_pos ⟨H128.out,hin⟩])
     have hdi:decide (yn ∈ GR k)=false:=decide_eq_false hin;rw [hdi];clear hin hdi;have HOA:=hyd (HO2.out.alloc (.cells #[Value.string ⟨yn.toArray⟩] 9));have HRA:=hyd (row_new w2 [Value.string ⟨yn.toArray⟩] 9);have HBA:=hyd (HB2.out.alloc HB2.out.size (.cells #[Value.string ⟨yn.toArray⟩] 9));have HN1:Hid ((GR k).length<=100):=hyd (by have:=HGN.out k;omega)
     go_wp2_with (first
      | (at_builtin;refine wpList_appR (m:=1) T_strS HOA.out HRA.out rfl rfl rfl rfl _ rfl (by rfl) (by omega) (by simp [Value.oneCell']) (by have:=HN1.out;omega) (by have:=HN1.out;omega) HBA.out.size ?_;intro g8 cap8 w8 hown8 hgr8 hob8 hlt8;have HOW8:=hyd hown8;have HGR8:=hyd hgr8;clear hown8 hgr8 hob8 hlt8;go_frame)
      | fail)
     go_roundw
     case rel=>exact ⟨k+1,_,rfl,by go_num,by omega,by rw [HG1.out,List.length_append,List.length_singleton,<- namesV_app];exact HOW8.out,HBA.out.grown HGR8.out HBA.out.size (fun q hq=>(HOA.out.lt q hq).1)⟩
     case measure=>simp [intOf];omega
  ·have hkl:¬ (k:Int) < xs.length:=by omega
   obtain rfl:k=xs.length:=by omega
   go_wp2_with fail
   go_ret
   exact ⟨_,rfl,by rw [<- HGE.out];exact HOW.out,HBR.out⟩
end
section
open Go Go.RowKit Go.Maps
theorem T_u8H:ElemT Tryz.prog 80 5 (.int .u8 0) 1 1:=⟨Tryz.underlying80, by kernel_rfl,rfl,by decide⟩
theorem str_ownH {w:World} {B:Nat} {v:Value} {n:Nat} {l:List UInt8} (hown:w.ownsRow B 5 1 v n (u8s l)):(convert 80 9 v).run Tryz.prog w = .ok (.string ⟨l.toArray⟩) w:=
 run_string_own Tryz.underlying80 Tryz.underlying5 Tryz.underlying9 hown
theorem codes_snoc (y:SubE):∀ (xs l:List SubE) (o:Str),codesGo (xs ++ [y]) l o=codesGo xs l o ++ [UInt8.ofNat (setC y.1 y.2 (xs.foldl (fun l y=>setE y.1 y.2 l) l)).toNat]
 | [],l,o=>rfl
 | x :: r,l,o=>by
  rw [List.cons_append];unfold codesGo;rw [codes_snoc y r,List.foldl_cons]
theorem setC_u8 {f:Str} {q:Int} {l:List SubE} (hq:u8R q):0<=setC f q l/\setC f q l<=255:=by
 unfold setC;obtain ⟨h1,h2⟩:=hq
 split
 ·exact ⟨h1,h2⟩
 ·exact ⟨by decide,by decide⟩
theorem u8_back {n:Int} (h:0<=n/\n<=255):((UInt8.ofNat n.toNat).toNat:Int)=n:=by
 have:(UInt8.ofNat n.toNat).toNat=n.toNat:=by
  rw [UInt8.toNat_ofNat'];exact Nat.mod_eq_of_lt (by omega)
 rw [this];omega
set_option maxRecDepth 100000
set_option maxHeartbeats 4000000
theorem try2_any (lk bx:Nat) (l:List SubE) (F:List Nat) (f:Str) (q:Int) (w:World) (h:SRep w lk l F) (hbx:w.cell? ⟨bx,0,none⟩=some (.pointer (some ⟨lk,0,none⟩))) (hT:Tabs w) (hf:f.length<=1000) (hq:u8R q) :
  Calls Tryz.prog 197 #[.agg #[.string ⟨f.toArray⟩,.int .u8 q],.pointer (some ⟨bx,0,none⟩)] w fun e w'=>e = .returned (.int .u8 (setC f q l)) /\ ∃ F',SRep w' lk (setE f q l) F'/\Upd F F' w w':=by
 have hb:=low_alloc w (.cells #[Value.string ⟨f.toArray⟩,.int .u8 q] 76);have hx:=heap_alloc_new w (.cells [Value.string ⟨f.toArray⟩,.int .u8 q].toArray 76);obtain ⟨W,hW⟩:∃ W,w.alloc (.cells #[Value.string ⟨f.toArray⟩,.int .u8 q] 76)=W:=⟨_,rfl⟩;have hx':W.heap[w.heap.size]? = some (.cells [Value.string ⟨f.toArray⟩,.int .u8 q].toArray 76 (0,0)):=by rw [<- hW];exact hx
 rw [hW] at hb;have HS:=hyd (sset_any lk l F f q W (h.below hb) (hT.below hb) (by omega) hq.1 (by have:=hq.2;omega));have c0:=cell_of_row _ _ 0 _ _ _ hx';have c1:=cell_of_row _ _ 1 _ _ _ hx';have cb:=(hb.cell (p:=⟨bx,0,none⟩) (World.block_lt_of_cell? w _ hbx)).trans hbx;have HW:=hyd hW;have HB:=hyd hb;clear h hT hf hq hb hx hx' hW hbx
 go_enter Tryz.func197, Tryz.ntmps197
 go_upto_region 1 with fail
 rw [HW.out]
 go_wp2_with fail
 refine HS.out.mono ?_;rintro e w2 ⟨rfl,F2,hr,hu⟩;have HQ:Hid (∃ F',SRep w2 lk (setE f q l) F'/\Upd F F' w w2):=hyd ⟨F2,hr,Upd.pre HB.out hu⟩;clear hr hu
 go_wp2_with fail
 go_ret
 exact ⟨rfl,HQ.out⟩
theorem stry_any (lb:Nat) (l:List SubE) (FL:List Nat) (a:Option Addr) (cp:Nat) (xs:List SubE) (w:World) (h:SRep w lb l FL) (hT:Tabs w) (hr:Row w a (subsV xs)) (hn:xs.length<=100) (hx:∀ y ∈ xs,y.1.length<=1000/\u8R y.2) :
  Calls Tryz.prog 113 #[.pointer (some ⟨lb,0,none⟩),.slice a xs.length cp] w fun e w'=>e = .returned (.string ⟨(codesGo xs l []).toArray⟩)/\Below w.heap.size w w':=by
 obtain ⟨CK,hCK⟩:∃ CK:Nat->Str,∀ k,codesGo (xs.take k) l []=CK k:=⟨_,fun _=>rfl⟩;obtain ⟨LK,hLK⟩:∃ LK:Nat->List SubE,∀ k,(xs.take k).foldl (fun l y=>setE y.1 y.2 l) l=LK k:=⟨_,fun _=>rfl⟩;have HC0:Hid (CK 0 = []):=hyd (by rw [<- hCK];rfl);have HL0:Hid (LK 0=l):=hyd (by rw [<- hLK];rfl)
 have HCS:=hyd (fun k (hk:k < xs.length)=>show CK (k+1)=CK k ++ [UInt8.ofNat (setC xs[k].1 xs[k].2 (LK k)).toNat]/\LK (k+1)=setE xs[k].1 xs[k].2 (LK k) from by
  rw [<- hCK,<- hCK,<- hLK,<- hLK,List.take_succ_eq_append_getElem hk,codes_snoc,List.foldl_append]
  exact ⟨rfl,rfl⟩)
 have HCL:Hid (∀ k,k<=xs.length->(CK k).length=k):=hyd (fun k hk=>by rw [<- hCK,codes_len];simp;omega);have HCE:Hid (CK xs.length=codesGo xs l []):=hyd (by rw [<- hCK,List.take_length]);have HSB:=hyd (subs_any lb l FL w h);have hup:=h.up;have hle:=h.len;have HR:Hid (∀ X,Below w.heap.size w X->Row X a (subsV xs)):=hyd (fun X hX=>hr.below hX (Nat.le_refl _));have HT:Hid (∀ X,Below w.heap.size w X->Tabs X):=hyd (fun X hX=>hT.below hX);have HX:Hid (∀ k (hk:k < xs.length),xs[k].1.length<=1000/\u8R xs[k].2):=hyd (fun k hk=>hx _ (List.getElem_mem hk));have HUP:=hyd hup;have HLE:=hyd hle;clear hCK hLK h hT hr hx hup hle
 go_enter Tryz.func113, Tryz.ntmps113
 go_wp2_with fail
 refine HSB.out.mono ?_;rintro e w1 ⟨sv,rfl,hso,hb1⟩;obtain ⟨sa,sc,hsv,h1,h2,h3⟩:=SRow.of_owns hso;have hlt:=fun j hj=>(hso.lt j hj)
 subst hsv
 go_upto_region 5 with fail
 have hb2:Below w1.heap.size w1 ((w1.alloc (.cells #[Value.slice sa l.length sc] 164)).alloc (.cells #[Value.pointer (some ⟨w1.heap.size,0,none⟩)] 112)):=(low_alloc w1 _).alloc (by simp) _;have hxk:((w1.alloc (.cells #[Value.slice sa l.length sc] 164)).alloc (.cells #[Value.pointer (some ⟨w1.heap.size,0,none⟩)] 112)).heap[w1.heap.size]? = some (.cells #[Value.slice sa l.length sc] 164 (0,0)):=(Below.heap_alloc (w1.alloc (.cells #[Value.slice sa l.length sc] 164)) _ _ (by simp)).trans (heap_alloc_new w1 _)
 have hxp:((w1.alloc (.cells #[Value.slice sa l.length sc] 164)).alloc (.cells #[Value.pointer (some ⟨w1.heap.size,0,none⟩)] 112)).heap[w1.heap.size+1]? = some (.cells [bxV w1.heap.size].toArray 112 (0,0)):=by
  have h9:=heap_alloc_new (w1.alloc (.cells #[Value.slice sa l.length sc] 164)) (.cells #[Value.pointer (some ⟨w1.heap.size,0,none⟩)] 112);rw [show (w1.alloc (.cells #[Value.slice sa l.length sc] 164)).heap.size=w1.heap.size+1 by simp] at h9;exact h9
 obtain ⟨w2,hw2⟩:∃ w2,(w1.alloc (.cells #[Value.slice sa l.length sc] 164)).alloc (.cells #[Value.pointer (some ⟨w1.heap.size,0,none⟩)] 112)=w2:=⟨_,rfl⟩;rw [hw2] at hb2 hxk hxp ⊢;clear hw2;have HSR:Hid (SRep w2 w1.heap.size l (w1.heap.size :: (Value.slice sa l.length sc).ownBlock.toList)):=hyd ⟨sa,sc,_,hxk,h3.keep (fun q hq=>hb2.block q (hlt q (Option.mem_toList.1 hq)).2),h1,h2,fun hq=>by have:=(hlt _ (Option.mem_toList.1 hq)).2;omega,HUP.out,HLE.out,rfl⟩
 have HF2:Hid (∀ q ∈ w1.heap.size :: (Value.slice sa l.length sc).ownBlock.toList,w.heap.size<=q/\q ≠ w1.heap.size+1):=hyd (fun q hq=>by
  have h6:=hb1.size
  rcases List.mem_cons.1 hq with e | hq
  ·rw [e];exact ⟨h6,by omega⟩
  ·have h7:=hlt q (Option.mem_toList.1 hq)
   exact ⟨h7.1,by omega⟩)
 have HB2:Hid (Below w.heap.size w w2):=hyd (bnext hb1 (Nat.le_refl _) hb2);have HXP:=hyd hxp;have HZ:Hid (w.heap.size<=w1.heap.size):=hyd hb1.size;clear hb2 hxk hxp hso hb1 h1 h2 h3 hlt HSB HUP HLE;generalize w1.heap.size :: (Value.slice sa l.length sc).ownBlock.toList=F2 at *;generalize w1.heap.size=lk at *
 go_wp2_with fail
 go_loopw [7,9,19] (fun g0 _ i wr => ∃ (k:Nat) (g:Value) (F':List Nat),g=g0/\i = .int .i64 k/\k<=xs.length/\wr.ownsRow w.heap.size 5 1 g k (u8s (CK k))/\SRep wr lk (LK k) F'/\(∀ q ∈ F',w.heap.size<=q/\q ≠ lk+1)/\Off F' g.ownBlock.toList/\wr.heap[lk+1]? = some (.cells [bxV lk].toArray 112 (0,0))/\g.ownBlock ≠ some (lk+1)/\Below w.heap.size w wr) (fun _ _ i _=>(xs.length - intOf i).toNat)
 case atStart=>exact ⟨0,_,F2,rfl,rfl,Nat.zero_le _,by rw [HC0.out];exact World.ownsRow_nil _ _ _ _,by rw [HL0.out];exact HSR.out,HF2.out,fun q _=>by simp [Value.ownBlock],HXP.out,by simp [Value.ownBlock],HB2.out⟩
 case round =>
  obtain ⟨k,g,F1,rfl,rfl,hk,hown,hsr,hf1,hoff,hxp,hgb,hbr⟩:=hrel;have HOW:=hyd hown;have HS1:=hyd hsr;have HF1:=hyd hf1;have HOF:=hyd hoff;have HXP1:=hyd hxp;have HGB:=hyd hgb;have HBR:=hyd hbr;clear hown hsr hf1 hoff hxp hgb hbr HSR HF2 HXP HB2
  by_cases hlt:k < xs.length
  ·have hk0:(0:Int)<=k:=by omega
   have hkl:(k:Int) < xs.length:=by omega
   obtain ⟨rb,off,rfl,c0,c1⟩:=subs_row (HR.out wr HBR.out) hlt;have HCK:=hyd (HCS.out k hlt);have HXK:=hyd (HX.out k hlt);generalize xs[k]=y at *;obtain ⟨yn,yq⟩:=y;dsimp only at *;have hw1:IntKind.i64.wrap ((k:Int)+1)=(k:Int)+1:=w_i64 _ (by omega) (by omega);have hbx:=low_alloc wr (.cells #[Value.string ⟨yn.toArray⟩,.int .u8 yq] 76);have hxb:(wr.alloc (.cells #[Value.string ⟨yn.toArray⟩,.int .u8 yq] 76)).heap[wr.heap.size]? = some (.cells [Value.string ⟨yn.toArray⟩,.int .u8 yq].toArray 76 (0,0)):=heap_alloc_new wr _;have HB3:=hyd (bnext HBR.out (Nat.le_refl _) hbx);have HO3:=hyd (HOW.out.alloc (.cells #[Value.string ⟨yn.toArray⟩,.int .u8 yq] 76));have HXP3:=hyd ((hbx.block _ (Array.getElem?_eq_some_iff.1 HXP1.out).1).trans HXP1.out);have HTR:=hyd (try2_any lk (lk+1) (LK k) F1 yn yq (wr.alloc (.cells #[Value.string ⟨yn.toArray⟩,.int .u8 yq] 76)) (HS1.out.below hbx) (cell_of_row _ _ 0 _ _ _ HXP3.out) (HT.out _ HB3.out) HXK.out.1 HXK.out.2);have HXB:=hyd hxb;clear hbx hxb
   go_upto_region 9 with fail
   clear c0 c1;generalize wr.alloc (.cells #[Value.string ⟨yn.toArray⟩,.int .u8 yq] 76)=w3 at *;have p0:=cell_of_row _ _ 0 _ _ _ HXB.out;have p1:=cell_of_row _ _ 1 _ _ _ HXB.out
   go_wp2_with fail
   refine HTR.out.mono ?_;rintro e w4 ⟨rfl,F4,hr4,hu4⟩;have HS4:=hyd hr4;have HF4:Hid (∀ q ∈ F4,w.heap.size<=q/\q ≠ lk+1):=hyd (fun q hq=>(hu4.2 q hq).elim (HF1.out q) (fun h=>⟨Nat.le_trans HB3.out.size h,by have:=(Array.getElem?_eq_some_iff.1 HXP3.out).1;omega⟩));have HO4:=hyd (own_upd HO3.out hu4 HOF.out);have HOF4:Hid (Off F4 g.ownBlock.toList):=hyd (fun q hq hq'=>(hu4.2 q hq).elim (fun h=>HOF.out q h hq') (fun h=>by have:=(HO3.out.lt q (Option.mem_toList.1 hq')).2;omega));have HXP4:=hyd ((hu4.1.block _ (Array.getElem?_eq_some_iff.1 HXP3.out).1 (fun hq=>(HF1.out _ hq).2 rfl)).trans HXP3.out);have HB4:Hid (Below w.heap.size w w4):=hyd (HB3.out.trans (hu4.1.below HB3.out.size (fun q hq=>(HF1.out q hq).1)));clear hr4 hu4 p0 p1 HTR HXB HO3 HXP3 HB3 HOF
   have HSV:Hid (u8s (CK k) ++ [.int .u8 (setC yn yq (LK k))]=u8s (CK (k+1))):=hyd (by
    rw [HCK.out.1,<- u8s_append]
    congr 1
    unfold u8s
    rw [List.map_cons,List.map_nil,u8_back (setC_u8 HXK.out.2)])
   generalize setC yn yq (LK k)=sv at *;have HOA:=hyd (HO4.out.alloc (.cells #[Value.int .u8 sv] 5));have HRA:=hyd (row_new w4 [Value.int .u8 sv] 5);have HBA:=hyd (HB4.out.alloc HB4.out.size (.cells #[Value.int .u8 sv] 5));have HLA:=hyd (low_alloc w4 (.cells #[Value.int .u8 sv] 5))
   go_wp2_with (first
    | (at_builtin;refine wpList_appR (m:=1) T_u8H HOA.out HRA.out rfl rfl rfl rfl _ rfl (by rfl) (by omega) (by simp [Value.oneCell']) (by omega) (by omega) HBA.out.size ?_;intro g8 cap8 w8 hown8 hgr8 hob8 hlt8;have HOW8:=hyd hown8;have HGR8:=hyd hgr8;have HOB8:=hyd hob8;clear hown8 hgr8 hob8 hlt8;go_frame)
    | fail)
   go_roundw
   case rel =>
    have hm8:Mod g.ownBlock.toList (w4.alloc (.cells #[Value.int .u8 sv] 5)) w8:=(Mod.refl _ _).grown HGR8.out (fun q hq => .inl (Option.mem_toList.2 hq))
    have hg8:∀ q,q ∈ (Value.slice (some ⟨g8,0,none⟩) (k+1) cap8).ownBlock.toList->q ∈ g.ownBlock.toList \/ (w4.alloc (.cells #[Value.int .u8 sv] 5)).heap.size<=q:=fun q hq=>by
     have:q=g8:=List.mem_singleton.1 (show q ∈ [g8] from hq);rw [this];exact HOB8.out.imp (fun e=>Option.mem_toList.2 e) id
    refine ⟨k+1,_,F4,rfl,by go_num,by omega,by rw [<- HSV.out];exact HOW8.out,by rw [HCK.out.2];exact (HS4.out.below HLA.out).mod hm8 (fun q hq hq'=>HOF4.out q hq hq'),HF4.out,fun q hq hq' => ?_,?_,fun e => ?_,HBA.out.grown HGR8.out HBA.out.size (fun q hq=>(HOA.out.lt q hq).1)⟩
    ·rcases hg8 q hq' with h5 | h5
     ·exact HOF4.out q hq h5
     ·have:=HS4.out.lt q hq;have:=HLA.out.size;omega
    ·refine (hm8.block _ ?_ (fun h5=>HGB.out (Option.mem_toList.1 h5))).trans ((HLA.out.block _ (Array.getElem?_eq_some_iff.1 HXP4.out).1).trans HXP4.out)
     exact Nat.lt_of_lt_of_le (Array.getElem?_eq_some_iff.1 HXP4.out).1 HLA.out.size
    ·have e8:lk+1 ∈ (Value.slice (some ⟨g8,0,none⟩) (k+1) cap8).ownBlock.toList:=Option.mem_toList.2 e
     rcases hg8 _ e8 with h5 | h5
     ·exact HGB.out (Option.mem_toList.1 h5)
     ·have:=(Array.getElem?_eq_some_iff.1 HXP4.out).1;have:=HLA.out.size;omega
   case measure=>simp [intOf];omega
  ·have hkl:¬ (k:Int) < xs.length:=by omega
   obtain rfl:k=xs.length:=by omega
   have hcv:=str_ownH HOW.out
   go_wp2_with fail
   go_ret
   exact ⟨by rw [<- HCE.out];rfl,HBR.out⟩
end
section
open Go Go.RowKit Go.Maps
theorem built_waitS (op:Int) (p:Pkt) (kb:Nat):Tryz.prog.built 110 [(0,.int .i64 op),(3,.int .u8 8),(2,.agg p.cells.toArray),(6,.map (some kb))]=some (waitC op p 8 0 ⟨#[]⟩ (some kb) .nilFunc).toArray:=by
 obtain ⟨p0,p1,p2,p3,p4,p5,p6,p7,p8,p9,p10,p11,⟨m0,m1,m2,m3⟩,p13,p14,p15,p16,p17,p18,p19,p20,p21,p22⟩:=p
 kernel_rfl
theorem wait_codes {w:World} {b:Nat} {op kind left:Int} {p:Pkt} {codes:ByteArray} {kept:Option Nat} {done:Value} {T:TypeId} (h:w.heap[b]? = some (.cells (waitC op p kind left codes kept done).toArray T (0,0))) (d:ByteArray) :
  (w.setCell ⟨b,28,none⟩ (.string d)).heap[b]? = some (.cells (waitC op p kind left d kept done).toArray T (0,0)):=heap_setCell_same w b 28 _ _ (.string d) h
def Sub1Ok (w0:World) (c:HCfg):Prop:=∀ (ad:HAd) (tb:Nat) (T:Tn) (E F:List Nat) (w:World) (cl:ByteArray) (z:HSeat) (x:Item) (codes:Str) (kept:List Msg) (b1 b2 b3 wb kb:Nat) (left:Int) (dv:Value),TurnAt c ad w tb T E F->Base w0 w F->HOk T->T.seat cl=some z->z.busy=none →
 Stay w F b1 x.cells 44 -> Stay w F b2 [bxV (ad.seat cl)] 101 -> Stay w F b3 [bxV wb] 103 -> Stay w F wb (waitC x.op x.pk 8 left ⟨codes.toArray⟩ (some kb) dv) 110 -> kb ∉ F->(∃ D:DataW Unit,w.ownsMap Tryz.prog 9 msgElem kb (Maps.size D) D/\Has D kept)->ItB w (E++F) x->ItOk x->codes.length=x.pk.subs.length->(∀ m ∈ kept,MsOk m)->Up kept →
 T.mails.length+2<=100000->T.notes.length+kept.length+2<=100000->kept.length<=90000 →
 Calls Tryz.prog 115 #[.pointer (some ⟨tb,0,none⟩),.pointer (some ⟨b1,0,none⟩),.pointer (some ⟨b2,0,none⟩),.pointer (some ⟨b3,0,none⟩)] w fun e w'=>e = .returned (.tuple #[])/\TDone c ad tb E F w (doneSub c x codes kept z T) w'
set_option maxRecDepth 100000
set_option maxHeartbeats 4000000
theorem subscribe_any (w0:World) (hK:Keeps w0) (c:HCfg) (hS1:Sub1Ok w0 c) (ad:HAd) (tb:Nat) (T:Tn) (E F:List Nat) (w:World) (cl:ByteArray) (z:HSeat) (x:Item) (h:TurnAt c ad w tb T E F) (hB:Base w0 w F) (hok:HOk T) (hn1:1<=c.n) (hn2:c.n<=64) (h0:T.seat cl=some z) (hbz:z.busy=none)
  (hx:ItOk x) (hib:ItB w (E++F) x) (hn:T.mails.length+7000<=100000) (hnn:T.notes.length+3<=100000) :
  Calls Tryz.prog 64 #[.pointer (some ⟨tb,0,none⟩),.pointer (some ⟨ad.seat cl,0,none⟩),.agg x.cells.toArray] w fun e w'=>e = .returned (.tuple #[])/\TDone c ad tb E F w (subscribeT c z x T) w':=by
 have hzc:=(seat_at h0).2;have hs:=(hok.seat z (seat_at h0).1).s;obtain ⟨xs,hxs⟩:∃ xs,x.pk.subs=xs:=⟨_,rfl⟩;have hxl:xs.length<=100:=hxs ▸ hx.pk.nsubs;have hxm:∀ y ∈ xs,y.1.length<=1000/\u8R y.2:=hxs ▸ hx.pk.subs;obtain ⟨codes,hcd⟩:∃ codes,codesGo xs z.s.l []=codes:=⟨_,rfl⟩;have hcl:codes.length=xs.length:=by rw [<- hcd,codes_len];simp
 obtain ⟨fs,hfs⟩:∃ fs,granted xs codes=fs:=⟨_,rfl⟩;have hgl:=grant_len xs codes []
 have hfsl:fs.length<=100:=by
  rw [<- hfs];unfold granted;simp at hgl;omega
 have hfsm:∀ f ∈ fs,f.length<=1000000:=by
  rw [<- hfs];unfold granted
  have:∀ (l:List SubE) (ks:Str) (o:List Str),(∀ y ∈ l,y.1.length<=1000)->(∀ f ∈ o,f.length<=1000) -> ∀ f ∈ grantGo l ks o,f.length<=1000:=by
   intro l
   induction l with
   | nil=>intro ks o _ ho f hf;cases ks <;> exact ho f hf
   | cons y r ih =>
    intro ks o hl ho f hf
    cases ks with
    | nil=>exact ho f hf
    | cons k ks =>
     unfold grantGo at hf;refine ih ks _ (fun q hq=>hl q (by simp [hq])) (fun q hq => ?_) f hf
     split at hq
     ·rcases List.mem_append.1 hq with hq | hq
      ·exact ho q hq
      ·rw [List.mem_singleton.1 hq];exact hl y (by simp)
     ·exact ho q hq
  intro f hf;have:=this xs codes [] (fun y hy=>(hxm y hy).1) (fun f hf=>by cases hf) f hf;omega
 obtain ⟨T2,hT2⟩:∃ T2,hubsT c (itK 5 x.op x.client) fs T=T2:=⟨_,rfl⟩;have ssf2:SSF T T2:=hT2 ▸ ssf_hubs _ _ _ _;have hok2:HOk T2:=hok.same ssf2;have h2s:T2.seat cl=some z:=(ssf2.seat cl).trans h0;have hhk:=hubsK_cap c hn1 hn2 fs;have gr2:=gr_hubs (c:=c) (t:=T) (itK 5 x.op x.client) fs;rw [hT2] at gr2;have hm2:=gr2.m;have hnt2:=gr2.n
 have HE:Hid (subscribeT c z x T=if hubsK c fs=0 then doneSub c x codes [] z T2 else T2.setS cl ⟨z.s,some (.sub x codes [],hubsK c fs)⟩):=hyd (by
  unfold subscribeT;dsimp only
  rw [hzc,hxs,hcd,hfs,hT2])
 have HTR:=hyd (fun X (hX:Below w.heap.size w X)=>show ∃ lb FL,X.cell? ⟨ad.sess cl,8,none⟩=some (.pointer (some ⟨lb,0,none⟩))/\SRep X lb z.s.l FL from by
  obtain ⟨lb,FL,a1,a2,-,-⟩:=(h.below hX).lists hok h0
  exact ⟨lb,FL,a1,a2⟩)
 have HTY:=hyd (fun X lb FL (hX:Below w.heap.size w X) (hr:SRep X lb z.s.l FL) (hrw:Row X x.pk.subsA (subsV xs))=>stry_any lb z.s.l FL x.pk.subsA x.pk.subsC xs X hr (hK.t.below (hB.below hX).1) hrw hxl hxm);rw [hcd] at HTY;have HGR:=hyd (fun X (hrw:Row X x.pk.subsA (subsV xs))=>granted_any x.pk xs codes X hxs hcl hrw hxl);rw [hfs] at HGR;have HHU:=hyd (fun X E' a3 c3 (hX:TurnAt c ad X tb T E' F) (hBX:Base w0 X F) (hb:Beside X (E'++F) a3 (namesV fs))=>thubs_any w0 hK.t c ad tb T E' F X (itK 5 x.op x.client) fs a3 c3 hX hBX hn1 hn2 rfl hb hfsm (by omega) (by omega));rw [hT2] at HHU
 have HS1:=hyd (fun X E' G b1 b2 b3 wb kb left dv (hX:TurnAt c ad X tb T2 E' G) (hBX:Base w0 X G) (q1:Stay X G b1 x.cells 44) (q2:Stay X G b2 [bxV (ad.seat cl)] 101) (q3:Stay X G b3 [bxV wb] 103) (q4:Stay X G wb (waitC x.op x.pk 8 left ⟨codes.toArray⟩ (some kb) dv) 110) (q5:kb ∉ G) (q6:∃ D:DataW Unit,X.ownsMap Tryz.prog 9 msgElem kb (Maps.size D) D/\Has D []) (q7:ItB X (E'++G) x) =>
  hS1 ad tb T2 E' G X cl z x codes [] b1 b2 b3 wb kb left dv hX hBX hok2 h2s hbz q1 q2 q3 q4 q5 q6 q7 hx (by rw [hxs];exact hcl) (fun m hm=>by cases hm) List.Pairwise.nil (by omega) (by simp;omega) (by simp))
 have HBU:=hyd (fun X wb kb b1 b2 b3 G (hX:TurnAt c ad X tb T2 ([wb,kb]++E) G) (hne:wb ≠ kb) (hwb:w.heap.size<=wb) (hkb:w.heap.size<=kb) (hw:X.heap[wb]? = some (.cells (waitC x.op x.pk 8 (hubsK c fs:Nat) ⟨codes.toArray⟩ (some kb) (.func (.func 115) #[] #[.pointer (some ⟨b1,0,none⟩),.pointer (some ⟨b2,0,none⟩),.pointer (some ⟨b3,0,none⟩)])).toArray 110 (0,0)))
   (hm:∃ D:DataW Unit,X.ownsMap Tryz.prog 9 msgElem kb (Maps.size D) D/\Has D [])
   (q1:Stay X (([wb,kb]++E)++G) b1 x.cells 44) (q2:Stay X (([wb,kb]++E)++G) b2 [bxV (ad.seat cl)] 101) (q3:Stay X (([wb,kb]++E)++G) b3 [bxV wb] 103) (q4:ItB X (([wb,kb]++E)++G) x) =>
  hX.busied (k:=.sub x codes []) (left:=(hubsK c fs:Nat)) (v1:=⟨[],wb,b1,b2,b3,0,kb⟩) hok2.nd h2s hbz (lies_app (A:=[_]) (lies_one (cellPc_ok _ _ _) hw) (lies_one (keptPc_ok kb []) hm) (fun q hq hq'=>hne (by
   have e1:q=wb:=by simpa [feet,cellPc] using hq
   have e2:q=kb:=by simpa [feet,keptPc] using hq'
   rw [<- e1,<- e2]))) (fun q hq=>by simpa [feet,wkPcs,cellPc,keptPc] using hq) (fun q hq hqE=>by
   have:=h.lt q (List.mem_append_left _ hqE);simp at hq
   omega) (show Caught X (([wb,kb]++E)++G) ad ⟨[],wb,b1,b2,b3,0,kb⟩ z (.sub x codes []) from ⟨q1,by show Stay X _ b2 [bxV (ad.seat z.s.client)] _;rw [hzc];exact q2,q3,q4⟩))
 have HSH:=hyd (fun X E' G (hX:TurnAt c ad X tb T2 E' G)=>hX.seatHeap h2s hbz);have HWB:=hyd (fun kb (_:Unit)=>built_waitS x.op x.pk kb);have HIB:=hyd (fun (_:Unit)=>built_item6 5 x.op x.client);have HPS:Hid ((Tryz.prog.info? 39).map (·.size)=some x.pk.cells.length):=hyd (pkt_size' x.pk);obtain ⟨W1,hW1⟩:∃ W1,w.alloc (.cells #[.pointer (some ⟨ad.seat cl,0,none⟩)] 101)=W1:=⟨_,rfl⟩;obtain ⟨W,hW⟩:∃ W,W1.alloc (.cells x.cells.toArray 44)=W:=⟨_,rfl⟩;have hz1:W1.heap.size=w.heap.size+1:=by rw [<- hW1];simp
 have hz2:W.heap.size=w.heap.size+2:=by rw [<- hW];simp [hz1]
 have hb2:Below w.heap.size w W:=by rw [<- hW,<- hW1];exact (low_alloc w _).alloc (by simp) _
 have hx2:W.heap[w.heap.size]? = some (.cells [bxV (ad.seat cl)].toArray 101 (0,0)):=by
  rw [<- hW,Below.heap_alloc _ _ _ (by omega),<- hW1];exact heap_alloc_new w _
 have hx3:W.heap[w.heap.size+1]? = some (.cells x.cells.toArray 44 (0,0)):=by rw [<- hz1,<- hW];exact heap_alloc_new W1 _
 have HIX:=hyd (fun (X:World) (hX:X.heap[w.heap.size+1]? = some (.cells x.cells.toArray 44 (0,0)))=>(show ItC X (w.heap.size+1) x/\X.rangeAt (w.heap.size+1) 5 x.pk.cells/\X.cell? ⟨w.heap.size+1,27,none⟩=some (.slice x.pk.subsA xs.length x.pk.subsC) from ⟨itC hX,item_pk hX,by rw [cell_of_row _ _ 27 _ _ _ hX,<- hxs];rfl⟩));have HT:=hyd h;have HI:=hyd hib;have HIS:Hid (∀ X,Below w.heap.size w X->Row X x.pk.subsA (subsV xs)):=hyd (fun X hX=>by rw [<- hxs];exact (hib.upd (Upd.of_below hX)).1.row);have HSC:=hyd (fun X (hX:Below w.heap.size w X)=>((h.below hX).seatCells h0).1);have HSC2:=hyd (fun X E' G (hX:TurnAt c ad X tb T2 E' G)=>(hX.seatCells h2s).1);have HLS:Hid (ad.sess cl < w.heap.size):=hyd (World.block_lt_of_cell? w _ (h.seatCells h0).2.1);have HBA:=hyd hB;have HLT:=hyd h.lt;have HX2:=hyd hx2;have HX3:=hyd hx3;have HB2:=hyd hb2;have HZ2:=hyd hz2;have HW1:=hyd hW1;have HW:=hyd hW;clear h hB hok hn1 hn2 h0 hbz hx hib hn hnn hzc hs hxs hxl hxm hcd hcl hfs hgl hfsl hfsm hT2 ssf2 hok2 h2s hhk gr2 hm2 hnt2 hz1 hz2 hb2 hx2 hx3 hW1 hW hK hS1;generalize (itK 5 x.op x.client).cells=IKL at *;generalize hIL:x.cells=IL at *;generalize hPL:x.pk.cells=PL at *;generalize hSA:x.pk.subsA=sa at *;generalize x.pk.subsC=sc at *
 go_enter Tryz.func64, Tryz.ntmps64
 go_upto_region 1 with fail
 rw [HW1.out,HW.out];obtain ⟨⟨q1,-,-⟩,hra,-⟩:=HIX.out W HX3.out;have HRA:=hyd hra;clear hra;have hmm:=@run_makeMap Tryz.prog
 go_upto_region 2 with (first
  | (refine wpList_loadMid rfl 39 _ rfl (w.heap.size+1) 5 rfl PL _ HRA.out Tryz.underlying39 rfl HPS.out _ rfl ?_)
  | (refine wpList_buildBy rfl 110 _ rfl _ rfl (waitC x.op x.pk 8 0 ⟨#[]⟩ (some W.heap.size) .nilFunc).toArray [(0,.int .i64 x.op),(3,.int .u8 8),(2,.agg PL.toArray),(6,.map (some W.heap.size))] (by kernel_rfl) (HWB.out W.heap.size ()) ?_)
  | fail)
 clear q1;obtain ⟨wl,hwl⟩:∃ wl,waitC x.op x.pk 8 0 ⟨#[]⟩ (some W.heap.size) .nilFunc=wl:=⟨_,rfl⟩;rw [hwl];obtain ⟨V1,hV1⟩:∃ V1,W.alloc (.map #[] 0)=V1:=⟨_,rfl⟩;obtain ⟨V2,hV2⟩:∃ V2,V1.alloc (.cells wl.toArray 110)=V2:=⟨_,rfl⟩;obtain ⟨w3,hw3⟩:∃ w3,V2.alloc (.cells #[.pointer (some ⟨W.heap.size+1,0,none⟩)] 103)=w3:=⟨_,rfl⟩;rw [hV1,hV2,hw3];have hv1:V1.heap.size=W.heap.size+1:=by rw [<- hV1];simp
 have hv2:V2.heap.size=W.heap.size+2:=by rw [<- hV2];simp [hv1]
 have hv3:w3.heap.size=W.heap.size+3:=by rw [<- hw3];simp [hv2]
 have hbW:Below W.heap.size W w3:=by rw [<- hw3,<- hV2,<- hV1];exact ((low_alloc W _).alloc (by simp) _).alloc (by simp;omega) _
 have hmap:(keptPc W.heap.size []).R w3:=by
  refine ⟨.map [],?_,Has.nil⟩;have:=((World.ownsMap_made W Tryz.prog 9 msgElem).alloc (.cells wl.toArray 110)).alloc (.cells #[.pointer (some ⟨W.heap.size+1,0,none⟩)] 103);rw [hV1,hV2,hw3] at this;exact this
 have hxw:w3.heap[W.heap.size+1]? = some (.cells wl.toArray 110 (0,0)):=by
  rw [<- hw3,Below.heap_alloc _ _ _ (by omega),<- hv1,<- hV2];exact heap_alloc_new V1 _
 have hxp:w3.heap[W.heap.size+2]? = some (.cells [bxV (W.heap.size+1)].toArray 103 (0,0)):=by
  rw [<- hv2,<- hw3];exact heap_alloc_new V2 _
 rw [<- hwl] at hxw;have HB3:Hid (Below w.heap.size w w3):=hyd (bnext HB2.out (Nat.le_refl _) hbW)
 have hHT3:TurnAt c ad w3 tb T ([W.heap.size+1,W.heap.size]++E) F:=HT.out.moreL [W.heap.size+1,W.heap.size] HB3.out (fun k hk=>by
  have:=HZ2.out;simp at hk
  omega)
 have hlow:∀ k ∈ ([W.heap.size+1,W.heap.size]++E)++F,k=W.heap.size+1 \/ k=W.heap.size \/ k < w.heap.size:=fun k hk=>by
  rcases List.mem_append.1 hk with hk | hk
  ·rcases List.mem_append.1 hk with hk | hk
   ·simp at hk
    omega
   ·exact .inr (.inr (HLT.out k (List.mem_append_left _ hk)))
  ·exact .inr (.inr (HLT.out k (List.mem_append_right _ hk)))
 have HST:Hid (∀ (b:Nat) (cs:List Value) (U:TypeId),w.heap.size<=b->b ≠ W.heap.size+1->b ≠ W.heap.size->w3.heap[b]? = some (.cells cs.toArray U (0,0))->Stay w3 (([W.heap.size+1,W.heap.size]++E)++F) b cs U):=hyd (fun b cs U h1 h2 h3 hx=>⟨fun hk=>by have:=hlow b hk;omega,(Array.getElem?_eq_some_iff.1 hx).1,hx⟩);have HQ2:=hyd (HST.out w.heap.size _ _ (Nat.le_refl _) (by have:=HZ2.out;omega) (by have:=HZ2.out;omega) ((hbW.block _ (Array.getElem?_eq_some_iff.1 HX2.out).1).trans HX2.out));have HQ1:=hyd (HST.out (w.heap.size+1) _ _ (by omega) (by have:=HZ2.out;omega) (by have:=HZ2.out;omega) ((hbW.block _ (Array.getElem?_eq_some_iff.1 HX3.out).1).trans HX3.out));have HQ3:=hyd (HST.out (W.heap.size+2) _ _ (by have:=HZ2.out;omega) (by omega) (by omega) hxp)
 have HQI:Hid (ItB w3 (([W.heap.size+1,W.heap.size]++E)++F) x):=hyd (HI.out.upd ⟨Mod.of_below HB3.out _,fun k hk=>by
  rcases List.mem_append.1 hk with hk | hk
  ·rcases List.mem_append.1 hk with hk | hk
   ·right
    have:=HZ2.out;simp at hk;omega
   ·exact .inl (List.mem_append_left _ hk)
  ·exact .inl (List.mem_append_right _ hk)⟩)
 have HT3:=hyd hHT3;have HMP:=hyd hmap;have HXW:=hyd hxw;clear hwl hV1 hV2 hw3 hv1 hv2 hv3 hbW hmap hxw hxp hHT3 hlow HST hmm HX2 HX3;obtain ⟨kb,hkb⟩:∃ kb,W.heap.size=kb:=⟨_,rfl⟩;have HKB:Hid (kb=w.heap.size+2):=hyd (by rw [<- hkb];exact HZ2.out);rw [hkb] at HT3 HMP HXW HQ1 HQ2 HQ3 HQI ⊢;clear hkb HZ2;obtain ⟨lb,FL,l1,l2⟩:=HTR.out w3.drew HB3.out.drew;have HTY':=hyd (HTY.out w3.drew lb FL HB3.out.drew l2 (HIS.out _ HB3.out.drew));have HSP:Hid (∀ X:World,X.heap[kb+2]? = some (.cells [bxV (kb+1)].toArray 103 (0,0))->X.heap[w.heap.size]? = some (.cells [bxV (ad.seat cl)].toArray 101 (0,0))->X.heap[w.heap.size+1]? = some (.cells IL.toArray 44 (0,0))->X.cell? ⟨ad.seat cl,0,none⟩=some (.pointer (some ⟨ad.sess cl,0,none⟩))->X.cell? ⟨ad.sess cl,8,none⟩=some (.pointer (some ⟨lb,0,none⟩))->X.cell? ⟨kb+2,0,none⟩=some (.pointer (some ⟨kb+1,0,none⟩))/\X.cell? ⟨w.heap.size,0,none⟩=some (.pointer (some ⟨ad.seat cl,0,none⟩))/\X.cell? ⟨ad.seat cl,0,none⟩=some (.pointer (some ⟨ad.sess cl,0,none⟩))/\X.cell? ⟨ad.sess cl,8,none⟩=some (.pointer (some ⟨lb,0,none⟩))/\X.cell? ⟨w.heap.size+1,27,none⟩=some (.slice sa xs.length sc)):=hyd (fun X e1 e2 e3 e4 e5=>⟨cell_of_row _ _ 0 _ _ _ e1,cell_of_row _ _ 0 _ _ _ e2,e4,e5,(HIX.out X e3).2.2⟩);have HL1:=hyd l1;clear l1 l2;refine wp_region_held_drew (S:=fun X=>X.cell? ⟨kb+2,0,none⟩=some (.pointer (some ⟨kb+1,0,none⟩))/\X.cell? ⟨w.heap.size,0,none⟩=some (.pointer (some ⟨ad.seat cl,0,none⟩))/\X.cell? ⟨ad.seat cl,0,none⟩=some (.pointer (some ⟨ad.sess cl,0,none⟩))/\X.cell? ⟨ad.sess cl,8,none⟩=some (.pointer (some ⟨lb,0,none⟩))/\X.cell? ⟨w.heap.size+1,27,none⟩=some (.slice sa xs.length sc)) (by kernel_rfl) (HSP.out w3.drew HQ3.out.2.2 HQ2.out.2.2 HQ1.out.2.2 (HSC.out _ HB3.out.drew) HL1.out) (fun hHeld => ?_)
 refine tA 0 (h:=tA 1 (h:=tA 2 (h:=tA 3 (h:=tA 4 (h:=tA 5 (h:=tA 6 (h:=tA 7 (h:=tA 8 (h:=tA 9 (h:=tA 10 (h:=?_)))))))))));simp only [tks];refine wpAnyH_ready (rs:=[11]) (by kernel_rfl) (by simp) ?_;refine AllReadyH.cons rfl (fun K hK => ?_) AllReadyH.nil;rw [if_pos (by rfl)];go_simp
 go_at_call 113
 refine HTY'.out.mono ?_;rintro e w4 ⟨rfl,hb4⟩;have hb34:Below w3.heap.size w3 w4:=bnext (Below.refl _ _).drew (Nat.le_refl _) hb4;have HB4:Hid (Below w.heap.size w w4):=hyd (bnext HB3.out (Nat.le_refl _) hb34);have HT4:=hyd (HT3.out.below hb34);have HQ14:=hyd (HQ1.out.below hb34);have HQ24:=hyd (HQ2.out.below hb34);have HQ34:=hyd (HQ3.out.below hb34);have HQI4:=hyd (HQI.out.upd (Upd.of_below hb34));have hxw4:=(hb34.block _ (Array.getElem?_eq_some_iff.1 HXW.out).1).trans HXW.out;have HMP4:=hyd ((keptPc_ok kb []).mod HMP.out (Mod.of_below hb34 []) (by simp));have HL4:Hid (w4.cell? ⟨ad.sess cl,8,none⟩=some (.pointer (some ⟨lb,0,none⟩))):=hyd ((hb4.cell (p:=⟨ad.sess cl,8,none⟩) (World.block_lt_of_cell? w3.drew _ HL1.out)).trans HL1.out);refine hK.out _ _ (HSP.out w4 HQ34.out.2.2 HQ24.out.2.2 HQ14.out.2.2 (HSC.out _ HB4.out) HL4.out) (fun hHeld => ?_);clear hb4 hb34 HT3 HQ1 HQ2 HQ3 HQI HXW HMP HL1 HB3 HTY';refine tA 12 (h:=tA 13 (h:=?_));simp only [tks];have c28:w4.cell? ⟨kb+1,28,none⟩=some (.string ⟨#[]⟩):=by rw [cell_of_row _ _ 28 _ _ _ hxw4];rfl
 have f28:=frozen_of_row w4 _ 28 _ _ hxw4;have hx5:=wait_codes hxw4 ⟨codes.toArray⟩;have hm5:Mod [kb+1] w4 (w4.setCell ⟨kb+1,28,none⟩ (.string ⟨codes.toArray⟩)):=(Mod.refl _ _).setCell (.inl (by simp)) _;have HX5:=hyd hx5;have HM5:=hyd hm5;clear hxw4 hx5 hm5;refine wpAnyH_ready (rs:=[14]) (by kernel_rfl) (by simp) ?_;refine AllReadyH.cons rfl (fun K hK => ?_) AllReadyH.nil;rw [if_pos (by rfl)];go_simp;clear c28 f28;generalize w4.setCell ⟨kb+1,28,none⟩ (.string ⟨codes.toArray⟩)=w5 at *;have huw:Upd (([kb+1,kb]++E)++F) (([kb+1,kb]++E)++F) w4 w5:=upd_in HM5.out (fun k hk=>by rw [List.mem_singleton.1 hk];simp);have HB5:Hid (Below w.heap.size w w5):=hyd (HB4.out.trans (HM5.out.below HB4.out.size (fun k hk=>by rw [List.mem_singleton.1 hk];have:=HKB.out;omega)));have HT5:Hid (TurnAt c ad w5 tb T ([kb+1,kb]++E) F):=hyd (HT4.out.wrote HM5.out (fun k hk=>by rw [List.mem_singleton.1 hk];simp));have HQ15:=hyd (HQ14.out.upd huw);have HQ25:=hyd (HQ24.out.upd huw);have HQ35:=hyd (HQ34.out.upd huw);have HQI5:=hyd (HQI4.out.upd huw);have HMP5:=hyd ((keptPc_ok kb []).mod HMP4.out HM5.out (fun k hk e=>by have e1:=List.mem_singleton.1 e;have e2:k=kb:=(by simpa [keptPc] using hk);omega))
 have HL5:Hid (w5.cell? ⟨ad.sess cl,8,none⟩=some (.pointer (some ⟨lb,0,none⟩))):=hyd ((World.cell?_of_block (w:=w4) (HM5.out.block _ (World.block_lt_of_cell? w4 _ HL4.out) (fun e=>by
  have e1:=List.mem_singleton.1 e;have e2:ad.sess cl < w.heap.size:=HLS.out;have:=HKB.out;have e3:ad.sess cl=kb+1:=e1
  omega))).trans HL4.out)
 refine hK.out _ _ (HSP.out w5 HQ35.out.2.2 HQ25.out.2.2 HQ15.out.2.2 (HSC.out _ HB5.out) HL5.out) (fun hHeld => ?_);refine wpAnyH_done (by kernel_rfl) ?_ _;clear hHeld huw HT4 HQ14 HQ24 HQ34 HQI4 HMP4 HL4 HM5 HB4;obtain ⟨dv0,hdv0⟩:∃ dv0:Value,(.nilFunc:Value)=dv0:=⟨_,rfl⟩;rw [hdv0] at HX5
 have HSQ:Hid (∀ X:World,X.heap[kb+2]? = some (.cells [bxV (kb+1)].toArray 103 (0,0))->X.heap[w.heap.size+1]? = some (.cells IL.toArray 44 (0,0))->(∃ left,X.heap[kb+1]? = some (.cells (waitC x.op x.pk 8 left ⟨codes.toArray⟩ (some kb) dv0).toArray 110 (0,0)))->X.cell? ⟨kb+2,0,none⟩=some (.pointer (some ⟨kb+1,0,none⟩))/\X.cell? ⟨w.heap.size+1,1,none⟩=some (.int .i64 x.op)/\X.cell? ⟨w.heap.size+1,3,none⟩=some (.string x.client)/\X.rangeAt (w.heap.size+1) 5 PL/\X.cell? ⟨kb+1,28,none⟩=some (.string ⟨codes.toArray⟩)):=hyd (fun X e1 e2 e3=>by
  obtain ⟨left,e3⟩:=e3
  exact ⟨cell_of_row _ _ 0 _ _ _ e1,(HIX.out X e2).1.op,(HIX.out X e2).1.client,(HIX.out X e2).2.1,by rw [cell_of_row _ _ 28 _ _ _ e3];rfl⟩)
 go_upto_region 3 with fail
 refine wp_region_held_drew (S:=fun X=>X.cell? ⟨kb+2,0,none⟩=some (.pointer (some ⟨kb+1,0,none⟩))/\X.cell? ⟨w.heap.size+1,1,none⟩=some (.int .i64 x.op)/\X.cell? ⟨w.heap.size+1,3,none⟩=some (.string x.client)/\X.rangeAt (w.heap.size+1) 5 PL/\X.cell? ⟨kb+1,28,none⟩=some (.string ⟨codes.toArray⟩)) (by kernel_rfl) (HSQ.out w5.drew HQ35.out.2.2 HQ15.out.2.2 ⟨_,HX5.out⟩) (fun hHeld => ?_);refine tA 0 (h:=tA 1 (h:=tA 2 (h:=tA 3 (h:=tA 4 (h:=tA 5 (h:=?_))))));simp only [tks];refine tk 6 (v:=.agg IKL.toArray) (fun w0 hS0=>exec_build 44 _ rfl IKL.toArray [(0,.int .u8 5),(1,.int .i64 x.op),(3,.string x.client)] (by kernel_rfl) (HIB.out ())) hHeld ?_;simp only [tks];refine tA 7 (h:=?_);simp only [tks];refine tk 8 (v:=.agg PL.toArray) (fun w0 hS0=>exec_load_row rfl rfl hS0.2.2.2.1 Tryz.underlying39 rfl HPS.out) hHeld ?_;simp only [tks];refine tA 9 (h:=tA 10 (h:=tA 11 (h:=tA 12 (h:=?_))));simp only [tks];have HGR5:=hyd (HGR.out w5.drew (HIS.out _ HB5.out.drew));refine wpAnyH_ready (rs:=[13]) (by kernel_rfl) (by simp) ?_;refine AllReadyH.cons rfl (fun K hK => ?_) AllReadyH.nil;rw [if_pos (by rfl)];go_simp
 go_at_call 114
 refine HGR5.out.mono ?_;rintro e w6 ⟨v6,rfl,ho6,hb6⟩;have hb56:Below w5.heap.size w5 w6:=bnext (Below.refl _ _).drew (Nat.le_refl _) hb6
 obtain ⟨a6,c6,rfl,hbe6⟩:=beside_off (G:=([kb+1,kb]++E)++F) ho6 (fun k hk hk'=>by
  have hkX:w5.drew.heap.size<=k:=(ho6.lt k (Option.mem_toList.1 hk')).1;have hkY:w5.drew.heap.size=w5.heap.size:=rfl;have:=HT5.out.lt k hk
  omega)
 have HT6:=hyd (HT5.out.below hb56);have HQ16:=hyd (HQ15.out.below hb56);have HQ26:=hyd (HQ25.out.below hb56);have HQ36:=hyd (HQ35.out.below hb56);have HQI6:=hyd (HQI5.out.upd (Upd.of_below hb56));have HX6:=hyd ((hb56.block _ (Array.getElem?_eq_some_iff.1 HX5.out).1).trans HX5.out);have HMP6:=hyd ((keptPc_ok kb []).mod HMP5.out (Mod.of_below hb56 []) (by simp));have HB6:Hid (Below w.heap.size w w6):=hyd (bnext HB5.out (Nat.le_refl _) hb56);have HBE6:=hyd hbe6;clear ho6 hb6 hb56 hbe6 HGR5 HT5 HQ15 HQ25 HQ35 HQI5 HX5 HMP5 HL5;refine hK.out _ _ (HSQ.out w6 HQ36.out.2.2 HQ16.out.2.2 ⟨_,HX6.out⟩) (fun hHeld => ?_);refine wpAnyH_ready (rs:=[14]) (by kernel_rfl) (by simp) ?_;refine AllReadyH.cons rfl (fun K hK => ?_) AllReadyH.nil;rw [if_pos (by rfl)];go_simp
 go_at_call 109
 refine (HHU.out w6 ([kb+1,kb]++E) a6 c6 HT6.out (HBA.out.below HB6.out) HBE6.out).mono ?_;rintro e w7 ⟨rfl,F7,ht7,hu7⟩;have HQ17:=hyd (HQ16.out.upd (hu7.ext ([kb+1,kb]++E)));have HQ27:=hyd (HQ26.out.upd (hu7.ext ([kb+1,kb]++E)));have HQ37:=hyd (HQ36.out.upd (hu7.ext ([kb+1,kb]++E)));have HQI7:=hyd (HQI6.out.upd (hu7.ext ([kb+1,kb]++E)));have hx7:=(hu7.1.block (kb+1) (Array.getElem?_eq_some_iff.1 HX6.out).1 (HT6.out.ext (kb+1) (by simp)).2).trans HX6.out
 have HMP7:=hyd ((keptPc_ok kb []).mod HMP6.out hu7.1 (fun k hk e=>by
  have e2:k=kb:=by simpa [keptPc] using hk
  rw [e2] at e
  exact (HT6.out.ext kb (by simp)).2 e))
 have HT7:=hyd ht7;have HU7:=hyd (Upd.pre HB6.out hu7);clear ht7 hu7 HT6 HQ16 HQ26 HQ36 HQI6 HX6 HMP6 HBE6;refine hK.out _ _ (HSQ.out w7 HQ37.out.2.2 HQ17.out.2.2 ⟨_,hx7⟩) (fun hHeld => ?_);refine tA 15 (h:=tA 16 (h:=?_));simp only [tks];have c27:w7.cell? ⟨kb+1,27,none⟩=some (.int .i64 0):=by rw [cell_of_row _ _ 27 _ _ _ hx7];rfl
 have f27:=frozen_of_row w7 _ 27 _ _ hx7;have hx8:=wait_left hx7 (hubsK c fs:Nat);have hm8:Mod [kb+1] w7 (w7.setCell ⟨kb+1,27,none⟩ (.int .i64 (hubsK c fs:Nat))):=(Mod.refl _ _).setCell (.inl (by simp)) _;have HM8:=hyd hm8;have HX8:=hyd hx8;clear hx7 hx8 hm8;refine wpAnyH_ready (rs:=[17]) (by kernel_rfl) (by simp) ?_;refine AllReadyH.cons rfl (fun K hK => ?_) AllReadyH.nil;rw [if_pos (by rfl)];go_simp;clear c27 f27;generalize w7.setCell ⟨kb+1,27,none⟩ (.int .i64 (hubsK c fs:Nat))=w8 at *;have huw8:Upd (([kb+1,kb]++E)++F7) (([kb+1,kb]++E)++F7) w7 w8:=upd_in HM8.out (fun k hk=>by rw [List.mem_singleton.1 hk];simp);refine hK.out _ _ (HSQ.out w8 (HQ37.out.upd huw8).2.2 (HQ17.out.upd huw8).2.2 ⟨_,HX8.out⟩) (fun hHeld => ?_);refine wpAnyH_done (by kernel_rfl) ?_ _;have p6:=hHeld.1;clear hHeld huw8;have hx8:=HX8.out;rw [<- hdv0] at hx8;have c30:w8.cell? ⟨kb+1,30,none⟩=some .nilFunc:=by rw [cell_of_row _ _ 30 _ _ _ hx8];rfl
 have f30:=frozen_of_row w8 _ 30 _ _ hx8;obtain ⟨dv,hdv⟩:∃ dv:Value,.func (.func 115) #[] #[.pointer (some ⟨w.heap.size+1,0,none⟩),.pointer (some ⟨w.heap.size,0,none⟩),.pointer (some ⟨kb+2,0,none⟩)]=dv:=⟨_,rfl⟩;have hxa:=wait_done hx8 dv;have hma:Mod [kb+1] w7 (w8.setCell ⟨kb+1,30,none⟩ dv):=HM8.out.trans ((Mod.refl [kb+1] w8).setCell (.inl (by simp)) dv) (fun k hk => .inl hk);have HXA:=hyd hxa;have HMA:=hyd hma;have HDV:=hyd hdv;clear hxa hma hdv hx8
 go_upto_region 5 with fail
 clear c30 f30 p6;rw [show kb+1+1=kb+2 from rfl,HDV.out];generalize w8.setCell ⟨kb+1,30,none⟩ dv=wa at *;have huw:Upd (([kb+1,kb]++E)++F7) (([kb+1,kb]++E)++F7) w7 wa:=upd_in HMA.out (fun k hk=>by rw [List.mem_singleton.1 hk];simp);have HQ1A:=hyd (HQ17.out.upd huw);have HQ2A:=hyd (HQ27.out.upd huw);have HQ3A:=hyd (HQ37.out.upd huw);have HQIA:=hyd (HQI7.out.upd huw);have HTA:Hid (TurnAt c ad wa tb T2 ([kb+1,kb]++E) F7):=hyd (HT7.out.wrote HMA.out (fun k hk=>by rw [List.mem_singleton.1 hk];simp));have HUA:=hyd (HU7.out.extra HMA.out (fun k hk=>by rw [List.mem_singleton.1 hk];have:=HKB.out;omega))
 have HMPA:Hid ((keptPc kb []).R wa):=hyd ((keptPc_ok kb []).mod HMP7.out HMA.out (fun k hk e=>by
  have e1:=List.mem_singleton.1 e;have e2:k=kb:=by simpa [keptPc] using hk
  omega))
 have p4:wa.cell? ⟨w.heap.size,0,none⟩=some (.pointer (some ⟨ad.seat cl,0,none⟩)):=stay_cell0 HQ2A.out;have p6:wa.cell? ⟨kb+2,0,none⟩=some (.pointer (some ⟨kb+1,0,none⟩)):=stay_cell0 HQ3A.out;have hsub:∀ k ∈ F7,k ∈ ([kb+1,kb]++E)++F7:=fun k hk=>List.mem_append_right _ hk
 have HSA:=hyd (HS1.out wa ([kb+1,kb]++E) F7 (w.heap.size+1) w.heap.size (kb+2) (kb+1) kb (hubsK c fs:Nat) dv HTA.out (HBA.out.upd HUA.out) (HQ1A.out.sub hsub) (HQ2A.out.sub hsub) (HQ3A.out.sub hsub) ⟨(HTA.out.ext (kb+1) (by simp)).2,(HTA.out.ext (kb+1) (by simp)).1,HXA.out⟩ (HTA.out.ext kb (by simp)).2 HMPA.out HQIA.out);clear huw hsub HQ17 HQ27 HQ37 HQI7 HT7 HU7 HM8 HX8 HMA HMP7
 go_wp2_with fail
 rw [<- HDV.out] at HXA
 by_cases hk:hubsK c fs=0
 ·have hx0:=HXA.out
  rw [hk] at hx0;refine (waits_sub tb (ad.seat cl) (kb+1) (w.heap.size+1) w.heap.size (kb+2) wa x.op x.pk 8 ⟨codes.toArray⟩ (some kb) (TDone c ad tb ([kb+1,kb]++E) F7 wa (doneSub c x codes [] z T2)) hx0 HSA.out).mono ?_;rintro e wc ⟨rfl,Fc,htc,huc⟩;have HD:Hid (TDone c ad tb E F w (subscribeT c z x T) wc):=hyd ⟨Fc,by rw [HE.out,if_pos hk];exact htc.less (fun k hk=>List.mem_append_right _ hk),HUA.out.trans' huc⟩;clear htc huc hx0 p4 p6
  go_wp2_with fail
  go_end0
  exact ⟨rfl,HD.out⟩
 ·refine (waits_some tb (ad.seat cl) (kb+1) wa x.op (hubsK c fs:Nat) x.pk 8 ⟨codes.toArray⟩ (some kb) _ _ _ (by omega) HXA.out (HSH.out wa _ F7 HTA.out)).mono ?_
  rintro e wc ⟨rfl,rfl⟩;obtain ⟨Fc,htc,hmc,hfc⟩:=HBU.out wa (kb+1) kb (w.heap.size+1) w.heap.size (kb+2) F7 HTA.out (by omega) (by have:=HKB.out;omega) (by have:=HKB.out;omega) HXA.out HMPA.out HQ1A.out HQ2A.out HQ3A.out HQIA.out;have HD:Hid (TDone c ad tb E F w (subscribeT c z x T) (wa.setCell ⟨ad.seat cl,1,none⟩ (bxV (kb+1)))):=hyd ⟨Fc,by rw [HE.out,if_neg hk];exact htc,Upd.joinX HUA.out hmc hfc (fun k hk=>by have:=HKB.out;simp at hk;omega)⟩;clear htc hmc hfc p4 p6
  go_wp2_with fail
  go_end0
  exact ⟨rfl,HD.out⟩
end
end Go.Proofs.YtcekcoepdhnfgaaGreatDoor
