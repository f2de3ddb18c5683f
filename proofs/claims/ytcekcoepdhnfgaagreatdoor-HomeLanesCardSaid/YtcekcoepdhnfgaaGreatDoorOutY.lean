/- out: Ack, Pump, Put. -/
import Derived.Test.YtcekcoepdhnfgaaGreatDoorOutZ
import Derived.Deep.LoopGhost
namespace Go.Proofs.YtcekcoepdhnfgaaGreatDoor
section
open Go Go.RowKit
structure PumpAt (w wr:World) (t:Nat) (win most:Int) (F:List Nat) (o:OT) (v:Value) (ps:List Pkt) (wait:List Msg) (row:List Sent) (F':List Nat):Prop where
 own:wr.ownsRow w.heap.size 39 24 v ps.length (pksV ps)
 rep:OutRep wr t win most ⟨wait,row⟩ F'
 off:Off F' v.ownBlock.toList
 upd:Upd F F' w wr
 eq:pumpO win o.wait o.row=(ps++(pumpO win wait row).1,(pumpO win wait row).2)
 len:ps.length+wait.length<=o.wait.length
 cap0:o.wait.length<=1024
theorem PumpAt.cap {w wr:World} {t:Nat} {win most:Int} {F F':List Nat} {o:OT} {v:Value} {ps:List Pkt} {wait:List Msg} {row:List Sent} (h:PumpAt w wr t win most F o v ps wait row F'):ps.length<=4096:=by
 have:=h.len;have:=h.cap0;omega
theorem OutRep.lens {w:World} {t:Nat} {win most:Int} {o:OT} {F:List Nat} (h:OutRep w t win most o F):o.wait.length<=1024/\o.row.length<=1024:=by
 obtain ⟨q,p,v,FQ,FP,h,hr,h1,h2,-⟩:=h;have:=h.queue.le;have:=hr.len;omega
theorem bru_upd {F F':List Nat} {w w':World} (h:Bru w) (hu:Upd F F' w w') (h0:0 ∉ F):Bru w':=fun c hc=>by
 have h1:=h c hc;rw [World.cell?_of_block (w:=w) (hu.1.block 0 (World.block_lt_of_cell? w ⟨0,c,none⟩ h1) h0)];exact h1
theorem zero_upd {F F':List Nat} {w w':World} (hu:Upd F F' w w') (h0:0 ∉ F) (hw:0 < w.heap.size):0 ∉ F':=fun hk=>by
 rcases hu.2 0 hk with h | h
 ·exact h0 h
 ·omega
theorem Upd.extra {F F' G:List Nat} {w w' w2:World} (h:Upd F F' w w') (hm:Mod G w' w2) (hG:∀ k ∈ G,w.heap.size<=k):Upd F F' w w2:=⟨h.1.trans hm fun k hk => .inr (hG k hk),h.2⟩
theorem Upd.off {F F' G:List Nat} {w w':World} (hu:Upd F F' w w') (h:Off F G) (hG:∀ k ∈ G,k < w.heap.size):Off F' G:=fun k hk hk'=>by
 rcases hu.2 k hk with h1 | h1
 ·exact h k h1 hk'
 ·have:=hG k hk';omega
theorem own_upd {F F':List Nat} {w w':World} {B:Nat} {e:TypeId} {size n:Nat} {v:Value} {xs:List Value} (h:w.ownsRow B e size v n xs) (hu:Upd F F' w w') (hf:Off F v.ownBlock.toList):w'.ownsRow B e size v n xs:=
 ownsRow_local h fun k hk=>hu.1.block k (h.lt k hk).2 fun hk'=>hf k hk' (Option.mem_toList.2 hk)
theorem pump_zero {win:Int} {m:Msg} {r:List Msg} {row:List Sent} (h:¬ 0 < m.q):pumpO win (m :: r) row=(pubK m 0 false :: (pumpO win r row).1,(pumpO win r row).2):=by
 rw [pumpO,if_neg h]
theorem pump_full {win:Int} {m:Msg} {r:List Msg} {row:List Sent} (h:0 < m.q) (hl:win<=(row.length:Int)):pumpO win (m :: r) row=([],⟨m :: r,row⟩):=by
 rw [pumpO,if_pos h,if_pos hl]
theorem pump_take {win:Int} {m:Msg} {r:List Msg} {row:List Sent} (h:0 < m.q) (hl:¬ win<=(row.length:Int)):pumpO win (m :: r) row=(pubK m (leastFree (idsOf row)) false :: (pumpO win r (row ++ [⟨m,leastFree (idsOf row),dueOf m⟩])).1,(pumpO win r (row ++ [⟨m,leastFree (idsOf row),dueOf m⟩])).2):=by
 rw [pumpO,if_pos h,if_neg hl]
theorem PumpAt.fin {w wr w2:World} {t:Nat} {win most:Int} {F F':List Nat} {o:OT} {v:Value} {ps:List Pkt} {wait:List Msg} {row:List Sent} (h:PumpAt w wr t win most F o v ps wait row F') (he:pumpO win wait row=([],⟨wait,row⟩)) (hb:Below wr.heap.size wr w2) :
  ∃ v' F',Ending.returned v = .returned v'/\w2.ownsRow w.heap.size 39 24 v' (pumpO win o.wait o.row).1.length (pksV (pumpO win o.wait o.row).1)/\OutRep w2 t win most (pumpO win o.wait o.row).2 F'/\Upd F F' w w2/\Off F' v'.ownBlock.toList:=by
 refine ⟨v,F',rfl,?_,?_,h.upd.next hb,h.off⟩
 ·rw [h.eq,he,List.append_nil]
  exact ownsRow_local h.own fun k hk=>hb.block k (h.own.lt k hk).2
 ·rw [h.eq,he]
  exact h.rep.below hb
section
variable {w wr W2 w3 w4 w5:World} {t:Nat} {win most:Int} {F F1 F2:List Nat} {o:OT} {v v5:Value} {ps:List Pkt} {m:Msg} {r:List Msg} {row row2:List Sent} {x:Pkt}
theorem PumpAt.mid (h:PumpAt w wr t win most F o v ps (m :: r) row F1) (hb:Below wr.heap.size wr W2) (hu:Upd F1 F2 W2 w3) (hr:OutRep w3 t win most ⟨r,row2⟩ F2) (hb3:Below w3.heap.size w3 w4) :
  w4.ownsRow w.heap.size 39 24 v ps.length (pksV ps)/\w.heap.size<=w4.heap.size/\(∀ k ∈ F2,k < w4.heap.size)/\Off F2 v.ownBlock.toList/\ps.length<=4096:=by
 have hv:∀ k ∈ v.ownBlock.toList,k < W2.heap.size:=fun k hk=>Nat.lt_of_lt_of_le (h.own.lt k (Option.mem_toList.1 hk)).2 hb.size
 have o2:=ownsRow_local (w':=W2) h.own fun k hk=>hb.block k (h.own.lt k hk).2
 have o3:=own_upd o2 hu h.off;have o4:=ownsRow_local (w':=w4) o3 fun k hk=>hb3.block k (o3.lt k hk).2
 have s1:=h.upd.1.size;have s2:=hb.size;have s3:=hu.1.size;have s4:=hb3.size;refine ⟨o4,by omega,fun k hk=>Nat.lt_of_lt_of_le (hr.lt k hk) s4,hu.off h.off hv,?_⟩;exact h.cap
theorem PumpAt.step (h:PumpAt w wr t win most F o v ps (m :: r) row F1) (hb:Below wr.heap.size wr W2) (hu:Upd F1 F2 W2 w3) (hr:OutRep w3 t win most ⟨r,row2⟩ F2) (hb3:Below w3.heap.size w3 w4)
  (ho:w5.ownsRow w.heap.size 39 24 v5 (ps ++ [x]).length (pksV (ps ++ [x]))) (hoff:Off F2 v5.ownBlock.toList) (hm:Mod v.ownBlock.toList w4 w5) (he:pumpO win (m :: r) row=(x :: (pumpO win r row2).1,(pumpO win r row2).2)) :
  PumpAt w w5 t win most F o v5 (ps ++ [x]) r row2 F2:=by
 obtain ⟨-,-,-,h4,-⟩:=h.mid hb hu hr hb3;refine ⟨ho,(hr.below hb3).mod hm fun k hk hk'=>h4 k hk hk',hoff,?_,?_,?_,?_⟩
 ·exact (((h.upd.next hb).trans' hu).next hb3).extra hm fun k hk=>(h.own.lt k (Option.mem_toList.1 hk)).1
 ·rw [h.eq,he]
  simp
 ·have:=h.len
  simp at this ⊢;omega
 ·exact h.cap0
end
set_option maxRecDepth 100000
set_option maxHeartbeats 4000000
theorem pump_any (t:Nat) (win most:Int) (o:OT) (F:List Nat) (w:World) (h:OutRep w t win most o F) (hB:Bru w) (h0:0 ∉ F) :
  Calls Tryz.prog 71 #[.pointer (some ⟨t,0,none⟩)] w fun e w' => ∃ v F',e = .returned v/\w'.ownsRow w.heap.size 39 24 v (pumpO win o.wait o.row).1.length (pksV (pumpO win o.wait o.row).1)/\OutRep w' t win most (pumpO win o.wait o.row).2 F'/\Upd F F' w w'/\Off F' v.ownBlock.toList:=by
 have HN:=hyd (onone_any t win most o F w h);have HH:=hyd h;have HB:=hyd hB;have hw0:0 < w.heap.size:=World.block_lt_of_cell? w _ (hB 0 (by decide));have H0:=hyd h0;have hlen:=h.lens.1;clear h hB h0
 go_enter Tryz.func71, Tryz.ntmps71
 go_wp2_with fail
 refine HN.out.mono ?_;rintro e w1 ⟨rfl,rfl⟩
 go_wp2_with fail
 go_loopg [3] o.wait.length (fun gg v wr => ∃ (ps:List Pkt) (wait:List Msg) (row:List Sent) (F':List Nat),wait.length<=gg/\PumpAt w wr t win most F o v ps wait row F')
 case atStart=>exact ⟨[],o.wait,o.row,F,Nat.le_refl _,⟨World.ownsRow_nil _ _ _ _,HH.out,fun k _=>by simp [Value.ownBlock],Upd.refl _ _,by simp,by simp,hlen⟩⟩
 case round =>
  obtain ⟨ps,wait,row,F1,hgg,hP⟩:=hrel;have HP:=hyd hP;have hl2:=hP.len;obtain ⟨q,p,rv,FQ,FP,hp,hr,hw1,hw2,hwk,rfl⟩:=hP.rep;obtain ⟨c0,c1,c2,c3⟩:=hp.cells;obtain ⟨ra,rc,rfl,-,-,-⟩:=ownsRow_row hp.own;obtain ⟨va,vc,rfl,-,-,-⟩:=ownsRow_row hP.own;have HPP:=hyd hp;have HR:=hyd hr;have HWK:=hyd hwk;have hrl:=hr.len;clear hP hp hr hwk
  cases wait with
  | nil =>
   go_wp2_with fail
   refine (qpeek_u Msg.none false q [] most FQ wr HPP.out.queue rfl rfl).mono ?_;rintro e w2 ⟨rfl,hk⟩;have HK:=hyd hk;have HE:Hid (pumpO win [] row=([],⟨[],row⟩)):=hyd rfl;clear hk;unfold Msg.none Msg.val
   go_wp2_with fail
   go_quiet (fail)
   go_wp2_with fail
   go_ret
   exact HP.out.fin HE.out ((HK.out.alloc HK.out.size _).trans (below_draws _))
  | cons m r =>
   have hm:=HWK.out m (by simp)
   by_cases hq:0 < m.q
   ·by_cases hfull:win<=(row.length:Int)
    ·have HE:=hyd (pump_full (r:=r) hq hfull)
     go_wp2_with fail
     refine (qpeek_u m true q (m :: r) most FQ wr HPP.out.queue rfl rfl).mono ?_;rintro e w2 ⟨rfl,hk⟩;have HK:=hyd hk;have HP2:=hyd (HPP.out.below hk);obtain ⟨c0,c1,c2,c3⟩:=HP2.out.cells;have s0:=fun o=>((low_alloc w2 o).cell (p:=⟨t,2,none⟩) HP2.out.ltt).trans c2
     have s1:=fun o=>((low_alloc w2 o).cell (p:=⟨t,3,none⟩) HP2.out.ltt).trans c3
     have hlw:decide (win<=(row.length:Int))=true:=decide_eq_true hfull;have hq':decide (0 < m.q)=true:=decide_eq_true hq;unfold Msg.val;clear hk
     go_wp2_with fail
     go_quiet (fail)
     go_wp2_with fail
     go_ret
     exact HP.out.fin HE.out ((HK.out.alloc HK.out.size _).trans (below_draws _))
    ·have HE:=hyd (pump_take (r:=r) hq hfull)
     have hmq:m.q<=2:=by
      have:=hm.1;unfold mayP at this;simp only [Bool.and_eq_true,decide_eq_true_eq] at this;exact this.2
     have HRT:=hyd (HR.out.take hw2 hq hmq (Int.not_le.1 hfull));have HIX:Hid ((idsOf row).length=row.length):=hyd (by simp [idsOf]);have HIA:Hid (∀ d,idsOf (row ++ [⟨m,leastFree (idsOf row),d⟩])=idsOf row ++ [leastFree (idsOf row)]):=hyd (fun d=>by simp [idsOf]);have HPI:Hid (∀ i:Int,(pubK m 0 false).cells.toArray.setIfInBounds 4 (.int .u16 i)=(pubK m i false).cells.toArray):=hyd (fun i=>rfl);have HY4:Hid ((pubK m 0 false).cells.toArray[4]? = some (.int .u16 0)):=hyd rfl;have hlw:decide (win<=(row.length:Int))=false:=decide_eq_false hfull;have hq':decide (0 < m.q)=true:=decide_eq_true hq;have hfl:¬ win<=(row.length:Int):=hfull;clear hfull;have HPB:=hyd (opub_zero m);have HFS:=hyd (pk_size (pubK m 0 false));have HF1:=hyd (pk_one (pubK m 0 false));have H24:Hid ((24:Nat)=(pubK m 0 false).cells.toArray.size):=hyd rfl;have HPL:Hid (∀ (W:World),(W.alloc (.cells (pubK m 0 false).cells.toArray 39)).heap[W.heap.size]? = some (.cells (pubK m 0 false).cells.toArray 39 (0,0))):=hyd (fun W=>heap_alloc_new W _);generalize hPL:(pubK m 0 false).cells=PL at *;have HPQ:=hyd hPL;clear hPL
     go_wp2_with fail
     refine (qpeek_u m true q (m :: r) most FQ wr HPP.out.queue rfl rfl).mono ?_;rintro e w2 ⟨rfl,hk⟩;have HP2:=hyd (HPP.out.below hk);have HK:=hyd hk;have s0:=fun o=>((low_alloc w2 o).cell (p:=⟨t,2,none⟩) HP2.out.ltt).trans HP2.out.cells.2.2.1
     have s1:=fun o=>((low_alloc w2 o).cell (p:=⟨t,3,none⟩) HP2.out.ltt).trans HP2.out.cells.2.2.2
     unfold Msg.val;clear hk
     go_wp2_with fail
     go_quiet (fail)
     obtain ⟨W2,hW2⟩:∃ W2,(w2.alloc (.cells #[.string m.t,.string m.p,.int .u8 m.q,.bool m.r] 36)).drewN nq=W2:=⟨_,rfl⟩;have hb2:Below w2.heap.size w2 W2:=by rw [<- hW2];exact (low_alloc _ _).trans (below_draws _)
     have hx2:W2.heap[w2.heap.size]? = some (.cells #[.string m.t,.string m.p,.int .u8 m.q,.bool m.r] 36 (0,0)):=by rw [<- hW2];exact heap_alloc_new w2 _
     rw [hW2];clear hW2;have HP3:=hyd (HP2.out.below hb2);obtain ⟨c0,c1,c2,c3⟩:=HP3.out.cells;have hnp:w2.heap.size ∉ FP:=fun hk=>by have:=HP2.out.lt _ (mem_oFoot.2 (.inr (.inr (.inl hk))));omega
     have hnew:w2.heap.size ∉ FQ:=fun hk=>by have:=HP2.out.lt _ (mem_oFoot.2 (.inr (.inl hk)));omega
     have HNW:=hyd hnew;have HX2:=hyd hx2;have hnl:=(Array.getElem?_eq_some_iff.1 hx2).1;have HB2:=hyd (bnext HK.out (Nat.le_refl _) hb2);clear hb2 hx2 hnew;generalize w2.heap.size=nb at *
     go_wp2_with fail
     refine (qpop_u m true r q (m :: r) most FQ W2 HP3.out.queue rfl rfl rfl).mono ?_;rintro e w3 ⟨rfl,FQ',hq3,hu3⟩;have hx3:=(hu3.1.block nb hnl HNW.out).trans HX2.out;obtain ⟨h3,hu⟩:=HP3.out.turnQ hq3 hu3;have H3:=hyd h3;have HU:=hyd hu;obtain ⟨x0,x1,x2,x3⟩:=cells4 hx3;have hnl3:=(Array.getElem?_eq_some_iff.1 hx3).1;have hsw:=hu.1.size;clear hq3 hu3 h3 hu hx3
     go_wp2_with fail
     refine (HPB.out w3).mono ?_;rintro e w4 ⟨rfl,hk⟩;have y2:=fun o=>((bnext hk (Nat.le_refl _) (low_alloc w4 o)).cell (p:=⟨nb,2,none⟩) hnl3).trans x2
     have HK4:=hyd (bnext hk (Nat.le_refl _) (low_alloc w4 (.cells PL.toArray 39)));have hl4:=(H3.out.below hk).lt;have hs4:=hk.size;have hsW:W2.heap.size<=w4.heap.size:=Nat.le_trans hsw hs4;clear hk;have H4:=hyd (H3.out.below HK4.out);have hz1:=zero_upd HP.out.upd H0.out hw0;obtain ⟨-,k1,-,-⟩:=H4.out.cells;have HBR:Hid (Bru (w4.alloc (.cells PL.toArray 39))):=hyd ((bru_upd ((bru_upd HB.out HP.out.upd H0.out).below HB2.out) HU.out hz1).below HK4.out);have HZP:Hid (0 ∉ FP):=hyd (fun h=>hz1 (mem_oFoot.2 (.inr (.inr (.inl h)))));have HPF:Hid (w4.heap.size ∉ oFoot t (.slice ra row.length rc) FQ' FP):=hyd (fun h=>by have:=hl4 _ h;omega);have HNF:Hid (nb ∉ FP):=hyd hnp;have hnb4:nb < w4.heap.size:=Nat.lt_of_lt_of_le hnl3 hs4;clear hz1 hl4 hnp;have hl1024:(idsOf row).length < 1024:=by rw [HIX.out];omega
     go_wp2_with (first
      | (refine wpList_store_newTo rfl 39 _ _ rfl rfl w4.heap.size rfl PL.toArray _ rfl rfl HFS.out H24.out HF1.out ?_)
      | fail)
     refine (pool_take p (idsOf row) FP _ H4.out.pool HBR.out HZP.out hl1024).mono ?_;rintro e w5 ⟨rfl,hp5,hu5⟩;obtain ⟨h5,hv5⟩:=H4.out.turnP hp5 hu5;have hx5:=(hu5.1.block w4.heap.size (by simp) (fun h=>HPF.out (mem_oFoot.2 (.inr (.inr (.inl h)))))).trans (HPL.out w4);have hn5:=(hu5.1.block nb (by simp;omega) HNF.out);have c4:=(cell_of_row _ _ 4 _ _ _ hx5).trans HY4.out;have f4:=frozen_of_row _ _ 4 _ _ hx5;have hx6:=heap_setCell_same w5 w4.heap.size 4 _ _ (.int .u16 (leastFree (idsOf row):Nat)) hx5;rw [HPI.out] at hx6
     have z2:(w5.setCell ⟨w4.heap.size,4,none⟩ (.int .u16 (leastFree (idsOf row):Nat))).cell? ⟨nb,2,none⟩=some (.int .u8 m.q):=by
      rw [World.cell?_of_block (w:=w4.alloc (.cells PL.toArray 39)) ((heap_setCell_other w5 _ _ _ (by show nb ≠ w4.heap.size;omega)).trans hn5)];exact y2 _
     have h6:=h5.mod (S:=[w4.heap.size]) (w':=w5.setCell ⟨w4.heap.size,4,none⟩ (.int .u16 (leastFree (idsOf row):Nat))) ((Mod.refl _ _).setCell (.inl (by simp)) _) (fun k hk hk'=>HPF.out (List.mem_singleton.1 hk' ▸ hk));have hu6:=((HU.out.next HK4.out).trans' hv5).extra (G:=[w4.heap.size]) (w2:=w5.setCell ⟨w4.heap.size,4,none⟩ (.int .u16 (leastFree (idsOf row):Nat))) ((Mod.refl _ _).setCell (.inl (by simp)) _) (fun k hk=>by rw [List.mem_singleton.1 hk];exact hsW);have HX6:=hyd hx6;have H6:=hyd h6;have HU6:=hyd hu6;clear hp5 hu5 h5 hv5 hx5 hn5 hx6 h6 hu6 y2
     go_upto_region 11 with fail
     generalize w5.setCell ⟨w4.heap.size,4,none⟩ (.int .u16 (leastFree (idsOf row):Nat))=W6 at *
     by_cases hq2:m.q=2
     ·have HDU:Hid (dueOf m=5):=hyd (by unfold dueOf;rw [if_pos hq2])
      rw [HDU.out] at HE HRT;have HR3:∀ w6 v6,OParts w6 t q p v6 win most r (idsOf row ++ [leastFree (idsOf row)]) (row ++ [⟨m,leastFree (idsOf row),5⟩]) FQ' FP->OutRep w6 t win most ⟨r,row ++ [⟨m,leastFree (idsOf row),5⟩]⟩ (oFoot t v6 FQ' FP):=fun w6 v6 h=>⟨q,p,_,FQ',FP,by rw [HIA.out];exact h,HRT.out,hw1,hw2,fun y hy=>HWK.out y (List.mem_cons_of_mem _ hy),rfl⟩
      have HR3':=hyd HR3;clear HR3
      go_upto_region 14 with fail
      refine pump_r14 t q p w4.heap.size (.slice ra row.length rc) win most r (idsOf row ++ [leastFree (idsOf row)]) row FQ' FP ⟨m,leastFree (idsOf row),5⟩ W6 H6.out (by omega) HX6.out HPF.out (by repeat (first | exact quiet_body | refine quiet_then ?_ | refine quiet_block ?_)) ?_;intro d60 d61 d62 d63 d64 d65 d66 d67 d68 d69 d70 d71 w6 v6 h7 hu7 hx7;have HR7:=hyd (HR3'.out w6 v6 h7);have HU7:=hyd (HU6.out.trans' hu7);have HX7:=hyd (hx7.trans HX6.out);clear h7 hu7 hx7
      go_upto_region 15 with fail
      obtain ⟨o4,s4,l4,f4',n4⟩:=HP.out.mid HB2.out HU7.out HR7.out (Below.refl _ w6);refine pump_r15 w4.heap.size (.slice va ps.length vc) w.heap.size ps (pubK m (leastFree (idsOf row)) false) _ _ o4 s4 l4 f4' n4 HX7.out ?_;intro d72 d73 d74 d75 w7 v7 ho7 hoff7 hm7;have HS:=hyd (HP.out.step HB2.out HU7.out HR7.out (Below.refl _ w6) ho7 hoff7 hm7 HE.out);clear o4 s4 l4 f4' n4 ho7 hoff7 hm7
      go_wp2_with fail
      go_roundg r.length
      case measure=>simp at hgg;omega
      case rel=>exact ⟨_,r,_,_,Nat.le_refl _,HS.out⟩
     ·have HDU:Hid (dueOf m=4):=hyd (by unfold dueOf;rw [if_neg hq2])
      rw [HDU.out] at HE HRT;have HR3:∀ w6 v6,OParts w6 t q p v6 win most r (idsOf row ++ [leastFree (idsOf row)]) (row ++ [⟨m,leastFree (idsOf row),4⟩]) FQ' FP->OutRep w6 t win most ⟨r,row ++ [⟨m,leastFree (idsOf row),4⟩]⟩ (oFoot t v6 FQ' FP):=fun w6 v6 h=>⟨q,p,_,FQ',FP,by rw [HIA.out];exact h,HRT.out,hw1,hw2,fun y hy=>HWK.out y (List.mem_cons_of_mem _ hy),rfl⟩
      have HR3':=hyd HR3;clear HR3
      go_upto_region 14 with fail
      refine pump_r14 t q p w4.heap.size (.slice ra row.length rc) win most r (idsOf row ++ [leastFree (idsOf row)]) row FQ' FP ⟨m,leastFree (idsOf row),4⟩ W6 H6.out (by omega) HX6.out HPF.out (by repeat (first | exact quiet_body | refine quiet_then ?_ | refine quiet_block ?_)) ?_;intro d60 d61 d62 d63 d64 d65 d66 d67 d68 d69 d70 d71 w6 v6 h7 hu7 hx7;have HR7:=hyd (HR3'.out w6 v6 h7);have HU7:=hyd (HU6.out.trans' hu7);have HX7:=hyd (hx7.trans HX6.out);clear h7 hu7 hx7
      go_upto_region 15 with fail
      obtain ⟨o4,s4,l4,f4',n4⟩:=HP.out.mid HB2.out HU7.out HR7.out (Below.refl _ w6);refine pump_r15 w4.heap.size (.slice va ps.length vc) w.heap.size ps (pubK m (leastFree (idsOf row)) false) _ _ o4 s4 l4 f4' n4 HX7.out ?_;intro d72 d73 d74 d75 w7 v7 ho7 hoff7 hm7;have HS:=hyd (HP.out.step HB2.out HU7.out HR7.out (Below.refl _ w6) ho7 hoff7 hm7 HE.out);clear o4 s4 l4 f4' n4 ho7 hoff7 hm7
      go_wp2_with fail
      go_roundg r.length
      case measure=>simp at hgg;omega
      case rel=>exact ⟨_,r,_,_,Nat.le_refl _,HS.out⟩
   ·have HE:=hyd (pump_zero (win:=win) (r:=r) (row:=row) hq)
    have hq':decide (0 < m.q)=false:=decide_eq_false hq;have HPB:=hyd (opub_zero m);have HFS:=hyd (pk_size (pubK m 0 false));have HF1:=hyd (pk_one (pubK m 0 false));have H24:Hid ((24:Nat)=(pubK m 0 false).cells.toArray.size):=hyd rfl;have HPL:Hid (∀ (W:World),(W.alloc (.cells (pubK m 0 false).cells.toArray 39)).heap[W.heap.size]? = some (.cells (pubK m 0 false).cells.toArray 39 (0,0))):=hyd (fun W=>heap_alloc_new W _);generalize hPL:(pubK m 0 false).cells=PL at *;have HPQ:=hyd hPL;clear hPL
    go_wp2_with fail
    refine (qpeek_u m true q (m :: r) most FQ wr HPP.out.queue rfl rfl).mono ?_;rintro e w2 ⟨rfl,hk⟩;have HP2:=hyd (HPP.out.below hk);have HK:=hyd hk;unfold Msg.val;clear hk
    go_wp2_with fail
    go_quiet (fail)
    obtain ⟨W2,hW2⟩:∃ W2,(w2.alloc (.cells #[.string m.t,.string m.p,.int .u8 m.q,.bool m.r] 36)).drewN nq=W2:=⟨_,rfl⟩;have hb2:Below w2.heap.size w2 W2:=by rw [<- hW2];exact (low_alloc _ _).trans (below_draws _)
    have hx2:W2.heap[w2.heap.size]? = some (.cells #[.string m.t,.string m.p,.int .u8 m.q,.bool m.r] 36 (0,0)):=by rw [<- hW2];exact heap_alloc_new w2 _
    rw [hW2];clear hW2;have HP3:=hyd (HP2.out.below hb2);obtain ⟨c0,c1,c2,c3⟩:=HP3.out.cells;have hnew:w2.heap.size ∉ FQ:=fun hk=>by have:=HP2.out.lt _ (mem_oFoot.2 (.inr (.inl hk)));omega
    have HNW:=hyd hnew;have HX2:=hyd hx2;have hnl:=(Array.getElem?_eq_some_iff.1 hx2).1;have HB2:=hyd (bnext HK.out (Nat.le_refl _) hb2);clear hb2 hx2 hnew;generalize w2.heap.size=nb at *
    go_wp2_with fail
    refine (qpop_u m true r q (m :: r) most FQ W2 HP3.out.queue rfl rfl rfl).mono ?_;rintro e w3 ⟨rfl,FQ',hq3,hu3⟩;have hx3:=(hu3.1.block nb hnl HNW.out).trans HX2.out;obtain ⟨h3,hu⟩:=HP3.out.turnQ hq3 hu3;have H3:=hyd h3;have HU:=hyd hu;obtain ⟨x0,x1,x2,x3⟩:=cells4 hx3;have hnl3:=(Array.getElem?_eq_some_iff.1 hx3).1;clear hq3 hu3 h3 hu hx3;have HR3:Hid (OutRep w3 t win most ⟨r,row⟩ (oFoot t (.slice ra row.length rc) FQ' FP)):=hyd ⟨q,p,_,FQ',FP,H3.out,HR.out,hw1,hw2,fun y hy=>HWK.out y (List.mem_cons_of_mem _ hy),rfl⟩
    go_wp2_with fail
    refine (HPB.out w3).mono ?_;rintro e w4 ⟨rfl,hk⟩;have y2:=fun o=>((bnext hk (Nat.le_refl _) (low_alloc w4 o)).cell (p:=⟨nb,2,none⟩) hnl3).trans x2
    have HK4:=hyd (bnext hk (Nat.le_refl _) (low_alloc w4 (.cells PL.toArray 39)));clear hk
    go_upto_region 15 with (first
     | (refine wpList_store_newTo rfl 39 _ _ rfl rfl w4.heap.size rfl PL.toArray _ rfl rfl HFS.out H24.out HF1.out ?_)
     | fail)
    obtain ⟨o4,s4,l4,f4,n4⟩:=HP.out.mid HB2.out HU.out HR3.out HK4.out;refine pump_r15 w4.heap.size (.slice va ps.length vc) w.heap.size ps (pubK m 0 false) _ _ o4 s4 l4 f4 n4 (by rw [HPQ.out];exact HPL.out w4) ?_;intro d72 d73 d74 d75 w5 v5 ho5 hoff5 hm5;have HS:=hyd (HP.out.step HB2.out HU.out HR3.out HK4.out ho5 hoff5 hm5 HE.out);clear o4 s4 l4 f4 n4 ho5 hoff5 hm5
    go_wp2_with fail
    go_roundg r.length
    case measure=>simp at hgg;omega
    case rel=>exact ⟨_,r,row,_,Nat.le_refl _,HS.out⟩
end
section
open Go Go.RowKit
def AckDone (w w':World) (t:Nat) (win most:Int) (F:List Nat) (e:Ending) (r:(List Pkt × Bool) × OT):Prop:=
 ∃ v F',e = .returned (.tuple #[v,.bool r.1.2])/\w'.ownsRow w.heap.size 39 24 v r.1.1.length (pksV r.1.1)/\OutRep w' t win most r.2 F'/\Upd F F' w w'/\Off F' v.ownBlock.toList
theorem ack_nil {w w':World} {t:Nat} {win most:Int} {F:List Nat} {o:OT} (h:OutRep w t win most o F) (hb:Below w.heap.size w w'):AckDone w w' t win most F (.returned (.tuple #[.slice none 0 0,.bool false])) (([],false),o):=
 ⟨_,F,rfl,World.ownsRow_nil _ _ _ _,h.below hb,Upd.of_below hb,fun k _=>by simp [Value.ownBlock]⟩
theorem ack_rel {w w3:World} {t:Nat} {win most:Int} {F F':List Nat} {o:OT} {x:Pkt} {RL:List Value} (h:pksV [x]=RL) (hl:RL.length=24) (hr:OutRep w3 t win most o F') (hu:Upd F F' w w3) {n:Nat} (hn:n=w3.heap.size) :
  AckDone w (w3.alloc (.cells RL.toArray 39)) t win most F (.returned (.tuple #[.slice (some ⟨n,0,none⟩) 1 1,.bool true])) (([x],true),o):=by
 subst hn;refine ⟨_,F',rfl,⟨by simp [pksV_len],.inr ⟨w3.heap.size,1,RL.toArray,rfl,hu.1.size,heap_alloc_new _ _,Nat.le_refl _,by decide,by simpa using hl,?_⟩⟩,hr.below (low_alloc _ _),hu.next (low_alloc _ _),fun k hk hk' => ?_⟩
 ·rw [h,List.take_of_length_le (by simp [hl])]
 ·simp only [Value.ownBlock,Option.toList_some,List.mem_singleton] at hk'
  have:=hr.lt k hk;omega
set_option maxRecDepth 100000
set_option maxHeartbeats 4000000
theorem ack_any (t:Nat) (win most:Int) (o:OT) (F:List Nat) (pk:Pkt) (w:World) (h:OutRep w t win most o F) :
  Calls Tryz.prog 127 #[.pointer (some ⟨t,0,none⟩),.agg pk.cells.toArray] w fun e w'=>AckDone w w' t win most F e (ackO pk.ty pk.id o):=by
 have hb:=low_alloc w (.cells pk.cells.toArray 39);have hX:=heap_alloc_new w (.cells pk.cells.toArray 39);obtain ⟨x0,-,-,-,x4,-,-⟩:=pk_cells hX;have hnF:w.heap.size ∉ F:=fun hk=>by have:=h.lt _ hk;omega
 have HN:=hyd (onone_any t win most o F _ (h.below hb));have HH:=hyd h;have HB:=hyd hb;have HX:=hyd hX;have hWs:(w.alloc (.cells pk.cells.toArray 39)).heap.size=w.heap.size+1:=by simp
 have hrl:=h.lens.2;have h1:=h.below hb;generalize pk.cells.toArray=PC at *;obtain ⟨W,hW⟩:∃ W,w.alloc (.cells PC 39)=W:=⟨_,rfl⟩;rw [hW] at HN HB HX x0 x4 hWs h1;obtain ⟨q,p,rv,FQ,FP,hp,hr,hw1,hw2,hwk,rfl⟩:=h1;obtain ⟨c0,c1,c2,c3⟩:=hp.cells;have HP:=hyd hp;have HR:=hyd hr;have HWK:=hyd hwk;have HNF:=hyd hnF;have HIX:=hyd (fun a c (ha:Row W a (sentV o.row))=>index_any a c o.row w.heap.size pk.id W ha hrl x4)
 cases hpl:placeO pk.id o.row with
 | none =>
  have HA:=hyd (ack_none (ty:=pk.ty) hpl);obtain ⟨ra,rc,rfl,hrow,-,-⟩:=ownsRow_row hp.own;have HI:=hyd (HIX.out ra rc hrow);rw [hpl] at HI;clear h hp hr hwk hb hX hnF HIX hpl hrow
  go_enter Tryz.func127, Tryz.ntmps127
  go_wp2_with fail
  refine HN.out.mono ?_;rintro e w1 ⟨rfl,rfl⟩
  go_wp2_with fail
  refine HI.out.mono ?_;rintro e w2 ⟨rfl,hk⟩;have HK:=hyd (bnext HB.out (Nat.le_refl _) hk);clear hk;unfold idxI
  go_wp2_with fail
  go_ret2
  rw [HA.out];exact ack_nil HH.out HK.out
 | some k =>
  obtain ⟨hk,hid,-⟩:=place_some hpl;have HA:=hyd (ack_some (ty:=pk.ty) hk hpl);obtain ⟨g,rc,rfl⟩:=ownsRow_slot hp.own (by omega);obtain ⟨a0,c0',e0,hrow,hnc,hcm⟩:=ownsRow_row hp.own
  cases e0
  have HI:=hyd (HIX.out _ rc hrow);rw [hpl] at HI;obtain ⟨b',o',e1,hra⟩:=row_mid (mk:=sentC) (m:=25) sentC_len hrow hk (by decide)
  cases e1
  have d24:W.cell? ⟨g,k * 25+24,none⟩=some (.int .u8 o.row[k].due):=by
   have:=hra 24 (.int .u8 o.row[k].due) rfl
   rwa [Nat.zero_add] at this
  have hgl:g < W.heap.size:=World.block_lt_of_cell? W _ d24;have hk0:(0:Int)<=k:=by omega
  have hkl:(k:Int) < o.row.length:=by omega
  have HSP:Hid (∀ X,Below W.heap.size W X->X.cell? ⟨t,3,none⟩=some (.slice (some ⟨g,0,none⟩) o.row.length rc)/\X.cell? ⟨g,k * 25+24,none⟩=some (.int .u8 o.row[k].due)/\X.cell? ⟨w.heap.size,0,none⟩=some (.int .u8 pk.ty)/\X.cell? ⟨w.heap.size,4,none⟩=some (.int .u16 pk.id)):=hyd (fun X hX' =>
   ⟨(hX'.cell (p:=⟨t,3,none⟩) (HP.out.ltt)).trans c3,(hX'.cell (p:=⟨g,k * 25+24,none⟩) hgl).trans d24,(hX'.cell (p:=⟨w.heap.size,0,none⟩) (by show w.heap.size < _;omega)).trans x0,(hX'.cell (p:=⟨w.heap.size,4,none⟩) (by show w.heap.size < _;omega)).trans x4⟩)
  have HFR:=hyd (fun X (hX':Below W.heap.size W X)=>ownsRow_free (HP.out.below hX').own (k * 25+24));have HSE:=hyd (sentV_set o.row k hk 7);have HSI:=hyd (ids_set hk 7);have HIE:=hyd (ids_erase hk HR.out.nd);have HIM:=hyd (ids_mem hk);have HDU:=hyd (HR.out.due _ (List.getElem_mem hk));have HID:=hyd hid;clear hpl hra hrow h hp hr hwk hb hX hnF HIX d24 hid x0 x4 c0 c1 c2 c3;obtain ⟨du,hdu⟩:∃ du,o.row[k].due=du:=⟨_,rfl⟩;have HDE:=hyd hdu;rw [hdu] at HA HSP HDU;clear hdu
  by_cases hA:pk.ty=5/\(du=5 \/ du=7)
  ·obtain ⟨h5,h57⟩:=hA
   rw [if_pos ⟨h5,h57⟩] at HA;rw [h5] at HSP;have HTN:=hyd (HR.out.turn hk (by rw [HDE.out];exact h57));have HBU:=hyd (fun (_:Unit)=>built_rel pk.id);have HBS:=hyd (build_pk (relK pk.id));have HRC:Hid ((relK pk.id).cells.length=24):=hyd rfl;have HRP:Hid (pksV [relK pk.id]=(relK pk.id).cells):=hyd (by simp [pksV]);generalize (relK pk.id).cells=RL at *;clear h5
   rcases h57 with rfl | rfl
   ·skip
    obtain ⟨w3c,-⟩:=HSP.out W (Below.refl _ _)
    go_enter Tryz.func127, Tryz.ntmps127
    go_wp2_with fail
    refine HN.out.mono ?_;rintro e w1 ⟨rfl,rfl⟩
    go_wp2_with fail
    refine HI.out.mono ?_;rintro e w2 ⟨rfl,hk2⟩;obtain ⟨s3,s24,s0,s4⟩:=HSP.out w2 hk2;have fz:=HFR.out w2 hk2;have HK:=hyd hk2;have hpg:w.heap.size ≠ g:=fun e=>HNF.out (mem_oFoot.2 (.inr (.inr (.inr (by rw [e];simp [Value.ownBlock])))))
    unfold idxI
    have z4:(w2.setCell ⟨g,k * 25+24,none⟩ (.int .u8 7)).cell? ⟨w.heap.size,4,none⟩=some (.int .u16 pk.id):=by
     rw [World.cell?_of_block (w:=w2) (heap_setCell_other w2 _ _ _ hpg)];exact s4
    clear hk2;have h2:=HP.out.below HK.out;have hs2:=ownsRow_set h2.own (k * 25+24) (.int .u8 7);rw [HSE.out] at hs2;obtain ⟨h3,hu3⟩:=h2.turnR (row':=o.row.set k ⟨o.row[k].m,o.row[k].id,7⟩) (v':=.slice (some ⟨g,0,none⟩) o.row.length rc) (w':=w2.setCell ⟨g,k * 25+24,none⟩ (.int .u8 7)) ((Mod.refl _ _).setCell (.inl (by simp [Value.ownBlock])) _) ((heap_setCell_other w2 _ _ _ (fun e=>h2.tv (by show t ∈ _;rw [e];simp [Value.ownBlock]))).trans h2.hd) (by rw [List.length_set];exact hs2) (fun _ h => .inl h);have HR3:Hid (OutRep (w2.setCell ⟨g,k * 25+24,none⟩ (.int .u8 7)) t win most ⟨o.wait,o.row.set k ⟨o.row[k].m,o.row[k].id,7⟩⟩ (oFoot t (.slice (some ⟨g,0,none⟩) o.row.length rc) FQ FP)):=hyd ⟨q,p,_,FQ,FP,by rw [HSI.out];exact h3,HTN.out,hw1,hw2,HWK.out,rfl⟩;have HU3:=hyd (Upd.pre (bnext HB.out (Nat.le_refl _) HK.out) hu3);clear h2 hs2 h3 hu3
    go_wp2_with (first
     | (refine wpList_buildBy rfl 39 _ rfl _ rfl RL.toArray [(0,.int .u8 6),(4,.int .u16 pk.id)] (by kernel_rfl) (HBU.out ()) ?_)
     | (refine wpList_build1 HBS.out rfl _ rfl rfl _ rfl _ rfl ?_)
     | fail)
    go_ret2
    rw [HA.out];exact ack_rel HRP.out HRC.out HR3.out HU3.out (by simp)
   ·skip
    obtain ⟨w3c,-⟩:=HSP.out W (Below.refl _ _)
    go_enter Tryz.func127, Tryz.ntmps127
    go_wp2_with fail
    refine HN.out.mono ?_;rintro e w1 ⟨rfl,rfl⟩
    go_wp2_with fail
    refine HI.out.mono ?_;rintro e w2 ⟨rfl,hk2⟩;obtain ⟨s3,s24,s0,s4⟩:=HSP.out w2 hk2;have fz:=HFR.out w2 hk2;have HK:=hyd hk2;have hpg:w.heap.size ≠ g:=fun e=>HNF.out (mem_oFoot.2 (.inr (.inr (.inr (by rw [e];simp [Value.ownBlock])))))
    unfold idxI
    have z4:(w2.setCell ⟨g,k * 25+24,none⟩ (.int .u8 7)).cell? ⟨w.heap.size,4,none⟩=some (.int .u16 pk.id):=by
     rw [World.cell?_of_block (w:=w2) (heap_setCell_other w2 _ _ _ hpg)];exact s4
    clear hk2;have h2:=HP.out.below HK.out;have hs2:=ownsRow_set h2.own (k * 25+24) (.int .u8 7);rw [HSE.out] at hs2;obtain ⟨h3,hu3⟩:=h2.turnR (row':=o.row.set k ⟨o.row[k].m,o.row[k].id,7⟩) (v':=.slice (some ⟨g,0,none⟩) o.row.length rc) (w':=w2.setCell ⟨g,k * 25+24,none⟩ (.int .u8 7)) ((Mod.refl _ _).setCell (.inl (by simp [Value.ownBlock])) _) ((heap_setCell_other w2 _ _ _ (fun e=>h2.tv (by show t ∈ _;rw [e];simp [Value.ownBlock]))).trans h2.hd) (by rw [List.length_set];exact hs2) (fun _ h => .inl h);have HR3:Hid (OutRep (w2.setCell ⟨g,k * 25+24,none⟩ (.int .u8 7)) t win most ⟨o.wait,o.row.set k ⟨o.row[k].m,o.row[k].id,7⟩⟩ (oFoot t (.slice (some ⟨g,0,none⟩) o.row.length rc) FQ FP)):=hyd ⟨q,p,_,FQ,FP,by rw [HSI.out];exact h3,HTN.out,hw1,hw2,HWK.out,rfl⟩;have HU3:=hyd (Upd.pre (bnext HB.out (Nat.le_refl _) HK.out) hu3);clear h2 hs2 h3 hu3
    go_wp2_with (first
     | (refine wpList_buildBy rfl 39 _ rfl _ rfl RL.toArray [(0,.int .u8 6),(4,.int .u16 pk.id)] (by kernel_rfl) (HBU.out ()) ?_)
     | (refine wpList_build1 HBS.out rfl _ rfl rfl _ rfl _ rfl ?_)
     | fail)
    go_ret2
    rw [HA.out];exact ack_rel HRP.out HRC.out HR3.out HU3.out (by simp)
  ·rw [if_neg hA] at HA
   by_cases hB:pk.ty=du
   ·rw [if_pos hB] at HA
    have h47:du=4 \/ du=7:=by
     rcases HDU.out.1 with h1 | h1 | h1
     ·exact .inl h1
     ·exact absurd ⟨hB.trans h1,.inl h1⟩ hA
     ·exact .inr h1
    rw [hB] at HSP;have e1:IntKind.i64.wrap ((k:Int)+1)=(k:Int)+1:=w_i64 _ (by omega) (by omega);have HID':Hid (pk.id=(o.row[k].id:Nat)):=hyd HID.out.symm;rw [HID'.out] at HSP;have HL:Hid (o.row.length<=1024):=hyd hrl;clear hA hB
    rcases h47 with rfl | rfl
    ·skip
     obtain ⟨w3c,-⟩:=HSP.out W (Below.refl _ _)
     go_enter Tryz.func127, Tryz.ntmps127
     go_wp2_with fail
     refine HN.out.mono ?_;rintro e w1 ⟨rfl,rfl⟩
     go_wp2_with fail
     refine HI.out.mono ?_;rintro e w2 ⟨rfl,hk2⟩;obtain ⟨s3,s24,s0,s4⟩:=HSP.out w2 hk2;have HK:=hyd hk2;unfold idxI;clear hk2
     go_wp2_with fail
     go_quiet (fail)
     obtain ⟨W3,hW3⟩:∃ W3,w2.drewN nq=W3:=⟨_,rfl⟩;have hb3:Below W.heap.size W W3:=by rw [<- hW3];exact HK.out.trans (below_draws _)
     rw [hW3];have HK3:=hyd hb3;have h3:=HP.out.below hb3;obtain ⟨r3,-,-,r4⟩:=HSP.out W3 hb3;have hs3:=hb3.size;clear hW3 hb3 s3 s24 s0 s4 w3c;have H3:=hyd h3;have HDL:=hyd (del_any g rc o.row k W3 h3.own hk HL.out);clear h3
     go_wp2_with fail
     refine HDL.out.mono ?_;rintro e w4 ⟨rfl,ho4,hm4⟩;have htg:t ≠ g:=fun e=>H3.out.tv (by rw [e];simp [Value.ownBlock])
     have hpg:w.heap.size ≠ g:=fun e=>HNF.out (mem_oFoot.2 (.inr (.inr (.inr (by rw [e];simp [Value.ownBlock])))))
     have hpt:w.heap.size ≠ t:=fun e=>HNF.out (mem_oFoot.2 (.inl e))
     have ht4:=(hm4.block t H3.out.ltt (by simpa using htg)).trans H3.out.hd;have s5:=heap_setCell_same w4 t 3 _ _ (.slice (some ⟨g,0,none⟩) (o.row.length - 1) rc) ht4;have f4:=frozen_of_row _ t 3 _ _ ht4;have c4:=cell_of_row _ t 3 _ _ _ ht4
     obtain ⟨h5,hu5⟩:=H3.out.turnR (row':=o.row.eraseIdx k) (v':=.slice (some ⟨g,0,none⟩) (o.row.length - 1) rc) (w':=w4.setCell ⟨t,3,none⟩ (.slice (some ⟨g,0,none⟩) (o.row.length - 1) rc)) ((hm4.mono (S':=t :: (Value.slice (some ⟨g,0,none⟩) o.row.length rc).ownBlock.toList) (fun j hj=>by rw [List.mem_singleton.1 hj];simp [Value.ownBlock])).setCell (.inl (by simp)) _) (by simpa using s5)
      (ownsRow_local ho4 fun j hj=>heap_setCell_other w4 _ _ _ (by
       obtain rfl:g=j:=by simpa [Value.ownBlock] using hj
       exact fun e=>htg e.symm)) (fun _ h => .inl h)
     have q4:(w4.setCell ⟨t,3,none⟩ (.slice (some ⟨g,0,none⟩) (o.row.length - 1) rc)).cell? ⟨w.heap.size,4,none⟩=some (.int .u16 (o.row[k].id:Nat)):=by
      rw [World.cell?_of_block (w:=W3) ((heap_setCell_other w4 _ _ _ hpt).trans (hm4.block w.heap.size (by omega) (by simpa using hpg)))];exact r4
     have H5:=hyd h5;have HU5:=hyd (Upd.pre (bnext HB.out (Nat.le_refl _) HK3.out) hu5);clear ho4 hm4 ht4 s5 h5 hu5 r3 r4
     go_upto_region 13 with fail
     generalize w4.setCell ⟨t,3,none⟩ (.slice (some ⟨g,0,none⟩) (o.row.length - 1) rc)=W5 at *;obtain ⟨-,p5,-,-⟩:=H5.out.cells;clear f4 c4;refine wp_region_held_drew (S:=fun X=>X.cell? ⟨t,1,none⟩=some (.pointer (some ⟨p,0,none⟩))/\X.cell? ⟨w.heap.size,4,none⟩=some (.int .u16 (o.row[k].id:Nat))) (by kernel_rfl) ⟨p5,q4⟩ (fun hHeld => ?_);refine tA 0 (h:=tA 1 (h:=tA 2 (h:=tA 3 (h:=tA 4 (h:=tA 5 (h:=?_))))));simp only [tks];refine wpAnyH_ready (rs:=[6]) (by kernel_rfl) (by simp) ?_;refine AllReadyH.cons rfl (fun K hK => ?_) AllReadyH.nil;rw [if_pos (by rfl)];go_simp
     go_at_call 208
     have h6:=H5.out.below (Below.refl _ _).drew;refine (pool_free o.row[k].id p (idsOf o.row) FP _ h6.pool HIM.out).mono ?_;rintro e w6 ⟨rfl,hp6,hu6⟩;obtain ⟨h7,hu7⟩:=h6.turnP hp6 hu6;rw [HIE.out] at h7;have HF:Hid (AckDone w w6 t win most (oFoot t (.slice (some ⟨g,0,none⟩) o.row.length rc) FQ FP) (.returned (.tuple #[.slice none 0 0,.bool true])) (([],true),⟨o.wait,o.row.eraseIdx k⟩)):=hyd ⟨_,_,rfl,World.ownsRow_nil _ _ _ _,⟨q,p,_,FQ,FP,h7,HR.out.erase k,hw1,hw2,HWK.out,rfl⟩,(HU5.out.next (Below.refl _ _).drew).trans' hu7,fun j _=>by simp [Value.ownBlock]⟩;refine hK.out _ _ ⟨h7.cells.2.1,?_⟩ (fun _ => ?_)
     ·rw [World.cell?_of_block (w:=W5) (hu6.1.block w.heap.size (World.block_lt_of_cell? W5 _ q4) (fun h=>HNF.out (mem_oFoot.2 (.inr (.inr (.inl h))))))]
      exact q4
     refine wpAnyH_done (by kernel_rfl) ?_ _;clear h6 hp6 hu6 h7 hu7 q4 p5
     go_wp2_with fail
     go_ret2
     rw [HA.out];exact HF.out
    ·skip
     obtain ⟨w3c,-⟩:=HSP.out W (Below.refl _ _)
     go_enter Tryz.func127, Tryz.ntmps127
     go_wp2_with fail
     refine HN.out.mono ?_;rintro e w1 ⟨rfl,rfl⟩
     go_wp2_with fail
     refine HI.out.mono ?_;rintro e w2 ⟨rfl,hk2⟩;obtain ⟨s3,s24,s0,s4⟩:=HSP.out w2 hk2;have HK:=hyd hk2;unfold idxI;clear hk2
     go_wp2_with fail
     go_quiet (fail)
     obtain ⟨W3,hW3⟩:∃ W3,w2.drewN nq=W3:=⟨_,rfl⟩;have hb3:Below W.heap.size W W3:=by rw [<- hW3];exact HK.out.trans (below_draws _)
     rw [hW3];have HK3:=hyd hb3;have h3:=HP.out.below hb3;obtain ⟨r3,-,-,r4⟩:=HSP.out W3 hb3;have hs3:=hb3.size;clear hW3 hb3 s3 s24 s0 s4 w3c;have H3:=hyd h3;have HDL:=hyd (del_any g rc o.row k W3 h3.own hk HL.out);clear h3
     go_wp2_with fail
     refine HDL.out.mono ?_;rintro e w4 ⟨rfl,ho4,hm4⟩;have htg:t ≠ g:=fun e=>H3.out.tv (by rw [e];simp [Value.ownBlock])
     have hpg:w.heap.size ≠ g:=fun e=>HNF.out (mem_oFoot.2 (.inr (.inr (.inr (by rw [e];simp [Value.ownBlock])))))
     have hpt:w.heap.size ≠ t:=fun e=>HNF.out (mem_oFoot.2 (.inl e))
     have ht4:=(hm4.block t H3.out.ltt (by simpa using htg)).trans H3.out.hd;have s5:=heap_setCell_same w4 t 3 _ _ (.slice (some ⟨g,0,none⟩) (o.row.length - 1) rc) ht4;have f4:=frozen_of_row _ t 3 _ _ ht4;have c4:=cell_of_row _ t 3 _ _ _ ht4
     obtain ⟨h5,hu5⟩:=H3.out.turnR (row':=o.row.eraseIdx k) (v':=.slice (some ⟨g,0,none⟩) (o.row.length - 1) rc) (w':=w4.setCell ⟨t,3,none⟩ (.slice (some ⟨g,0,none⟩) (o.row.length - 1) rc)) ((hm4.mono (S':=t :: (Value.slice (some ⟨g,0,none⟩) o.row.length rc).ownBlock.toList) (fun j hj=>by rw [List.mem_singleton.1 hj];simp [Value.ownBlock])).setCell (.inl (by simp)) _) (by simpa using s5)
      (ownsRow_local ho4 fun j hj=>heap_setCell_other w4 _ _ _ (by
       obtain rfl:g=j:=by simpa [Value.ownBlock] using hj
       exact fun e=>htg e.symm)) (fun _ h => .inl h)
     have q4:(w4.setCell ⟨t,3,none⟩ (.slice (some ⟨g,0,none⟩) (o.row.length - 1) rc)).cell? ⟨w.heap.size,4,none⟩=some (.int .u16 (o.row[k].id:Nat)):=by
      rw [World.cell?_of_block (w:=W3) ((heap_setCell_other w4 _ _ _ hpt).trans (hm4.block w.heap.size (by omega) (by simpa using hpg)))];exact r4
     have H5:=hyd h5;have HU5:=hyd (Upd.pre (bnext HB.out (Nat.le_refl _) HK3.out) hu5);clear ho4 hm4 ht4 s5 h5 hu5 r3 r4
     go_upto_region 13 with fail
     generalize w4.setCell ⟨t,3,none⟩ (.slice (some ⟨g,0,none⟩) (o.row.length - 1) rc)=W5 at *;obtain ⟨-,p5,-,-⟩:=H5.out.cells;clear f4 c4;refine wp_region_held_drew (S:=fun X=>X.cell? ⟨t,1,none⟩=some (.pointer (some ⟨p,0,none⟩))/\X.cell? ⟨w.heap.size,4,none⟩=some (.int .u16 (o.row[k].id:Nat))) (by kernel_rfl) ⟨p5,q4⟩ (fun hHeld => ?_);refine tA 0 (h:=tA 1 (h:=tA 2 (h:=tA 3 (h:=tA 4 (h:=tA 5 (h:=?_))))));simp only [tks];refine wpAnyH_ready (rs:=[6]) (by kernel_rfl) (by simp) ?_;refine AllReadyH.cons rfl (fun K hK => ?_) AllReadyH.nil;rw [if_pos (by rfl)];go_simp
     go_at_call 208
     have h6:=H5.out.below (Below.refl _ _).drew;refine (pool_free o.row[k].id p (idsOf o.row) FP _ h6.pool HIM.out).mono ?_;rintro e w6 ⟨rfl,hp6,hu6⟩;obtain ⟨h7,hu7⟩:=h6.turnP hp6 hu6;rw [HIE.out] at h7;have HF:Hid (AckDone w w6 t win most (oFoot t (.slice (some ⟨g,0,none⟩) o.row.length rc) FQ FP) (.returned (.tuple #[.slice none 0 0,.bool true])) (([],true),⟨o.wait,o.row.eraseIdx k⟩)):=hyd ⟨_,_,rfl,World.ownsRow_nil _ _ _ _,⟨q,p,_,FQ,FP,h7,HR.out.erase k,hw1,hw2,HWK.out,rfl⟩,(HU5.out.next (Below.refl _ _).drew).trans' hu7,fun j _=>by simp [Value.ownBlock]⟩;refine hK.out _ _ ⟨h7.cells.2.1,?_⟩ (fun _ => ?_)
     ·rw [World.cell?_of_block (w:=W5) (hu6.1.block w.heap.size (World.block_lt_of_cell? W5 _ q4) (fun h=>HNF.out (mem_oFoot.2 (.inr (.inr (.inl h))))))]
      exact q4
     refine wpAnyH_done (by kernel_rfl) ?_ _;clear h6 hp6 hu6 h7 hu7 q4 p5
     go_wp2_with fail
     go_ret2
     rw [HA.out];exact HF.out
   ·rw [if_neg hB] at HA
    have hne:(pk.ty == du)=false:=by rw [beq_eq_false_iff_ne];exact hB
    have hA5:pk.ty=5->du=4:=fun h=>by
     rcases HDU.out.1 with h1 | h1 | h1
     ·exact h1
     ·exact absurd ⟨h,.inl h1⟩ hA
     ·exact absurd ⟨h,.inr h1⟩ hA
    by_cases h5:pk.ty=5
    ·obtain rfl:=hA5 h5
     rw [h5] at HSP;clear hA hB hA5 hne h5;obtain ⟨w3c,-⟩:=HSP.out W (Below.refl _ _)
     go_enter Tryz.func127, Tryz.ntmps127
     go_wp2_with fail
     refine HN.out.mono ?_;rintro e w1 ⟨rfl,rfl⟩
     go_wp2_with fail
     refine HI.out.mono ?_;rintro e w2 ⟨rfl,hk2⟩;obtain ⟨s3,s24,s0,s4⟩:=HSP.out w2 hk2;have HK:=hyd hk2;unfold idxI;clear hk2
     go_wp2_with fail
     go_quiet (fail)
     go_wp2_with fail
     go_ret2
     rw [HA.out];exact ack_nil HH.out ((bnext HB.out (Nat.le_refl _) HK.out).trans (below_draws _))
    ·have h5':(pk.ty == 5)=false:=by rw [beq_eq_false_iff_ne];exact h5
     clear hA hB hA5 h5;obtain ⟨w3c,-⟩:=HSP.out W (Below.refl _ _)
     go_enter Tryz.func127, Tryz.ntmps127
     go_wp2_with fail
     refine HN.out.mono ?_;rintro e w1 ⟨rfl,rfl⟩
     go_wp2_with fail
     refine HI.out.mono ?_;rintro e w2 ⟨rfl,hk2⟩;obtain ⟨s3,s24,s0,s4⟩:=HSP.out w2 hk2;have HK:=hyd hk2;unfold idxI;clear hk2
     go_wp2_with fail
     go_quiet (fail)
     go_wp2_with fail
     go_ret2
     rw [HA.out];exact ack_nil HH.out ((bnext HB.out (Nat.le_refl _) HK.out).trans (below_draws _))
end
section
open Go Go.RowKit
theorem putO_yes {most:Int} {m:Msg} {o:OT} (h:mayP m=true):putO most m o=(decide ((o.wait.length:Int) < most),⟨pushL most o.wait m,o.row⟩):=by
 unfold putO pushL;rw [h,Bool.true_and]
 by_cases c:(o.wait.length:Int) < most
 ·simp [c]
 ·simp [c]
theorem putO_no {most:Int} {m:Msg} {o:OT} (h:mayP m=false):putO most m o=(false,o):=by
 unfold putO;rw [h];rfl
theorem WaitOk.push {most:Int} {m:Msg} {l:List Msg} (h:WaitOk l) (hm:mayP m=true) (hq:0<=m.q):WaitOk (pushL most l m):=by
 unfold pushL
 split
 ·intro x hx
  rcases List.mem_append.1 hx with hx | hx
  ·exact h x hx
  ·rw [List.mem_singleton.1 hx];exact ⟨hm,hq⟩
 ·exact h
theorem pid_one (m:Msg):pidOf m 1=idOf m:=rfl
set_option maxRecDepth 100000
set_option maxHeartbeats 2000000
theorem oput_any (t:Nat) (win most:Int) (o:OT) (F:List Nat) (m:Msg) (w:World) (h:OutRep w t win most o F) (hT:Tabs w) (hs:m.t.size+m.p.size<=200000000) (hq0:0<=m.q) :
  Calls Tryz.prog 129 #[.pointer (some ⟨t,0,none⟩),m.val] w fun e w'=>e = .returned (.bool (putO most m o).1) /\ ∃ F',OutRep w' t win most (putO most m o).2 F'/\Upd F F' w w':=by
 have hb:=low_alloc w (.cells m.cells.toArray 36);have hg:=heap_alloc_new w (.cells m.cells.toArray 36);obtain ⟨W,hW⟩:∃ W,w.alloc (.cells m.cells.toArray 36)=W:=⟨_,rfl⟩;rw [hW] at hb hg;have hsz:W.heap.size=w.heap.size+1:=by rw [<- hW];simp
 have h1:=h.below hb;have hnew:w.heap.size ∉ F:=fun hk=>by have:=h.lt _ hk;omega
 obtain ⟨q,p,v,FQ,FP,hp,hr,hw1,hw2,hwk,rfl⟩:=h1;have hS:∀ X:World,X.heap[t]? = W.heap[t]? -> X.heap[w.heap.size]? = W.heap[w.heap.size]? -> X.cell? ⟨t,0,none⟩=some (.pointer (some ⟨q,0,none⟩))/\X.rangeAt w.heap.size 0 m.cells:=fun X e1 e2=>⟨cell_of_row X t 0 _ _ _ (e1.trans hp.hd),range_blk (e2.trans hg)⟩
 have htl:=hp.ltt;have hqt:t ∉ FQ:=hp.tq;have hqn:w.heap.size ∉ FQ:=fun hk=>hnew (mem_oFoot.2 (.inr (.inl hk)))
 have HS:=hyd hS;have HP:=hyd hp;have HR:=hyd hr;have HWK:=hyd hwk;have HB:=hyd hb;have HT:=hyd (hT.below hb);have HON:=hyd (fun (X:World) (e:OutRep X t win most o (oFoot t v FQ FP))=>onone_any t win most o _ X e);have HOR:Hid (OutRep W t win most o (oFoot t v FQ FP)):=hyd ⟨q,p,v,FQ,FP,hp,hr,hw1,hw2,hwk,rfl⟩;have HLM:Hid ((Tryz.prog.info? 36).map (·.size)=some m.cells.length):=hyd (by kernel_rfl);have HRT:=hyd (right_pub m);have hWW:(w.alloc (.cells #[.string m.t,.string m.p,.int .u8 m.q,.bool m.r] 36))=W:=hW;have HMV:Hid (m.cells.toArray = #[.string m.t,.string m.p,.int .u8 m.q,.bool m.r]):=hyd rfl;obtain ⟨b,hb2⟩:∃ b,mayP m=b:=⟨_,rfl⟩;have HBM:=hyd hb2;clear hS hp hr hwk hb hg hW h hT hb2 hnew;unfold Msg.val
 go_enter Tryz.func129, Tryz.ntmps129
 go_upto_region 1 with fail
 refine wp_region_held_drew (S:=fun X=>X.cell? ⟨t,0,none⟩=some (.pointer (some ⟨q,0,none⟩))/\X.rangeAt w.heap.size 0 m.cells) (by kernel_rfl) (HS.out _ rfl rfl) (fun hHeld => ?_);refine tA 0 (h:=?_);simp only [tks];refine wpAnyH_ready (rs:=[1]) (by kernel_rfl) (by simp) ?_;refine AllReadyH.cons rfl (fun K hK => ?_) AllReadyH.nil;rw [if_pos (by rfl)];go_simp
 go_at_call 130
 refine (HON.out _ (HOR.out.below (Below.refl _ _).drew)).mono ?_;rintro e w1 ⟨rfl,rfl⟩;refine hK.out _ _ (HS.out _ rfl rfl) (fun hHeld => ?_);refine tA 2 (h:=tA 3 (h:=?_));simp only [tks];refine wpAnyH_take (i:=4) (v:=.agg m.cells.toArray) rfl (by kernel_rfl) (by kernel_rfl) (by kernel_rfl) (fun _ _ _ h=>h) (Or.inl ⟨rfl,?_⟩) hHeld ?_
 ·intro w0 hS0
  exact exec_load_row rfl rfl hS0.2 Tryz.underlying36 rfl HLM.out
 simp only [List.getElem_toArray,List.getElem_cons_zero,List.getElem_cons_succ,Act.put,List.setIfInBounds_toArray,List.set_cons_zero,List.set_cons_succ];refine wpAnyH_ready (rs:=[5]) (by kernel_rfl) (by simp) ?_;refine AllReadyH.cons rfl (fun K hK => ?_) AllReadyH.nil;rw [if_pos (by rfl)];go_simp
 go_at_call 133
 refine (opub_any m 1 _).mono ?_;rintro e w1 ⟨rfl,hk⟩;have hb1:Below W.heap.size W w1:=((Below.refl _ _).drew).trans hk;have HB1:=hyd hb1;rw [pid_one];refine hK.out _ _ (HS.out _ (HB1.out.block t htl) (HB1.out.block w.heap.size (by omega))) (fun hHeld => ?_);clear hk hb1;refine wpAnyH_ready (rs:=[6]) (by kernel_rfl) (by simp) ?_;refine AllReadyH.cons rfl (fun K hK => ?_) AllReadyH.nil;rw [if_pos (by rfl)];go_simp
 go_at_call 211
 refine (HRT.out _ (HT.out.below HB1.out) hs hq0).mono ?_;rintro e w2 ⟨rfl,hk⟩;have hs1:=HB1.out.size;have hb2:Below W.heap.size W w2:=HB1.out.trans (hk.mono hs1);have HB2:=hyd hb2;rw [HBM.out];refine hK.out _ _ (HS.out _ (HB2.out.block t htl) (HB2.out.block w.heap.size (by omega))) (fun hHeld => ?_);clear hk hb2 hs1
 cases b with
 | false =>
  refine tA 7 (h:=tA 8 (h:=sA 9 (h:=sA 10 (h:=sA 11 (h:=sA 12 (h:=sA 13 (h:=sA 14 (h:=tA 15 (h:=tA 16 (h:=?_))))))))));simp only [tks];refine wpAnyH_done (by kernel_rfl) ?_ _;clear hHeld
  go_wp2_with fail
  go_ret
  rw [putO_no HBM.out];refine ⟨rfl,_,HOR.out.below HB2.out,(Upd.of_below (HB.out.trans (HB2.out.mono (by omega))))⟩
 | true =>
  refine tA 7 (h:=tA 8 (h:=tA 9 (h:=tA 10 (h:=tA 11 (h:=tA 12 (h:=?_))))));simp only [tks];refine wpAnyH_take (i:=13) (v:=.agg m.cells.toArray) rfl (by kernel_rfl) (by kernel_rfl) (by kernel_rfl) (fun _ _ _ h=>h) (Or.inl ⟨rfl,?_⟩) hHeld ?_
  ·intro w0 hS0
   exact exec_load_row rfl rfl hS0.2 Tryz.underlying36 rfl HLM.out
  simp only [List.getElem_toArray,List.getElem_cons_zero,List.getElem_cons_succ,Act.put,List.setIfInBounds_toArray,List.set_cons_zero,List.set_cons_succ];refine wpAnyH_ready (rs:=[14]) (by kernel_rfl) (by simp) ?_;refine AllReadyH.cons rfl (fun K hK => ?_) AllReadyH.nil;rw [if_pos (by rfl)];go_simp
  go_at_call 212
  have hp2:=HP.out.below HB2.out;refine (qpush_u _ q o.wait most FQ m w2 hp2.queue rfl).mono ?_;rintro e w3 ⟨rfl,FQ',hq3,hu3⟩;obtain ⟨h3,hu⟩:=hp2.turnQ hq3 hu3;refine hK.out _ _ (HS.out _ ((hu3.1.block t (by have:=HB2.out.size;omega) hqt).trans (HB2.out.block t htl)) ((hu3.1.block w.heap.size (by have:=HB2.out.size;omega) hqn).trans (HB2.out.block w.heap.size (by omega)))) (fun hHeld => ?_);have HH3:=hyd h3;have HU:=hyd (Upd.pre (HB.out.trans (HB2.out.mono (by omega))) hu);clear h3 hu hq3 hu3 hp2;refine tA 15 (h:=tA 16 (h:=?_));simp only [tks];refine wpAnyH_done (by kernel_rfl) ?_ _;clear hHeld
  go_wp2_with fail
  go_ret
  rw [putO_yes HBM.out];exact ⟨rfl,_,⟨q,p,v,FQ',FP,HH3.out,HR.out,hw1,hw2,HWK.out.push HBM.out hq0,rfl⟩,HU.out⟩
end
end Go.Proofs.YtcekcoepdhnfgaaGreatDoor
