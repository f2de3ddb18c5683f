/- Hear: an item is done. -/
import Derived.Test.YtcekcoepdhnfgaaGreatDoorHHJ
import Derived.Test.YtcekcoepdhnfgaaGreatDoorHJ4
import Derived.Test.YtcekcoepdhnfgaaGreatDoorHoH4
import Derived.Test.YtcekcoepdhnfgaaGreatDoorHGY
import Derived.Test.YtcekcoepdhnfgaaGreatDoorHEX
import Derived.Test.YtcekcoepdhnfgaaGreatDoorHMX
namespace Go.Proofs.YtcekcoepdhnfgaaGreatDoor
open Go Go.RowKit Go.Maps
def Heard (c:HCfg) (ad:HAd) (E F:List Nat) (w:World) (T':Tn) (mv:Value) (w':World):Prop:=
 ∃ ad' L F',ad.like ad'/\HomeAt c ad' w' T' E F'/\Upd F F' w w'/\w'.ownsRow 0 46 40 mv L.length (hmlsV L)/\All2 (MailIs w' (E++F')) L T'.mails /\ ∀ j ∈ mv.ownBlock.toList,j ∉ E++F'
theorem heard_of {c:HCfg} {ad ad':HAd} {E F F1:List Nat} {w w':World} {tb:Nat} {T':Tn} (h:TurnAt c ad' w' tb T' E F1) (hl:ad.like ad') (hu:Upd F F1 w w') :
  ∃ mv,w'.cell? ⟨tb,2,none⟩=some mv/\Heard c ad E F w T' mv w':=by
 obtain ⟨mv,L,F',h1,h2,h3,h4,h5,h6⟩:=h.home;exact ⟨mv,by rw [cell_of_row _ _ 2 _ _ _ h3];rfl,ad',L,F',hl,h1,⟨hu.1,fun k hk=>hu.2 k (h2 k hk)⟩,h4,h5,h6⟩
theorem Heard.drew {c:HCfg} {ad:HAd} {E F:List Nat} {w w':World} {T':Tn} {mv:Value} (h:Heard c ad E F w T' mv w'):Heard c ad E F w T' mv w'.drew:=by
 obtain ⟨ad',L,F',h1,h2,h3,h4,h5,h6⟩:=h;have hb:Below w'.heap.size w' w'.drew:=(Below.refl _ _).drew;exact ⟨ad',L,F',h1,h2.below hb,h3.next hb,ownsRow_local h4 fun k hk=>hb.block k (h4.lt k hk).2,All2.mono (fun _ _ k=>k.upd (Upd.of_below hb)) h5,h6⟩
theorem item_hear {w:World} {b:Nat} {x:Item} (h:w.heap[b]? = some (.cells x.cells.toArray 44 (0,0))):w.cell? ⟨b,0,none⟩=some (.int .u8 x.kind)/\w.cell? ⟨b,1,none⟩=some (.int .i64 x.op)/\w.cell? ⟨b,3,none⟩=some (.string x.client):=
 ⟨by rw [cell_of_row _ _ 0 _ _ _ h];rfl,by rw [cell_of_row _ _ 1 _ _ _ h];rfl,by rw [cell_of_row _ _ 3 _ _ _ h];rfl⟩
structure COk (c:HCfg):Prop where
 n1:1<=c.n
 n2:c.n<=64
 most:1<=c.most/\c.most<=1024
 win:1<=c.win/\c.win<=1024
theorem wk_cells {w:World} {v1:SeV} {k:Wk} {left:Int} (hl:Lies w (wkPcs v1 k left)):w.cell? ⟨v1.wb,0,none⟩=some (.int .i64 (wkOp k))/\w.cell? ⟨v1.wb,26,none⟩=some (.int .u8 (wkKind k)):=by
 have h1:=hl.at' (cellPc v1.wb (wkC v1 k left) 110) (by cases k <;> simp [wkPcs])
 cases k <;> exact ⟨by rw [cell_of_row _ _ 0 _ _ _ h1];rfl,by rw [cell_of_row _ _ 26 _ _ _ h1];rfl⟩
set_option maxRecDepth 100000
set_option maxHeartbeats 4000000
theorem hear_any (w0:World) (hK:Keeps w0) (c:HCfg) (hc:COk c) (ad:HAd) (T:Tn) (E F:List Nat) (w:World) (x:Item) (k:Nat) (h:HomeAt c ad w T E F) (hB:Base w0 w F) (hi:HInv k T) (hk:k<=80) (hx:ItOk x) (hib:ItB w (E++F) x) :
  Calls Tryz.prog 13 #[.pointer (some ⟨ad.hb,0,none⟩),.pointer (some ⟨ad.lg,0,none⟩),.agg x.cells.toArray] w fun e w' => ∃ mv,e = .returned (.tuple #[mv,.bool (!refusedB x T)])/\Heard c ad E F w (hearT c x T.begin) mv w':=by
 have hi':=hi.begin;have hb1:=low_alloc w (.cells x.cells.toArray 44);have hx1:=heap_alloc_new w (.cells x.cells.toArray 44);obtain ⟨W,hW⟩:∃ W,w.alloc (.cells x.cells.toArray 44)=W:=⟨_,rfl⟩;rw [hW] at hb1 hx1;have hH1:=h.below hb1;have hb2:=low_alloc W (.cells #[bxV ad.hb,bxV ad.lg,.slice none 0 0] 100);have hx2:=heap_alloc_new W (.cells #[bxV ad.hb,bxV ad.lg,.slice none 0 0] 100);obtain ⟨W2,hW2⟩:∃ W2,W.alloc (.cells #[bxV ad.hb,bxV ad.lg,.slice none 0 0] 100)=W2:=⟨_,rfl⟩;rw [hW2] at hb2 hx2;have hT:=(hH1.turn hb2 hx2).below (Below.refl W2.heap.size W2).drew;have hsz:w.heap.size < W.heap.size:=(Array.getElem?_eq_some_iff.1 hx1).1;have hu:Upd F (W.heap.size :: F) w W2.drew:=⟨((Mod.of_below hb1 F).trans ((Mod.of_below hb2 F).trans (Mod.of_below (Below.refl W2.heap.size W2).drew F) fun _ h => .inl h) fun _ h => .inl h),fun q hq=>(List.mem_cons.1 hq).elim (fun e => .inr (by omega)) .inl⟩;have hx3:W2.drew.heap[w.heap.size]? = some (.cells x.cells.toArray 44 (0,0)):=(hb2.block _ hsz).trans hx1;have hB2:=hB.upd hu;have hib2:ItB W2.drew (E++(W.heap.size :: F)) x:=hib.upd (hu.ext E);obtain ⟨c6,-⟩:=home_c6 (hH1.below hb2);have c3':W2.cell? ⟨w.heap.size,3,none⟩=some (.string x.client):=(item_hear hx3).2.2;have hlk:=(hH1.below hb2).lookSeat (cl:=x.client) (by have:=hx.client;unfold maxLen;omega)
 have HCE:=hyd (fun X ad' F1 (hX:TurnAt c ad' X W.heap.size (hearT c x T.begin) E F1) (hl:ad.like ad') (hu':Upd (W.heap.size :: F) F1 W2.drew X)=>heard_of hX hl (hu.trans' hu'));have HX3:=hyd hx3;have HX4:=hyd hx3;have HC2:Hid (W2.drew.cell? ⟨W.heap.size,2,none⟩=some (.slice none 0 0)):=hyd (cell_of_row W2 W.heap.size 2 _ _ _ hx2);have HT:=hyd hT;have HB2:=hyd hB2;have HIB:=hyd hib2;have HLI:=hyd (item_size x);have HW:=hyd hW;have HW2:=hyd hW2;have HXO:=hyd hx;have HI:=hyd hi';have HK:=hyd hk;have HC:=hyd hc;have HKK:=hyd hK;have HRB:Hid (refusedB x T=refusedB x T.begin):=hyd rfl;have HM0:Hid (T.begin.mails = []):=hyd rfl;rw [show T.seat x.client=T.begin.seat x.client from rfl] at hlk;rw [HRB.out];clear h hB hi hk hx hib hi' hb1 hx1 hH1 hb2 hx2 hT hsz hu hx3 hB2 hib2 hW hW2 hc hK HRB;generalize T.begin=T1 at *
 have hlk3:(Instr.lookup 89 (.map (some ad.ms)) (.string x.client) false).run Tryz.prog W2.drew = .ok (ptrV ((T1.seat x.client).map fun _=>ad.seat x.client)) W2.drew:=by
  obtain ⟨v,hP,-⟩:=HT.out;exact hP.lookSeat (by have:=HXO.out.client;unfold maxLen;omega)
 obtain ⟨sv,hsv⟩:∃ sv,ptrV ((T1.seat x.client).map fun _=>ad.seat x.client)=sv:=⟨_,rfl⟩;rw [hsv] at hlk hlk3;have HSV:=hyd hsv;clear hsv;obtain ⟨c0,c1,-⟩:=item_hear HX3.out;generalize hIL:x.cells=IL at *;have HILE:=hyd hIL;clear hIL
 go_enter Tryz.func13, Tryz.ntmps13
 go_upto_region 1 with fail
 rw [HW.out]
 go_upto_region 4 with fail
 rw [show #[Value.pointer (some ⟨ad.hb,0,none⟩),Value.pointer (some ⟨ad.lg,0,none⟩),Value.slice none 0 0] = #[bxV ad.hb,bxV ad.lg,.slice none 0 0] from rfl];rw [HW2.out];have HSL:Hid (W2.drew.cell? ⟨ad.hb,6,none⟩=some (.map (some ad.ms))/\W2.drew.cell? ⟨w.heap.size,3,none⟩=some (.string x.client)/\(Instr.lookup 89 (.map (some ad.ms)) (.string x.client) false).run Tryz.prog W2.drew = .ok sv W2.drew):=hyd ⟨c6,c3',hlk3⟩;refine wp_region_held_drew (S:=fun X=>X.cell? ⟨ad.hb,6,none⟩=some (.map (some ad.ms))/\X.cell? ⟨w.heap.size,3,none⟩=some (.string x.client)/\(Instr.lookup 89 (.map (some ad.ms)) (.string x.client) false).run Tryz.prog X = .ok sv X) (by kernel_rfl) HSL.out (fun hHeld => ?_);refine tA 0 (h:=tA 1 (h:=tA 2 (h:=tA 3 (h:=tA 4 (h:=tA 5 (h:=?_))))));simp only [tks];refine tk 6 (v:=sv) ?_ hHeld ?_;· (intro w0 hS0;(try dsimp only at hS0);go_simp)
 simp only [tks];refine tA 7 (h:=?_);simp only [tks];refine wpAnyH_done (by kernel_rfl) ?_ _;clear hHeld HSL;clear c6 c3' hlk hlk3 HX3 HW HW2;have hc2:W2.drew.cell? ⟨W.heap.size,2,none⟩=some (.slice none 0 0):=HC2.out;generalize W2.drew=W3 at *;generalize W.heap.size=tb at *
 by_cases hkA:x.kind=1 \/ x.kind=2
 ·obtain ⟨rb,hrb⟩:∃ rb,refusedB x T1=rb:=⟨_,rfl⟩
  have HRB0:=hyd hrb
  cases rb
  case true =>
   obtain ⟨z,h0,hzb⟩:∃ z,T1.seat x.client=some z/\z.busy.isSome=true:=by
    unfold refusedB at hrb;rw [Bool.and_eq_true] at hrb
    cases h0:T1.seat x.client with
    | none=>rw [h0] at hrb;cases hrb.2
    | some z=>exact ⟨z,rfl,by rw [h0] at hrb;exact hrb.2⟩
   obtain ⟨kl,hzb⟩:=Option.isSome_iff_exists.1 hzb;obtain ⟨kk,left⟩:=kl;obtain ⟨v1,hse,-⟩:=HT.out.busyAt HI.out.ok.nd h0 hzb;have g1:W3.cell? ⟨ad.seat x.client,1,none⟩=some (.pointer (some ⟨v1.wb,0,none⟩)):=by rw [cell_of_row _ _ 1 _ _ _ hse];rfl
   have hsv:=HSV.out;rw [h0] at hsv;obtain rfl:.pointer (some ⟨ad.seat x.client,0,none⟩)=sv:=hsv;have HEQ:Hid (hearT c x T1=T1):=hyd (by unfold hearT;rw [if_pos hrb]);obtain ⟨mv,hmv,hh⟩:=HCE.out W3 ad _ (by rw [HEQ.out];exact HT.out) (HAd.like_refl ad) (Upd.refl _ _);obtain rfl:.slice none 0 0=mv:=Option.some.inj (hc2.symm.trans hmv);have HH:=hyd hh;clear hse hzb h0 hmv hh hrb HCE HSV
   rcases hkA with hk | hk
   all_goals
    rw [hk] at c0;clear hk
    go_wp2_with fail
    go_ret2
    exact ⟨_,by rw [HRB0.out];rfl,HH.out⟩
  case false =>
   have HEQ:Hid (hearT c x T1=askedT c x T1):=hyd (by unfold hearT;rw [if_neg (by rw [hrb];decide),if_pos hkA])
   have hbz:∀ z,T1.seat x.client=some z->z.busy=none:=fun z hz=>by
    unfold refusedB at hrb;rw [hz] at hrb;have h2:(decide (x.kind=1) || decide (x.kind=2))=true:=by simpa using hkA
    rw [h2,Bool.true_and] at hrb
    simpa using hrb
   have HAS:=hyd (asked_any w0 HKK.out c ad tb T1 E (tb :: F) W3 x HT.out HB2.out HI.out.ok HC.out.n1 HC.out.n2 HC.out.most HC.out.win hbz HXO.out HIB.out (by rw [HM0.out];decide) (by have:=HI.out.notes;have:=HK.out;omega) (by have:=HI.out.bd.s;have:=HK.out;omega) (by have:=HI.out.flows;have:=HK.out;omega) HI.out.ops0 (by have:=HI.out.ops1;have:=HK.out;omega) hkA);rw [HSV.out,HILE.out] at HAS
   have hsv3:sv = .pointer none \/ sv = .pointer (some ⟨ad.seat x.client,0,none⟩)/\W3.cell? ⟨ad.seat x.client,1,none⟩=some (.pointer none):=by
    have hsv:=HSV.out
    cases h0:T1.seat x.client with
    | none=>rw [h0] at hsv;exact .inl hsv.symm
    | some z =>
     rw [h0] at hsv;exact .inr ⟨hsv.symm,by rw [cell_of_row _ _ 1 _ _ _ (HT.out.seatHeap h0 (hbz z h0))];rfl⟩
   clear hbz hrb HSV
   rcases hkA with hk | hk <;> rcases hsv3 with rfl | ⟨rfl,g1⟩
   all_goals
    rw [hk] at c0;clear hk
    go_wp2_with (first
     | (refine wpList_load_row rfl 44 _ rfl w.heap.size rfl 44 IL.toArray _ _ HX4.out Tryz.underlying44 rfl HLI.out ?_)
     | fail)
    refine HAS.out.mono ?_;rintro e w4 ⟨rfl,ad',hl,F4,ht4,hu4⟩;obtain ⟨mv,hmv,hh⟩:=HCE.out w4 ad' F4 (by rw [HEQ.out];exact ht4) hl hu4;have HH:=hyd hh;clear hl ht4 hu4 hh
    go_wp2_with fail
    go_ret2
    exact ⟨_,by rw [HRB0.out];rfl,HH.out⟩
 ·have n1:(x.kind == 1)=false:=by simp only [beq_eq_false_iff_ne];omega
  have n2:(x.kind == 2)=false:=by simp only [beq_eq_false_iff_ne];omega
  have hrb:refusedB x T1=false:=by
   unfold refusedB;rw [show decide (x.kind=1)=false from decide_eq_false (by omega),show decide (x.kind=2)=false from decide_eq_false (by omega)]
   rfl
  have HRB0:=hyd hrb
  have HEQ0:Hid (hearT c x T1=if x.kind=4 \/ x.kind=8 \/ x.kind=9 then
    (match T1.seat x.client with
    | some ⟨s,some (k,left)⟩=>if wkKind k=x.kind/\wkOp k=x.op then answeredT c ⟨s,some (k,left)⟩ k left x T1 else T1
    | _=>T1)
   else if x.kind=11 then deliverT c x T1
   else if x.kind=10 \/ x.kind=12 then countedT c x T1
   else T1):=hyd (by unfold hearT;rw [hrb];rw [if_neg (by decide),if_neg hkA];rfl)
  clear hrb
  have HSK:Hid (hearT c x T1=T1->Heard c ad E F w (hearT c x T1) (.slice none 0 0) W3/\Heard c ad E F w (hearT c x T1) (.slice none 0 0) W3.drew):=hyd (fun e=>by
   obtain ⟨mv,hmv,hh⟩:=HCE.out W3 ad _ (by rw [e];exact HT.out) (HAd.like_refl ad) (Upd.refl _ _);obtain rfl:.slice none 0 0=mv:=Option.some.inj (hc2.symm.trans hmv)
   exact ⟨hh,hh.drew⟩)
  by_cases hkB:x.kind=4 \/ x.kind=8 \/ x.kind=9
  ·by_cases hm:∃ s k left,T1.seat x.client=some ⟨s,some (k,left)⟩/\wkKind k=x.kind/\wkOp k=x.op
   ·obtain ⟨s,kk,left,h0,hk1,hk2⟩:=hm
    have HEQ:Hid (hearT c x T1=answeredT c ⟨s,some (kk,left)⟩ kk left x T1):=hyd (by rw [HEQ0.out,if_pos hkB,h0];dsimp only;rw [if_pos ⟨hk1,hk2⟩]);obtain ⟨v1,hse,hli,-⟩:=HT.out.busyAt HI.out.ok.nd h0 rfl;have g1:W3.cell? ⟨ad.seat x.client,1,none⟩=some (.pointer (some ⟨v1.wb,0,none⟩)):=by rw [cell_of_row _ _ 1 _ _ _ hse];rfl
    obtain ⟨g2,g3⟩:=wk_cells hli;rw [hk2] at g2;rw [hk1] at g3;have hsv:=HSV.out;rw [h0] at hsv;obtain rfl:.pointer (some ⟨ad.seat x.client,0,none⟩)=sv:=hsv
    have hkn:keptN kk<=10 * k:=by
     cases kk with
     | sub y codes kept=>exact HI.out.bd.k _ (seat_at h0).1 y codes kept left rfl
     | _=>exact Nat.zero_le _
    have HAN0:=fun X (hb:Below W3.heap.size W3 X)=>answered_any w0 HKK.out c ad tb T1 E (tb :: F) X x.client ⟨s,some (kk,left)⟩ kk left x (HT.out.below hb) (HB2.out.below hb) HI.out.ok HC.out.n1 HC.out.n2 h0 rfl hk1 (by omega) HXO.out (HIB.out.upd (Upd.of_below hb)) (by have:=HK.out;omega) (by rw [HM0.out];decide) (by have:=HI.out.notes;have:=HK.out;omega) (by have:=HI.out.flows;have:=HK.out;omega) HI.out.ops0 (by have:=HI.out.ops1;have:=HK.out;omega)
    rw [HILE.out] at HAN0;have HAN:=hyd HAN0;have hc0:W3.drew.cell? ⟨w.heap.size,0,none⟩=some (.int .u8 x.kind):=c0;have hc1:W3.drew.cell? ⟨w.heap.size,1,none⟩=some (.int .i64 x.op):=c1;have HS0:Hid (W3.drew.cell? ⟨ad.seat x.client,1,none⟩=some (.pointer (some ⟨v1.wb,0,none⟩))/\W3.drew.cell? ⟨v1.wb,26,none⟩=some (.int .u8 x.kind)/\W3.drew.cell? ⟨v1.wb,0,none⟩=some (.int .i64 x.op)/\W3.drew.cell? ⟨w.heap.size,0,none⟩=some (.int .u8 x.kind)/\W3.drew.cell? ⟨w.heap.size,1,none⟩=some (.int .i64 x.op)):=hyd ⟨g1,g3,g2,hc0,hc1⟩;have HX5:Hid (W3.drew.heap[w.heap.size]? = some (.cells IL.toArray 44 (0,0))):=hyd HX4.out;clear hse hli h0 hk1 hk2 HSV HAN0 hkn HEQ0 HSK hc2 hc0 hc1 g1 g2 g3 c1;generalize ad.seat x.client=sq at *;generalize x.op=op at *;generalize x.kind=ki at *
    rcases hkB with hk | hk | hk
    case' inl=>have f4:(ki == 4)=true:=by simp [hk]
    case' inr.inl =>
     have f4:(ki == 4)=false:=by simp [hk]
     have f8:(ki == 8)=true:=by simp [hk]
    case' inr.inr =>
     have f4:(ki == 4)=false:=by simp [hk]
     have f8:(ki == 8)=false:=by simp [hk]
     have f9:(ki == 9)=true:=by simp [hk]
    all_goals
     clear hk hkA
     go_upto_region 14 with fail
     clear c0;refine wp_region_held_drew (S:=fun X=>X.cell? ⟨sq,1,none⟩=some (.pointer (some ⟨v1.wb,0,none⟩))/\X.cell? ⟨v1.wb,26,none⟩=some (.int .u8 ki)/\X.cell? ⟨v1.wb,0,none⟩=some (.int .i64 op)/\X.cell? ⟨w.heap.size,0,none⟩=some (.int .u8 ki)/\X.cell? ⟨w.heap.size,1,none⟩=some (.int .i64 op)) (by kernel_rfl) HS0.out (fun hHeld => ?_);refine tA 0 (h:=tA 1 (h:=tA 2 (h:=tA 3 (h:=tA 4 (h:=tA 5 (h:=tA 6 (h:=tA 7 (h:=tA 8 (h:=tA 9 (h:=tA 10 (h:=tA 11 (h:=tA 12 (h:=tA 13 (h:=tA 14 (h:=tA 15 (h:=tA 16 (h:=tA 17 (h:=tA 18 (h:=tA 19 (h:=tA 20 (h:=tA 21 (h:=tA 22 (h:=tA 23 (h:=tA 24 (h:=tA 25 (h:=tA 26 (h:=tA 27 (h:=tA 28 (h:=tA 29 (h:=tA 30 (h:=tA 31 (h:=tA 32 (h:=?_)))))))))))))))))))))))))))))))));simp only [tks];refine wpAnyH_done (by kernel_rfl) ?_ _;clear hHeld HS0
     go_wp2_with (first
      | (refine wpList_load_row rfl 44 _ rfl w.heap.size rfl 44 IL.toArray _ _ HX5.out Tryz.underlying44 rfl HLI.out ?_)
      | fail)
     refine (HAN.out W3.drew (Below.refl _ _).drew).mono ?_;rintro e w4 ⟨rfl,F4,ht4,hu4⟩;obtain ⟨mv,hmv,hh⟩:=HCE.out w4 ad F4 (by rw [HEQ.out];exact ht4) (HAd.like_refl ad) ((Upd.of_below (Below.refl _ _).drew).trans' hu4);have HH:=hyd hh;clear ht4 hu4 hh
     go_wp2_with fail
     go_ret2
     exact ⟨_,by rw [HRB0.out];rfl,HH.out⟩
   ·have HEQ:hearT c x T1=T1:=by
     rw [HEQ0.out,if_pos hkB]
     cases h0:T1.seat x.client with
     | none=>rfl
     | some z =>
      obtain ⟨s,bz⟩:=z
      cases bz with
      | none=>rfl
      | some kl =>
       obtain ⟨kk,left⟩:=kl;dsimp only;rw [if_neg (fun h=>hm ⟨s,kk,left,h0,h.1,h.2⟩)]
    have HH:=hyd (HSK.out HEQ).2
    have hway:sv = .pointer none \/ (∃ z,T1.seat x.client=some z)/\sv = .pointer (some ⟨ad.seat x.client,0,none⟩)/\(W3.drew.cell? ⟨ad.seat x.client,1,none⟩=some (.pointer none) \/ ∃ wb kd op,W3.drew.cell? ⟨ad.seat x.client,1,none⟩=some (.pointer (some ⟨wb,0,none⟩))/\W3.drew.cell? ⟨wb,26,none⟩=some (.int .u8 kd)/\W3.drew.cell? ⟨wb,0,none⟩=some (.int .i64 op)/\(kd ≠ x.kind \/ kd=x.kind/\op ≠ x.op)):=by
     have hsv:=HSV.out
     cases h0:T1.seat x.client with
     | none=>rw [h0] at hsv;exact .inl hsv.symm
     | some z =>
      rw [h0] at hsv;refine .inr ⟨⟨z,rfl⟩,hsv.symm,?_⟩
      cases hz:z.busy with
      | none =>
       refine .inl ?_;have:=HT.out.seatHeap h0 hz;exact (cell_of_row W3 _ 1 _ _ _ this).trans rfl
      | some kl =>
       obtain ⟨kk,left⟩:=kl;obtain ⟨v1,hse,hli,-⟩:=HT.out.busyAt HI.out.ok.nd h0 hz;obtain ⟨g2,g3⟩:=wk_cells hli;refine .inr ⟨v1.wb,wkKind kk,wkOp kk,(cell_of_row W3 _ 1 _ _ _ hse).trans rfl,g3,g2,?_⟩
       by_cases h1:wkKind kk=x.kind
       ·refine .inr ⟨h1,fun h2=>hm ⟨z.s,kk,left,?_,h1,h2⟩⟩
        rw [h0,<- hz]
       ·exact .inl h1
    have hc0:W3.drew.cell? ⟨w.heap.size,0,none⟩=some (.int .u8 x.kind):=c0;have hc1:W3.drew.cell? ⟨w.heap.size,1,none⟩=some (.int .i64 x.op):=c1;clear HEQ HEQ0 HSK HSV hm c1 HCE;generalize ad.seat x.client=sq at *;generalize x.op=op at *;generalize x.kind=ki at *
    rcases hkB with hk | hk | hk
    case' inl=>have f4:(ki == 4)=true:=by simp [hk]
    case' inr.inl =>
     have f4:(ki == 4)=false:=by simp [hk]
     have f8:(ki == 8)=true:=by simp [hk]
    case' inr.inr =>
     have f4:(ki == 4)=false:=by simp [hk]
     have f8:(ki == 8)=false:=by simp [hk]
     have f9:(ki == 9)=true:=by simp [hk]
    all_goals
     clear hk hkA
     go_upto_region 14 with fail
     clear c0
     rcases hway with rfl | ⟨-,rfl,g1 | ⟨wb,kd,op2,g1,g2,g3,g4 | ⟨rfl,g4⟩⟩⟩
     ·refine wp_region_held_drew (S:=fun X=>X.cell? ⟨w.heap.size,1,none⟩=some (.int .i64 op)) (by kernel_rfl) hc1 (fun hHeld => ?_)
      refine tA 0 (h:=tA 1 (h:=tA 2 (h:=sA 3 (h:=sA 4 (h:=sA 5 (h:=sA 6 (h:=sA 7 (h:=tA 8 (h:=tA 9 (h:=sA 10 (h:=sA 11 (h:=sA 12 (h:=sA 13 (h:=sA 14 (h:=sA 15 (h:=sA 16 (h:=sA 17 (h:=sA 18 (h:=sA 19 (h:=tA 20 (h:=tA 21 (h:=sA 22 (h:=sA 23 (h:=sA 24 (h:=sA 25 (h:=sA 26 (h:=sA 27 (h:=sA 28 (h:=sA 29 (h:=sA 30 (h:=sA 31 (h:=tA 32 (h:=?_)))))))))))))))))))))))))))))))));simp only [tks];refine wpAnyH_done (by kernel_rfl) ?_ _;clear hHeld hc0 hc1
      go_wp2_with fail
      go_ret2
      exact ⟨_,by rw [HRB0.out];rfl,HH.out⟩
     ·refine wp_region_held_drew (S:=fun X=>X.cell? ⟨sq,1,none⟩=some (.pointer none)) (by kernel_rfl) g1 (fun hHeld => ?_)
      refine tA 0 (h:=tA 1 (h:=tA 2 (h:=tA 3 (h:=tA 4 (h:=tA 5 (h:=tA 6 (h:=tA 7 (h:=tA 8 (h:=tA 9 (h:=sA 10 (h:=sA 11 (h:=sA 12 (h:=sA 13 (h:=sA 14 (h:=sA 15 (h:=sA 16 (h:=sA 17 (h:=sA 18 (h:=sA 19 (h:=tA 20 (h:=tA 21 (h:=sA 22 (h:=sA 23 (h:=sA 24 (h:=sA 25 (h:=sA 26 (h:=sA 27 (h:=sA 28 (h:=sA 29 (h:=sA 30 (h:=sA 31 (h:=tA 32 (h:=?_)))))))))))))))))))))))))))))))));simp only [tks];refine wpAnyH_done (by kernel_rfl) ?_ _;clear hHeld hc0 hc1 g1
      go_wp2_with fail
      go_ret2
      exact ⟨_,by rw [HRB0.out];rfl,HH.out⟩
     ·have gb:(kd == ki)=false:=by simpa using g4
      clear g4;refine wp_region_held_drew (S:=fun X=>X.cell? ⟨sq,1,none⟩=some (.pointer (some ⟨wb,0,none⟩))/\X.cell? ⟨wb,26,none⟩=some (.int .u8 kd)/\X.cell? ⟨w.heap.size,0,none⟩=some (.int .u8 ki)) (by kernel_rfl) ⟨g1,g2,hc0⟩ (fun hHeld => ?_);refine tA 0 (h:=tA 1 (h:=tA 2 (h:=tA 3 (h:=tA 4 (h:=tA 5 (h:=tA 6 (h:=tA 7 (h:=tA 8 (h:=tA 9 (h:=tA 10 (h:=tA 11 (h:=tA 12 (h:=tA 13 (h:=tA 14 (h:=tA 15 (h:=tA 16 (h:=tA 17 (h:=tA 18 (h:=tA 19 (h:=tA 20 (h:=tA 21 (h:=sA 22 (h:=sA 23 (h:=sA 24 (h:=sA 25 (h:=sA 26 (h:=sA 27 (h:=sA 28 (h:=sA 29 (h:=sA 30 (h:=sA 31 (h:=tA 32 (h:=?_)))))))))))))))))))))))))))))))));simp only [tks];refine wpAnyH_done (by kernel_rfl) ?_ _;clear hHeld hc0 hc1 g1 g2 g3 gb
      go_wp2_with fail
      go_ret2
      exact ⟨_,by rw [HRB0.out];rfl,HH.out⟩
     ·have gb:(op2 == op)=false:=by simpa using g4
      clear g4;refine wp_region_held_drew (S:=fun X=>X.cell? ⟨sq,1,none⟩=some (.pointer (some ⟨wb,0,none⟩))/\X.cell? ⟨wb,26,none⟩=some (.int .u8 kd)/\X.cell? ⟨w.heap.size,0,none⟩=some (.int .u8 kd)/\X.cell? ⟨wb,0,none⟩=some (.int .i64 op2)/\X.cell? ⟨w.heap.size,1,none⟩=some (.int .i64 op)) (by kernel_rfl) ⟨g1,g2,hc0,g3,hc1⟩ (fun hHeld => ?_);refine tA 0 (h:=tA 1 (h:=tA 2 (h:=tA 3 (h:=tA 4 (h:=tA 5 (h:=tA 6 (h:=tA 7 (h:=tA 8 (h:=tA 9 (h:=tA 10 (h:=tA 11 (h:=tA 12 (h:=tA 13 (h:=tA 14 (h:=tA 15 (h:=tA 16 (h:=tA 17 (h:=tA 18 (h:=tA 19 (h:=tA 20 (h:=tA 21 (h:=tA 22 (h:=tA 23 (h:=tA 24 (h:=tA 25 (h:=tA 26 (h:=tA 27 (h:=tA 28 (h:=tA 29 (h:=tA 30 (h:=tA 31 (h:=tA 32 (h:=?_)))))))))))))))))))))))))))))))));simp only [tks];refine wpAnyH_done (by kernel_rfl) ?_ _;clear hHeld hc0 hc1 g1 g2 g3 gb
      go_wp2_with fail
      go_ret2
      exact ⟨_,by rw [HRB0.out];rfl,HH.out⟩
  ·have m4:(x.kind == 4)=false:=by simp only [beq_eq_false_iff_ne];omega
   have m8:(x.kind == 8)=false:=by simp only [beq_eq_false_iff_ne];omega
   have m9:(x.kind == 9)=false:=by simp only [beq_eq_false_iff_ne];omega
   by_cases hk11:x.kind=11
   ·have HEQ:Hid (hearT c x T1=deliverT c x T1):=hyd (by rw [HEQ0.out,if_neg hkB,if_pos hk11])
    have HDE0:=deliver_any w0 HKK.out c ad tb T1 E (tb :: F) W3 x HT.out HB2.out HI.out.ok HC.out.n1 HC.out.n2 HXO.out HIB.out (HI.out.bd.k.mono (by have:=HK.out;omega)) (by rw [HM0.out];decide) (by have:=HI.out.notes;have:=HK.out;omega);rw [HILE.out] at HDE0;have HDE:=hyd HDE0;rw [hk11] at c0;clear HDE0 HEQ0 HSK HSV hc2 c1 hk11 hkB hkA n1 n2 m4 m8 m9
    go_wp2_with (first
     | (refine wpList_load_row rfl 44 _ rfl w.heap.size rfl 44 IL.toArray _ _ HX4.out Tryz.underlying44 rfl HLI.out ?_)
     | fail)
    refine HDE.out.mono ?_;rintro e w4 ⟨rfl,F4,ht4,hu4⟩;obtain ⟨mv,hmv,hh⟩:=HCE.out w4 ad F4 (by rw [HEQ.out];exact ht4) (HAd.like_refl ad) hu4;have HH:=hyd hh;clear ht4 hu4 hh
    go_wp2_with fail
    go_ret2
    exact ⟨_,by rw [HRB0.out];rfl,HH.out⟩
   ·have m11:(x.kind == 11)=false:=by simpa using hk11
    by_cases hk10:x.kind=10 \/ x.kind=12
    ·have HEQ:Hid (hearT c x T1=countedT c x T1):=hyd (by rw [HEQ0.out,if_neg hkB,if_neg hk11,if_pos hk10])
     have HCO0:Calls Tryz.prog 45 #[.pointer (some ⟨tb,0,none⟩),.agg x.cells.toArray] W3 fun e w'=>e = .returned (.tuple #[])/\TDone c ad tb E (tb :: F) W3 (countedT c x T1) w':=by
      cases hf:T1.flows.find? (fun f=>f.op == x.op) with
      | none=>exact counted_none c ad tb T1 E (tb :: F) W3 x HT.out HXO.out hf
      | some f=>exact counted_some c ad tb T1 E (tb :: F) W3 x f HT.out HI.out.ok HC.out.n1 HC.out.n2 HXO.out hf (by have h9:=HI.out.bd.f f (List.mem_of_find?_eq_some hf);have:=HK.out;omega) (by rw [HM0.out];decide) (by have:=HI.out.notes;have:=HK.out;omega)
     rw [HILE.out] at HCO0;have HCO:=hyd HCO0;clear HCO0 HEQ0 HSK HSV hc2 c1 hk11 hkB hkA
     rcases hk10 with hk | hk
     all_goals
      rw [hk] at c0;clear hk n1 n2 m4 m8 m9 m11
      go_wp2_with (first
       | (refine wpList_load_row rfl 44 _ rfl w.heap.size rfl 44 IL.toArray _ _ HX4.out Tryz.underlying44 rfl HLI.out ?_)
       | fail)
      refine HCO.out.mono ?_;rintro e w4 ⟨rfl,F4,ht4,hu4⟩;obtain ⟨mv,hmv,hh⟩:=HCE.out w4 ad F4 (by rw [HEQ.out];exact ht4) (HAd.like_refl ad) hu4;have HH:=hyd hh;clear ht4 hu4 hh
      go_wp2_with fail
      go_ret2
      exact ⟨_,by rw [HRB0.out];rfl,HH.out⟩
    ·have m10:(x.kind == 10)=false:=by simp only [beq_eq_false_iff_ne];omega
     have m12:(x.kind == 12)=false:=by simp only [beq_eq_false_iff_ne];omega
     have HH:=hyd (HSK.out (by rw [HEQ0.out,if_neg hkB,if_neg hk11,if_neg hk10])).1;clear HEQ0 HSK HSV c1 hk11 hkB hkA hk10;generalize x.kind=ki at *
     go_wp2_with fail
     go_ret2
     exact ⟨_,by rw [HRB0.out];rfl,HH.out⟩
end Go.Proofs.YtcekcoepdhnfgaaGreatDoor
