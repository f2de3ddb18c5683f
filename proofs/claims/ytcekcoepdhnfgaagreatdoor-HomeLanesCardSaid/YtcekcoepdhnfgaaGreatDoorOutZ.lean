/- packets; out: Resume. -/
import Derived.Test.YtcekcoepdhnfgaaGreatDoorPkO
import Derived.Test.YtcekcoepdhnfgaaGreatDoorMZ
import Derived.Test.YtcekcoepdhnfgaaGreatDoorOpen
import Derived.Deep.MidRow
import Derived.Deep.CutBlock
import Derived.Deep.RegionLaw
namespace Go.Proofs.YtcekcoepdhnfgaaGreatDoor
section
open Go Go.RowKit
theorem range_blk {w:World} {b:Nat} {cs:List Value} {T:TypeId} {fr:Nat × Nat} (h:w.heap[b]? = some (.cells cs.toArray T fr)):w.rangeAt b 0 cs:=fun j v hj=>by rw [Nat.zero_add,cell_of_row _ _ _ _ _ _ h];simpa using hj
theorem exec_load_row {P:Program} {ev:Operand->Value} {o:Oper} {w:World} {ty:TypeId} {x:Operand} {b i:Nat} {cs:List Value} {d:TypeDesc} (ho:o.op = .load ty x) (hx:ev x = .pointer (some ⟨b,i,none⟩)) (hc:w.rangeAt b i cs)
  (hu:P.underlying ty=some d) (hd:d.isRow=true) (hi:(P.info? ty).map (·.size)=some cs.length):(execOp ev o).run P w = .ok (Next.value (.agg cs.toArray)) w:=by
 unfold execOp;simp only [ho,hx,Instr.loadAt,Instr.sureAddr,Sem.run_bind,Sem.run_pure,Result.andThen_ok,run_loadVar_mid w b i ty cs d hc hu hd hi]
def Build1 (P:Program) (T e:TypeId) (NL:List Value):Prop:=∀ (o:Oper) (a:Act) (w:World) (K:Act->World->Prop) (Q:Exit->Act->World->Prop) (x:Operand),o.op = .buildSlice T 1 #[(0,x)]->a.eval x = .agg NL.toArray →
 K (a.put o.dst (.slice (some ⟨w.heap.size,0,none⟩) 1 1)) (w.alloc (.cells NL.toArray e))->o.wp P a w K Q
theorem row_mid {α:Type} {mk:α->List Value} {m:Nat} (hm:∀ a,(mk a).length=m) {w:World} {a:Option Addr} {l:List α} (h:Row w a (l.flatMap mk)) {k:Nat} (hk:k < l.length) (hpos:0 < m):∃ b o,a=some ⟨b,o,none⟩/\w.rangeAt b (o+k * m) (mk l[k]):=by
 have hat:∀ j,j < m->(l.flatMap mk)[k * m+j]? = (mk l[k])[j]?:=fun j hj=>by
  rw [flatMap_at hm l k j hj,List.getElem?_eq_getElem hk];rfl
 rcases h with h | ⟨b,o,rfl,hc⟩
 ·have h1:=hat 0 hpos
  rw [h,List.getElem?_eq_getElem (l:=mk l[k]) (by rw [hm];exact hpos)] at h1;simp at h1
 ·refine ⟨b,o,rfl,fun j v hj => ?_⟩
  have hjm:j < m:=by have:=(List.getElem?_eq_some_iff.1 hj).1;rw [hm] at this;exact this
  have:=hc (k * m+j) v (by rw [hat j hjm];exact hj)
  rwa [<- Nat.add_assoc] at this
theorem wpList_build1 {P:Program} {T e:TypeId} {NL:List Value} (hB:Build1 P T e NL) {ops:Array Oper} {rest:List Oper} {o:Oper} {a:Act} {w:World} {Q:Exit->Act->World->Prop} (hg:o.guard=none) (x:Operand) (ho:o.op = .buildSlice T 1 #[(0,x)]) (hx:a.eval x = .agg NL.toArray)
  (d:Option Tmp) (hd:o.dst=d) (nb:Nat) (hnb:w.heap.size=nb) (h:wpList P ops Q rest (a.put d (.slice (some ⟨nb,0,none⟩) 1 1)) (w.alloc (.cells NL.toArray e))):wpList P ops Q (o :: rest) a w:=by
 subst hd hnb;exact wpList_plain hg fun K hK=>hB o a w K Q x ho hx (hK _ _ h)
theorem wpList_loadMid {P:Program} {ops:Array Oper} {rest:List Oper} {op:Oper} {a:Act} {w:World} {Q:Exit->Act->World->Prop} (hgd:op.guard=none) (ty:TypeId) (x:Operand) (ho:op.op = .load ty x)
  (b o:Nat) (hx:a.eval x = .pointer (some ⟨b,o,none⟩)) (cs:List Value) (d:TypeDesc) (hc:w.rangeAt b o cs)
  (hu:P.underlying ty=some d) (hd:d.isRow=true) (hi:(P.info? ty).map (·.size)=some cs.length) (t:Option Tmp) (ht:op.dst=t)
  (h:wpList P ops Q rest (a.put t (.agg cs.toArray)) w):wpList P ops Q (op :: rest) a w:=by
 subst ht;exact wpList_load_mid hgd ty x ho b o hx cs d hc hu hd hi h
def QuietP (Q:Exit->Act->World->Prop):Prop:=∀ x (a a':Act) (w:World),Q (.panic x) a w->a.defers=a'.defers->Q (.panic x) a' w
theorem quiet_body {P:Program} {fn:Func} {R:Ending->World->Prop}:QuietP (bodyPost P fn R):=fun _ _ _ _ h e=>⟨e ▸ h.1,h.2⟩
theorem quiet_then {K:Act->World->Prop} {Q:Exit->Act->World->Prop} (h:QuietP Q):QuietP (Exit.then K Q):=fun x a a' w e=>h x a a' w e
theorem quiet_block {i:Nat} {Q:Exit->Act->World->Prop} (h:QuietP Q):QuietP (Exit.inBlock i Q):=fun x a a' w e=>h x a a' w e
def regionOf (k:Nat):Code->Option Code
 | .region id ops d=>bif Nat.beq id k then some (.region id ops d) else none
 | .seq a b=>match regionOf k a with
  | some c=>some c
  | none=>regionOf k b
 | .block _ c=>regionOf k c
 | .scope c=>regionOf k c
 | .loop c=>regionOf k c
 | .cond _ a b=>match regionOf k a with
  | some c=>some c
  | none=>regionOf k b
 | _=>none
theorem step_appR {P:Program} {t e:TypeId} {z:Value} {size bytes:Nat} (E:ElemT P t e z size bytes) {W:World} {B:Nat} {v:Value} {n:Nat} {xs:List Value} (hown:W.ownsRow B e size v n xs)
  {ad:Option Addr} {ys:List Value} {m c:Nat} (hrow:Row W ad ys)
  {ops:Array Oper} {o:Oper} {a:Act} {K:Act->World->Prop} {Q:Exit->Act->World->Prop} {E':Prop} (hgd:o.guard=none) {s x:Operand}
  (ho:o.op = .call { callee:=.builtin .append,args:=#[s,x],argTypes:=#[t,t] }) (hs:a.eval s=v) (hx:a.eval x = .slice ad m c)
  (hc:ys.length=m * size) (hm:0 < m) (h1:∀ u ∈ ys,u.oneCell'=true) (hbytes:(n+m) * bytes<=140737488355328) (hn:n+m < 140737488355328) (hB:B<=W.heap.size)
  (h:∀ g cap w',w'.ownsRow B e size (.slice (some ⟨g,0,none⟩) (n+m) cap) (n+m) (xs++ys)->W.grownBy w' v.ownBlock->(v.ownBlock=some g \/ g=W.heap.size)->g < w'.heap.size →
   K (a.put o.dst (.slice (some ⟨g,0,none⟩) (n+m) cap)) w') :
  if Region.wanted o (yielded ops a.tmps)=true then Oper.wp P o a W K Q else E':=by
 obtain ⟨i0,hi,hz0,hz1,hz2⟩:=info_parts E.hi
 rcases hrow with rfl | ⟨b,off,rfl,hcell⟩
 ·exfalso
  have:=Nat.mul_pos hm E.hsz;simp at hc;omega
 ·refine step_append_lies W hgd s x t ho B e i0 z size bytes E.ht hi hz0 hz1 hz2 E.hzs E.hsz v n xs hs hown ⟨b,off,none⟩ m c ys hx (by simp [hc]) ?_ h1 hm (by unfold maxLen;omega) hbytes hB W.heap.size rfl h
  intro j u hj;have e1:(⟨b,off,none⟩:Addr).add j=⟨b,off+j,none⟩:=by unfold Addr.add;split <;> simp_all
  rw [e1];exact hcell j u hj
theorem wpList_appR {P:Program} {t e:TypeId} {z:Value} {size bytes:Nat} (E:ElemT P t e z size bytes) {w:World} {B:Nat} {v:Value} {n:Nat} {xs:List Value} (hown:w.ownsRow B e size v n xs)
  {ad:Option Addr} {ys:List Value} {m c:Nat} (hrow:Row w ad ys)
  {ops:Array Oper} {rest:List Oper} {o:Oper} {a:Act} {Q:Exit->Act->World->Prop} {s x:Operand} (hgd:o.guard=none)
  (ho:o.op = .call { callee:=.builtin .append,args:=#[s,x],argTypes:=#[t,t] }) (hs:a.eval s=v) (hx:a.eval x = .slice ad m c) (d:Option Tmp) (hd:o.dst=d)
  (hc:ys.length=m * size) (hm:0 < m) (h1:∀ u ∈ ys,u.oneCell'=true) (hbytes:(n+m) * bytes<=140737488355328) (hn:n+m < 140737488355328) (hB:B<=w.heap.size)
  (h:∀ g cap w',w'.ownsRow B e size (.slice (some ⟨g,0,none⟩) (n+m) cap) (n+m) (xs++ys)->w.grownBy w' v.ownBlock->(v.ownBlock=some g \/ w.heap.size<=g)->g < w'.heap.size →
   wpList P ops Q rest (a.put d (.slice (some ⟨g,0,none⟩) (n+m) cap)) w'):wpList P ops Q (o :: rest) a w:=by
 subst hd;refine wpList_step fun K hK=>step_appR E hown hrow hgd ho hs hx hc hm h1 hbytes hn hB fun g cap w' h2 h3 h4 h5=>hK _ _ (h g cap w' h2 h3 (h4.imp id fun e => ?_) h5)
 rw [e];exact Nat.le_refl _
theorem exec_build {P:Program} {ev:Operand->Value} {o:Oper} {w:World} (t:TypeId) (parts:Array (Nat × Operand)) (ho:o.op = .build t parts) (cells:Array Value) (ps:List (Nat × Value)) (hps:(parts.map fun (i,x)=>(i,ev x)).toList=ps)
  (hf:P.built t ps=some cells):(execOp ev o).run P w = .ok (Next.value (.agg cells)) w:=by
 subst hps;unfold execOp;simp only [ho,Sem.run_bind,run_build w t _ cells hf,Result.andThen_ok,Sem.run_pure]
end
section
section
open Go Go.RowKit
theorem pk_size' (x:Pkt):(Tryz.prog.info? 39).map (·.size)=some x.cells.length:=show _=some 24 by kernel_rfl
theorem built_pub (m:Msg) (id:Int) (d:Bool):Tryz.prog.built 39 [(1,.bool d),(2,.int .u8 m.q),(3,.bool m.r),(4,.int .u16 id),(5,.string m.t),(6,.string m.p)]=some ({ pubK m id d with ty:=0 }:Pkt).cells.toArray:=by
 obtain ⟨t,p,q,r⟩:=m
 kernel_rfl
theorem pub_ty (m:Msg) (id:Int) (d:Bool):({ pubK m id d with ty:=0 }:Pkt).cells.set 0 (.int .u8 3)=(pubK m id d).cells:=rfl
set_option maxRecDepth 100000
set_option maxHeartbeats 2000000
theorem bare_pub (m:Msg) (id:Int) (d:Bool) (w:World):Calls Tryz.prog 315 #[.agg (pubK m id d).cells.toArray] w fun e w'=>e = .returned (.bool true)/\Below w.heap.size w w':=by
 have hX:=heap_alloc_new w (.cells (pubK m id d).cells.toArray 39);have hb1:=low_alloc w (.cells (pubK m id d).cells.toArray 39);have HXO:=hyd (fun o=>((low_alloc (w.alloc (.cells (pubK m id d).cells.toArray 39)) o).block w.heap.size (by simp)).trans hX)
 have HS:Hid (∀ X,Below (w.heap.size+2) ((w.alloc (.cells (pubK m id d).cells.toArray 39)).alloc (.cells (pubK m id d).cells.toArray 39)) X->X.rangeAt w.heap.size 0 (pubK m id d).cells/\X.rangeAt (w.heap.size+1) 0 (pubK m id d).cells):=hyd (fun X hX2=>by
  refine ⟨range_blk ((hX2.block _ (by omega)).trans (HXO.out _)),range_blk (T:=39) (fr:=(0,0)) ((hX2.block _ (by omega)).trans ?_)⟩;have h9:=heap_alloc_new (w.alloc (.cells (pubK m id d).cells.toArray 39)) (.cells (pubK m id d).cells.toArray 39)
  rwa [World.size_alloc] at h9)
 have HBB:Hid (Below w.heap.size w ((w.alloc (.cells (pubK m id d).cells.toArray 39)).alloc (.cells (pubK m id d).cells.toArray 39))):=hyd (hb1.alloc (by simp) _);have HBU:=hyd (fun (_:Unit)=>built_pub m id d);have HTY:=hyd (pub_ty m id d);have hsz:(w.alloc (.cells (pubK m id d).cells.toArray 39)).heap.size=w.heap.size+1:=by simp
 have HPL:=hyd (plain_any (pubK m id d));have HEQ:=hyd (flat_eql (pubK m id d));have HLS:=hyd (pk_size' (pubK m id d));have H24:Hid ((24:Nat)=({ pubK m id d with ty:=0 }:Pkt).cells.toArray.size):=hyd rfl;have HFS:=hyd (pk_size ({ pubK m id d with ty:=0 }:Pkt));have HF1:=hyd (pk_one ({ pubK m id d with ty:=0 }:Pkt));obtain ⟨x0,x1,x2,x3,x4,x5,x6⟩:=pk_cells hX;obtain ⟨-,-,-,-,-,-,-,-,-,-,-,-,-,-,-,x22,-⟩:=pk_cells2 hX;have y0:=fun o=>(pk_cells (HXO.out o)).1
 have y1:=fun o=>(pk_cells (HXO.out o)).2.1
 have y2:=fun o=>(pk_cells (HXO.out o)).2.2.1
 have y3:=fun o=>(pk_cells (HXO.out o)).2.2.2.1
 have y4:=fun o=>(pk_cells (HXO.out o)).2.2.2.2.1
 have y5:=fun o=>(pk_cells (HXO.out o)).2.2.2.2.2.1
 have y6:=fun o=>(pk_cells (HXO.out o)).2.2.2.2.2.2
 have hzz:=heap_alloc_new (w.alloc (.cells (pubK m id d).cells.toArray 39)) (.cells ({ pubK m id d with ty:=0 }:Pkt).cells.toArray 39);rw [hsz] at hzz;have fz:=frozen_of_row _ _ 0 _ _ hzz;have cz:((w.alloc (.cells (pubK m id d).cells.toArray 39)).alloc (.cells ({ pubK m id d with ty:=0 }:Pkt).cells.toArray 39)).cell? ⟨w.heap.size+1,0,none⟩=some (.int .u8 0):=cell_of_row _ _ 0 _ _ _ hzz;replace x22:(w.alloc (.cells (pubK m id d).cells.toArray 39)).cell? ⟨w.heap.size,22,none⟩=some (.slice none 0 0):=x22;generalize (pubK m id d).cells=XL at *;generalize ({ pubK m id d with ty:=0 }:Pkt).cells=YL at *;generalize (flatC (pubK m id d)).toArray=FC at *;dsimp only [pubK] at x0 x1 x2 x3 x4 x5 x6 y0 y1 y2 y3 y4 y5 y6;have HZ:Hid (pkZ.cells.toArray.size=24):=hyd rfl;clear hX hb1 HXO hsz hzz
 go_enter Tryz.func315, Tryz.ntmps315
 go_upto_region 18 with (first
  | (refine wpList_buildBy rfl 39 _ rfl _ rfl YL.toArray [(1,.bool d),(2,.int .u8 m.q),(3,.bool m.r),(4,.int .u16 id),(5,.string m.t),(6,.string m.p)] (by kernel_rfl) (HBU.out ()) ?_)
  | (refine wpList_store_newTo rfl 39 _ _ rfl rfl (w.heap.size+1) (by simp) YL.toArray _ rfl rfl HFS.out H24.out HF1.out ?_)
  | fail)
 rw [HTY.out];obtain ⟨W,hW⟩:∃ W,(w.alloc (.cells XL.toArray 39)).alloc (.cells XL.toArray 39)=W:=⟨_,rfl⟩;have hWs:W.heap.size=w.heap.size+2:=by rw [<- hW];simp
 rw [hW] at HS HBB ⊢;clear hW x0 x1 x2 x3 x4 x5 x6 x22 y0 y1 y2 y3 y4 y5 y6 fz cz;refine wp_region_held_drew (S:=fun X=>X.rangeAt w.heap.size 0 XL/\X.rangeAt (w.heap.size+1) 0 XL) (by kernel_rfl) (HS.out W (Below.refl _ _)) (fun hHeld => ?_);refine wpAnyH_take (i:=0) (v:=.agg XL.toArray) rfl (by kernel_rfl) (by kernel_rfl) (by kernel_rfl) (fun _ _ _ h=>h) (Or.inl ⟨rfl,?_⟩) hHeld ?_
 ·intro w0 hS0
  exact exec_load_row rfl rfl hS0.1 Tryz.underlying39 rfl HLS.out
 simp only [List.getElem_toArray,List.getElem_cons_zero,Act.put,List.setIfInBounds_toArray,List.set_cons_zero,List.set_cons_succ];refine wpAnyH_take (i:=2) (v:=.agg XL.toArray) rfl (by kernel_rfl) (by kernel_rfl) (by kernel_rfl) (fun _ _ _ h=>h) (Or.inl ⟨rfl,?_⟩) hHeld ?_
 ·intro w0 hS0
  exact exec_load_row rfl rfl hS0.2 Tryz.underlying39 rfl HLS.out
 simp only [List.getElem_toArray,List.getElem_cons_zero,List.getElem_cons_succ,Act.put,List.setIfInBounds_toArray,List.set_cons_zero,List.set_cons_succ];refine wpAnyH_ready (rs:=[1]) (by kernel_rfl) (by simp) ?_;refine AllReadyH.cons rfl (fun K hK => ?_) AllReadyH.nil;rw [if_pos (by rfl)];go_simp
 go_at_call 341
 refine (HPL.out _).mono ?_;rintro e w1 ⟨rfl,hk⟩;have hb1:Below (w.heap.size+2) W w1:=by rw [<- hWs];exact ((Below.refl _ _).drew).trans hk
 have HB1:=hyd hb1;clear hk hb1 hHeld;refine hK.out _ _ (HS.out _ HB1.out) (fun hHeld => ?_);have hs1:=HB1.out.size;refine wpAnyH_ready (rs:=[3]) (by kernel_rfl) (by simp) ?_;refine AllReadyH.cons rfl (fun K hK => ?_) AllReadyH.nil;rw [if_pos (by rfl)];go_simp
 go_at_call 341
 refine (HPL.out _).mono ?_;rintro e w2 ⟨rfl,hk⟩;have hb2:Below (w.heap.size+2) W w2:=HB1.out.trans (hk.mono (by omega));have HB2:=hyd hb2;clear hk hb2 hHeld;refine hK.out _ _ (HS.out _ HB2.out) (fun hHeld => ?_);have hcmp:=fun w=>HEQ.out w
 refine tA 4 (h:=tA 5 (h:=?_));simp only [tks];refine wpAnyH_done (by kernel_rfl) ?_ _;clear hHeld hcmp
 go_wp2_with fail
 go_ret
 exact ⟨rfl,HBB.out.trans (HB2.out.mono (by omega))⟩
end
section
open Go Go.RowKit
set_option maxRecDepth 100000
set_option maxHeartbeats 2000000
theorem rest_pub (m:Msg) (w:World) (hT:Tabs w) (hs:m.t.size+m.p.size<=200000000) (hq0:0<=m.q) :
  Calls Tryz.prog 275 #[.agg (pubK m (idOf m) false).cells.toArray] w fun e w'=>e = .returned (.int .i64 (restP m))/\Below w.heap.size w w':=by
 have hb:=low_alloc w (.cells (pubK m (idOf m) false).cells.toArray 39);have hX:=heap_alloc_new w (.cells (pubK m (idOf m) false).cells.toArray 39);have HPP:=hyd (ppub_any m _ (hT.below hb) hs hq0);have HBP:=hyd (bare_pub m (idOf m) false)
 have hRS:restP m = -1 \/ (0<=restP m/\restP m<=268435455):=by
  unfold restP
  split
  ·right;split <;> omega
  ·exact .inl rfl
 obtain ⟨W,hW⟩:∃ W,w.alloc (.cells (pubK m (idOf m) false).cells.toArray 39)=W:=⟨_,rfl⟩;have hWs:W.heap.size=w.heap.size+1:=by rw [<- hW];simp
 obtain ⟨x0,-⟩:=pk_cells hX;have HLS:=hyd (pk_size (pubK m (idOf m) false));have HX:=hyd hX;have HB:=hyd hb;rw [hW] at HPP HX HB x0;have HRG:=hyd (fun X h=>range_blk (w:=X) (b:=w.heap.size) (cs:=(pubK m (idOf m) false).cells) (T:=39) (fr:=(0,0)) h);generalize (pubK m (idOf m) false).cells=XL at *;replace x0:W.cell? ⟨w.heap.size,0,none⟩=some (.int .u8 3):=x0;obtain ⟨n,hn⟩:∃ n,restP m=n:=⟨_,rfl⟩;rw [hn] at HPP hRS ⊢;clear hX hb hn
 go_enter Tryz.func275, Tryz.ntmps275
 go_wp2_with (first
  | (refine wpList_load_row rfl 39 _ rfl w.heap.size rfl 39 XL.toArray _ _ HX.out Tryz.underlying39 rfl HLS.out ?_)
  | fail)
 refine HPP.out.mono ?_;rintro e w1 ⟨rfl,hk⟩;have hb1:=bnext HB.out (Nat.le_refl _) hk;have h1:=(hk.block w.heap.size (by omega)).trans HX.out;have H1:=hyd h1;have HB1:=hyd hb1;clear h1 hb1 hk
 rcases hRS with rfl | ⟨hn1,hn2⟩
 ·go_wp2_with fail
  go_ret
  exact ⟨rfl,HB1.out⟩
 ·have hn3:decide (n < 0)=false:=decide_eq_false (by omega)
  have hn4:decide (268435455 < n)=false:=decide_eq_false (by omega);clear hn1 hn2
  go_wp2_with (first
   | (refine wpList_loadG (by kernel_rfl) 39 _ rfl w.heap.size rfl 39 XL.toArray _ _ H1.out Tryz.underlying39 rfl HLS.out ?_)
   | fail)
  refine (HBP.out _).mono ?_;rintro e w2 ⟨rfl,hk⟩;have HB2:=hyd (bnext HB1.out (Nat.le_refl _) hk);clear hk
  go_wp2_with fail
  go_ret
  exact ⟨rfl,HB2.out⟩
theorem right_pub (m:Msg) (w:World) (hT:Tabs w) (hs:m.t.size+m.p.size<=200000000) (hq0:0<=m.q) :
  Calls Tryz.prog 211 #[.agg (pubK m (idOf m) false).cells.toArray] w fun e w'=>e = .returned (.bool (mayP m))/\Below w.heap.size w w':=by
 have hb:=low_alloc w (.cells (pubK m (idOf m) false).cells.toArray 39);have hX:=heap_alloc_new w (.cells (pubK m (idOf m) false).cells.toArray 39);have HRR:=hyd (rest_pub m _ (hT.below hb) hs hq0)
 have HRS:Hid (decide (0<=restP m)=mayP m):=hyd (by
  unfold restP
  split
  ·rename_i h
   rw [h]
   split <;> (rw [decide_eq_true];omega)
  ·rename_i h
   simp at h
   rw [h];rfl)
 have HLS:=hyd (pk_size (pubK m (idOf m) false));have HX:=hyd hX;have HB:=hyd hb;generalize (pubK m (idOf m) false).cells=XL at *;generalize restP m=n at *;clear hX hb
 go_enter Tryz.func211, Tryz.ntmps211
 go_wp2_with (first
  | (refine wpList_load_row rfl 39 _ rfl w.heap.size rfl 39 XL.toArray _ _ HX.out Tryz.underlying39 rfl HLS.out ?_)
  | fail)
 refine HRR.out.mono ?_;rintro e w1 ⟨rfl,hk⟩;have HB1:=hyd (bnext HB.out (Nat.le_refl _) hk);clear hk
 go_wp2_with fail
 go_ret
 exact ⟨ret_bool (by rw [<- HRS.out]),HB1.out⟩
end
section
open Go Go.RowKit
theorem setRow_low {w0 w:World} {g:Nat} (hb:Below w0.heap.size w0 w) (h:w0.heap.size<=g) (cs:Array Value):Below w0.heap.size w0 (w.setRow g cs):=
 hb.trans ((mod_setRow (Mod.refl [g] w) (.inl (by simp)) cs).below hb.size (by simpa using h))
def pidOf (m:Msg) (id:Int):Int:=if 0 < m.q then id else 0
theorem built_msg (m:Msg):Tryz.prog.built 39 [(0,.int .u8 3),(5,.string m.t),(6,.string m.p),(2,.int .u8 m.q),(3,.bool m.r)]=some (pubK m 0 false).cells.toArray:=by
 obtain ⟨t,p,q,r⟩:=m
 kernel_rfl
theorem pub_id (m:Msg) (id:Int):(pubK m 0 false).cells.set 4 (.int .u16 id)=(pubK m id false).cells:=rfl
set_option maxRecDepth 100000
set_option maxHeartbeats 2000000
theorem opub_any (m:Msg) (id:Int) (w:World):Calls Tryz.prog 133 #[m.val,.int .u16 id] w fun e w'=>e = .returned (.agg (pubK m (pidOf m id) false).cells.toArray)/\Below w.heap.size w w':=by
 have hW:=low_alloc w (.cells m.cells.toArray 36);have hm:=heap_alloc_new w (.cells m.cells.toArray 36);obtain ⟨W,hWe⟩:∃ W,w.alloc (.cells m.cells.toArray 36)=W:=⟨_,rfl⟩;have hsz:W.heap.size=w.heap.size+1:=by rw [<- hWe];simp
 rw [hWe] at hW hm;have HW:=hyd hW;have HM:=hyd hm;have HBU:=hyd (fun (_:Unit)=>built_msg m);have hid4:=pub_id m id;have HFS:=hyd (pk_size (pubK m 0 false));have HF1:=hyd (pk_one (pubK m 0 false));have HFS':=hyd (pk_size (pubK m id false));have HF1':=hyd (pk_one (pubK m id false));have HY4:Hid ((pubK m 0 false).cells.toArray[4]? = some (.int .u16 0)):=hyd rfl;have H24:Hid ((24:Nat)=(pubK m 0 false).cells.toArray.size):=hyd rfl;have H24':Hid ((24:Nat)=(pubK m id false).cells.toArray.size):=hyd rfl;have HP0:Hid (¬ 0 < m.q->(pubK m (pidOf m id) false).cells.toArray=(pubK m 0 false).cells.toArray):=hyd (fun h=>by unfold pidOf;rw [if_neg h]);have HP1:Hid (0 < m.q->(pubK m (pidOf m id) false).cells.toArray=(pubK m id false).cells.toArray):=hyd (fun h=>by unfold pidOf;rw [if_pos h]);have g0:=fun o=>((low_alloc W o).cell (p:=⟨w.heap.size,0,none⟩) (by show w.heap.size < W.heap.size;omega)).trans (cell_of_row _ _ 0 _ _ _ hm)
 have g1:=fun o=>((low_alloc W o).cell (p:=⟨w.heap.size,1,none⟩) (by show w.heap.size < W.heap.size;omega)).trans (cell_of_row _ _ 1 _ _ _ hm)
 have g2:=fun o=>((low_alloc W o).cell (p:=⟨w.heap.size,2,none⟩) (by show w.heap.size < W.heap.size;omega)).trans (cell_of_row _ _ 2 _ _ _ hm)
 have g3:=fun o=>((low_alloc W o).cell (p:=⟨w.heap.size,3,none⟩) (by show w.heap.size < W.heap.size;omega)).trans (cell_of_row _ _ 3 _ _ _ hm)
 have g2':=fun o o'=>((bnext (low_alloc W o) (Nat.le_refl _) (low_alloc _ o')).cell (p:=⟨w.heap.size,2,none⟩) (by show w.heap.size < W.heap.size;omega)).trans (cell_of_row _ _ 2 _ _ _ hm)
 simp only [Msg.cells,List.getElem?_toArray,List.getElem?_cons_zero,List.getElem?_cons_succ] at g0 g1 g2 g3 g2' hWe;have hWW:(w.alloc (.cells #[.string m.t,.string m.p,.int .u8 m.q,.bool m.r] 36))=W:=hWe
 have HNW:=hyd (fun o cs=>(by
  have h9:=heap_alloc_new (W.alloc o) (.cells cs 39)
  rwa [World.size_alloc] at h9:((W.alloc o).alloc (.cells cs 39)).heap[W.heap.size+1]? = some (.cells cs 39 (0,0))))
 have HOL:=hyd (fun cs o=>(Below.heap_alloc (W.alloc (.cells cs 39)) o W.heap.size (by simp)).trans (heap_alloc_new W (.cells cs 39)));have HBE:=hyd (fun o o'=>bnext hW (Nat.le_refl _) (bnext (low_alloc W o) (Nat.le_refl _) (low_alloc _ o')));generalize (pubK m 0 false).cells=YL at *;generalize (pubK m id false).cells=ZL at *;generalize (pubK m (pidOf m id) false).cells=RL at *;have fz:=fun o=>frozen_of_row _ _ 4 _ _ (HNW.out o YL.toArray)
 have cz:∀ o,((W.alloc o).alloc (.cells YL.toArray 39)).cell? ⟨W.heap.size+1,4,none⟩=some (.int .u16 0):=fun o=>(cell_of_row _ _ 4 _ _ _ (HNW.out o YL.toArray)).trans HY4.out
 have HSZ:=hyd hsz;clear hW hm hWe hsz;unfold Msg.val
 by_cases h0:0 < m.q
 ·skip
  go_enter Tryz.func133, Tryz.ntmps133
  go_wp2_with (first
   | (refine wpList_buildBy rfl 39 _ rfl _ rfl YL.toArray [(0,.int .u8 3),(5,.string m.t),(6,.string m.p),(2,.int .u8 m.q),(3,.bool m.r)] (by kernel_rfl) (HBU.out ()) ?_)
   | (refine wpList_store_newTo rfl 39 _ _ rfl rfl (W.heap.size+1) (by simp) YL.toArray _ rfl rfl HFS.out H24.out HF1.out ?_)
   | (refine wpList_load_row rfl 39 _ rfl (W.heap.size+1) rfl 39 ZL.toArray _ _ (HNW.out _ _) Tryz.underlying39 rfl HFS'.out ?_)
   | (refine wpList_store_rowTo rfl 39 _ _ rfl rfl W.heap.size ZL.toArray rfl rfl 39 _ (HOL.out _ _) HFS'.out H24'.out HF1'.out ?_)
   | fail)
  refine bodyPost_ret (results_cell_row rfl _ _ W.heap.size 39 ZL.toArray (0,0) _ rfl (setRow_heap _ _ _ _ _ _ (HOL.out _ _)) Tryz.underlying39 rfl HFS'.out) rfl ⟨by rw [HP1.out h0],?_⟩;exact setRow_low (HBE.out _ _) (by rw [HSZ.out];omega) _
 ·skip
  go_enter Tryz.func133, Tryz.ntmps133
  go_wp2_with (first
   | (refine wpList_buildBy rfl 39 _ rfl _ rfl YL.toArray [(0,.int .u8 3),(5,.string m.t),(6,.string m.p),(2,.int .u8 m.q),(3,.bool m.r)] (by kernel_rfl) (HBU.out ()) ?_)
   | (refine wpList_store_newTo rfl 39 _ _ rfl rfl (W.heap.size+1) (by simp) YL.toArray _ rfl rfl HFS.out H24.out HF1.out ?_)
   | (refine wpList_load_row rfl 39 _ rfl (W.heap.size+1) rfl 39 YL.toArray _ _ (HNW.out _ _) Tryz.underlying39 rfl HFS.out ?_)
   | (refine wpList_store_rowTo rfl 39 _ _ rfl rfl W.heap.size YL.toArray rfl rfl 39 _ (HOL.out _ _) HFS.out H24.out HF1.out ?_)
   | fail)
  refine bodyPost_ret (results_cell_row rfl _ _ W.heap.size 39 YL.toArray (0,0) _ rfl (setRow_heap _ _ _ _ _ _ (HOL.out _ _)) Tryz.underlying39 rfl HFS.out) rfl ⟨by rw [HP0.out h0],?_⟩;exact setRow_low (HBE.out _ _) (by rw [HSZ.out];omega) _
theorem opub_zero (m:Msg) (w:World):Calls Tryz.prog 133 #[m.val,.int .u16 0] w fun e w'=>e = .returned (.agg (pubK m 0 false).cells.toArray)/\Below w.heap.size w w':=by
 have h:=opub_any m 0 w
 rwa [show pidOf m 0=0 by unfold pidOf;split <;> rfl] at h
end
end
section
open Go Go.RowKit
theorem built_sent (x:Sent):Tryz.prog.built 226 [(0,.agg (pubK x.m x.id false).cells.toArray),(1,.int .u8 x.due)]=some (sentC x).toArray:=by
 obtain ⟨⟨t,p,q,r⟩,id,due⟩:=x
 kernel_rfl
theorem build_sent (x:Sent):Build1 Tryz.prog 217 226 (sentC x):=by
 intro o a w K Q y ho hx h;obtain ⟨i,hi,hz0,hz1,hz2⟩:=info_parts T_sent.hi;refine wp_buildSlice 217 226 1 _ ho (sentC x).toArray i _ Tryz.underlying217 hi hz0 (by rw [hz1];decide) (by rw [hz1];decide) ?_ h;rw [hz1];simp only [List.map_toArray,List.map_cons,List.map_nil,hx];clear hx h ho hi hz0 hz1 hz2;obtain ⟨⟨t,p,q,r⟩,id,due⟩:=x
 kernel_rfl
theorem build_pk (x:Pkt):Build1 Tryz.prog 42 39 x.cells:=by
 intro o a w K Q y ho hx h;obtain ⟨i,hi,hz0,hz1,hz2⟩:=info_parts T_pkt.hi;refine wp_buildSlice 42 39 1 _ ho x.cells.toArray i _ Tryz.underlying42 hi hz0 (by rw [hz1];decide) (by rw [hz1];decide) ?_ h;rw [hz1];simp only [List.map_toArray,List.map_cons,List.map_nil,hx];clear hx h ho hi hz0 hz1 hz2;obtain ⟨p0,p1,p2,p3,p4,p5,p6,p7,p8,p9,p10,p11,⟨m0,m1,m2,m3⟩,p13,p14,p15,p16,p17,p18,p19,p20,p21,p22⟩:=x
 kernel_rfl
noncomputable def pumpReg (k:Nat):Code:=(Tryz.f71.body.bind (regionOf k)).getD .skip
set_option maxRecDepth 100000
set_option maxHeartbeats 4000000
theorem pump_r14 (t q p pb:Nat) (v:Value) (win most:Int) (wait:List Msg) (ids:List Nat) (row:List Sent) (FQ FP:List Nat) (x:Sent) (w:World) (hp:OParts w t q p v win most wait ids row FQ FP) (hl:row.length<=1024) (hX:w.heap[pb]? = some (.cells (pubK x.m x.id false).cells.toArray 39 (0,0))) (hpb:pb ∉ oFoot t v FQ FP)
  {c1 c2 c3 c4 c5 c8 c9 c10 c11 c12 c13 c14 c15 c16 c17 c18 c19 c20 c21 c22 c23 c24 c25 c26 c27 c28 c29 c30 c31 c32 c33 c34 c35 c36 c37 c38 c39 c40 c41 c42 c43 c44 c45 c46 c47 c48 c49 c50 c51 c52 c53 c54 c55 c56 c57 c58 c59 c60 c61 c62 c63 c64 c65 c66 c67 c68 c69 c70 c71 c72 c73 c74 c75:Value} {Q:Exit->Act->World->Prop} (hQp:QuietP Q)
  (hQ:∀ ⦃d60 d61 d62 d63 d64 d65 d66 d67 d68 d69 d70 d71:Value⦄ (w':World) (v':Value),OParts w' t q p v' win most wait ids (row ++ [x]) FQ FP->Upd (oFoot t v FQ FP) (oFoot t v' FQ FP) w w'->w'.heap[pb]? = w.heap[pb]? -> Q .normal ⟨#[.pointer (some ⟨t,0,none⟩),c1,c2,c3,c4,c5,.pointer (some ⟨pb,0,none⟩),.int .u8 x.due,c8,c9,c10,c11,c12,c13,c14,c15,c16,c17,c18,c19,c20,c21,c22,c23,c24,c25,c26,c27,c28,c29,c30,c31,c32,c33,c34,c35,c36,c37,c38,c39,c40,c41,c42,c43,c44,c45,c46,c47,c48,c49,c50,c51,c52,c53,c54,c55,c56,c57,c58,c59,d60,d61,d62,d63,d64,d65,d66,d67,d68,d69,d70,d71,c72,c73,c74,c75],[]⟩ w') :
  Code.wp Tryz.prog (pumpReg 14) Q ⟨#[.pointer (some ⟨t,0,none⟩),c1,c2,c3,c4,c5,.pointer (some ⟨pb,0,none⟩),.int .u8 x.due,c8,c9,c10,c11,c12,c13,c14,c15,c16,c17,c18,c19,c20,c21,c22,c23,c24,c25,c26,c27,c28,c29,c30,c31,c32,c33,c34,c35,c36,c37,c38,c39,c40,c41,c42,c43,c44,c45,c46,c47,c48,c49,c50,c51,c52,c53,c54,c55,c56,c57,c58,c59,c60,c61,c62,c63,c64,c65,c66,c67,c68,c69,c70,c71,c72,c73,c74,c75],[]⟩ w:=by
 dsimp only at hQ ⊢
 conv=>arg 2;whnf
 obtain ⟨-,-,-,c3⟩:=hp.cells;obtain ⟨a,cp,rfl,-,-,-⟩:=ownsRow_row hp.own;have htl:=hp.ltt;have hxl:pb < w.heap.size:=(Array.getElem?_eq_some_iff.1 hX).1;have hpt:pb ≠ t:=fun e=>hpb (mem_oFoot.2 (.inl e))
 have hpv:pb ∉ (Value.slice a row.length cp).ownBlock.toList:=fun e=>hpb (mem_oFoot.2 (.inr (.inr (.inr e))))
 have HP:=hyd hp;have HS:Hid (∀ X:World,X.heap[t]? = w.heap[t]? -> X.heap[pb]? = w.heap[pb]? -> X.cell? ⟨t,3,none⟩=some (.slice a row.length cp)/\X.rangeAt pb 0 (pubK x.m x.id false).cells):=hyd (fun X h1 h2=>⟨cell_of_row X t 3 _ _ _ (h1.trans hp.hd),range_blk (h2.trans hX)⟩);have HNE:Hid (∀ j,(Value.slice a row.length cp).ownBlock=some j->j ≠ t/\j ≠ pb/\j < w.heap.size):=hyd (fun j hj=>⟨fun e=>hp.tv (by rw [hj,e];simp),fun e=>hpv (by rw [hj,e];simp),hp.ltv j (by rw [hj];simp)⟩);have HOWN:=hyd hp.own;have HBU:=hyd (fun (_:Unit)=>built_sent x);have HBS:=hyd (build_sent x);have HLS:=hyd (pk_size' (pubK x.m x.id false));have H25:Hid ((sentC x).toArray.size=1 * 25):=hyd rfl;have H1:Hid (∀ u ∈ (sentC x).toArray.toList,u.oneCell'=true):=hyd (by simpa using sentC_one x);have HKC:Hid (sentV row++(sentC x).toArray.toList=sentV (row ++ [x])):=hyd (by rw [<- sentV_append];simp [sentV]);have HQ:=hyd hQ;generalize (pubK x.m x.id false).cells=NL at *;generalize sentC x=SL at *;clear hp hQ hX hpb hpv;refine wp_region_tail (S:=fun X=>X.cell? ⟨t,3,none⟩=some (.slice a row.length cp)/\X.rangeAt pb 0 NL) 12 (by kernel_rfl) (HS.out _ rfl rfl) (fun hHeld => ?_);refine uA 0 (hQ:=fun _ _ _ h=>hQp _ _ _ _ h rfl) (h:=uA 1 (hQ:=fun _ _ _ h=>hQp _ _ _ _ h rfl) (h:=uA 2 (hQ:=fun _ _ _ h=>hQp _ _ _ _ h rfl) (h:=uA 3 (hQ:=fun _ _ _ h=>hQp _ _ _ _ h rfl) (h:=uA 4 (hQ:=fun _ _ _ h=>hQp _ _ _ _ h rfl) (h:=?_)))))
 simp only [tks];refine wpTail.take (i:=5) (v:=.agg NL.toArray) rfl (by kernel_rfl) (by kernel_rfl) (by kernel_rfl) (by kernel_rfl) (by kernel_rfl) (fun _ _ _ h=>hQp _ _ _ _ h rfl) (Or.inl ⟨rfl,?_⟩) hHeld ?_
 ·intro w0 hS0
  exact exec_load_row rfl rfl hS0.2 Tryz.underlying39 rfl HLS.out
 simp only [List.getElem_toArray,List.getElem_cons_zero,List.getElem_cons_succ,Act.put,List.setIfInBounds_toArray,List.set_cons_zero,List.set_cons_succ];refine uA 6 (hQ:=fun _ _ _ h=>hQp _ _ _ _ h rfl) (h:=?_);simp only [tks];refine wpTail.take (i:=7) (v:=.agg SL.toArray) rfl (by kernel_rfl) (by kernel_rfl) (by kernel_rfl) (by kernel_rfl) (by kernel_rfl) (fun _ _ _ h=>hQp _ _ _ _ h rfl) (Or.inl ⟨rfl,?_⟩) hHeld ?_
 ·intro w0 hS0
  exact exec_build 226 _ rfl SL.toArray [(0,.agg NL.toArray),(1,.int .u8 x.due)] (by kernel_rfl) (HBU.out ())
 simp only [List.getElem_toArray,List.getElem_cons_zero,List.getElem_cons_succ,Act.put,List.setIfInBounds_toArray,List.set_cons_zero,List.set_cons_succ];refine wpTail.ready (rs:=[8]) (by kernel_rfl) (by simp) ?_;refine AllTail.cons rfl (fun K hK => ?_) AllTail.nil;rw [if_pos (by rfl)];refine HBS.out _ _ _ _ _ _ rfl rfl ?_;have HB4:Hid (Below w.heap.size w (w.drew.alloc (.cells SL.toArray 226))):=hyd ((Below.refl _ _).drew.alloc (Nat.le_refl _) _);refine hK.out _ _ (fun _=>HS.out _ (HB4.out.block t htl) (HB4.out.block pb hxl)) (fun hHeld => ?_);replace hHeld:=hHeld (by decide);have hsw:w.drew.heap.size=w.heap.size:=rfl;refine wpTail.ready (rs:=[9]) (by kernel_rfl) (by simp) ?_;refine AllTail.cons rfl (fun K hK => ?_) AllTail.nil;refine step_app (m:=1) T_sent ((ownsRow_local (w':=w.drew) HOWN.out fun _ _=>rfl).alloc _) (heap_alloc_new w.drew _) rfl rfl rfl rfl H25.out (by omega) H1.out ?_ ?_ ?_ ?_
 ·omega
 ·omega
 ·exact Nat.zero_le _
 intro g cap w6 hown6 hgr6 hg6 hgl6;have hm6:Mod (t :: (Value.slice a row.length cp).ownBlock.toList) w w6:=(Mod.of_below HB4.out _).grown hgr6 (fun j hj => .inl (List.mem_cons_of_mem _ (Option.mem_toList.2 hj)))
 have hks:∀ j,j < w.heap.size->(j=t \/ j=pb)->w6.heap[j]? = w.heap[j]?:=fun j hj hor=>by
  rw [hgr6.block j (by simp;omega) (fun e=>by
   obtain ⟨e1,e2,e3⟩:=HNE.out j e.symm
   rcases hor with h | h
   ·exact e1 h
   ·exact e2 h)]
  exact HB4.out.block j hj
 have h6t:=hks t htl (.inl rfl);have h6p:=hks pb hxl (.inr rfl);refine hK.out _ _ (fun _=>HS.out _ h6t h6p) (fun hHeld => ?_);replace hHeld:=hHeld (by decide);have h6g:=h6t.trans HP.out.hd;have fz6:=frozen_of_row _ _ 3 _ _ h6g;have h7:=heap_setCell_same w6 t 3 _ _ (.slice (some ⟨g,0,none⟩) (row.length+1) cap) h6g;have h7c:=cell_of_row _ _ 3 _ _ _ h7
 have hgn:g ≠ t:=fun e=>by
  rcases hg6 with h | h
  ·exact (HNE.out g h).1 e
  ·simp at h;omega
 rw [HKC.out] at hown6
 obtain ⟨hF,hU⟩:=HP.out.turnR (row':=row ++ [x]) (v':=.slice (some ⟨g,0,none⟩) (row.length+1) cap) (hm6.setCell (p:=⟨t,3,none⟩) (.inl (by simp)) _) (by simpa using h7) (by
  rw [List.length_append]
  exact ownsRow_local hown6 fun j hj=>heap_setCell_other w6 _ _ _ (by
   obtain rfl:g=j:=by simpa [Value.ownBlock] using hj
   exact hgn)) (fun j hj=>by
  simp only [Value.ownBlock,Option.toList_some,List.mem_singleton] at hj;subst hj
  rcases hg6 with h | h
  ·exact .inl (Option.mem_toList.2 h)
  ·right;simp at h;omega)
 have HF:=hyd hF;have HU:=hyd hU;have HPB:Hid ((w6.setCell ⟨t,3,none⟩ (.slice (some ⟨g,0,none⟩) (row.length+1) cap)).heap[pb]? = w.heap[pb]?):=hyd ((heap_setCell_other w6 _ _ _ hpt).trans h6p);clear hown6 hgr6 hg6 hgl6 hm6 hks h6t h6p h7 hgn hF hU;refine uA 10 (hQ:=fun _ _ _ h=>hQp _ _ _ _ h rfl) (h:=uA 11 (hQ:=fun _ _ _ h=>hQp _ _ _ _ h rfl) (h:=?_));simp only [tks];refine wpTail.ready (rs:=[12]) (by kernel_rfl) (by simp) ?_;refine AllTail.cons rfl (fun K hK => ?_) AllTail.nil;rw [if_pos (by rfl)];go_simp;refine hK.out _ _ (fun h=>absurd rfl h) (fun _ => ?_);refine wpTail.done (by kernel_rfl) ?_ _;exact HQ.out _ _ HF.out HU.out HPB.out
theorem pump_r15 (pb:Nat) (v:Value) (B:Nat) (ps:List Pkt) (x:Pkt) (F:List Nat) (w:World) (ho:w.ownsRow B 39 24 v ps.length (pksV ps)) (hB:B<=w.heap.size) (hF:∀ k ∈ F,k < w.heap.size) (hv:Off F v.ownBlock.toList) (hl:ps.length<=4096) (hX:w.heap[pb]? = some (.cells x.cells.toArray 39 (0,0)))
  {c0 c1 c2 c4 c5 c7 c8 c9 c10 c11 c12 c13 c14 c15 c16 c17 c18 c19 c20 c21 c22 c23 c24 c25 c26 c27 c28 c29 c30 c31 c32 c33 c34 c35 c36 c37 c38 c39 c40 c41 c42 c43 c44 c45 c46 c47 c48 c49 c50 c51 c52 c53 c54 c55 c56 c57 c58 c59 c60 c61 c62 c63 c64 c65 c66 c67 c68 c69 c70 c71 c72 c73 c74 c75:Value} {Q:Exit->Act->World->Prop}
  (hQ:∀ ⦃d72 d73 d74 d75:Value⦄ (w':World) (v':Value),w'.ownsRow B 39 24 v' (ps ++ [x]).length (pksV (ps ++ [x]))->Off F v'.ownBlock.toList->Mod v.ownBlock.toList w w'->Q .normal ⟨#[c0,c1,c2,v',c4,c5,.pointer (some ⟨pb,0,none⟩),c7,c8,c9,c10,c11,c12,c13,c14,c15,c16,c17,c18,c19,c20,c21,c22,c23,c24,c25,c26,c27,c28,c29,c30,c31,c32,c33,c34,c35,c36,c37,c38,c39,c40,c41,c42,c43,c44,c45,c46,c47,c48,c49,c50,c51,c52,c53,c54,c55,c56,c57,c58,c59,c60,c61,c62,c63,c64,c65,c66,c67,c68,c69,c70,c71,d72,d73,d74,d75],[]⟩ w') :
  Code.wp Tryz.prog (pumpReg 15) Q ⟨#[c0,c1,c2,v,c4,c5,.pointer (some ⟨pb,0,none⟩),c7,c8,c9,c10,c11,c12,c13,c14,c15,c16,c17,c18,c19,c20,c21,c22,c23,c24,c25,c26,c27,c28,c29,c30,c31,c32,c33,c34,c35,c36,c37,c38,c39,c40,c41,c42,c43,c44,c45,c46,c47,c48,c49,c50,c51,c52,c53,c54,c55,c56,c57,c58,c59,c60,c61,c62,c63,c64,c65,c66,c67,c68,c69,c70,c71,c72,c73,c74,c75],[]⟩ w:=by
 dsimp only at hQ ⊢
 conv=>arg 2;whnf
 obtain ⟨a,cp,rfl,-,-,-⟩:=ownsRow_row ho;have HOWN:=hyd ho;have HX:=hyd hX;have HBS:=hyd (build_pk x);have HLS:=hyd (pk_size x);have H24:Hid (x.cells.toArray.size=1 * 24):=hyd rfl;have H1:Hid (∀ u ∈ x.cells.toArray.toList,u.oneCell'=true):=hyd (by simpa [pksV] using pks_one [x]);have HKC:Hid (pksV ps++x.cells.toArray.toList=pksV (ps ++ [x])):=hyd (by rw [<- pksV_append];simp [pksV]);have HQ:=hyd hQ;have HV:=hyd hv;have HFF:=hyd hF;generalize x.cells=XL at *;clear ho hX hQ hv hF
 go_wp2_with (first
  | (refine wpList_load_row rfl 39 _ rfl pb rfl 39 XL.toArray _ _ HX.out Tryz.underlying39 rfl HLS.out ?_)
  | (refine wpList_build1 HBS.out rfl _ rfl rfl _ rfl w.heap.size rfl ?_)
  | (at_builtin;refine wpList_appR T_pkt (HOWN.out.alloc (.cells XL.toArray 39)) (row_new w XL 39) (m:=1) rfl rfl rfl rfl _ rfl (by simpa using H24.out) (by omega) (by simpa using H1.out) (by omega) (by omega) (by simp;omega) ?_;intro g cap w6 hown6 hgr6 hg6 hgl6;have HO6:=hyd hown6;have HG6:=hyd hgr6;have HI6:=hyd hg6;clear hown6 hgr6 hg6 hgl6;go_frame)
  | fail)
 have hvl:∀ k ∈ (Value.slice a ps.length cp).ownBlock.toList,k < w.heap.size:=fun k hk=>(HOWN.out.lt k (Option.mem_toList.1 hk)).2
 refine HQ.out _ _ (by
  rw [List.length_append,<- HKC.out]
  exact HO6.out) (fun k hk hk' => ?_) ((Mod.of_below (low_alloc w _) _).grown HG6.out fun j hj => .inl (Option.mem_toList.2 hj))
 simp only [Value.ownBlock,Option.toList_some,List.mem_singleton] at hk';subst hk'
 rcases HI6.out with h | h
 ·exact HV.out _ hk (Option.mem_toList.2 h)
 ·have:=HFF.out _ hk
  simp at h;omega
end
section
open Go Go.RowKit
theorem onone_any (t:Nat) (win most:Int) (o:OT) (F:List Nat) (w:World) (h:OutRep w t win most o F):Calls Tryz.prog 130 #[.pointer (some ⟨t,0,none⟩)] w fun e w'=>e = .returned (.bool false)/\w=w':=by
 obtain ⟨q,p,v,FQ,FP,h,-⟩:=h;obtain ⟨c0,-⟩:=h.cells;clear h
 go_enter Tryz.func130, Tryz.ntmps130
 go_wp2_with fail
 go_ret
 exact ⟨rfl,rfl⟩
theorem oreset_any (t:Nat) (win most:Int) (o:OT) (F:List Nat) (w:World) (h:OutRep w t win most o F):Calls Tryz.prog 261 #[.pointer (some ⟨t,0,none⟩)] w fun e w'=>e = .returned (.tuple #[]) /\ ∃ F',OutRep w' t win most OT.new F'/\Upd F F' w w':=by
 have HN:=hyd (onone_any t win most o F w h);obtain ⟨q,p,v,FQ,FP,h,hr,hw1,hw2,hwk,rfl⟩:=h;obtain ⟨c0,-,-,c3⟩:=h.cells;have H:=hyd h;have HWN:=hyd hw1;clear h hr hwk
 go_enter Tryz.func261, Tryz.ntmps261
 go_wp2_with fail
 refine HN.out.mono ?_;rintro e w1 ⟨rfl,rfl⟩
 go_wp2_with fail
 refine (qclear_any q o.wait most FQ w H.out.queue).mono ?_;rintro e w1 ⟨rfl,hq,hu⟩;obtain ⟨h1,hu1⟩:=H.out.turnQ hq hu;obtain ⟨-,-,-,c3⟩:=h1.cells;have f3:=frozen_of_row _ t 3 _ _ h1.hd;have H1:=hyd h1;have HU1:=hyd hu1;clear h1 hu1 hq hu c0
 go_wp2_with fail
 have s1:=heap_setCell_same w1 t 3 _ _ (.slice none 0 0) H1.out.hd;have hm1:Mod (t :: v.ownBlock.toList) w1 (w1.setCell ⟨t,3,none⟩ (.slice none 0 0)):=(Mod.refl _ _).setCell (.inl (by simp)) _;obtain ⟨h2,hu2⟩:=H1.out.turnR (row':=[]) (v':=.slice none 0 0) hm1 (by simpa using s1) (World.ownsRow_nil _ _ _ _) (by simp [Value.ownBlock]);have HU2:=hyd (HU1.out.trans' hu2);have H2:=hyd h2;clear h2 hu2 s1 hm1 H1 HU1 c3 f3;generalize w1.setCell ⟨t,3,none⟩ (.slice none 0 0)=w2 at *;refine (pool_new w2).mono ?_;rintro e w3 ⟨p',FP',rfl,hp,hu3⟩;have hne:∀ k ∈ FP',w2.heap.size<=k:=fun k hk=>(hu3.2 k hk).elim (by simp) id
 have hb3:Below w2.heap.size w2 w3:=hu3.1.below (Nat.le_refl _) (by simp);have h3:=H2.out.below hb3;obtain ⟨-,c1,-,-⟩:=h3.cells;have f1:=frozen_of_row _ t 1 _ _ h3.hd;have H3:=hyd h3;have HP:=hyd hp;have HB3:=hyd hb3;clear h3 hp hb3 hu3
 go_wp2_with fail
 go_end0
 have s3:=heap_setCell_same w3 t 1 _ _ (.pointer (some ⟨p',0,none⟩)) H3.out.hd;have hm3:Mod [t] w3 (w3.setCell ⟨t,1,none⟩ (.pointer (some ⟨p',0,none⟩))):=(Mod.refl _ _).setCell (.inl (by simp)) _;have ht2:=H2.out.lt
 refine ⟨rfl,oFoot t (.slice none 0 0) [q] FP',⟨q,p',.slice none 0 0,[q],FP',⟨by simpa using s3,H3.out.queue.mod hm3 fun k hk hk'=>H3.out.tq (List.mem_singleton.1 hk' ▸ hk),HP.out.mod hm3 fun k hk hk' => ?_,World.ownsRow_nil _ _ _ _,H3.out.tq,fun hk => ?_,by simp [Value.ownBlock],fun k hk hk' => ?_,fun k hk=>by simp [Value.ownBlock],fun k hk=>by simp [Value.ownBlock]⟩,
  RowOk.nil (by omega),HWN.out,hw2,by simp [WaitOk,OT.new],rfl⟩,?_⟩
 ·have:=hne k hk
  have:=ht2 t (mem_oFoot.2 (.inl rfl));rw [List.mem_singleton.1 hk'] at *;omega
 ·have:=hne _ hk
  have:=ht2 t (mem_oFoot.2 (.inl rfl));omega
 ·have:=hne k hk'
  have:=ht2 k (mem_oFoot.2 (.inr (.inl hk)));omega
 ·refine ⟨((HU2.out.1.next HB3.out).trans (hm3.mono (S':=oFoot t v FQ FP) fun k hk=>mem_oFoot.2 (.inl (List.mem_singleton.1 hk))) fun k hk => .inl hk),fun k hk => ?_⟩
  rcases mem_oFoot.1 hk with h | h | h | h
  ·exact .inl (mem_oFoot.2 (.inl h))
  ·exact HU2.out.2 k (mem_oFoot.2 (.inr (.inl h)))
  ·exact .inr (Nat.le_trans HU2.out.1.size (hne k h))
  ·simp [Value.ownBlock] at h
theorem onew_any (win most:Int) (w:World) (hm:1<=most/\most<=1024) (hw:1<=win/\win<=1024):Calls Tryz.prog 187 #[.int .i64 win,.int .i64 most] w fun e w' => ∃ t F,e = .returned (.pointer (some ⟨t,0,none⟩))/\OutRep w' t win most OT.new F/\Upd [] F w w':=by
 obtain ⟨hw1,hw2⟩:=hw
 go_enter Tryz.func187, Tryz.ntmps187
 go_wp2_with fail
 refine (qnew_any most w hm).mono ?_;rintro e w1 ⟨g,rfl,hq,hu⟩;have HQ:=hyd hq;have HU:=hyd hu;clear hq hu
 go_wp2_with fail
 refine (pool_new w1).mono ?_;rintro e w2 ⟨p,FP,rfl,hp,hu2⟩;have hne:∀ k ∈ FP,w1.heap.size<=k:=fun k hk=>(hu2.2 k hk).elim (by simp) id
 have hb2:Below w1.heap.size w1 w2:=hu2.1.below (Nat.le_refl _) (by simp);have HP:=hyd hp;have HB2:=hyd hb2;clear hp hu2 hb2
 go_wp2_with fail
 go_ret
 have hg:=HQ.out.lt g (by simp);have hs:=HB2.out.size;have hg0:w.heap.size<=g:=(HU.out.2 g (by simp)).elim (by simp) id;have hb3:=low_alloc w2 (.cells #[.pointer (some ⟨g,0,none⟩),.pointer (some ⟨p,0,none⟩),.int .i64 win,.slice none 0 0] 219);refine ⟨_,oFoot w2.heap.size (.slice none 0 0) [g] FP,rfl,⟨g,p,.slice none 0 0,[g],FP,⟨heap_alloc_new w2 _,(HQ.out.below HB2.out).below hb3,HP.out.below hb3,World.ownsRow_nil _ _ _ _,?_,?_,by simp [Value.ownBlock],?_,fun k hk=>by simp [Value.ownBlock],fun k hk=>by simp [Value.ownBlock]⟩,RowOk.nil (by omega),hw1,hw2,by simp [WaitOk,OT.new],rfl⟩,?_⟩
 ·simp;omega
 ·intro hk;have:=HP.out.lt _ hk;omega
 ·intro k hk hk';have:=hne k hk';simp at hk;omega
 ·refine ⟨(HU.out.1.next HB2.out).next hb3,fun k hk => ?_⟩
  have:=HU.out.1.size
  rcases mem_oFoot.1 hk with h | h | h | h
  ·right;omega
  ·simp at h;right;omega
  ·have:=hne k h;right;omega
  ·simp [Value.ownBlock] at h
end
section
section
open Go Go.RowKit
theorem built_rel (id:Int):Tryz.prog.built 39 [(0,.int .u8 6),(4,.int .u16 id)]=some (relK id).cells.toArray:=by
 kernel_rfl
theorem pub_dup (m:Msg) (id:Int):(pubK m id false).cells.set 1 (.bool true)=(pubK m id true).cells:=rfl
theorem sent_size (x:Sent):(Tryz.prog.info? 226).map (·.size)=some (sentC x).toArray.size:=show _=some 25 by kernel_rfl
theorem sent_size' (x:Sent):(Tryz.prog.info? 226).map (·.size)=some (sentC x).length:=show _=some 25 by kernel_rfl
theorem sent_one' (x:Sent):(sentC x).toArray.all (·.oneCell')=true:=by
 rw [Array.all_eq_true_iff_forall_mem];intro u hu;exact sentC_one x u (by simpa using hu)
theorem sent_pk {w:World} {b:Nat} {x:Sent} {T:TypeId} {fr:Nat × Nat} (h:w.heap[b]? = some (.cells (sentC x).toArray T fr)):w.rangeAt b 0 (pubK x.m x.id false).cells:=fun j v hj =>
 range_blk h j v (by
  unfold sentC
  rw [List.getElem?_append_left (List.getElem?_eq_some_iff.1 hj).1];exact hj)
theorem hrow3 (w:World) (o1 o2:Obj) (xs:List Value) (T:TypeId):Row (((w.alloc o1).alloc o2).alloc (.cells xs.toArray T)) (some ⟨w.heap.size+2,0,none⟩) xs:=by
 have h:=row_new ((w.alloc o1).alloc o2) xs T
 rwa [World.size_alloc,World.size_alloc] at h
set_option maxRecDepth 100000
set_option maxHeartbeats 4000000
theorem resume_any (t:Nat) (win most:Int) (o:OT) (F:List Nat) (w:World) (h:OutRep w t win most o F) :
  Calls Tryz.prog 191 #[.pointer (some ⟨t,0,none⟩)] w fun e w' => ∃ v,e = .returned v/\w'.ownsRow w.heap.size 39 24 v (resumeO o).length (pksV (resumeO o))/\Below w.heap.size w w':=by
 have HN:=hyd (onone_any t win most o F w h)
 have hlen:o.row.length<=1024:=by
  obtain ⟨q,p,v,FQ,FP,h,hr,h1,h2,-⟩:=h;have:=hr.len;omega
 obtain ⟨q,p,rv,FQ,FP,hp,-⟩:=h;obtain ⟨c0,c1,c2,c3⟩:=hp.cells;obtain ⟨ra,rc,rfl,-,-,-⟩:=ownsRow_row hp.own
 have HR:Hid (∀ X,Below w.heap.size w X->Row X ra (sentV o.row)):=hyd (fun X hX=>by
  obtain ⟨a',c',e,hr,-,-⟩:=ownsRow_row (ownsRow_local hp.own fun k hk=>hX.block k (hp.own.lt k hk).2)
  cases e
  exact hr)
 clear hp
 go_enter Tryz.func191, Tryz.ntmps191
 go_wp2_with fail
 refine HN.out.mono ?_;rintro e w1 ⟨rfl,rfl⟩
 go_wp2_with fail
 go_loopw [3,14] (fun v i wr => ∃ k:Nat,i = .int .i64 k/\k<=o.row.length/\Below w.heap.size w wr/\wr.ownsRow w.heap.size 39 24 v k (pksV ((resumeO o).take k))) (fun _ i _=>(o.row.length - intOf i).toNat)
 case atStart=>exact ⟨0,rfl,by omega,Below.refl _ _,by simpa [pksV] using World.ownsRow_nil _ _ _ _⟩
 case round =>
  obtain ⟨k,rfl,hk,hbr,hown⟩:=hrel
  by_cases hlt:k < o.row.length
  ·have hk0:(0:Int)<=k:=by omega
   have hkl:(k:Int) < o.row.length:=by omega
   obtain ⟨b,off,rfl,hra⟩:=row_mid (mk:=sentC) (m:=25) sentC_len (HR.out _ hbr) hlt (by decide)
   have HTK:Hid (pksV ((resumeO o).take (k+1))=pksV ((resumeO o).take k)++(againK o.row[k]).cells.toArray.toList):=hyd (by
    have:k < (resumeO o).length:=by unfold resumeO;simpa using hlt
    rw [List.take_succ_eq_append_getElem this,<- pksV_append]
    simp [pksV,resumeO])
   generalize pksV ((resumeO o).take k)=V at *;have HAG:Hid (againK o.row[k]=if o.row[k].due=7 then relK o.row[k].id else pubK o.row[k].m o.row[k].id true):=hyd rfl;generalize o.row[k]=x at *;have HRA:=hyd hra;have HOWN:=hyd hown;have HBR:=hyd hbr;obtain ⟨va,vc,rfl,-,-,-⟩:=ownsRow_row hown;have HSS:=hyd (sent_size x);have HSS':=hyd (sent_size' x);have HS1:=hyd (sent_one' x);have H25:Hid ((25:Nat)=(sentC x).toArray.size):=hyd rfl;have HPS:=hyd (pk_size (pubK x.m x.id false));have HPS':=hyd (pk_size' (pubK x.m x.id false));have HP1:=hyd (pk_one (pubK x.m x.id false));have H24:Hid ((24:Nat)=(pubK x.m x.id false).cells.toArray.size):=hyd rfl;have hdup:=pub_dup x.m x.id;have HPK:Hid (∀ W:World,(W.alloc (.cells (sentC x).toArray 226)).rangeAt W.heap.size 0 (pubK x.m x.id false).cells):=hyd (fun W=>sent_pk (heap_alloc_new W _))
   have HSO:Hid (∀ (W:World) (o:Obj),((W.alloc (.cells (sentC x).toArray 226)).alloc o).cell? ⟨W.heap.size,24,none⟩=some (.int .u8 x.due)/\((W.alloc (.cells (sentC x).toArray 226)).alloc o).cell? ⟨W.heap.size,4,none⟩=some (.int .u16 x.id)):=hyd (fun W o=>by
    have h1:=(Below.heap_alloc (W.alloc (.cells (sentC x).toArray 226)) o W.heap.size (by simp)).trans (heap_alloc_new W _)
    exact ⟨cell_of_row _ _ 24 _ _ _ h1,cell_of_row _ _ 4 _ _ _ h1⟩)
   have y24:=fun o=>(HSO.out wr o).1
   have y4:=fun o=>(HSO.out wr o).2
   have HZ1:Hid ((pubK x.m x.id false).cells[1]? = some (.bool false)):=hyd rfl;clear hra hown hbr HSO
   by_cases hd:x.due=7
   ·have HAE:Hid (againK x=relK x.id):=hyd (by rw [HAG.out,if_pos hd])
    rw [HAE.out] at HTK;have HBS:=hyd (build_pk (relK x.id));have HLS:=hyd (pk_size (relK x.id));have HX24:Hid ((relK x.id).cells.toArray.size=1 * 24):=hyd rfl;have HX1:Hid (∀ u ∈ (relK x.id).cells.toArray.toList,u.oneCell'=true):=hyd (by simpa [pksV] using pks_one [relK x.id]);have HQX:Hid ((pubK x.m x.id true).cells.toArray.size=(relK x.id).cells.toArray.size):=hyd rfl;have HBU:=hyd (fun (_:Unit)=>built_rel x.id);have HRS:=hyd (pk_size (relK x.id));have HR1:=hyd (pk_one (relK x.id));generalize sentC x=SL at *;generalize (pubK x.m x.id false).cells=PL at *;generalize (relK x.id).cells=XL at *;generalize (pubK x.m x.id true).cells=QL at *;have hdd:decide (x.due=7)=true:=decide_eq_true hd;have hcs:∀ o:Obj,(wr.alloc o).heap.size=wr.heap.size+1:=fun o=>by simp
    have HNW:=hyd (fun (o:Obj) (cs:Array Value)=>(by
     have h9:=heap_alloc_new (wr.alloc o) (.cells cs 39)
     rwa [World.size_alloc] at h9:((wr.alloc o).alloc (.cells cs 39)).heap[wr.heap.size+1]? = some (.cells cs 39 (0,0))))
    have fz:=fun o=>frozen_of_row _ _ 1 _ _ (HNW.out o PL.toArray)
    have cz:∀ o,((wr.alloc o).alloc (.cells PL.toArray 39)).cell? ⟨wr.heap.size+1,1,none⟩=some (.bool false):=fun o=>(cell_of_row _ _ 1 _ _ _ (HNW.out o PL.toArray)).trans (by simpa using HZ1.out)
    have HO2:=hyd (fun o o'=>((HOWN.out.alloc o).alloc o'));have hbs:=HBR.out.size;clear hcs
    go_upto_region 11 with (first
     | (refine wpList_loadMid rfl 226 _ rfl b (off+k * 25) rfl SL _ HRA.out Tryz.underlying226 rfl HSS'.out _ rfl ?_)
     | (refine wpList_store_newTo rfl 226 _ _ rfl rfl wr.heap.size rfl SL.toArray _ rfl rfl HSS.out H25.out HS1.out ?_)
     | (refine wpList_loadMid rfl 39 _ rfl wr.heap.size 0 rfl PL _ (HPK.out wr) Tryz.underlying39 rfl HPS'.out _ rfl ?_)
     | (refine wpList_store_newTo rfl 39 _ _ rfl rfl (wr.heap.size+1) (by simp) PL.toArray _ rfl rfl HPS.out H24.out HP1.out ?_)
     | (refine wpList_buildBy rfl 39 _ rfl _ rfl XL.toArray [(0,.int .u8 6),(4,.int .u16 x.id)] (by kernel_rfl) (HBU.out ()) ?_)
     | (refine wpList_store_newTo rfl 39 _ _ rfl rfl (wr.heap.size+1) (by simp) XL.toArray _ rfl rfl HRS.out HQX.out HR1.out ?_)
     | fail)
    go_wp2_with (first
     | (refine wpList_load_row rfl 39 _ rfl (wr.heap.size+1) rfl 39 XL.toArray _ _ (HNW.out _ _) Tryz.underlying39 rfl HLS.out ?_)
     | (refine wpList_build1 HBS.out rfl _ rfl rfl _ rfl (wr.heap.size+2) (by simp) ?_)
     | (at_builtin;refine wpList_appR T_pkt ((HO2.out _ _).alloc (.cells XL.toArray 39)) (hrow3 _ _ _ XL 39) (m:=1) rfl rfl rfl rfl _ rfl (by simpa using HX24.out) (by omega) (by simpa using HX1.out) (by omega) (by omega) (by simp;omega) ?_;intro g cap w6 hown6 hgr6 hg6 hgl6;have HO6:=hyd hown6;have HG6:=hyd hgr6;clear hown6 hgr6 hg6 hgl6;go_frame)
     | fail)
    go_roundw
    case rel =>
     refine ⟨k+1,by go_num,by omega,(((HBR.out.alloc HBR.out.size _).alloc (by simp;omega) _).alloc (by simp;omega) _).grown HG6.out (by simp;omega) (fun j hj=>(HOWN.out.lt j hj).1),?_⟩;rw [HTK.out];exact HO6.out
    case measure=>simp [intOf];omega
   ·have HAE:Hid (againK x=pubK x.m x.id true):=hyd (by rw [HAG.out,if_neg hd])
    rw [HAE.out] at HTK;have HBS:=hyd (build_pk (pubK x.m x.id true));have HLS:=hyd (pk_size (pubK x.m x.id true));have HX24:Hid ((pubK x.m x.id true).cells.toArray.size=1 * 24):=hyd rfl;have HX1:Hid (∀ u ∈ (pubK x.m x.id true).cells.toArray.toList,u.oneCell'=true):=hyd (by simpa [pksV] using pks_one [pubK x.m x.id true]);generalize sentC x=SL at *;generalize (pubK x.m x.id false).cells=PL at *;generalize (pubK x.m x.id true).cells=XL at *;have hdd:decide (x.due=7)=false:=decide_eq_false hd;have hcs:∀ o:Obj,(wr.alloc o).heap.size=wr.heap.size+1:=fun o=>by simp
    have HNW:=hyd (fun (o:Obj) (cs:Array Value)=>(by
     have h9:=heap_alloc_new (wr.alloc o) (.cells cs 39)
     rwa [World.size_alloc] at h9:((wr.alloc o).alloc (.cells cs 39)).heap[wr.heap.size+1]? = some (.cells cs 39 (0,0))))
    have fz:=fun o=>frozen_of_row _ _ 1 _ _ (HNW.out o PL.toArray)
    have cz:∀ o,((wr.alloc o).alloc (.cells PL.toArray 39)).cell? ⟨wr.heap.size+1,1,none⟩=some (.bool false):=fun o=>(cell_of_row _ _ 1 _ _ _ (HNW.out o PL.toArray)).trans (by simpa using HZ1.out)
    have HO2:=hyd (fun o o'=>((HOWN.out.alloc o).alloc o'));have hbs:=HBR.out.size;clear hcs
    go_upto_region 11 with (first
     | (refine wpList_loadMid rfl 226 _ rfl b (off+k * 25) rfl SL _ HRA.out Tryz.underlying226 rfl HSS'.out _ rfl ?_)
     | (refine wpList_store_newTo rfl 226 _ _ rfl rfl wr.heap.size rfl SL.toArray _ rfl rfl HSS.out H25.out HS1.out ?_)
     | (refine wpList_loadMid rfl 39 _ rfl wr.heap.size 0 rfl PL _ (HPK.out wr) Tryz.underlying39 rfl HPS'.out _ rfl ?_)
     | (refine wpList_store_newTo rfl 39 _ _ rfl rfl (wr.heap.size+1) (by simp) PL.toArray _ rfl rfl HPS.out H24.out HP1.out ?_)
     | fail)
    go_wp2_with (first
     | (refine wpList_load_row rfl 39 _ rfl (wr.heap.size+1) rfl 39 XL.toArray _ _ (HNW.out _ _) Tryz.underlying39 rfl HLS.out ?_)
     | (refine wpList_build1 HBS.out rfl _ rfl rfl _ rfl (wr.heap.size+2) (by simp) ?_)
     | (at_builtin;refine wpList_appR T_pkt ((HO2.out _ _).alloc (.cells XL.toArray 39)) (hrow3 _ _ _ XL 39) (m:=1) rfl rfl rfl rfl _ rfl (by simpa using HX24.out) (by omega) (by simpa using HX1.out) (by omega) (by omega) (by simp;omega) ?_;intro g cap w6 hown6 hgr6 hg6 hgl6;have HO6:=hyd hown6;have HG6:=hyd hgr6;clear hown6 hgr6 hg6 hgl6;go_frame)
     | fail)
    go_roundw
    case rel =>
     refine ⟨k+1,by go_num,by omega,(((HBR.out.alloc HBR.out.size _).alloc (by simp;omega) _).alloc (by simp;omega) _).grown HG6.out (by simp;omega) (fun j hj=>(HOWN.out.lt j hj).1),?_⟩;rw [HTK.out];exact HO6.out
    case measure=>simp [intOf];omega
  ·have hkl:¬ (k:Int) < o.row.length:=by omega
   obtain rfl:k=o.row.length:=by omega
   have hlr:(resumeO o).length=o.row.length:=by simp [resumeO]
   rw [<- hlr,List.take_length] at hown;have HOWN:=hyd hown;have HBR:=hyd hbr;clear hown hbr hlr
   go_wp2_with fail
   go_ret
   exact ⟨_,rfl,HOWN.out,HBR.out⟩
end
section
open Go Go.RowKit
set_option maxRecDepth 100000
theorem ackf_any (x:Sent) (pb:Nat) (id:Int) (w:World) (hp:w.cell? ⟨pb,4,none⟩=some (.int .u16 id)) :
  Calls Tryz.prog 206 #[.agg (sentC x).toArray,.pointer (some ⟨pb,0,none⟩)] w fun e w'=>e = .returned (.bool ((x.id:Int) == id))/\Below w.heap.size w w':=by
 have h1:=cell_of_row _ _ 4 _ _ _ (heap_alloc_new w (.cells (sentC x).toArray 226));have h4:(w.alloc (.cells (sentC x).toArray 226)).cell? ⟨w.heap.size,4,none⟩=some (.int .u16 x.id):=h1;have hb:=low_alloc w (.cells (sentC x).toArray 226);have h5:=(hb.cell (p:=⟨pb,4,none⟩) (World.block_lt_of_cell? w _ hp)).trans hp;have HB:=hyd hb;clear h1 hb hp;generalize (sentC x).toArray=SC at *
 go_enter Tryz.func206, Tryz.ntmps206
 go_wp2_with fail
 go_ret
 exact ⟨rfl,HB.out⟩
def idxI:Option Nat->Int
 | none => -1
 | some k=>k
theorem place_hit {id:Int} {l:List Sent} {k:Nat} (hk:k < l.length) (h:(l[k].id:Int)=id) (hb:∀ j (hj:j < k),(l[j].id:Int) ≠ id):placeO id l=some k:=by
 unfold placeO;rw [List.findIdx?_eq_some_iff_getElem];exact ⟨hk,by simpa using h,fun j hj=>by simpa using hb j hj⟩
theorem place_miss {id:Int} {l:List Sent} (h:∀ j (hj:j < l.length),(l[j].id:Int) ≠ id):placeO id l=none:=by
 unfold placeO;rw [List.findIdx?_eq_none_iff];intro x hx;obtain ⟨j,hj,rfl⟩:=List.mem_iff_getElem.1 hx
 simpa using h j hj
set_option maxHeartbeats 2000000
theorem index_any (a:Option Addr) (c:Nat) (l:List Sent) (pb:Nat) (id:Int) (w:World) (ha:Row w a (sentV l)) (hn:l.length<=1024) (hp:w.cell? ⟨pb,4,none⟩=some (.int .u16 id)) :
  Calls Tryz.prog 205 #[.slice a l.length c,.func (.func 206) #[] #[.pointer (some ⟨pb,0,none⟩)]] w fun e w'=>e = .returned (.int .i64 (idxI (placeO id l)))/\Below w.heap.size w w':=by
 have HA:Hid (∀ X,Below w.heap.size w X->Row X a (sentV l)):=hyd (fun X hX=>ha.below hX (Nat.le_refl _));have HPC:Hid (∀ X,Below w.heap.size w X->X.cell? ⟨pb,4,none⟩=some (.int .u16 id)):=hyd (fun X hX=>(hX.cell (p:=⟨pb,4,none⟩) (World.block_lt_of_cell? w _ hp)).trans hp);clear ha hp
 go_enter Tryz.func205, Tryz.ntmps205
 go_wp2_with fail
 go_loopw [8] (fun i wr => ∃ k:Nat,i = .int .i64 k/\k<=l.length/\Below w.heap.size w wr /\ ∀ j (hj:j < k) (hl:j < l.length),(l[j].id:Int) ≠ id) (fun i _=>(l.length - intOf i).toNat)
 case atStart=>exact ⟨0,rfl,by omega,Below.refl _ _,fun j hj=>by omega⟩
 case round =>
  obtain ⟨k,rfl,hk,hbr,hno⟩:=hrel;have HNO:=hyd hno;have HBR:=hyd hbr;clear hno
  by_cases hlt:k < l.length
  ·have hk0:(0:Int)<=k:=by omega
   have hkl:(k:Int) < l.length:=by omega
   obtain ⟨b,off,rfl,hra⟩:=row_mid (mk:=sentC) (m:=25) sentC_len (HA.out _ hbr) hlt (by decide)
   have HX:Hid (∀ y:Int,(l[k].id:Int)=y->(y == id)=false -> ∀ j (hj:j < k+1) (hl:j < l.length),(l[j].id:Int) ≠ id):=hyd (fun y hy hyi j hj hl=>by
    by_cases e:j=k
    ·subst e;rw [hy];simpa using hyi
    ·exact HNO.out j (by omega) hl)
   have HY:Hid (∀ y:Int,(l[k].id:Int)=y->(y == id)=true->placeO id l=some k):=hyd (fun y hy hyi=>place_hit hlt (by rw [hy];simpa using hyi) fun j hj=>HNO.out j hj (by omega));have HX':=hyd (HX.out _ rfl);have HY':=hyd (HY.out _ rfl);clear HX HY;generalize l[k]=x at *;have HRA:=hyd hra;have HC:=hyd (ackf_any x pb id wr (HPC.out _ hbr));have HSS':=hyd (sent_size' x);have hw1:IntKind.i64.wrap ((k:Int)+1)=(k:Int)+1:=w_i64 _ (by omega) (by omega);clear hra hbr;generalize sentC x=SL at *
   cases hb:((x.id:Int) == id) with
   | true =>
    rw [hb] at HC;have HP:=hyd (HY'.out hb);clear HX' HY' hb
    go_wp2_with (first
     | (refine wpList_loadMid rfl 226 _ rfl b (off+k * 25) rfl SL _ HRA.out Tryz.underlying226 rfl HSS'.out _ rfl ?_)
     | fail)
    refine HC.out.mono ?_;rintro e w1 ⟨rfl,hk1⟩;have HB1:=hyd (bnext HBR.out (Nat.le_refl _) hk1);clear hk1
    go_wp2_with fail
    go_ret
    exact ⟨by rw [HP.out];rfl,HB1.out⟩
   | false =>
    rw [hb] at HC;have HP:=hyd (HX'.out hb);clear HX' HY' hb
    go_wp2_with (first
     | (refine wpList_loadMid rfl 226 _ rfl b (off+k * 25) rfl SL _ HRA.out Tryz.underlying226 rfl HSS'.out _ rfl ?_)
     | fail)
    refine HC.out.mono ?_;rintro e w1 ⟨rfl,hk1⟩;have HB1:=hyd (bnext HBR.out (Nat.le_refl _) hk1);clear hk1
    go_wp2_with fail
    go_roundw
    case rel=>exact ⟨k+1,by go_num,by omega,HB1.out,HP.out⟩
    case measure=>simp [intOf];omega
  ·have hkl:¬ (k:Int) < l.length:=by omega
   have HM:Hid (placeO id l=none):=hyd (place_miss fun j hj=>HNO.out j (by omega) hj);clear hbr
   go_wp2_with fail
   go_ret
   exact ⟨by rw [HM.out];rfl,HBR.out⟩
end
section
open Go Go.RowKit
def layA:List Value->Nat->Array Value->Array Value
 | [],_,cur=>cur
 | v :: r,o,cur=>layA r (o+1) (cur.setIfInBounds o v)
theorem layA_size:∀ (vs:List Value) (o:Nat) (cur:Array Value),(layA vs o cur).size=cur.size
 | [],_,_=>rfl
 | v :: r,o,cur=>by unfold layA;rw [layA_size];simp
theorem layA_take:∀ (vs:List Value) (o:Nat) (cur:Array Value),o+vs.length<=cur.size->(layA vs o cur).toList.take (o+vs.length)=cur.toList.take o++vs
 | [],o,cur,_=>by simp [layA]
 | v :: r,o,cur,h=>by
  have h0:o < cur.toList.length:=by simp at h ⊢;omega
  have h1:=layA_take r (o+1) (cur.setIfInBounds o v) (by simp at h ⊢;omega);unfold layA;rw [show o+(v :: r).length=o+1+r.length by simp;omega,h1,Array.toList_setIfInBounds,List.set_eq_take_append_cons_drop,if_pos h0];have h2:(cur.toList.take o).length=o:=by rw [List.length_take];omega
  rw [List.take_append,h2,show o+1 - o=1 by omega,List.take_of_length_le (by omega)];simp
theorem lay_heap (g:Nat) (T:TypeId):∀ (vs:List Value) (o:Nat) (cur:Array Value) (w:World),w.heap[g]? = some (.cells cur T (0,0))->(w.setCells g o vs).heap[g]? = some (.cells (layA vs o cur) T (0,0))/\Mod [g] w (w.setCells g o vs)
 | [],_,_,_,h=>⟨h,Mod.refl _ _⟩
 | v :: r,o,cur,w,h=>by
  have h1:=heap_setCell_same w g o _ _ v h;obtain ⟨h2,h3⟩:=lay_heap g T r (o+1) _ _ h1;exact ⟨h2,((Mod.refl _ _).setCell (.inl (by simp)) _).trans h3 (fun _ hk => .inl hk)⟩
theorem erase_sentV (row:List Sent) (k:Nat):sentV (row.eraseIdx k)=sentV (row.take k)++sentV (row.drop (k+1)):=by
 rw [List.eraseIdx_eq_take_drop_succ,sentV_append]
theorem sentV_take (row:List Sent) (k:Nat):(sentV row).take (k * 25)=sentV (row.take k):=by
 induction row generalizing k with
 | nil=>simp [sentV]
 | cons x r ih =>
  cases k with
  | zero=>simp [sentV]
  | succ k =>
   have:sentV (x :: r)=sentC x++sentV r:=by simp [sentV]
   rw [this,show (k+1) * 25=(sentC x).length+k * 25 by rw [sentC_len];omega,List.take_length_add_append,ih];simp [sentV]
theorem sentV_drop (row:List Sent) (k:Nat):(sentV row).drop (k * 25)=sentV (row.drop k):=by
 induction row generalizing k with
 | nil=>simp [sentV]
 | cons x r ih =>
  cases k with
  | zero=>simp [sentV]
  | succ k =>
   have:sentV (x :: r)=sentC x++sentV r:=by simp [sentV]
   rw [this,show (k+1) * 25=(sentC x).length+k * 25 by rw [sentC_len];omega,List.drop_length_add_append,ih];simp
theorem sent_info:∃ i0,Tryz.prog.info? 226 = some i0/\i0.size=25:=by
 obtain ⟨i,hi,-,h2,-⟩:=info_parts T_sent.hi;exact ⟨i,hi,h2⟩
theorem slice_head (g n c k:Nat) (hk:k<=c) (w:World):(Instr.slice 217 (.slice (some ⟨g,0,none⟩) n c) none (some (.int .i64 k)) none).run Tryz.prog w = .ok (.slice (some ⟨g,0,none⟩) k c) w:=by
 obtain ⟨i,hq,hs⟩:=sent_info;simp [Instr.slice,run_underlying Tryz.underlying217, Instr.sliceBounds,Instr.sliceBound,asIntOf,sizeOf,typeInfo,hq,hk,Addr.add]
theorem slice_tail (g n c k:Nat) (hk:k<=n) (hc:n<=c):∃ A:Addr,(∀ w:World,(Instr.slice 217 (.slice (some ⟨g,0,none⟩) n c) (some (.int .i64 k)) none none).run Tryz.prog w = .ok (.slice (some A) (n - k) (c - k)) w)/\(c ≠ k->A=⟨g,k * 25,none⟩):=by
 obtain ⟨i,hq,hs⟩:=sent_info
 by_cases e:c=k
 ·subst e
  have hn:n=c:=by omega
  subst hn;exact ⟨⟨g,0,none⟩,fun w=>by simp [Instr.slice,run_underlying Tryz.underlying217, Instr.sliceBounds,Instr.sliceBound,asIntOf,sizeOf,typeInfo,hq],fun h=>absurd rfl h⟩
 ·exact ⟨⟨g,k * 25,none⟩,fun w=>by simp [Instr.slice,run_underlying Tryz.underlying217, Instr.sliceBounds,Instr.sliceBound,asIntOf,sizeOf,typeInfo,hq,hs,hk,e,Addr.add];exact fun h=>h.symm,fun _=>rfl⟩
theorem slice_mid (g n c a b:Nat) (hab:a<=b) (hbc:b<=c) (hac:a < c) (w:World):(Instr.slice 217 (.slice (some ⟨g,0,none⟩) n c) (some (.int .i64 a)) (some (.int .i64 b)) none).run Tryz.prog w = .ok (.slice (some ⟨g,a * 25,none⟩) (b - a) (c - a)) w:=by
 obtain ⟨i,hq,hs⟩:=sent_info;have h1:¬ c=a:=by omega
 simp [Instr.slice,run_underlying Tryz.underlying217, Instr.sliceBounds,Instr.sliceBound,asIntOf,sizeOf,typeInfo,hq,hs,hab,hbc,h1,Addr.add];exact fun h=>h.symm
theorem slice_three (g n c a b d:Nat) (hab:a<=b) (hbd:b<=d) (hdc:d<=c):∃ v,∀ w:World,(Instr.slice 217 (.slice (some ⟨g,0,none⟩) n c) (some (.int .i64 a)) (some (.int .i64 b)) (some (.int .i64 d))).run Tryz.prog w = .ok v w:=by
 obtain ⟨i,hq,hs⟩:=sent_info;exact ⟨.slice (if d=a then some ⟨g,0,none⟩ else some ((⟨g,0,none⟩:Addr).add (a * 25))) (b - a) (d - a),fun w=>by simp [Instr.slice,run_underlying Tryz.underlying217, Instr.sliceBounds,Instr.sliceBound,asIntOf,sizeOf,typeInfo,hq,hs,hab,hbd,hdc]⟩
set_option maxRecDepth 100000
set_option maxHeartbeats 2000000
theorem del_any (g c:Nat) (row:List Sent) (k:Nat) (w:World) (ho:w.ownsRow 0 226 25 (.slice (some ⟨g,0,none⟩) row.length c) row.length (sentV row)) (hk:k < row.length) (hn:row.length<=1024) :
  Calls Tryz.prog 207 #[.slice (some ⟨g,0,none⟩) row.length c,.int .i64 (k:Nat),.int .i64 ((k:Int)+1)] w fun e w' =>
   e = .returned (.slice (some ⟨g,0,none⟩) (row.length - 1) c)/\w'.ownsRow 0 226 25 (.slice (some ⟨g,0,none⟩) (row.length - 1) c) (row.eraseIdx k).length (sentV (row.eraseIdx k))/\Mod [g] w w':=by
 rcases ho with ⟨-,⟨h,-⟩ | ⟨g',c',cur,e,-,hg,hnc,hcm,hsz,htk⟩⟩
 ·cases h
 cases e
 obtain ⟨N,hN⟩:∃ N,row.length=N+1:=⟨row.length - 1,by omega⟩;have hlen:(row.eraseIdx k).length=N:=by rw [List.length_eraseIdx_of_lt hk];omega
 have HER:=hyd (erase_sentV row k);rw [hN] at hk hn hnc htk ⊢;rw [hlen,show N+1 - 1=N by omega]
 have hlay:k * 25+(sentV (row.drop (k+1))).length<=cur.size:=by
  rw [sentV_len,hsz,List.length_drop,hN];have:=Nat.mul_le_mul_right 25 hnc;omega
 have htake:(layA (sentV (row.drop (k+1))) (k * 25) cur).toList.take (N * 25)=sentV (row.eraseIdx k):=by
  have h1:=layA_take (sentV (row.drop (k+1))) (k * 25) cur hlay;have h2:k * 25+(sentV (row.drop (k+1))).length=N * 25:=by rw [sentV_len,List.length_drop,hN];omega
  rw [h2] at h1;rw [h1,HER.out,<- sentV_take row k,<- htk,List.take_take,show min (k * 25) ((N+1) * 25)=k * 25 by omega]
 obtain ⟨A,hsA,hA⟩:=slice_tail g (N+1) c (k+1) (by omega) hnc;have hs0:=fun w=>slice_head g (N+1) c k (by omega) w
 obtain ⟨v3,hs3⟩:=slice_three g (N+1) c k (k+1) (N+1) (by omega) (by omega) hnc;have hsM:=fun w=>slice_mid g N c N (N+1) (by omega) hnc (by omega) w
 have hsrc:∀ j u,(sentV (row.drop (k+1)))[j]? = some u->w.drew.cell? (A.add j)=some u:=fun j u hu=>by
  have hjl:=(List.getElem?_eq_some_iff.1 hu).1
  by_cases e:c=k+1
  ·rw [sentV_len,List.length_drop,hN] at hjl
   omega
  ·rw [hA e,Addr.add_lit,<- sentV_drop,<- htk,List.getElem?_drop,List.getElem?_take] at *
   split at hu
   ·rw [show w.drew.cell? ⟨g,(k+1) * 25+j,none⟩=w.cell? ⟨g,(k+1) * 25+j,none⟩ from rfl,cell_of_row _ _ _ _ _ _ hg]
    simpa using hu
   ·cases hu
 have hlayh:=lay_heap g 226 (sentV (row.drop (k+1))) (k * 25) cur w.drew hg;have HLAY:=hyd hlayh;have HTAKE:=hyd htake;have HSRC:=hyd hsrc;have HLS:Hid ((sentV (row.drop (k+1))).length=(N - k) * 25):=hyd (by rw [sentV_len,List.length_drop,hN];omega);have HONE:=hyd (sent_one (row.drop (k+1)))
 have HSP:Hid (∀ j,j < (sentV (row.drop (k+1))).length->(w.drew.cell? ⟨g,0+k * 25+j,none⟩).isSome=true/\w.drew.frozen? ⟨g,0+k * 25+j,none⟩=false):=hyd (fun j hj=>by
  rw [Nat.zero_add];refine ⟨?_,frozen_of_row w.drew g _ _ _ hg⟩;rw [cell_of_row w.drew g _ _ _ _ hg];have:k * 25+j < cur.size:=by omega
  simp [this])
 have HSZ:Hid ((layA (sentV (row.drop (k+1))) (k * 25) cur).size=c * 25):=hyd (by rw [layA_size,hsz]);obtain ⟨i0,hi0,hz0⟩:=sent_info;have HI0:=hyd hi0;have HZ0:=hyd hz0;have hne:((k:Int) == (k:Int)+1)=false:=by rw [beq_eq_false_iff_ne];omega
 simp only [Int.natCast_add,Int.natCast_one] at hs0 hs3 hsM hsA;have e1:N+1 - (k+1)=N - k:=by omega
 rw [e1] at hsA;generalize sentV (row.drop (k+1))=news at *;generalize layA news (k * 25) cur=cur2 at *;generalize sentV (row.eraseIdx k)=fin at *;clear hlayh htake hsrc hlay htk hi0 hz0 hA hg hsz hN hlen HER
 go_enter Tryz.func207, Tryz.ntmps207
 go_upto_region 5 with fail
 refine wp_region_held_drew (S:=fun _=>True) (by kernel_rfl) trivial (fun hHeld => ?_);refine tA 0 (h:=tA 1 (h:=tA 2 (h:=tA 3 (h:=tA 4 (h:=tA 5 (h:=?_))))));simp only [tks];refine wpAnyH_ready (rs:=[6]) (by kernel_rfl) (by simp) ?_;refine AllReadyH.cons rfl (fun K hK => ?_) AllReadyH.nil;refine step_append_room rfl (.tmp 22) (.tmp 25) 217 rfl 226 i0 25 Tryz.underlying217 HI0.out HZ0.out g 0 k c (by simp [Act.eval]) A (N - k) (c - (k+1)) news (by simp [Act.eval]) HLS.out HSRC.out HONE.out (by omega) HSP.out ?_;rw [show k+(N - k)=N by omega,Nat.zero_add];refine hK.out _ _ trivial (fun hHeld => ?_);obtain ⟨W,hW⟩:∃ W,w.drew.setCells g (k * 25) news=W:=⟨_,rfl⟩;rw [hW] at HLAY ⊢;clear hW;refine tA 7 (h:=?_);simp only [tks];refine wpAnyH_done (by kernel_rfl) ?_ _;clear hHeld
 go_wp2_with (refine wpList_clear T_sent (off:=N * 25) (g:=g) (m:=1) (by decide) rfl rfl rfl (fun _=>rfl) HLAY.out.1 (by rw [HSZ.out];omega) ?_)
 intro W7 cur7 m1 m2 m3 m4;have HQ:Hid (W7.ownsRow 0 226 25 (.slice (some ⟨g,0,none⟩) N c) N fin/\Mod [g] w W7):=hyd ⟨⟨by rw [<- HTAKE.out,List.length_take,Array.length_toList,HSZ.out];omega,.inr ⟨g,c,cur7,rfl,Nat.zero_le _,m1,by omega,hcm,m2.trans HSZ.out,m3.trans HTAKE.out⟩⟩,(((Mod.refl [g] w).drew).trans HLAY.out.2 (fun _ h => .inl h)).trans m4 (fun _ h => .inl h)⟩;clear m1 m2 m3 m4
 go_wp2_with fail
 go_ret
 exact ⟨rfl,HQ.out.1,HQ.out.2⟩
end
section
open Go Go.RowKit
theorem sentV_set (l:List Sent) (k:Nat) (hk:k < l.length) (d:Int):(sentV l).set (k * 25+24) (.int .u8 d)=sentV (l.set k ⟨l[k].m,l[k].id,d⟩):=by
 induction l generalizing k with
 | nil=>simp at hk
 | cons x r ih =>
  have hx:∀ (y:Sent) (r:List Sent),sentV (y :: r)=sentC y++sentV r:=fun y r=>by simp [sentV]
  cases k with
  | zero =>
   rw [List.set_cons_zero,hx,hx,List.set_append_left _ _ (by rw [sentC_len];decide)]
   rfl
  | succ k =>
   rw [List.set_cons_succ,hx,hx,List.set_append_right _ _ (by rw [sentC_len];omega),sentC_len,show (k+1) * 25+24 - 25=k * 25+24 by omega,ih k (by simpa using hk)];simp
theorem ownsRow_set {w:World} {e:TypeId} {size n g c:Nat} {xs:List Value} (h:w.ownsRow 0 e size (.slice (some ⟨g,0,none⟩) n c) n xs) (j:Nat) (u:Value):(w.setCell ⟨g,j,none⟩ u).ownsRow 0 e size (.slice (some ⟨g,0,none⟩) n c) n (xs.set j u):=by
 rcases h with ⟨hl,⟨h,-⟩ | ⟨g',c',cur,e,h0,hg,hnc,hcm,hsz,htk⟩⟩
 ·cases h
 ·cases e
  refine ⟨by simpa using hl,.inr ⟨g,c,_,rfl,h0,heap_setCell_same w g j _ _ u hg,hnc,hcm,by simpa using hsz,?_⟩⟩;rw [Array.toList_setIfInBounds,List.take_set,htk]
theorem ownsRow_slot {w:World} {e:TypeId} {size n:Nat} {v:Value} {xs:List Value} (h:w.ownsRow 0 e size v n xs) (hn:0 < n):∃ g c,v = .slice (some ⟨g,0,none⟩) n c:=by
 rcases h with ⟨-,⟨-,h⟩ | ⟨g',c',cur,e,-⟩⟩
 ·omega
 ·exact ⟨g',c',e⟩
theorem ownsRow_free {w:World} {e:TypeId} {size n g c:Nat} {xs:List Value} (h:w.ownsRow 0 e size (.slice (some ⟨g,0,none⟩) n c) n xs) (j:Nat):w.frozen? ⟨g,j,none⟩=false:=by
 rcases h with ⟨hl,⟨h,-⟩ | ⟨g',c',cur,e,h0,hg,-⟩⟩
 ·cases h
 ·cases e
  exact frozen_of_row _ _ _ _ _ hg
theorem ids_set {l:List Sent} {k:Nat} (hk:k < l.length) (d:Int):idsOf (l.set k ⟨l[k].m,l[k].id,d⟩)=idsOf l:=by
 unfold idsOf;rw [List.map_set];refine List.ext_getElem? fun i => ?_
 rw [List.getElem?_set]
 by_cases e:k=i
 ·subst e;simp [hk]
 ·simp [e]
theorem filter_eraseIdx {l:List Nat} {k:Nat} (hk:k < l.length) (hn:l.Nodup):l.filter (· != l[k])=l.eraseIdx k:=by
 rw [<- hn.erase_eq_filter,List.erase_eq_eraseIdx_of_idxOf];exact hn.idxOf_getElem k hk
theorem ids_erase {l:List Sent} {k:Nat} (hk:k < l.length) (hn:(idsOf l).Nodup):(idsOf l).filter (· != l[k].id)=idsOf (l.eraseIdx k):=by
 have h1:=filter_eraseIdx (l:=idsOf l) (k:=k) (by simpa [idsOf] using hk) hn;have h2:(idsOf l)[k]'(by simpa [idsOf] using hk)=l[k].id:=by simp [idsOf]
 rw [h2] at h1;rw [h1];unfold idsOf;rw [List.eraseIdx_eq_take_drop_succ,List.eraseIdx_eq_take_drop_succ,List.map_append,List.map_take,List.map_drop]
theorem ids_mem {l:List Sent} {k:Nat} (hk:k < l.length):l[k].id ∈ idsOf l:=List.mem_map.2 ⟨_,List.getElem_mem hk,rfl⟩
theorem ack_none {ty id:Int} {o:OT} (h:placeO id o.row=none):ackO ty id o=(([],false),o):=by
 unfold ackO;rw [h]
theorem ack_some {ty id:Int} {o:OT} {k:Nat} (hk:k < o.row.length) (h:placeO id o.row=some k):ackO ty id o =
  if ty=5/\(o.row[k].due=5 \/ o.row[k].due=7) then (([relK id],true),⟨o.wait,o.row.set k ⟨o.row[k].m,o.row[k].id,7⟩⟩)
   else if ty=o.row[k].due then (([],true),⟨o.wait,o.row.eraseIdx k⟩) else (([],false),o):=by
 unfold ackO;rw [h];simp only [List.getElem?_eq_getElem hk]
end
end
end Go.Proofs.YtcekcoepdhnfgaaGreatDoor
