/- session: New, Begin, Lose, Leave. -/
import Derived.Test.YtcekcoepdhnfgaaGreatDoorSubClear
import Derived.Test.YtcekcoepdhnfgaaGreatDoorOutY
import Derived.Defers
namespace Go.Proofs.YtcekcoepdhnfgaaGreatDoor
section
open Go Go.RowKit
theorem SParts.free {w:World} {s lb tb cb:Nat} {x:SS} {win most:Int} {FL FO FC:List Nat} (h:SParts w s lb tb cb x win most FL FO FC) (k:Nat):w.frozen? ⟨s,k,none⟩=false:=frozen_of_row _ _ _ _ _ h.hd
theorem end_cells {w:World} {s lb tb cb:Nat} {x:SS} {T:TypeId} (h:w.heap[s]? = some (.cells (ssC x lb tb cb).toArray T (0,0))) :
  ((((((w.setCell ⟨s,1,none⟩ (.int .i64 0)).setCell ⟨s,3,none⟩ (.string ⟨#[]⟩)).setCell ⟨s,4,none⟩ (.string ⟨#[]⟩)).setCell ⟨s,5,none⟩ (.int .u8 0)).setCell ⟨s,6,none⟩ (.bool false)).setCell ⟨s,7,none⟩ (.bool false)).heap[s]? = some (.cells (ssC (leaveS x) lb tb cb).toArray T (0,0)):=by
 have h1:=heap_setCell_same _ s 1 _ _ (.int .i64 0) h;have h2:=heap_setCell_same _ s 3 _ _ (.string ⟨#[]⟩) h1;have h3:=heap_setCell_same _ s 4 _ _ (.string ⟨#[]⟩) h2;have h4:=heap_setCell_same _ s 5 _ _ (.int .u8 0) h3;have h5:=heap_setCell_same _ s 6 _ _ (.bool false) h4;have h6:=heap_setCell_same _ s 7 _ _ (.bool false) h5;exact h6
theorem set_mod (w:World) (s k:Nat) (v:Value):Mod [s] w (w.setCell ⟨s,k,none⟩ v):=(Mod.refl _ _).setCell (.inl (by simp)) _
theorem send_parts (s lb tb cb:Nat) (x:SS) (win most:Int) (FL FO FC:List Nat) (w:World) (h:SParts w s lb tb cb x win most FL FO FC) :
  Calls Tryz.prog 263 #[.pointer (some ⟨s,0,none⟩)] w fun e w'=>e = .returned (.tuple #[])/\SParts w' s lb tb cb (leaveS x) win most FL FO FC/\Mod [s] w w':=by
 obtain ⟨c0,c1,c2,c3,c4,c5,c6,c7,-⟩:=h.cells;have fr:=fun k=>h.free k
 have HE:=hyd (end_cells h.hd);have H:=hyd h;clear h
 go_enter Tryz.func263, Tryz.ntmps263
 go_wp2_with fail
 go_end0
 have hm:=((((((set_mod w s 1 (.int .i64 0)).trans (set_mod _ s 3 (.string ⟨#[]⟩)) fun _ h => .inl h).trans (set_mod _ s 4 (.string ⟨#[]⟩)) fun _ h => .inl h).trans (set_mod _ s 5 (.int .u8 0)) fun _ h => .inl h).trans (set_mod _ s 6 (.bool false)) fun _ h => .inl h).trans (set_mod _ s 7 (.bool false)) fun _ h => .inl h);exact ⟨rfl,(H.out.turnH hm HE.out rfl rfl rfl).1,hm⟩
theorem leave_any (s:Nat) (x:SS) (win most:Int) (F:List Nat) (w:World) (h:SesRep w s win most x F) :
  Calls Tryz.prog 193 #[.pointer (some ⟨s,0,none⟩)] w fun e w'=>e = .returned (.tuple #[])/\SesRep w' s win most (leaveS x) F/\Upd F F w w':=by
 obtain ⟨lb,tb,cb,FL,FO,FC,h,rfl⟩:=h;have HC:=hyd (send_parts s lb tb cb x win most FL FO FC w h);clear h
 go_enter Tryz.func193, Tryz.ntmps193
 go_wp2_with fail
 refine HC.out.mono ?_;rintro e w1 ⟨rfl,hp,hm⟩;have HP:=hyd hp;have HM:=hyd hm;clear hp hm
 go_wp2_with fail
 go_end0
 exact ⟨rfl,⟨lb,tb,cb,FL,FO,FC,HP.out,rfl⟩,HM.out.mono fun k hk=>mem_sFoot.2 (.inl (List.mem_singleton.1 hk)),fun k hk => .inl hk⟩
theorem sesnew_any (c:ByteArray) (a1 a2 a3 most win:Int) (w:World) (hm:1<=most/\most<=1024) (hw:1<=win/\win<=1024) :
  Calls Tryz.prog 102 #[.string c,.agg #[.int .i64 a1,.int .i64 a2,.int .i64 a3,.int .i64 most,.int .i64 win]] w fun e w' => ∃ s F,e = .returned (.pointer (some ⟨s,0,none⟩))/\SesRep w' s win most (SS.new c) F/\Upd [] F w w':=by
 have hb:=low_alloc w (.cells #[.int .i64 a1,.int .i64 a2,.int .i64 a3,.int .i64 most,.int .i64 win] 23);have HB:=hyd hb;have HN:=hyd (fun W=>onew_any win most W hm hw);clear hb hm hw
 go_enter Tryz.func102, Tryz.ntmps102
 go_wp2_with fail
 refine (HN.out _).mono ?_;rintro e w1 ⟨t,FO,rfl,ho,hu⟩;have hne1:∀ k ∈ FO,w.heap.size<=k:=fun k hk=>(hu.2 k hk).elim (by simp) fun h=>Nat.le_trans HB.out.size h
 have hb1:Below w.heap.size w w1:=bnext HB.out (Nat.le_refl _) (hu.1.below (Nat.le_refl _) (by simp));have HO:=hyd ho;have HB1:=hyd hb1;have HNE:=hyd hne1;clear ho hu hb1 hne1
 go_wp2_with fail
 refine (snew w1).mono ?_;rintro e w2 ⟨rfl,hl,hw2⟩;have hb2:Below w1.heap.size w1 w2:=by rw [hw2];exact low_alloc _ _
 have HL:=hyd hl;have HB2:=hyd hb2;clear hl hb2 hw2
 go_wp2_with fail
 refine (cnew w2).mono ?_;rintro e w3 ⟨cb,FC,rfl,hc,hu⟩;have hne3:∀ k ∈ FC,w2.heap.size<=k:=fun k hk=>(hu.2 k hk).elim (by simp) id
 have hb3:Below w2.heap.size w2 w3:=hu.1.below (Nat.le_refl _) (by simp);have HC:=hyd hc;have HB3:=hyd hb3;have HN3:=hyd hne3;clear hc hu hb3 hne3
 go_wp2_with fail
 go_ret
 have hb4:=low_alloc w3 (.cells (ssC (SS.new c) w1.heap.size t cb).toArray 116);have hl3:=HL.out.below HB3.out;have ho3:=(HO.out.below HB2.out).below HB3.out;have s1:=HB1.out.size;have s2:=HB2.out.size;have s3:=HB3.out.size;have hw1l:w1.heap.size < w2.heap.size:=HL.out.lt w1.heap.size (by simp);refine ⟨_,sFoot w3.heap.size [w1.heap.size] FO FC,rfl,⟨w1.heap.size,t,cb,[w1.heap.size],FO,FC,⟨heap_alloc_new w3 _,hl3.below hb4,ho3.below hb4,HC.out.below hb4,?_,?_,?_,?_,?_,?_⟩,rfl⟩,?_⟩
 ·intro hk;simp at hk;omega
 ·intro hk;have:=ho3.lt _ hk;omega
 ·intro hk;have:=HC.out.lt _ hk;omega
 ·intro k hk hk';rw [List.mem_singleton.1 hk] at hk';have:=HO.out.lt _ hk';omega
 ·intro k hk hk';rw [List.mem_singleton.1 hk] at hk';have:=HN3.out _ hk';omega
 ·intro k hk hk';have:=HO.out.lt _ hk;have:=HN3.out _ hk';omega
 ·refine ⟨Mod.of_below (bnext HB1.out (Nat.le_refl _) (bnext HB2.out (Nat.le_refl _) (bnext HB3.out (Nat.le_refl _) hb4))) _,fun k hk => ?_⟩
  right
  rcases mem_sFoot.1 hk with h | h | h | h
  ·omega
  ·simp at h;omega
  ·exact HNE.out k h
  ·have:=HN3.out k h;omega
end
section
open Go Go.RowKit
theorem send_deferred (s lb tb cb:Nat) (x:SS) (win most:Int) (FL FO FC:List Nat) (u:FrameMode) (w:World) (h:SParts w s lb tb cb x win most FL FO FC) :
  CallsD Tryz.prog 263 #[.pointer (some ⟨s,0,none⟩)] u w fun e u' w'=>u'=u/\(e = .returned (.tuple #[])/\SParts w' s lb tb cb (leaveS x) win most FL FO FC/\Mod [s] w w'):=by
 obtain ⟨c0,c1,c2,c3,c4,c5,c6,c7,-⟩:=h.cells;have fr:=fun k=>h.free k
 have HE:=hyd (end_cells h.hd);have H:=hyd h;clear h
 go_enter_d Tryz.func263, Tryz.ntmps263
 go_wp2_with fail
 go_end0
 have hm:=((((((set_mod w s 1 (.int .i64 0)).trans (set_mod _ s 3 (.string ⟨#[]⟩)) fun _ h => .inl h).trans (set_mod _ s 4 (.string ⟨#[]⟩)) fun _ h => .inl h).trans (set_mod _ s 5 (.int .u8 0)) fun _ h => .inl h).trans (set_mod _ s 6 (.bool false)) fun _ h => .inl h).trans (set_mod _ s 7 (.bool false)) fun _ h => .inl h);exact ⟨rfl,(H.out.turnH hm HE.out rfl rfl rfl).1,hm⟩
theorem lose_fin {w W w2:World} {s lb tb cb:Nat} {x:SS} {win most:Int} {FL FO FC:List Nat} (hb:Below w.heap.size w W) (hp:SParts w2 s lb tb cb (leaveS x) win most FL FO FC) (hm:Mod [s] W w2) :
  SesRep w2 s win most (leaveS x) (sFoot s FL FO FC)/\Upd (sFoot s FL FO FC) (sFoot s FL FO FC) w w2:=
 ⟨⟨lb,tb,cb,FL,FO,FC,hp,rfl⟩,(Mod.of_below hb _).trans (hm.mono (S':=sFoot s FL FO FC) fun _ hk=>mem_sFoot.2 (.inl (List.mem_singleton.1 hk))) fun _ hk => .inl hk,fun _ hk => .inl hk⟩
set_option maxRecDepth 100000
theorem lose_any (s:Nat) (x:SS) (win most:Int) (F:List Nat) (w:World) (h:SesRep w s win most x F) :
  Calls Tryz.prog 194 #[.pointer (some ⟨s,0,none⟩)] w fun e w'=>e = .returned (.tuple #[(loseA x).1.val,.bool (loseA x).2])/\SesRep w' s win most (leaveS x) F/\Upd F F w w':=by
 obtain ⟨lb,tb,cb,FL,FO,FC,h,rfl⟩:=h;have hsl:=h.lts;have HC:=hyd (fun W hW=>send_deferred s lb tb cb x win most FL FO FC .returning W (h.below hW));obtain ⟨-,k1,-,k3,k4,k5,k6,k7,-⟩:=h.cells;have c1:=fun o=>((low_alloc w o).cell (p:=⟨s,1,none⟩) hsl).trans k1
 have c3:=fun o=>((low_alloc w o).cell (p:=⟨s,3,none⟩) hsl).trans k3
 have c4:=fun o=>((low_alloc w o).cell (p:=⟨s,4,none⟩) hsl).trans k4
 have c5:=fun o=>((low_alloc w o).cell (p:=⟨s,5,none⟩) hsl).trans k5
 have c6:=fun o=>((low_alloc w o).cell (p:=⟨s,6,none⟩) hsl).trans k6
 have c7:=fun o=>((low_alloc w o).cell (p:=⟨s,7,none⟩) hsl).trans k7
 have HLA:Hid (loseA x=if losesB x then (x.will,true) else (Msg.none,false)):=hyd rfl;have HLB:Hid (losesB x=(x.has && !decide (x.conn=0))):=hyd rfl;have HWM:Hid (x.will.val = .agg #[.string x.will.t,.string x.will.p,.int .u8 x.will.q,.bool x.will.r]):=hyd rfl;clear h k1 k3 k4 k5 k6 k7;obtain ⟨hs,hhs⟩:∃ b,x.has=b:=⟨_,rfl⟩;have HHS:=hyd hhs;rw [hhs] at c7;clear hhs
 by_cases hc:x.conn=0
 ·have hc':(x.conn == 0)=true:=by simpa using hc
  have HLF:Hid (losesB x=false):=hyd (by rw [HLB.out,hc];simp)
  go_enter_defers Tryz.func194, Tryz.ntmps194
  go_wp2_with fail
  refine leaves_cons (f:=263) (args:=#[.pointer (some ⟨s,0,none⟩)]) (by simp) (by simp [go_sem]) ?_;refine (HC.out _ (low_alloc _ _)).mono ?_;rintro e u' w2 ⟨rfl,rfl,hp,hm⟩;have hg:=(hm.block w.heap.size (by simp) (by simp;omega)).trans (heap_alloc_new w _);rw [HLA.out,HLF.out];exact ⟨_,results_row_tmp rfl (g:=w.heap.size) (d:=_) rfl hg Tryz.underlying36 rfl (by kernel_rfl),rfl,lose_fin (low_alloc _ _) hp hm⟩
 ·have hc':(x.conn == 0)=false:=by rw [beq_eq_false_iff_ne];exact hc
  cases hs with
  | false =>
   have HLF:Hid (losesB x=false):=hyd (by rw [HLB.out,HHS.out];rfl)
   go_enter_defers Tryz.func194, Tryz.ntmps194
   go_wp2_with fail
   refine leaves_cons (f:=263) (args:=#[.pointer (some ⟨s,0,none⟩)]) (by simp) (by simp [go_sem]) ?_;refine (HC.out _ (low_alloc _ _)).mono ?_;rintro e u' w2 ⟨rfl,rfl,hp,hm⟩;have hg:=(hm.block w.heap.size (by simp) (by simp;omega)).trans (heap_alloc_new w _);rw [HLA.out,HLF.out];exact ⟨_,results_row_tmp rfl (g:=w.heap.size) (d:=_) rfl hg Tryz.underlying36 rfl (by kernel_rfl),rfl,lose_fin (low_alloc _ _) hp hm⟩
  | true =>
   have HLF:Hid (losesB x=true):=hyd (by rw [HLB.out,HHS.out,decide_eq_false hc];rfl)
   go_enter_defers Tryz.func194, Tryz.ntmps194
   go_wp2_with fail
   refine leaves_cons (f:=263) (args:=#[.pointer (some ⟨s,0,none⟩)]) (by simp) (by simp [go_sem]) ?_;refine (HC.out _ (low_alloc _ _)).mono ?_;rintro e u' w2 ⟨rfl,rfl,hp,hm⟩;have hg:=(hm.block w.heap.size (by simp) (by simp;omega)).trans (heap_alloc_new w _);rw [HLA.out,HLF.out];exact ⟨_,results_row_tmp rfl (g:=w.heap.size) (d:=_) rfl hg Tryz.underlying36 rfl (by kernel_rfl),rfl,lose_fin (low_alloc _ _) hp hm⟩
end
section
open Go Go.RowKit
def BeginDone (w w':World) (s:Nat) (win most:Int) (F:List Nat) (e:Ending) (a:Bool × List (List UInt8)) (x':SS):Prop:=
 ∃ v F',e = .returned (.tuple #[.bool a.1,v])/\w'.ownsRow w.heap.size 9 1 v a.2.length (namesV a.2)/\SesRep w' s win most x' F'/\Upd F F' w w'/\Off F' v.ownBlock.toList
theorem begin_no {w w':World} {s:Nat} {win most:Int} {F:List Nat} {x:SS} (h:SesRep w s win most x F) (hb:Below w.heap.size w w'):BeginDone w w' s win most F (.returned (.tuple #[.bool false,.slice none 0 0])) (false,[]) x:=
 ⟨_,F,rfl,World.ownsRow_nil _ _ _ _,h.below hb,Upd.of_below hb,fun k _=>by simp [Value.ownBlock]⟩
def begunS (conn:Int) (p:Pkt) (x:SS):SS:=⟨x.client,conn,p.clean,if p.hasWill then p.will else Msg.none,p.hasWill,x.l,x.o,x.came⟩
theorem begun_cells {w:World} {s lb tb cb:Nat} {x:SS} {T:TypeId} (conn:Int) (p:Pkt) (hw:p.hasWill=false) (h:w.heap[s]? = some (.cells (ssC (leaveS x) lb tb cb).toArray T (0,0))) :
  ((w.setCell ⟨s,1,none⟩ (.int .i64 conn)).setCell ⟨s,2,none⟩ (.bool p.clean)).heap[s]? = some (.cells (ssC (begunS conn p x) lb tb cb).toArray T (0,0)):=by
 have h1:=heap_setCell_same _ s 1 _ _ (.int .i64 conn) h;have h2:=heap_setCell_same _ s 2 _ _ (.bool p.clean) h1;unfold begunS;rw [hw];exact h2
theorem begun_cellsW {w:World} {s lb tb cb:Nat} {x:SS} {T:TypeId} (conn:Int) (p:Pkt) (hw:p.hasWill=true) (h:w.heap[s]? = some (.cells (ssC (leaveS x) lb tb cb).toArray T (0,0))) :
  (((((((w.setCell ⟨s,1,none⟩ (.int .i64 conn)).setCell ⟨s,2,none⟩ (.bool p.clean)).setCell ⟨s,7,none⟩ (.bool true)).setCell ⟨s,3,none⟩ (.string p.will.t)).setCell ⟨s,4,none⟩ (.string p.will.p)).setCell ⟨s,5,none⟩ (.int .u8 p.will.q)).setCell ⟨s,6,none⟩ (.bool p.will.r)).heap[s]? = some (.cells (ssC (begunS conn p x) lb tb cb).toArray T (0,0)):=by
 have h1:=heap_setCell_same _ s 1 _ _ (.int .i64 conn) h;have h2:=heap_setCell_same _ s 2 _ _ (.bool p.clean) h1;have h3:=heap_setCell_same _ s 7 _ _ (.bool true) h2;have h4:=heap_setCell_same _ s 3 _ _ (.string p.will.t) h3;have h5:=heap_setCell_same _ s 4 _ _ (.string p.will.p) h4;have h6:=heap_setCell_same _ s 5 _ _ (.int .u8 p.will.q) h5;have h7:=heap_setCell_same _ s 6 _ _ (.bool p.will.r) h6;unfold begunS;rw [hw]
 simpa [ssC,leaveS] using h7
theorem begun_mod (w:World) (s:Nat) (a b:Value):Mod [s] w ((w.setCell ⟨s,1,none⟩ a).setCell ⟨s,2,none⟩ b):=(set_mod w s 1 a).trans (set_mod _ s 2 b) fun _ h => .inl h
theorem begun_modW (w:World) (s:Nat) (a b c d e f g:Value):Mod [s] w (((((((w.setCell ⟨s,1,none⟩ a).setCell ⟨s,2,none⟩ b).setCell ⟨s,7,none⟩ c).setCell ⟨s,3,none⟩ d).setCell ⟨s,4,none⟩ e).setCell ⟨s,5,none⟩ f).setCell ⟨s,6,none⟩ g):=
 (((((begun_mod w s a b).trans (set_mod _ s 7 c) fun _ h => .inl h).trans (set_mod _ s 3 d) fun _ h => .inl h).trans (set_mod _ s 4 e) fun _ h => .inl h).trans (set_mod _ s 5 f) fun _ h => .inl h).trans (set_mod _ s 6 g) fun _ h => .inl h
structure PkAt (X:World) (pb:Nat) (p:Pkt):Prop where
 c0:X.cell? ⟨pb,0,none⟩=some (.int .u8 p.ty)
 c8:X.cell? ⟨pb,8,none⟩=some (.bool p.clean)
 c11:X.cell? ⟨pb,11,none⟩=some (.bool p.hasWill)
 c12:X.cell? ⟨pb,12,none⟩=some (.string p.will.t)
 c13:X.cell? ⟨pb,13,none⟩=some (.string p.will.p)
 c14:X.cell? ⟨pb,14,none⟩=some (.int .u8 p.will.q)
 c15:X.cell? ⟨pb,15,none⟩=some (.bool p.will.r)
theorem pkAt {X:World} {pb:Nat} {p:Pkt} (h:X.heap[pb]? = some (.cells p.cells.toArray 39 (0,0))):PkAt X pb p:=by
 obtain ⟨a0,-⟩:=pk_cells h;obtain ⟨-,a8,-,-,a11,a12,a13,a14,a15,-⟩:=pk_cells2 h;exact ⟨a0,a8,a11,a12,a13,a14,a15⟩
theorem begin_fin {w W w2 w3:World} {s lb tb cb:Nat} {conn:Int} {p:Pkt} {x:SS} {win most:Int} {FL FO FC FL0 FO0 FC0:List Nat} {v:Value} {a:Bool × List (List UInt8)} (hb:Below w.heap.size w W) (hu:Upd (sFoot s FL0 FO0 FC0) (sFoot s FL FO FC) W w2)
  (hp:SParts w2 s lb tb cb (leaveS x) win most FL FO FC) (hm:Mod [s] w2 w3) (hs:w3.heap[s]? = some (.cells (ssC (begunS conn p x) lb tb cb).toArray 116 (0,0)))
  (ho:w2.ownsRow w.heap.size 9 1 v a.2.length (namesV a.2)) (hf:Off (sFoot s FL FO FC) v.ownBlock.toList) :
  BeginDone w w3 s win most (sFoot s FL0 FO0 FC0) (.returned (.tuple #[.bool a.1,v])) a (begunS conn p x):=by
 obtain ⟨h3,hu3⟩:=hp.turnH (x':=begunS conn p x) hm hs rfl rfl rfl;refine ⟨v,_,rfl,?_,⟨lb,tb,cb,FL,FO,FC,h3,rfl⟩,Upd.pre hb (hu.trans' hu3),hf⟩;exact own_upd ho hu3 hf
theorem begunS_eq {conn:Int} {p:Pkt} {x:SS} (hm:mayB conn p=true) (hf:freshB p x=false):beginS conn p x=begunS conn p x/\beginA conn p x=(true,[]):=by
 unfold beginS beginA begunS;simp [hm,hf]
theorem begunS_fresh {conn:Int} {p:Pkt} {x:SS} (hm:mayB conn p=true) (hf:freshB p x=true):beginS conn p x=begunS conn p { x with l:=[],o:=OT.new,came:=[] } /\ beginA conn p x=(false,namesE x.l):=by
 unfold beginS beginA begunS;simp [hm,hf]
theorem begin_may {conn:Int} {p:Pkt} {x:SS} (hm:mayB conn p=false):beginS conn p x=x/\beginA conn p x=(false,[]):=by
 unfold beginS beginA;simp [hm]
set_option maxRecDepth 100000
set_option maxHeartbeats 4000000
theorem begin_any (s:Nat) (x:SS) (win most:Int) (F:List Nat) (conn:Int) (p:Pkt) (w:World) (h:SesRep w s win most x F) :
  Calls Tryz.prog 189 #[.pointer (some ⟨s,0,none⟩),.int .i64 conn,.agg p.cells.toArray] w fun e w'=>BeginDone w w' s win most F e (beginA conn p x) (beginS conn p x):=by
 have hb:=low_alloc w (.cells p.cells.toArray 39);have hX:=heap_alloc_new w (.cells p.cells.toArray 39);have hnF:w.heap.size ∉ F:=fun hk=>by have:=h.lt _ hk;omega
 have HH:=hyd h;have HPK:Hid (∀ X:World,X.heap[w.heap.size]? = (w.alloc (.cells p.cells.toArray 39)).heap[w.heap.size]? -> PkAt X w.heap.size p):=hyd (fun X e=>pkAt (e.trans hX));obtain ⟨W,hW⟩:∃ W,w.alloc (.cells p.cells.toArray 39)=W:=⟨_,rfl⟩;have hnl:w.heap.size < W.heap.size:=by rw [<- hW];simp
 rw [hW] at HPK hb;obtain ⟨lb,tb,cb,FL,FO,FC,hp,rfl⟩:=h.below hb;obtain ⟨p0,p8,p11,-,-,-,-⟩:=HPK.out W rfl;have HB:=hyd hb;have HNF:=hyd hnF;have HP:=hyd hp;obtain ⟨-,-,k2,-,-,-,-,-,k8,k9,k10⟩:=hp.cells;have HMB:Hid (mayB conn p=(decide (1<=conn) && decide (p.ty=1))):=hyd rfl;have HFB:Hid (freshB p x=(x.clean || p.clean)):=hyd rfl;clear h hb hX hnF hp;generalize p.cells.toArray=PC at *
 by_cases hcn:conn < 1
 ·have HM:Hid (mayB conn p=false):=hyd (by rw [HMB.out,decide_eq_false (by omega)];rfl)
  go_enter Tryz.func189, Tryz.ntmps189
  go_wp2_with fail
  go_ret2
  rw [(begin_may HM.out).1,(begin_may HM.out).2];exact begin_no HH.out HB.out
 ·by_cases hty:p.ty=1
  ·have HM:Hid (mayB conn p=true):=hyd (by rw [HMB.out,decide_eq_true (by omega),decide_eq_true hty];rfl)
   rw [hty] at p0;clear hty;obtain ⟨cl,hcl⟩:∃ b,x.clean=b:=⟨_,rfl⟩;obtain ⟨pc,hpc⟩:∃ b,p.clean=b:=⟨_,rfl⟩;obtain ⟨hw,hhw⟩:∃ b,p.hasWill=b:=⟨_,rfl⟩;have HHW:=hyd hhw;rw [hcl] at k2;rw [hpc] at p8;have HPC:=hyd hpc;rw [hcl,hpc] at HFB;clear hcl hpc hhw
   cases cl with
   | false =>
    cases pc with
    | false =>
     have HF:Hid (freshB p x=false):=hyd HFB.out;have hpbs:w.heap.size ≠ s:=fun e=>HNF.out (mem_sFoot.2 (.inl e))
     have hs4:W.heap.size<=W.heap.size:=Nat.le_refl _;have HP2:=HP
     go_enter Tryz.func189, Tryz.ntmps189
     go_wp2_with fail
     have HE2:=hyd (send_parts s lb tb cb x win most FL FO FC _ HP2.out)
     go_wp2_with fail
     refine HE2.out.mono ?_;rintro e w5 ⟨rfl,hp5,hm5⟩;have hpb5:=(hm5.block w.heap.size (Nat.lt_of_lt_of_le hnl hs4) (by simpa using hpbs));obtain ⟨-,q8,q11,q12,q13,q14,q15⟩:=HPK.out _ hpb5;rw [HPC.out] at q8;rw [HHW.out] at q11;obtain ⟨d0,d1,d2,d3,d4,d5,d6,d7,-⟩:=hp5.cells;have fr:=fun k=>hp5.free k
     have HP5:=hyd hp5;have HM5:=hyd hm5;have hos:∀ (k j:Nat) (X:World) (v:Value),(X.setCell ⟨s,k,none⟩ v).cell? ⟨w.heap.size,j,none⟩=X.cell? ⟨w.heap.size,j,none⟩:=fun k j X v=>World.cell?_of_block (heap_setCell_other X _ _ _ hpbs)
     clear hp5 hm5 hpb5
     cases hw with
     | false =>
      go_wp2_with fail
      go_ret2
      have hcs:=begun_cells conn p HHW.out HP5.out.hd;rw [HPC.out] at hcs;rw [(begunS_eq HM.out HF.out).1,(begunS_eq HM.out HF.out).2];exact begin_fin (a:=(true,[])) HB.out ⟨HM5.out.mono fun k hk=>mem_sFoot.2 (.inl (List.mem_singleton.1 hk)),fun _ hk => .inl hk⟩ HP5.out (begun_mod _ _ _ _) hcs (World.ownsRow_nil _ _ _ _) (fun k _=>by simp [Value.ownBlock])
     | true =>
      go_wp2_with fail
      go_ret2
      have hcs:=begun_cellsW conn p HHW.out HP5.out.hd;rw [HPC.out] at hcs;rw [(begunS_eq HM.out HF.out).1,(begunS_eq HM.out HF.out).2];exact begin_fin (a:=(true,[])) HB.out ⟨HM5.out.mono fun k hk=>mem_sFoot.2 (.inl (List.mem_singleton.1 hk)),fun _ hk => .inl hk⟩ HP5.out (begun_modW _ _ _ _ _ _ _ _ _) hcs (World.ownsRow_nil _ _ _ _) (fun k _=>by simp [Value.ownBlock])
    | true =>
     have HF:Hid (freshB p x=true):=hyd HFB.out;have hpbs:w.heap.size ≠ s:=fun e=>HNF.out (mem_sFoot.2 (.inl e))
     have hlbF:lb ∈ FL:=by
      obtain ⟨_,_,G,-,-,-,-,-,-,-,e⟩:=HP.out.subs;rw [e];simp
     have hpbl:w.heap.size ∉ FL:=fun e=>HNF.out (mem_sFoot.2 (.inr (.inl e)))
     have hpbo:w.heap.size ∉ FO:=fun e=>HNF.out (mem_sFoot.2 (.inr (.inr (.inl e))))
     have hpbc:w.heap.size ∉ FC:=fun e=>HNF.out (mem_sFoot.2 (.inr (.inr (.inr e))))
     go_enter Tryz.func189, Tryz.ntmps189
     go_wp2_with fail
     refine (sclear_any lb x.l FL W HP.out.subs).mono ?_;rintro e w2 ⟨v,rfl,hov,hl2,hu2⟩;obtain ⟨h2,hU2⟩:=HP.out.turnL hl2 hu2;have hpb2:=hu2.1.block w.heap.size hnl hpbl;have hs2:=hu2.1.size;obtain ⟨-,-,-,-,-,-,-,-,-,k9,k10⟩:=h2.cells;have H2:=hyd h2;have HU2:=hyd hU2;have HPB2:=hyd hpb2;have HOV:=hyd hov;clear hov hl2 hu2 h2 hU2 hpb2
     go_wp2_with fail
     refine (oreset_any tb win most x.o FO w2 H2.out.out).mono ?_;rintro e w3 ⟨rfl,FO',ho3,hu3⟩;obtain ⟨h3,hU3⟩:=H2.out.turnO ho3 hu3;have hpb3:=(hu3.1.block w.heap.size (Nat.lt_of_lt_of_le hnl hs2) hpbo).trans HPB2.out;have hs3:=Nat.le_trans hs2 hu3.1.size
     have hfv:Off FO v.ownBlock.toList:=fun k hk hk'=>by
      have h1:=(HOV.out.lt k (Option.mem_toList.1 hk')).1;have h2:=HP.out.out.lt k hk;omega
     have hov3:=own_upd HOV.out hu3 hfv;have hfv':Off FO' v.ownBlock.toList:=hu3.off hfv fun k hk=>(HOV.out.lt k (Option.mem_toList.1 hk)).2
     have HFV:=hyd hfv';obtain ⟨-,-,-,-,-,-,-,-,-,-,k10⟩:=h3.cells;have H3:=hyd h3;have HU3:=hyd (HU2.out.trans' hU3);have HPB3:=hyd hpb3;have HOV3:=hyd hov3;clear ho3 hu3 h3 hU3 hpb3 hfv hov3 hfv'
     go_wp2_with fail
     refine (cforget cb x.came FC w3 H3.out.came).mono ?_;rintro e w4 ⟨rfl,hc4,hu4⟩;obtain ⟨h4,hU4⟩:=H3.out.turnC hc4 hu4;have HPB:Hid (w4.heap[w.heap.size]? = W.heap[w.heap.size]?):=hyd ((hu4.1.block w.heap.size (Nat.lt_of_lt_of_le hnl hs3) hpbc).trans HPB3.out);have hs4:W.heap.size<=w4.heap.size:=Nat.le_trans hs3 hu4.1.size
     have hov4:=own_upd HOV3.out hu4 (fun k hk hk'=>by
      have h1:=(HOV.out.lt k (Option.mem_toList.1 hk')).1;have h2:=HP.out.came.lt k hk
      omega)
     have HP2:=hyd h4;have HU4:=hyd (HU3.out.trans' hU4);have HOV4:=hyd hov4
     have HOF:Hid (Off (sFoot s [lb] FO' FC) v.ownBlock.toList):=hyd (fun k hk hk'=>by
      have h1:=(HOV.out.lt k (Option.mem_toList.1 hk')).1
      rcases mem_sFoot.1 hk with h2 | h2 | h2 | h2
      ·have:=HP.out.lts;omega
      ·have:=HP.out.subs.lt k (by rw [List.mem_singleton.1 h2];exact hlbF);omega
      ·exact HFV.out k h2 hk'
      ·have:=HP.out.came.lt k h2;omega)
     clear hc4 hu4 h4 hU4 hov4;have HE2:=hyd (send_parts s lb tb cb { x with l:=[],o:=OT.new,came:=[] } win most [lb] FO' FC _ HP2.out)
     go_wp2_with fail
     refine HE2.out.mono ?_;rintro e w5 ⟨rfl,hp5,hm5⟩;have hpb5:=(hm5.block w.heap.size (Nat.lt_of_lt_of_le hnl hs4) (by simpa using hpbs)).trans HPB.out;obtain ⟨-,q8,q11,q12,q13,q14,q15⟩:=HPK.out _ hpb5;rw [HPC.out] at q8;rw [HHW.out] at q11;obtain ⟨d0,d1,d2,d3,d4,d5,d6,d7,-⟩:=hp5.cells;have fr:=fun k=>hp5.free k
     have HP5:=hyd hp5;have HM5:=hyd hm5;have hos:∀ (k j:Nat) (X:World) (v:Value),(X.setCell ⟨s,k,none⟩ v).cell? ⟨w.heap.size,j,none⟩=X.cell? ⟨w.heap.size,j,none⟩:=fun k j X v=>World.cell?_of_block (heap_setCell_other X _ _ _ hpbs)
     clear hp5 hm5 hpb5
     cases hw with
     | false =>
      go_wp2_with fail
      go_ret2
      have hcs:=begun_cells conn p HHW.out HP5.out.hd;rw [HPC.out] at hcs;rw [(begunS_fresh HM.out HF.out).1,(begunS_fresh HM.out HF.out).2];exact begin_fin (x:={ x with l:=[],o:=OT.new,came:=[] }) (a:=(false,namesE x.l)) HB.out (HU4.out.trans' ⟨HM5.out.mono fun k hk=>mem_sFoot.2 (.inl (List.mem_singleton.1 hk)),fun _ hk => .inl hk⟩) HP5.out (begun_mod _ _ _ _) hcs (by rw [show (namesE x.l).length=x.l.length by simp [namesE]];exact own_upd (ownsRow_mono HOV4.out (HB.out.size)) ⟨HM5.out,fun _ hk => .inl hk⟩ (fun k hk hk'=>HOF.out k (mem_sFoot.2 (.inl (List.mem_singleton.1 hk))) hk')) HOF.out
     | true =>
      go_wp2_with fail
      go_ret2
      have hcs:=begun_cellsW conn p HHW.out HP5.out.hd;rw [HPC.out] at hcs;rw [(begunS_fresh HM.out HF.out).1,(begunS_fresh HM.out HF.out).2];exact begin_fin (x:={ x with l:=[],o:=OT.new,came:=[] }) (a:=(false,namesE x.l)) HB.out (HU4.out.trans' ⟨HM5.out.mono fun k hk=>mem_sFoot.2 (.inl (List.mem_singleton.1 hk)),fun _ hk => .inl hk⟩) HP5.out (begun_modW _ _ _ _ _ _ _ _ _) hcs (by rw [show (namesE x.l).length=x.l.length by simp [namesE]];exact own_upd (ownsRow_mono HOV4.out (HB.out.size)) ⟨HM5.out,fun _ hk => .inl hk⟩ (fun k hk hk'=>HOF.out k (mem_sFoot.2 (.inl (List.mem_singleton.1 hk))) hk')) HOF.out
   | true =>
    cases pc with
    | false =>
     have HF:Hid (freshB p x=true):=hyd HFB.out;have hpbs:w.heap.size ≠ s:=fun e=>HNF.out (mem_sFoot.2 (.inl e))
     have hlbF:lb ∈ FL:=by
      obtain ⟨_,_,G,-,-,-,-,-,-,-,e⟩:=HP.out.subs;rw [e];simp
     have hpbl:w.heap.size ∉ FL:=fun e=>HNF.out (mem_sFoot.2 (.inr (.inl e)))
     have hpbo:w.heap.size ∉ FO:=fun e=>HNF.out (mem_sFoot.2 (.inr (.inr (.inl e))))
     have hpbc:w.heap.size ∉ FC:=fun e=>HNF.out (mem_sFoot.2 (.inr (.inr (.inr e))))
     go_enter Tryz.func189, Tryz.ntmps189
     go_wp2_with fail
     refine (sclear_any lb x.l FL W HP.out.subs).mono ?_;rintro e w2 ⟨v,rfl,hov,hl2,hu2⟩;obtain ⟨h2,hU2⟩:=HP.out.turnL hl2 hu2;have hpb2:=hu2.1.block w.heap.size hnl hpbl;have hs2:=hu2.1.size;obtain ⟨-,-,-,-,-,-,-,-,-,k9,k10⟩:=h2.cells;have H2:=hyd h2;have HU2:=hyd hU2;have HPB2:=hyd hpb2;have HOV:=hyd hov;clear hov hl2 hu2 h2 hU2 hpb2
     go_wp2_with fail
     refine (oreset_any tb win most x.o FO w2 H2.out.out).mono ?_;rintro e w3 ⟨rfl,FO',ho3,hu3⟩;obtain ⟨h3,hU3⟩:=H2.out.turnO ho3 hu3;have hpb3:=(hu3.1.block w.heap.size (Nat.lt_of_lt_of_le hnl hs2) hpbo).trans HPB2.out;have hs3:=Nat.le_trans hs2 hu3.1.size
     have hfv:Off FO v.ownBlock.toList:=fun k hk hk'=>by
      have h1:=(HOV.out.lt k (Option.mem_toList.1 hk')).1;have h2:=HP.out.out.lt k hk;omega
     have hov3:=own_upd HOV.out hu3 hfv;have hfv':Off FO' v.ownBlock.toList:=hu3.off hfv fun k hk=>(HOV.out.lt k (Option.mem_toList.1 hk)).2
     have HFV:=hyd hfv';obtain ⟨-,-,-,-,-,-,-,-,-,-,k10⟩:=h3.cells;have H3:=hyd h3;have HU3:=hyd (HU2.out.trans' hU3);have HPB3:=hyd hpb3;have HOV3:=hyd hov3;clear ho3 hu3 h3 hU3 hpb3 hfv hov3 hfv'
     go_wp2_with fail
     refine (cforget cb x.came FC w3 H3.out.came).mono ?_;rintro e w4 ⟨rfl,hc4,hu4⟩;obtain ⟨h4,hU4⟩:=H3.out.turnC hc4 hu4;have HPB:Hid (w4.heap[w.heap.size]? = W.heap[w.heap.size]?):=hyd ((hu4.1.block w.heap.size (Nat.lt_of_lt_of_le hnl hs3) hpbc).trans HPB3.out);have hs4:W.heap.size<=w4.heap.size:=Nat.le_trans hs3 hu4.1.size
     have hov4:=own_upd HOV3.out hu4 (fun k hk hk'=>by
      have h1:=(HOV.out.lt k (Option.mem_toList.1 hk')).1;have h2:=HP.out.came.lt k hk
      omega)
     have HP2:=hyd h4;have HU4:=hyd (HU3.out.trans' hU4);have HOV4:=hyd hov4
     have HOF:Hid (Off (sFoot s [lb] FO' FC) v.ownBlock.toList):=hyd (fun k hk hk'=>by
      have h1:=(HOV.out.lt k (Option.mem_toList.1 hk')).1
      rcases mem_sFoot.1 hk with h2 | h2 | h2 | h2
      ·have:=HP.out.lts;omega
      ·have:=HP.out.subs.lt k (by rw [List.mem_singleton.1 h2];exact hlbF);omega
      ·exact HFV.out k h2 hk'
      ·have:=HP.out.came.lt k h2;omega)
     clear hc4 hu4 h4 hU4 hov4;have HE2:=hyd (send_parts s lb tb cb { x with l:=[],o:=OT.new,came:=[] } win most [lb] FO' FC _ HP2.out)
     go_wp2_with fail
     refine HE2.out.mono ?_;rintro e w5 ⟨rfl,hp5,hm5⟩;have hpb5:=(hm5.block w.heap.size (Nat.lt_of_lt_of_le hnl hs4) (by simpa using hpbs)).trans HPB.out;obtain ⟨-,q8,q11,q12,q13,q14,q15⟩:=HPK.out _ hpb5;rw [HPC.out] at q8;rw [HHW.out] at q11;obtain ⟨d0,d1,d2,d3,d4,d5,d6,d7,-⟩:=hp5.cells;have fr:=fun k=>hp5.free k
     have HP5:=hyd hp5;have HM5:=hyd hm5;have hos:∀ (k j:Nat) (X:World) (v:Value),(X.setCell ⟨s,k,none⟩ v).cell? ⟨w.heap.size,j,none⟩=X.cell? ⟨w.heap.size,j,none⟩:=fun k j X v=>World.cell?_of_block (heap_setCell_other X _ _ _ hpbs)
     clear hp5 hm5 hpb5
     cases hw with
     | false =>
      go_wp2_with fail
      go_ret2
      have hcs:=begun_cells conn p HHW.out HP5.out.hd;rw [HPC.out] at hcs;rw [(begunS_fresh HM.out HF.out).1,(begunS_fresh HM.out HF.out).2];exact begin_fin (x:={ x with l:=[],o:=OT.new,came:=[] }) (a:=(false,namesE x.l)) HB.out (HU4.out.trans' ⟨HM5.out.mono fun k hk=>mem_sFoot.2 (.inl (List.mem_singleton.1 hk)),fun _ hk => .inl hk⟩) HP5.out (begun_mod _ _ _ _) hcs (by rw [show (namesE x.l).length=x.l.length by simp [namesE]];exact own_upd (ownsRow_mono HOV4.out (HB.out.size)) ⟨HM5.out,fun _ hk => .inl hk⟩ (fun k hk hk'=>HOF.out k (mem_sFoot.2 (.inl (List.mem_singleton.1 hk))) hk')) HOF.out
     | true =>
      go_wp2_with fail
      go_ret2
      have hcs:=begun_cellsW conn p HHW.out HP5.out.hd;rw [HPC.out] at hcs;rw [(begunS_fresh HM.out HF.out).1,(begunS_fresh HM.out HF.out).2];exact begin_fin (x:={ x with l:=[],o:=OT.new,came:=[] }) (a:=(false,namesE x.l)) HB.out (HU4.out.trans' ⟨HM5.out.mono fun k hk=>mem_sFoot.2 (.inl (List.mem_singleton.1 hk)),fun _ hk => .inl hk⟩) HP5.out (begun_modW _ _ _ _ _ _ _ _ _) hcs (by rw [show (namesE x.l).length=x.l.length by simp [namesE]];exact own_upd (ownsRow_mono HOV4.out (HB.out.size)) ⟨HM5.out,fun _ hk => .inl hk⟩ (fun k hk hk'=>HOF.out k (mem_sFoot.2 (.inl (List.mem_singleton.1 hk))) hk')) HOF.out
    | true =>
     have HF:Hid (freshB p x=true):=hyd HFB.out;have hpbs:w.heap.size ≠ s:=fun e=>HNF.out (mem_sFoot.2 (.inl e))
     have hlbF:lb ∈ FL:=by
      obtain ⟨_,_,G,-,-,-,-,-,-,-,e⟩:=HP.out.subs;rw [e];simp
     have hpbl:w.heap.size ∉ FL:=fun e=>HNF.out (mem_sFoot.2 (.inr (.inl e)))
     have hpbo:w.heap.size ∉ FO:=fun e=>HNF.out (mem_sFoot.2 (.inr (.inr (.inl e))))
     have hpbc:w.heap.size ∉ FC:=fun e=>HNF.out (mem_sFoot.2 (.inr (.inr (.inr e))))
     go_enter Tryz.func189, Tryz.ntmps189
     go_wp2_with fail
     refine (sclear_any lb x.l FL W HP.out.subs).mono ?_;rintro e w2 ⟨v,rfl,hov,hl2,hu2⟩;obtain ⟨h2,hU2⟩:=HP.out.turnL hl2 hu2;have hpb2:=hu2.1.block w.heap.size hnl hpbl;have hs2:=hu2.1.size;obtain ⟨-,-,-,-,-,-,-,-,-,k9,k10⟩:=h2.cells;have H2:=hyd h2;have HU2:=hyd hU2;have HPB2:=hyd hpb2;have HOV:=hyd hov;clear hov hl2 hu2 h2 hU2 hpb2
     go_wp2_with fail
     refine (oreset_any tb win most x.o FO w2 H2.out.out).mono ?_;rintro e w3 ⟨rfl,FO',ho3,hu3⟩;obtain ⟨h3,hU3⟩:=H2.out.turnO ho3 hu3;have hpb3:=(hu3.1.block w.heap.size (Nat.lt_of_lt_of_le hnl hs2) hpbo).trans HPB2.out;have hs3:=Nat.le_trans hs2 hu3.1.size
     have hfv:Off FO v.ownBlock.toList:=fun k hk hk'=>by
      have h1:=(HOV.out.lt k (Option.mem_toList.1 hk')).1;have h2:=HP.out.out.lt k hk;omega
     have hov3:=own_upd HOV.out hu3 hfv;have hfv':Off FO' v.ownBlock.toList:=hu3.off hfv fun k hk=>(HOV.out.lt k (Option.mem_toList.1 hk)).2
     have HFV:=hyd hfv';obtain ⟨-,-,-,-,-,-,-,-,-,-,k10⟩:=h3.cells;have H3:=hyd h3;have HU3:=hyd (HU2.out.trans' hU3);have HPB3:=hyd hpb3;have HOV3:=hyd hov3;clear ho3 hu3 h3 hU3 hpb3 hfv hov3 hfv'
     go_wp2_with fail
     refine (cforget cb x.came FC w3 H3.out.came).mono ?_;rintro e w4 ⟨rfl,hc4,hu4⟩;obtain ⟨h4,hU4⟩:=H3.out.turnC hc4 hu4;have HPB:Hid (w4.heap[w.heap.size]? = W.heap[w.heap.size]?):=hyd ((hu4.1.block w.heap.size (Nat.lt_of_lt_of_le hnl hs3) hpbc).trans HPB3.out);have hs4:W.heap.size<=w4.heap.size:=Nat.le_trans hs3 hu4.1.size
     have hov4:=own_upd HOV3.out hu4 (fun k hk hk'=>by
      have h1:=(HOV.out.lt k (Option.mem_toList.1 hk')).1;have h2:=HP.out.came.lt k hk
      omega)
     have HP2:=hyd h4;have HU4:=hyd (HU3.out.trans' hU4);have HOV4:=hyd hov4
     have HOF:Hid (Off (sFoot s [lb] FO' FC) v.ownBlock.toList):=hyd (fun k hk hk'=>by
      have h1:=(HOV.out.lt k (Option.mem_toList.1 hk')).1
      rcases mem_sFoot.1 hk with h2 | h2 | h2 | h2
      ·have:=HP.out.lts;omega
      ·have:=HP.out.subs.lt k (by rw [List.mem_singleton.1 h2];exact hlbF);omega
      ·exact HFV.out k h2 hk'
      ·have:=HP.out.came.lt k h2;omega)
     clear hc4 hu4 h4 hU4 hov4;have HE2:=hyd (send_parts s lb tb cb { x with l:=[],o:=OT.new,came:=[] } win most [lb] FO' FC _ HP2.out)
     go_wp2_with fail
     refine HE2.out.mono ?_;rintro e w5 ⟨rfl,hp5,hm5⟩;have hpb5:=(hm5.block w.heap.size (Nat.lt_of_lt_of_le hnl hs4) (by simpa using hpbs)).trans HPB.out;obtain ⟨-,q8,q11,q12,q13,q14,q15⟩:=HPK.out _ hpb5;rw [HPC.out] at q8;rw [HHW.out] at q11;obtain ⟨d0,d1,d2,d3,d4,d5,d6,d7,-⟩:=hp5.cells;have fr:=fun k=>hp5.free k
     have HP5:=hyd hp5;have HM5:=hyd hm5;have hos:∀ (k j:Nat) (X:World) (v:Value),(X.setCell ⟨s,k,none⟩ v).cell? ⟨w.heap.size,j,none⟩=X.cell? ⟨w.heap.size,j,none⟩:=fun k j X v=>World.cell?_of_block (heap_setCell_other X _ _ _ hpbs)
     clear hp5 hm5 hpb5
     cases hw with
     | false =>
      go_wp2_with fail
      go_ret2
      have hcs:=begun_cells conn p HHW.out HP5.out.hd;rw [HPC.out] at hcs;rw [(begunS_fresh HM.out HF.out).1,(begunS_fresh HM.out HF.out).2];exact begin_fin (x:={ x with l:=[],o:=OT.new,came:=[] }) (a:=(false,namesE x.l)) HB.out (HU4.out.trans' ⟨HM5.out.mono fun k hk=>mem_sFoot.2 (.inl (List.mem_singleton.1 hk)),fun _ hk => .inl hk⟩) HP5.out (begun_mod _ _ _ _) hcs (by rw [show (namesE x.l).length=x.l.length by simp [namesE]];exact own_upd (ownsRow_mono HOV4.out (HB.out.size)) ⟨HM5.out,fun _ hk => .inl hk⟩ (fun k hk hk'=>HOF.out k (mem_sFoot.2 (.inl (List.mem_singleton.1 hk))) hk')) HOF.out
     | true =>
      go_wp2_with fail
      go_ret2
      have hcs:=begun_cellsW conn p HHW.out HP5.out.hd;rw [HPC.out] at hcs;rw [(begunS_fresh HM.out HF.out).1,(begunS_fresh HM.out HF.out).2];exact begin_fin (x:={ x with l:=[],o:=OT.new,came:=[] }) (a:=(false,namesE x.l)) HB.out (HU4.out.trans' ⟨HM5.out.mono fun k hk=>mem_sFoot.2 (.inl (List.mem_singleton.1 hk)),fun _ hk => .inl hk⟩) HP5.out (begun_modW _ _ _ _ _ _ _ _ _) hcs (by rw [show (namesE x.l).length=x.l.length by simp [namesE]];exact own_upd (ownsRow_mono HOV4.out (HB.out.size)) ⟨HM5.out,fun _ hk => .inl hk⟩ (fun k hk hk'=>HOF.out k (mem_sFoot.2 (.inl (List.mem_singleton.1 hk))) hk')) HOF.out
  ·have HM:Hid (mayB conn p=false):=hyd (by rw [HMB.out,decide_eq_false hty,Bool.and_false])
   go_enter Tryz.func189, Tryz.ntmps189
   go_wp2_with fail
   go_ret2
   rw [(begin_may HM.out).1,(begin_may HM.out).2];exact begin_no HH.out HB.out
end
end Go.Proofs.YtcekcoepdhnfgaaGreatDoor
