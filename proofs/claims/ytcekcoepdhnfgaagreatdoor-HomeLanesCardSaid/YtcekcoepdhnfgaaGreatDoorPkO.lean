/- Packets; the out table in memory. -/
import Derived.Test.YtcekcoepdhnfgaaGreatDoorKTopX
import Derived.Test.YtcekcoepdhnfgaaGreatDoorOutP
import Derived.Test.YtcekcoepdhnfgaaGreatDoorStB
import Derived.Great.Walk
import Derived.Great.BuildSlice
import Derived.Test.YtcekcoepdhnfgaaGreatDoorIdY
import Derived.Test.YtcekcoepdhnfgaaGreatDoorQueueX
namespace Go.Proofs.YtcekcoepdhnfgaaGreatDoor
section
section
open Go Go.RowKit
theorem pk_cells {w:World} {b:Nat} {x:Pkt} (h:w.heap[b]? = some (.cells x.cells.toArray 39 (0,0))) :
  w.cell? ⟨b,0,none⟩=some (.int .u8 x.ty)/\w.cell? ⟨b,1,none⟩=some (.bool x.dup)/\w.cell? ⟨b,2,none⟩=some (.int .u8 x.qos)/\w.cell? ⟨b,3,none⟩=some (.bool x.retain)/\w.cell? ⟨b,4,none⟩=some (.int .u16 x.id) ∧
   w.cell? ⟨b,5,none⟩=some (.string x.topic)/\w.cell? ⟨b,6,none⟩=some (.string x.payload):=
 ⟨cell_of_row w b 0 _ _ _ h,cell_of_row w b 1 _ _ _ h,cell_of_row w b 2 _ _ _ h,cell_of_row w b 3 _ _ _ h,cell_of_row w b 4 _ _ _ h,cell_of_row w b 5 _ _ _ h,cell_of_row w b 6 _ _ _ h⟩
def idOf (m:Msg):Int:=if 0 < m.q then 1 else 0
def restP (m:Msg):Int:=if mayP m then 2+m.t.size+m.p.size+(if 0 < m.q then 2 else 0) else -1
theorem restP_no {m:Msg} (h:nameB m.t.data.toList=false \/ 2 < m.q):restP m = -1:=by
 unfold restP mayP
 rcases h with h | h
 ·rw [h];rfl
 ·rw [decide_eq_false (by omega),Bool.and_false];rfl
theorem restP_yes {m:Msg} (h:nameB m.t.data.toList=true) (h2:m.q<=2):restP m=2+m.t.size+m.p.size+(if 0 < m.q then 2 else 0):=by
 unfold restP mayP;rw [h,decide_eq_true h2];rfl
set_option maxRecDepth 100000
set_option maxHeartbeats 2000000
theorem ppub_any (m:Msg) (w:World) (hT:Tabs w) (hs:m.t.size+m.p.size<=200000000) (hq0:0<=m.q) :
  Calls Tryz.prog 311 #[.agg (pubK m (idOf m) false).cells.toArray] w fun e w'=>e = .returned (.int .i64 (restP m))/\Below w.heap.size w w':=by
 have hb:=low_alloc w (.cells (pubK m (idOf m) false).cells.toArray 39);have hX:=heap_alloc_new w (.cells (pubK m (idOf m) false).cells.toArray 39);obtain ⟨-,x1,x2,-,x4,x5,x6⟩:=pk_cells hX;generalize (pubK m (idOf m) false).cells.toArray=PC at *;dsimp only [pubK] at x1 x2 x4 x5 x6;have HNM:=hyd (pname_any m.t _ (hT.below hb) (by omega));have HB:=hyd hb;have hl:w.heap.size < (w.alloc (.cells PC 39)).heap.size:=by simp
 obtain ⟨bn,hbn⟩:∃ bn,nameB m.t.data.toList=bn:=⟨_,rfl⟩;have HBN:=hyd hbn;rw [hbn] at HNM;clear hb hT hbn hX
 go_enter Tryz.func311, Tryz.ntmps311
 go_wp2_with fail
 refine HNM.out.mono ?_;rintro e w1 ⟨rfl,hk⟩;have hsw:∀ j v,(w.alloc (.cells PC 39)).cell? ⟨w.heap.size,j,none⟩=some v->w1.cell? ⟨w.heap.size,j,none⟩=some v:=fun j v h=>(hk.cell (p:=⟨w.heap.size,j,none⟩) hl).trans h
 replace x1:=hsw _ _ x1;replace x2:=hsw _ _ x2;replace x4:=hsw _ _ x4;replace x5:=hsw _ _ x5;replace x6:=hsw _ _ x6;have HB1:=hyd (bnext HB.out (Nat.le_refl _) hk);clear hk hsw hl
 cases bn with
 | false =>
  go_wp2_with fail
  go_ret
  exact ⟨by rw [restP_no (.inl HBN.out)];rfl,HB1.out⟩
 | true =>
  by_cases h2:2 < m.q
  ·go_wp2_with fail
   go_ret
   exact ⟨by rw [restP_no (.inr h2)];rfl,HB1.out⟩
  ·have HR:=hyd (restP_yes HBN.out (by omega))
   by_cases h0:0 < m.q
   ·have hid:idOf m=1:=by unfold idOf;rw [if_pos h0]
    rw [hid] at x4
    go_wp2_with fail
    go_ret
    exact ⟨by rw [HR.out,if_pos h0];rfl,HB1.out⟩
   ·have hid:idOf m=0:=by unfold idOf;rw [if_neg h0]
    rw [hid] at x4
    go_wp2_with fail
    go_ret
    exact ⟨by rw [HR.out,if_neg (by omega),Int.add_zero];rfl,HB1.out⟩
end
section
open Go Go.RowKit
theorem setRow_new (w:World) (cs cs':Array Value) (T:TypeId):(w.alloc (.cells cs T)).setRow w.heap.size cs'=w.alloc (.cells cs' T):=by
 unfold World.setRow World.alloc
 congr 1
 apply Array.ext
 ·simp
 ·intro i h1 h2
  simp only [Array.getElem_modify,Array.getElem_push];simp only [Array.size_modify,Array.size_push] at h1
  by_cases e:w.heap.size=i
  ·subst e;simp
  ·rw [if_neg e]
   have:i < w.heap.size:=by omega
   simp [this]
theorem wpList_store_newTo {P:Program} {ops:Array Oper} {rest:List Oper} {o:Oper} {a:Act} {w0:World} {Q:Exit->Act->World->Prop} (hgd:o.guard=none) (ty:TypeId) (x y:Operand) (ho:o.op = .store ty x y)
  (hd:o.dst=none) (g:Nat) (hg:g=w0.heap.size) (cells old:Array Value) (hx:a.eval x = .pointer (some ⟨g,0,none⟩)) (hy:a.eval y = .agg cells)
  (hi:(P.info? ty).map (·.size)=some cells.size) (hold:old.size=cells.size) (h1:cells.all (·.oneCell')=true)
  (h:wpList P ops Q rest a (w0.alloc (.cells cells ty))):wpList P ops Q (o :: rest) a (w0.alloc (.cells old ty)):=by
 subst hg;refine wpList_store_rowTo hgd ty x y ho hd w0.heap.size cells hx hy ty old (heap_alloc_new w0 _) hi hold h1 ?_;rw [setRow_new];exact h
theorem wpList_buildBy {P:Program} {ops:Array Oper} {rest:List Oper} {o:Oper} {a:Act} {w:World} {Q:Exit->Act->World->Prop} (hg:o.guard=none) (t:TypeId) (parts:Array (Nat × Operand)) (ho:o.op = .build t parts)
  (d:Option Tmp) (hd:o.dst=d) (cells:Array Value) (ps:List (Nat × Value)) (hps:(parts.map fun (i,x)=>(i,a.eval x)).toList=ps) (hf:P.built t ps=some cells)
  (h:wpList P ops Q rest (a.put d (.agg cells)) w):wpList P ops Q (o :: rest) a w:=
 wpList_buildTo hg t parts ho d hd cells (by rw [hps];exact hf) h
theorem wpList_ask {P:Program} {ops:Array Oper} {rest:List Oper} {o:Oper} {a:Act} {w:World} {Q:Exit->Act->World->Prop} (hw:Region.wanted o (yielded ops a.tmps)=true)
  (h:∀ K:Act->World->Prop,(∀ a w,wpList P ops Q rest a w->K a w)->o.wp P a w K Q):wpList P ops Q (o :: rest) a w:=
 wpList_step fun K hK=>by rw [if_pos hw];exact h K hK
theorem wpList_buildG {P:Program} {ops:Array Oper} {rest:List Oper} {o:Oper} {a:Act} {w:World} {Q:Exit->Act->World->Prop} (hw:Region.wanted o (yielded ops a.tmps)=true) (t:TypeId) (parts:Array (Nat × Operand)) (ho:o.op = .build t parts)
  (d:Option Tmp) (hd:o.dst=d) (cells:Array Value) (ps:List (Nat × Value)) (hps:(parts.map fun (i,x)=>(i,a.eval x)).toList=ps) (hf:P.built t ps=some cells)
  (h:wpList P ops Q rest (a.put d (.agg cells)) w):wpList P ops Q (o :: rest) a w:=by
 subst hd hps;refine wpList_ask hw fun K hK=>wp_build t parts ho (by rw [hf];rfl) (hK _ _ ?_)
 rw [hf];exact h
theorem wpList_loadG {P:Program} {ops:Array Oper} {rest:List Oper} {o:Oper} {a:Act} {w:World} {Q:Exit->Act->World->Prop} (hw:Region.wanted o (yielded ops a.tmps)=true) (ty:TypeId) (x:Operand) (ho:o.op = .load ty x)
  (g:Nat) (hx:a.eval x = .pointer (some ⟨g,0,none⟩)) (t:TypeId) (cs:Array Value) (fr:Nat × Nat) (d:TypeDesc) (hg:w.heap[g]? = some (.cells cs t fr))
  (hu:P.underlying ty=some d) (hd:(match d with | .struct _ | .array _ _=>true | _=>false)=true) (hi:(P.info? ty).map (·.size)=some cs.size)
  (h:wpList P ops Q rest (a.put o.dst (.agg cs)) w):wpList P ops Q (o :: rest) a w:=
 wpList_ask hw fun _ hK=>wp_load_row ty x ho g hx t cs fr d hg hu hd hi (hK _ _ h)
end
section
open Go Go.RowKit
def flatC (x:Pkt):List Value:=[.int .u8 x.ty,.int .u8 x.qos,.int .u8 x.level,.int .u8 x.code,.bool x.dup,.bool x.retain,.bool x.clean,.bool x.hasWill,.bool x.hasUser,.bool x.hasPass,.bool x.present,.int .u16 x.id,.int .u16 x.keep,.string x.topic,.string x.payload,.string x.client,.string x.user,.string x.pass,.string x.codes,.string x.will.t,.string x.will.p,.int .u8 x.will.q,.bool x.will.r]
theorem pk_cells2 {w:World} {b:Nat} {x:Pkt} (h:w.heap[b]? = some (.cells x.cells.toArray 39 (0,0))) :
  w.cell? ⟨b,7,none⟩=some (.int .u8 x.level)/\w.cell? ⟨b,8,none⟩=some (.bool x.clean)/\w.cell? ⟨b,9,none⟩=some (.int .u16 x.keep)/\w.cell? ⟨b,10,none⟩=some (.string x.client)/\w.cell? ⟨b,11,none⟩=some (.bool x.hasWill) ∧
   w.cell? ⟨b,12,none⟩=some (.string x.will.t)/\w.cell? ⟨b,13,none⟩=some (.string x.will.p)/\w.cell? ⟨b,14,none⟩=some (.int .u8 x.will.q)/\w.cell? ⟨b,15,none⟩=some (.bool x.will.r)/\w.cell? ⟨b,16,none⟩=some (.bool x.hasUser)/\w.cell? ⟨b,17,none⟩=some (.bool x.hasPass) ∧
   w.cell? ⟨b,18,none⟩=some (.string x.user)/\w.cell? ⟨b,19,none⟩=some (.string x.pass)/\w.cell? ⟨b,20,none⟩=some (.bool x.present)/\w.cell? ⟨b,21,none⟩=some (.int .u8 x.code)/\w.cell? ⟨b,22,none⟩=some (.slice x.subsA x.subs.length x.subsC)/\w.cell? ⟨b,23,none⟩=some (.string x.codes):=
 ⟨cell_of_row w b 7 _ _ _ h,cell_of_row w b 8 _ _ _ h,cell_of_row w b 9 _ _ _ h,cell_of_row w b 10 _ _ _ h,cell_of_row w b 11 _ _ _ h,cell_of_row w b 12 _ _ _ h,cell_of_row w b 13 _ _ _ h,cell_of_row w b 14 _ _ _ h,cell_of_row w b 15 _ _ _ h,cell_of_row w b 16 _ _ _ h,cell_of_row w b 17 _ _ _ h,cell_of_row w b 18 _ _ _ h,cell_of_row w b 19 _ _ _ h,cell_of_row w b 20 _ _ _ h,cell_of_row w b 21 _ _ _ h,cell_of_row w b 22 _ _ _ h,cell_of_row w b 23 _ _ _ h⟩
def flatPs (x:Pkt):List (Nat × Value):=[(0,.int .u8 x.ty),(1,.int .u8 x.qos),(2,.int .u8 x.level),(3,.int .u8 x.code),(4,.bool x.dup),(5,.bool x.retain),(6,.bool x.clean),(7,.bool x.hasWill),(8,.bool x.hasUser),(9,.bool x.hasPass),(10,.bool x.present),(11,.int .u16 x.id),(12,.int .u16 x.keep),(13,.string x.topic),(14,.string x.payload),(15,.string x.client),(16,.string x.user),(17,.string x.pass),(18,.string x.codes),(19,.agg #[.string x.will.t,.string x.will.p,.int .u8 x.will.q,.bool x.will.r])]
theorem built_flat (x:Pkt):Tryz.prog.built 378 (flatPs x)=some (flatC x).toArray:=by
 obtain ⟨p0,p1,p2,p3,p4,p5,p6,p7,p8,p9,p10,p11,⟨m0,m1,m2,m3⟩,p13,p14,p15,p16,p17,p18,p19,p20,p21,p22⟩:=x
 kernel_rfl
theorem flat_size (x:Pkt):(Tryz.prog.info? 378).map (·.size)=some (flatC x).toArray.size:=show _=some 23 by kernel_rfl
theorem flat_one (x:Pkt):(flatC x).toArray.all (·.oneCell')=true:=by simp [flatC,Value.oneCell']
set_option maxRecDepth 100000
set_option maxHeartbeats 2000000
theorem plain_any (x:Pkt) (w:World):Calls Tryz.prog 341 #[.agg x.cells.toArray] w fun e w'=>e = .returned (.agg (flatC x).toArray)/\Below w.heap.size w w':=by
 have hX:=heap_alloc_new w (.cells x.cells.toArray 39);have hb1:=low_alloc w (.cells x.cells.toArray 39);have hs1:(w.alloc (.cells x.cells.toArray 39)).heap.size=w.heap.size+1:=by simp
 have HXO:=hyd (fun o=>((low_alloc (w.alloc (.cells x.cells.toArray 39)) o).block w.heap.size (by omega)).trans hX);have HBU:=hyd (fun (_:Unit)=>built_flat x);have HFS:=hyd (flat_size x);have HF1:=hyd (flat_one x);have HF23:Hid ((23:Nat)=(flatC x).toArray.size):=hyd rfl;have HB1:=hyd hb1;have hX2:=HXO.out (.cells #[.int .u8 0,.int .u8 0,.int .u8 0,.int .u8 0,.bool false,.bool false,.bool false,.bool false,.bool false,.bool false,.bool false,.int .u16 0,.int .u16 0,.string ⟨#[]⟩,.string ⟨#[]⟩,.string ⟨#[]⟩,.string ⟨#[]⟩,.string ⟨#[]⟩,.string ⟨#[]⟩,.string ⟨#[]⟩,.string ⟨#[]⟩,.int .u8 0,.bool false] 378);obtain ⟨y0,y1,y2,y3,y4,y5,y6⟩:=pk_cells hX2;obtain ⟨y7,y8,y9,y10,y11,y12,y13,y14,y15,y16,y17,y18,y19,y20,y21,y22,y23⟩:=pk_cells2 hX2;clear hX hX2 HXO hb1 hs1 y22;generalize hFC:(flatC x).toArray=FC at *
 go_enter Tryz.func341, Tryz.ntmps341
 go_wp2_with (first
  | (refine wpList_buildBy rfl 378 _ rfl _ rfl FC [(0,.int .u8 x.ty),(1,.int .u8 x.qos),(2,.int .u8 x.level),(3,.int .u8 x.code),(4,.bool x.dup),(5,.bool x.retain),(6,.bool x.clean),(7,.bool x.hasWill),(8,.bool x.hasUser),(9,.bool x.hasPass),(10,.bool x.present),(11,.int .u16 x.id),(12,.int .u16 x.keep),(13,.string x.topic),(14,.string x.payload),(15,.string x.client),(16,.string x.user),(17,.string x.pass),(18,.string x.codes),(19,.agg #[.string x.will.t,.string x.will.p,.int .u8 x.will.q,.bool x.will.r])] (by kernel_rfl) (HBU.out ()) ?_)
  | (refine wpList_store_newTo rfl 378 _ _ rfl rfl (w.heap.size+1) (by simp) FC _ rfl rfl HFS.out HF23.out HF1.out ?_)
  | fail)
 refine bodyPost_ret (results_cell_row rfl _ _ (w.heap.size+1) 378 FC (0,0) _ rfl ?_ Tryz.underlying378 rfl HFS.out) rfl ⟨rfl,bnext HB1.out (Nat.le_refl _) (low_alloc _ _)⟩;have h9:=heap_alloc_new (w.alloc (.cells x.cells.toArray 39)) (.cells FC 378)
 rwa [World.size_alloc] at h9
end
section
open Go Go.RowKit
set_option maxRecDepth 100000
set_option maxHeartbeats 2000000
theorem flat_eql (x:Pkt) (w:World):(binOp .eql 378 (.agg (flatC x).toArray) (.agg (flatC x).toArray)).run Tryz.prog w = .ok (.bool true) w:=by
 have hst:Tryz.prog.stoodInHeld 378 = false:=by kernel_rfl
 have hgd:Tryz.prog.eqGuardType Tryz.prog.depth 378 = false:=by kernel_rfl
 unfold flatC;go_simp
theorem pk_size (x:Pkt):(Tryz.prog.info? 39).map (·.size)=some x.cells.toArray.size:=show _=some 24 by kernel_rfl
theorem pk_one (x:Pkt):x.cells.toArray.all (·.oneCell')=true:=by simp [Pkt.cells,Msg.cells,Value.oneCell']
end
end
section
open Go Go.RowKit
def pkZ:Pkt:=⟨0,false,0,false,0,⟨#[]⟩,⟨#[]⟩,0,false,0,⟨#[]⟩,false,Msg.none,false,false,⟨#[]⟩,⟨#[]⟩,false,0,none,0,[],⟨#[]⟩⟩
def sentC (x:Sent):List Value:=(pubK x.m x.id false).cells ++ [.int .u8 x.due]
def sentV (l:List Sent):List Value:=l.flatMap sentC
def pksV (l:List Pkt):List Value:=l.flatMap Pkt.cells
theorem sentC_len (x:Sent):(sentC x).length=25:=rfl
theorem sentV_append (a b:List Sent):sentV a++sentV b=sentV (a++b):=by simp [sentV]
theorem sentV_len (l:List Sent):(sentV l).length=l.length * 25:=flatMap_len sentC_len l
theorem pksV_append (a b:List Pkt):pksV a++pksV b=pksV (a++b):=by simp [pksV]
theorem pksV_len (l:List Pkt):(pksV l).length=l.length * 24:=flatMap_len pkt_len l
theorem pks_one (l:List Pkt):∀ u ∈ pksV l,u.oneCell'=true:=by
 intro u hu;obtain ⟨m,-,hm⟩:=List.mem_flatMap.1 hu;have:=pk_one m;rw [Array.all_eq_true_iff_forall_mem] at this;exact this u (by simpa using hm)
theorem sentC_one (x:Sent):∀ u ∈ sentC x,u.oneCell'=true:=by
 intro u hu
 rcases List.mem_append.1 hu with hu | hu
 ·exact pks_one [pubK x.m x.id false] u (by simpa [pksV] using hu)
 ·rw [List.mem_singleton.1 hu];rfl
theorem sent_one (l:List Sent):∀ u ∈ sentV l,u.oneCell'=true:=by
 intro u hu;obtain ⟨m,-,hm⟩:=List.mem_flatMap.1 hu;exact sentC_one m u hm
theorem T_pkt:ElemT Tryz.prog 42 39 (.agg pkZ.cells.toArray) 24 200:=⟨Tryz.underlying42, by kernel_rfl,by kernel_rfl,by decide⟩
theorem T_sent:ElemT Tryz.prog 217 226 (.agg (pkZ.cells ++ [Value.int .u8 0]).toArray) 25 208:=⟨Tryz.underlying217, by kernel_rfl,by kernel_rfl,by decide⟩
structure OParts (w:World) (t q p:Nat) (v:Value) (win most:Int) (wait:List Msg) (ids:List Nat) (row:List Sent) (FQ FP:List Nat):Prop where
 hd:w.heap[t]? = some (.cells #[.pointer (some ⟨q,0,none⟩),.pointer (some ⟨p,0,none⟩),.int .i64 win,v] 219 (0,0))
 queue:QRep w q wait most FQ
 pool:PoolRep w p ids FP
 own:w.ownsRow 0 226 25 v row.length (sentV row)
 tq:t ∉ FQ
 tp:t ∉ FP
 tv:t ∉ v.ownBlock.toList
 qp:Off FQ FP
 qv:Off FQ v.ownBlock.toList
 pv:Off FP v.ownBlock.toList
def oFoot (t:Nat) (v:Value) (FQ FP:List Nat):List Nat:=t :: (FQ++(FP++v.ownBlock.toList))
theorem mem_oFoot {t:Nat} {v:Value} {FQ FP:List Nat} {k:Nat}:k ∈ oFoot t v FQ FP ↔ k=t \/ k ∈ FQ \/ k ∈ FP \/ k ∈ v.ownBlock.toList:=by simp [oFoot]
section
variable {w w':World} {t q p:Nat} {v v':Value} {win most:Int} {wait wait':List Msg} {ids ids':List Nat} {row row':List Sent} {FQ FP FQ' FP':List Nat}
theorem OParts.ltt (h:OParts w t q p v win most wait ids row FQ FP):t < w.heap.size:=(Array.getElem?_eq_some_iff.1 h.hd).1
theorem OParts.ltv (h:OParts w t q p v win most wait ids row FQ FP):∀ k ∈ v.ownBlock.toList,k < w.heap.size:=fun k hk=>(h.own.lt k (Option.mem_toList.1 hk)).2
theorem OParts.lt (h:OParts w t q p v win most wait ids row FQ FP):∀ k ∈ oFoot t v FQ FP,k < w.heap.size:=fun k hk=>by
 rcases mem_oFoot.1 hk with rfl | hk | hk | hk
 ·exact h.ltt
 ·exact h.queue.lt k hk
 ·exact h.pool.lt k hk
 ·exact h.ltv k hk
theorem OParts.keep (h : OParts w t q p v win most wait ids row FQ FP) (hk : ∀ k ∈ oFoot t v FQ FP, w'.heap[k]? = w.heap[k]?) : OParts w' t q p v win most wait ids row FQ FP :=
  ⟨(hk t (mem_oFoot.2 (.inl rfl))).trans h.hd, h.queue.local fun k hk' => hk k (mem_oFoot.2 (.inr (.inl hk'))), h.pool.keep fun k hk' => hk k (mem_oFoot.2 (.inr (.inr (.inl hk')))),
    ownsRow_local h.own fun k hk' => hk k (mem_oFoot.2 (.inr (.inr (.inr (Option.mem_toList.2 hk'))))), h.tq, h.tp, h.tv, h.qp, h.qv, h.pv⟩
theorem OParts.mod {S:List Nat} (h:OParts w t q p v win most wait ids row FQ FP) (hm:Mod S w w') (hS:∀ k ∈ oFoot t v FQ FP,k ∉ S):OParts w' t q p v win most wait ids row FQ FP:=h.keep fun k hk=>hm.block k (h.lt k hk) (hS k hk)
theorem OParts.below (h:OParts w t q p v win most wait ids row FQ FP) (hb:Below w.heap.size w w'):OParts w' t q p v win most wait ids row FQ FP:=h.mod (Mod.of_below hb []) (by simp)
theorem OParts.turnQ (h:OParts w t q p v win most wait ids row FQ FP) (hq:QRep w' q wait' most FQ') (hu:Upd FQ FQ' w w'):OParts w' t q p v win most wait' ids row FQ' FP/\Upd (oFoot t v FQ FP) (oFoot t v FQ' FP) w w':=by
 have new:∀ k ∈ FQ',k ∈ FQ \/ w.heap.size<=k:=hu.2;refine ⟨⟨(hu.1.block t h.ltt h.tq).trans h.hd,hq,h.pool.mod hu.1 fun k hk hk'=>h.qp k hk' hk,ownsRow_local h.own fun k hk=>hu.1.block k (h.ltv k (Option.mem_toList.2 hk)) fun hk'=>h.qv k hk' (Option.mem_toList.2 hk),fun hk => ?_,h.tp,h.tv,fun k hk hk' => ?_,fun k hk hk' => ?_,h.pv⟩,hu.1.mono fun k hk=>mem_oFoot.2 (.inr (.inl hk)),fun k hk => ?_⟩
 ·rcases new _ hk with h1 | h1
  ·exact h.tq h1
  ·have:=h.ltt;omega
 ·rcases new k hk with h1 | h1
  ·exact h.qp k h1 hk'
  ·have:=h.pool.lt k hk';omega
 ·rcases new k hk with h1 | h1
  ·exact h.qv k h1 hk'
  ·have:=h.ltv k hk';omega
 ·rcases mem_oFoot.1 hk with rfl | hk | hk
  ·exact .inl (mem_oFoot.2 (.inl rfl))
  ·exact (new k hk).imp (fun h1=>mem_oFoot.2 (.inr (.inl h1))) id
  ·exact .inl (mem_oFoot.2 (.inr (.inr hk)))
theorem OParts.turnP (h:OParts w t q p v win most wait ids row FQ FP) (hp:PoolRep w' p ids' FP') (hu:Upd FP FP' w w'):OParts w' t q p v win most wait ids' row FQ FP'/\Upd (oFoot t v FQ FP) (oFoot t v FQ FP') w w':=by
 have new:∀ k ∈ FP',k ∈ FP \/ w.heap.size<=k:=hu.2;refine ⟨⟨(hu.1.block t h.ltt h.tp).trans h.hd,h.queue.mod hu.1 fun k hk hk'=>h.qp k hk hk',hp,ownsRow_local h.own fun k hk=>hu.1.block k (h.ltv k (Option.mem_toList.2 hk)) fun hk'=>h.pv k hk' (Option.mem_toList.2 hk),h.tq,fun hk => ?_,h.tv,fun k hk hk' => ?_,h.qv,fun k hk hk' => ?_⟩,hu.1.mono fun k hk=>mem_oFoot.2 (.inr (.inr (.inl hk))),fun k hk => ?_⟩
 ·rcases new _ hk with h1 | h1
  ·exact h.tp h1
  ·have:=h.ltt;omega
 ·rcases new k hk' with h1 | h1
  ·exact h.qp k hk h1
  ·have:=h.queue.lt k hk;omega
 ·rcases new k hk with h1 | h1
  ·exact h.pv k h1 hk'
  ·have:=h.ltv k hk';omega
 ·rcases mem_oFoot.1 hk with rfl | hk | hk | hk
  ·exact .inl (mem_oFoot.2 (.inl rfl))
  ·exact .inl (mem_oFoot.2 (.inr (.inl hk)))
  ·exact (new k hk).imp (fun h1=>mem_oFoot.2 (.inr (.inr (.inl h1)))) id
  ·exact .inl (mem_oFoot.2 (.inr (.inr (.inr hk))))
theorem OParts.turnR (h:OParts w t q p v win most wait ids row FQ FP) (hm:Mod (t :: v.ownBlock.toList) w w') (ht:w'.heap[t]? = some (.cells #[.pointer (some ⟨q,0,none⟩),.pointer (some ⟨p,0,none⟩),.int .i64 win,v'] 219 (0,0)))
  (ho:w'.ownsRow 0 226 25 v' row'.length (sentV row')) (new:∀ k ∈ v'.ownBlock.toList,k ∈ v.ownBlock.toList \/ w.heap.size<=k):OParts w' t q p v' win most wait ids row' FQ FP/\Upd (oFoot t v FQ FP) (oFoot t v' FQ FP) w w':=by
 refine ⟨⟨ht,h.queue.mod hm fun k hk hk' => ?_,h.pool.mod hm fun k hk hk' => ?_,ho,h.tq,h.tp,fun hk => ?_,h.qp,fun k hk hk' => ?_,fun k hk hk' => ?_⟩,hm.mono fun k hk => ?_,fun k hk => ?_⟩
 ·rcases List.mem_cons.1 hk' with rfl | hk'
  ·exact h.tq hk
  ·exact h.qv k hk hk'
 ·rcases List.mem_cons.1 hk' with rfl | hk'
  ·exact h.tp hk
  ·exact h.pv k hk hk'
 ·rcases new _ hk with h1 | h1
  ·exact h.tv h1
  ·have:=h.ltt;omega
 ·rcases new k hk' with h1 | h1
  ·exact h.qv k hk h1
  ·have:=h.queue.lt k hk;omega
 ·rcases new k hk' with h1 | h1
  ·exact h.pv k hk h1
  ·have:=h.pool.lt k hk;omega
 ·rcases List.mem_cons.1 hk with rfl | hk
  ·exact mem_oFoot.2 (.inl rfl)
  ·exact mem_oFoot.2 (.inr (.inr (.inr hk)))
 ·rcases mem_oFoot.1 hk with rfl | hk | hk | hk
  ·exact .inl (mem_oFoot.2 (.inl rfl))
  ·exact .inl (mem_oFoot.2 (.inr (.inl hk)))
  ·exact .inl (mem_oFoot.2 (.inr (.inr (.inl hk))))
  ·exact (new k hk).imp (fun h1=>mem_oFoot.2 (.inr (.inr (.inr h1)))) id
end
def WaitOk (l:List Msg):Prop:=∀ m ∈ l,mayP m=true/\0<=m.q
def OutRep (w:World) (t:Nat) (win most:Int) (o:OT) (F:List Nat):Prop:=
 ∃ q p v FQ FP,OParts w t q p v win most o.wait (idsOf o.row) o.row FQ FP/\RowOk win o.row/\1<=win/\win<=1024/\WaitOk o.wait/\F=oFoot t v FQ FP
theorem OutRep.lt {w:World} {t:Nat} {win most:Int} {o:OT} {F:List Nat} (h:OutRep w t win most o F):∀ k ∈ F,k < w.heap.size:=by
 obtain ⟨q,p,v,FQ,FP,h,-,-,-,-,rfl⟩:=h;exact h.lt
theorem OutRep.mod {S:List Nat} {w w':World} {t:Nat} {win most:Int} {o:OT} {F:List Nat} (h:OutRep w t win most o F) (hm:Mod S w w') (hS:∀ k ∈ F,k ∉ S):OutRep w' t win most o F:=by
 obtain ⟨q,p,v,FQ,FP,h,h1,h2,h3,h4,rfl⟩:=h;exact ⟨q,p,v,FQ,FP,h.mod hm hS,h1,h2,h3,h4,rfl⟩
theorem OutRep.below {w w':World} {t:Nat} {win most:Int} {o:OT} {F:List Nat} (h:OutRep w t win most o F) (hb:Below w.heap.size w w'):OutRep w' t win most o F:=h.mod (Mod.of_below hb []) (by simp)
theorem OParts.cells {w:World} {t q p:Nat} {v:Value} {win most:Int} {wait:List Msg} {ids:List Nat} {row:List Sent} {FQ FP:List Nat} (h:OParts w t q p v win most wait ids row FQ FP) :
  w.cell? ⟨t,0,none⟩=some (.pointer (some ⟨q,0,none⟩))/\w.cell? ⟨t,1,none⟩=some (.pointer (some ⟨p,0,none⟩))/\w.cell? ⟨t,2,none⟩=some (.int .i64 win)/\w.cell? ⟨t,3,none⟩=some v:=cells4 h.hd
end
end Go.Proofs.YtcekcoepdhnfgaaGreatDoor
