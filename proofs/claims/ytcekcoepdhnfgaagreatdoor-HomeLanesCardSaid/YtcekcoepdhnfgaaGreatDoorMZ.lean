/- Memory: pieces that are apart. -/
import Derived.Test.YtcekcoepdhnfgaaGreatDoorLib
import Derived.Deep.AppendLies
import Derived.Deep.RegionLaw
import Derived.Deep.RegionHeld3
namespace Go.Proofs.YtcekcoepdhnfgaaGreatDoor
section
section
open Go Go.RowKit
structure Mod (S:List Nat) (w w':World):Prop where
 os:w'.os=w.os
 tape:w'.tape=w.tape
 output:w'.output=w.output
 size:w.heap.size<=w'.heap.size
 block:∀ k,k < w.heap.size->k ∉ S->w'.heap[k]? = w.heap[k]?
theorem Mod.refl (S:List Nat) (w:World):Mod S w w:=⟨rfl,rfl,rfl,Nat.le_refl _,fun _ _ _=>rfl⟩
theorem Mod.of_below {w w':World} (h:Below w.heap.size w w') (S:List Nat):Mod S w w':=⟨h.os,h.tape,h.output,h.size,fun k hk _=>h.block k hk⟩
theorem Mod.below {S:List Nat} {w w':World} {B:Nat} (h:Mod S w w') (hB:B<=w.heap.size) (hS:∀ k ∈ S,B<=k):Below B w w':=
 ⟨h.os,h.tape,h.output,h.size,fun k hk=>h.block k (by omega) (fun hs=>by have:=hS k hs;omega)⟩
theorem Mod.trans {S S':List Nat} {w w1 w2:World} (h:Mod S w w1) (h':Mod S' w1 w2) (hS:∀ k ∈ S',k ∈ S \/ w.heap.size<=k):Mod S w w2:=
 ⟨h'.os.trans h.os,h'.tape.trans h.tape,h'.output.trans h.output,Nat.le_trans h.size h'.size,fun k hk hn=>by
  rw [h'.block k (Nat.lt_of_lt_of_le hk h.size) (fun hs=>by rcases hS k hs with h1 | h1 <;> first | exact hn h1 | omega),h.block k hk hn]⟩
theorem Mod.mono {S S':List Nat} {w w':World} (h:Mod S w w') (hS:∀ k ∈ S,k ∈ S'):Mod S' w w':=⟨h.os,h.tape,h.output,h.size,fun k hk hn=>h.block k hk (fun hs=>hn (hS k hs))⟩
theorem Mod.next {S:List Nat} {w w1 w2:World} (h:Mod S w w1) (h':Below w1.heap.size w1 w2):Mod S w w2:=h.trans (Mod.of_below h' []) (by simp)
theorem Mod.drewN {S:List Nat} {w w':World} (h:Mod S w w') (n:Nat):Mod S w (w'.drewN n):=⟨h.os,h.tape,h.output,h.size,h.block⟩
theorem Mod.drew {S:List Nat} {w w':World} (h:Mod S w w'):Mod S w w'.drew:=⟨h.os,h.tape,h.output,h.size,h.block⟩
theorem Mod.alloc {S:List Nat} {w w':World} (h:Mod S w w') (o:Obj):Mod S w (w'.alloc o):=h.next ((Below.refl _ _).alloc (Nat.le_refl _) o)
theorem Mod.setCell {S:List Nat} {w w':World} (h:Mod S w w') {p:Addr} (hp:p.block ∈ S \/ w.heap.size<=p.block) (u:Value):Mod S w (w'.setCell p u):=
 ⟨h.os,h.tape,h.output,by simpa using h.size,fun k hk hn=>by
  rw [Below.heap_setCell _ _ _ _ (by rintro rfl;rcases hp with hp | hp <;> first | exact hn hp | omega),h.block k hk hn]⟩
theorem Mod.grown {S:List Nat} {w w1 w2:World} {row:Option Nat} (h:Mod S w w1) (hg:w1.grownBy w2 row) (hr:∀ k,row=some k->k ∈ S \/ w.heap.size<=k):Mod S w w2:=
 ⟨hg.os.trans h.os,hg.tape.trans h.tape,hg.output.trans h.output,Nat.le_trans h.size hg.size,fun k hk hn=>by
  rw [hg.block k (Nat.lt_of_lt_of_le hk h.size) (fun e=>by rcases hr k e.symm with h1 | h1 <;> first | exact hn h1 | omega),h.block k hk hn]⟩
theorem Row.mod {S:List Nat} {w w':World} {a:Option Addr} {xs:List Value} (h:Row w a xs) (hm:Mod S w w') (hS:∀ b o,a=some ⟨b,o,none⟩->b ∉ S):Row w' a xs:=by
 rcases h with h | ⟨b,off,rfl,hc⟩
 ·exact .inl h
 ·refine .inr ⟨b,off,rfl,fun j u hj => ?_⟩
  have h0:=hc j u hj;rw [World.cell?_of_block (w:=w) (hm.block b (World.block_lt_of_cell? w _ h0) (hS b off rfl))];exact h0
def Upd (F F':List Nat) (w w':World):Prop:=Mod F w w' /\ ∀ k ∈ F',k ∈ F \/ w.heap.size<=k
theorem ownsRow_local {w w':World} {B:Nat} {e:TypeId} {size n:Nat} {v:Value} {xs:List Value} (h:w.ownsRow B e size v n xs) (hk:∀ k,v.ownBlock=some k->w'.heap[k]? = w.heap[k]?):w'.ownsRow B e size v n xs:=by
 refine ⟨h.1,?_⟩
 rcases h.2 with hn | ⟨b,cap,cur,rfl,hb,hgg,rest⟩
 ·exact .inl hn
 ·exact .inr ⟨b,cap,cur,rfl,hb,by rw [hk b rfl];exact hgg,rest⟩
theorem grown_keep {W1 w2:World} {o:Obj} {row:Option Nat} {g:Nat} {x:Obj} (h:(W1.alloc o).grownBy w2 row) (hg:W1.heap[g]? = some x) (hne:row ≠ some g):w2.heap[g]? = some x:=by
 have hgl:g < W1.heap.size:=(Array.getElem?_eq_some_iff.1 hg).1;rw [h.block g (by simp;omega) (fun e=>hne e.symm),Below.heap_alloc W1 o g hgl,hg]
theorem step_app {P:Program} {t e:TypeId} {z:Value} {size bytes:Nat} (E:ElemT P t e z size bytes) {W:World} {B:Nat} {v:Value} {n:Nat} {xs:List Value} (hown:W.ownsRow B e size v n xs)
  {b m c:Nat} {cur:Array Value} {t':TypeId} {fr:Nat × Nat} (hblk:W.heap[b]? = some (.cells cur t' fr))
  {ops:Array Oper} {o:Oper} {a:Act} {K:Act->World->Prop} {Q:Exit->Act->World->Prop} {E':Prop} (hgd:o.guard=none) {s x:Operand}
  (ho:o.op = .call { callee:=.builtin .append,args:=#[s,x],argTypes:=#[t,t] }) (hs:a.eval s=v) (hx:a.eval x = .slice (some ⟨b,0,none⟩) m c)
  (hc:cur.size=m * size) (hm:0 < m) (h1:∀ u ∈ cur.toList,u.oneCell'=true) (hbytes:(n+m) * bytes<=140737488355328) (hn:n+m < 140737488355328) (hB:B<=W.heap.size)
  (h:∀ g cap w',w'.ownsRow B e size (.slice (some ⟨g,0,none⟩) (n+m) cap) (n+m) (xs++cur.toList)->W.grownBy w' v.ownBlock->(v.ownBlock=some g \/ g=W.heap.size)->g < w'.heap.size →
   K (a.put o.dst (.slice (some ⟨g,0,none⟩) (n+m) cap)) w') :
  if Region.wanted o (yielded ops a.tmps)=true then Oper.wp P o a W K Q else E':=by
 obtain ⟨i0,hi,hz0,hz1,hz2⟩:=info_parts E.hi;refine step_append_lies W hgd s x t ho B e i0 z size bytes E.ht hi hz0 hz1 hz2 E.hzs E.hsz v n xs hs hown ⟨b,0,none⟩ m c cur.toList hx (by simp [hc]) ?_ h1 hm (by unfold maxLen;omega) hbytes hB W.heap.size rfl h;intro j u hj;have e1:(⟨b,0,none⟩:Addr).add j=⟨b,j,none⟩:=by unfold Addr.add;split <;> simp_all
 rw [e1,cell_of_row W b j _ _ _ hblk]
 simpa using hj
structure Msg where
 t:ByteArray
 p:ByteArray
 q:Int
 r:Bool
def Msg.none:Msg:=⟨⟨#[]⟩,⟨#[]⟩,0,false⟩
def Msg.cells (m:Msg):List Value:=[.string m.t,.string m.p,.int .u8 m.q,.bool m.r]
def Msg.val (m:Msg):Value:=.agg #[.string m.t,.string m.p,.int .u8 m.q,.bool m.r]
def msgs (l:List Msg):List Value:=l.flatMap Msg.cells
theorem msgs_length (l:List Msg):(msgs l).length=l.length * 4:=by
 induction l with
 | nil=>rfl
 | cons m l ih=>simp only [msgs,List.flatMap_cons,List.length_append,List.length_cons] at *;rw [ih];simp [Msg.cells];omega
theorem msgs_one (l:List Msg):∀ u ∈ msgs l,u.oneCell'=true:=by
 intro u hu;simp only [msgs,List.mem_flatMap] at hu;obtain ⟨m,_,hm⟩:=hu;simp only [Msg.cells,List.mem_cons,List.not_mem_nil,or_false] at hm
 rcases hm with rfl | rfl | rfl | rfl <;> rfl
theorem msgs_at (l:List Msg):∀ (k:Nat) (m:Msg),l[k]? = some m->(msgs l)[k * 4]? = some (.string m.t)/\(msgs l)[k * 4+1]? = some (.string m.p)/\(msgs l)[k * 4+2]? = some (.int .u8 m.q)/\(msgs l)[k * 4+3]? = some (.bool m.r):=by
 induction l with
 | nil=>intro k m h;simp at h
 | cons x l ih =>
  intro k m h
  cases k with
  | zero =>
   simp at h;subst h;simp [msgs,Msg.cells]
  | succ k =>
   have h1:=ih k m (by simpa using h);have e:msgs (x :: l) = [.string x.t,.string x.p,.int .u8 x.q,.bool x.r]++msgs l:=rfl
   have e4:∀ j,(msgs (x :: l))[(k+1) * 4+j]? = (msgs l)[k * 4+j]?:=fun j=>by
    rw [e,show (k+1) * 4+j=k * 4+j+4 by omega];simp
   have e0:=e4 0;simp only [Nat.add_zero] at e0;rw [e0,e4,e4,e4];exact h1
theorem set4 {w:World} {g:Nat} {a b c d x y z u:Value} {T:TypeId} (h:w.heap[g]? = some (.cells #[a,b,c,d] T (0,0))) :
  ((((w.setCell ⟨g,0,none⟩ x).setCell ⟨g,1,none⟩ y).setCell ⟨g,2,none⟩ z).setCell ⟨g,3,none⟩ u).heap[g]? = some (.cells #[x,y,z,u] T (0,0)) ∧
  Mod [g] w ((((w.setCell ⟨g,0,none⟩ x).setCell ⟨g,1,none⟩ y).setCell ⟨g,2,none⟩ z).setCell ⟨g,3,none⟩ u):=by
 constructor
 ·have h1:=heap_setCell_same w g 0 _ _ x h
  have h2:=heap_setCell_same _ g 1 _ _ y h1;have h3:=heap_setCell_same _ g 2 _ _ z h2;have h4:=heap_setCell_same _ g 3 _ _ u h3;exact h4
 ·exact ((((Mod.refl [g] w).setCell (.inl (by simp)) _).setCell (.inl (by simp)) _).setCell (.inl (by simp)) _).setCell (.inl (by simp)) _
theorem results_row_tmp {P:Program} {fn:Func} {p t:Tmp} {ty:TypeId} (h:fn.results = #[.cell p ty,.tmp t]) {tmps:Array Value} {w:World} {g:Nat} {T:TypeId} {cs:Array Value} {fr:Nat × Nat} {d:TypeDesc}
  (hp:tmps.getD p undef = .pointer (some ⟨g,0,none⟩)) (hg:w.heap[g]? = some (.cells cs T fr))
  (hu:P.underlying ty=some d) (hd:(match d with | .struct _ | .array _ _=>true | _=>false)=true) (hi:(P.info? ty).map (·.size)=some cs.size) :
  (results fn tmps).run P w = .ok (.tuple #[.agg cs,tmps.getD t undef]) w:=by
 have hp':tmps[p]?.getD undef = .pointer (some ⟨g,0,none⟩):=by simpa using hp
 simp [results,h,hp',asAddr,run_loadVar_row w g T ty cs fr d hg hu hd hi]
theorem msgs_row {w:World} {a:Option Addr} {l:List Msg} (h:Row w a (msgs l)) {k:Nat} {m:Msg} (hk:l[k]? = some m) :
  ∃ b off,a=some ⟨b,off,none⟩/\w.cell? ⟨b,off+k * 4,none⟩=some (.string m.t)/\w.cell? ⟨b,off+k * 4+1,none⟩=some (.string m.p)/\w.cell? ⟨b,off+k * 4+2,none⟩=some (.int .u8 m.q)/\w.cell? ⟨b,off+k * 4+3,none⟩=some (.bool m.r):=by
 obtain ⟨m0,m1,m2,m3⟩:=msgs_at l k m hk
 rcases h with h | ⟨b,off,ha,hc⟩
 ·rw [h] at m0;simp at m0
 ·exact ⟨b,off,ha,hc _ _ m0,by rw [Nat.add_assoc];exact hc _ _ m1,by rw [Nat.add_assoc];exact hc _ _ m2,by rw [Nat.add_assoc];exact hc _ _ m3⟩
theorem cells4 {w:World} {g:Nat} {a b c d:Value} {T:TypeId} {fr:Nat × Nat} (h:w.heap[g]? = some (.cells #[a,b,c,d] T fr)) :
  w.cell? ⟨g,0,none⟩=some a/\w.cell? ⟨g,1,none⟩=some b/\w.cell? ⟨g,2,none⟩=some c/\w.cell? ⟨g,3,none⟩=some d:=
 ⟨cell_of_row w g 0 _ _ _ h,cell_of_row w g 1 _ _ _ h,cell_of_row w g 2 _ _ _ h,cell_of_row w g 3 _ _ _ h⟩
theorem cells3 {w:World} {g:Nat} {a b c:Value} {T:TypeId} {fr:Nat × Nat} (h:w.heap[g]? = some (.cells #[a,b,c] T fr)) :
  w.cell? ⟨g,0,none⟩=some a/\w.cell? ⟨g,1,none⟩=some b/\w.cell? ⟨g,2,none⟩=some c:=
 ⟨cell_of_row w g 0 _ _ _ h,cell_of_row w g 1 _ _ _ h,cell_of_row w g 2 _ _ _ h⟩
theorem free4 {w:World} {g:Nat} {cs:Array Value} {T:TypeId} (h:w.heap[g]? = some (.cells cs T (0,0))) :
  w.frozen? ⟨g,0,none⟩=false/\w.frozen? ⟨g,1,none⟩=false/\w.frozen? ⟨g,2,none⟩=false/\w.frozen? ⟨g,3,none⟩=false:=
 ⟨frozen_of_row w g 0 _ _ h,frozen_of_row w g 1 _ _ h,frozen_of_row w g 2 _ _ h,frozen_of_row w g 3 _ _ h⟩
theorem mod_setRow {S:List Nat} {w w':World} (h:Mod S w w') {g:Nat} (hg:g ∈ S \/ w.heap.size<=g) (cs:Array Value):Mod S w (w'.setRow g cs):=
 ⟨h.os,h.tape,h.output,by simpa using h.size,fun k hk hn=>by
  rw [setRow_other w' g k cs (by rintro rfl;rcases hg with hg | hg <;> first | exact hn hg | omega),h.block k hk hn]⟩
theorem step_copy {P:Program} {t e:TypeId} {z:Value} {size bytes:Nat} (E:ElemT P t e z size bytes) {W:World}
  {ops:Array Oper} {o:Oper} {a:Act} {K:Act->World->Prop} {Q:Exit->Act->World->Prop} {E':Prop} (hgd:o.guard=none) {d s:Operand}
  (ho:o.op = .call { callee:=.builtin .copy,args:=#[d,s],argTypes:=#[t,t] }) {g dLen dCap sLen sCap:Nat} {ad:Addr} (hd:a.eval d = .slice (some ⟨g,0,none⟩) dLen dCap) (hs:a.eval s = .slice (some ad) sLen sCap)
  {cur:Array Value} {T:TypeId} (hg:W.heap[g]? = some (.cells cur T (0,0))) {cs:List Value} (hn:cs.length=sLen * size) (hle:sLen<=dLen)
  (hsrc:∀ j v,cs[j]? = some v->W.cell? (ad.add j)=some v) (hfit:cs.length<=cur.size) (h1:∀ v ∈ cs,v.oneCell'=true)
  (h:∀ w' cur',w'.heap[g]? = some (.cells cur' T (0,0))->cur'.size=cur.size->cur'.toList.take cs.length=cs->Mod [g] W w'->K (a.put o.dst (.int .i64 sLen)) w') :
  if Region.wanted o (yielded ops a.tmps)=true then Oper.wp P o a W K Q else E':=by
 obtain ⟨i0,hi,hz0,hz1,hz2⟩:=info_parts E.hi;rw [if_pos (by simp [Region.wanted,hgd])];have hf:=run_firstCells_some (P:=P) W size sLen ad sLen sCap cs hn hsrc;have hst:=run_storeCells_at P g 0 T cs 0 cur W hg (by simpa using hfit) h1
 have hrun:(Builtin.copy_ #[t,t] o.type #[.slice (some ⟨g,0,none⟩) dLen dCap,.slice (some ad) sLen sCap]).run P W = .ok (goInt sLen) (W.setRow g (cs++cur.toList.drop cs.length).toArray):=by
  simp only [Nat.zero_add,List.take_zero,List.nil_append] at hst;simp [Builtin.copy_,run_underlying E.ht,Builtin.lenOf,sizeOf,typeInfo,hi,hz1,Nat.min_eq_left hle,hf,hst]
 unfold Oper.wp execOp;simp only [ho,resolve,invoke,builtin,Sem.run_bind,Sem.run_pure,Result.andThen_ok,List.map_toArray,List.map_cons,List.map_nil,hd,hs,hrun];exact h _ _ (setRow_heap W g cur _ T _ hg) (by simp;omega) (by simp) (mod_setRow (Mod.refl _ _) (.inl (by simp)) _)
theorem wpList_clear {P:Program} {t e:TypeId} {z:Value} {size bytes:Nat} (E:ElemT P t e z size bytes) (hz1:∀ u ∈ z.cells.toList,u.oneCell'=true) {w:World} {ops:Array Oper} {rest:List Oper} {o:Oper} {a:Act} {Q:Exit->Act->World->Prop} (hgd:o.guard=none) {x:Operand}
  (ho:o.op = .call { callee:=.builtin .clear,args:=#[x],argTypes:=#[t] }) {g off m c:Nat} {ad:Option Addr} (hx:a.eval x = .slice ad m c) (had:0 < m->ad=some ⟨g,off,none⟩)
  {cur:Array Value} {T:TypeId} (hg:w.heap[g]? = some (.cells cur T (0,0))) (hfit:off+m * size<=cur.size)
  (h:∀ w' cur',w'.heap[g]? = some (.cells cur' T (0,0))->cur'.size=cur.size->cur'.toList.take off=cur.toList.take off->Mod [g] w w'->wpList P ops Q rest (a.put o.dst (.tuple #[])) w'):wpList P ops Q (o :: rest) a w:=by
 obtain ⟨i0,hi,hz0,hz1',hz2⟩:=info_parts E.hi;refine wpList_plain hgd fun K hK => ?_
 rcases Nat.eq_zero_or_pos m with rfl | hm
 ·have hrun:(Builtin.clear_ #[t] o.type #[.slice ad 0 c]).run P w = .ok (.tuple #[]) w:=by
   cases ad <;> simp [Builtin.clear_,run_underlying E.ht]
  unfold Oper.wp execOp;simp only [ho,resolve,invoke,builtin,Sem.run_bind,Sem.run_pure,Result.andThen_ok,List.map_toArray,List.map_cons,List.map_nil,hx,hrun];exact hK _ _ (h w cur hg rfl rfl (Mod.refl _ _))
 ·have ha:=had hm
  subst ha;have hzs:=E.hzs;have hzc:(Builtin.zeroCells z.cells m).toList.length=m * size:=by simp [Builtin.zeroCells,hzs]
  have hone:∀ u ∈ (Builtin.zeroCells z.cells m).toList,u.oneCell'=true:=by
   intro u hu;simp only [Builtin.zeroCells,Array.toList_map,Array.toList_range,List.mem_map,List.mem_range] at hu;obtain ⟨i,-,rfl⟩:=hu;have hlt:i % z.cells.size < z.cells.size:=Nat.mod_lt _ (by rw [hzs];exact E.hsz);rw [getElem!_pos z.cells _ hlt];exact hz1 _ (Array.getElem_mem_toList hlt)
  have hst:=run_storeCells_at P g off T (Builtin.zeroCells z.cells m).toList 0 cur w hg (by rw [hzc];omega) hone;obtain ⟨m,rfl⟩:∃ k,m=k+1:=⟨m - 1,by omega⟩;have hzv:(zeroValue e).run P w = .ok z w:=by simp [zeroValue,typeInfo,hi,hz0]
  have hrun:(Builtin.clear_ #[t] o.type #[.slice (some ⟨g,off,none⟩) (m+1) c]).run P w = .ok (.tuple #[]) (w.setRow g (cur.toList.take (off+0)++(Builtin.zeroCells z.cells (m+1)).toList++cur.toList.drop (off+0+(Builtin.zeroCells z.cells (m+1)).toList.length)).toArray):=by
   simp [Builtin.clear_,run_underlying E.ht,hzv];simp at hst;rw [hst];simp
  unfold Oper.wp execOp;simp only [ho,resolve,invoke,builtin,Sem.run_bind,Sem.run_pure,Result.andThen_ok,List.map_toArray,List.map_cons,List.map_nil,hx,hrun];refine hK _ _ (h _ _ (setRow_heap w g cur _ T _ hg) ?_ ?_ (mod_setRow (Mod.refl _ _) (.inl (by simp)) _))
  ·simp only [List.size_toArray,List.length_append,List.length_take,List.length_drop,Array.length_toList,hzc];omega
  ·simp only [Nat.add_zero,List.append_assoc]
   rw [List.take_append_of_le_length (by simp;omega),List.take_take];simp
end
section
open Go Go.RowKit
end
section
open Go Go.RowKit
end
end
section
open Go Go.RowKit
def Off (F G:List Nat):Prop:=∀ k ∈ F,k ∉ G
def Apart (Fs:List (List Nat)):Prop:=∀ (i j:Nat) (A B:List Nat),i ≠ j->Fs[i]? = some A->Fs[j]? = some B->Off A B
theorem Upd.pre {F F':List Nat} {w w1 w':World} (hb:Below w.heap.size w w1) (hu:Upd F F' w1 w'):Upd F F' w w':=
 ⟨(Mod.of_below hb F).trans hu.1 fun _ hk => .inl hk,fun k hk=>(hu.2 k hk).imp id fun h=>Nat.le_trans hb.size h⟩
theorem Upd.trans' {F F1 F2:List Nat} {w w1 w2:World} (h:Upd F F1 w w1) (hu:Upd F1 F2 w1 w2):Upd F F2 w w2:=
 ⟨h.1.trans hu.1 h.2,fun k hk=>(hu.2 k hk).elim (h.2 k) fun h1 => .inr (Nat.le_trans h.1.size h1)⟩
theorem Upd.next {F F1:List Nat} {w w1 w2:World} (h:Upd F F1 w w1) (hb:Below w1.heap.size w1 w2):Upd F F1 w w2:=⟨h.1.next hb,h.2⟩
theorem Upd.refl (F:List Nat) (w:World):Upd F F w w:=⟨Mod.refl _ _,fun _ h => .inl h⟩
theorem Upd.of_below {F:List Nat} {w w':World} (hb:Below w.heap.size w w'):Upd F F w w':=⟨Mod.of_below hb F,fun _ h => .inl h⟩
end
section
open Go Go.RowKit
structure Pc where
 F:List Nat
 R:World->Prop
structure Pc.Ok (p:Pc):Prop where
 lt:∀ {w},p.R w -> ∀ k ∈ p.F,k < w.heap.size
 mod:∀ {S:List Nat} {w w':World},p.R w->Mod S w w'->(∀ k ∈ p.F,k ∉ S)->p.R w'
def feet (ps:List Pc):List Nat:=ps.flatMap (·.F)
theorem mem_feet {ps:List Pc} {k:Nat}:k ∈ feet ps ↔ ∃ p ∈ ps,k ∈ p.F:=List.mem_flatMap
theorem feet_app (A B:List Pc):feet (A++B)=feet A++feet B:=List.flatMap_append
structure Lies (w:World) (ps:List Pc):Prop where
 ok:∀ p ∈ ps,p.Ok
 at':∀ p ∈ ps,p.R w
 off:ps.Pairwise fun p q=>Off p.F q.F
section
variable {w w':World} {ps A B P Q:List Pc} {p q:Pc}
theorem Lies.lt (h:Lies w ps):∀ k ∈ feet ps,k < w.heap.size:=fun k hk=>by
 obtain ⟨p,hp,hk⟩:=mem_feet.1 hk;exact (h.ok p hp).lt (h.at' p hp) k hk
theorem Lies.mod {S:List Nat} (h:Lies w ps) (hm:Mod S w w') (hS:∀ k ∈ feet ps,k ∉ S):Lies w' ps:=
 ⟨h.ok,fun p hp=>(h.ok p hp).mod (h.at' p hp) hm fun k hk=>hS k (mem_feet.2 ⟨p,hp,hk⟩),h.off⟩
theorem Lies.below (h:Lies w ps) (hb:Below w.heap.size w w'):Lies w' ps:=h.mod (Mod.of_below hb []) (by simp)
theorem Lies.left (h:Lies w (A++B)):Lies w A:=⟨fun p hp=>h.ok p (List.mem_append_left _ hp),fun p hp=>h.at' p (List.mem_append_left _ hp),(List.pairwise_append.1 h.off).1⟩
theorem Lies.right (h:Lies w (A++B)):Lies w B:=⟨fun p hp=>h.ok p (List.mem_append_right _ hp),fun p hp=>h.at' p (List.mem_append_right _ hp),(List.pairwise_append.1 h.off).2.1⟩
theorem Lies.part (h:Lies w (A++(P++B))):Lies w P:=h.right.left
theorem Lies.one (h:Lies w (A++p :: B)):p.R w:=h.at' p (by simp)
theorem lies_one (ho:p.Ok) (h:p.R w):Lies w [p]:=⟨fun q hq=>by rw [List.mem_singleton.1 hq];exact ho,fun q hq=>by rw [List.mem_singleton.1 hq];exact h,by simp⟩
theorem off_feet : (∀ a ∈ A, ∀ b ∈ B, Off a.F b.F) ↔ Off (feet A) (feet B) :=
  ⟨fun h k hk hk' => by
    obtain ⟨a, ha, hka⟩ := mem_feet.1 hk
    obtain ⟨b, hb, hkb⟩ := mem_feet.1 hk'
    exact h a ha b hb k hka hkb,
   fun h a ha b hb k hk hk' => h k (mem_feet.2 ⟨a, ha, hk⟩) (mem_feet.2 ⟨b, hb, hk'⟩)⟩
theorem lies_app (h1:Lies w A) (h2:Lies w B) (ho:Off (feet A) (feet B)):Lies w (A++B):=
 ⟨fun p hp=>(List.mem_append.1 hp).elim (h1.ok p) (h2.ok p),fun p hp=>(List.mem_append.1 hp).elim (h1.at' p) (h2.at' p),List.pairwise_append.2 ⟨h1.off,h2.off,off_feet.2 ho⟩⟩
theorem Lies.turn (h:Lies w (A++(P++B))) (hq:Lies w' Q) (hu:Upd (feet P) (feet Q) w w') :
  Lies w' (A++(Q++B))/\Upd (feet (A++(P++B))) (feet (A++(Q++B))) w w':=by
 have hA:=h.left;have hB:=h.right.right;have h1:Off (feet A) (feet P++feet B):=feet_app P B ▸ off_feet.1 (List.pairwise_append.1 h.off).2.2;have h2:Off (feet P) (feet B):=off_feet.1 (List.pairwise_append.1 h.right.off).2.2;have hA':Lies w' A:=hA.mod hu.1 fun k hk hk'=>h1 k hk (List.mem_append_left _ hk')
 have hB':Lies w' B:=hB.mod hu.1 fun k hk hk'=>h2 k hk' hk
 have n1:Off (feet Q) (feet B):=fun k hk hk'=>(hu.2 k hk).elim (fun h3=>h2 k h3 hk') fun h3=>by have:=hB.lt k hk';omega
 have n2:Off (feet A) (feet Q++feet B):=fun k hk hk'=>(List.mem_append.1 hk').elim (fun h4=>(hu.2 k h4).elim (fun h3=>h1 k hk (List.mem_append_left _ h3)) fun h3=>by have:=hA.lt k hk;omega) fun h4=>h1 k hk (List.mem_append_right _ h4)
 refine ⟨lies_app hA' (lies_app hq hB' n1) (by rw [feet_app];exact n2),hu.1.mono fun k hk => ?_,fun k hk => ?_⟩
 ·rw [feet_app,feet_app];simp [hk]
 ·rw [feet_app,feet_app] at hk ⊢
  rcases List.mem_append.1 hk with hk | hk
  ·exact .inl (by simp [hk])
  ·rcases List.mem_append.1 hk with hk | hk
   ·exact (hu.2 k hk).imp (fun h3=>by simp [h3]) id
   ·exact .inl (by simp [hk])
theorem Lies.turn1 (h:Lies w (A++p :: B)) (hq:q.Ok) (hr:q.R w') (hu:Upd p.F q.F w w'):Lies w' (A++q :: B)/\Upd (feet (A++p :: B)) (feet (A++q :: B)) w w':=
 Lies.turn (P:=[p]) (Q:=[q]) h (lies_one hq hr) (by simpa [feet] using hu)
end
def cellPc (b:Nat) (cs:List Value) (T:TypeId):Pc:=⟨[b],fun w=>w.heap[b]? = some (.cells cs.toArray T (0,0))⟩
theorem pc_ok {p:Pc} (h1:∀ {w},p.R w -> ∀ k ∈ p.F,k < w.heap.size) (h2:∀ {w w':World},p.R w->(∀ k ∈ p.F,w'.heap[k]? = w.heap[k]?)->p.R w'):p.Ok:=
 ⟨h1,fun h hm hS=>h2 h fun k hk=>hm.block k (h1 h k hk) (hS k hk)⟩
theorem cellPc_ok (b:Nat) (cs:List Value) (T:TypeId):(cellPc b cs T).Ok:=
 pc_ok (fun h k hk=>by rw [List.mem_singleton.1 hk];exact (Array.getElem?_eq_some_iff.1 h).1) fun h hk=>(hk b (by simp [cellPc])).trans h
end
section
open Go
section
variable {P:Program} {md:Region.Mode} {ops:Array Oper} {Q:Exit->Go.Act->World->Prop} {S:World->Prop} {z:Nat}
def Closed (md:Region.Mode) (ops:Array Oper) (done:Array Bool):Prop:=∀ j oj,ops[j]? = some oj->done.getD j false=true -> ∀ e ∈ oj.after,Region.binds md e=true->done.getD e.on false=true
def closedB (md:Region.Mode) (ops:Array Oper) (done:Array Bool):Bool:=(List.range ops.size).all fun j => !(done.getD j false) || match ops[j]? with
 | some oj=>oj.after.toList.all fun e => !(Region.binds md e) || done.getD e.on false
 | none=>true
theorem closed_of {done:Array Bool} (h:closedB md ops done=true):Closed md ops done:=by
 intro j oj hj hd e he hb;have h1:=List.all_eq_true.1 h j (List.mem_range.2 (Array.getElem?_eq_some_iff.1 hj).1);rw [hd,hj,Bool.not_true,Bool.false_or] at h1;have h2:=List.all_eq_true.1 h1 e (by simpa using he);rw [hb] at h2
 simpa using h2
def waitsB (md:Region.Mode) (ops:Array Oper) (i:Nat):Nat->Nat->Bool
 | 0,_=>false
 | n+1,j=>match ops[j]? with
  | some oj=>oj.after.toList.any fun e=>Region.binds md e && (e.on == i || waitsB md ops i n e.on)
  | none=>false
theorem waits_done {i:Nat} {done:Array Bool} (hc:Closed md ops done):∀ (n j:Nat),waitsB md ops i n j=true->(∀ oj,ops[j]? = some oj -> ∀ e ∈ oj.after,Region.binds md e=true->done.getD e.on false=true)->done.getD i false=true
 | 0,_,h,_=>by cases h
 | n+1,j,h,hd=>by
  unfold waitsB at h
  cases ho:ops[j]? with
  | none=>rw [ho] at h;cases h
  | some oj =>
   rw [ho] at h;obtain ⟨e,he,h1⟩:=List.any_eq_true.1 h;replace he:e ∈ oj.after:=by simpa using he
   rw [Bool.and_eq_true,Bool.or_eq_true,beq_iff_eq] at h1;have h2:=hd oj ho e he h1.1
   rcases h1.2 with h3 | h3
   ·rw [<- h3];exact h2
   ·exact waits_done hc n e.on h3 (fun ok hk=>hc e.on ok hk h2)
theorem undone {i:Nat} {done:Array Bool} (h:i ∈ Region.ready md ops done):done.getD i false=false:=by
 have h0:=(mem_ready.1 h).1
 rcases Nat.lt_or_ge i done.size with h' | h'
 ·simp [h'] at h0 ⊢;exact h0
 ·simp [Array.getElem?_eq_none h'] at h0
theorem closed_step {j:Nat} {done:Array Bool} (hc:Closed md ops done) (hj:j ∈ Region.ready md ops done):Closed md ops (done.setIfInBounds j true):=by
 obtain ⟨-,oj,hoj,hall⟩:=mem_ready.1 hj;intro k ok hk hd e he hb
 by_cases hjk:j=k
 ·subst hjk
  rw [hoj] at hk
  cases hk
  exact getD_set_true (hall e he hb)
 ·rw [getD_set_ne false hjk] at hd
  exact getD_set_true (hc k ok hk hd e he hb)
def wpTail (P:Program) (md:Region.Mode) (ops:Array Oper) (Q:Exit->Go.Act->World->Prop) (S:World->Prop) (z:Nat) (fuel:Nat) (done:Array Bool) (a:Go.Act) (w:World):Prop:=
 match fuel with
 | 0=>Region.ready md ops done = []/\Q .normal a w
 | n+1=>(∀ i ∈ Region.ready md ops done,wpOp P ops Q i (fun b u=>wpTail P md ops Q S z n (done.setIfInBounds i true) b u/\(i ≠ z->S u)) a w)/\(Region.ready md ops done = []->Q .normal a w)
theorem wpTail.any:∀ (n:Nat) (done:Array Bool) (a:Go.Act) (w:World),wpTail P md ops Q S z n done a w->wpAny P md ops Q n done a w
 | 0,_,_,_,h=>h
 | n+1,_,_,_,h=>⟨h.2,fun i hi=>wpOp_mono (fun b u hb=>wpTail.any n _ b u hb.1) (h.1 i hi)⟩
theorem wpTail.first {i m:Nat} {oi:Oper} {v:Value} (hi:ops[i]? = some oi) (hsel:∀ (j:Nat) (o:Oper) cs b,ops[j]? = some o->o.op ≠ .select cs b) (hw:waitsB md ops i m z=true)
  (hQ:∀ c a w,Q (.panic c) (a.put oi.dst v) w->Q (.panic c) a w) :
  ∀ (n:Nat) (done:Array Bool) (a:Go.Act) (w:World),Closed md ops done →
   (∀ j oj,ops[j]? = some oj->j ≠ i->done.getD j true=false->(∀ e ∈ oj.after,Region.binds md e=true->e.on ≠ i)->oi.apart ops oj=true) →
   i ∈ Region.ready md ops done->YieldsIf P ops S oi v a->S w →
   wpTail P md ops Q S z n (done.setIfInBounds i true) (a.put oi.dst v) w->wpTail P md ops Q S z (n+1) done a w:=by
 intro n
 induction n with
 | zero =>
  intro done a w _ _ hr hy hS H;refine ⟨fun j hj => ?_,fun h=>(by rw [h] at hr;cases hr)⟩
  by_cases hji:j=i
  ·subst hji
   exact hy.wpOp hi hS ⟨H,fun _=>hS⟩
  ·have:=ready_mono hj hji
   rw [H.1] at this
   cases this
 | succ n ih =>
  intro done a w hc hfree hr hy hS H;refine ⟨fun j hj => ?_,fun h=>(by rw [h] at hr;cases hr)⟩
  by_cases hji:j=i
  ·subst hji
   exact hy.wpOp hi hS ⟨H,fun _=>hS⟩
  ·obtain ⟨hjun,oj,hoj,hall⟩:=mem_ready.1 hj
   have hun:=undone hr
   have hnot:∀ e ∈ oj.after,Region.binds md e=true->e.on ≠ i:=fun e he hb heq=>by
    have h1:=hall e he hb;rw [heq,hun] at h1
    cases h1
   have hjz:j ≠ z:=fun e=>by
    subst e;have h1:=waits_done hc m j hw (fun ok hk=>by rw [hoj] at hk;cases hk;exact hall);rw [hun] at h1
    cases h1
   have h2:=wpOp_putIf hoj (hfree j oj hoj hji hjun hnot) (fun cs b=>hsel i oi cs b hi) (fun cs b=>hsel j oj cs b hoj) hQ hy (H.1 j (ready_mono hj hji));refine wpOp_mono (fun b u h3=>⟨ih (done.setIfInBounds j true) b u (closed_step hc hj) (fun k ok hk hki hku hno => ?_) (ready_mono hr (Ne.symm hji)) h3.1 (h3.2.2 hjz) ?_,fun _=>h3.2.2 hjz⟩) h2
   ·refine hfree k ok hk hki ?_ hno
    by_cases hjk:j=k
    ·subst hjk;exact hjun
    ·rwa [getD_set_ne true hjk] at hku
   ·rw [Array.setIfInBounds_comm _ _ hji]
    exact h3.2.1
theorem wpTail.take {i:Nat} {oi:Oper} {v:Value} {n:Nat} {done:Array Bool} {a:Go.Act} {w:World} (hi:ops[i]? = some oi)
  (hs:Region.noSelect ops=true) (hf:Region.free md ops done i=true) (hr:(Region.ready md ops done).contains i=true) (hc:closedB md ops done=true) (hw:waitsB md ops i ops.size z=true)
  (hQ:∀ c a w,Q (.panic c) (a.put oi.dst v) w->Q (.panic c) a w) (hy:YieldsIf P ops S oi v a) (hS:S w)
  (h:wpTail P md ops Q S z n (done.setIfInBounds i true) (a.put oi.dst v) w):wpTail P md ops Q S z (n+1) done a w:=
 wpTail.first hi (Region.noSelect_spec hs) hw hQ n done a w (closed_of hc) (Region.free_spec hi hf) (by simpa using hr) hy hS h
theorem ttk (i:Nat) {oi:Oper} {v:Value} {n:Nat} {done:Array Bool} {a:Go.Act} {w:World} (hy:∀ w,S w->(execOp a.eval oi).run P w = .ok (.value v) w) (hS:S w)
  (h:wpTail P md ops Q S z n (done.setIfInBounds i true) (a.put oi.dst v) w) (hi:ops[i]? = some oi:=by rfl)
  (hs:Region.noSelect ops=true:=by kernel_rfl) (hf:Region.free md ops done i=true:=by kernel_rfl) (hr:(Region.ready md ops done).contains i=true:=by kernel_rfl) (hc:closedB md ops done=true:=by kernel_rfl) (hw:waitsB md ops i ops.size z=true:=by kernel_rfl)
  (hg:Region.wanted oi (yielded ops a.tmps)=true:=by kernel_rfl) (hQ:∀ c a w,Q (.panic c) (a.put oi.dst v) w->Q (.panic c) a w:=by exact fun _ _ _ h=>h):wpTail P md ops Q S z (n+1) done a w:=
 wpTail.take hi hs hf hr hc hw hQ (Or.inl ⟨hg,hy⟩) hS h
def AllTail (P:Program) (md:Region.Mode) (ops:Array Oper) (Q:Exit->Go.Act->World->Prop) (S:World->Prop) (z n:Nat) (done:Array Bool) (a:Go.Act) (w:World) (rs:List Nat):Prop:=
 ∀ i ∈ rs,wpOp P ops Q i (fun b u=>wpTail P md ops Q S z n (done.setIfInBounds i true) b u/\(i ≠ z->S u)) a w
theorem AllTail.nil {n:Nat} {done:Array Bool} {a:Go.Act} {w:World}:AllTail P md ops Q S z n done a w []:=fun _ h=>by cases h
theorem AllTail.cons {n:Nat} {done:Array Bool} {a:Go.Act} {w:World} {i:Nat} {o:Oper} {rs:List Nat} (ho:ops[i]? = some o)
  (h:∀ K':Go.Act->World->Prop,Shut (∀ b u,(i ≠ z->S u)->((i ≠ z->S u)->wpTail P md ops Q S z n (done.setIfInBounds i true) b u)->K' b u)->if Region.wanted o (yielded ops a.tmps)=true then Oper.wp P o a w K' Q else K' (a.put o.dst undef) w)
  (hs:AllTail P md ops Q S z n done a w rs):AllTail P md ops Q S z n done a w (i :: rs):=fun j hj=>by
 rcases List.mem_cons.1 hj with rfl | hj
 ·exact wpOp_step ho (fun K' hK=>h K' (fun b u hS hW=>hK b u ⟨hW hS,hS⟩))
 ·exact hs j hj
theorem wpTail.ready {rs:List Nat} {n:Nat} {done:Array Bool} {a:Go.Act} {w:World} (hr:Region.ready md ops done=rs) (hne:rs ≠ []) (h:AllTail P md ops Q S z n done a w rs):wpTail P md ops Q S z (n+1) done a w:=
 ⟨hr ▸ h,fun h0=>absurd (hr ▸ h0) hne⟩
theorem wpTail.done {d:Array Bool} {a:Go.Act} {w:World} (hr:Region.ready md ops d = []) (h:Q .normal a w):∀ n,wpTail P md ops Q S z n d a w
 | 0=>⟨hr,h⟩
 | _+1=>⟨by rw [hr];simp,fun _=>h⟩
theorem wp_region_tail (z:Nat) {id:Nat} {a:Go.Act} {w:World} (hm:P.follows .mixedOrders=true) (hS:S w.drew)
  (h:S w.drew->wpTail P .any ops Q S z ops.size (Array.replicate ops.size false) a w.drew):(Code.region id ops true).wp P Q a w:=
 wp_region_any hm (wpTail.any _ _ _ _ (h hS))
end
section
open Go Go.RowKit
theorem uA {P:Program} {md:Region.Mode} {ops:Array Oper} {Q:Exit->Go.Act->World->Prop} {S:World->Prop} {z:Nat} (i:Nat) {oi:Oper} {v:Value} {n:Nat} {done:Array Bool} {a:Go.Act} {w:World}
    (hi:ops[i]? = some oi:=by rfl) (hS:S w:=by assumption)
    (hy:∀ w,S w->(execOp a.eval oi).run P w = .ok (.value v) w:=by (intro w0 hS0;(try dsimp only at hS0);(try simp only [tks]);go_simp;try with_reducible rfl))
    (hs:Region.noSelect ops=true:=by kernel_rfl) (hf:Region.free md ops done i=true:=by kernel_rfl) (hr:(Region.ready md ops done).contains i=true:=by kernel_rfl) (hc:closedB md ops done=true:=by kernel_rfl) (hw:waitsB md ops i ops.size z=true:=by kernel_rfl)
    (hg:Region.wanted oi (yielded ops a.tmps)=true:=by kernel_rfl) (hQ:∀ c a w,Q (.panic c) (a.put oi.dst v) w->Q (.panic c) a w:=by exact fun _ _ _ h=>h)
    (h:wpTail P md ops Q S z n (done.setIfInBounds i true) (a.put oi.dst v) w):wpTail P md ops Q S z (n+1) done a w:=
  ttk i hy hS h hi hs hf hr hc hw hg hQ
end
end
section
section
open Go Go.RowKit
def Msg.k (m:Msg):List UInt8:=m.t.data.toList
def put (m:Msg):List Msg->List Msg
 | [] => [m]
 | y :: r=>if m.k < y.k then m :: y :: r else if y.k=m.k then m :: r else y :: put m r
def get (t:List UInt8) (l:List Msg):Option Msg:=l.find? fun m=>m.k == t
def del (t:List UInt8) (l:List Msg):List Msg:=l.filter fun m=>m.k != t
def Up (l:List Msg):Prop:=l.Pairwise fun a b=>a.k < b.k
theorem lt_ne {a b:List UInt8} (h:a < b):a ≠ b:=fun e=>List.lt_irrefl b (e ▸ h)
theorem lt_tri {a b:List UInt8} (h:¬ a < b) (h':b ≠ a):b < a:=by
 by_cases h2:b < a
 ·exact h2
 ·exact absurd (List.le_antisymm (as:=b) (bs:=a) h h2) h'
theorem mem_put {m x:Msg} {l:List Msg} (h:x ∈ put m l):x=m \/ x ∈ l:=by
 induction l with
 | nil=>simp [put] at h;exact .inl h
 | cons y r ih =>
  unfold put at h
  split at h
  ·simp at h;rcases h with h | h | h <;> simp [h]
  ·split at h
   ·simp at h;rcases h with h | h <;> simp [h]
   ·simp at h
    rcases h with h | h
    ·simp [h]
    ·rcases ih h with h | h <;> simp [h]
theorem Up.put {m:Msg} {l:List Msg} (h:Up l):Up (put m l):=by
 induction l with
 | nil=>exact List.pairwise_singleton _ _
 | cons y r ih =>
  obtain ⟨h1,h2⟩:=List.pairwise_cons.1 h;unfold Go.Proofs.YtcekcoepdhnfgaaGreatDoor.put
  split
  ·rename_i hlt
   refine List.pairwise_cons.2 ⟨fun z hz => ?_,h⟩
   rcases List.mem_cons.1 hz with rfl | hz
   ·exact hlt
   ·exact List.lt_trans hlt (h1 z hz)
  ·split
   ·rename_i hlt he
    exact List.pairwise_cons.2 ⟨fun z hz=>he ▸ h1 z hz,h2⟩
   ·rename_i hlt he
    refine List.pairwise_cons.2 ⟨fun z hz => ?_,ih h2⟩
    rcases mem_put hz with rfl | hz
    ·exact lt_tri hlt he
    ·exact h1 z hz
theorem Up.del {t:List UInt8} {l:List Msg} (h:Up l):Up (del t l):=h.filter _
theorem get_none_of {t:List UInt8} {l:List Msg} (h:∀ m ∈ l,t < m.k):get t l=none:=by
 unfold get;rw [List.find?_eq_none];intro x hx;simp only [beq_iff_eq];exact fun e=>lt_ne (h x hx) e.symm
theorem get_cons (t:List UInt8) (y:Msg) (r:List Msg):get t (y :: r)=if y.k=t then some y else get t r:=by
 unfold get
 by_cases h:y.k=t <;> simp [h]
theorem get_put {m:Msg} {l:List Msg} (h:Up l) (t:List UInt8):get t (put m l)=if t=m.k then some m else get t l:=by
 induction l with
 | nil=>rw [put,get_cons];by_cases h:t=m.k <;> simp [h,eq_comm]
 | cons y r ih =>
  obtain ⟨h1,h2⟩:=List.pairwise_cons.1 h;unfold put
  split
  ·rw [get_cons];by_cases h:t=m.k <;> simp [h,eq_comm]
  ·split
   ·rename_i hlt he
    rw [get_cons,get_cons]
    by_cases h:t=m.k
    ·simp [h]
    ·have:¬ m.k=t:=fun e=>h e.symm
     simp [this,he,h]
   ·rename_i hlt he
    rw [get_cons,get_cons,ih h2]
    by_cases h:t=m.k
    ·subst h;simp [he]
    ·simp [h]
theorem get_del (t u:List UInt8) (l:List Msg):get t (del u l)=if t=u then none else get t l:=by
 induction l with
 | nil=>simp [del,get]
 | cons y r ih =>
  rw [get_cons];unfold del at *
  by_cases h:y.k=u
  ·have:(y.k != u)=false:=by simp [h]
   rw [List.filter_cons_of_neg (by simp [h]),ih]
   by_cases h':t=u
   ·simp [h']
   ·have:¬ y.k=t:=fun e=>h' (e.symm.trans h)
    simp [h',this]
  ·rw [List.filter_cons_of_pos (by simp [h]),get_cons,ih]
   by_cases h':t=u
   ·subst h';simp [h]
   ·simp [h']
theorem len_put {m:Msg} {l:List Msg} (h:Up l):(put m l).length=if (get m.k l).isSome then l.length else l.length+1:=by
 induction l with
 | nil=>rfl
 | cons y r ih =>
  obtain ⟨h1,h2⟩:=List.pairwise_cons.1 h;unfold put;rw [get_cons]
  split
  ·rename_i hlt
   have e:get m.k r=none:=get_none_of fun x hx=>List.lt_trans hlt (h1 x hx)
   have:¬ y.k=m.k:=fun e=>lt_ne hlt e.symm
   simp [this,e]
  ·split
   ·rename_i he;simp
   ·rename_i he
    simp only [List.length_cons,ih h2]
    split <;> simp
theorem len_del {t:List UInt8} {l:List Msg} (h:Up l):(del t l).length+(if (get t l).isSome then 1 else 0)=l.length:=by
 induction l with
 | nil=>rfl
 | cons y r ih =>
  obtain ⟨h1,h2⟩:=List.pairwise_cons.1 h;have ih:=ih h2;rw [get_cons];unfold del at *
  by_cases he:y.k=t
  ·have e:get t r=none:=get_none_of fun x hx=>he ▸ h1 x hx
   rw [List.filter_cons_of_neg (by simp [he])];rw [e] at ih;simp [he] at ih ⊢;exact ih
  ·rw [List.filter_cons_of_pos (by simp [he])]
   simp only [List.length_cons,if_neg he];omega
theorem get_of_mem {l:List Msg} {m:Msg} (h:Up l) (hm:m ∈ l):get m.k l=some m:=by
 induction l with
 | nil=>simp at hm
 | cons y r ih =>
  obtain ⟨h1,h2⟩:=List.pairwise_cons.1 h;rw [get_cons]
  rcases List.mem_cons.1 hm with rfl | hm
  ·simp
  ·have:¬ y.k=m.k:=lt_ne (h1 m hm)
   rw [if_neg this];exact ih h2 hm
theorem mem_get {l:List Msg} (t:List UInt8):(get t l).isSome=true ↔ t ∈ l.map Msg.k:=by
 unfold get;simp only [List.find?_isSome,beq_iff_eq,List.mem_map]
theorem Up.keys {l:List Msg} (h:Up l):(l.map Msg.k).Pairwise (· < ·):=List.pairwise_map.2 h
theorem sort_keys {l:List (List UInt8)} {m:List (List UInt8)} (hm:m.Pairwise (· < ·)) (h:l.Perm m):(l.mergeSort fun x y=>decide (x<=y))=m:=by
 have hp:((l.mergeSort fun x y=>decide (x<=y))).Pairwise (fun a b=>decide (a<=b)=true):=
  List.pairwise_mergeSort (fun a b c h1 h2=>by simp only [decide_eq_true_eq] at *;exact List.le_trans h1 h2) (fun a b=>by have:=List.le_total a b;simpa using this) l
 refine List.Perm.eq_of_pairwise (le:=fun a b=>decide (a<=b)=true) (fun a b _ _ h1 h2=>by simp only [decide_eq_true_eq] at *;exact List.le_antisymm h1 h2) hp
  (hm.imp (fun h=>by simp only [decide_eq_true_eq];exact List.le_of_lt h)) ((List.mergeSort_perm l _).trans h)
theorem nodup_keys {m:List (List UInt8)} (hm:m.Pairwise (· < ·)):m.Nodup:=hm.imp lt_ne
end
section
open Go
abbrev SubE:=List UInt8 × Int
def SUp (l:List SubE):Prop:=l.Pairwise (fun a b=>a.1 < b.1)
def putE (x:SubE):List SubE->List SubE
 | [] => [x]
 | y :: r=>if y.1 < x.1 then y :: putE x r else if y.1=x.1 then x :: r else x :: y :: r
def delE (f:List UInt8) (l:List SubE):List SubE:=l.filter fun y=>y.1 != f
def hasE (f:List UInt8) (l:List SubE):Bool:=l.any fun y=>y.1 == f
theorem putE_cut (x:SubE):∀ (l:List SubE) (k:Nat),k<=l.length->(∀ y ∈ l.take k,y.1 < x.1)->putE x l=l.take k++putE x (l.drop k)
 | l,0,_,_=>by simp
 | [],k+1,h,_=>by simp at h
 | y :: r,k+1,h,hy=>by
  have h1:y.1 < x.1:=hy y (by simp);have ih:=putE_cut x r k (by simpa using h) (fun z hz=>hy z (by simp [hz]));rw [List.take_succ_cons,List.drop_succ_cons,List.cons_append,<- ih,putE,if_pos h1]
theorem putE_in {x:SubE} {l:List SubE} {k:Nat} (hk:k < l.length) (h:∀ y ∈ l.take k,y.1 < x.1) (he:l[k].1=x.1):putE x l=l.set k x:=by
 rw [putE_cut x l k (by omega) h,List.drop_eq_getElem_cons hk,putE,if_neg (by rw [he];exact List.lt_irrefl _),if_pos he,List.set_eq_take_append_cons_drop,if_pos hk]
theorem putE_new {x:SubE} {l:List SubE} {k:Nat} (hk:k<=l.length) (h:∀ y ∈ l.take k,y.1 < x.1) (hn:∀ hl:k < l.length,¬ l[k].1 < x.1/\l[k].1 ≠ x.1):putE x l=l.take k++([x]++l.drop k):=by
 rw [putE_cut x l k hk h]
 by_cases hl:k < l.length
 ·rw [List.drop_eq_getElem_cons hl,putE,if_neg (hn hl).1,if_neg (hn hl).2]
  rfl
 ·rw [List.drop_eq_nil_of_le (by omega)]
  rfl
theorem SUp.low {l:List SubE} (h:SUp l) {f:List UInt8} {m:Nat} (hm:m < l.length) (hl:l[m].1 < f):∀ y ∈ l.take (m+1),y.1 < f:=by
 intro y hy;rw [List.take_succ_eq_append_getElem hm] at hy
 rcases List.mem_append.1 hy with hy | hy
 ·obtain ⟨i,hi,rfl⟩:=List.getElem_of_mem hy
  rw [List.length_take] at hi;rw [List.getElem_take];exact List.lt_trans (List.pairwise_iff_getElem.1 h i m (by omega) hm (by omega)) hl
 ·rw [List.mem_singleton.1 hy];exact hl
theorem SUp.high {l:List SubE} (h:SUp l) {f:List UInt8} {m:Nat} (hm:m < l.length) (hl:¬ l[m].1 < f):∀ y ∈ l.drop m,¬ y.1 < f:=by
 intro y hy hlt;rw [List.drop_eq_getElem_cons hm] at hy
 rcases List.mem_cons.1 hy with rfl | hy
 ·exact hl hlt
 ·obtain ⟨i,hi,rfl⟩:=List.getElem_of_mem hy
  rw [List.length_drop] at hi;rw [List.getElem_drop] at hlt;exact hl (List.lt_trans (List.pairwise_iff_getElem.1 h m (m+1+i) hm (by omega) (by omega)) hlt)
theorem hasE_at {f:List UInt8} {l:List SubE} (h:SUp l) {k:Nat} (hk:k<=l.length) (h1:∀ y ∈ l.take k,y.1 < f) (h2:∀ y ∈ l.drop k,¬ y.1 < f):hasE f l=true ↔ ∃ hl:k < l.length,l[k].1=f:=by
 unfold hasE;rw [List.any_eq_true];constructor
 ·rintro ⟨y,hy,e⟩
  rw [beq_iff_eq] at e;rw [<- List.take_append_drop k l] at hy
  rcases List.mem_append.1 hy with hy | hy
  ·exact absurd e (lt_ne (h1 y hy))
  ·by_cases hl:k < l.length
   ·refine ⟨hl,?_⟩
    rw [List.drop_eq_getElem_cons hl] at hy
    rcases List.mem_cons.1 hy with rfl | hy
    ·exact e
    ·obtain ⟨i,hi,rfl⟩:=List.getElem_of_mem hy
     rw [List.length_drop] at hi;rw [List.getElem_drop] at e;have:=List.pairwise_iff_getElem.1 h k (k+1+i) hl (by omega) (by omega);rw [e] at this;have hm:l[k] ∈ l.drop k:=List.mem_iff_getElem?.2 ⟨0,by rw [List.getElem?_drop,Nat.add_zero];exact List.getElem?_eq_getElem hl⟩;exact absurd this (h2 _ hm)
   ·rw [List.drop_eq_nil_of_le (by omega)] at hy;cases hy
 ·rintro ⟨hl,e⟩
  exact ⟨l[k],List.getElem_mem hl,by rw [e];simp⟩
theorem delE_none {f:List UInt8} {l:List SubE} (h:hasE f l=false):delE f l=l:=by
 unfold delE;rw [List.filter_eq_self];intro y hy;have:=List.any_eq_false.1 h y hy
 simpa using this
theorem delE_at {f:List UInt8} {l:List SubE} (h:SUp l) {k:Nat} (hk:k < l.length) (he:l[k].1=f):delE f l=l.take k++l.drop (k+1):=by
 have hs:l=l.take k++(l[k] :: l.drop (k+1)):=by rw [<- List.drop_eq_getElem_cons hk,List.take_append_drop]
 have h1:delE f (l.take k)=l.take k:=delE_none (by
  unfold hasE;rw [List.any_eq_false];intro y hy;obtain ⟨i,hi,rfl⟩:=List.getElem_of_mem hy;rw [List.length_take] at hi;rw [List.getElem_take];have:=List.pairwise_iff_getElem.1 h i k (by omega) hk (by omega);rw [he] at this
  simpa using lt_ne this)
 have h2:delE f (l.drop (k+1))=l.drop (k+1):=delE_none (by
  unfold hasE;rw [List.any_eq_false];intro y hy;obtain ⟨i,hi,rfl⟩:=List.getElem_of_mem hy;rw [List.length_drop] at hi;rw [List.getElem_drop];have:=List.pairwise_iff_getElem.1 h k (k+1+i) hk (by omega) (by omega);rw [he] at this
  simpa using fun e=>lt_ne this e.symm)
 conv=>lhs;rw [hs]
 unfold delE at *;rw [List.filter_append,List.filter_cons_of_neg (by simpa using he),h1,h2]
theorem mem_putE {x y:SubE} {l:List SubE} (h:y ∈ putE x l):y=x \/ y ∈ l:=by
 induction l with
 | nil=>exact .inl (by simpa [putE] using h)
 | cons z r ih =>
  unfold putE at h
  split at h
  ·rcases List.mem_cons.1 h with h | h
   ·exact .inr (by simp [h])
   ·exact (ih h).imp id (fun h=>by simp [h])
  ·split at h
   ·rcases List.mem_cons.1 h with h | h
    ·exact .inl h
    ·exact .inr (by simp [h])
   ·rcases List.mem_cons.1 h with h | h
    ·exact .inl h
    ·exact .inr h
theorem sup_put {x:SubE} {l:List SubE} (h:SUp l):SUp (putE x l):=by
 induction l with
 | nil=>exact List.pairwise_singleton _ _
 | cons z r ih =>
  obtain ⟨h1,h2⟩:=List.pairwise_cons.1 h;unfold putE
  split
  ·rename_i hz
   refine List.pairwise_cons.2 ⟨fun y hy => ?_,ih h2⟩
   rcases mem_putE hy with rfl | hy
   ·exact hz
   ·exact h1 y hy
  ·rename_i hz
   split
   ·rename_i he
    exact List.pairwise_cons.2 ⟨fun y hy=>he ▸ h1 y hy,h2⟩
   ·rename_i he
    have hx:x.1 < z.1:=lt_tri hz (fun e=>he e.symm);refine List.pairwise_cons.2 ⟨fun y hy => ?_,h⟩
    rcases List.mem_cons.1 hy with rfl | hy
    ·exact hx
    ·exact List.lt_trans hx (h1 y hy)
theorem sup_del {f:List UInt8} {l:List SubE} (h:SUp l):SUp (delE f l):=List.Pairwise.sublist List.filter_sublist h
theorem len_putE (x:SubE) (l:List SubE):(putE x l).length<=l.length+1:=by
 induction l with
 | nil=>simp [putE]
 | cons z r ih =>
  unfold putE
  split
  ·rw [List.length_cons,List.length_cons];omega
  ·split <;> simp
theorem len_delE (f:List UInt8) (l:List SubE):(delE f l).length<=l.length:=List.length_filter_le _ _
end
end
end Go.Proofs.YtcekcoepdhnfgaaGreatDoor
