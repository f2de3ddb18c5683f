/- Steps of walks; rows beside. -/
import Derived.Test.YtcekcoepdhnfgaaGreatDoorMZ
import Derived.Test.YtcekcoepdhnfgaaGreatDoorProg
import Derived.Deep.AppendLies
import Derived.ArgAppend
namespace Go.Proofs.YtcekcoepdhnfgaaGreatDoor
section
open Go Go.RowKit
theorem step_spread {P:Program} {t e:TypeId} {z:Value} {size bytes:Nat} (E:ElemT P t e z size bytes) {W:World} {B:Nat} {v:Value} {n:Nat} {xs:List Value} (hown:W.ownsRow B e size v n xs)
  {ad:Option Addr} {ys:List Value} {m c:Nat} (hrow:Row W ad ys)
  {ops:Array Oper} {o:Oper} {a:Go.Act} {K:Go.Act->World->Prop} {Q:Exit->Go.Act->World->Prop} {E':Prop} (hgd:o.guard=none) {s x:Operand}
  (ho:o.op = .call { callee:=.builtin .append,args:=#[s,x],argTypes:=#[t,t] }) (hs:a.eval s=v) (hx:a.eval x = .slice ad m c)
  (hc:ys.length=m * size) (h1:∀ u ∈ ys,u.oneCell'=true) (hbytes:(n+m) * bytes<=140737488355328) (hn:n+m < 140737488355328) (hB:B<=W.heap.size)
  (h:∀ v' w',w'.ownsRow B e size v' (n+m) (xs++ys)->W.grownBy w' v.ownBlock->K (a.put o.dst v') w') :
  if Region.wanted o (yielded ops a.tmps)=true then Oper.wp P o a W K Q else E':=by
 obtain ⟨i0,hi,hz0,hz1,hz2⟩:=info_parts E.hi;have hw:Region.wanted o (yielded ops a.tmps)=true:=by simp [Region.wanted,hgd]
 rw [if_pos hw]
 have own:∀ (ad':Addr),ad=some ad'->(∀ j u,ys[j]? = some u->W.cell? (ad'.add j)=some u)->Oper.wp P o a W K Q:=by
  intro ad' e hcell;subst e;obtain ⟨v',w',hrun,r1,r2,_⟩:=run_append_own (P:=P) W B t o.type e i0 z size bytes E.ht hi hz0 hz1 hz2 E.hzs E.hsz v n xs hown ad' m c ys hc hcell h1 (by unfold maxLen;omega) hbytes hB;unfold Oper.wp;simp [execOp,ho,resolve,invoke,builtin,hs,hx,hrun,Result.andThen];exact h v' w' r1 r2
 rcases hrow with rfl | ⟨b,off,rfl,hcell⟩
 ·have hm:m=0:=by
   have hz:=E.hsz;have hc':m * size=0:=by simpa using hc.symm
   rcases Nat.mul_eq_zero.1 hc' with h | h <;> omega
  subst hm
  cases ad with
  | none =>
   have hr:(Builtin.append_ #[t,t] o.type #[v,.slice none 0 c]).run P W = .ok v W:=by
    rcases hown.2 with ⟨rfl,rfl⟩ | ⟨g,cap,cur,rfl,_,_,hnc,_⟩
    ·simp [Builtin.append_,run_underlying E.ht,sizeOf,typeInfo,hi,Builtin.lenOf,Builtin.firstCells]
    ·simp [Builtin.append_,run_underlying E.ht,sizeOf,typeInfo,hi,Builtin.lenOf,Builtin.firstCells,hnc,storeCells]
   unfold Oper.wp;simp [execOp,ho,resolve,invoke,builtin,hs,hx,hr,Result.andThen];exact h v W (by simpa using hown) (World.grownBy.refl _ _)
  | some ad=>exact own ad rfl (by simp)
 ·refine own ⟨b,off,none⟩ rfl (fun j u hj => ?_)
  have e1:(⟨b,off,none⟩:Addr).add j=⟨b,off+j,none⟩:=by unfold Addr.add;split <;> simp_all
  rw [e1];exact hcell j u hj
theorem own_empty (w:World) (T:TypeId) (B sz:Nat) (hB:B<=w.heap.size):(w.alloc (.cells #[] T)).ownsRow B T sz (.slice (some ⟨w.heap.size,0,none⟩) 0 0) 0 []:=
 ⟨by simp,.inr ⟨w.heap.size,0,#[],rfl,hB,heap_alloc_new w _,by omega,by unfold maxLen;omega,by simp,by simp⟩⟩
theorem row_drop {w:World} {a:Option Addr} {l:List Value} (h:Row w a l) (d:Nat):Row w (a.map (·.add d)) (l.drop d):=by
 rcases h with rfl | ⟨b,o,rfl,hc⟩
 ·exact .inl (by simp)
 ·refine .inr ⟨b,o+d,?_,fun j u hj => ?_⟩
  ·rw [Option.map_some];unfold Addr.add;split <;> simp_all
  ·rw [List.getElem?_drop] at hj
   have:=hc _ _ hj
   rwa [<- Nat.add_assoc] at this
theorem row_take {w:World} {a:Option Addr} {l:List Value} (h:Row w a l) (d:Nat):Row w a (l.take d):=by
 rcases h with rfl | ⟨b,o,rfl,hc⟩
 ·exact .inl (by simp)
 ·refine .inr ⟨b,o,rfl,fun j u hj=>hc j u ?_⟩
  rw [List.getElem?_take] at hj
  split at hj
  ·exact hj
  ·cases hj
theorem slice_run {T e:TypeId} (hT:Tryz.prog.underlying T=some (.slice e)) {sz:Nat} (hsz:(Tryz.prog.info? e).map (·.size)=some sz) (a:Option Addr) (n c k:Nat) (hk:k<=n) (hc:n<=c) :
  (∃ a':Option Addr,(∀ w,(Instr.slice T (.slice a n c) none (some (.int .i64 k)) none).run Tryz.prog w = .ok (.slice a' k c) w) /\ ∀ w l,Row w a l->Row w a' (l.take (k * sz))) ∧
  ∃ a':Option Addr,(∀ w,(Instr.slice T (.slice a n c) (some (.int .i64 k)) none none).run Tryz.prog w = .ok (.slice a' (n - k) (c - k)) w) /\ ∀ w l,Row w a l->l.length=n * sz->Row w a' (l.drop (k * sz)):=by
 have h1:k<=c:=by omega
 cases hq:Tryz.prog.info? e with
 | none=>simp [hq] at hsz
 | some i =>
  have hs:i.size=sz:=by simpa [hq] using hsz
  refine ⟨⟨if c=0 then a else a.map (·.add (0 * sz)),fun w => ?_,fun w l h => ?_⟩,⟨if c=k then a else a.map (·.add (k * sz)),fun w => ?_,fun w l h hl => ?_⟩⟩
  ·simp [Instr.slice,run_underlying hT,Instr.sliceBounds,Instr.sliceBound,asIntOf,sizeOf,typeInfo,hq,h1]
  ·split
   ·exact row_take h _
   ·have:=row_drop (row_take h (k * sz)) 0
    rw [List.drop_zero] at this
    rwa [Nat.zero_mul]
  ·simp [Instr.slice,run_underlying hT,Instr.sliceBounds,Instr.sliceBound,asIntOf,sizeOf,typeInfo,hq,hs,hk]
  ·split
   ·rw [List.drop_eq_nil_of_le (by rw [hl];exact Nat.mul_le_mul_right _ (by omega))]
    exact .inl rfl
   ·exact row_drop h _
theorem low_alloc (w:World) (o:Obj):Below w.heap.size w (w.alloc o):=(Below.refl _ _).alloc (Nat.le_refl _) o
theorem step_spread' {P:Program} {t e:TypeId} {z:Value} {size bytes:Nat} {m:Nat} (E:ElemT P t e z size bytes) {w0 W:World} {B:Nat} {v:Value} {n:Nat} {xs:List Value} (hown:W.ownsRow B e size v n xs) (hb:Below B w0 W) (hB0:B<=w0.heap.size)
  {ad:Option Addr} {ys:List Value} {c:Nat} (hrow:Row W ad ys)
  {ops:Array Oper} {o:Oper} {a:Go.Act} {K:Go.Act->World->Prop} {Q:Exit->Go.Act->World->Prop} {E':Prop} (hgd:o.guard=none) {s x:Operand}
  (ho:o.op = .call { callee:=.builtin .append,args:=#[s,x],argTypes:=#[t,t] }) (hs:a.eval s=v) (hx:a.eval x = .slice ad m c)
  (hc:ys.length=m * size) (h1:∀ u ∈ ys,u.oneCell'=true) (hbytes:(n+m) * bytes<=140737488355328) (hn:n+m < 140737488355328)
  (h:∀ v' w',w'.ownsRow B e size v' (n+m) (xs++ys)->Below B w0 w'->W.grownBy w' v.ownBlock->K (a.put o.dst v') w') :
  if Region.wanted o (yielded ops a.tmps)=true then Oper.wp P o a W K Q else E':=by
 have hl:=hown.lt;have hB:B<=W.heap.size:=Nat.le_trans hB0 hb.size;exact step_spread E hown hrow hgd ho hs hx hc h1 hbytes hn hB (fun v' w' h1 h2=>h v' w' h1 (hb.grown h2 hB (fun k hk=>(hl k hk).1)) h2)
theorem step_grows {P:Program} {t e:TypeId} {z:Value} {size bytes:Nat} (E:ElemT P t e z size bytes) {W:World} {ao:Option Addr} {n:Nat} {olds:List Value} (hnone:ao=none->n=0) (hlo:olds.length=n * size)
  (holds:∀ b,ao=some b -> ∀ j u,olds[j]? = some u->W.cell? (b.add j)=some u)
  {b m c:Nat} {cur:Array Value} {t':TypeId} {fr:Nat × Nat} (hblk:W.heap[b]? = some (.cells cur t' fr))
  {ops:Array Oper} {o:Oper} {a:Act} {K:Act->World->Prop} {Q:Exit->Act->World->Prop} {E':Prop} (hgd:o.guard=none) {s x:Operand}
  (ho:o.op = .call { callee:=.builtin .append,args:=#[s,x],argTypes:=#[t,t] }) (hs:a.eval s = .slice ao n n) (hx:a.eval x = .slice (some ⟨b,0,none⟩) m c)
  (hc:cur.size=m * size) (hm:0 < m) (h1:∀ u ∈ cur.toList,u.oneCell'=true) (hbytes:(n+m) * bytes<=140737488355328) (hn:n+m < 140737488355328)
  (h:∀ v' w',w'.ownsRow W.heap.size e size v' (n+m) (olds++cur.toList)->W.grownBy w' none->K (a.put o.dst v') w') :
  if Region.wanted o (yielded ops a.tmps)=true then Oper.wp P o a W K Q else E':=by
 obtain ⟨i0,hi,hz0,hz1,hz2⟩:=info_parts E.hi;have hw:Region.wanted o (yielded ops a.tmps)=true:=by simp [Region.wanted,hgd]
 rw [if_pos hw];have hnews:∀ j u,cur.toList[j]? = some u->W.cell? ((⟨b,0,none⟩:Addr).add j)=some u:=World.news_of_block hblk
 cases ao with
 | some ad =>
  obtain ⟨v',w',hrun,r1,r2⟩:=run_append_arg_grows (P:=P) W t o.type e i0 z size bytes E.ht hi hz0 hz1 hz2 E.hzs E.hsz ad n n olds hlo (holds ad rfl) ⟨b,0,none⟩ m c cur.toList (by simp [hc]) hnews (by omega) (by unfold maxLen;omega) hbytes;unfold Oper.wp;simp [execOp,ho,resolve,invoke,builtin,hs,hx,hrun,Result.andThen];exact h v' w' r1 r2
 | none =>
  obtain rfl:=hnone rfl;obtain rfl:olds = []:=List.eq_nil_of_length_eq_zero (by simpa using hlo);obtain ⟨v',w',hrun,r1,r2,_⟩:=run_append_own (P:=P) W W.heap.size t o.type e i0 z size bytes E.ht hi hz0 hz1 hz2 E.hzs E.hsz (.slice none 0 0) 0 [] (World.ownsRow_nil W _ e size) ⟨b,0,none⟩ m c cur.toList (by simp [hc]) hnews h1 (by unfold maxLen;omega) hbytes (Nat.le_refl _);unfold Oper.wp;simp [execOp,ho,resolve,invoke,builtin,hs,hx,hrun,Result.andThen];exact h v' w' r1 r2
theorem slice3_run {T e:TypeId} (hT:Tryz.prog.underlying T=some (.slice e)) {sz:Nat} (hsz:(Tryz.prog.info? e).map (·.size)=some sz) (a:Option Addr) (n c k:Nat) (hk:k<=c) (ha:∀ x,a=some x->x.add 0=x) :
  ∀ w,(Instr.slice T (.slice a n c) none (some (.int .i64 k)) (some (.int .i64 k))).run Tryz.prog w = .ok (.slice a k k) w:=by
 cases hq:Tryz.prog.info? e with
 | none=>simp [hq] at hsz
 | some i =>
  intro w;have hs:i.size=sz:=by simpa [hq] using hsz
  have e1:(if k=0 then a else a.map (·.add (0 * i.size)))=a:=by
   split
   ·rfl
   ·cases a with
    | none=>rfl
    | some x=>rw [Nat.zero_mul];exact congrArg some (ha x rfl)
  simp [Instr.slice,run_underlying hT,Instr.sliceBounds,Instr.sliceBound,asIntOf,sizeOf,typeInfo,hq,hk]
  cases a with
  | none=>exact fun _=>rfl
  | some x=>exact fun _=>congrArg some (ha x rfl)
theorem step_growsRow {P:Program} {t e:TypeId} {z:Value} {size bytes:Nat} (E:ElemT P t e z size bytes) {W:World} {ao:Addr} {n:Nat} {olds:List Value} (hlo:olds.length=n * size)
  (holds:∀ j u,olds[j]? = some u->W.cell? (ao.add j)=some u)
  {ad:Option Addr} {ys:List Value} {m c:Nat} (hrow:Row W ad ys)
  {ops:Array Oper} {o:Oper} {a:Act} {K:Act->World->Prop} {Q:Exit->Act->World->Prop} {E':Prop} (hgd:o.guard=none) {s x:Operand}
  (ho:o.op = .call { callee:=.builtin .append,args:=#[s,x],argTypes:=#[t,t] }) (hs:a.eval s = .slice (some ao) n n) (hx:a.eval x = .slice ad m c)
  (hc:ys.length=m * size) (hbytes:(n+m) * bytes<=140737488355328) (hn:n+m < 140737488355328)
  (h0:m=0->K (a.put o.dst (.slice (some ao) n n)) W)
  (h:0 < m -> ∀ v' w',w'.ownsRow W.heap.size e size v' (n+m) (olds++ys)->W.grownBy w' none->K (a.put o.dst v') w') :
  if Region.wanted o (yielded ops a.tmps)=true then Oper.wp P o a W K Q else E':=by
 obtain ⟨i0,hi,hz0,hz1,hz2⟩:=info_parts E.hi;have hw:Region.wanted o (yielded ops a.tmps)=true:=by simp [Region.wanted,hgd]
 rw [if_pos hw]
 rcases Nat.eq_zero_or_pos m with rfl | hm
 ·have hr:(Builtin.append_ #[t,t] o.type #[.slice (some ao) n n,.slice ad 0 c]).run P W = .ok (.slice (some ao) n n) W:=by
   cases ad <;> simp [Builtin.append_,run_underlying E.ht,sizeOf,typeInfo,hi,Builtin.lenOf,Builtin.firstCells,storeCells,loadCells,loadCellsFrom]
  unfold Oper.wp;simp [execOp,ho,resolve,invoke,builtin,hs,hx,hr,Result.andThen];exact h0 rfl
 ·have hyn:ys ≠ []:=by
   rintro rfl;have hz:=E.hsz;have hc':m * size=0:=by simpa using hc.symm
   rcases Nat.mul_eq_zero.1 hc' with h | h <;> omega
  rcases hrow with h1 | ⟨b,off,rfl,hcell⟩
  ·exact absurd h1 hyn
  ·have hnews:∀ j u,ys[j]? = some u->W.cell? ((⟨b,off,none⟩:Addr).add j)=some u:=fun j u hj=>by
    have e1:(⟨b,off,none⟩:Addr).add j=⟨b,off+j,none⟩:=by unfold Addr.add;split <;> simp_all
    rw [e1];exact hcell j u hj
   obtain ⟨v',w',hrun,r1,r2⟩:=run_append_arg_grows (P:=P) W t o.type e i0 z size bytes E.ht hi hz0 hz1 hz2 E.hzs E.hsz ao n n olds hlo holds ⟨b,off,none⟩ m c ys hc hnews (by omega) (by unfold maxLen;omega) hbytes;unfold Oper.wp;simp [execOp,ho,resolve,invoke,builtin,hs,hx,hrun,Result.andThen];exact h hm v' w' r1 r2
theorem wpList_copyAll {P:Program} {t e:TypeId} {z:Value} {size bytes:Nat} (E:ElemT P t e z size bytes) {w0 w:World} {B:Nat} {v:Value} {n:Nat} {xs:List Value} (hown:w.ownsRow B e size v n xs) (hbel:Below B w0 w)
  {ops:Array Oper} {rest:List Oper} {o:Oper} {a:Act} {Q:Exit->Act->World->Prop} {d s:Operand} {ad:Option Addr} {ys:List Value} {c:Nat} (hrow:Row w ad ys) (hgd:o.guard=none)
  (ho:o.op = .call { callee:=.builtin .copy,args:=#[d,s],argTypes:=#[t,t] }) (hd:a.eval d=v) (hs:a.eval s = .slice ad n c) (hn:0 < n) (hc:ys.length=n * size) (h1:∀ u ∈ ys,u.oneCell'=true)
  (h:∀ w',w'.ownsRow B e size v n ys->Below B w0 w'->wpList P ops Q rest (a.put o.dst (.int .i64 n)) w'):wpList P ops Q (o :: rest) a w:=by
 obtain ⟨i0,hi,hz0,hz1,hz2⟩:=info_parts E.hi
 rcases hown.2 with ⟨-,h0⟩ | ⟨g,cap,cur,rfl,hbg,hg,hnc,hcm,hcs,htk⟩
 ·omega
 rcases hrow with rfl | ⟨b,off,rfl,hcell⟩
 ·exfalso
  have hz:=E.hsz;have hc':n * size=0:=by simpa using hc.symm
  rcases Nat.mul_eq_zero.1 hc' with h | h <;> omega
 have hsrc:∀ j u,ys[j]? = some u->w.cell? ((⟨b,off,none⟩:Addr).add j)=some u:=fun j u hj=>by
  have e1:(⟨b,off,none⟩:Addr).add j=⟨b,off+j,none⟩:=by unfold Addr.add;split <;> simp_all
  rw [e1];exact hcell j u hj
 have hfit:ys.length<=cur.size:=by rw [hc,hcs];exact Nat.mul_le_mul_right _ hnc
 refine wpList_plain hgd fun K hK => ?_
 have hf:=run_firstCells_some (P:=P) w size n ⟨b,off,none⟩ n c ys hc hsrc;have hst:=run_storeCells_at P g 0 e ys 0 cur w hg (by simpa using hfit) h1
 have hrun:(Builtin.copy_ #[t,t] o.type #[.slice (some ⟨g,0,none⟩) n cap,.slice (some ⟨b,off,none⟩) n c]).run P w = .ok (goInt n) (w.setRow g (ys++cur.toList.drop ys.length).toArray):=by
  simp only [Nat.zero_add,List.take_zero,List.nil_append] at hst;simp [Builtin.copy_,run_underlying E.ht,Builtin.lenOf,sizeOf,typeInfo,hi,hz1,hf,hst]
 unfold Oper.wp execOp;simp only [ho,resolve,invoke,builtin,Sem.run_bind,Sem.run_pure,Result.andThen_ok,List.map_toArray,List.map_cons,List.map_nil,hd,hs,hrun];refine hK _ _ (h _ ⟨hc,.inr ⟨g,cap,_,rfl,hbg,setRow_heap w g cur _ e _ hg,hnc,hcm,?_,?_⟩⟩ ?_)
 ·simp only [List.size_toArray,List.length_append,List.length_drop,Array.length_toList]
  omega
 ·simp only [List.take_append_of_le_length (Nat.le_of_eq hc.symm),List.take_of_length_le (Nat.le_of_eq hc)]
 ·exact hbel.trans ⟨rfl,rfl,rfl,by simp [World.setRow],fun k hk=>setRow_other w g k _ (by omega)⟩
end
section
open Go Go.RowKit
def Beside (w:World) (F:List Nat) (a:Option Addr) (xs:List Value):Prop:=
 xs = [] \/ ∃ b o,a=some ⟨b,o,none⟩/\b ∉ F/\b < w.heap.size/\Row w a xs
theorem Beside.row {w:World} {F:List Nat} {a:Option Addr} {xs:List Value} (h:Beside w F a xs):Row w a xs:=by
 rcases h with h | ⟨b,o,-,-,-,h⟩
 ·exact .inl h
 ·exact h
theorem Beside.upd {w w':World} {F F':List Nat} {a:Option Addr} {xs:List Value} (h:Beside w F a xs) (hu:Upd F F' w w'):Beside w' F' a xs:=by
 rcases h with h | ⟨b,o,ha,h1,h2,h3⟩
 ·exact .inl h
 ·refine .inr ⟨b,o,ha,fun hk => ?_,Nat.lt_of_lt_of_le h2 hu.1.size,?_⟩
  ·rcases hu.2 b hk with h | h
   ·exact h1 h
   ·omega
  ·rcases h3 with h3 | ⟨b',o',ha',hc⟩
   ·exact .inl h3
   ·subst ha'
    cases ha
    exact .inr ⟨_,_,rfl,fun i v hi=>by rw [World.cell?_of_block (w:=w) (hu.1.block _ h2 h1)];exact hc i v hi⟩
theorem Beside.below {w w':World} {F:List Nat} {a:Option Addr} {xs:List Value} (h:Beside w F a xs) (hb:Below w.heap.size w w'):Beside w' F a xs:=h.upd ⟨Mod.of_below hb _,fun _ hk => .inl hk⟩
theorem Beside.sub {w:World} {F G:List Nat} {a:Option Addr} {xs:List Value} (h:Beside w F a xs) (hG:∀ k ∈ G,k ∈ F):Beside w G a xs:=by
 rcases h with h | ⟨b,o,ha,h1,h2,h3⟩
 ·exact .inl h
 ·exact .inr ⟨b,o,ha,fun hk=>h1 (hG b hk),h2,h3⟩
theorem Row.lt {w:World} {a:Option Addr} {xs:List Value} (h:Row w a xs) (hn:xs ≠ []):∃ b o,a=some ⟨b,o,none⟩/\b < w.heap.size:=by
 rcases h with h | ⟨b,o,e,hc⟩
 ·exact absurd h hn
 ·cases xs with
  | nil=>exact absurd rfl hn
  | cons x r =>
   have:=hc 0 x rfl;exact ⟨b,o,e,World.block_lt_of_cell? (a:=⟨b,o+0,none⟩) w this⟩
theorem Beside.base {w0 w:World} {F:List Nat} {a:Option Addr} {xs:List Value} (h:Row w0 a xs) (hb:Below w0.heap.size w0 w) (hF:∀ k ∈ F,w0.heap.size<=k):Beside w F a xs:=by
 by_cases hn:xs = []
 ·exact .inl hn
 ·obtain ⟨b,o,e,hlt⟩:=Row.lt h hn
  exact .inr ⟨b,o,e,fun hk=>by have:=hF b hk;omega,Nat.lt_of_lt_of_le hlt hb.size,h.below hb (Nat.le_refl _)⟩
theorem Beside.own {w:World} {F:List Nat} {v:Value} {m:Nat} {T:TypeId} {sz:Nat} {xs:List Value} {B:Nat} (h:w.ownsRow B T sz v m xs) (hF:∀ k ∈ F,k < B):∃ a c,v = .slice a m c/\m<=c/\c<=maxLen/\Beside w F a xs:=by
 obtain ⟨a,c,rfl,hr,h1,h2⟩:=ownsRow_row h;refine ⟨a,c,rfl,h1,h2,?_⟩
 rcases h.2 with ⟨e,hn⟩ | ⟨g,cap,cur,e,hb,hg,-⟩
 ·cases e
  rcases hr with hr | ⟨b,o,e,-⟩
  ·exact .inl hr
  ·cases e
 ·cases e
  exact .inr ⟨g,0,rfl,fun hk=>by have:=hF g hk;omega,(Array.getElem?_eq_some_iff.1 hg).1,hr⟩
theorem Beside.new {w:World} {F:List Nat} (hF:∀ k ∈ F,k < w.heap.size) (xs:List Value) (T:TypeId):Beside (w.alloc (.cells xs.toArray T)) F (some ⟨w.heap.size,0,none⟩) xs:=
 .inr ⟨_,_,rfl,fun hk=>by have:=hF _ hk;omega,by simp,row_new w xs T⟩
end
end Go.Proofs.YtcekcoepdhnfgaaGreatDoor
