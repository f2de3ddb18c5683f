/- Rows, bounds, small laws. -/
import Derived.WalkKit
import Derived.OrdersHeld
import Derived.WalkLawsBesides
import Derived.WalkSpells
import Derived.RowKit3
import Derived.Lib.Hide
import Derived.Deep.QuietTactic
import Derived.BigQuiet
import Derived.Deep.RegionHeld3
namespace Go.Proofs.YtcekcoepdhnfgaaGreatDoor
open Go Go.RowKit
theorem tk {P:Program} {ops:Array Oper} {Q:Exit->Go.Act->World->Prop} {md:Region.Mode} {S:World->Prop} (i:Nat) {oi:Oper} {v:Value} {fuel:Nat} {listed:Array Bool} {a:Go.Act} {w:World}
  (hy:∀ w,S w->(execOp a.eval oi).run P w = .ok (.value v) w) (hS:S w) (h:wpAnyH P md ops Q S fuel (listed.setIfInBounds i true) (a.put oi.dst v) w)
  (hi:ops[i]? = some oi:=by rfl) (hs:Region.noSelect ops=true:=by kernel_rfl) (hf:Region.free md ops listed i=true:=by kernel_rfl) (hr:(Region.ready md ops listed).contains i=true:=by kernel_rfl)
  (hg:Region.wanted oi (yielded ops a.tmps)=true:=by kernel_rfl) (hQ:∀ c a w,Q (.panic c) (a.put oi.dst v) w->Q (.panic c) a w:=by exact fun _ _ _ h=>h):wpAnyH P md ops Q S (fuel+1) listed a w:=
 wpAnyH_take hi hs hf hr hQ (Or.inl ⟨hg,hy⟩) hS h
theorem tks:(∀ (l:List Oper) (i:Nat) (h:i < l.toArray.size),l.toArray[i]=l[i]'h)/\(∀ (a:Oper) (l:List Oper) (h:0 < (a :: l).length),(a :: l)[0]=a)/\(∀ (a:Oper) (l:List Oper) (i:Nat) (h:i+1 < (a :: l).length),(a :: l)[i+1]=l[i]'(Nat.lt_of_succ_lt_succ h)) ∧
  (∀ (a:Go.Act) (i:Nat) (v:Value),a.put (some i) v = { a with tmps:=a.tmps.setIfInBounds i v })/\(∀ (a:Go.Act) (v:Value),a.put none v=a)/\(∀ (l:List Value) (i:Nat) (v:Value),l.toArray.setIfInBounds i v=(l.set i v).toArray)/\(∀ (a b:Value) (l:List Value),(a :: l).set 0 b=b :: l)/\(∀ (a b:Value) (l:List Value) (i:Nat),(a :: l).set (i+1) b=a :: l.set i b):=
 ⟨fun _ _ _=>rfl,fun _ _ _=>rfl,fun _ _ _ _=>rfl,fun _ _ _=>rfl,fun _ _=>rfl,fun _ _ _=>by simp,fun _ _ _=>rfl,fun _ _ _ _=>rfl⟩
theorem tsk {P:Program} {ops:Array Oper} {Q:Exit->Go.Act->World->Prop} {md:Region.Mode} {S:World->Prop} (i:Nat) {oi:Oper} {fuel:Nat} {listed:Array Bool} {a:Go.Act} {w:World}
  (hS:S w) (h:wpAnyH P md ops Q S fuel (listed.setIfInBounds i true) (a.put oi.dst undef) w)
  (hi:ops[i]? = some oi:=by rfl) (hs:Region.noSelect ops=true:=by kernel_rfl) (hf:Region.free md ops listed i=true:=by kernel_rfl) (hr:(Region.ready md ops listed).contains i=true:=by kernel_rfl)
  (hg:Region.wanted oi (yielded ops a.tmps)=false:=by kernel_rfl) (hQ:∀ c a w,Q (.panic c) (a.put oi.dst undef) w->Q (.panic c) a w:=by exact fun _ _ _ h=>h):wpAnyH P md ops Q S (fuel+1) listed a w:=
 wpAnyH_take hi hs hf hr hQ (Or.inr ⟨hg,rfl⟩) hS h
theorem ret_int {k:IntKind} {a b:Int} (h:a=b):Ending.returned (.int k a) = .returned (.int k b):=by rw [h]
theorem ret_bool {a b:Bool} (h:a=b):Ending.returned (.bool a) = .returned (.bool b):=by rw [h]
theorem ret2 {a b c d:Value} (h:a=c) (h':b=d):Ending.returned (.tuple #[a,b]) = .returned (.tuple #[c,d]):=by rw [h,h']
theorem v_bool {a b:Bool} (h:a=b):Value.bool a = .bool b:=by rw [h]
structure ElemT (P:Program) (t e:TypeId) (z:Value) (size bytes:Nat):Prop where
 ht:P.underlying t=some (.slice e)
 hi:(P.info? e).map (fun i=>(i.zero,i.size,i.bytes))=some (some z,size,bytes)
 hzs:z.cells.size=size
 hsz:0 < size
theorem wpList_app {P:Program} {t e:TypeId} {z:Value} {size bytes:Nat} (E:ElemT P t e z size bytes) {w0 w:World} {B:Nat} {v:Value} {n:Nat} {xs:List Value} (hown:w.ownsRow B e size v n xs) (hbel:Below B w0 w) (hB:B<=w.heap.size)
  {ops:Array Oper} {rest:List Oper} {o:Oper} {a:Act} {Q:Exit->Act->World->Prop} {s x:Operand} {cur:Array Value} {m c:Nat}
  (hgd:o.guard=none) (ho:o.op = .call { callee:=.builtin .append,args:=#[s,x],argTypes:=#[t,t] }) (hs:a.eval s=v) (hx:a.eval x = .slice (some ⟨w.heap.size,0,none⟩) m c)
  (hc:cur.size=m * size) (h1:∀ u ∈ cur.toList,u.oneCell'=true) (hbytes:(n+m) * bytes<=140737488355328) (hn:n+m < 140737488355328)
  (h:∀ v' w',w'.ownsRow B e size v' (n+m) (xs++cur.toList)->Below B w0 w'->B<=w'.heap.size->w.heap.size < w'.heap.size->wpList P ops Q rest (a.put o.dst v') w'):wpList P ops Q (o :: rest) a (w.alloc (.cells cur e)):=by
 obtain ⟨i0,hi,hz0,hz1,hz2⟩:=info_parts E.hi;refine wpList_append_own _ hgd s x t ho B e i0 z size bytes E.ht hi hz0 hz1 hz2 E.hzs E.hsz v n xs hs (hown.alloc _) ⟨w.heap.size,0,none⟩ m c cur.toList hx (by simp [hc]) ?_ h1 (by unfold maxLen;omega) hbytes (by simp;omega) ?_
 ·intro j u hj
  have e1:(⟨w.heap.size,0,none⟩:Addr).add j=⟨w.heap.size,j,none⟩:=by unfold Addr.add;split <;> simp_all
  rw [e1,World.cell?_alloc_new]
  simpa using hj
 ·intro v' w' h1 h2 _
  have hl:=hown.lt;refine h v' w' h1 ((hbel.alloc hB _).grown h2 (by simp;omega) (fun k hk=>(hl k hk).1)) ?_ ?_
  ·have:=h2.size;simp at this;omega
  ·have:=h2.size;simp at this;omega
theorem wpList_appG {P:Program} {t e:TypeId} {z:Value} {size bytes:Nat} (E:ElemT P t e z size bytes) {w0 w:World} {B:Nat} {v:Value} {n:Nat} {xs:List Value} (hown:w.ownsRow B e size v n xs) (hbel:Below B w0 w) (hB:B<=w.heap.size)
  {ops:Array Oper} {rest:List Oper} {o:Oper} {a:Act} {Q:Exit->Act->World->Prop} {s x:Operand} {cur:Array Value} {m c:Nat}
  (hgd:o.guard=none) (ho:o.op = .call { callee:=.builtin .append,args:=#[s,x],argTypes:=#[t,t] }) (hs:a.eval s=v) (hx:a.eval x = .slice (some ⟨w.heap.size,0,none⟩) m c)
  (hc:cur.size=m * size) (h1:∀ u ∈ cur.toList,u.oneCell'=true) (hbytes:(n+m) * bytes<=140737488355328) (hn:n+m < 140737488355328)
  (h:∀ v' w',w'.ownsRow B e size v' (n+m) (xs++cur.toList)->Below B w0 w'->B<=w'.heap.size->(w.alloc (.cells cur e)).grownBy w' v.ownBlock->wpList P ops Q rest (a.put o.dst v') w'):wpList P ops Q (o :: rest) a (w.alloc (.cells cur e)):=by
 obtain ⟨i0,hi,hz0,hz1,hz2⟩:=info_parts E.hi;refine wpList_append_own _ hgd s x t ho B e i0 z size bytes E.ht hi hz0 hz1 hz2 E.hzs E.hsz v n xs hs (hown.alloc _) ⟨w.heap.size,0,none⟩ m c cur.toList hx (by simp [hc]) ?_ h1 (by unfold maxLen;omega) hbytes (by simp;omega) ?_
 ·intro j u hj
  have e1:(⟨w.heap.size,0,none⟩:Addr).add j=⟨w.heap.size,j,none⟩:=by unfold Addr.add;split <;> simp_all
  rw [e1,World.cell?_alloc_new]
  simpa using hj
 ·intro v' w' h1 h2 _
  have hl:=hown.lt;refine h v' w' h1 ((hbel.alloc hB _).grown h2 (by simp;omega) (fun k hk=>(hl k hk).1)) ?_ h2;have:=h2.size;simp at this;omega
def Row (w:World) (a:Option Addr) (xs:List Value):Prop:=
 xs = [] \/ ∃ b off,a=some ⟨b,off,none⟩ /\ ∀ j u,xs[j]? = some u->w.cell? ⟨b,off+j,none⟩=some u
theorem Row.below {w w':World} {a:Option Addr} {xs:List Value} {B:Nat} (h:Row w a xs) (hb:Below B w w') (hB:w.heap.size<=B):Row w' a xs:=by
 rcases h with h | ⟨b,off,ha,hc⟩
 ·exact .inl h
 ·refine .inr ⟨b,off,ha,fun j u hj => ?_⟩
  have h0:=hc j u hj;rw [hb.cell (p:=⟨b,off+j,none⟩) (Nat.lt_of_lt_of_le (World.block_lt_of_cell? w _ h0) hB)];exact h0
theorem Row.at {w:World} {a:Option Addr} {xs:List Value} (h:Row w a xs) {j:Nat} {u:Value} (hj:xs[j]? = some u):∃ b off,a=some ⟨b,off,none⟩/\w.cell? ⟨b,off+j,none⟩=some u:=by
 rcases h with rfl | ⟨b,off,ha,hc⟩
 ·simp at hj
 ·exact ⟨b,off,ha,hc j u hj⟩
theorem Row.nil (w:World) (a:Option Addr):Row w a []:=.inl rfl
theorem bnext {w w1 w2:World} {B:Nat} (h:Below B w w1) (hB:B<=w.heap.size) (k:Below w1.heap.size w1 w2):Below B w w2:=h.trans (k.mono (Nat.le_trans hB h.size))
theorem row_new (w:World) (xs:List Value) (t:TypeId):Row (w.alloc (.cells xs.toArray t)) (some ⟨w.heap.size,0,none⟩) xs:=
 .inr ⟨_,0,rfl,fun j u hj=>by rw [Nat.zero_add,World.cell?_alloc_new];simpa using hj⟩
theorem below_draws {B:Nat} {w:World} (n:Nat):Below B w (w.drewN n):=below_drewN (Below.refl _ _) n
theorem ownsRow_row {w:World} {B:Nat} {e:TypeId} {size n:Nat} {v:Value} {xs:List Value} (h:w.ownsRow B e size v n xs):∃ a cap,v = .slice a n cap/\Row w a xs/\n<=cap/\cap<=maxLen:=by
 have hxl:=h.1
 rcases h.2 with ⟨rfl,hn⟩ | ⟨g,cap,cur,rfl,hb,hg,hnc,hcm,hcs,htake⟩
 ·exact ⟨none,0,by rw [hn],.inl (by have:=h.1;rw [hn] at this;simpa using this),by omega,by omega⟩
 ·exact ⟨_,_,rfl,.inr ⟨g,0,rfl,fun j u hj=>by
   rw [Nat.zero_add,h.cellAt j ?_,hj];have:=(List.getElem?_eq_some_iff.1 hj).1
   omega⟩,hnc,hcm⟩
theorem run_string_new {P:Program} {e t T:TypeId} (ht:P.underlying t=some (.slice e)) (he:P.underlying e=some (.int .u8)) (hT:P.underlying T=some .string) (xs:List Int) (c:Nat) (w:World) :
  (convert t T (.slice (some ⟨w.heap.size,0,none⟩) xs.length c)).run P (w.alloc (.cells (xs.map (Value.int .u8)).toArray e)) = .ok (.string ⟨(xs.map fun n=>UInt8.ofNat n.toNat).toArray⟩) (w.alloc (.cells (xs.map (Value.int .u8)).toArray e)):=by
 refine run_convert_bytes_arg (w.alloc (.cells (xs.map (Value.int .u8)).toArray e)) t e ht he w.heap.size 0 xs.length c xs rfl ?_ T hT;intro i hi;rw [Nat.zero_add,World.cell?_alloc_new];simp [hi]
theorem w_u8 (x:Int) (h0:0<=x) (h1:x < 256):IntKind.u8.wrap x=x:=by rw [IntKind.wrap_u8'];omega
theorem w_i64 (x:Int) (h0:-9223372036854775808<=x) (h1:x<=9223372036854775807):IntKind.i64.wrap x=x:=by rw [IntKind.wrap_i64];omega
def u8s (l:List UInt8):List Value:=l.map fun c=>Value.int .u8 (c.toNat:Int)
theorem u8s_append (l m:List UInt8):u8s l++u8s m=u8s (l++m):=by simp [u8s]
theorem run_string_own {P:Program} {w:World} {B:Nat} {e t T:TypeId} {v:Value} {n:Nat} {l:List UInt8} (ht:P.underlying t=some (.slice e)) (he:P.underlying e=some (.int .u8)) (hT:P.underlying T=some .string)
  (hown:w.ownsRow B e 1 v n (u8s l)):(convert t T v).run P w = .ok (.string ⟨l.toArray⟩) w:=by
 rcases hown.2 with ⟨rfl,hn⟩ | ⟨g,cap,cur,rfl,hb,hg,hnc,hcm,hcs,htake⟩
 ·have:l = []:=by have:=hown.1;simp [u8s,hn] at this;exact this
  subst this;rw [run_convert_bytes_nil w t e ht he 0 0 T hT];rfl
 ·have hln:l.length=n:=by have:=hown.1;simpa [u8s] using this
  rw [run_convert_bytes_arg w t e ht he g 0 n cap (l.map fun c=>(c.toNat:Int)) (by simp [hln]) ?_ T hT]
  ·have:strOfNums (l.map fun c=>(c.toNat:Int))=⟨l.toArray⟩:=by
    unfold strOfNums;congr 2;simp [Function.comp_def]
   rw [this]
  ·intro i hi
   rw [Nat.zero_add,hown.cellAt i (by omega)];have hil:i < l.length:=by omega
   simp [u8s,hil]
section
open Go Go.RowKit
theorem hyd {p:Prop} (h:p):Hid p:=Lib.hid h
theorem tA {P:Program} {ops:Array Oper} {Q:Exit->Go.Act->World->Prop} {md:Region.Mode} {S:World->Prop} (i:Nat) {oi:Oper} {v:Value} {fuel:Nat} {listed:Array Bool} {a:Go.Act} {w:World}
    (hi:ops[i]? = some oi:=by rfl) (hS:S w:=by assumption)
    (hy:∀ w,S w->(execOp a.eval oi).run P w = .ok (.value v) w:=by (intro w0 hS0;(try dsimp only at hS0);(try simp only [tks]);go_simp;try with_reducible rfl))
    (hs:Region.noSelect ops=true:=by kernel_rfl) (hf:Region.free md ops listed i=true:=by kernel_rfl) (hr:(Region.ready md ops listed).contains i=true:=by kernel_rfl)
    (hg:Region.wanted oi (yielded ops a.tmps)=true:=by kernel_rfl) (hQ:∀ c a w,Q (.panic c) (a.put oi.dst v) w->Q (.panic c) a w:=by exact fun _ _ _ h=>h)
    (h:wpAnyH P md ops Q S fuel (listed.setIfInBounds i true) (a.put oi.dst v) w):wpAnyH P md ops Q S (fuel+1) listed a w:=
  tk i hy hS h hi hs hf hr hg hQ
theorem sA {P:Program} {ops:Array Oper} {Q:Exit->Go.Act->World->Prop} {md:Region.Mode} {S:World->Prop} (i:Nat) {oi:Oper} {fuel:Nat} {listed:Array Bool} {a:Go.Act} {w:World}
    (hi:ops[i]? = some oi:=by rfl) (hS:S w:=by assumption)
    (hs:Region.noSelect ops=true:=by kernel_rfl) (hf:Region.free md ops listed i=true:=by kernel_rfl) (hr:(Region.ready md ops listed).contains i=true:=by kernel_rfl)
    (hg:Region.wanted oi (yielded ops a.tmps)=false:=by kernel_rfl) (hQ:∀ c a w,Q (.panic c) (a.put oi.dst undef) w->Q (.panic c) a w:=by exact fun _ _ _ h=>h)
    (h:wpAnyH P md ops Q S fuel (listed.setIfInBounds i true) (a.put oi.dst undef) w):wpAnyH P md ops Q S (fuel+1) listed a w:=
  tsk i hS h hi hs hf hr hg hQ
end
end Go.Proofs.YtcekcoepdhnfgaaGreatDoor
