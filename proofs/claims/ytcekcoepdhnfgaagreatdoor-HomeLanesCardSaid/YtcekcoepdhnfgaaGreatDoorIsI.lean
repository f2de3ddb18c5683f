/- in: First and Rel. -/
import Derived.Test.YtcekcoepdhnfgaaGreatDoorRows
import Derived.Test.YtcekcoepdhnfgaaGreatDoorMZ
import Derived.Maps.OwnSet
import Derived.Maps.RangeWalk
import Derived.Maps.Ext
namespace Go.Proofs.YtcekcoepdhnfgaaGreatDoor
section
open Go Go.RowKit Go.Maps
def ins (x:Int):List Int->List Int
 | [] => [x]
 | y :: r=>if x < y then x :: y :: r else y :: ins x r
theorem mem_ins (x z:Int) (l:List Int):z ∈ ins x l ↔ z=x \/ z ∈ l:=by
 induction l with
 | nil=>simp [ins]
 | cons y r ih =>
  unfold ins
  split
  ·simp
  ·simp only [List.mem_cons,ih]
   constructor
   ·rintro (h | h | h) <;> simp [h]
   ·rintro (h | h | h) <;> simp [h]
theorem length_ins (x:Int) (l:List Int):(ins x l).length=l.length+1:=by
 induction l with
 | nil=>rfl
 | cons y r ih =>
  unfold ins
  split
  ·rfl
  ·simp [ih]
theorem ins_sorted {x:Int} {l:List Int} (h:l.Pairwise (· < ·)) (hx:x ∉ l):(ins x l).Pairwise (· < ·):=by
 induction l with
 | nil=>simp [ins]
 | cons y r ih =>
  obtain ⟨h1,h2⟩:=List.pairwise_cons.1 h;unfold ins
  split
  ·rename_i hlt
   refine List.pairwise_cons.2 ⟨fun z hz => ?_,h⟩
   rcases List.mem_cons.1 hz with rfl | hz
   ·exact hlt
   ·have:=h1 z hz;omega
  ·rename_i hlt
   refine List.pairwise_cons.2 ⟨fun z hz => ?_,ih h2 (fun hm=>hx (List.mem_cons_of_mem _ hm))⟩
   rcases (mem_ins x z r).1 hz with rfl | hz
   ·have:z ≠ y:=fun e=>hx (by simp [e])
    omega
   ·exact h1 z hz
def out (x:Int) (l:List Int):List Int:=l.filter fun y=>y != x
theorem mem_out (x z:Int) (l:List Int):z ∈ out x l ↔ z ∈ l/\z ≠ x:=by simp [out]
theorem out_sorted {x:Int} {l:List Int} (h:l.Pairwise (· < ·)):(out x l).Pairwise (· < ·):=h.filter _
theorem out_none {x:Int} {l:List Int} (h:x ∉ l):out x l=l:=by
 unfold out;rw [List.filter_eq_self];intro y hy;simp only [bne_iff_ne,ne_eq];rintro rfl;exact h hy
theorem length_out {x:Int} {l:List Int} (h:l.Pairwise (· < ·)) (hx:x ∈ l):(out x l).length+1=l.length:=by
 induction l with
 | nil=>simp at hx
 | cons y r ih =>
  obtain ⟨h1,h2⟩:=List.pairwise_cons.1 h
  by_cases e:y=x
  ·subst e
   have:y ∉ r:=fun hm=>by have:=h1 y hm;omega
   simp [out];rintro a ha rfl;exact this ha
  ·have hx':x ∈ r:=by
    rcases List.mem_cons.1 hx with h | h
    ·exact absurd h.symm e
    ·exact h
   have:=ih h2 hx';unfold out at this ⊢;rw [List.filter_cons_of_pos (by simpa using e)];simp;omega
theorem kU:Keyed Tryz.prog 34:=int_keyed Tryz.underlying34
theorem wfU {x:Int} (h0:0<=x) (h1:x<=65535):(Lit.int .u16 x).wf=true:=by simp [Lit.wf,IntKind.min,IntKind.max,IntKind.signed,IntKind.bits];omega
theorem zeroUnit (w:World):(zeroValue 259).run Tryz.prog w = .ok (.agg #[]) w:=by kernel_rfl
theorem owns_tight {P:Program} {k:TypeId} {R:Value->Option (DataW Unit × List MemPlace)} {w:World} {b n:Nat} {D:DataW Unit} (h:w.ownsMap P k R b n D):w.ownsMap P k R b (Maps.size D) D:=by
 obtain ⟨es,clock,hb,F,hs,rfl⟩:=h;exact ⟨es,clock,hb,F,by simp [Maps.size,length_sorted],rfl⟩
def CRep (w:World) (g:Nat) (l:List Int) (F:List Nat):Prop:=
 ∃ (b:Nat) (D:DataW Unit),w.heap[g]? = some (.cells #[.map (some b)] 282 (0,0))/\w.ownsMap Tryz.prog 34 unitElem b (Maps.size D) D/\Maps.size D=l.length ∧
  (∀ x,0<=x->x<=65535->Maps.has D (.int .u16 x)=decide (x ∈ l))/\l.Pairwise (· < ·)/\(∀ x ∈ l,1<=x/\x<=65535)/\b ≠ g/\F = [g,b]
theorem CRep.lt {w:World} {g:Nat} {l:List Int} {F:List Nat} (h:CRep w g l F):∀ k ∈ F,k < w.heap.size:=by
 obtain ⟨b,D,hg,hown,_,_,_,_,_,rfl⟩:=h;intro k hk;simp at hk
 rcases hk with rfl | rfl
 ·exact (Array.getElem?_eq_some_iff.1 hg).1
 ·exact hown.lt
theorem CRep.mod {S:List Nat} {w w':World} {g:Nat} {l:List Int} {F:List Nat} (h:CRep w g l F) (hm:Mod S w w') (hS:∀ k ∈ F,k ∉ S):CRep w' g l F:=by
 have hl:=h.lt;obtain ⟨b,D,hg,⟨es,clock,hb,r⟩,h1,h2,h3,h4,h5,rfl⟩:=h;exact ⟨b,D,by rw [hm.block g (hl g (by simp)) (hS g (by simp))];exact hg,⟨es,clock,by rw [hm.block b (hl b (by simp)) (hS b (by simp))];exact hb,r⟩,h1,h2,h3,h4,h5,rfl⟩
theorem CRep.below {w w':World} {g:Nat} {l:List Int} {F:List Nat} (h:CRep w g l F) (hk:Below w.heap.size w w'):CRep w' g l F:=h.mod (Mod.of_below hk []) (by simp)
theorem CRep.sorted {w:World} {g:Nat} {l:List Int} {F:List Nat} (h:CRep w g l F):l.Pairwise (· < ·):=by obtain ⟨b,D,_,_,_,_,h,_⟩:=h;exact h
theorem CRep.range {w:World} {g:Nat} {l:List Int} {F:List Nat} (h:CRep w g l F):∀ x ∈ l,1<=x/\x<=65535:=by obtain ⟨b,D,_,_,_,_,_,h,_⟩:=h;exact h
theorem sorted_len {l:List Int}:∀ {a b:Int},l.Pairwise (· < ·)->(∀ x ∈ l,a<=x/\x<=b)->a<=b+1->(l.length:Int)<=b+1 - a:=by
 induction l with
 | nil=>intro a b _ _ h;simp;omega
 | cons y r ih =>
  intro a b h hr hab;obtain ⟨h1,h2⟩:=List.pairwise_cons.1 h;have hy:=hr y (by simp);have:=ih (a:=y+1) (b:=b) h2 (fun x hx=>⟨by have:=h1 x hx;omega,(hr x (by simp [hx])).2⟩) (by omega);simp;omega
theorem CRep.len {w:World} {g:Nat} {l:List Int} {F:List Nat} (h:CRep w g l F):l.length<=65535:=by
 have:=sorted_len h.sorted h.range (by omega);omega
theorem wpList_clear_map {H:Type} {P:Program} (w:World) {ops:Array Oper} {rest:List Oper} {o:Oper} {a:Act} {Q:Exit->Act->World->Prop} (hg:o.guard=none) (m:Operand) (t k e:TypeId) (hop:o.op=Op.call { callee:=Callee.builtin Builtin.clear,args:=#[m],argTypes:=#[t] })
  (ht:P.underlying t=some (.map k e)) (R:Value->Option (DataW H × List MemPlace)) (b n:Nat) (D:DataW H) (hm:a.eval m = .map (some b)) (hown:w.ownsMap P k R b n D)
  (hK:∀ w',w'.ownsMap P k R b 0 (.map [])->w.mapTurned w' b->wpList P ops Q rest (a.put o.dst (.tuple #[])) w'):wpList P ops Q (o :: rest) a w:=by
 refine wpList_plain hg fun K' hK' => ?_
 obtain ⟨es,clock,hb,F,hs,rfl⟩:=hown
 have hrun:(Builtin.clear_ #[t] o.type #[.map (some b)]).run P w = .ok (.tuple #[]) (ChangeMaps.setBlock w b (.map #[] clock)):=by
  simp [Builtin.clear_,run_underlying ht,MapKept.run_getObj_map hb,MapKept.run_setObj_map _ hb,Result.andThen,ChangeMaps.setBlock]
 unfold Oper.wp;simp [execOp,hop,resolve,invoke,builtin,hm,hrun,Result.andThen];exact hK' _ _ (hK _ ⟨#[],clock,ChangeMaps.heap_setBlock_same hb _,⟨by simp,MapKept.stamped_empty clock,by simp⟩,Nat.le_refl _,rfl⟩ ⟨es,clock,#[],clock,hb,rfl⟩)
end
section
open Go Go.RowKit Go.Maps
theorem cnew (w:World):Calls Tryz.prog 188 #[] w fun e w' => ∃ g F,e = .returned (.pointer (some ⟨g,0,none⟩))/\CRep w' g [] F/\Upd [] F w w':=by
 have hmm:=@run_makeMap Tryz.prog
 go_enter Tryz.func188, Tryz.ntmps188
 go_wp2_with fail
 go_ret
 refine ⟨w.heap.size+1,[w.heap.size+1,w.heap.size],rfl,⟨w.heap.size,.map [],by simpa using heap_alloc_new (w.alloc (.map #[] 0)) (.cells #[.map (some w.heap.size)] 282),(World.ownsMap_made w _ _ _).alloc _,rfl,fun x _ _=>by simp [Maps.has],by simp,by simp,by omega,rfl⟩,((Mod.refl _ _).alloc _).alloc _,fun k hk => .inr ?_⟩;simp at hk;omega
theorem cknows_any (b:Bool) (g:Nat) (x:Int) (l:List Int) (F:List Nat) (w:World) (h:CRep w g l F) (hx0:0<=x) (hx1:x<=65535) (hb:decide (x ∈ l)=b) :
  Calls Tryz.prog 203 #[.pointer (some ⟨g,0,none⟩),.int .u16 x] w fun e w'=>e = .returned (.bool b)/\Below w.heap.size w w':=by
 obtain ⟨m,D,hg,hown,h1,h2,h3,h4,h5,-⟩:=h;have c0:=cell_of_row w g 0 _ _ _ hg;simp only [List.getElem?_toArray,List.getElem?_cons_zero] at c0;have h2x:=h2 x hx0 hx1;rw [hb] at h2x;have H2:=hyd h2x;clear h2 h2x hb h1 h3 h4 hg
 go_enter Tryz.func203, Tryz.ntmps203
 go_wp2_with (first | (at_lookup;refine wpList_lookup_own_unit _ rfl _ _ 280 rfl 34 259 kU Tryz.underlying280 (zeroUnit _) m _ D rfl hown _ _ rfl (keyOf_int_mk Tryz.underlying34 (wfU hx0 hx1)) ?_;rw [H2.out]) | fail)
 go_ret
 exact ⟨rfl,(Below.refl _ _).alloc (Nat.le_refl _) _⟩
theorem has_ins {D:DataW Unit} (hD:IsMap D) {l:List Int} (h:∀ x,0<=x->x<=65535->Maps.has D (.int .u16 x)=decide (x ∈ l)) (x:Int) (d:DataW Unit) (y:Int) (h0:0<=y) (h1:y<=65535):Maps.has (D.put (.int .u16 x) d) (.int .u16 y)=decide (y ∈ ins x l):=by
 by_cases e:y=x
 ·subst e
  rw [has_put_same hD (show WideAt.IsKeyLit (.int .u16 y) from trivial)];simp [mem_ins]
 ·rw [has_put_other (by simpa using e),h y h0 h1]
  simp [mem_ins,e]
theorem has_out {D:DataW Unit} {l:List Int} (h:∀ x,0<=x->x<=65535->Maps.has D (.int .u16 x)=decide (x ∈ l)) (x:Int) (y:Int) (h0:0<=y) (h1:y<=65535):Maps.has (D.del (.int .u16 x)) (.int .u16 y)=decide (y ∈ out x l):=by
 by_cases e:y=x
 ·subst e
  rw [has_del_same];simp [mem_out]
 ·rw [has_del_other (by simpa using e),h y h0 h1]
  simp [mem_out,e]
theorem eqn:∀ (w:World) (r:Option Nat),(binOp .eql 280 (.map r) (.map none)).run Tryz.prog w = .ok (.bool r.isNone) w:=fun w r=>run_eql_map_nil w _ _ _ r Tryz.underlying280
theorem cfirst_no (g:Nat) (x:Int) (l:List Int) (F:List Nat) (w:World) (h:CRep w g l F) (hx0:0<=x) (hx1:x<=65535) (hb:x=0 \/ x ∈ l) :
  Calls Tryz.prog 123 #[.pointer (some ⟨g,0,none⟩),.int .u16 x] w fun e w'=>e = .returned (.bool false)/\CRep w' g l F/\Upd F F w w':=by
 have H:=hyd h;obtain ⟨m,D,hg,-,-⟩:=h;have c0:=cell_of_row w g 0 _ _ _ hg;simp only [List.getElem?_toArray,List.getElem?_cons_zero] at c0;have eqn:=eqn;clear hg
 by_cases hz:x=0
 ·subst hz
  go_enter Tryz.func123, Tryz.ntmps123
  go_wp2_with fail
  go_ret
  exact ⟨rfl,H.out,Mod.refl _ _,fun k hk => .inl hk⟩
 ·have hbx:decide (x ∈ l)=true:=by rcases hb with h | h <;> simp_all
  have hz':(x == 0)=false:=by simpa using hz
  have HB:=hyd hbx;clear hb hbx hz
  go_enter Tryz.func123, Tryz.ntmps123
  go_wp2_with fail
  refine (cknows_any true g x l F _ H.out hx0 hx1 HB.out).mono ?_;rintro e w1 ⟨rfl,hk⟩
  go_wp2_with fail
  go_ret
  exact ⟨rfl,H.out.below hk,Mod.of_below hk _,fun k hk => .inl hk⟩
theorem upd_after {F F':List Nat} {w w1 w2:World} (hk:Below w.heap.size w w1) (hu:Upd F F' w1 w2):Upd F F' w w2:=
 ⟨(Mod.of_below hk F).trans hu.1 (fun _ h => .inl h),fun k h=>(hu.2 k h).imp id (fun h=>Nat.le_trans hk.size h)⟩
theorem crep_turned {w w' : World} {g m n : Nat} {D : DataW Unit} {l : List Int} (hg : w.heap[g]? = some (.cells #[.map (some m)] 282 (0, 0))) (hne : m ≠ g) (hown : w'.ownsMap Tryz.prog 34 unitElem m n D) (ht : w.grownBy w' (some m))
    (h1 : Maps.size D = l.length) (h2 : ∀ x, 0 ≤ x → x ≤ 65535 → Maps.has D (.int .u16 x) = decide (x ∈ l)) (h3 : l.Pairwise (· < ·)) (h4 : ∀ x ∈ l, 1 ≤ x ∧ x ≤ 65535) : CRep w' g l [g, m] ∧ Upd [g, m] [g, m] w w' :=
  ⟨⟨m, D, by rw [ht.block g (Array.getElem?_eq_some_iff.1 hg).1 (by simpa using fun e => hne e.symm)]; exact hg, owns_tight hown, h1, h2, h3, h4, hne, rfl⟩,
    (Mod.refl _ _).grown ht (fun k hk => by cases hk; left; simp), fun k hk => .inl hk⟩
theorem cfirst_yes (g:Nat) (x:Int) (l:List Int) (F:List Nat) (w:World) (h:CRep w g l F) (hx0:1<=x) (hx1:x<=65535) (hb:x ∉ l) :
  Calls Tryz.prog 123 #[.pointer (some ⟨g,0,none⟩),.int .u16 x] w fun e w'=>e = .returned (.bool true)/\CRep w' g (ins x l) F/\Upd F F w w':=by
 have H:=hyd h;have hlen:=h.len;obtain ⟨m,D,hg,hown,h1,h2,h3,h4,h5,rfl⟩:=h;have c0:=cell_of_row w g 0 _ _ _ hg;simp only [List.getElem?_toArray,List.getElem?_cons_zero] at c0;have hbx:decide (x ∈ l)=false:=by simpa using hb
 have hz':(x == 0)=false:=by simp;omega
 have HB:=hyd hbx;have HS:=hyd h1;have HH:=hyd h2;have HG:=hyd hg;have HN:=hyd hb;have hsz:Maps.size D < maxLen:=by unfold maxLen;omega
 have eqn:=eqn;have hx0':0<=x:=by omega
 clear hb hbx h1 h2 hg
 go_enter Tryz.func123, Tryz.ntmps123
 go_wp2_with fail
 refine (cknows_any false g x l _ _ H.out hx0' hx1 HB.out).mono ?_;rintro e w1 ⟨rfl,hk⟩;have hgl:g < w.heap.size:=(Array.getElem?_eq_some_iff.1 HG.out).1;have HG1:=hyd (show w1.heap[g]? = some (.cells #[.map (some m)] 282 (0,0)) by rw [hk.block g hgl];exact HG.out);have c1:=cell_of_row w1 g 0 _ _ _ HG1.out;simp only [List.getElem?_toArray,List.getElem?_cons_zero] at c1;have hown1:=hown.kept (row:=none) ⟨hk.os,hk.tape,hk.output,hk.size,fun k hk' _=>hk.block k hk'⟩ (by simp);clear c0 hown
 go_wp2_with (first | (at_mapUpdate;refine wpList_mapUpdate_own _ rfl _ _ _ 280 rfl 34 259 kU Tryz.underlying280 _ m _ _ rfl hown1 hsz _ _ _ rfl rfl (keyOf_int_mk Tryz.underlying34 (wfU hx0' hx1)) _ [] unitElem_mk ?_;intro w2 hown2 hgrow2) | fail)
 go_ret
 have hT:=hown1.tidy kU
 obtain ⟨r1,r2⟩:=crep_turned (l:=ins x l) HG1.out h5 hown2 hgrow2 (by rw [size_put hT,if_neg (by rw [HH.out x hx0' hx1];simpa using HN.out),length_ins,HS.out]) (fun y hy0 hy1=>has_ins hT.isMap HH.out x _ y hy0 hy1) (ins_sorted h3 HN.out)
  (fun y hy=>((mem_ins x y l).1 hy).elim (fun e=>by omega) (fun hy=>h4 y hy))
 exact ⟨rfl,r1,upd_after hk r2⟩
theorem crel_no (g:Nat) (x:Int) (l:List Int) (F:List Nat) (w:World) (h:CRep w g l F) (hx0:0<=x) (hx1:x<=65535) (hb:x ∉ l) :
  Calls Tryz.prog 126 #[.pointer (some ⟨g,0,none⟩),.int .u16 x] w fun e w'=>e = .returned (.bool false)/\CRep w' g l F/\Upd F F w w':=by
 have H:=hyd h;have HB:=hyd (show decide (x ∈ l)=false by simpa using hb);clear h hb
 go_enter Tryz.func126, Tryz.ntmps126
 go_wp2_with fail
 refine (cknows_any false g x l F _ H.out hx0 hx1 HB.out).mono ?_;rintro e w1 ⟨rfl,hk⟩
 go_wp2_with fail
 go_ret
 exact ⟨rfl,H.out.below hk,Mod.of_below hk _,fun k hk => .inl hk⟩
theorem crel_yes (g:Nat) (x:Int) (l:List Int) (F:List Nat) (w:World) (h:CRep w g l F) (hx0:0<=x) (hx1:x<=65535) (hb:x ∈ l) :
  Calls Tryz.prog 126 #[.pointer (some ⟨g,0,none⟩),.int .u16 x] w fun e w'=>e = .returned (.bool true)/\CRep w' g (out x l) F/\Upd F F w w':=by
 have H:=hyd h;obtain ⟨m,D,hg,hown,h1,h2,h3,h4,h5,rfl⟩:=h;have HB:=hyd (show decide (x ∈ l)=true by simpa using hb);have HS:=hyd h1;have HH:=hyd h2;have HG:=hyd hg;have HN:=hyd hb;clear hb h1 h2 hg
 go_enter Tryz.func126, Tryz.ntmps126
 go_wp2_with fail
 refine (cknows_any true g x l _ _ H.out hx0 hx1 HB.out).mono ?_;rintro e w1 ⟨rfl,hk⟩;have hgl:g < w.heap.size:=(Array.getElem?_eq_some_iff.1 HG.out).1;have HG1:=hyd (show w1.heap[g]? = some (.cells #[.map (some m)] 282 (0,0)) by rw [hk.block g hgl];exact HG.out);have c1:=cell_of_row w1 g 0 _ _ _ HG1.out;simp only [List.getElem?_toArray,List.getElem?_cons_zero] at c1;have hown1:=hown.kept (row:=none) ⟨hk.os,hk.tape,hk.output,hk.size,fun k hk' _=>hk.block k hk'⟩ (by simp);clear hown
 go_wp2_with (first | (at_delete;refine wpList_delete_own _ rfl _ _ 280 34 rfl 259 kU Tryz.underlying280 _ m _ _ rfl hown1 _ _ rfl (keyOf_int_mk Tryz.underlying34 (wfU hx0 hx1)) ?_;intro w2 hown2 hturn2) | fail)
 go_ret
 have hT:=hown1.tidy kU
 obtain ⟨r1,r2⟩:=crep_turned (l:=out x l) HG1.out h5 hown2 hturn2.grown (by have:=size_del (k:=.int .u16 x) hT;rw [if_pos (by rw [HH.out x hx0 hx1];exact HB.out),HS.out] at this;have:=length_out h3 HN.out;omega) (fun y hy0 hy1=>has_out HH.out x y hy0 hy1) (out_sorted h3)
  (fun y hy=>h4 y ((mem_out x y l).1 hy).1)
 exact ⟨rfl,r1,upd_after hk r2⟩
theorem cforget (g:Nat) (l:List Int) (F:List Nat) (w:World) (h:CRep w g l F) :
  Calls Tryz.prog 262 #[.pointer (some ⟨g,0,none⟩)] w fun e w'=>e = .returned (.tuple #[])/\CRep w' g [] F/\Upd F F w w':=by
 obtain ⟨m,D,hg,hown,h1,h2,h3,h4,h5,rfl⟩:=h;have c1:=cell_of_row w g 0 _ _ _ hg;simp only [List.getElem?_toArray,List.getElem?_cons_zero] at c1;have HG:=hyd hg;clear hg h1 h2 h3 h4
 go_enter Tryz.func262, Tryz.ntmps262
 go_wp2_with (first | (refine wpList_clear_map _ rfl _ 280 34 259 rfl Tryz.underlying280 _ m _ _ rfl hown ?_;intro w2 hown2 hturn2) | fail)
 go_end0
 obtain ⟨r1,r2⟩:=crep_turned (l:=[]) HG.out h5 hown2 hturn2.grown rfl (fun y hy0 hy1=>by simp [Maps.has]) (by simp) (by simp);exact ⟨rfl,r1,r2⟩
end
end Go.Proofs.YtcekcoepdhnfgaaGreatDoor
