/- Packets, notes, items. -/
import Derived.Test.YtcekcoepdhnfgaaGreatDoorOpen
import Derived.Test.YtcekcoepdhnfgaaGreatDoorSubZ
namespace Go.Proofs.YtcekcoepdhnfgaaGreatDoor
section
open Go Go.ChangeShapes Go.WideShapes Go.ChangeAt Go.RowKit Go.WideMaps Go.WideElems Go.Joins
def FlatW (P:Program) (w:World) (e:TypeId) {α:Type} (mk:α->List Value) (ok:α->Prop):Prop:=
 ∀ (H:Type) (enc:TypeId × Value->H) (base:Nat) (sp:Nat->Bool) (held:Bool) (fuel:Nat) (cs:List Value) (x:DataW H × List MemPlace),
  DataW.trod enc P w base sp held fuel e cs=some x -> ∃ a,cs=mk a/\ok a
theorem len_succ {α:Type} {l:List α} {n:Nat} (h:l.length=n+1):∃ a r,l=a :: r/\r.length=n:=by
 cases l with
 | nil=>simp at h
 | cons a r=>exact ⟨a,r,rfl,by simpa using h⟩
section
variable {H:Type} {enc:TypeId × Value->H} {P:Program}
theorem trod_field {t:TypeId} {fs:Array Field} {w:World} {base:Nat} {sp:Nat->Bool} {held:Bool} {fuel:Nat} {cs:List Value} {x:DataW H × List MemPlace} (ht:P.underlying t=some (.struct fs)) (h:DataW.trod enc P w base sp held fuel t cs=some x) :
  ∃ n,cs.length=P.cellsOf t /\ ∀ (i:Nat) (f:Field),fs[i]? = some f -> ∃ y,DataW.trod enc P w base sp held n f.type ((cs.drop f.offset).take (P.cellsOf f.type))=some y:=by
 obtain ⟨xs,n,-,-,hl,hs,hf⟩:=DataW.trod_struct ht h;refine ⟨n,hl,fun i f hi => ?_⟩;have h1:=hf i f hi;have h2:i < xs.length:=by rw [hs];exact (Array.getElem?_eq_some_iff.1 hi).1
 exact ⟨_,h1.trans (List.getElem?_eq_getElem h2)⟩
theorem open_sliceW {α:Type} {mk:α->List Value} {ok:α->Prop} {t e:TypeId} {W:World} {base:Nat} {sp:Nat->Bool} {held:Bool} {fuel:Nat} {cs:List Value} {x:DataW H × List MemPlace}
  (ht:P.underlying t=some (.slice e)) (hf:FlatW P W e mk ok) (hlen:∀ a,(mk a).length=P.cellsOf e) (hpos:0 < P.cellsOf e) (h:DataW.trod enc P W base sp held fuel t cs=some x) :
  ∃ a cap,∃ l:List α,cs = [.slice a l.length cap]/\Row W a (l.flatMap mk)/\l.length<=cap/\cap<=maxLen /\ ∀ x ∈ l,ok x:=by
 rcases Go.Deep.open_slice ht h with ⟨hcs,-⟩ | ⟨ad,len,cap,m,n,D,Pl,rfl,-,hl,hm,hmm,-,hi⟩
 ·exact ⟨none,0,[],hcs,.inl rfl,by simp,by simp,by simp⟩
 ·have hml:len<=m:=by rw [hmm];split <;> omega
  have hall:∀ i,i < len -> ∃ x:α,ok x /\ ∀ j,j < P.cellsOf e->W.cell? (ad.add (i * P.cellsOf e+j))=(mk x)[j]?:=by
   intro i him;obtain ⟨cs',hc,htr⟩:=hi i (by omega);obtain ⟨x,rfl,hok⟩:=hf _ _ _ _ _ _ _ _ htr;obtain ⟨_,hcl,hat⟩:=World.cells?_some hc;exact ⟨x,hok,fun j hj=>by rw [<- Go.Deep.add_add];exact hat j hj⟩
  rcases Nat.eq_zero_or_pos len with h0 | h0
  ·subst h0;exact ⟨some ad,cap,[],rfl,.inl rfl,by simp,hm,by simp⟩
  ·obtain ⟨x0,hx0,hc0⟩:=hall 0 h0
   have hs:ad.spot=none:=by
    have h1:=hc0 0 hpos;rw [List.getElem?_eq_getElem (by rw [hlen];exact hpos)] at h1;rw [show ad.add (0 * P.cellsOf e+0)=ad.add 0 from by simp,show ad.add 0=ad from rfl] at h1;unfold World.cell? at h1
    cases hq:ad.spot with
    | none=>rfl
    | some x=>rw [hq] at h1;split at h1 <;> simp at h1
   haveI:Inhabited α:=⟨x0⟩
   obtain ⟨f,hfx⟩:=Go.Deep.choose_lt hall;refine ⟨some ad,cap,(List.range len).map f,by simp,.inr ⟨ad.block,ad.off,by rw [<- hs],fun j u hj => ?_⟩,by simpa using hl,hm,?_⟩
   ·have hjl:j < len * P.cellsOf e:=by
     have:=(List.getElem?_eq_some_iff.1 hj).1;rw [flatMap_len hlen] at this
     simpa using this
    have hr:j % P.cellsOf e < P.cellsOf e:=Nat.mod_lt _ hpos;have hd:j / P.cellsOf e < len:=Nat.div_lt_of_lt_mul (by rw [Nat.mul_comm];exact hjl);have hjj:j / P.cellsOf e * P.cellsOf e+j % P.cellsOf e=j:=by rw [Nat.mul_comm];exact Nat.div_add_mod j _
    have h1:=(hfx _ hd).2 _ hr;rw [hjj] at h1;have e1:ad.add j=⟨ad.block,ad.off+j,none⟩:=by unfold Addr.add;split <;> simp_all <;> (cases ad;simp_all)
    rw [e1] at h1;rw [h1,<- hj,<- hjj,flatMap_at hlen _ _ _ hr,hjj];simp [hd]
   ·intro x hx
    obtain ⟨i,hi',rfl⟩:=List.mem_map.1 hx;exact (hfx i (by simpa using hi')).1
theorem open_listW {α:Type} {mk:α->List Value} {ok:α->Prop} {r:Reach} {b0:Nat} {t e:TypeId} {W:World} {v:Value} {d:DataW H} {ps:List MemPlace} {base:Nat} {sp:Nat->Bool} {held:Bool}
  (ht:P.underlying t=some (.slice e)) (hf:FlatW P W e mk ok) (hlen:∀ a,(mk a).length=P.cellsOf e) (hpos:0 < P.cellsOf e)
  (hval:Value.okWide P W r b0 t v) (h:DataW.Trod enc P W base sp held t v d ps) :
  ∃ a cap,∃ l:List α,v = .slice a l.length cap/\Row W a (l.flatMap mk)/\l.length<=cap/\cap<=maxLen /\ ∀ x ∈ l,ok x:=by
 obtain ⟨a,len,cap,rfl⟩:=okWide_slice ht hval;obtain ⟨fuel,hfu⟩:=h;obtain ⟨a',cap',l,e1,h1⟩:=open_sliceW ht hf hlen hpos hfu;simp only [Value.cells,List.cons.injEq,and_true] at e1;exact ⟨a',cap',l,e1,h1⟩
end
def Msg.ok (m:Msg):Prop:=m.t.size<=maxLen/\m.p.size<=maxLen/\0<=m.q/\m.q<=255
theorem msg_len' (m:Msg):m.cells.length = Tryz.prog.cellsOf 36:=show (4:Nat) = Tryz.prog.cellsOf 36 by kernel_rfl
theorem msg_pos:0 < Tryz.prog.cellsOf 36:=by rw [show Tryz.prog.cellsOf 36 = 4 by kernel_rfl];decide
set_option maxRecDepth 100000
theorem flat_msg (W:World):FlatW Tryz.prog W 36 Msg.cells Msg.ok:=by
 intro H enc base sp held fuel cs x h;obtain ⟨n,hl,hf⟩:=trod_field Tryz.underlying36 h;rw [show Tryz.prog.cellsOf 36 = 4 by kernel_rfl] at hl;obtain ⟨c0,r0,rfl,hl0⟩:=len_succ hl;obtain ⟨c1,r1,rfl,hl1⟩:=len_succ hl0;obtain ⟨c2,r2,rfl,hl2⟩:=len_succ hl1;obtain ⟨c3,r3,rfl,hl3⟩:=len_succ hl2;obtain rfl:=List.eq_nil_of_length_eq_zero hl3;have z0:Tryz.prog.cellsOf 9 = 1:=by kernel_rfl
 have z1:Tryz.prog.cellsOf 5 = 1:=by kernel_rfl
 have z2:Tryz.prog.cellsOf 4 = 1:=by kernel_rfl
 obtain ⟨y0,h0⟩:=hf 0 _ rfl;obtain ⟨y1,h1⟩:=hf 1 _ rfl;obtain ⟨y2,h2⟩:=hf 2 _ rfl;obtain ⟨y3,h3⟩:=hf 3 _ rfl;simp only [z0,z1,z2,List.getElem_toArray,List.getElem_cons_zero,List.getElem_cons_succ,List.drop_zero,List.drop_succ_cons,List.take_succ_cons,List.take_zero] at h0 h1 h2 h3;obtain ⟨v0,e0,-,b0⟩:=DataW.trod_string Tryz.underlying9 h0;obtain ⟨v1,e1,-,b1⟩:=DataW.trod_string Tryz.underlying9 h1;obtain ⟨v2,e2,-,w2⟩:=DataW.trod_int Tryz.underlying5 h2;obtain ⟨v3,e3,-⟩:=DataW.trod_bool Tryz.underlying4 h3;simp only [List.cons.injEq,and_true] at e0 e1 e2 e3;subst e0 e1 e2 e3;have b2:0<=v2/\v2<=255:=by simpa [Lit.wf,IntKind.min,IntKind.max,IntKind.signed,IntKind.bits] using w2
 exact ⟨⟨v0,v1,v2,v3⟩,rfl,b0,b1,b2⟩
theorem sub_len' (m:SubE):(subCells m).length = Tryz.prog.cellsOf 76:=show (2:Nat) = Tryz.prog.cellsOf 76 by kernel_rfl
theorem sub_pos:0 < Tryz.prog.cellsOf 76:=by rw [show Tryz.prog.cellsOf 76 = 2 by kernel_rfl];decide
theorem flat_subE (W:World):FlatW Tryz.prog W 76 subCells (fun y=>0<=y.2/\y.2<=255):=by
 intro H enc base sp held fuel cs x h;obtain ⟨n,hl,hf⟩:=trod_field Tryz.underlying76 h;rw [show Tryz.prog.cellsOf 76 = 2 by kernel_rfl] at hl;obtain ⟨c0,r0,rfl,hl0⟩:=len_succ hl;obtain ⟨c1,r1,rfl,hl1⟩:=len_succ hl0;obtain rfl:=List.eq_nil_of_length_eq_zero hl1;have z0:Tryz.prog.cellsOf 9 = 1:=by kernel_rfl
 have z1:Tryz.prog.cellsOf 5 = 1:=by kernel_rfl
 obtain ⟨y0,h0⟩:=hf 0 _ rfl;obtain ⟨y1,h1⟩:=hf 1 _ rfl;simp only [z0,z1,List.getElem_toArray,List.getElem_cons_zero,List.getElem_cons_succ,List.drop_zero,List.drop_succ_cons,List.take_succ_cons,List.take_zero] at h0 h1;obtain ⟨v0,e0,-,b0⟩:=DataW.trod_string Tryz.underlying9 h0;obtain ⟨v1,e1,-,w1⟩:=DataW.trod_int Tryz.underlying5 h1;simp only [List.cons.injEq,and_true] at e0 e1;subst e0 e1;have b1:0<=v1/\v1<=255:=by simpa [Lit.wf,IntKind.min,IntKind.max,IntKind.signed,IntKind.bits] using w1
 exact ⟨(v0.data.toList,v1),by simp [subCells],b1⟩
structure Pkt where
 ty:Int
 dup:Bool
 qos:Int
 retain:Bool
 id:Int
 topic:ByteArray
 payload:ByteArray
 level:Int
 clean:Bool
 keep:Int
 client:ByteArray
 hasWill:Bool
 will:Msg
 hasUser:Bool
 hasPass:Bool
 user:ByteArray
 pass:ByteArray
 present:Bool
 code:Int
 subsA:Option Addr
 subsC:Nat
 subs:List SubE
 codes:ByteArray
def Pkt.cells (x:Pkt):List Value:=[.int .u8 x.ty,.bool x.dup,.int .u8 x.qos,.bool x.retain,.int .u16 x.id,.string x.topic,.string x.payload,.int .u8 x.level,.bool x.clean,.int .u16 x.keep,.string x.client,.bool x.hasWill]++(x.will.cells++([.bool x.hasUser,.bool x.hasPass,.string x.user,.string x.pass,.bool x.present,.int .u8 x.code,.slice x.subsA x.subs.length x.subsC,.string x.codes]))
def Pkt.ok (W:World) (x:Pkt):Prop:=(0<=x.ty/\x.ty<=255)/\(0<=x.qos/\x.qos<=255)/\(0<=x.id/\x.id<=65535)/\x.topic.size<=maxLen/\x.payload.size<=maxLen/\(0<=x.level/\x.level<=255)/\(0<=x.keep/\x.keep<=65535)/\x.client.size<=maxLen/\x.will.ok/\x.user.size<=maxLen/\x.pass.size<=maxLen/\(0<=x.code/\x.code<=255)/\(Row W x.subsA (subsV x.subs)/\x.subs.length<=x.subsC/\x.subsC<=maxLen /\ ∀ y ∈ x.subs,0<=y.2/\y.2<=255)/\x.codes.size<=maxLen
theorem pkt_len (x:Pkt):x.cells.length=24:=rfl
theorem pkt_len' (x:Pkt):x.cells.length = Tryz.prog.cellsOf 39:=(pkt_len x).trans (show (24:Nat) = Tryz.prog.cellsOf 39 by kernel_rfl)
theorem pkt_pos:0 < Tryz.prog.cellsOf 39:=by rw [show Tryz.prog.cellsOf 39 = 24 by kernel_rfl];decide
set_option maxHeartbeats 1000000
theorem flat_pkt (W:World):FlatW Tryz.prog W 39 Pkt.cells (Pkt.ok W):=by
 intro H enc base sp held fuel cs x h;obtain ⟨n,hl,hf⟩:=trod_field Tryz.underlying39 h;rw [show Tryz.prog.cellsOf 39 = 24 by kernel_rfl] at hl;obtain ⟨c0,r0,rfl,hl0⟩:=len_succ hl;obtain ⟨c1,r1,rfl,hl1⟩:=len_succ hl0;obtain ⟨c2,r2,rfl,hl2⟩:=len_succ hl1;obtain ⟨c3,r3,rfl,hl3⟩:=len_succ hl2;obtain ⟨c4,r4,rfl,hl4⟩:=len_succ hl3;obtain ⟨c5,r5,rfl,hl5⟩:=len_succ hl4;obtain ⟨c6,r6,rfl,hl6⟩:=len_succ hl5;obtain ⟨c7,r7,rfl,hl7⟩:=len_succ hl6;obtain ⟨c8,r8,rfl,hl8⟩:=len_succ hl7;obtain ⟨c9,r9,rfl,hl9⟩:=len_succ hl8;obtain ⟨c10,r10,rfl,hl10⟩:=len_succ hl9;obtain ⟨c11,r11,rfl,hl11⟩:=len_succ hl10;obtain ⟨c12,r12,rfl,hl12⟩:=len_succ hl11;obtain ⟨c13,r13,rfl,hl13⟩:=len_succ hl12;obtain ⟨c14,r14,rfl,hl14⟩:=len_succ hl13;obtain ⟨c15,r15,rfl,hl15⟩:=len_succ hl14;obtain ⟨c16,r16,rfl,hl16⟩:=len_succ hl15;obtain ⟨c17,r17,rfl,hl17⟩:=len_succ hl16;obtain ⟨c18,r18,rfl,hl18⟩:=len_succ hl17;obtain ⟨c19,r19,rfl,hl19⟩:=len_succ hl18;obtain ⟨c20,r20,rfl,hl20⟩:=len_succ hl19;obtain ⟨c21,r21,rfl,hl21⟩:=len_succ hl20;obtain ⟨c22,r22,rfl,hl22⟩:=len_succ hl21;obtain ⟨c23,r23,rfl,hl23⟩:=len_succ hl22;obtain rfl:=List.eq_nil_of_length_eq_zero hl23;have z0:Tryz.prog.cellsOf 37 = 1:=by kernel_rfl
 have z1:Tryz.prog.cellsOf 4 = 1:=by kernel_rfl
 have z2:Tryz.prog.cellsOf 36 = 4:=by kernel_rfl
 have z3:Tryz.prog.cellsOf 9 = 1:=by kernel_rfl
 have z4:Tryz.prog.cellsOf 34 = 1:=by kernel_rfl
 have z5:Tryz.prog.cellsOf 5 = 1:=by kernel_rfl
 obtain ⟨y0,h0⟩:=hf 0 _ rfl;obtain ⟨y1,h1⟩:=hf 1 _ rfl;obtain ⟨y2,h2⟩:=hf 2 _ rfl;obtain ⟨y3,h3⟩:=hf 3 _ rfl;obtain ⟨y4,h4⟩:=hf 4 _ rfl;obtain ⟨y5,h5⟩:=hf 5 _ rfl;obtain ⟨y6,h6⟩:=hf 6 _ rfl;obtain ⟨y7,h7⟩:=hf 7 _ rfl;obtain ⟨y8,h8⟩:=hf 8 _ rfl;obtain ⟨y9,h9⟩:=hf 9 _ rfl;obtain ⟨y10,h10⟩:=hf 10 _ rfl;obtain ⟨y11,h11⟩:=hf 11 _ rfl;obtain ⟨y12,h12⟩:=hf 12 _ rfl;obtain ⟨y13,h13⟩:=hf 13 _ rfl;obtain ⟨y14,h14⟩:=hf 14 _ rfl;obtain ⟨y15,h15⟩:=hf 15 _ rfl;obtain ⟨y16,h16⟩:=hf 16 _ rfl;obtain ⟨y17,h17⟩:=hf 17 _ rfl;obtain ⟨y18,h18⟩:=hf 18 _ rfl;obtain ⟨y19,h19⟩:=hf 19 _ rfl;obtain ⟨y20,h20⟩:=hf 20 _ rfl;simp only [z0,z1,z2,z3,z4,z5,List.getElem_toArray,List.getElem_cons_zero,List.getElem_cons_succ,List.drop_zero,List.drop_succ_cons,List.take_succ_cons,List.take_zero] at h0 h1 h2 h3 h4 h5 h6 h7 h8 h9 h10 h11 h12 h13 h14 h15 h16 h17 h18 h19 h20;clear hf h;obtain ⟨v0,e0,-,w0⟩:=DataW.trod_int Tryz.underlying5 h0;simp only [List.cons.injEq,and_true] at e0;subst e0;have b0:0<=v0/\v0<=255:=by simpa [Lit.wf,IntKind.min,IntKind.max,IntKind.signed,IntKind.bits] using w0
 obtain ⟨v1,e1,-⟩:=DataW.trod_bool Tryz.underlying4 h1;simp only [List.cons.injEq,and_true] at e1;subst e1;obtain ⟨v2,e2,-,w2⟩:=DataW.trod_int Tryz.underlying5 h2;simp only [List.cons.injEq,and_true] at e2;subst e2;have b2:0<=v2/\v2<=255:=by simpa [Lit.wf,IntKind.min,IntKind.max,IntKind.signed,IntKind.bits] using w2
 obtain ⟨v3,e3,-⟩:=DataW.trod_bool Tryz.underlying4 h3;simp only [List.cons.injEq,and_true] at e3;subst e3;obtain ⟨v4,e4,-,w4⟩:=DataW.trod_int Tryz.underlying34 h4;simp only [List.cons.injEq,and_true] at e4;subst e4;have b4:0<=v4/\v4<=65535:=by simpa [Lit.wf,IntKind.min,IntKind.max,IntKind.signed,IntKind.bits] using w4
 obtain ⟨v5,e5,-,b5⟩:=DataW.trod_string Tryz.underlying9 h5;simp only [List.cons.injEq,and_true] at e5;subst e5;obtain ⟨v6,e6,-,b6⟩:=DataW.trod_string Tryz.underlying9 h6;simp only [List.cons.injEq,and_true] at e6;subst e6;obtain ⟨v7,e7,-,w7⟩:=DataW.trod_int Tryz.underlying5 h7;simp only [List.cons.injEq,and_true] at e7;subst e7;have b7:0<=v7/\v7<=255:=by simpa [Lit.wf,IntKind.min,IntKind.max,IntKind.signed,IntKind.bits] using w7
 obtain ⟨v8,e8,-⟩:=DataW.trod_bool Tryz.underlying4 h8;simp only [List.cons.injEq,and_true] at e8;subst e8;obtain ⟨v9,e9,-,w9⟩:=DataW.trod_int Tryz.underlying34 h9;simp only [List.cons.injEq,and_true] at e9;subst e9;have b9:0<=v9/\v9<=65535:=by simpa [Lit.wf,IntKind.min,IntKind.max,IntKind.signed,IntKind.bits] using w9
 obtain ⟨v10,e10,-,b10⟩:=DataW.trod_string Tryz.underlying9 h10;simp only [List.cons.injEq,and_true] at e10;subst e10;obtain ⟨v11,e11,-⟩:=DataW.trod_bool Tryz.underlying4 h11;simp only [List.cons.injEq,and_true] at e11;subst e11;obtain ⟨v12,e12,b12⟩:=flat_msg W _ _ _ _ _ _ _ _ h12;simp only [Msg.cells,List.cons.injEq,and_true] at e12;obtain ⟨rfl,rfl,rfl,rfl⟩:=e12;obtain ⟨v13,e13,-⟩:=DataW.trod_bool Tryz.underlying4 h13;simp only [List.cons.injEq,and_true] at e13;subst e13;obtain ⟨v14,e14,-⟩:=DataW.trod_bool Tryz.underlying4 h14;simp only [List.cons.injEq,and_true] at e14;subst e14;obtain ⟨v15,e15,-,b15⟩:=DataW.trod_string Tryz.underlying9 h15;simp only [List.cons.injEq,and_true] at e15;subst e15;obtain ⟨v16,e16,-,b16⟩:=DataW.trod_string Tryz.underlying9 h16;simp only [List.cons.injEq,and_true] at e16;subst e16;obtain ⟨v17,e17,-⟩:=DataW.trod_bool Tryz.underlying4 h17;simp only [List.cons.injEq,and_true] at e17;subst e17;obtain ⟨v18,e18,-,w18⟩:=DataW.trod_int Tryz.underlying5 h18;simp only [List.cons.injEq,and_true] at e18;subst e18;have b18:0<=v18/\v18<=255:=by simpa [Lit.wf,IntKind.min,IntKind.max,IntKind.signed,IntKind.bits] using w18
 obtain ⟨a19,k19,l19,e19,b19⟩:=open_sliceW Tryz.underlying37 (flat_subE W) sub_len' sub_pos h19;simp only [List.cons.injEq,and_true] at e19;subst e19;obtain ⟨v20,e20,-,b20⟩:=DataW.trod_string Tryz.underlying9 h20;simp only [List.cons.injEq,and_true] at e20;subst e20;exact ⟨⟨v0,v1,v2,v3,v4,v5,v6,v7,v8,v9,v10,v11,v12,v13,v14,v15,v16,v17,v18,a19,k19,l19,v20⟩,rfl,b0,b2,b4,b5,b6,b7,b9,b10,b12,b15,b16,b18,b19,b20⟩
end
section
open Go Go.ChangeShapes Go.WideShapes Go.ChangeAt Go.RowKit Go.WideMaps Go.WideElems Go.Joins
structure Note where
 kind:Int
 op:Int
 conn:Int
 client:ByteArray
 pk:Pkt
 msg:Msg
 codes:ByteArray
 present:Bool
 qos:Int
def Note.cells (x:Note):List Value:=[.int .u8 x.kind,.int .i64 x.op,.int .i64 x.conn,.string x.client]++(x.pk.cells++(x.msg.cells++([.string x.codes,.bool x.present,.int .u8 x.qos])))
def Note.ok (W:World) (x:Note):Prop:=(0<=x.kind/\x.kind<=255)/\(-9223372036854775808<=x.op/\x.op<=9223372036854775807)/\(-9223372036854775808<=x.conn/\x.conn<=9223372036854775807)/\x.client.size<=maxLen/\x.pk.ok W/\x.msg.ok/\x.codes.size<=maxLen/\(0<=x.qos/\x.qos<=255)
end
section
open Go Go.ChangeShapes Go.WideShapes Go.ChangeAt Go.RowKit Go.WideMaps Go.WideElems Go.Joins
def strCells (s:ByteArray):List Value:=[.string s]
theorem str_len' (s:ByteArray):(strCells s).length = Tryz.prog.cellsOf 9:=show (1:Nat) = Tryz.prog.cellsOf 9 by kernel_rfl
theorem str_pos:0 < Tryz.prog.cellsOf 9:=by rw [show Tryz.prog.cellsOf 9 = 1 by kernel_rfl];decide
theorem flat_strE (W:World):FlatW Tryz.prog W 9 strCells (fun s=>s.size<=maxLen):=by
 intro H enc base sp held fuel cs x h;obtain ⟨v,e,-,b⟩:=DataW.trod_string Tryz.underlying9 h;exact ⟨v,e,b⟩
structure Item where
 kind:Int
 op:Int
 conn:Int
 client:ByteArray
 filter:ByteArray
 pk:Pkt
 msg:Msg
 msA:Option Addr
 msC:Nat
 ms:List Msg
 clsA:Option Addr
 clsC:Nat
 cls:List ByteArray
 pksA:Option Addr
 pksC:Nat
 pks:List Pkt
 frm:Int
 many:Int
def Item.cells (x:Item):List Value:=[.int .u8 x.kind,.int .i64 x.op,.int .i64 x.conn,.string x.client,.string x.filter]++(x.pk.cells++(x.msg.cells++([.slice x.msA x.ms.length x.msC,.slice x.clsA x.cls.length x.clsC,.slice x.pksA x.pks.length x.pksC,.int .i64 x.frm,.int .i64 x.many])))
def Item.ok (W:World) (x:Item):Prop:=(0<=x.kind/\x.kind<=255)/\(-9223372036854775808<=x.op/\x.op<=9223372036854775807)/\(-9223372036854775808<=x.conn/\x.conn<=9223372036854775807)/\x.client.size<=maxLen/\x.filter.size<=maxLen/\x.pk.ok W/\x.msg.ok/\(Row W x.msA (msgs x.ms)/\x.ms.length<=x.msC/\x.msC<=maxLen /\ ∀ y ∈ x.ms,y.ok)/\(Row W x.clsA (x.cls.flatMap strCells)/\x.cls.length<=x.clsC/\x.clsC<=maxLen /\ ∀ y ∈ x.cls,y.size<=maxLen)/\(Row W x.pksA (x.pks.flatMap Pkt.cells)/\x.pks.length<=x.pksC/\x.pksC<=maxLen /\ ∀ y ∈ x.pks,y.ok W)/\(-9223372036854775808<=x.frm/\x.frm<=9223372036854775807)/\(-9223372036854775808<=x.many/\x.many<=9223372036854775807)
theorem item_len (x:Item):x.cells.length=38:=rfl
theorem item_len' (x:Item):x.cells.length = Tryz.prog.cellsOf 44:=(item_len x).trans (show (38:Nat) = Tryz.prog.cellsOf 44 by kernel_rfl)
theorem item_pos:0 < Tryz.prog.cellsOf 44:=by rw [show Tryz.prog.cellsOf 44 = 38 by kernel_rfl];decide
set_option maxRecDepth 100000
set_option maxHeartbeats 1000000
theorem flat_item (W:World):FlatW Tryz.prog W 44 Item.cells (Item.ok W):=by
 intro H enc base sp held fuel cs x h;obtain ⟨n,hl,hf⟩:=trod_field Tryz.underlying44 h;rw [show Tryz.prog.cellsOf 44 = 38 by kernel_rfl] at hl;obtain ⟨c0,r0,rfl,hl0⟩:=len_succ hl;obtain ⟨c1,r1,rfl,hl1⟩:=len_succ hl0;obtain ⟨c2,r2,rfl,hl2⟩:=len_succ hl1;obtain ⟨c3,r3,rfl,hl3⟩:=len_succ hl2;obtain ⟨c4,r4,rfl,hl4⟩:=len_succ hl3;obtain ⟨c5,r5,rfl,hl5⟩:=len_succ hl4;obtain ⟨c6,r6,rfl,hl6⟩:=len_succ hl5;obtain ⟨c7,r7,rfl,hl7⟩:=len_succ hl6;obtain ⟨c8,r8,rfl,hl8⟩:=len_succ hl7;obtain ⟨c9,r9,rfl,hl9⟩:=len_succ hl8;obtain ⟨c10,r10,rfl,hl10⟩:=len_succ hl9;obtain ⟨c11,r11,rfl,hl11⟩:=len_succ hl10;obtain ⟨c12,r12,rfl,hl12⟩:=len_succ hl11;obtain ⟨c13,r13,rfl,hl13⟩:=len_succ hl12;obtain ⟨c14,r14,rfl,hl14⟩:=len_succ hl13;obtain ⟨c15,r15,rfl,hl15⟩:=len_succ hl14;obtain ⟨c16,r16,rfl,hl16⟩:=len_succ hl15;obtain ⟨c17,r17,rfl,hl17⟩:=len_succ hl16;obtain ⟨c18,r18,rfl,hl18⟩:=len_succ hl17;obtain ⟨c19,r19,rfl,hl19⟩:=len_succ hl18;obtain ⟨c20,r20,rfl,hl20⟩:=len_succ hl19;obtain ⟨c21,r21,rfl,hl21⟩:=len_succ hl20;obtain ⟨c22,r22,rfl,hl22⟩:=len_succ hl21;obtain ⟨c23,r23,rfl,hl23⟩:=len_succ hl22;obtain ⟨c24,r24,rfl,hl24⟩:=len_succ hl23;obtain ⟨c25,r25,rfl,hl25⟩:=len_succ hl24;obtain ⟨c26,r26,rfl,hl26⟩:=len_succ hl25;obtain ⟨c27,r27,rfl,hl27⟩:=len_succ hl26;obtain ⟨c28,r28,rfl,hl28⟩:=len_succ hl27;obtain ⟨c29,r29,rfl,hl29⟩:=len_succ hl28
 obtain ⟨c30,r30,rfl,hl30⟩:=len_succ hl29;obtain ⟨c31,r31,rfl,hl31⟩:=len_succ hl30;obtain ⟨c32,r32,rfl,hl32⟩:=len_succ hl31;obtain ⟨c33,r33,rfl,hl33⟩:=len_succ hl32;obtain ⟨c34,r34,rfl,hl34⟩:=len_succ hl33;obtain ⟨c35,r35,rfl,hl35⟩:=len_succ hl34;obtain ⟨c36,r36,rfl,hl36⟩:=len_succ hl35;obtain ⟨c37,r37,rfl,hl37⟩:=len_succ hl36;obtain rfl:=List.eq_nil_of_length_eq_zero hl37;have z0:Tryz.prog.cellsOf 40 = 1:=by kernel_rfl
 have z1:Tryz.prog.cellsOf 42 = 1:=by kernel_rfl
 have z2:Tryz.prog.cellsOf 41 = 1:=by kernel_rfl
 have z3:Tryz.prog.cellsOf 3 = 1:=by kernel_rfl
 have z4:Tryz.prog.cellsOf 36 = 4:=by kernel_rfl
 have z5:Tryz.prog.cellsOf 39 = 24:=by kernel_rfl
 have z6:Tryz.prog.cellsOf 9 = 1:=by kernel_rfl
 have z7:Tryz.prog.cellsOf 5 = 1:=by kernel_rfl
 obtain ⟨y0,h0⟩:=hf 0 _ rfl;obtain ⟨y1,h1⟩:=hf 1 _ rfl;obtain ⟨y2,h2⟩:=hf 2 _ rfl;obtain ⟨y3,h3⟩:=hf 3 _ rfl;obtain ⟨y4,h4⟩:=hf 4 _ rfl;obtain ⟨y5,h5⟩:=hf 5 _ rfl;obtain ⟨y6,h6⟩:=hf 6 _ rfl;obtain ⟨y7,h7⟩:=hf 7 _ rfl;obtain ⟨y8,h8⟩:=hf 8 _ rfl;obtain ⟨y9,h9⟩:=hf 9 _ rfl;obtain ⟨y10,h10⟩:=hf 10 _ rfl;obtain ⟨y11,h11⟩:=hf 11 _ rfl;simp only [z0,z1,z2,z3,z4,z5,z6,z7,List.getElem_toArray,List.getElem_cons_zero,List.getElem_cons_succ,List.drop_zero,List.drop_succ_cons,List.take_succ_cons,List.take_zero] at h0 h1 h2 h3 h4 h5 h6 h7 h8 h9 h10 h11;clear hf h;obtain ⟨v0,e0,-,w0⟩:=DataW.trod_int Tryz.underlying5 h0;simp only [List.cons.injEq,and_true] at e0;subst e0;have b0:0<=v0/\v0<=255:=by simpa [Lit.wf,IntKind.min,IntKind.max,IntKind.signed,IntKind.bits] using w0
 obtain ⟨v1,e1,-,w1⟩:=DataW.trod_int Tryz.underlying3 h1;simp only [List.cons.injEq,and_true] at e1;subst e1;have b1:-9223372036854775808<=v1/\v1<=9223372036854775807:=by simpa [Lit.wf,IntKind.min,IntKind.max,IntKind.signed,IntKind.bits] using w1
 obtain ⟨v2,e2,-,w2⟩:=DataW.trod_int Tryz.underlying3 h2;simp only [List.cons.injEq,and_true] at e2;subst e2;have b2:-9223372036854775808<=v2/\v2<=9223372036854775807:=by simpa [Lit.wf,IntKind.min,IntKind.max,IntKind.signed,IntKind.bits] using w2
 obtain ⟨v3,e3,-,b3⟩:=DataW.trod_string Tryz.underlying9 h3;simp only [List.cons.injEq,and_true] at e3;subst e3;obtain ⟨v4,e4,-,b4⟩:=DataW.trod_string Tryz.underlying9 h4;simp only [List.cons.injEq,and_true] at e4;subst e4;obtain ⟨v5,e5,b5⟩:=flat_pkt W _ _ _ _ _ _ _ _ h5;simp only [Pkt.cells,Msg.cells,List.cons_append,List.nil_append,List.cons.injEq,and_true] at e5;obtain ⟨rfl,rfl,rfl,rfl,rfl,rfl,rfl,rfl,rfl,rfl,rfl,rfl,rfl,rfl,rfl,rfl,rfl,rfl,rfl,rfl,rfl,rfl,rfl,rfl⟩:=e5;obtain ⟨v6,e6,b6⟩:=flat_msg W _ _ _ _ _ _ _ _ h6;simp only [Msg.cells,List.cons.injEq,and_true] at e6;obtain ⟨rfl,rfl,rfl,rfl⟩:=e6;obtain ⟨a7,k7,l7,e7,b7⟩:=open_sliceW Tryz.underlying40 (flat_msg W) msg_len' msg_pos h7;simp only [List.cons.injEq,and_true] at e7;subst e7;obtain ⟨a8,k8,l8,e8,b8⟩:=open_sliceW Tryz.underlying41 (flat_strE W) str_len' str_pos h8;simp only [List.cons.injEq,and_true] at e8;subst e8;obtain ⟨a9,k9,l9,e9,b9⟩:=open_sliceW Tryz.underlying42 (flat_pkt W) pkt_len' pkt_pos h9;simp only [List.cons.injEq,and_true] at e9;subst e9;obtain ⟨v10,e10,-,w10⟩:=DataW.trod_int Tryz.underlying3 h10;simp only [List.cons.injEq,and_true] at e10;subst e10;have b10:-9223372036854775808<=v10/\v10<=9223372036854775807:=by simpa [Lit.wf,IntKind.min,IntKind.max,IntKind.signed,IntKind.bits] using w10
 obtain ⟨v11,e11,-,w11⟩:=DataW.trod_int Tryz.underlying3 h11;simp only [List.cons.injEq,and_true] at e11;subst e11;have b11:-9223372036854775808<=v11/\v11<=9223372036854775807:=by simpa [Lit.wf,IntKind.min,IntKind.max,IntKind.signed,IntKind.bits] using w11
 exact ⟨⟨v0,v1,v2,v3,v4,v5,v6,a7,k7,l7,a8,k8,l8,a9,k9,l9,v10,v11⟩,rfl,b0,b1,b2,b3,b4,b5,b6,b7,b8,b9,b10,b11⟩
end
end Go.Proofs.YtcekcoepdhnfgaaGreatDoor
