/- Families of rows; hints. -/
import Derived.Test.YtcekcoepdhnfgaaGreatDoorMZ
import Derived.Test.YtcekcoepdhnfgaaGreatDoorProg
import Derived.Maps.OwnSet
import Derived.Maps.Ext
import Derived.Maps.RangeWalk
import Derived.Sort.KeysCollected
namespace Go.Proofs.YtcekcoepdhnfgaaGreatDoor
section
open Go Go.RowKit Go.Maps
abbrev Str:=List UInt8
structure Local {σ:Type} (R:World->Nat -> σ->List Nat->Prop):Prop where
 lt:∀ {w b s F},R w b s F -> ∀ k ∈ F,k < w.heap.size
 keep:∀ {w w' b s F},R w b s F->(∀ k ∈ F,w'.heap[k]? = w.heap[k]?)->R w' b s F
structure Fam {κ σ:Type} (R:World->Nat -> σ->List Nat->Prop) (w:World) (dom:κ->Option σ) (bl:κ->Nat × List Nat):Prop where
 rep:∀ c s,dom c=some s->R w (bl c).1 s (bl c).2
 inj:∀ c s c' s',dom c=some s->dom c'=some s' -> ∀ k,k ∈ (bl c).2->k ∈ (bl c').2->c=c'
def updF {κ α:Type} [DecidableEq κ] (f:κ -> α) (c:κ) (x:α):κ -> α:=fun d=>if d=c then x else f d
theorem updF_same {κ α:Type} [DecidableEq κ] {f:κ -> α} {c:κ} {x:α}:updF f c x c=x:=by simp [updF]
theorem updF_other {κ α:Type} [DecidableEq κ] {f:κ -> α} {c d:κ} {x:α} (h:d ≠ c):updF f c x d=f d:=by simp [updF,h]
section
variable {κ σ:Type} {R:World->Nat -> σ->List Nat->Prop} {w w':World} {dom:κ->Option σ} {bl:κ->Nat × List Nat}
variable [DecidableEq κ]
end
theorem owns_tightR {P:Program} {k:TypeId} {R:Value->Option (DataW Unit × List MemPlace)} {w:World} {b n:Nat} {D:DataW Unit} (h:w.ownsMap P k R b n D):w.ownsMap P k R b (Maps.size D) D:=by
 obtain ⟨es,clock,hb,F,hs,rfl⟩:=h;exact ⟨es,clock,hb,F,by simp [Maps.size,length_sorted],rfl⟩
theorem owns_block {P:Program} {k:TypeId} {R:Value->Option (DataW Unit × List MemPlace)} {w w':World} {b n:Nat} {D:DataW Unit} (h:w.ownsMap P k R b n D) (hb:w'.heap[b]? = w.heap[b]?):w'.ownsMap P k R b n D:=by
 obtain ⟨es,clock,h1,r⟩:=h;exact ⟨es,clock,hb.trans h1,r⟩
def ptrDat (b:Nat):DataW Unit:=.lit (.int .i64 b)
def nilDat:DataW Unit:=.lit (.bool false)
def ptrElem:Value->Option (DataW Unit × List MemPlace)
 | .pointer (some ⟨b,0,none⟩)=>some (ptrDat b,[])
 | .pointer none=>some (nilDat,[])
 | _=>none
def ptrV:Option Nat->Value
 | none => .pointer none
 | some b => .pointer (some ⟨b,0,none⟩)
theorem ptrElem_mk (b:Nat):ptrElem (.pointer (some ⟨b,0,none⟩))=some (ptrDat b,[]):=rfl
theorem ptrElem_inv {v:Value} {b:Nat} {ps:List MemPlace} (h:ptrElem v=some (ptrDat b,ps)):v = .pointer (some ⟨b,0,none⟩):=by
 unfold ptrElem at h
 split at h
 ·simp only [ptrDat,Option.some.injEq,Prod.mk.injEq,DataW.lit.injEq,Lit.int.injEq,true_and] at h
  rename_i b'
  have:b'=b:=by have:=h.1;omega
  rw [this]
 ·simp [ptrDat,nilDat] at h
 ·cases h
theorem ptrElem_nil {v:Value} {ps:List MemPlace} (h:ptrElem v=some (nilDat,ps)):v = .pointer none:=by
 unfold ptrElem at h
 split at h
 ·simp [ptrDat,nilDat] at h
 ·rfl
 ·cases h
theorem klS (x:List UInt8):WideAt.IsKeyLit (.string x):=trivial
theorem kS:Keyed Tryz.prog 9:=string_keyed Tryz.underlying9
theorem skey {s:ByteArray} (hs:s.size<=maxLen):keyOf Tryz.prog 9 (.string s)=some (.string s.data.toList):=WideMaps.keyOf_string_mk Tryz.underlying9 hs
def PMap (w:World) (m n:Nat) (f:List UInt8->Option Nat):Prop:=
 ∃ D,w.ownsMap Tryz.prog 9 ptrElem m (Maps.size D) D/\Maps.size D<=n /\ ∀ x,Maps.has D (.string x)=(f x).isSome /\ ∀ b,f x=some b -> ∀ z,D.atKey (.string x) z=ptrDat b
theorem PMap.lt {w:World} {m n:Nat} {f:List UInt8->Option Nat} (h:PMap w m n f):m < w.heap.size:=by
 obtain ⟨D,h1,-⟩:=h;exact h1.lt
theorem PMap.of {w w':World} {m n n':Nat} {f f':List UInt8->Option Nat} (h:PMap w m n f) (hb:w'.heap[m]? = w.heap[m]?) (hn:n<=n') (hf:∀ x,f' x=f x):PMap w' m n' f':=by
 obtain rfl:f'=f:=funext hf;obtain ⟨D,h1,h2,h3⟩:=h;exact ⟨D,owns_block h1 hb,Nat.le_trans h2 hn,h3⟩
theorem PMap.look {w:World} {m n:Nat} {f:List UInt8->Option Nat} (h:PMap w m n f) {T E:TypeId} (hu:Tryz.prog.underlying T=some (.map 9 E)) (hz:∀ w,(zeroValue E).run Tryz.prog w = .ok (.pointer none) w) {s:ByteArray} (hs:s.size<=maxLen) :
  (Instr.lookup T (.map (some m)) (.string s) false).run Tryz.prog w = .ok (ptrV (f s.data.toList)) w:=by
 obtain ⟨D,h1,-,h3⟩:=h;obtain ⟨v,ps,hrun,hv⟩:=h1.lookup kS hu (hz w) (zd:=nilDat) (zp:=[]) rfl (skey hs);obtain ⟨h4,h5⟩:=h3 s.data.toList;rw [hrun]
 cases hf:f s.data.toList with
 | none =>
  rw [hf] at h4;rw [atKey_of_not_has h4] at hv;rw [ptrElem_nil hv];rfl
 | some b =>
  rw [h5 b hf] at hv;rw [ptrElem_inv hv];rfl
theorem PMap.put {w w2:World} {m n n' b:Nat} {f:List UInt8->Option Nat} {D:DataW Unit} {x:List UInt8} (hD1:w.ownsMap Tryz.prog 9 ptrElem m (Maps.size D) D) (hD2:Maps.size D<=n) (hD3:∀ x,Maps.has D (.string x)=(f x).isSome /\ ∀ b,f x=some b -> ∀ z,D.atKey (.string x) z=ptrDat b)
  (hown2:w2.ownsMap Tryz.prog 9 ptrElem m n' (D.put (.string x) (ptrDat b))):PMap w2 m (n+1) (updF f x (some b)):=by
 have hT:=hD1.tidy kS;refine ⟨_,owns_tightR hown2,?_,fun y => ?_⟩
 ·rw [size_put hT]
  split <;> omega
 ·by_cases e:y=x
  ·subst e
   refine ⟨by rw [has_put_same hT.isMap (klS _),updF_same];rfl,fun b' hb z => ?_⟩;rw [updF_same] at hb;rw [atKey_put_same hT.isMap (klS _),Option.some.inj hb]
  ·refine ⟨by rw [has_put_other (by simpa using e),updF_other e];exact (hD3 y).1,fun b' hb z => ?_⟩
   rw [updF_other e] at hb;rw [atKey_put_other (by simpa using e)];exact (hD3 y).2 b' hb z
theorem PMap.del {w w2:World} {m n n':Nat} {f:List UInt8->Option Nat} {D:DataW Unit} {x:List UInt8} (hD1:w.ownsMap Tryz.prog 9 ptrElem m (Maps.size D) D) (hD2:Maps.size D<=n) (hD3:∀ x,Maps.has D (.string x)=(f x).isSome /\ ∀ b,f x=some b -> ∀ z,D.atKey (.string x) z=ptrDat b)
  (hown2:w2.ownsMap Tryz.prog 9 ptrElem m n' (D.del (.string x))):PMap w2 m n (updF f x none):=by
 have hT:=hD1.tidy kS;refine ⟨_,owns_tightR hown2,?_,fun y => ?_⟩
 ·have:=size_del (k:=.string x) hT
  omega
 ·by_cases e:y=x
  ·subst e
   refine ⟨by rw [has_del_same,updF_same];rfl,fun b' hb z => ?_⟩;rw [updF_same] at hb
   cases hb
  ·refine ⟨by rw [has_del_other (by simpa using e),updF_other e];exact (hD3 y).1,fun b' hb z => ?_⟩
   rw [updF_other e] at hb;rw [atKey_del_other (by simpa using e)];exact (hD3 y).2 b' hb z
end
section
open Go Go.RowKit
theorem T_hint:ElemT Tryz.prog 50 119 (.agg #[.string ⟨#[]⟩,.string ⟨#[]⟩]) 2 32:=⟨Tryz.underlying50, by kernel_rfl,rfl,by decide⟩
abbrev Hint:=Str × Str
def hintCells (h:Hint):List Value:=[.string ⟨h.1.toArray⟩,.string ⟨h.2.toArray⟩]
def hintsV (l:List Hint):List Value:=l.flatMap hintCells
theorem hintsV_length (l:List Hint):(hintsV l).length=l.length * 2:=by
 induction l with
 | nil=>rfl
 | cons a r ih=>simp only [hintsV,List.flatMap_cons,List.length_append,List.length_cons] at *;rw [ih];simp [hintCells];omega
theorem hintsV_append (a b:List Hint):hintsV (a++b)=hintsV a++hintsV b:=List.flatMap_append ..
theorem hintsV_at {l:List Hint} {i:Nat} (h:i < l.length):(hintsV l)[i * 2]? = some (.string ⟨l[i].1.toArray⟩)/\(hintsV l)[i * 2+1]? = some (.string ⟨l[i].2.toArray⟩):=by
 induction l generalizing i with
 | nil=>simp at h
 | cons a r ih =>
  cases i with
  | zero=>exact ⟨rfl,rfl⟩
  | succ i =>
   have:=@ih i (by simpa using h);rw [show (i+1) * 2=i * 2+1+1 by omega]
   simpa [hintsV,hintCells] using this
theorem slt_tri {a b:Str} (h:¬ a < b) (h':a ≠ b):b < a:=by
 by_cases h2:b < a
 ·exact h2
 ·exact absurd (List.le_antisymm (α:=UInt8) (show a<=b from h2) (show b<=a from h)) h'
theorem hints_row {w:World} {a:Option Addr} {l:List Hint} {k:Nat} (h:Row w a (hintsV l)) (hk:k < l.length):∃ b o,a=some ⟨b,o,none⟩/\w.cell? ⟨b,o+k * 2,none⟩=some (.string ⟨l[k].1.toArray⟩)/\w.cell? ⟨b,o+k * 2+1,none⟩=some (.string ⟨l[k].2.toArray⟩):=by
 obtain ⟨h1,h2⟩:=hintsV_at hk
 rcases h with h | ⟨b,o,rfl,hc⟩
 ·rw [h] at h1;cases h1
 ·exact ⟨b,o,rfl,hc _ _ h1,by have:=hc _ _ h2;rwa [<- Nat.add_assoc] at this⟩
end
end Go.Proofs.YtcekcoepdhnfgaaGreatDoor
