/- Messages by topics. -/
import Derived.Test.YtcekcoepdhnfgaaGreatDoorMZ
import Derived.Test.YtcekcoepdhnfgaaGreatDoorFamH
import Derived.Test.YtcekcoepdhnfgaaGreatDoorKT2
import Derived.Maps.OwnSet
import Derived.Maps.Ext
import Derived.Sort.KeysCollected
namespace Go.Proofs.YtcekcoepdhnfgaaGreatDoor
open Go Go.RowKit Go.Maps
def Msg.dat (m:Msg):DataW Unit:=.agg [.lit (.string m.t.data.toList),.lit (.string m.p.data.toList),.lit (.int .u8 m.q),.lit (.bool m.r)]
def msgRead:List Value->Option (DataW Unit × List MemPlace)
 | [.string t,.string p,.int .u8 q,.bool r]=>some ((⟨t,p,q,r⟩:Msg).dat,[])
 | _=>none
def msgElem:Value->Option (DataW Unit × List MemPlace)
 | .agg cs=>msgRead cs.toList
 | _=>none
theorem msgElem_mk (m:Msg):msgElem m.val=some (m.dat,[]):=rfl
theorem ba_ext {a b:ByteArray} (h:a.data.toList=b.data.toList):a=b:=ByteArray.ext (Array.toList_inj.1 h)
theorem dat_inj {a b:Msg} (h:a.dat=b.dat):a=b:=by
 obtain ⟨t,p,q,r⟩:=a;obtain ⟨t',p',q',r'⟩:=b;simp only [Msg.dat,DataW.agg.injEq,List.cons.injEq,DataW.lit.injEq,Lit.string.injEq,Lit.int.injEq,Lit.bool.injEq,true_and,and_true] at h;obtain ⟨h1,h2,h3,h4⟩:=h;rw [ba_ext h1,ba_ext h2,h3,h4]
theorem msgElem_inv {v:Value} {m:Msg} {ps:List MemPlace} (h:msgElem v=some (m.dat,ps)):v=m.val:=by
 unfold msgElem at h
 split at h
 ·rename_i cs
  unfold msgRead at h
  split at h
  ·rename_i t p q r hc
   simp only [Option.some.injEq,Prod.mk.injEq] at h;have:=dat_inj h.1;subst this;have:cs = #[.string t,.string p,.int .u8 q,.bool r]:=Array.toList_inj.1 hc;rw [this];rfl
  ·cases h
 ·cases h
def orNone (o:Option Msg):Msg:=o.getD Msg.none
theorem owns_tightM {P:Program} {k:TypeId} {R:Value->Option (DataW Unit × List MemPlace)} {w:World} {b n:Nat} {D:DataW Unit} (h:w.ownsMap P k R b n D):w.ownsMap P k R b (Maps.size D) D:=by
 obtain ⟨es,clock,hb,F,hs,rfl⟩:=h;exact ⟨es,clock,hb,F,by simp [Maps.size,length_sorted],rfl⟩
theorem zeroMsg (w:World):(zeroValue 36).run Tryz.prog w = .ok Msg.none.val w:=by kernel_rfl
def Has (D:DataW Unit) (l:List Msg):Prop:=Maps.size D=l.length/\(∀ t,Maps.has D (.string t)=(get t l).isSome)/\(∀ t m,get t l=some m -> ∀ z,D.atKey (.string t) z=m.dat)/\Up l
theorem Has.nil:Has (.map []) []:=⟨rfl,fun t=>by simp [Maps.has,get],fun t m h=>by simp [get] at h,List.Pairwise.nil⟩
theorem Has.put {D:DataW Unit} {l:List Msg} (h:Has D l) (hT:Tidy D) (m:Msg):Has (D.put (.string m.k) m.dat) (put m l):=by
 obtain ⟨h1,h2,h3,h4⟩:=h;have kl:WideAt.IsKeyLit (.string m.k):=trivial;refine ⟨by rw [size_put hT,h2,len_put h4,h1],fun t => ?_,fun t x hx z => ?_,h4.put⟩
 ·rw [get_put h4]
  by_cases e:t=m.k
  ·subst e;rw [has_put_same hT.isMap kl];simp
  ·rw [has_put_other (by simpa using e),h2,if_neg e]
 ·rw [get_put h4] at hx
  by_cases e:t=m.k
  ·subst e;simp at hx;subst hx;rw [atKey_put_same hT.isMap kl]
  ·rw [if_neg e] at hx;rw [atKey_put_other (by simpa using e)];exact h3 t x hx z
theorem Has.del {D:DataW Unit} {l:List Msg} (h:Has D l) (hT:Tidy D) (u:List UInt8):Has (D.del (.string u)) (del u l):=by
 obtain ⟨h1,h2,h3,h4⟩:=h;refine ⟨?_,fun t => ?_,fun t x hx z => ?_,h4.del⟩
 ·have a:=size_del (k:=.string u) hT
  have b:=len_del (t:=u) h4;rw [h2] at a
  split at a <;> split at b <;> simp_all <;> omega
 ·rw [get_del]
  by_cases e:t=u
  ·subst e;rw [has_del_same];simp
  ·rw [has_del_other (by simpa using e),h2,if_neg e]
 ·rw [get_del] at hx
  by_cases e:t=u
  ·subst e;simp at hx
  ·rw [if_neg e] at hx;rw [atKey_del_other (by simpa using e)];exact h3 t x hx z
theorem Has.at {D:DataW Unit} {l:List Msg} (h:Has D l) (t:List UInt8):D.atKey (.string t) Msg.none.dat=(orNone (get t l)).dat:=by
 cases e:get t l with
 | some m=>exact h.2.2.1 t m e _
 | none =>
  have:=h.2.1 t;rw [e] at this;exact atKey_of_not_has this _
end Go.Proofs.YtcekcoepdhnfgaaGreatDoor
