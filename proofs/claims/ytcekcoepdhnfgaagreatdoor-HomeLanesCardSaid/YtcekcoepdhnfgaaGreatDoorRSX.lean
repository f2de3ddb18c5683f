/- Rising rows of hints. -/
import Derived.Test.YtcekcoepdhnfgaaGreatDoorRCmp
import Derived.Sort.OwnSorted
namespace Go.Proofs.YtcekcoepdhnfgaaGreatDoor
section
open Go Go.RowKit Go.Maps Go.Lib Go.Sort
def Ahead (x y:Hint):Prop:=x.1 < y.1 \/ x.1=y.1/\x.2 < y.2
instance (x y:Hint):Decidable (Ahead x y):=inferInstanceAs (Decidable (_ \/ _))
theorem cmpS_neg {x y:Str}:cmpS x y < 0 ↔ x < y:=by
 unfold cmpS
 by_cases h:x < y
 ·simp [h]
 ·by_cases h':y < x <;> simp [h,h']
theorem cmpS_zero {x y:Str}:cmpS x y=0 ↔ x=y:=by
 unfold cmpS
 by_cases h:x < y
 ·simp only [h,if_true]
  exact ⟨fun e=>by omega,fun e=>by subst e;exact absurd h (List.lt_irrefl _)⟩
 ·by_cases h':y < x
  ·simp only [h,h',if_true,if_false]
   exact ⟨fun e=>by omega,fun e=>by subst e;exact absurd h' (List.lt_irrefl _)⟩
  ·simp only [h,h',if_false,true_iff]
   exact Decidable.byContradiction fun e=>h' (slt_tri h e)
theorem cmpH_neg (x y:Hint):cmpH x y < 0 ↔ Ahead x y:=by
 unfold cmpH Ahead
 by_cases h:cmpS x.1 y.1=0
 ·rw [if_pos h,cmpS_neg]
  have he:=cmpS_zero.1 h;constructor
  ·exact fun h2 => .inr ⟨he,h2⟩
  ·rintro (h2 | h2)
   ·rw [he] at h2;exact absurd h2 (List.lt_irrefl _)
   ·exact h2.2
 ·rw [if_neg h,cmpS_neg]
  constructor
  ·exact .inl
  ·rintro (h2 | h2)
   ·exact h2
   ·exact absurd (cmpS_zero.2 h2.1) h
theorem ltOf_cmpH (x y:Hint):ltOf cmpH x y=decide (Ahead x y):=decide_eq_decide.2 (cmpH_neg x y)
theorem ahead_irrefl (x:Hint):¬ Ahead x x:=by
 rintro (h | h)
 ·exact List.lt_irrefl _ h
 ·exact List.lt_irrefl _ h.2
theorem ahead_trans {x y z:Hint} (h:Ahead x y) (k:Ahead y z):Ahead x z:=by
 rcases h with h | ⟨h1,h2⟩
 ·rcases k with k | ⟨k1,k2⟩
  ·exact .inl (List.lt_trans h k)
  ·exact .inl (k1 ▸ h)
 ·rcases k with k | ⟨k1,k2⟩
  ·exact .inl (h1 ▸ k)
  ·exact .inr ⟨h1.trans k1,List.lt_trans h2 k2⟩
theorem ahead_tri {x y:Hint} (h:¬ Ahead x y) (hne:x ≠ y):Ahead y x:=by
 by_cases h1:x.1=y.1
 ·have h2:¬ x.2 < y.2:=fun e=>h (.inr ⟨h1,e⟩)
  have h3:x.2 ≠ y.2:=fun e=>hne (Prod.ext h1 e)
  exact .inr ⟨h1.symm,slt_tri h2 h3⟩
 ·exact .inl (slt_tri (fun e=>h (.inl e)) h1)
theorem swo_hint:SWO (ltOf cmpH) where
 irrefl x:=by rw [ltOf_cmpH];exact decide_eq_false (ahead_irrefl x)
 trans x y z h k:=by
  rw [ltOf_cmpH,decide_eq_true_eq] at *;exact ahead_trans h k
 ntrans x y z h k:=by
  rw [ltOf_cmpH,decide_eq_false_iff_not] at *;intro hz
  by_cases e:x=y
  ·subst e;exact k hz
  ·exact k (ahead_trans (ahead_tri h e) hz)
theorem tot_hint (x y:Hint) (h:ltOf cmpH x y=false) (k:ltOf cmpH y x=false):x=y:=by
 rw [ltOf_cmpH,decide_eq_false_iff_not] at *;exact Decidable.byContradiction fun e=>k (ahead_tri h e)
def HRising (l:List Hint):Prop:=l.Pairwise Ahead
theorem sort_hints {l m:List Hint} (hm:HRising m) (h:l.Perm m):(l.mergeSort fun x y => !(ltOf cmpH) y x)=m:=by
 have hle:∀ a b,(!(ltOf cmpH) b a)=true ↔ ¬ Ahead b a:=fun a b=>by rw [ltOf_cmpH];simp
 have hp:((l.mergeSort fun x y => !(ltOf cmpH) y x)).Pairwise (fun a b=>(!(ltOf cmpH) b a)=true):=
  List.pairwise_mergeSort (le:=fun x y => !(ltOf cmpH) y x) (fun a b c h1 h2=>by
   rw [hle] at *;intro h3
   by_cases e:b=a
   ·subst e;exact h2 h3
   ·exact h2 (ahead_trans h3 (ahead_tri h1 e)))
   (fun a b=>by
    by_cases h1:Ahead b a
    ·have:(!(ltOf cmpH) a b)=true:=(hle b a).2 (fun h2=>ahead_irrefl _ (ahead_trans h1 h2))
     rw [this];simp
    ·rw [(hle a b).2 h1];rfl) l
 refine List.Perm.eq_of_pairwise (le:=fun a b=>(!(ltOf cmpH) b a)=true) (fun a b _ _ h1 h2=>by
  rw [hle] at *
  exact Decidable.byContradiction fun e=>h2 (ahead_tri h1 (fun e'=>e e'.symm))) hp
  (List.Pairwise.imp (fun h1=>(hle _ _).2 (fun h2=>ahead_irrefl _ (ahead_trans h1 h2))) hm) ((List.mergeSort_perm l _).trans h)
theorem flat_hints (l:List Hint):(flatK hintCells 2 l.toArray).toList=hintsV l:=by
 apply List.ext_getElem?;intro t;have hs:(flatK hintCells 2 l.toArray).size=l.length * 2:=by simp
 by_cases ht:t < l.length * 2
 ·have h1:(flatK hintCells 2 l.toArray)[t]! = _:=get_flatK hintCells 2 l.toArray t (by simpa using ht)
  have hq:t / 2 < l.length:=by omega
  obtain ⟨a1,a2⟩:=hintsV_at hq;rw [Array.getElem?_toList,Array.getElem?_eq_getElem (by omega),<- getElem!_pos _ t (by omega),h1];have hd:l.toArray[t / 2]! = l[t / 2]:=by simp [hq]
  rw [hd]
  rcases Nat.mod_two_eq_zero_or_one t with hm | hm
  ·rw [hm]
   exact ((congrArg (fun k=>(hintsV l)[k]?) (show t=t / 2 * 2 by omega)).trans a1).symm
  ·rw [hm]
   exact ((congrArg (fun k=>(hintsV l)[k]?) (show t=t / 2 * 2+1 by omega)).trans a2).symm
 ·rw [List.getElem?_eq_none (by simp;omega),List.getElem?_eq_none (by rw [hintsV_length];omega)]
theorem hint_one (x:Hint):∀ v ∈ hintCells x,v.oneCell'=true:=by
 intro v hv;simp only [hintCells,List.mem_cons,List.not_mem_nil,or_false] at hv
 rcases hv with rfl | rfl <;> rfl
theorem holds_hints {w:World} {g:Nat} {cur:Array Value} {e:TypeId} {l:List Hint} (hb:w.heap[g]? = some (.cells cur e (0,0))) (ht:cur.toList.take (l.length * 2)=hintsV l):HoldsK hintCells 2 w g 0 l.toArray:=by
 intro j hj;have hj':j < l.length * 2:=by simpa using hj
 refine ⟨?_,by simp [World.frozen?,hb]⟩;have h1:(cur.toList.take (l.length * 2))[j]? = (flatK hintCells 2 l.toArray).toList[j]?:=by rw [ht,flat_hints]
 rw [List.getElem?_take_of_lt hj'] at h1;simp only [World.cell?,hb,Nat.zero_add];simp only [Option.isSome_none,Bool.false_eq_true,if_false];rw [<- Array.getElem?_toList,h1];simp [hj']
theorem own_sorted {w:World} {base g cap n:Nat} {os:Array Obj} {cur:Array Value} {l m:List Hint} (hl:m.length=l.length) (hbase:base<=g) (hb:w.heap[g]? = some (.cells cur 119 (0,0)))
  (h1:l.length<=cap) (h2:cap<=maxLen) (h3:cur.size=cap * 2) :
  (sortWorldK hintCells 2 w g 0 n m.toArray os).ownsRow base 119 2 (.slice (some ⟨g,0,none⟩) l.length cap) l.length (hintsV m)/\w.grownBy (sortWorldK hintCells 2 w g 0 n m.toArray os) (some g):=by
 have hg:g < w.heap.size:=(Array.getElem?_eq_some_iff.1 hb).1;refine ⟨⟨by rw [hintsV_length,hl],.inr ⟨g,cap,putCells id 0 (flatK hintCells 2 m.toArray) cur,rfl,hbase,?_,h1,h2,by simp [putCells,h3],?_⟩⟩,⟨rfl,rfl,rfl,by simp [sortWorldK,putRowK,putRow,mapBlock,Sort.ahead,grow],fun k hk hne => ?_⟩⟩
 ·unfold sortWorldK putRowK
  rw [heap_grow_old _ _ (by simpa [putRow,mapBlock,Sort.ahead] using hg)];simp [putRow,mapBlock,Sort.ahead,Array.getElem?_modify,hb,onCells]
 ·rw [<- flat_hints m]
  apply List.ext_getElem?;intro j
  by_cases hj:j < l.length * 2
  ·rw [List.getElem?_take_of_lt hj,Array.getElem?_toList,Array.getElem?_toList]
   simp [putCells,hl,hj,show j < cur.size by omega]
  ·rw [List.getElem?_take_eq_none (by omega),List.getElem?_eq_none (by simp [hl];omega)]
 ·unfold sortWorldK putRowK
  rw [heap_grow_old _ _ (by simpa [putRow,mapBlock,Sort.ahead] using hk)];have:g ≠ k:=fun e=>hne (by rw [e])
  simp [putRow,mapBlock,Sort.ahead,Array.getElem?_modify,this]
end
section
open Go
def insH (h:Hint):List Hint->List Hint
 | [] => [h]
 | y :: r=>if Ahead y h then y :: insH h r else h :: y :: r
theorem perm_insH (h:Hint) (l:List Hint):(insH h l).Perm (h :: l):=by
 induction l with
 | nil=>exact List.Perm.refl _
 | cons y r ih =>
  unfold insH
  split
  ·exact (ih.cons y).trans (List.Perm.swap h y r)
  ·exact List.Perm.refl _
theorem hrising_insH {h:Hint} {l:List Hint} (hl:HRising l) (hn:h ∉ l):HRising (insH h l):=by
 induction l with
 | nil=>exact List.pairwise_singleton _ _
 | cons y r ih =>
  obtain ⟨h1,h2⟩:=List.pairwise_cons.1 hl;unfold insH
  split
  ·rename_i ha
   refine List.pairwise_cons.2 ⟨fun z hz => ?_,ih h2 (fun e=>hn (List.mem_cons_of_mem _ e))⟩
   rcases List.mem_cons.1 ((perm_insH h r).mem_iff.1 hz) with rfl | hz
   ·exact ha
   ·exact h1 z hz
  ·rename_i ha
   have hy:Ahead h y:=ahead_tri ha (fun e=>hn (by rw [e];exact List.mem_cons_self ..));refine List.pairwise_cons.2 ⟨fun z hz => ?_,hl⟩
   rcases List.mem_cons.1 hz with rfl | hz
   ·exact hy
   ·exact ahead_trans hy (h1 z hz)
def addAll (l:List Hint):List Hint:=l.foldl (fun acc h=>insH h acc) []
theorem addAll_go:∀ (l acc:List Hint),(l++acc).Nodup->HRising acc->HRising (l.foldl (fun acc h=>insH h acc) acc)/\(l.foldl (fun acc h=>insH h acc) acc).Perm (l++acc)
 | [],acc,_,h=>⟨h,List.Perm.refl _⟩
 | x :: l,acc,hn,h=>by
  rw [List.cons_append,List.nodup_cons] at hn;have hp:=perm_insH x acc
  have h1:=addAll_go l (insH x acc) (by
   refine (List.Perm.nodup_iff (List.Perm.append_left l hp)).2 ?_;refine (List.Perm.nodup_iff List.perm_middle).2 ?_
   exact List.nodup_cons.2 hn) (hrising_insH h (fun e=>hn.1 (List.mem_append.2 (.inr e))))
  refine ⟨h1.1,h1.2.trans ?_⟩;exact (List.Perm.append_left l hp).trans List.perm_middle
theorem addAll_ok {l:List Hint} (h:l.Nodup):HRising (addAll l)/\(addAll l).Perm l:=by
 have:=addAll_go l [] (by simpa using h) List.Pairwise.nil;rw [List.append_nil] at this;exact this
end
end Go.Proofs.YtcekcoepdhnfgaaGreatDoor
