/- The out table, plain. -/
import Derived.Test.YtcekcoepdhnfgaaGreatDoorIdX
import Derived.Test.YtcekcoepdhnfgaaGreatDoorKTopX
import Derived.Test.YtcekcoepdhnfgaaGreatDoorPkI
namespace Go.Proofs.YtcekcoepdhnfgaaGreatDoor
open Go
def pubK (m:Msg) (id:Int) (dup:Bool):Pkt:=⟨3,dup,m.q,m.r,id,m.t,m.p,0,false,0,⟨#[]⟩,false,Msg.none,false,false,⟨#[]⟩,⟨#[]⟩,false,0,none,0,[],⟨#[]⟩⟩
def relK (id:Int):Pkt:=⟨6,false,0,false,id,⟨#[]⟩,⟨#[]⟩,0,false,0,⟨#[]⟩,false,Msg.none,false,false,⟨#[]⟩,⟨#[]⟩,false,0,none,0,[],⟨#[]⟩⟩
structure Sent where
 m:Msg
 id:Nat
 due:Int
def idsOf (l:List Sent):List Nat:=l.map (·.id)
structure OT where
 wait:List Msg
 row:List Sent
def OT.new:OT:=⟨[],[]⟩
def dueOf (m:Msg):Int:=if m.q=2 then 5 else 4
def mayP (m:Msg):Bool:=nameB m.t.data.toList && decide (m.q<=2)
def putO (most:Int) (m:Msg) (o:OT):Bool × OT:=
 if mayP m && decide ((o.wait.length:Int) < most) then (true,⟨o.wait ++ [m],o.row⟩) else (false,o)
def pumpO (win:Int):List Msg->List Sent->List Pkt × OT
 | [],row=>([],⟨[],row⟩)
 | m :: r,row =>
  if 0 < m.q then
   if win<=(row.length:Int) then ([],⟨m :: r,row⟩)
   else (pubK m (leastFree (idsOf row)) false :: (pumpO win r (row ++ [⟨m,leastFree (idsOf row),dueOf m⟩])).1,(pumpO win r (row ++ [⟨m,leastFree (idsOf row),dueOf m⟩])).2)
  else (pubK m 0 false :: (pumpO win r row).1,(pumpO win r row).2)
def placeO (id:Int) (l:List Sent):Option Nat:=l.findIdx? fun x=>(x.id:Int) == id
def ackO (ty id:Int) (o:OT):(List Pkt × Bool) × OT:=
 match placeO id o.row with
 | none=>(([],false),o)
 | some k =>
  match o.row[k]? with
  | none=>(([],false),o)
  | some x =>
   if ty=5/\(x.due=5 \/ x.due=7) then (([relK id],true),⟨o.wait,o.row.set k ⟨x.m,x.id,7⟩⟩)
   else if ty=x.due then (([],true),⟨o.wait,o.row.eraseIdx k⟩)
   else (([],false),o)
def againK (x:Sent):Pkt:=if x.due=7 then relK x.id else pubK x.m x.id true
def resumeO (o:OT):List Pkt:=o.row.map againK
structure RowOk (win:Int) (l:List Sent):Prop where
 nd:(idsOf l).Nodup
 len:(l.length:Int)<=win
 id:∀ x ∈ l,1<=x.id/\x.id<=1024
 due:∀ x ∈ l,(x.due=4 \/ x.due=5 \/ x.due=7)/\(x.due=4 ↔ x.m.q=1)/\1<=x.m.q/\x.m.q<=2
theorem RowOk.nil {win:Int} (h:0<=win):RowOk win []:=⟨List.nodup_nil,by simpa using h,by simp,by simp⟩
theorem RowOk.take {win:Int} {l:List Sent} (h:RowOk win l) (hw:win<=1024) {m:Msg} (hq:0 < m.q) (hq2:m.q<=2) (hl:(l.length:Int) < win):RowOk win (l ++ [⟨m,leastFree (idsOf l),dueOf m⟩]):=by
 have h1:=leastFree_pos (idsOf l);have h2:=leastFree_le (idsOf l);have h3:=leastFree_not (idsOf l);have hlen:(idsOf l).length=l.length:=by simp [idsOf]
 refine ⟨?_,by simp;omega,fun x hx => ?_,fun x hx => ?_⟩
 ·unfold idsOf
  rw [List.map_append,List.nodup_append];refine ⟨h.nd,by simp,fun a ha b hb => ?_⟩;rw [List.map_cons,List.map_nil,List.mem_singleton] at hb;subst hb;rintro rfl;exact h3 ha
 ·rcases List.mem_append.1 hx with hx | hx
  ·exact h.id x hx
  ·rw [List.mem_singleton.1 hx]
   exact ⟨h1,by simp only;omega⟩
 ·rcases List.mem_append.1 hx with hx | hx
  ·exact h.due x hx
  ·rw [List.mem_singleton.1 hx]
   unfold dueOf;dsimp only
   by_cases e:m.q=2
   ·rw [if_pos e];omega
   ·rw [if_neg e];omega
theorem RowOk.turn {win:Int} {l:List Sent} (h:RowOk win l) {k:Nat} (hk:k < l.length) (hd:l[k].due=5 \/ l[k].due=7):RowOk win (l.set k ⟨l[k].m,l[k].id,7⟩):=by
 refine ⟨?_,by simpa using h.len,fun x hx => ?_,fun x hx => ?_⟩
 ·have:idsOf (l.set k ⟨l[k].m,l[k].id,7⟩)=idsOf l:=by
   unfold idsOf;rw [List.map_set];refine List.ext_getElem? fun i => ?_
   rw [List.getElem?_set]
   by_cases e:k=i
   ·subst e;simp [hk]
   ·simp [e]
  rw [this];exact h.nd
 ·rcases List.mem_or_eq_of_mem_set hx with hx | rfl
  ·exact h.id x hx
  ·show 1<=l[k].id/\l[k].id<=1024
   exact h.id _ (List.getElem_mem hk)
 ·rcases List.mem_or_eq_of_mem_set hx with hx | rfl
  ·exact h.due x hx
  ·obtain ⟨h1,h2,h3⟩:=h.due _ (List.getElem_mem hk)
   refine ⟨.inr (.inr rfl),?_,h3⟩;simp only;omega
theorem RowOk.erase {win:Int} {l:List Sent} (h:RowOk win l) (k:Nat):RowOk win (l.eraseIdx k):=
 ⟨by
  have:idsOf (l.eraseIdx k)=(idsOf l).eraseIdx k:=by
   unfold idsOf;rw [List.eraseIdx_eq_take_drop_succ,List.eraseIdx_eq_take_drop_succ,List.map_append,List.map_take,List.map_drop]
  rw [this];exact h.nd.sublist (List.eraseIdx_sublist ..),by
  have:=List.length_eraseIdx_le l k;have:=h.len
  omega,fun x hx=>h.id x (List.mem_of_mem_eraseIdx hx),fun x hx=>h.due x (List.mem_of_mem_eraseIdx hx)⟩
theorem pump_len (win:Int):∀ (wait:List Msg) (row:List Sent),(pumpO win wait row).1.length<=wait.length/\(pumpO win wait row).2.wait.length<=wait.length
 | [],row=>by simp [pumpO]
 | m :: r,row=>by
  unfold pumpO
  split
  ·split
   ·simp
   ·have:=pump_len win r (row ++ [⟨m,leastFree (idsOf row),dueOf m⟩])
    simp only [List.length_cons];omega
  ·have:=pump_len win r row
   simp only [List.length_cons];omega
theorem place_some {id:Int} {l:List Sent} {k:Nat} (h:placeO id l=some k):∃ hk:k < l.length,(l[k].id:Int)=id /\ ∀ j (hj:j < k),((l[j]'(Nat.lt_trans hj hk)).id:Int) ≠ id:=by
 unfold placeO at h;obtain ⟨hk,h1,h2⟩:=List.findIdx?_eq_some_iff_getElem.1 h;exact ⟨hk,by simpa using h1,fun j hj=>by simpa using h2 j hj⟩
end Go.Proofs.YtcekcoepdhnfgaaGreatDoor
