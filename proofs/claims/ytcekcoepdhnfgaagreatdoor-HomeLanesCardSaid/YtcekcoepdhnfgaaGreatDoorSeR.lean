/- A session in memory. -/
import Derived.Test.YtcekcoepdhnfgaaGreatDoorPkO
import Derived.Test.YtcekcoepdhnfgaaGreatDoorSeP
import Derived.Test.YtcekcoepdhnfgaaGreatDoorIsI
namespace Go.Proofs.YtcekcoepdhnfgaaGreatDoor
open Go Go.RowKit
def ssC (x:SS) (lb tb cb:Nat):List Value:=[.string x.client,.int .i64 x.conn,.bool x.clean,.string x.will.t,.string x.will.p,.int .u8 x.will.q,.bool x.will.r,.bool x.has,.pointer (some ⟨lb,0,none⟩),.pointer (some ⟨tb,0,none⟩),.pointer (some ⟨cb,0,none⟩)]
structure SParts (w:World) (s lb tb cb:Nat) (x:SS) (win most:Int) (FL FO FC:List Nat):Prop where
 hd:w.heap[s]? = some (.cells (ssC x lb tb cb).toArray 116 (0,0))
 subs:SRep w lb x.l FL
 out:OutRep w tb win most x.o FO
 came:CRep w cb x.came FC
 sl:s ∉ FL
 so:s ∉ FO
 sc:s ∉ FC
 lo:Off FL FO
 lc:Off FL FC
 oc:Off FO FC
def sFoot (s:Nat) (FL FO FC:List Nat):List Nat:=s :: (FL++(FO++FC))
theorem mem_sFoot {s:Nat} {FL FO FC:List Nat} {k:Nat}:k ∈ sFoot s FL FO FC ↔ k=s \/ k ∈ FL \/ k ∈ FO \/ k ∈ FC:=by simp [sFoot]
section
variable {w w':World} {s lb tb cb:Nat} {x x':SS} {win most:Int} {FL FO FC FL' FO' FC':List Nat}
theorem SParts.lts (h:SParts w s lb tb cb x win most FL FO FC):s < w.heap.size:=(Array.getElem?_eq_some_iff.1 h.hd).1
theorem SParts.lt (h:SParts w s lb tb cb x win most FL FO FC):∀ k ∈ sFoot s FL FO FC,k < w.heap.size:=fun k hk=>by
 rcases mem_sFoot.1 hk with rfl | hk | hk | hk
 ·exact h.lts
 ·exact h.subs.lt k hk
 ·exact h.out.lt k hk
 ·exact h.came.lt k hk
theorem SParts.mod {S:List Nat} (h:SParts w s lb tb cb x win most FL FO FC) (hm:Mod S w w') (hS:∀ k ∈ sFoot s FL FO FC,k ∉ S):SParts w' s lb tb cb x win most FL FO FC:=
 ⟨(hm.block s h.lts (hS s (mem_sFoot.2 (.inl rfl)))).trans h.hd,h.subs.mod hm fun k hk=>hS k (mem_sFoot.2 (.inr (.inl hk))),h.out.mod hm fun k hk=>hS k (mem_sFoot.2 (.inr (.inr (.inl hk)))),h.came.mod hm fun k hk=>hS k (mem_sFoot.2 (.inr (.inr (.inr hk)))),h.sl,h.so,h.sc,h.lo,h.lc,h.oc⟩
theorem SParts.below (h:SParts w s lb tb cb x win most FL FO FC) (hb:Below w.heap.size w w'):SParts w' s lb tb cb x win most FL FO FC:=h.mod (Mod.of_below hb []) (by simp)
theorem SParts.turnH (h : SParts w s lb tb cb x win most FL FO FC) (hm : Mod [s] w w') (hs : w'.heap[s]? = some (.cells (ssC x' lb tb cb).toArray 116 (0, 0))) (h1 : x'.l = x.l) (h2 : x'.o = x.o) (h3 : x'.came = x.came) :
    SParts w' s lb tb cb x' win most FL FO FC ∧ Upd (sFoot s FL FO FC) (sFoot s FL FO FC) w w' :=
  ⟨⟨hs, by rw [h1]; exact h.subs.mod hm fun k hk hk' => h.sl (List.mem_singleton.1 hk' ▸ hk), by rw [h2]; exact h.out.mod hm fun k hk hk' => h.so (List.mem_singleton.1 hk' ▸ hk), by rw [h3]; exact h.came.mod hm fun k hk hk' => h.sc (List.mem_singleton.1 hk' ▸ hk), h.sl, h.so, h.sc, h.lo, h.lc, h.oc⟩,
    hm.mono fun k hk => mem_sFoot.2 (.inl (List.mem_singleton.1 hk)), fun k hk => .inl hk⟩
theorem SParts.turnL (h:SParts w s lb tb cb x win most FL FO FC) {l':List SubE} (hl:SRep w' lb l' FL') (hu:Upd FL FL' w w'):SParts w' s lb tb cb { x with l:=l' } win most FL' FO FC/\Upd (sFoot s FL FO FC) (sFoot s FL' FO FC) w w':=by
 have new:∀ k ∈ FL',k ∈ FL \/ w.heap.size<=k:=hu.2;refine ⟨⟨(hu.1.block s h.lts h.sl).trans h.hd,hl,h.out.mod hu.1 fun k hk hk'=>h.lo k hk' hk,h.came.mod hu.1 fun k hk hk'=>h.lc k hk' hk,fun hk => ?_,h.so,h.sc,fun k hk hk' => ?_,fun k hk hk' => ?_,h.oc⟩,hu.1.mono fun k hk=>mem_sFoot.2 (.inr (.inl hk)),fun k hk => ?_⟩
 ·rcases new _ hk with h1 | h1
  ·exact h.sl h1
  ·have:=h.lts;omega
 ·rcases new k hk with h1 | h1
  ·exact h.lo k h1 hk'
  ·have:=h.out.lt k hk';omega
 ·rcases new k hk with h1 | h1
  ·exact h.lc k h1 hk'
  ·have:=h.came.lt k hk';omega
 ·rcases mem_sFoot.1 hk with rfl | hk | hk
  ·exact .inl (mem_sFoot.2 (.inl rfl))
  ·exact (new k hk).imp (fun h1=>mem_sFoot.2 (.inr (.inl h1))) id
  ·exact .inl (mem_sFoot.2 (.inr (.inr hk)))
theorem SParts.turnO (h:SParts w s lb tb cb x win most FL FO FC) {o':OT} (ho:OutRep w' tb win most o' FO') (hu:Upd FO FO' w w'):SParts w' s lb tb cb { x with o:=o' } win most FL FO' FC/\Upd (sFoot s FL FO FC) (sFoot s FL FO' FC) w w':=by
 have new:∀ k ∈ FO',k ∈ FO \/ w.heap.size<=k:=hu.2;refine ⟨⟨(hu.1.block s h.lts h.so).trans h.hd,h.subs.mod hu.1 fun k hk hk'=>h.lo k hk hk',ho,h.came.mod hu.1 fun k hk hk'=>h.oc k hk' hk,h.sl,fun hk => ?_,h.sc,fun k hk hk' => ?_,h.lc,fun k hk hk' => ?_⟩,hu.1.mono fun k hk=>mem_sFoot.2 (.inr (.inr (.inl hk))),fun k hk => ?_⟩
 ·rcases new _ hk with h1 | h1
  ·exact h.so h1
  ·have:=h.lts;omega
 ·rcases new k hk' with h1 | h1
  ·exact h.lo k hk h1
  ·have:=h.subs.lt k hk;omega
 ·rcases new k hk with h1 | h1
  ·exact h.oc k h1 hk'
  ·have:=h.came.lt k hk';omega
 ·rcases mem_sFoot.1 hk with rfl | hk | hk | hk
  ·exact .inl (mem_sFoot.2 (.inl rfl))
  ·exact .inl (mem_sFoot.2 (.inr (.inl hk)))
  ·exact (new k hk).imp (fun h1=>mem_sFoot.2 (.inr (.inr (.inl h1)))) id
  ·exact .inl (mem_sFoot.2 (.inr (.inr (.inr hk))))
theorem SParts.turnC (h:SParts w s lb tb cb x win most FL FO FC) {c':List Int} (hc:CRep w' cb c' FC') (hu:Upd FC FC' w w'):SParts w' s lb tb cb { x with came:=c' } win most FL FO FC'/\Upd (sFoot s FL FO FC) (sFoot s FL FO FC') w w':=by
 have new:∀ k ∈ FC',k ∈ FC \/ w.heap.size<=k:=hu.2;refine ⟨⟨(hu.1.block s h.lts h.sc).trans h.hd,h.subs.mod hu.1 fun k hk hk'=>h.lc k hk hk',h.out.mod hu.1 fun k hk hk'=>h.oc k hk hk',hc,h.sl,h.so,fun hk => ?_,h.lo,fun k hk hk' => ?_,fun k hk hk' => ?_⟩,hu.1.mono fun k hk=>mem_sFoot.2 (.inr (.inr (.inr hk))),fun k hk => ?_⟩
 ·rcases new _ hk with h1 | h1
  ·exact h.sc h1
  ·have:=h.lts;omega
 ·rcases new k hk' with h1 | h1
  ·exact h.lc k hk h1
  ·have:=h.subs.lt k hk;omega
 ·rcases new k hk' with h1 | h1
  ·exact h.oc k hk h1
  ·have:=h.out.lt k hk;omega
 ·rcases mem_sFoot.1 hk with rfl | hk | hk | hk
  ·exact .inl (mem_sFoot.2 (.inl rfl))
  ·exact .inl (mem_sFoot.2 (.inr (.inl hk)))
  ·exact .inl (mem_sFoot.2 (.inr (.inr (.inl hk))))
  ·exact (new k hk).imp (fun h1=>mem_sFoot.2 (.inr (.inr (.inr h1)))) id
end
def SesRep (w:World) (s:Nat) (win most:Int) (x:SS) (F:List Nat):Prop:=∃ lb tb cb FL FO FC,SParts w s lb tb cb x win most FL FO FC/\F=sFoot s FL FO FC
theorem SesRep.lt {w:World} {s:Nat} {win most:Int} {x:SS} {F:List Nat} (h:SesRep w s win most x F):∀ k ∈ F,k < w.heap.size:=by
 obtain ⟨lb,tb,cb,FL,FO,FC,h,rfl⟩:=h;exact h.lt
theorem SesRep.mod {S:List Nat} {w w':World} {s:Nat} {win most:Int} {x:SS} {F:List Nat} (h:SesRep w s win most x F) (hm:Mod S w w') (hS:∀ k ∈ F,k ∉ S):SesRep w' s win most x F:=by
 obtain ⟨lb,tb,cb,FL,FO,FC,h,rfl⟩:=h;exact ⟨lb,tb,cb,FL,FO,FC,h.mod hm hS,rfl⟩
theorem SesRep.below {w w':World} {s:Nat} {win most:Int} {x:SS} {F:List Nat} (h:SesRep w s win most x F) (hb:Below w.heap.size w w'):SesRep w' s win most x F:=h.mod (Mod.of_below hb []) (by simp)
theorem SParts.cells {w:World} {s lb tb cb:Nat} {x:SS} {win most:Int} {FL FO FC:List Nat} (h:SParts w s lb tb cb x win most FL FO FC) :
  w.cell? ⟨s,0,none⟩=some (.string x.client)/\w.cell? ⟨s,1,none⟩=some (.int .i64 x.conn)/\w.cell? ⟨s,2,none⟩=some (.bool x.clean)/\w.cell? ⟨s,3,none⟩=some (.string x.will.t)/\w.cell? ⟨s,4,none⟩=some (.string x.will.p)/\w.cell? ⟨s,5,none⟩=some (.int .u8 x.will.q) ∧
   w.cell? ⟨s,6,none⟩=some (.bool x.will.r)/\w.cell? ⟨s,7,none⟩=some (.bool x.has)/\w.cell? ⟨s,8,none⟩=some (.pointer (some ⟨lb,0,none⟩))/\w.cell? ⟨s,9,none⟩=some (.pointer (some ⟨tb,0,none⟩))/\w.cell? ⟨s,10,none⟩=some (.pointer (some ⟨cb,0,none⟩)):=
 ⟨cell_of_row _ _ 0 _ _ _ h.hd,cell_of_row _ _ 1 _ _ _ h.hd,cell_of_row _ _ 2 _ _ _ h.hd,cell_of_row _ _ 3 _ _ _ h.hd,cell_of_row _ _ 4 _ _ _ h.hd,cell_of_row _ _ 5 _ _ _ h.hd,cell_of_row _ _ 6 _ _ _ h.hd,cell_of_row _ _ 7 _ _ _ h.hd,cell_of_row _ _ 8 _ _ _ h.hd,cell_of_row _ _ 9 _ _ _ h.hd,cell_of_row _ _ 10 _ _ _ h.hd⟩
end Go.Proofs.YtcekcoepdhnfgaaGreatDoor
