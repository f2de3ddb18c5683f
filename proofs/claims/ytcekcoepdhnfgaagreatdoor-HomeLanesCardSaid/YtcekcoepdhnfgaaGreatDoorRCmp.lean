/- How hints stand. -/
import Derived.Test.YtcekcoepdhnfgaaGreatDoorFamH
import Derived.Sort.Walk0
import Derived.Shelf.SlSortCmp.NoneTotal
namespace Go.Proofs.YtcekcoepdhnfgaaGreatDoor
open Go Go.RowKit Go.Maps Go.Lib Go.Sort
def cmpS (x y:Str):Int:=if x < y then -1 else if y < x then 1 else 0
def cmpH (x y:Hint):Int:=if cmpS x.1 y.1=0 then cmpS x.2 y.2 else cmpS x.1 y.1
theorem nan_any (x:ByteArray) (w:World):Calls Tryz.prog 77 #[.string x] w fun e w'=>e = .returned (.bool false)/\w=w':=by
 go_enter Tryz.func77, Tryz.ntmps77
 go_wp2
 go_ret
 exact ⟨by simp,rfl⟩
set_option maxHeartbeats 1000000
theorem compare_any (x y:Str) (w:World):Calls Tryz.prog 50 #[.string ⟨x.toArray⟩,.string ⟨y.toArray⟩] w fun e w'=>e = .returned (.int .i64 (cmpS x y))/\w=w':=by
 by_cases ha:x < y
 ·have h1:Op.bytesLess x y=true:=by rw [bytesLess_eq];exact decide_eq_true ha
  have HC:Hid (cmpS x y = -1):=hyd (if_pos ha);clear ha
  go_enter Tryz.func50, Tryz.ntmps50
  go_wp2_with (go_at_call 77;refine (nan_any _ _).mono ?_;rintro e w' ⟨rfl,rfl⟩)
  go_ret
  exact ⟨by rw [HC.out];rfl,rfl⟩
 ·have h1:Op.bytesLess x y=false:=by rw [bytesLess_eq];exact decide_eq_false ha
  by_cases hc:x=y
  ·have h2:(x == y)=true:=by simpa using hc
   have HC:Hid (cmpS x y=0):=hyd (by subst hc;simp [cmpS,List.lt_irrefl]);clear ha hc
   go_enter Tryz.func50, Tryz.ntmps50
   go_wp2_with (go_at_call 77;refine (nan_any _ _).mono ?_;rintro e w' ⟨rfl,rfl⟩)
   go_ret
   exact ⟨by rw [HC.out];rfl,rfl⟩
  ·have h2:(x == y)=false:=by simpa using hc
   have HC:Hid (cmpS x y=1):=hyd (by rw [cmpS,if_neg ha,if_pos (slt_tri ha hc)]);clear ha hc
   go_enter Tryz.func50, Tryz.ntmps50
   go_wp2_with (go_at_call 77;refine (nan_any _ _).mono ?_;rintro e w' ⟨rfl,rfl⟩)
   go_ret
   exact ⟨by rw [HC.out];rfl,rfl⟩
theorem or_any (a b:Int) (k:Nat) (w:World) (h0:w.cell? ⟨k,0,none⟩=some (.int .i64 a)) (h1:w.cell? ⟨k,1,none⟩=some (.int .i64 b)) :
  Calls Tryz.prog 49 #[.slice (some ⟨k,0,none⟩) 2 2] w fun e w'=>e = .returned (.int .i64 (if a=0 then b else a))/\w=w':=by
 by_cases ha:a=0
 ·subst ha
  by_cases hb:b=0
  ·subst hb
   go_enter Tryz.func49, Tryz.ntmps49
   go_wp2_with fail
   refine wp_loop_rounds 3 ?_;rw [rounds_succ]
   go_wp2_with fail
   rw [rounds_succ]
   go_wp2_with fail
   rw [rounds_succ]
   go_wp2_with fail
   go_ret
   exact ⟨rfl,rfl⟩
  ·have hb':(b == 0)=false:=by simpa using hb
   go_enter Tryz.func49, Tryz.ntmps49
   go_wp2_with fail
   refine wp_loop_rounds 3 ?_;rw [rounds_succ]
   go_wp2_with fail
   rw [rounds_succ]
   go_wp2_with fail
   go_ret
   exact ⟨rfl,rfl⟩
 ·have ha':(a == 0)=false:=by simpa using ha
  rw [if_neg ha]
  go_enter Tryz.func49, Tryz.ntmps49
  go_wp2_with fail
  refine wp_loop_rounds 3 ?_;rw [rounds_succ]
  go_wp2_with fail
  go_ret
  exact ⟨rfl,rfl⟩
set_option maxHeartbeats 4000000
theorem closure_any (x y:Hint) (W:World):Calls Tryz.prog 48 #[.agg (hintCells x).toArray,.agg (hintCells y).toArray] W fun e w'=>e = .returned (.int .i64 (cmpH x y)) /\ ∃ q os',w'=grow (W.drewN q) os':=by
 obtain ⟨a,b⟩:=x;obtain ⟨c,d⟩:=y;have HX:Hid (cmpH (a,b) (c,d)=if cmpS a c=0 then cmpS b d else cmpS a c):=hyd rfl;have g1:=heap_alloc_new W (.cells #[.string ⟨a.toArray⟩,.string ⟨b.toArray⟩] 119);have g2:=heap_alloc_new (W.alloc (.cells #[.string ⟨a.toArray⟩,.string ⟨b.toArray⟩] 119)) (.cells #[.string ⟨c.toArray⟩,.string ⟨d.toArray⟩] 119);rw [World.size_alloc] at g2;have g1:=(Below.heap_alloc (W.alloc (.cells #[.string ⟨a.toArray⟩,.string ⟨b.toArray⟩] 119)) (.cells #[.string ⟨c.toArray⟩,.string ⟨d.toArray⟩] 119) W.heap.size (by simp)).trans g1
 have HG:Hid (((W.alloc (.cells #[.string ⟨a.toArray⟩,.string ⟨b.toArray⟩] 119)).alloc (.cells #[.string ⟨c.toArray⟩,.string ⟨d.toArray⟩] 119)).drew.alloc (.cells #[.int .i64 (cmpS a c),.int .i64 (cmpS b d)] 3)=grow (W.drewN 1) #[.cells #[.string ⟨a.toArray⟩,.string ⟨b.toArray⟩] 119, .cells #[.string ⟨c.toArray⟩,.string ⟨d.toArray⟩] 119, .cells #[.int .i64 (cmpS a c),.int .i64 (cmpS b d)] 3]):=hyd (by
  rw [alloc_eq_grow,alloc_eq_grow,alloc_eq_grow,grow_grow];show grow (grow (W.drewN 1) _) _=_
  rw [grow_grow];rfl)
 have c0:=cell_of_row _ _ 0 _ _ _ g1;have c1:=cell_of_row _ _ 1 _ _ _ g1;have d0:=cell_of_row _ _ 0 _ _ _ g2;have d1:=cell_of_row _ _ 1 _ _ _ g2
 have HS:Hid (∀ o,(((W.alloc (.cells #[.string ⟨a.toArray⟩,.string ⟨b.toArray⟩] 119)).alloc (.cells #[.string ⟨c.toArray⟩,.string ⟨d.toArray⟩] 119)).drew.alloc o).cell? ⟨W.heap.size,0,none⟩=some (.string ⟨a.toArray⟩)/\(((W.alloc (.cells #[.string ⟨a.toArray⟩,.string ⟨b.toArray⟩] 119)).alloc (.cells #[.string ⟨c.toArray⟩,.string ⟨d.toArray⟩] 119)).drew.alloc o).cell? ⟨W.heap.size,1,none⟩=some (.string ⟨b.toArray⟩)/\(((W.alloc (.cells #[.string ⟨a.toArray⟩,.string ⟨b.toArray⟩] 119)).alloc (.cells #[.string ⟨c.toArray⟩,.string ⟨d.toArray⟩] 119)).drew.alloc o).cell? ⟨W.heap.size+1,0,none⟩=some (.string ⟨c.toArray⟩)/\(((W.alloc (.cells #[.string ⟨a.toArray⟩,.string ⟨b.toArray⟩] 119)).alloc (.cells #[.string ⟨c.toArray⟩,.string ⟨d.toArray⟩] 119)).drew.alloc o).cell? ⟨W.heap.size+1,1,none⟩=some (.string ⟨d.toArray⟩)):=hyd (fun o=>by
  have e1:=(Below.heap_alloc (((W.alloc (.cells #[.string ⟨a.toArray⟩,.string ⟨b.toArray⟩] 119)).alloc (.cells #[.string ⟨c.toArray⟩,.string ⟨d.toArray⟩] 119)).drew) o _ (Array.getElem?_eq_some_iff.1 g1).1).trans g1;have e2:=(Below.heap_alloc (((W.alloc (.cells #[.string ⟨a.toArray⟩,.string ⟨b.toArray⟩] 119)).alloc (.cells #[.string ⟨c.toArray⟩,.string ⟨d.toArray⟩] 119)).drew) o _ (Array.getElem?_eq_some_iff.1 g2).1).trans g2
  exact ⟨cell_of_row _ _ 0 _ _ _ e1,cell_of_row _ _ 1 _ _ _ e1,cell_of_row _ _ 0 _ _ _ e2,cell_of_row _ _ 1 _ _ _ e2⟩)
 unfold hintCells;rw [HX.out];obtain ⟨r,hr⟩:∃ r,(if cmpS a c=0 then cmpS b d else cmpS a c)=r:=⟨_,rfl⟩;rw [hr];have HR:=hyd hr;clear g1 g2 hr
 go_enter Tryz.func48, Tryz.ntmps48
 go_wp2_with fail
 refine wp_region_held_drew (S:=fun X=>X.cell? ⟨W.heap.size,0,none⟩=some (.string ⟨a.toArray⟩)/\X.cell? ⟨W.heap.size,1,none⟩=some (.string ⟨b.toArray⟩)/\X.cell? ⟨W.heap.size+1,0,none⟩=some (.string ⟨c.toArray⟩)/\X.cell? ⟨W.heap.size+1,1,none⟩=some (.string ⟨d.toArray⟩)) (by kernel_rfl) ⟨c0,c1,d0,d1⟩ (fun hHeld => ?_);refine tA 0 (h:=tA 2 (h:=tA 5 (h:=tA 7 (h:=tA 1 (h:=tA 3 (h:=tA 6 (h:=tA 8 (h:=?_))))))));simp only [tks];clear c0 c1 d0 d1;generalize ((W.alloc (.cells #[.string ⟨a.toArray⟩,.string ⟨b.toArray⟩] 119)).alloc (.cells #[.string ⟨c.toArray⟩,.string ⟨d.toArray⟩] 119)).drew=Z at *;refine wpAnyH_ready (rs:=[4]) (by kernel_rfl) (by simp) ?_;refine AllReadyH.cons rfl (fun K hK => ?_) AllReadyH.nil;rw [if_pos (by rfl)];go_simp
 go_at_call 50
 refine (compare_any _ _ _).mono ?_;rintro e w1 ⟨rfl,rfl⟩;refine hK.out _ _ hHeld (fun hHeld => ?_);refine wpAnyH_ready (rs:=[9]) (by kernel_rfl) (by simp) ?_;refine AllReadyH.cons rfl (fun K hK => ?_) AllReadyH.nil;rw [if_pos (by rfl)];go_simp
 go_at_call 50
 refine (compare_any _ _ _).mono ?_;rintro e w1 ⟨rfl,rfl⟩;refine hK.out _ _ hHeld (fun hHeld => ?_);refine wpAnyH_ready (rs:=[10]) (by kernel_rfl) (by simp) ?_;refine AllReadyH.cons rfl (fun K hK => ?_) AllReadyH.nil;rw [if_pos (by rfl)];go_simp;have hn:=heap_alloc_new Z (.cells #[.int .i64 (cmpS a c),.int .i64 (cmpS b d)] 3);have n0:=cell_of_row _ _ 0 _ _ _ hn;have n1:=cell_of_row _ _ 1 _ _ _ hn;simp only [List.getElem?_toArray,List.getElem?_cons_zero,List.getElem?_cons_succ] at n0 n1;refine hK.out _ _ (HS.out _) (fun hHeld => ?_);refine wpAnyH_ready (rs:=[11]) (by kernel_rfl) (by simp) ?_;refine AllReadyH.cons rfl (fun K hK => ?_) AllReadyH.nil;rw [if_pos (by rfl)];go_simp
 go_at_call 49
 have hor:=or_any _ _ _ _ n0 n1;rw [HR.out] at hor;refine hor.mono ?_;rintro e w1 ⟨rfl,rfl⟩;refine hK.out _ _ (HS.out _) (fun hHeld => ?_);refine tA 12 (h:=?_);simp only [tks];refine wpAnyH_done (by kernel_rfl) ?_ _;clear hHeld n0 n1 hn
 go_wp2_with fail
 go_ret
 exact ⟨rfl,1,_,HG.out⟩
end Go.Proofs.YtcekcoepdhnfgaaGreatDoor
