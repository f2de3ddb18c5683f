/- queue: Push and Pop. -/
import Derived.Test.YtcekcoepdhnfgaaGreatDoorRows
import Derived.Test.YtcekcoepdhnfgaaGreatDoorMZ
namespace Go.Proofs.YtcekcoepdhnfgaaGreatDoor
section
open Go Go.RowKit
theorem T_msg:ElemT Tryz.prog 40 36 (.agg #[.string ⟨#[]⟩,.string ⟨#[]⟩,.int .u8 0,.bool false]) 4 40:=⟨Tryz.underlying40, by kernel_rfl,rfl,by decide⟩
def QRep (w:World) (g:Nat) (l:List Msg) (most:Int) (F:List Nat):Prop:=
 ∃ (v:Value) (junk:List Msg),w.heap[g]? = some (.cells #[v,.int .i64 (junk.length:Int),.int .i64 most] 289 (0,0)) ∧
  w.ownsRow 0 36 4 v (junk.length+l.length) (msgs (junk++l))/\junk.length<=l.length/\(l.length:Int)<=most/\0<=most/\most<=1024/\v.ownBlock ≠ some g/\F=g :: v.ownBlock.toList
theorem QRep.lt {w:World} {g:Nat} {l:List Msg} {most:Int} {F:List Nat} (h:QRep w g l most F):∀ k ∈ F,k < w.heap.size:=by
 obtain ⟨v,junk,hg,hown,_,_,_,_,_,rfl⟩:=h;intro k hk;simp only [List.mem_cons,Option.mem_toList] at hk
 rcases hk with rfl | hk
 ·exact (Array.getElem?_eq_some_iff.1 hg).1
 ·exact (hown.lt k hk).2
theorem QRep.local {w w':World} {g:Nat} {l:List Msg} {most:Int} {F:List Nat} (h:QRep w g l most F) (hF:∀ k ∈ F,w'.heap[k]? = w.heap[k]?):QRep w' g l most F:=by
 obtain ⟨v,junk,hg,hown,h1,h2,h3,h4,h5,rfl⟩:=h;refine ⟨v,junk,by rw [hF g (by simp)];exact hg,⟨hown.1,?_⟩,h1,h2,h3,h4,h5,rfl⟩
 rcases hown.2 with hn | ⟨b,cap,cur,rfl,hb,hgg,rest⟩
 ·exact .inl hn
 ·exact .inr ⟨b,cap,cur,rfl,hb,by rw [hF b (by simp [Value.ownBlock])];exact hgg,rest⟩
theorem QRep.mod {S:List Nat} {w w':World} {g:Nat} {l:List Msg} {most:Int} {F:List Nat} (h:QRep w g l most F) (hm:Mod S w w') (hS:∀ k ∈ F,k ∉ S):QRep w' g l most F:=
 h.local fun k hk=>hm.block k (h.lt k hk) (hS k hk)
theorem QRep.drewN {w:World} {g:Nat} {l:List Msg} {most:Int} {F:List Nat} (h:QRep w g l most F) (n:Nat):QRep (w.drewN n) g l most F:=h
theorem qlen_any (g:Nat) (l:List Msg) (most:Int) (F:List Nat) (w:World) (h:QRep w g l most F) :
  Calls Tryz.prog 213 #[.pointer (some ⟨g,0,none⟩)] w fun e w'=>e = .returned (.int .i64 l.length) /\ ∃ m,w'=w.drewN m:=by
 obtain ⟨v,junk,hg,hown,h1,h2,h3,h4,h5,rfl⟩:=h;obtain ⟨a,cap,rfl,hrow,-,-⟩:=ownsRow_row hown;have c0:=cell_of_row w g 0 _ _ _ hg;have c1:=cell_of_row w g 1 _ _ _ hg;simp only [List.getElem?_toArray,List.getElem?_cons_zero,List.getElem?_cons_succ] at c0 c1;clear hown hrow h5 hg
 go_enter Tryz.func213, Tryz.ntmps213
 go_wp2_with fail
 go_quiet (fail)
 go_wp2_with fail
 go_ret
 exact ⟨ret_int (by omega),_,rfl⟩
theorem qlen_of (n:Int) (g:Nat) (l:List Msg) (most:Int) (F:List Nat) (w:World) (h:QRep w g l most F) (hn:(l.length:Int)=n) :
  Calls Tryz.prog 213 #[.pointer (some ⟨g,0,none⟩)] w fun e w'=>e = .returned (.int .i64 n) /\ ∃ m,w'=w.drewN m:=by
 subst hn;exact qlen_any g l most F w h
theorem qroom_any (g:Nat) (l:List Msg) (most:Int) (F:List Nat) (w:World) (h:QRep w g l most F) :
  Calls Tryz.prog 276 #[.pointer (some ⟨g,0,none⟩)] w fun e w'=>e = .returned (.int .i64 (most - l.length)) /\ ∃ m,w'=w.drewN m:=by
 have H:=hyd h;obtain ⟨v,junk,hg,hown,h1,h2,h3,h4,h5,-⟩:=h;have c2:=cell_of_row w g 2 _ _ _ hg;simp only [List.getElem?_toArray,List.getElem?_cons_zero,List.getElem?_cons_succ] at c2;clear hown h5 hg
 go_enter Tryz.func276, Tryz.ntmps276
 go_wp2_with fail
 go_quiet ((go_at_call 213;exact Calls.quiet_of (qlen_any g l most F _ (H.out.drewN _))))
 go_wp2_with fail
 go_ret
 exact ⟨rfl,_,rfl⟩
theorem qnew_any (most:Int) (w:World) (hm:1<=most/\most<=1024) :
  Calls Tryz.prog 259 #[.int .i64 most] w fun e w' => ∃ g,e = .returned (.pointer (some ⟨g,0,none⟩))/\QRep w' g [] most [g]/\Upd [] [g] w w':=by
 obtain ⟨h1,h2⟩:=hm
 go_enter Tryz.func259, Tryz.ntmps259
 go_wp2_with fail
 go_ret
 refine ⟨_,rfl,?_,(Mod.refl _ _).alloc _,by simp⟩;refine ⟨.slice none 0 0,[],heap_alloc_new _ _,World.ownsRow_nil _ _ _ _,by simp,by simp;omega,by omega,h2,by simp [Value.ownBlock],rfl⟩
theorem qpush_full (g:Nat) (l:List Msg) (most:Int) (F:List Nat) (m:Msg) (w:World) (h:QRep w g l most F) (hl:(l.length:Int)=most) :
  Calls Tryz.prog 212 #[.pointer (some ⟨g,0,none⟩),m.val] w fun e w'=>e = .returned (.bool false)/\QRep w' g l most F/\Upd F F w w':=by
 have H:=hyd (h.mod ((Mod.refl [] w).alloc (.cells m.cells.toArray 36)) (by simp));have hz:(most - (l.length:Int) == 0)=true:=by simp;omega
 have HM:=hyd ((Mod.refl F w).alloc (.cells m.cells.toArray 36));clear h hl;obtain ⟨mt,mp,mq,mr⟩:=m;unfold Msg.val
 go_enter Tryz.func212, Tryz.ntmps212
 go_wp2_with fail
 refine (qroom_any g l most F _ H.out).mono ?_;rintro e w1 ⟨rfl,n,rfl⟩
 go_wp2_with fail
 go_ret
 exact ⟨rfl,H.out.drewN _,HM.out.drewN _,fun k hk => .inl hk⟩
theorem qpush_fin {w W1 w2:World} {o:Obj} {g g' cap:Nat} {v:Value} {junk l:List Msg} {m:Msg} {most:Int} (hg:W1.heap[g]? = some (.cells #[v,.int .i64 (junk.length:Int),.int .i64 most] 289 (0,0)))
  (hgr:(W1.alloc o).grownBy w2 v.ownBlock) (hg2:w2.heap[g]? = some (.cells #[v,.int .i64 (junk.length:Int),.int .i64 most] 289 (0,0)))
  (hown:w2.ownsRow 0 36 4 (.slice (some ⟨g',0,none⟩) (junk.length+l.length+1) cap) (junk.length+l.length+1) (msgs (junk++l)++m.cells)) (hat:v.ownBlock=some g' \/ g'=(W1.alloc o).heap.size)
  (hM:Mod (g :: v.ownBlock.toList) w W1) (h1:junk.length<=l.length) (h2:(l.length:Int) < most) (h3:0<=most) (h4:most<=1024) (h5:v.ownBlock ≠ some g) :
  ∃ F',QRep (w2.setCell ⟨g,0,none⟩ (.slice (some ⟨g',0,none⟩) (junk.length+l.length+1) cap)) g (l ++ [m]) most F'/\Upd (g :: v.ownBlock.toList) F' w (w2.setCell ⟨g,0,none⟩ (.slice (some ⟨g',0,none⟩) (junk.length+l.length+1) cap)):=by
 have hgl:g < W1.heap.size:=(Array.getElem?_eq_some_iff.1 hg).1
 have hne:g' ≠ g:=by
  rcases hat with h | h
  ·rintro rfl;exact h5 h
  ·simp at h;omega
 refine ⟨[g,g'],⟨.slice (some ⟨g',0,none⟩) (junk.length+l.length+1) cap,junk,?_,?_,by simp;omega,by simp;omega,h3,h4,?_,rfl⟩,?_,?_⟩
 ·rw [heap_setCell_same w2 g 0 _ _ _ hg2];rfl
 ·have e:msgs (junk++(l ++ [m]))=msgs (junk++l)++m.cells:=by simp [msgs]
  rw [e,List.length_append,List.length_singleton,<- Nat.add_assoc]
  exact ownsRow_local hown fun k hk=>by
   simp only [Value.ownBlock,Option.some.injEq] at hk;subst hk;exact heap_setCell_other w2 _ _ _ hne
 ·simp only [Value.ownBlock];intro h;exact hne (Option.some.inj h)
 ·refine ((hM.alloc o).grown hgr ?_).setCell (.inl (by simp)) _
  intro k hk;left;simp [hk]
 ·intro k hk
  simp only [List.mem_cons,List.not_mem_nil,or_false] at hk
  rcases hk with rfl | rfl
  ·left;simp
  ·rcases hat with h | h
   ·left;simp [h]
   ·right;have:=hM.size;simp at h;omega
set_option maxHeartbeats 1000000
theorem qpush_room (g:Nat) (l:List Msg) (most:Int) (F:List Nat) (m:Msg) (w:World) (h:QRep w g l most F) (hl:(l.length:Int) < most) :
  Calls Tryz.prog 212 #[.pointer (some ⟨g,0,none⟩),m.val] w fun e w'=>e = .returned (.bool true) /\ ∃ F',QRep w' g (l ++ [m]) most F'/\Upd F F' w w':=by
 have H:=hyd (h.mod ((Mod.refl [] w).alloc (.cells m.cells.toArray 36)) (by simp));have hz:(most - (l.length:Int) == 0)=false:=by simp;omega
 have HM:=hyd ((Mod.refl F w).alloc (.cells m.cells.toArray 36));clear h;obtain ⟨mt,mp,mq,mr⟩:=m;unfold Msg.val
 go_enter Tryz.func212, Tryz.ntmps212
 go_wp2_with fail
 refine (qroom_any g l most F _ H.out).mono ?_;rintro e w1 ⟨rfl,n,rfl⟩;have hbox:((w.alloc (.cells (Msg.cells ⟨mt,mp,mq,mr⟩).toArray 36)).drewN n).heap[w.heap.size]? = some (.cells #[.string mt,.string mp,.int .u8 mq,.bool mr] 36 (0,0)):=heap_alloc_new w _;have hQ:=H.out.drewN n;have hM:=HM.out.drewN n;clear H HM;generalize (w.alloc (.cells (Msg.cells ⟨mt,mp,mq,mr⟩).toArray 36)).drewN n=W1 at *;have k0:=cell_of_row W1 w.heap.size 0 _ _ _ hbox;have k1:=cell_of_row W1 w.heap.size 1 _ _ _ hbox;have k2:=cell_of_row W1 w.heap.size 2 _ _ _ hbox;have k3:=cell_of_row W1 w.heap.size 3 _ _ _ hbox;simp only [List.getElem?_toArray,List.getElem?_cons_zero,List.getElem?_cons_succ] at k0 k1 k2 k3;obtain ⟨v,junk,hg,hown,h1,h2,h3,h4,h5,rfl⟩:=hQ;have c0:=cell_of_row W1 g 0 _ _ _ hg;have f0:=frozen_of_row W1 g 0 _ _ hg;simp only [List.getElem?_toArray,List.getElem?_cons_zero] at c0;have hgl:g < W1.heap.size:=(Array.getElem?_eq_some_iff.1 hg).1;have HG:=hyd hg;have H5:=hyd h5;clear hg hbox h5
 go_wp2_with fail
 go_region_law ((
  refine step_app T_msg (by exact (hown.alloc _).drew) (by exact heap_alloc_new W1 _) rfl rfl rfl rfl rfl (by decide) (by simp [Value.oneCell']) (by omega) (by omega) (by omega) ?_;intro g' cap' w2 hown2 hgrow hat hlt;have hg2:=hyd (grown_keep (W1:=W1.drew) hgrow HG.out H5.out);have c2:=cell_of_row w2 g 0 _ _ _ hg2.out;have f2:=frozen_of_row w2 g 0 _ _ hg2.out
  simp only [List.getElem?_toArray,List.getElem?_cons_zero] at c2))
 all_goals
  clear c0 f0 k0 k1 k2 k3 c2 f2
  go_wp2_with fail
  go_ret
  exact ⟨rfl,qpush_fin (W1:=W1.drew) (m:=⟨mt,mp,mq,mr⟩) HG.out hgrow hg2.out hown2 hat hM.drew h1 hl h3 h4 H5.out⟩
end
section
open Go Go.RowKit
theorem msg_size:(Tryz.prog.info? 36).map (·.size)=some 4:=by kernel_rfl
theorem qpeek_empty (g:Nat) (most:Int) (F:List Nat) (w:World) (h:QRep w g [] most F) :
  Calls Tryz.prog 131 #[.pointer (some ⟨g,0,none⟩)] w fun e w'=>e = .returned (.tuple #[Msg.none.val,.bool false])/\Below w.heap.size w w':=by
 have H:=hyd (h.mod ((Mod.refl [] w).alloc (.cells #[.string ⟨#[]⟩,.string ⟨#[]⟩,.int .u8 0,.bool false] 36)) (by simp));clear h
 go_enter Tryz.func131, Tryz.ntmps131
 go_wp2_with fail
 refine (qlen_of 0 g [] most F _ H.out rfl).mono ?_;rintro e w1 ⟨rfl,n,rfl⟩
 go_wp2_with fail
 have hr:((w.alloc (.cells #[.string ⟨#[]⟩,.string ⟨#[]⟩,.int .u8 0,.bool false] 36)).drewN n).heap[w.heap.size]? = some (.cells #[.string ⟨#[]⟩,.string ⟨#[]⟩,.int .u8 0,.bool false] 36 (0,0)):=heap_alloc_new w _;obtain ⟨s1,s2⟩:=set4 (x:=.string ⟨#[]⟩) (y:=.string ⟨#[]⟩) (z:=.int .u8 0) (u:=.bool false) hr;exact bodyPost_ret (results_row_tmp rfl rfl s1 Tryz.underlying36 rfl msg_size) rfl ⟨rfl,((((Mod.refl [w.heap.size] w).alloc _).drewN n).trans s2 (by simp)).below (Nat.le_refl _) (by simp)⟩
set_option maxHeartbeats 1000000
theorem qpeek_some (g:Nat) (m:Msg) (l:List Msg) (most:Int) (F:List Nat) (w:World) (h:QRep w g (m :: l) most F) :
  Calls Tryz.prog 131 #[.pointer (some ⟨g,0,none⟩)] w fun e w'=>e = .returned (.tuple #[m.val,.bool true])/\Below w.heap.size w w':=by
 have H:=hyd (h.mod ((Mod.refl [] w).alloc (.cells #[.string ⟨#[]⟩,.string ⟨#[]⟩,.int .u8 0,.bool false] 36)) (by simp));clear h;have hz:((l.length:Int)+1 == 0)=false:=by simp;omega
 go_enter Tryz.func131, Tryz.ntmps131
 go_wp2_with fail
 refine (qlen_of ((l.length:Int)+1) g (m :: l) most F _ H.out (by simp)).mono ?_;rintro e w1 ⟨rfl,n,rfl⟩;have hQ:=H.out.drewN n;have hr:((w.alloc (.cells #[.string ⟨#[]⟩,.string ⟨#[]⟩,.int .u8 0,.bool false] 36)).drewN n).heap[w.heap.size]? = some (.cells #[.string ⟨#[]⟩,.string ⟨#[]⟩,.int .u8 0,.bool false] 36 (0,0)):=heap_alloc_new w _;have hM:=((Mod.refl [w.heap.size] w).alloc (.cells #[.string ⟨#[]⟩,.string ⟨#[]⟩,.int .u8 0,.bool false] 36)).drewN n;clear H;generalize (w.alloc (.cells #[.string ⟨#[]⟩,.string ⟨#[]⟩,.int .u8 0,.bool false] 36)).drewN n=W1 at *;obtain ⟨v,junk,hg,hown,h1,h2,h3,h4,h5,-⟩:=hQ;obtain ⟨a,cap,rfl,hrow,hc1,hc2⟩:=ownsRow_row hown;obtain ⟨b,off,rfl,k0,k1,k2,k3⟩:=msgs_row hrow (k:=junk.length) (m:=m) (by simp);obtain ⟨mt,mp,mq,mr⟩:=m;obtain ⟨c0,c1,-⟩:=cells3 hg;obtain ⟨r0,r1,r2,r3⟩:=cells4 hr;obtain ⟨f0,f1,f2,f3⟩:=free4 hr;simp only [List.length_cons] at c0;have hj0:(0:Int)<=junk.length:=by omega
 have hj1:(junk.length:Int) < (junk.length:Int)+((l.length:Int)+1):=by omega
 have HR:=hyd hr;clear hrow hown hg h5 hr
 go_wp2_with fail
 go_region_with ((fail))
 all_goals
  clear c0 c1 r0 r1 r2 r3 f0 f1 f2 f3 k0 k1 k2 k3
  go_wp2_with fail
  obtain ⟨s1,s2⟩:=set4 (x:=.string mt) (y:=.string mp) (z:=.int .u8 mq) (u:=.bool mr) HR.out;exact bodyPost_ret (results_row_tmp (cs:=#[.string mt,.string mp,.int .u8 mq,.bool mr]) rfl rfl (by exact s1) Tryz.underlying36 rfl msg_size) rfl ⟨rfl,((hM.trans s2 (by simp)).drew).below (Nat.le_refl _) (by simp)⟩
theorem set4at {w:World} {g:Nat} {x y z u:Value} {T:TypeId} {cur:Array Value} (o:Nat) (h:w.heap[g]? = some (.cells cur T (0,0))) :
  ((((w.setCell ⟨g,o,none⟩ x).setCell ⟨g,o+1,none⟩ y).setCell ⟨g,o+2,none⟩ z).setCell ⟨g,o+3,none⟩ u).heap[g]? = some (.cells ((((cur.setIfInBounds o x).setIfInBounds (o+1) y).setIfInBounds (o+2) z).setIfInBounds (o+3) u) T (0,0)) ∧
  Mod [g] w ((((w.setCell ⟨g,o,none⟩ x).setCell ⟨g,o+1,none⟩ y).setCell ⟨g,o+2,none⟩ z).setCell ⟨g,o+3,none⟩ u):=by
 constructor
 ·have h1:=heap_setCell_same w g o _ _ x h
  have h2:=heap_setCell_same _ g (o+1) _ _ y h1;have h3:=heap_setCell_same _ g (o+2) _ _ z h2;have h4:=heap_setCell_same _ g (o+3) _ _ u h3;exact h4
 ·exact ((((Mod.refl [g] w).setCell (.inl (by simp)) _).setCell (.inl (by simp)) _).setCell (.inl (by simp)) _).setCell (.inl (by simp)) _
theorem msgs_set (A:List Msg) (m m':Msg) (B:List Msg) (L:List Value) (n:Nat) (h:L.take n=msgs (A++m :: B)) :
  ((((L.set (A.length * 4) (.string m'.t)).set (A.length * 4+1) (.string m'.p)).set (A.length * 4+2) (.int .u8 m'.q)).set (A.length * 4+3) (.bool m'.r)).take n=msgs (A++m' :: B):=by
 rw [List.take_set,List.take_set,List.take_set,List.take_set,h];have e:∀ x:Msg,msgs (A++x :: B)=msgs A++(x.cells++msgs B):=fun x=>by simp [msgs]
 have hl:=msgs_length A;rw [e,e,List.set_append_right _ _ (by omega),List.set_append_right _ _ (by omega),List.set_append_right _ _ (by omega),List.set_append_right _ _ (by omega)];have h0:A.length * 4 - (msgs A).length=0:=by omega
 have h1:A.length * 4+1 - (msgs A).length=1:=by omega
 have h2:A.length * 4+2 - (msgs A).length=2:=by omega
 have h3:A.length * 4+3 - (msgs A).length=3:=by omega
 rw [h0,h1,h2,h3]
 rfl
theorem qpop_empty (g:Nat) (most:Int) (F:List Nat) (w:World) (h:QRep w g [] most F) :
  Calls Tryz.prog 132 #[.pointer (some ⟨g,0,none⟩)] w fun e w'=>e = .returned (.tuple #[Msg.none.val,.bool false])/\Below w.heap.size w w':=by
 have H:=hyd (h.mod ((Mod.refl [] w).alloc (.cells #[.string ⟨#[]⟩,.string ⟨#[]⟩,.int .u8 0,.bool false] 36)) (by simp));clear h
 go_enter Tryz.func132, Tryz.ntmps132
 go_wp2_with fail
 refine (qpeek_empty g most F _ H.out).mono ?_;rintro e W1 ⟨rfl,hk⟩
 have hr:W1.heap[w.heap.size]? = some (.cells #[.string ⟨#[]⟩,.string ⟨#[]⟩,.int .u8 0,.bool false] 36 (0,0)):=by
  rw [hk.block w.heap.size (by simp)];exact heap_alloc_new w _
 have hb:=bnext ((Below.refl w.heap.size w).alloc (Nat.le_refl _) (.cells #[.string ⟨#[]⟩,.string ⟨#[]⟩,.int .u8 0,.bool false] 36)) (Nat.le_refl _) hk;clear hk H;obtain ⟨r0,r1,r2,r3⟩:=cells4 hr;obtain ⟨f0,f1,f2,f3⟩:=free4 hr;have hlt:=(Array.getElem?_eq_some_iff.1 hr).1;have HR:=hyd hr;clear hr;unfold Msg.val Msg.none
 go_wp2_with fail
 obtain ⟨s1,s2⟩:=set4 (x:=.string ⟨#[]⟩) (y:=.string ⟨#[]⟩) (z:=.int .u8 0) (u:=.bool false) HR.out;exact bodyPost_ret (results_row_tmp (cs:=#[.string ⟨#[]⟩,.string ⟨#[]⟩,.int .u8 0,.bool false]) rfl rfl ((Below.heap_alloc _ _ _ (Array.getElem?_eq_some_iff.1 s1).1).trans s1) Tryz.underlying36 rfl msg_size) rfl ⟨rfl,(((Mod.refl [w.heap.size] w).next hb).trans s2 (by simp)).alloc _ |>.below (Nat.le_refl _) (by simp)⟩
end
section
open Go Go.RowKit
structure PopF (g b r s:Nat) (v a:Value) (cap:Nat) (most:Int) (m:Msg) (k:Nat) (L:List Msg) (W:World):Prop where
 hg:W.heap[g]? = some (.cells #[v,a,.int .i64 most] 289 (0,0))
 hb:∃ cur,W.heap[b]? = some (.cells cur 36 (0,0))/\cur.size=cap * 4/\cur.toList.take k=msgs L
 hr:W.heap[r]? = some (.cells #[.string ⟨#[]⟩,.string ⟨#[]⟩,.int .u8 0,.bool false] 36 (0,0))
 hs:W.heap[s]? = some (.cells m.cells.toArray 36 (0,0))
theorem PopF.row {g b r s:Nat} {v a:Value} {cap:Nat} {most:Int} {m:Msg} {k:Nat} {L L':List Msg} {W W':World} {cur':Array Value} {k':Nat} (h:PopF g b r s v a cap most m k L W) (hM:Mod [b] W W') (h1:g ≠ b) (h2:r ≠ b) (h3:s ≠ b)
  (hb:W'.heap[b]? = some (.cells cur' 36 (0,0))) (hc:cur'.size=cap * 4) (ht:cur'.toList.take k'=msgs L'):PopF g b r s v a cap most m k' L' W':=
 ⟨by rw [hM.block g (Array.getElem?_eq_some_iff.1 h.hg).1 (by simpa using h1)];exact h.hg,⟨cur',hb,hc,ht⟩,
  by rw [hM.block r (Array.getElem?_eq_some_iff.1 h.hr).1 (by simpa using h2)];exact h.hr,by rw [hM.block s (Array.getElem?_eq_some_iff.1 h.hs).1 (by simpa using h3)];exact h.hs⟩
theorem PopF.head {g b r s:Nat} {v a v' a':Value} {cap:Nat} {most:Int} {m:Msg} {k:Nat} {L:List Msg} {W W':World} (h:PopF g b r s v a cap most m k L W) (hM:Mod [g] W W') (h1:b ≠ g) (h2:r ≠ g) (h3:s ≠ g)
  (hg:W'.heap[g]? = some (.cells #[v',a',.int .i64 most] 289 (0,0))):PopF g b r s v' a' cap most m k L W':=by
 obtain ⟨cur,c1,c2,c3⟩:=h.hb
 exact ⟨hg,⟨cur,by rw [hM.block b (Array.getElem?_eq_some_iff.1 c1).1 (by simpa using h1)];exact c1,c2,c3⟩,
  by rw [hM.block r (Array.getElem?_eq_some_iff.1 h.hr).1 (by simpa using h2)];exact h.hr,by rw [hM.block s (Array.getElem?_eq_some_iff.1 h.hs).1 (by simpa using h3)];exact h.hs⟩
theorem PopF.drew {g b r s:Nat} {v a:Value} {cap:Nat} {most:Int} {m:Msg} {k:Nat} {L:List Msg} {W:World} (h:PopF g b r s v a cap most m k L W):PopF g b r s v a cap most m k L W.drew:=⟨h.hg,h.hb,h.hr,h.hs⟩
theorem PopF.drewN {g b r s:Nat} {v a:Value} {cap:Nat} {most:Int} {m:Msg} {k:Nat} {L:List Msg} {W:World} (h:PopF g b r s v a cap most m k L W) (n:Nat):PopF g b r s v a cap most m k L (W.drewN n):=⟨h.hg,h.hb,h.hr,h.hs⟩
theorem PopF.row4 {g b r s:Nat} {v a:Value} {cap:Nat} {most:Int} {m x:Msg} {k:Nat} {L:List Msg} {W:World} (h:PopF g b r s v a cap most m k L W) {j:Nat} (hj:L[j]? = some x) :
  W.cell? ⟨b,j * 4,none⟩=some (.string x.t)/\W.cell? ⟨b,j * 4+1,none⟩=some (.string x.p)/\W.cell? ⟨b,j * 4+2,none⟩=some (.int .u8 x.q)/\W.cell? ⟨b,j * 4+3,none⟩=some (.bool x.r) ∧
  W.frozen? ⟨b,j * 4,none⟩=false/\W.frozen? ⟨b,j * 4+1,none⟩=false/\W.frozen? ⟨b,j * 4+2,none⟩=false/\W.frozen? ⟨b,j * 4+3,none⟩=false:=by
 obtain ⟨cur,c1,c2,c3⟩:=h.hb;obtain ⟨m0,m1,m2,m3⟩:=msgs_at L j x hj
 have e:∀ i u,(msgs L)[i]? = some u->W.cell? ⟨b,i,none⟩=some u:=fun i u hi=>by
  rw [cell_of_row W b i _ _ _ c1,<- Array.getElem?_toList];rw [<- c3,List.getElem?_take] at hi
  split at hi
  ·exact hi
  ·cases hi
 exact ⟨e _ _ m0,e _ _ m1,e _ _ m2,e _ _ m3,frozen_of_row W b _ _ _ c1,frozen_of_row W b _ _ _ c1,frozen_of_row W b _ _ _ c1,frozen_of_row W b _ _ _ c1⟩
theorem tail_cells {W:World} {b:Nat} {cur:Array Value} {T:TypeId} {fr:Nat × Nat} {n:Nat} {A l:List Msg} {x:Msg} (h:W.heap[b]? = some (.cells cur T fr)) (ht:cur.toList.take n=msgs (A++x :: l)) :
  ∀ j v,(msgs l)[j]? = some v->W.cell? ((⟨b,(A.length+1) * 4,none⟩:Addr).add j)=some v:=by
 intro j v hv;have e1:(⟨b,(A.length+1) * 4,none⟩:Addr).add j=⟨b,(A.length+1) * 4+j,none⟩:=by unfold Addr.add;split <;> simp_all
 have e2:msgs (A++x :: l)=msgs (A ++ [x])++msgs l:=by simp [msgs]
 have e3:(msgs (A ++ [x])).length=(A.length+1) * 4:=by rw [msgs_length];simp
 have h1:(cur.toList.take n)[(A.length+1) * 4+j]? = some v:=by
  rw [ht,e2,List.getElem?_append_right (by omega),e3,Nat.add_sub_cancel_left];exact hv
 rw [e1,cell_of_row W b _ _ _ _ h,<- Array.getElem?_toList];rw [List.getElem?_take] at h1
 split at h1
 ·exact h1
 ·cases h1
theorem pop_fin {g b r s n cap:Nat} {most:Int} {m:Msg} {junk l:List Msg} {W:World} (hP:PopF g b r s (.slice (some ⟨b,0,none⟩) n cap) (.int .i64 (junk.length:Int)) cap most m (n * 4) (junk++l) W)
  (hn:n=junk.length+l.length) (hncap:n<=cap) (hcm:cap<=maxLen) (h1:junk.length<=l.length) (h2:(l.length:Int)<=most) (h3:0<=most) (h4:most<=1024) (hgb:g ≠ b):QRep W g l most [g,b]:=by
 subst hn;obtain ⟨cur,c1,c2,c3⟩:=hP.hb;exact ⟨_,junk,hP.hg,⟨by rw [msgs_length,List.length_append],.inr ⟨b,cap,cur,rfl,Nat.zero_le _,c1,hncap,hcm,c2,c3⟩⟩,h1,h2,h3,h4,by simp [Value.ownBlock];exact Ne.symm hgb,rfl⟩
set_option maxRecDepth 100000
set_option maxHeartbeats 4000000
theorem qpop_some (g:Nat) (m:Msg) (l:List Msg) (most:Int) (F:List Nat) (w:World) (h:QRep w g (m :: l) most F) :
  Calls Tryz.prog 132 #[.pointer (some ⟨g,0,none⟩)] w fun e w'=>e = .returned (.tuple #[m.val,.bool true]) /\ ∃ F',QRep w' g l most F'/\Upd F F' w w':=by
 have H:=hyd (h.mod ((Mod.refl [] w).alloc (.cells #[.string ⟨#[]⟩,.string ⟨#[]⟩,.int .u8 0,.bool false] 36)) (by simp))
 go_enter Tryz.func132, Tryz.ntmps132
 go_wp2_with fail
 refine (qpeek_some g m l most F _ H.out).mono ?_;rintro e W1 ⟨rfl,hk⟩
 have hr:W1.heap[w.heap.size]? = some (.cells #[.string ⟨#[]⟩,.string ⟨#[]⟩,.int .u8 0,.bool false] 36 (0,0)):=by
  rw [hk.block w.heap.size (by simp)];exact heap_alloc_new w _
 have hb:=bnext ((Below.refl w.heap.size w).alloc (Nat.le_refl _) (.cells #[.string ⟨#[]⟩,.string ⟨#[]⟩,.int .u8 0,.bool false] 36)) (Nat.le_refl _) hk;have hlt:w.heap.size < W1.heap.size:=(Array.getElem?_eq_some_iff.1 hr).1;obtain ⟨v,junk,hg,hown,h1,h2,h3,h4,h5,rfl⟩:=h;have hgl:g < w.heap.size:=(Array.getElem?_eq_some_iff.1 hg).1
 rcases hown.2 with ⟨-,hn0⟩ | ⟨b,cap,cur,rfl,-,hbb,hnc,hcm,hcs,htk⟩
 ·simp at hn0
 have hbl:b < w.heap.size:=(Array.getElem?_eq_some_iff.1 hbb).1;have hgb:g ≠ b:=fun e=>h5 (by rw [e];rfl)
 have HP:=hyd (show PopF g b w.heap.size W1.heap.size (.slice (some ⟨b,0,none⟩) (junk.length+(l.length+1)) cap) (.int .i64 (junk.length:Int)) cap most m ((junk.length+(l.length+1)) * 4) (junk++m :: l) (W1.alloc (.cells m.cells.toArray 36)) from
  ⟨(Below.heap_alloc W1 _ g (by omega)).trans ((hb.block g hgl).trans hg),⟨cur,(Below.heap_alloc W1 _ b (by omega)).trans ((hb.block b hbl).trans hbb),hcs,htk⟩,(Below.heap_alloc W1 _ _ hlt).trans hr,heap_alloc_new W1 _⟩)
 have HM:=hyd (((Mod.of_below hb [g,b])).alloc (.cells m.cells.toArray 36));simp only [List.length_cons] at h1 h2 hnc;clear hk hb hr hg hown h5 hbb hcs htk H;obtain ⟨mt,mp,mq,mr⟩:=m;unfold Msg.val
 go_wp2_with fail
 refine (?_:∀ W:World,PopF g b w.heap.size W1.heap.size (.slice (some ⟨b,0,none⟩) (junk.length+(l.length+1)) cap) (.int .i64 (junk.length:Int)) cap most ⟨mt,mp,mq,mr⟩ ((junk.length+(l.length+1)) * 4) (junk++⟨mt,mp,mq,mr⟩ :: l) W->Mod [g,b] w W->Code.wp _ _ _ _ W) _ HP.out HM.out;clear HP HM;intro W2 hP hM;obtain ⟨c0,c1,-⟩:=cells3 hP.hg;obtain ⟨k0,k1,k2,k3,f0,f1,f2,f3⟩:=hP.row4 (j:=junk.length) (x:=⟨mt,mp,mq,mr⟩) (by simp);have HP:=hyd hP;have hj0:(0:Int)<=junk.length:=by omega
 have hj1:(junk.length:Int) < (junk.length:Int)+((l.length:Int)+1):=by omega
 clear hP
 go_region_with ((fail))
 all_goals
  have T4:=set4at (x:=.string ⟨#[]⟩) (y:=.string ⟨#[]⟩) (z:=.int .u8 0) (u:=.bool false) (junk.length * 4) (HP.out.hb.choose_spec.1);obtain ⟨s1,s2⟩:=T4;obtain ⟨c1',c2',c3'⟩:=HP.out.hb.choose_spec
  have hP3:=HP.out.row s2 hgb (by omega) (by omega) s1 (by simpa using c2') (by
   have e:=msgs_set junk ⟨mt,mp,mq,mr⟩ Msg.none l _ _ c3';simp only [Array.toList_setIfInBounds]
   exact e)
  have hM3:=hM.trans s2 (by simp);clear c1' c2' c3' s1 s2 c0 c1 k0 k1 k2 k3 f0 f1 f2 f3;refine (?_:∀ W:World,PopF g b w.heap.size W1.heap.size (.slice (some ⟨b,0,none⟩) (junk.length+(l.length+1)) cap) (.int .i64 (junk.length:Int)) cap most ⟨mt,mp,mq,mr⟩ ((junk.length+(l.length+1)) * 4) (junk++Msg.none :: l) W->Mod [g,b] w W->Exit.then _ _ Exit.normal _ W) _ hP3.drew hM3.drew;clear hP3 hM3 HP hM W2;intro W3 hP hM;obtain ⟨c0,c1,c2⟩:=cells3 hP.hg;obtain ⟨f0,f1,-,-⟩:=free4 hP.hg;have HP:=hyd hP;clear hP
  go_wp2_with fail
  have hP4:=HP.out.head (v':=.slice (some ⟨b,0,none⟩) (junk.length+(l.length+1)) cap) (a':=.int .i64 ((junk.length:Int)+1)) ((Mod.refl [g] W3).setCell (p:=⟨g,1,none⟩) (.inl (by simp)) (.int .i64 ((junk.length:Int)+1))) (Ne.symm hgb) (by omega) (by omega) (heap_setCell_same W3 g 1 _ _ (.int .i64 ((junk.length:Int)+1)) HP.out.hg);have hM4:=hM.setCell (p:=⟨g,1,none⟩) (.inl (by simp)) (.int .i64 ((junk.length:Int)+1));refine (?_:∀ W:World,PopF g b w.heap.size W1.heap.size (.slice (some ⟨b,0,none⟩) (junk.length+(l.length+1)) cap) (.int .i64 ((junk.length:Int)+1)) cap most ⟨mt,mp,mq,mr⟩ ((junk.length+(l.length+1)) * 4) (junk++Msg.none :: l) W->Mod [g,b] w W->Code.wp _ _ _ _ W) _ hP4 hM4;clear hP4 hM4 HP hM c0 c1 c2 f0 f1 W3;intro W4 hP hM;obtain ⟨c0,c1,c2⟩:=cells3 hP.hg;obtain ⟨r0,r1,r2,r3⟩:=cells4 hP.hr;obtain ⟨s0,s1,s2,s3⟩:=cells4 (a:=.string mt) (b:=.string mp) (c:=.int .u8 mq) (d:=.bool mr) hP.hs;obtain ⟨f0,f1,f2,f3⟩:=free4 hP.hr;have HP:=hyd hP;clear hP
  by_cases hc:(l.length:Int)<=(junk.length:Int)+1
  ·go_quiet (fail)
   rename_i nq
   have HP:=hyd (HP.out.drewN nq);have hM:=hM.drewN nq;have hncap:(junk.length:Int)+((l.length:Int)+1)<=cap:=by omega
   have hj2:(junk.length:Int)+1<=(junk.length:Int)+((l.length:Int)+1):=by omega
   have hj3:(0:Int)<=(junk.length:Int)+1:=by omega
   by_cases hcap:cap=junk.length+1
   ·subst hcap
    have hl0:l.length=0:=by omega
    have HL0:=hyd hl0;have hl0':l.length<=0:=by omega
    clear hl0
    go_wp2_with fail
    obtain ⟨cur,b1,b2,b3⟩:=HP.out.hb;have g2:(msgs l).length=l.length * 4:=msgs_length l
    go_region_law ((
     refine step_copy T_msg (cs:=msgs l) rfl rfl rfl rfl b1 ?_ ?_ ?_ ?_ (msgs_one l) ?_
     ·rw [g2];omega
     ·omega
     ·exact fun j v hj=>by rw [List.eq_nil_of_length_eq_zero HL0.out] at hj;simp [msgs] at hj
     ·omega
     intro W6 cur6 d1 d2 d3 d4))
    all_goals
     have hP6:=HP.out.drew.row d4 hgb (by omega) (by omega) d1 (d2.trans b2) (d3.trans rfl);have hM6:=hM.drew.trans d4 (by simp);obtain ⟨c0,c1,c2⟩:=cells3 hP6.hg;have HP:=hyd hP6;clear hP6;have hcl:¬ junk.length+1=l.length:=by omega
     have hnl:(l.length:Int)<=(junk.length:Int)+((l.length:Int)+1):=by omega
     obtain ⟨cur2,e1,e2,e3⟩:=HP.out.hb;have g3:0+(junk.length+(l.length+1)) * 4<=cur2.size:=by omega
     have E2:=hyd e2;have E3:=hyd e3;clear e2 e3
     go_wp2_with (refine wpList_clear T_msg (off:=0) (by decide) rfl rfl rfl (fun _=>rfl) e1 g3 ?_)
     intro W7 cur7 m1 m2 m4;have hP7:=HP.out.row (k':=0) (L':=[]) m4 hgb (by omega) (by omega) m1 (m2.trans E2.out) (by simp [msgs]);have hM7:=hM6.trans m4 (by simp);clear HP hM6 c0 c1 c2 e1 E2 E3 g3 m1 m2 m4 d1 d2 d3 d4;obtain ⟨c0,c1,c2⟩:=cells3 hP7.hg;obtain ⟨f0,f1,-,-⟩:=free4 hP7.hg;obtain ⟨r0,r1,r2,r3⟩:=cells4 hP7.hr;obtain ⟨s0,s1,s2,s3⟩:=cells4 (a:=.string mt) (b:=.string mp) (c:=.int .u8 mq) (d:=.bool mr) hP7.hs;obtain ⟨j0,j1,j2,j3⟩:=free4 hP7.hr;have HP:=hyd hP7;clear hP7;have hgr:¬ g=w.heap.size:=by omega
     have hgs:¬ g=W1.heap.size:=by omega
     go_wp2_with fail
     have hP8:=HP.out.head (v':=.slice (some ⟨b,0,none⟩) 0 (junk.length+1)) (a':=.int .i64 ((junk.length:Int)+1)) ((Mod.refl [g] W7).setCell (p:=⟨g,0,none⟩) (.inl (by simp)) _) (Ne.symm hgb) (by omega) (by omega) (heap_setCell_same W7 g 0 _ _ _ HP.out.hg);have hP9:=hP8.head (v':=.slice (some ⟨b,0,none⟩) 0 (junk.length+1)) (a':=.int .i64 0) ((Mod.refl [g] _).setCell (p:=⟨g,1,none⟩) (.inl (by simp)) _) (Ne.symm hgb) (by omega) (by omega) (heap_setCell_same _ g 1 _ _ _ hP8.hg);have hM9:=(hM7.setCell (p:=⟨g,0,none⟩) (.inl (by simp)) (.slice (some ⟨b,0,none⟩) 0 (junk.length+1))).setCell (p:=⟨g,1,none⟩) (.inl (by simp)) (.int .i64 0);obtain ⟨t1,t2⟩:=set4 (x:=.string mt) (y:=.string mp) (z:=.int .u8 mq) (u:=.bool mr) hP9.hr;refine bodyPost_ret (results_row_tmp (cs:=#[.string mt,.string mp,.int .u8 mq,.bool mr]) rfl rfl (by exact t1) Tryz.underlying36 rfl msg_size) rfl ⟨rfl,[g,b],?_,(hM9.trans t2 (by simp)),fun k hk => .inl (by simpa [Value.ownBlock] using hk)⟩;obtain rfl:=List.eq_nil_of_length_eq_zero HL0.out;exact (pop_fin (junk:=[]) (l:=[]) (by simpa using hP9) (by simp) (by omega) hcm (by simp) (by omega) h3 h4 hgb).mod t2 (by simp;omega)
   ·go_wp2_with fail
    obtain ⟨cur,b1,b2,b3⟩:=HP.out.hb;have g1:=tail_cells b1 b3;have g2:(msgs l).length=l.length * 4:=msgs_length l
    go_region_law ((
     refine step_copy T_msg (cs:=msgs l) rfl rfl rfl rfl b1 ?_ ?_ ?_ ?_ (msgs_one l) ?_
     ·rw [g2];omega
     ·omega
     ·exact g1
     ·omega
     intro W6 cur6 d1 d2 d3 d4))
    all_goals
     have hP6:=HP.out.drew.row d4 hgb (by omega) (by omega) d1 (d2.trans b2) (d3.trans rfl);have hM6:=hM.drew.trans d4 (by simp);obtain ⟨c0,c1,c2⟩:=cells3 hP6.hg;have HP:=hyd hP6;clear hP6;have hcl:¬ cap=l.length:=by omega
     have hnl:(l.length:Int)<=(junk.length:Int)+((l.length:Int)+1):=by omega
     simp only [show junk.length+(l.length+1) - (junk.length+1)=l.length by omega];obtain ⟨cur2,e1,e2,e3⟩:=HP.out.hb;have g3:l.length * 4+(junk.length+(l.length+1) - l.length) * 4<=cur2.size:=by omega
     have E2:=hyd e2;have E3:=hyd e3;clear e2 e3
     go_wp2_with (refine wpList_clear T_msg (off:=l.length * 4) (by decide) rfl rfl rfl (fun _=>rfl) e1 g3 ?_)
     intro W7 cur7 m1 m2 m3 m4;have hP7:=HP.out.row m4 hgb (by omega) (by omega) m1 (m2.trans E2.out) (m3.trans (by rw [<- g2];exact E3.out));have hM7:=hM6.trans m4 (by simp);clear HP hM6 c0 c1 c2 e1 E2 E3 g3 m1 m2 m3 m4 d1 d2 d3 d4;obtain ⟨c0,c1,c2⟩:=cells3 hP7.hg;obtain ⟨f0,f1,-,-⟩:=free4 hP7.hg;obtain ⟨r0,r1,r2,r3⟩:=cells4 hP7.hr;obtain ⟨s0,s1,s2,s3⟩:=cells4 (a:=.string mt) (b:=.string mp) (c:=.int .u8 mq) (d:=.bool mr) hP7.hs;obtain ⟨j0,j1,j2,j3⟩:=free4 hP7.hr;have HP:=hyd hP7;clear hP7;have hc0:¬ cap=0:=by omega
     have hgr:¬ g=w.heap.size:=by omega
     have hgs:¬ g=W1.heap.size:=by omega
     go_wp2_with fail
     have hP8:=HP.out.head (v':=.slice (some ⟨b,0,none⟩) l.length cap) (a':=.int .i64 ((junk.length:Int)+1)) ((Mod.refl [g] W7).setCell (p:=⟨g,0,none⟩) (.inl (by simp)) _) (Ne.symm hgb) (by omega) (by omega) (heap_setCell_same W7 g 0 _ _ _ HP.out.hg);have hP9:=hP8.head (v':=.slice (some ⟨b,0,none⟩) l.length cap) (a':=.int .i64 0) ((Mod.refl [g] _).setCell (p:=⟨g,1,none⟩) (.inl (by simp)) _) (Ne.symm hgb) (by omega) (by omega) (heap_setCell_same _ g 1 _ _ _ hP8.hg);have hM9:=(hM7.setCell (p:=⟨g,0,none⟩) (.inl (by simp)) (.slice (some ⟨b,0,none⟩) l.length cap)).setCell (p:=⟨g,1,none⟩) (.inl (by simp)) (.int .i64 0);obtain ⟨t1,t2⟩:=set4 (x:=.string mt) (y:=.string mp) (z:=.int .u8 mq) (u:=.bool mr) hP9.hr;refine bodyPost_ret (results_row_tmp (cs:=#[.string mt,.string mp,.int .u8 mq,.bool mr]) rfl rfl (by exact t1) Tryz.underlying36 rfl msg_size) rfl ⟨rfl,[g,b],?_,(hM9.trans t2 (by simp)),fun k hk => .inl (by simpa [Value.ownBlock] using hk)⟩;exact (pop_fin (junk:=[]) (l:=l) (by simpa using hP9) (by simp) (by omega) hcm (by simp) (by omega) h3 h4 hgb).mod t2 (by simp;omega)
  ·go_quiet (fail)
   rename_i nq
   have HP:=hyd (HP.out.drewN nq);have hM:=hM.drewN nq
   go_wp2_with fail
   obtain ⟨t1,t2⟩:=set4 (x:=.string mt) (y:=.string mp) (z:=.int .u8 mq) (u:=.bool mr) HP.out.hr;refine bodyPost_ret (results_row_tmp (cs:=#[.string mt,.string mp,.int .u8 mq,.bool mr]) rfl rfl (by exact t1) Tryz.underlying36 rfl msg_size) rfl ⟨rfl,[g,b],?_,(hM.trans t2 (by simp)),fun k hk => .inl (by simpa [Value.ownBlock] using hk)⟩;exact (pop_fin (junk:=junk ++ [Msg.none]) (l:=l) (by simpa using HP.out) (by simp;omega) (by omega) hcm (by simp;omega) (by omega) h3 h4 hgb).mod t2 (by simp;omega)
end
section
open Go Go.RowKit
theorem qclear_any (g:Nat) (l:List Msg) (most:Int) (F:List Nat) (w:World) (h:QRep w g l most F) :
  Calls Tryz.prog 297 #[.pointer (some ⟨g,0,none⟩)] w fun e w'=>e = .returned (.tuple #[])/\QRep w' g [] most [g]/\Upd F [g] w w':=by
 obtain ⟨v,junk,hg,hown,h1,h2,h3,h4,h5,rfl⟩:=h;have s1:=heap_setCell_same w g 0 _ _ (.slice none 0 0) hg;have s2:=heap_setCell_same _ g 1 _ _ (.int .i64 0) s1;have S2:=hyd s2;obtain ⟨c0,c1,c2⟩:=cells3 hg;obtain ⟨f0,f1,-,-⟩:=free4 hg;clear hown hg s1 s2
 go_enter Tryz.func297, Tryz.ntmps297
 go_wp2_with fail
 go_end0
 refine ⟨rfl,⟨.slice none 0 0,[],S2.out,World.ownsRow_nil _ _ _ _,by simp,by simp;omega,h3,h4,by simp [Value.ownBlock],rfl⟩,((Mod.refl _ w).setCell (.inl (by simp)) _).setCell (.inl (by simp)) _,by simp⟩
end
section
open Go Go.RowKit
theorem ownsRow_mono {w:World} {B B':Nat} {e:TypeId} {size n:Nat} {v:Value} {xs:List Value} (h:w.ownsRow B e size v n xs) (hB:B'<=B):w.ownsRow B' e size v n xs:=by
 refine ⟨h.1,?_⟩
 rcases h.2 with hn | ⟨b,cap,cur,hv,hb,r⟩
 ·exact .inl hn
 ·exact .inr ⟨b,cap,cur,hv,Nat.le_trans hB hb,r⟩
end
section
open Go Go.RowKit
def pushL (most:Int) (l:List Msg) (m:Msg):List Msg:=if (l.length:Int) < most then l ++ [m] else l
theorem qbelow_upd {F:List Nat} {w w':World} (h:Below w.heap.size w w'):Upd F F w w':=⟨Mod.of_below h F,fun _ hk => .inl hk⟩
theorem QRep.le {w:World} {g:Nat} {l:List Msg} {most:Int} {F:List Nat} (h:QRep w g l most F):(l.length:Int)<=most/\most<=1024:=by
 obtain ⟨_,_,_,_,_,h,_,h',_,_⟩:=h;exact ⟨h,h'⟩
theorem qpush_u (b:Bool) (g:Nat) (l:List Msg) (most:Int) (F:List Nat) (m:Msg) (w:World) (h:QRep w g l most F) (hb:decide ((l.length:Int) < most)=b) :
  Calls Tryz.prog 212 #[.pointer (some ⟨g,0,none⟩),m.val] w fun e w'=>e = .returned (.bool b) /\ ∃ F',QRep w' g (pushL most l m) most F'/\Upd F F' w w':=by
 subst hb;have hle:=h.le.1
 by_cases hl:(l.length:Int) < most
 ·refine (qpush_room g l most F m w h hl).mono ?_
  rintro e w' ⟨rfl,F',h1,h2⟩;exact ⟨by simp [hl],F',by rw [pushL,if_pos hl];exact h1,h2⟩
 ·refine (qpush_full g l most F m w h (by omega)).mono ?_
  rintro e w' ⟨rfl,h1,h2⟩;exact ⟨by simp [hl],F,by rw [pushL,if_neg hl];exact h1,h2⟩
theorem qpop_u (m:Msg) (b:Bool) (l':List Msg) (g:Nat) (l:List Msg) (most:Int) (F:List Nat) (w:World) (h:QRep w g l most F) (hm:l.headD Msg.none=m) (hb:(!l.isEmpty)=b) (hl:l.tail=l') :
  Calls Tryz.prog 132 #[.pointer (some ⟨g,0,none⟩)] w fun e w'=>e = .returned (.tuple #[m.val,.bool b]) /\ ∃ F',QRep w' g l' most F'/\Upd F F' w w':=by
 subst hm hb hl
 cases l with
 | nil =>
  refine (qpop_empty g most F w h).mono ?_;rintro e w' ⟨rfl,h1⟩;exact ⟨rfl,F,h.mod (Mod.of_below h1 []) (by simp),qbelow_upd h1⟩
 | cons x l =>
  exact qpop_some g x l most F w h
theorem qpeek_u (m:Msg) (b:Bool) (g:Nat) (l:List Msg) (most:Int) (F:List Nat) (w:World) (h:QRep w g l most F) (hm:l.headD Msg.none=m) (hb:(!l.isEmpty)=b) :
  Calls Tryz.prog 131 #[.pointer (some ⟨g,0,none⟩)] w fun e w'=>e = .returned (.tuple #[m.val,.bool b])/\Below w.heap.size w w':=by
 subst hm hb
 cases l with
 | nil=>exact qpeek_empty g most F w h
 | cons x l=>exact qpeek_some g x l most F w h
theorem QRep.below {w w':World} {g:Nat} {l:List Msg} {most:Int} {F:List Nat} (h:QRep w g l most F) (hk:Below w.heap.size w w'):QRep w' g l most F:=h.mod (Mod.of_below hk []) (by simp)
end
end Go.Proofs.YtcekcoepdhnfgaaGreatDoor
