/- subs: Set, Drop, Try. -/
import Derived.Test.YtcekcoepdhnfgaaGreatDoorSubZ
import Derived.Test.YtcekcoepdhnfgaaGreatDoorStB
import Derived.Test.YtcekcoepdhnfgaaGreatDoorFamH
import Derived.Test.YtcekcoepdhnfgaaGreatDoorKTopX
namespace Go.Proofs.YtcekcoepdhnfgaaGreatDoor
section
open Go Go.RowKit
theorem upd_refl (F:List Nat) (w:World):Upd F F w w:=⟨Mod.refl F w,fun _ h => .inl h⟩
theorem upd_below {F:List Nat} {w w':World} (h:Below w.heap.size w w'):Upd F F w w':=⟨Mod.of_below h F,fun _ h => .inl h⟩
theorem upd_pre {G G' : List Nat} {w w1 w2 : World} (hb : Below w.heap.size w w1) (hu : Upd G G' w1 w2) : Upd G G' w w2 :=
  ⟨⟨hu.1.os.trans hb.os, hu.1.tape.trans hb.tape, hu.1.output.trans hb.output, Nat.le_trans hb.size hu.1.size, fun k hk hn => by rw [hu.1.block k (Nat.lt_of_lt_of_le hk hb.size) hn, hb.block k hk]⟩,
    fun k hk => (hu.2 k hk).imp id (fun h => Nat.le_trans hb.size h)⟩
def SRow (w:World) (a:Option Addr) (l:List SubE) (G:List Nat):Prop:=
 (a=none/\l = []/\G = []) \/ ∃ g cur,a=some ⟨g,0,none⟩/\w.heap[g]? = some (.cells cur 76 (0,0))/\cur.toList.take (l.length * 2)=subsV l/\G = [g]
theorem SRow.row {w:World} {a:Option Addr} {l:List SubE} {G:List Nat} (h:SRow w a l G):Row w a (subsV l):=by
 rcases h with ⟨-,rfl,-⟩ | ⟨g,cur,rfl,hg,ht,-⟩
 ·exact .inl rfl
 ·refine .inr ⟨g,0,rfl,fun j u hj => ?_⟩
  have hjl:j < l.length * 2:=by rw [<- subsV_length];exact (List.getElem?_eq_some_iff.1 hj).1
  rw [Nat.zero_add,cell_of_row w g j _ _ _ hg];rw [<- ht,List.getElem?_take_of_lt hjl] at hj
  simpa using hj
theorem SRow.add0 {w:World} {a:Option Addr} {l:List SubE} {G:List Nat} (h:SRow w a l G):∀ x,a=some x->x.add 0=x:=by
 rcases h with ⟨rfl,-⟩ | ⟨g,cur,rfl,-⟩
 ·intro x hx;cases hx
 ·intro x hx;cases hx;unfold Addr.add;split <;> simp_all
theorem SRow.lt {w:World} {a:Option Addr} {l:List SubE} {G:List Nat} (h:SRow w a l G):∀ k ∈ G,k < w.heap.size:=by
 rcases h with ⟨-,-,rfl⟩ | ⟨g,cur,-,hg,-,rfl⟩
 ·intro k hk;cases hk
 ·intro k hk;rw [List.mem_singleton.1 hk];exact (Array.getElem?_eq_some_iff.1 hg).1
theorem SRow.keep {w w':World} {a:Option Addr} {l:List SubE} {G:List Nat} (h:SRow w a l G) (hk:∀ k ∈ G,w'.heap[k]? = w.heap[k]?):SRow w' a l G:=by
 rcases h with h | ⟨g,cur,h1,hg,h2,rfl⟩
 ·exact .inl h
 ·exact .inr ⟨g,cur,h1,(hk g (by simp)).trans hg,h2,rfl⟩
theorem SRow.of_owns {w:World} {B:Nat} {v:Value} {n:Nat} {l:List SubE} (h:w.ownsRow B 76 2 v n (subsV l)):∃ a c,v = .slice a l.length c/\l.length<=c/\c<=maxLen/\SRow w a l v.ownBlock.toList:=by
 have hn:l.length=n:=by have:=h.1;rw [subsV_length] at this;omega
 subst hn
 rcases h.2 with ⟨rfl,hn⟩ | ⟨g,cap,cur,rfl,-,hg,hnc,hcm,hcs,htk⟩
 ·obtain rfl:=List.eq_nil_of_length_eq_zero hn
  exact ⟨none,0,rfl,Nat.le_refl _,by omega,.inl ⟨rfl,rfl,rfl⟩⟩
 ·exact ⟨_,_,rfl,hnc,hcm,.inr ⟨g,cur,rfl,hg,htk,rfl⟩⟩
def SRep (w:World) (b:Nat) (l:List SubE) (F:List Nat):Prop:=
 ∃ a c G,w.heap[b]? = some (.cells #[.slice a l.length c] 164 (0,0))/\SRow w a l G/\l.length<=c/\c<=maxLen/\b ∉ G/\SUp l/\l.length<=16/\F=b :: G
theorem SRep.up {w:World} {b:Nat} {l:List SubE} {F:List Nat} (h:SRep w b l F):SUp l:=by obtain ⟨_,_,_,-,-,-,-,-,h,-⟩:=h;exact h
theorem SRep.len {w:World} {b:Nat} {l:List SubE} {F:List Nat} (h:SRep w b l F):l.length<=16:=by obtain ⟨_,_,_,-,-,-,-,-,-,h,-⟩:=h;exact h
theorem srep_local:Local SRep where
 lt:=by
  rintro w b s F ⟨a,c,G,hb,hr,-,-,-,-,-,rfl⟩ k hk
  rcases List.mem_cons.1 hk with rfl | hk
  ·exact (Array.getElem?_eq_some_iff.1 hb).1
  ·exact hr.lt k hk
 keep:=by
  rintro w w' b s F ⟨a,c,G,hb,hr,h1,h2,h3,h4,h5,rfl⟩ hk;exact ⟨a,c,G,(hk b (by simp)).trans hb,hr.keep (fun k hk'=>hk k (by simp [hk'])),h1,h2,h3,h4,h5,rfl⟩
theorem SRep.lt {w:World} {b:Nat} {l:List SubE} {F:List Nat} (h:SRep w b l F):∀ k ∈ F,k < w.heap.size:=srep_local.lt h
theorem SRep.mod {S:List Nat} {w w':World} {b:Nat} {l:List SubE} {F:List Nat} (h:SRep w b l F) (hm:Mod S w w') (hS:∀ k ∈ F,k ∉ S):SRep w' b l F:=srep_local.keep h fun k hk=>hm.block k (h.lt k hk) (hS k hk)
theorem SRep.below {w w':World} {b:Nat} {l:List SubE} {F:List Nat} (h:SRep w b l F) (hk:Below w.heap.size w w'):SRep w' b l F:=h.mod (Mod.of_below hk []) (by simp)
theorem snew (w:World):Calls Tryz.prog 116 #[] w fun e w'=>e = .returned (.pointer (some ⟨w.heap.size,0,none⟩))/\SRep w' w.heap.size [] [w.heap.size]/\w'=w.alloc (.cells #[.slice none 0 0] 164):=by
 go_enter Tryz.func116, Tryz.ntmps116
 go_wp2_with fail
 go_ret
 exact ⟨rfl,⟨none,0,[],heap_alloc_new w _,.inl ⟨rfl,rfl,rfl⟩,Nat.le_refl _,by unfold maxLen;omega,by simp,List.Pairwise.nil,by simp,rfl⟩,rfl⟩
theorem find_any (b:Nat) (l:List SubE) (F:List Nat) (f:List UInt8) (w:World) (h:SRep w b l F) :
  Calls Tryz.prog 199 #[.pointer (some ⟨b,0,none⟩),.string ⟨f.toArray⟩] w fun e w' => ∃ k:Nat,e = .returned (.tuple #[.int .i64 k,.bool (hasE f l)])/\Stands f l k/\Below w.heap.size w w':=by
 obtain ⟨a,c,G,hb,hr,-,-,-,hU,h16,-⟩:=h;have c0:=cell_of_row w b 0 _ _ _ hb;simp only [List.getElem?_toArray,List.getElem?_cons_zero] at c0;have HC:=hyd (bsearch_any a c l f w hr.row (by omega) hU);clear hb hr hU h16
 go_enter Tryz.func199, Tryz.ntmps199
 go_wp2_with fail
 refine HC.out.mono ?_;rintro e w1 ⟨k,rfl,hs,hk⟩;have HS:=hyd hs;clear hs
 go_wp2_with fail
 go_ret2
 exact ⟨k,rfl,HS.out,hk⟩
set_option maxRecDepth 100000
set_option maxHeartbeats 1000000
theorem subs_any (b:Nat) (l:List SubE) (F:List Nat) (w:World) (h:SRep w b l F) :
  Calls Tryz.prog 46 #[.pointer (some ⟨b,0,none⟩)] w fun e w' => ∃ v,e = .returned v/\w'.ownsRow w.heap.size 76 2 v l.length (subsV l)/\Below w.heap.size w w':=by
 obtain ⟨a,c,G,hb,hr,-,-,-,hU,h16,-⟩:=h;have c0:=cell_of_row w b 0 _ _ _ hb;simp only [List.getElem?_toArray,List.getElem?_cons_zero] at c0;have HR:=hyd hr.row;have HB:=hyd hb;obtain ⟨i0,hi,hz0,hz1,hz2⟩:=info_parts T_sub.hi
 by_cases hl:l = []
 ·subst hl
  clear hb hr hU h16
  go_enter Tryz.func46, Tryz.ntmps46
  go_wp2_with fail
  go_ret
  exact ⟨_,rfl,World.ownsRow_nil _ _ _ _,Below.refl _ _⟩
 ·have hlp:0 < l.length:=List.length_pos_iff.2 hl
  have h0:¬ ((l.length:Int)=0):=by omega
  clear hb hr hU
  go_enter Tryz.func46, Tryz.ntmps46
  have HM:Hid (∀ w1:World,w.grownBy w1 none->Below w.heap.size w w1/\w1.cell? ⟨b,0,none⟩=some (.slice a l.length c)/\Row w1 a (subsV l)):=hyd (fun w1 hg1=>by
   have hb1:Below w.heap.size w w1:=(Below.refl _ _).grown hg1 (Nat.le_refl _) (fun k hk=>by cases hk)
   exact ⟨hb1,(hb1.cell (p:=⟨b,0,none⟩) (World.block_lt_of_cell? w _ c0)).trans c0,HR.out.below hb1 (Nat.le_refl _)⟩)
  have HLEN:=hyd (subsV_length l);clear HR HB
  go_wp2_with (first
   | (at_make;refine wpList_make_full _ rfl _ _ 37 rfl w.heap.size 76 i0 _ 2 T_sub.ht hi hz0 hz1 _ _ _ _ l.length rfl rfl rfl rfl (by rw [hz2];omega) (by unfold maxLen;omega) (Nat.le_refl _) ?_;intro w1 hown1 hg1;have HG1:=hyd hg1;have HOWN:=hyd hown1;clear hg1 hown1;obtain ⟨hb1,c1,hr1⟩:=HM.out w1 HG1.out;have HB1:=hyd hb1;have HR1:=hyd hr1;clear hb1 hr1)
   | (refine wpList_copyAll T_sub HOWN.out HB1.out HR1.out rfl rfl rfl rfl hlp HLEN.out (subsV_one l) ?_;intro w2 hown2 hb2;have HOWN2:=hyd hown2;have HB2:=hyd hb2;clear hown2 hb2)
   | fail)
  go_ret
  exact ⟨_,rfl,HOWN2.out,HB2.out⟩
end
section
open Go Go.RowKit
theorem subsV_set (l:List SubE) (k:Nat) (hk:k < l.length) (q:Int):(subsV l).set (k * 2+1) (.int .u8 q)=subsV (l.set k (l[k].1,q)):=by
 induction l generalizing k with
 | nil=>simp at hk
 | cons a r ih =>
  cases k with
  | zero=>rfl
  | succ k =>
   have:=ih k (by simpa using hk);rw [show (k+1) * 2+1=k * 2+1+1+1 by omega];simp only [subsV,List.flatMap_cons,subCells,List.cons_append,List.nil_append,List.set_cons_succ,List.getElem_cons_succ] at *;rw [this]
theorem SRow.setq {w:World} {g:Nat} {l:List SubE} {G:List Nat} (h:SRow w (some ⟨g,0,none⟩) l G) {k:Nat} (hk:k < l.length) (q:Int) :
  SRow (w.setCell ⟨g,k * 2+1,none⟩ (.int .u8 q)) (some ⟨g,0,none⟩) (l.set k (l[k].1,q)) G/\G = [g]/\Mod [g] w (w.setCell ⟨g,k * 2+1,none⟩ (.int .u8 q))/\w.frozen? ⟨g,k * 2+1,none⟩=false:=by
 rcases h with ⟨h,-⟩ | ⟨g',cur,h1,hg,ht,rfl⟩
 ·cases h
 ·cases h1
  refine ⟨.inr ⟨g,_,rfl,heap_setCell_same w g (k * 2+1) _ _ _ hg,?_,rfl⟩,rfl,(Mod.refl _ _).setCell (.inl (by simp)) _,frozen_of_row w g _ _ _ hg⟩;rw [List.length_set,<- subsV_set l k hk q,<- ht];apply List.ext_getElem?;intro j
  by_cases hj:j < l.length * 2
  ·rw [List.getElem?_take_of_lt hj,List.getElem?_set,List.getElem?_take_of_lt hj]
   simp only [Array.getElem?_toList,Array.getElem?_setIfInBounds,List.length_take,Array.length_toList]
   by_cases he:k * 2+1=j
   ·subst he
    have h3:k * 2+1 < cur.size:=by
     have:=congrArg List.length ht;rw [subsV_length,List.length_take] at this;have h4:cur.toList.length=cur.size:=Array.length_toList;omega
    rw [if_pos rfl,if_pos rfl];simp only [h3,if_true];rw [if_pos (by omega)]
   ·simp [he]
  ·rw [List.getElem?_take_eq_none (by omega),List.getElem?_eq_none (by simp;omega)]
theorem stands_in {f:List UInt8} {l:List SubE} {k:Nat} (hU:SUp l) (h:Stands f l k) (hh:hasE f l=true):∃ hl:k < l.length,l[k].1=f:=(hasE_at hU h.1 h.2.1 h.2.2).1 hh
theorem stands_new {f:List UInt8} {l:List SubE} {k:Nat} (hU:SUp l) (h:Stands f l k) (hh:hasE f l=false) (q:Int):putE (f,q) l=l.take k++([(f,q)]++l.drop k):=by
 refine putE_new h.1 h.2.1 (fun hl=>⟨h.2.2 _ (List.mem_iff_getElem?.2 ⟨0,by rw [List.getElem?_drop,Nat.add_zero];exact List.getElem?_eq_getElem hl⟩),fun e => ?_⟩);have:=(hasE_at hU h.1 h.2.1 h.2.2).2 ⟨hl,e⟩;rw [hh] at this;cases this
theorem SRep.store {w X:World} {b:Nat} {l l':List SubE} {F G':List Nat} {a':Option Addr} {c':Nat} (h:SRep w b l F) (hX:Below w.heap.size w X) (hr:SRow X a' l' G') (hG:∀ k ∈ G',(k ∈ F/\k ≠ b) \/ w.heap.size<=k)
  (hc:l'.length<=c') (hcm:c'<=maxLen) (hU:SUp l') (h16:l'.length<=16) (n:Nat) (hn:n=l'.length) :
  X.frozen? ⟨b,0,none⟩=false/\SRep (X.setCell ⟨b,0,none⟩ (.slice a' n c')) b l' (b :: G')/\Upd F (b :: G') w (X.setCell ⟨b,0,none⟩ (.slice a' n c')):=by
 subst hn;obtain ⟨a,c,G,hb,-,-,-,hbG,-,-,rfl⟩:=h;have hbl:=(Array.getElem?_eq_some_iff.1 hb).1;have hb1:=(hX.block b hbl).trans hb
 have hne:∀ k ∈ G',k ≠ b:=fun k hk=>by
  rcases hG k hk with h | h
  ·exact h.2
  ·omega
 refine ⟨frozen_of_row X b 0 _ _ hb1,⟨a',c',G',heap_setCell_same X b 0 _ _ _ hb1,hr.keep (fun k hk=>Below.heap_setCell _ _ _ _ (hne k hk)),hc,hcm,fun hin=>hne b hin rfl,hU,h16,rfl⟩,(Mod.of_below hX _).setCell (.inl (by simp)) _,fun k hk => ?_⟩
 rcases List.mem_cons.1 hk with rfl | hk
 ·exact .inl (by simp)
 ·exact (hG k hk).imp (fun h=>h.1) id
set_option maxRecDepth 100000
set_option maxHeartbeats 2000000
theorem sdrop_any (b:Nat) (l:List SubE) (F:List Nat) (f:List UInt8) (w:World) (h:SRep w b l F) :
  Calls Tryz.prog 121 #[.pointer (some ⟨b,0,none⟩),.string ⟨f.toArray⟩] w fun e w'=>e = .returned (.bool (hasE f l)) /\ ∃ F',SRep w' b (delE f l) F'/\Upd F F' w w':=by
 have HC:=hyd (find_any b l F f w h);have HR:=hyd h;obtain ⟨bb,hbb⟩:∃ bb,hasE f l=bb:=⟨_,rfl⟩;rw [hbb] at HC ⊢;have HBB:=hyd hbb;clear h hbb
 go_enter Tryz.func121, Tryz.ntmps121
 go_wp2_with fail
 refine HC.out.mono ?_;rintro e w1 ⟨k,rfl,hs,hk⟩;have HK:=hyd hk;have HS:=hyd hs;have hR1:=HR.out.below hk;clear hs hk
 cases bb with
 | false =>
  have HD:=hyd (delE_none HBB.out);have HR1:=hyd hR1;clear hR1
  go_wp2_with fail
  go_ret
  exact ⟨rfl,F,by rw [HD.out];exact HR1.out,upd_below HK.out⟩
 | true =>
  have hU:=hR1.up;have h16:=hR1.len;obtain ⟨hkl,hfe⟩:=stands_in hU HS.out HBB.out;have HD:=hyd (delE_at hU hkl hfe);have HSD:=hyd (sup_del (f:=f) hU);have HLD:=hyd (Nat.le_trans (len_delE f l) h16);obtain ⟨a,c,G,hb,hr,hc,hcm,hbG,-,-,rfl⟩:=hR1
  obtain ⟨g,cur,rfl,hg,ht,rfl⟩:∃ g cur,a=some ⟨g,0,none⟩/\w1.heap[g]? = some (.cells cur 76 (0,0))/\cur.toList.take (l.length * 2)=subsV l/\G = [g]:=by
   rcases hr with ⟨-,rfl,-⟩ | h
   ·simp at hkl
   ·exact h
  have hs3:=slice3_run Tryz.underlying37 (sz:=2) (by kernel_rfl) (some ⟨g,0,none⟩) l.length c k (by omega) hr.add0;obtain ⟨kp,hkp⟩:∃ kp,k+1=kp:=⟨_,rfl⟩;obtain ⟨-,a2,hs2,hr2⟩:=slice_run Tryz.underlying37 (sz:=2) (by kernel_rfl) (some ⟨g,0,none⟩) l.length c kp (by omega) hc;have e1:IntKind.i64.wrap ((k:Int)+1)=(kp:Int):=by rw [w_i64 _ (by omega) (by omega)];omega
  have HF:Hid (∀ X:World,Below w1.heap.size w1 X->X.cell? ⟨b,0,none⟩=some (.slice (some ⟨g,0,none⟩) l.length c)/\Row X a2 ((subsV l).drop (kp * 2))/\X.heap[b]? = some (.cells #[.slice (some ⟨g,0,none⟩) l.length c] 164 (0,0))/\X.heap[g]? = some (.cells cur 76 (0,0))):=hyd (fun X hX=>by
   have h1:=(hX.block b (Array.getElem?_eq_some_iff.1 hb).1).trans hb;have h2:=(hX.block g (Array.getElem?_eq_some_iff.1 hg).1).trans hg
   refine ⟨cell_of_row X b 0 _ _ _ h1,hr2 X _ (SRow.row (.inr ⟨g,cur,rfl,h2,ht,rfl⟩)) (subsV_length l),h1,h2⟩)
  have hbl:=(Array.getElem?_eq_some_iff.1 hb).1;have HT:=hyd ht;have HBG:=hyd hbG;have HCM:=hyd (show k<=c/\c<=maxLen by omega);have HOL:=hyd (show ((subsV l).take (k * 2)).length=k * 2 by rw [List.length_take,subsV_length];omega);have HYL:=hyd (show ((subsV l).drop (kp * 2)).length=(l.length - kp) * 2 by rw [List.length_drop,subsV_length];omega);rw [hkp] at HD;have HKP:=hyd hkp;have hkp0:(0:Int)<=kp:=by omega
  have HOC:Hid (∀ j u,((subsV l).take (k * 2))[j]? = some u->w1.drew.cell? ((⟨g,0,none⟩:Addr).add j)=some u):=hyd (fun j u hj=>by
   have e0:(⟨g,0,none⟩:Addr).add j=⟨g,j,none⟩:=by unfold Addr.add;split <;> simp_all
   rw [e0];rw [<- ht,List.take_take,List.getElem?_take] at hj
   split at hj
   ·exact (cell_of_row w1 g j _ _ _ hg).trans (by simpa using hj)
   ·cases hj)
  have HBG2:Hid (g ≠ b):=hyd (fun e=>hbG (by simp [e]))
  have HSTO:Hid (∀ {X:World} {a':Option Addr} {c':Nat} {G':List Nat} {n:Nat},Below w1.heap.size w1 X->SRow X a' (delE f l) G'->(∀ k ∈ G',(k ∈ [b,g]/\k ≠ b) \/ w1.heap.size<=k)->(delE f l).length<=c'->c'<=maxLen->n=(delE f l).length →
    X.frozen? ⟨b,0,none⟩=false/\SRep (X.setCell ⟨b,0,none⟩ (.slice a' n c')) b (delE f l) (b :: G')/\Upd [b,g] (b :: G') w1 (X.setCell ⟨b,0,none⟩ (.slice a' n c'))):=hyd (fun hX hr hG h1 h2 h3=>(HR.out.below HK.out).store hX hr hG h1 h2 HSD.out HLD.out _ h3)
  have HNEW:Hid (∀ v w',w'.ownsRow w1.heap.size 76 2 v (k+(l.length - kp)) ((subsV l).take (k * 2)++(subsV l).drop (kp * 2)) -> ∃ a c G,v = .slice a (k+(l.length - kp)) c/\(delE f l).length<=c/\c<=maxLen/\SRow w' a (delE f l) G/\(∀ k ∈ G,w1.heap.size<=k)/\k+(l.length - kp)=(delE f l).length):=hyd (fun v w' h=>by
   rw [subsV_take,subsV_drop,<- subsV_append,<- HD.out] at h;have hn:k+(l.length - kp)=(delE f l).length:=by have:=h.1;rw [subsV_length] at this;omega
   obtain ⟨a,c,e,h1,h2,h3⟩:=SRow.of_owns h
   exact ⟨a,c,_,by rw [hn];exact e,h1,h2,h3,fun k hk=>(h.lt k (by simpa using hk)).1,hn⟩)
  clear hb hr hg ht hr2 hbG hcm hU hfe hkp
  go_wp2_with fail
  refine wp_region_tail (S:=fun X=>X.cell? ⟨b,0,none⟩=some (.slice (some ⟨g,0,none⟩) l.length c)) 18 (by kernel_rfl) ((HF.out _ ((Below.refl _ _).drew)).1) (fun hHeld => ?_);refine uA 0 (h:=uA 1 (h:=uA 2 (h:=uA 3 (h:=uA 4 (h:=uA 5 (h:=uA 6 (h:=uA 7 (h:=uA 8 (h:=uA 9 (h:=uA 10 (h:=uA 11 (h:=uA 12 (h:=uA 13 (h:=uA 14 (h:=?_)))))))))))))));simp only [tks];refine wpTail.ready (rs:=[15]) (by kernel_rfl) (by simp) ?_;refine AllTail.cons rfl (fun K hK => ?_) AllTail.nil;have HW:=hyd (HF.out w1.drew ((Below.refl _ _).drew));refine step_growsRow (m:=l.length - kp) T_sub HOL.out HOC.out HW.out.2.1 rfl rfl rfl rfl HYL.out ?_ ?_ ?_ ?_
  ·omega
  ·omega
  ·intro hm
   have HZ:Hid (delE f l=l.take k):=hyd (by rw [HD.out,List.drop_eq_nil_of_le (by omega),List.append_nil])
   obtain ⟨HFZ,HP⟩:Hid (w1.drew.frozen? ⟨b,0,none⟩=false)/\Hid (_/\_):=by
    obtain ⟨h1,h2⟩:=HSTO.out (X:=w1.drew) (a':=some ⟨g,0,none⟩) (c':=k) (G':=[g]) (n:=k) ((Below.refl _ _).drew) (.inr ⟨g,cur,rfl,HW.out.2.2.2,by rw [HZ.out,List.length_take,Nat.min_eq_left (by omega),<- subsV_take,<- HT.out,List.take_take,Nat.min_eq_left (by omega)],rfl⟩) (by simp [HBG2.out]) (by rw [HZ.out,List.length_take];omega) (by have:=HCM.out;omega) (by rw [HZ.out,List.length_take];omega);exact ⟨hyd h1,hyd h2⟩
   have hfz:=HFZ.out;refine hK.out _ _ (fun _=>HW.out.1) (fun hHeld => ?_);replace hHeld:=hHeld (by decide);refine uA 16 (h:=uA 17 (h:=?_));simp only [tks];refine wpTail.ready (rs:=[18]) (by kernel_rfl) (by simp) ?_;refine AllTail.cons rfl (fun K hK => ?_) AllTail.nil;rw [if_pos (by rfl)];go_simp;refine hK.out _ _ (fun h=>absurd rfl h) (fun _ => ?_);refine wpTail.done (by kernel_rfl) ?_ _
   go_wp2_with fail
   go_ret
   exact ⟨rfl,_,HP.out.1,upd_pre HK.out HP.out.2⟩
  ·intro hm v2 w2 hown2 hg2
   have hb2:Below w1.heap.size w1 w2:=((Below.refl _ _).drew).grown hg2 (Nat.le_refl _) (fun k hk=>by cases hk);obtain ⟨a3,c3,G3,rfl,h3c,h3m,hr3,hG3,hln⟩:=HNEW.out v2 w2 hown2;have HP0:=HSTO.out (X:=w2) (a':=a3) (c':=c3) (G':=G3) (n:=k+(l.length - kp)) hb2 hr3 (fun k hk => .inr (hG3 k hk)) h3c h3m hln;have hfz:=HP0.1;have HP:=hyd HP0.2;have HW2:=hyd (HF.out w2 hb2);clear HP0 hr3 hG3 hln hown2 hg2 hb2;refine hK.out _ _ (fun _=>HW2.out.1) (fun hHeld => ?_);replace hHeld:=hHeld (by decide);refine uA 16 (h:=uA 17 (h:=?_));simp only [tks];have cc:=HW2.out.1;refine wpTail.ready (rs:=[18]) (by kernel_rfl) (by simp) ?_;refine AllTail.cons rfl (fun K hK => ?_) AllTail.nil;rw [if_pos (by rfl)];go_simp;refine hK.out _ _ (fun h=>absurd rfl h) (fun _ => ?_);refine wpTail.done (by kernel_rfl) ?_ _
   go_wp2_with fail
   go_ret
   exact ⟨rfl,_,HP.out.1,upd_pre HK.out HP.out.2⟩
end
section
open Go Go.RowKit
def setOk (f:List UInt8) (q:Int) (l:List SubE):Bool:=decide (q<=2) && (filterB f && (hasE f l || !decide (l.length=16)))
def setE (f:List UInt8) (q:Int) (l:List SubE):List SubE:=if setOk f q l then putE (f,q) l else l
def setC (f:List UInt8) (q:Int) (l:List SubE):Int:=if setOk f q l then q else 128
theorem len_put_in {f:List UInt8} {q:Int} {l:List SubE} {k:Nat} (hU:SUp l) (hs:Stands f l k) (hh:hasE f l=true):∃ hl:k < l.length,putE (f,q) l=l.set k (l[k].1,q):=by
 obtain ⟨hl,he⟩:=stands_in hU hs hh;exact ⟨hl,by rw [putE_in hl hs.2.1 he,he]⟩
theorem ownsRow_base {w:World} {B B':Nat} {e:TypeId} {size n:Nat} {v:Value} {xs:List Value} (h:w.ownsRow B' e size v n xs) (hB:B<=B'):w.ownsRow B e size v n xs:=by
 refine ⟨h.1,?_⟩
 rcases h.2 with h2 | ⟨b,cap,cur,rfl,hb,rest⟩
 ·exact .inl h2
 ·exact .inr ⟨b,cap,cur,rfl,Nat.le_trans hB hb,rest⟩
set_option maxRecDepth 100000
set_option maxHeartbeats 4000000
theorem sset_any (b:Nat) (l:List SubE) (F:List Nat) (f:List UInt8) (q:Int) (w:World) (h:SRep w b l F) (hT:Tabs w) (hf:f.length < 4294967281) (hq0:0<=q) (hq1:q < 256) :
  Calls Tryz.prog 117 #[.pointer (some ⟨b,0,none⟩),.string ⟨f.toArray⟩,.int .u8 q] w fun e w'=>e = .returned (.int .u8 (setC f q l)) /\ ∃ F',SRep w' b (setE f q l) F'/\Upd F F' w w':=by
 have HFIL:=hyd (filter_any ⟨f.toArray⟩ w hT (by show f.toArray.size < _;simpa using hf));rw [show filterB (⟨f.toArray⟩:ByteArray).data.toList=filterB f from rfl] at HFIL;have HR:=hyd h;have HNO:Hid (setOk f q l=false->setC f q l=128/\setE f q l=l):=hyd (fun h=>by unfold setC setE;rw [h];exact ⟨rfl,rfl⟩);have HYES:Hid (setOk f q l=true->setC f q l=q/\setE f q l=putE (f,q) l):=hyd (fun h=>by unfold setC setE;rw [h];exact ⟨rfl,rfl⟩);have HOK:Hid (setOk f q l=(decide (q<=2) && (filterB f && (hasE f l || !decide (l.length=16))))):=hyd rfl;have HC:=hyd (fun w h=>find_any b l F f w h);obtain ⟨bf,hbf⟩:∃ bf,filterB f=bf:=⟨_,rfl⟩;obtain ⟨bh,hbh⟩:∃ bh,hasE f l=bh:=⟨_,rfl⟩;have HBH:=hyd hbh;rw [hbf] at HFIL HOK;rw [hbh] at HC HOK;clear h hbf hbh hT
 by_cases hq2:q<=2
 ·have hq3:¬ (2 < q):=by omega
  cases bf with
  | false =>
   obtain ⟨HE1,HE2⟩:Hid (setC f q l=128)/\Hid (setE f q l=l):=by
    obtain ⟨h1,h2⟩:=HNO.out (by rw [HOK.out];simp);exact ⟨hyd h1,hyd h2⟩
   go_enter Tryz.func117, Tryz.ntmps117
   go_wp2_with fail
   refine HFIL.out.mono ?_;rintro e w1 ⟨rfl,hk⟩;have HK:=hyd hk;clear hk
   go_wp2_with fail
   go_ret
   exact ⟨ret_int HE1.out.symm,F,by rw [HE2.out];exact HR.out.below HK.out,upd_below HK.out⟩
  | true =>
   go_enter Tryz.func117, Tryz.ntmps117
   go_wp2_with fail
   refine HFIL.out.mono ?_;rintro e w0 ⟨rfl,hk0⟩;have HK0:=hyd hk0;clear hk0
   go_wp2_with fail
   refine (HC.out _ (HR.out.below HK0.out)).mono ?_;rintro e w1 ⟨k,rfl,hs,hk⟩;have HS:=hyd hs;have hk':=bnext HK0.out (Nat.le_refl _) hk;have HK:=hyd hk';have hR1:=HR.out.below hk';have HR1:=hyd hR1;clear hs hk hk' HFIL HC;have hU:=hR1.up;have h16:=hR1.len;have HSP:=hyd (sup_put (x:=(f,q)) hU);obtain ⟨a,c,G0,hb,hr,hc,hcm,hbG,-,-,rfl⟩:=hR1;have c0:=cell_of_row w1 b 0 _ _ _ hb;simp only [List.getElem?_toArray,List.getElem?_cons_zero] at c0
   cases bh with
   | true =>
    obtain ⟨HE1,HE2⟩:Hid (setC f q l=q)/\Hid (setE f q l=putE (f,q) l):=by
     obtain ⟨h1,h2⟩:=HYES.out (by rw [HOK.out];simp [hq2]);exact ⟨hyd h1,hyd h2⟩
    obtain ⟨hkl,hp⟩:=len_put_in (q:=q) hU HS.out HBH.out;have HP:=hyd hp
    obtain ⟨g,rfl⟩:∃ g,a=some ⟨g,0,none⟩:=by
     rcases hr with ⟨-,rfl,-⟩ | ⟨g,cur,h,-⟩
     ·simp at hkl
     ·exact ⟨g,h⟩
    obtain ⟨s1,rfl,s3,s4⟩:=hr.setq hkl q;have hgb:g ≠ b:=fun e=>hbG (by simp [e])
    have HFIN:Hid (SRep (w1.setCell ⟨g,k * 2+1,none⟩ (.int .u8 q)) b (l.set k (l[k].1,q)) [b,g]/\Upd [b,g] [b,g] w1 (w1.setCell ⟨g,k * 2+1,none⟩ (.int .u8 q))):=hyd
     ⟨⟨some ⟨g,0,none⟩,c,[g],by rw [Below.heap_setCell _ _ _ _ (fun e=>hgb e.symm),List.length_set];exact hb,s1,by rw [List.length_set];exact hc,hcm,hbG,by rw [<- hp];exact HSP.out,by rw [List.length_set];exact h16,rfl⟩,s3.mono (by simp),fun k hk => .inl hk⟩
    have hkI:(k:Int) < l.length:=by omega
    have hk0:(0:Int)<=k:=by omega
    have hcx:∃ u,w1.cell? ⟨g,k * 2+1,none⟩=some u:=by
     obtain ⟨b1,o1,e1,c1,c2⟩:=subs_row hr.row hkl
     cases e1
     rw [Nat.zero_add] at c2;exact ⟨_,c2⟩
    obtain ⟨u,hu⟩:=hcx;clear hb hr s1 s3 hp hU hbG hc hcm
    go_wp2_with fail
    go_ret
    exact ⟨ret_int HE1.out.symm,_,by rw [HE2.out,HP.out];exact HFIN.out.1,upd_pre HK.out HFIN.out.2⟩
   | false =>
    by_cases hl:l.length=16
    ·obtain ⟨HE1,HE2⟩:Hid (setC f q l=128)/\Hid (setE f q l=l):=by
      obtain ⟨h1,h2⟩:=HNO.out (by rw [HOK.out];simp [hl]);exact ⟨hyd h1,hyd h2⟩
     have hlI:(l.length:Int)=16:=by omega
     clear hb hr hU hbG hc hcm
     go_wp2_with fail
     go_ret
     exact ⟨ret_int HE1.out.symm,_,by rw [HE2.out];exact HR1.out,upd_below HK.out⟩
    ·obtain ⟨HE1,HE2⟩:Hid (setC f q l=q)/\Hid (setE f q l=putE (f,q) l):=by
      obtain ⟨h1,h2⟩:=HYES.out (by rw [HOK.out];simp [hq2,hl]);exact ⟨hyd h1,hyd h2⟩
     have hlI:¬ ((l.length:Int)=16):=by omega
     have HP:=hyd (stands_new hU HS.out HBH.out q);have hkl:=HS.out.1;have hs3:=slice3_run Tryz.underlying37 (sz:=2) (by kernel_rfl) a l.length c k (by omega) hr.add0;obtain ⟨-,a2,hs2,hr2⟩:=slice_run Tryz.underlying37 (sz:=2) (by kernel_rfl) a l.length c k hkl hc;have hbl:=(Array.getElem?_eq_some_iff.1 hb).1
     have HF:Hid (∀ X:World,Below w1.heap.size w1 X->X.cell? ⟨b,0,none⟩=some (.slice a l.length c)/\Row X a2 ((subsV l).drop (k * 2))/\(∀ x,a=some x -> ∀ j u,((subsV l).take (k * 2))[j]? = some u->X.cell? (x.add j)=some u)):=hyd (fun X hX=>by
      have h1:=(hX.block b hbl).trans hb;have hrX:=hr.keep (w':=X) (fun k hk=>hX.block k (hr.lt k hk));refine ⟨cell_of_row X b 0 _ _ _ h1,hr2 X _ hrX.row (subsV_length l),fun x hx j u hj => ?_⟩;rw [List.getElem?_take] at hj
      split at hj
      ·rcases hrX.row with h0 | ⟨b1,o1,e1,h2⟩
       ·rw [h0] at hj;simp at hj
       ·rw [hx] at e1;cases e1
        have e2:(⟨b1,o1,none⟩:Addr).add j=⟨b1,o1+j,none⟩:=by unfold Addr.add;split <;> simp_all
        rw [e2];exact h2 j u hj
      ·cases hj)
     have hnone:a=none->k=0:=fun e=>by
      rcases hr with ⟨-,rfl,-⟩ | ⟨g,cur,h,-⟩
      ·simpa using hkl
      ·rw [e] at h;cases h
     have HNN:=hyd hnone;have HOL:=hyd (show ((subsV l).take (k * 2)).length=k * 2 by rw [List.length_take,subsV_length];omega);have HYL:=hyd (show ((subsV l).drop (k * 2)).length=(l.length - k) * 2 by rw [List.length_drop,subsV_length];omega);have HY1:=hyd (fun u (hu:u ∈ (subsV l).drop (k * 2))=>subsV_one l u (List.mem_of_mem_drop hu));have HX1:=hyd (show ∀ u ∈ [Value.string ⟨f.toArray⟩,Value.int .u8 q],u.oneCell'=true by simp [Value.oneCell'])
     have HNEW:Hid (∀ v X,Below w1.heap.size w1 X->X.ownsRow w1.heap.size 76 2 v (k+1+(l.length - k)) ((subsV l).take (k * 2) ++ [.string ⟨f.toArray⟩,.int .u8 q]++(subsV l).drop (k * 2)) -> ∃ a c G,v = .slice a (k+1+(l.length - k)) c/\X.frozen? ⟨b,0,none⟩=false ∧
       Hid (SRep (X.setCell ⟨b,0,none⟩ (.slice a (k+1+(l.length - k)) c)) b (putE (f,q) l) G/\Upd (b :: G0) G w1 (X.setCell ⟨b,0,none⟩ (.slice a (k+1+(l.length - k)) c)))):=hyd (fun v X hX h=>by
      rw [show [Value.string ⟨f.toArray⟩,Value.int .u8 q]=subsV [(f,q)] from rfl,subsV_take,subsV_drop,<- subsV_append,<- subsV_append,List.append_assoc,<- HP.out] at h;have hn:k+1+(l.length - k)=(putE (f,q) l).length:=by have:=h.1;rw [subsV_length] at this;omega
      obtain ⟨a,c,e,h1,h2,h3⟩:=SRow.of_owns h;have h4:=HR1.out.store hX h3 (fun k hk => .inr (h.lt k (by simpa using hk)).1) h1 h2 HSP.out (by have:=len_putE (f,q) l;omega) _ hn
      exact ⟨a,c,_,by rw [hn];exact e,h4.1,hyd h4.2⟩)
     clear hb hr hr2 hU hbG hc hcm hnone
     go_wp2_with fail
     refine wp_region_tail (S:=fun X=>X.cell? ⟨b,0,none⟩=some (.slice a l.length c)) 22 (by kernel_rfl) ((HF.out _ ((Below.refl _ _).drew)).1) (fun hHeld => ?_);refine uA 0 (h:=uA 1 (h:=uA 2 (h:=uA 3 (h:=uA 4 (h:=uA 5 (h:=uA 6 (h:=uA 7 (h:=uA 8 (h:=uA 9 (h:=uA 10 (h:=uA 13 (h:=uA 14 (h:=uA 15 (h:=uA 16 (h:=uA 17 (h:=uA 18 (h:=?_)))))))))))))))));simp only [tks];refine wpTail.ready (rs:=[11]) (by kernel_rfl) (by simp) ?_;refine AllTail.cons rfl (fun K hK => ?_) AllTail.nil;rw [if_pos (by rfl)];go_simp;have hbw:Below w1.heap.size w1 (w1.drew.alloc (.cells #[.string ⟨f.toArray⟩,.int .u8 q] 76)):=((Below.refl _ _).drew).alloc (Nat.le_refl _) _;have hblk:=heap_alloc_new w1.drew (.cells #[.string ⟨f.toArray⟩,.int .u8 q] 76);have HF1:=hyd (HF.out _ hbw);refine hK.out _ _ (fun _=>HF1.out.1) (fun hHeld => ?_);replace hHeld:=hHeld (by decide);refine wpTail.ready (rs:=[12]) (by kernel_rfl) (by simp) ?_;refine AllTail.cons rfl (fun K hK => ?_) AllTail.nil;refine step_grows (m:=1) T_sub HNN.out HOL.out HF1.out.2.2 hblk rfl rfl rfl rfl rfl (by omega) HX1.out ?_ ?_ ?_
     ·omega
     ·omega
     intro v2 w2 hown2 hg2;have hb2:Below w1.heap.size w1 w2:=hbw.grown hg2 hbw.size (fun k hk=>by cases hk);have HF2:=hyd (HF.out _ hb2);have hown2':=ownsRow_base hown2 (B:=w1.heap.size) (by simp);obtain ⟨av2,cv2,rfl,-,hln2,hcn2⟩:=ownsRow_row hown2;refine hK.out _ _ (fun _=>HF2.out.1) (fun hHeld => ?_);replace hHeld:=hHeld (by decide);refine wpTail.ready (rs:=[19]) (by kernel_rfl) (by simp) ?_;refine AllTail.cons rfl (fun K hK => ?_) AllTail.nil;refine step_spread' (m:=l.length - k) T_sub hown2' hb2 (Nat.le_refl _) HF2.out.2.1 rfl rfl rfl rfl HYL.out HY1.out ?_ ?_ ?_
     ·omega
     ·omega
     intro v3 w3 hown3 hb3 hg3;obtain ⟨a3,c3,G3,rfl,hfz,HP3⟩:=HNEW.out v3 w3 hb3 hown3;have HF3:=hyd (HF.out _ hb3);clear hown2 hown2' hown3 hg2 hg3;refine hK.out _ _ (fun _=>HF3.out.1) (fun hHeld => ?_);replace hHeld:=hHeld (by decide);refine uA 20 (h:=uA 21 (h:=?_));simp only [tks];have cc:=HF3.out.1;refine wpTail.ready (rs:=[22]) (by kernel_rfl) (by simp) ?_;refine AllTail.cons rfl (fun K hK => ?_) AllTail.nil;rw [if_pos (by rfl)];go_simp;refine hK.out _ _ (fun h=>absurd rfl h) (fun _ => ?_);refine wpTail.done (by kernel_rfl) ?_ _
     go_wp2_with fail
     go_ret
     exact ⟨ret_int HE1.out.symm,G3,by rw [HE2.out];exact HP3.out.1,upd_pre HK.out HP3.out.2⟩
 ·have hq3:2 < q:=by omega
  obtain ⟨HE1,HE2⟩:Hid (setC f q l=128)/\Hid (setE f q l=l):=by
   obtain ⟨h1,h2⟩:=HNO.out (by rw [HOK.out];simp [hq2]);exact ⟨hyd h1,hyd h2⟩
  clear HFIL HC
  go_enter Tryz.func117, Tryz.ntmps117
  go_wp2_with fail
  go_ret
  exact ⟨ret_int HE1.out.symm,F,by rw [HE2.out];exact HR.out,upd_refl _ _⟩
end
end Go.Proofs.YtcekcoepdhnfgaaGreatDoor
