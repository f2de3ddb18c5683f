/- subs: Best. -/
import Derived.Test.YtcekcoepdhnfgaaGreatDoorSubY
import Derived.Test.YtcekcoepdhnfgaaGreatDoorKT2
namespace Go.Proofs.YtcekcoepdhnfgaaGreatDoor
open Go Go.RowKit
def bestS (n:List UInt8) (l:List SubE):Int × Bool:=l.foldl (fun b x=>if matchB x.1 n then (max b.1 x.2,true) else b) (0,false)
theorem bestS_snoc (n:List UInt8) (l:List SubE) (x:SubE):bestS n (l ++ [x])=if matchB x.1 n then (max (bestS n l).1 x.2,true) else bestS n l:=by
 unfold bestS;rw [List.foldl_append];rfl
def SOk (l:List SubE):Prop:=∀ x ∈ l,0<=x.2/\x.2<=2/\filterB x.1=true/\x.1.length < 4294967281
theorem SOk.putE {x:SubE} {l:List SubE} (h:SOk l) (hx:0<=x.2/\x.2<=2/\filterB x.1=true/\x.1.length < 4294967281):SOk (putE x l):=fun y hy=>by
 rcases mem_putE hy with rfl | hy
 ·exact hx
 ·exact h y hy
theorem SOk.setE {f:List UInt8} {q:Int} {l:List SubE} (h:SOk l) (hq:0<=q) (hf:f.length < 4294967281):SOk (setE f q l):=by
 unfold Go.Proofs.YtcekcoepdhnfgaaGreatDoor.setE
 split
 ·rename_i ho
  unfold setOk at ho;simp only [Bool.and_eq_true,decide_eq_true_eq] at ho;exact h.putE ⟨hq,ho.1,ho.2.1,hf⟩
 ·exact h
theorem SOk.delE {f:List UInt8} {l:List SubE} (h:SOk l):SOk (delE f l):=fun y hy=>h y (List.mem_filter.1 hy).1
theorem best_le {n:List UInt8}:∀ (l:List SubE) (b:Int × Bool),SOk l->0<=b.1/\b.1<=2->0<=(l.foldl (fun b x=>if matchB x.1 n then (max b.1 x.2,true) else b) b).1/\(l.foldl (fun b x=>if matchB x.1 n then (max b.1 x.2,true) else b) b).1<=2
 | [],b,_,hb=>hb
 | x :: r,b,h,hb=>by
  have hx:=h x (by simp);rw [List.foldl_cons];refine best_le r _ (fun y hy=>h y (by simp [hy])) ?_
  split
  ·show 0<=max _ _/\max _ _<=2
   omega
  ·exact hb
theorem bestS_le {n:List UInt8} {l:List SubE} (h:SOk l):0<=(bestS n l).1/\(bestS n l).1<=2:=best_le l _ h ⟨Int.le_refl _,by decide⟩
set_option maxRecDepth 100000
set_option maxHeartbeats 2000000
theorem sbest_any (b:Nat) (l:List SubE) (F:List Nat) (n:List UInt8) (w:World) (h:SRep w b l F) (hO:SOk l) (hT:Tabs w) (hn:n.length < 4294967281) :
  Calls Tryz.prog 68 #[.pointer (some ⟨b,0,none⟩),.string ⟨n.toArray⟩] w fun e w'=>e = .returned (.tuple #[.int .u8 (bestS n l).1,.bool (bestS n l).2])/\Below w.heap.size w w':=by
 have h16:=h.len;have HS:=hyd (subs_any b l F w h);have HT:=hyd hT;have HO:=hyd hO;have HM:=hyd (fun (f:List UInt8) (hf:f.length < 4294967281) W hT=>match_any ⟨f.toArray⟩ ⟨n.toArray⟩ W hT (by show f.toArray.size < _;simpa using hf) (by show n.toArray.size < _;simpa using hn));clear h hT hO
 go_enter Tryz.func68, Tryz.ntmps68
 go_wp2_with fail
 refine HS.out.mono ?_;rintro e w1 ⟨v,rfl,hown,hk⟩;obtain ⟨a,c,rfl,hr,hlc,hcm⟩:=ownsRow_row hown;have HR:=hyd hr;have HK:=hyd hk;clear hown hr hk HS hcm
 go_wp2_with fail
 go_loopw [6,7,13] (fun x y i wr => ∃ k:Nat,x = .int .u8 (bestS n (l.take k)).1/\y = .bool (bestS n (l.take k)).2/\i = .int .i64 k/\k<=l.length/\Below w1.heap.size w1 wr) (fun _ _ i _=>(l.length - intOf i).toNat)
 case atStart=>exact ⟨0,rfl,rfl,rfl,by omega,Below.refl _ _⟩
 case round =>
  obtain ⟨k,rfl,rfl,rfl,hk,hb⟩:=hrel;have HB:=hyd hb;clear hb
  by_cases hlt:k < l.length
  ·have hk0:(0:Int)<=k:=by omega
   have hkl:(k:Int) < l.length:=by omega
   have HSN:=hyd (bestS_snoc n (l.take k) l[k]);rw [<- List.take_succ_eq_append_getElem hlt] at HSN;have hxo:=HO.out _ (List.getElem_mem hlt);have HLE:=hyd (bestS_le (n:=n) (l:=l.take k) (fun y hy=>HO.out y (List.mem_of_mem_take hy)));obtain ⟨b1,o1,rfl,d0,d1⟩:=subs_row (HR.out.below HB.out (Nat.le_refl _)) hlt;generalize l[k]=x at *;obtain ⟨xf,xq⟩:=x;dsimp only at *;have hnew:=heap_alloc_new wr (.cells #[.string ⟨xf.toArray⟩,.int .u8 xq] 76);have hba:=(Below.refl wr.heap.size wr).alloc (Nat.le_refl _) (.cells #[.string ⟨xf.toArray⟩,.int .u8 xq] 76);have n0:=cell_of_row _ _ 0 _ _ _ hnew;simp only [List.getElem?_toArray,List.getElem?_cons_zero] at n0;have HNEW:=hyd hnew;have HBA:=hyd (bnext HB.out (Nat.le_refl _) hba);have HMM:=hyd (HM.out xf hxo.2.2.2 _ ((HT.out.below HK.out).below HBA.out));obtain ⟨bm,hbm⟩:∃ bm,matchB xf n=bm:=⟨_,rfl⟩;rw [hbm] at HMM HSN;generalize bestS n (l.take k)=B at *;obtain ⟨bq,bs⟩:=B;dsimp only at *;have hq0:=hxo.1;have hq2:=hxo.2.1;have hb2:=HLE.out;clear hnew hba hbm hxo
   go_wp2_with fail
   refine HMM.out.mono ?_;rintro e w2 ⟨rfl,hk2⟩;have h2:=(hk2.block _ (Array.getElem?_eq_some_iff.1 HNEW.out).1).trans HNEW.out;have m1:=cell_of_row _ _ 1 _ _ _ h2;simp only [List.getElem?_toArray,List.getElem?_cons_zero,List.getElem?_cons_succ] at m1;have HB2:=hyd (bnext HBA.out (Nat.le_refl _) hk2);clear h2 hk2 HMM HM
   cases bm with
   | false =>
    have HE:=hyd HSN.out;simp only [Bool.false_eq_true,if_false] at HE;clear HSN
    go_wp2_with fail
    go_roundw
    case rel=>exact ⟨k+1,by rw [HE.out],by rw [HE.out],by go_num,by omega,HB2.out⟩
    case measure=>simp [intOf];omega
   | true =>
    have HE:=hyd HSN.out;simp only [if_true] at HE;clear HSN
    go_wp2_with fail
    go_roundw
    case rel=>exact ⟨k+1,by rw [HE.out],by rw [HE.out],by go_num,by omega,HB2.out⟩
    case measure=>simp [intOf];omega
  ·have hkl:¬ (k:Int) < l.length:=by omega
   have HE:=hyd (show bestS n (l.take k)=bestS n l by rw [List.take_of_length_le (by omega)]);generalize bestS n (l.take k)=B at *;obtain ⟨bq,bs⟩:=B
   go_wp2_with fail
   go_ret2
   exact ⟨by rw [<- HE.out];rfl,bnext HK.out (Nat.le_refl _) HB.out⟩
end Go.Proofs.YtcekcoepdhnfgaaGreatDoor
