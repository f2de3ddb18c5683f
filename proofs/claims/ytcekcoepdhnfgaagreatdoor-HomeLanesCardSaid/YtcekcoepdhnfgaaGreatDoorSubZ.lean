/- subs, plain. -/
import Derived.Test.YtcekcoepdhnfgaaGreatDoorMZ
import Derived.Test.YtcekcoepdhnfgaaGreatDoorShelf
namespace Go.Proofs.YtcekcoepdhnfgaaGreatDoor
section
open Go Go.RowKit
theorem cmpB_lt:∀ (a b:List UInt8),Lib.compareBytes a b < 0 ↔ a < b
 | [],[]=>by simp [Lib.compareBytes]
 | [],y :: r=>by simp [Lib.compareBytes]
 | x :: r,[]=>by simp [Lib.compareBytes]
 | x :: r,y :: s=>by
  unfold Lib.compareBytes;rw [List.cons_lt_cons_iff]
  by_cases h1:x < y
  ·simp [h1]
  ·rw [if_neg h1]
   by_cases h2:y < x
   ·have hne:x ≠ y:=fun e=>by subst e;exact h1 h2
    simp [h1,h2,hne]
   ·have he:x=y:=UInt8.le_antisymm (UInt8.not_lt.1 h2) (UInt8.not_lt.1 h1)
    rw [if_neg h2,cmpB_lt r s];simp [he,UInt8.lt_irrefl]
theorem cmpB_eq:∀ (a b:List UInt8),Lib.compareBytes a b=0 ↔ a=b
 | [],[]=>by simp [Lib.compareBytes]
 | [],y :: r=>by simp [Lib.compareBytes]
 | x :: r,[]=>by simp [Lib.compareBytes]
 | x :: r,y :: s=>by
  unfold Lib.compareBytes
  by_cases h1:x < y
  ·have hne:x ≠ y:=fun e=>by subst e;exact UInt8.lt_irrefl _ h1
   simp [h1,hne]
  ·rw [if_neg h1]
   by_cases h2:y < x
   ·have hne:x ≠ y:=fun e=>by subst e;exact h1 h2
    simp [h2,hne]
   ·have he:x=y:=UInt8.le_antisymm (UInt8.not_lt.1 h2) (UInt8.not_lt.1 h1)
    rw [if_neg h2,cmpB_eq r s];simp [he]
theorem scmp_any (f t:List UInt8) (q:Int) (w:World) :
  Calls Tryz.prog 267 #[.agg #[.string ⟨f.toArray⟩,.int .u8 q],.string ⟨t.toArray⟩] w fun e w'=>e = .returned (.int .i64 (Lib.compareBytes f t))/\w'=w.alloc (.cells #[.string ⟨f.toArray⟩,.int .u8 q] 76):=by
 have hg:=heap_alloc_new w (.cells #[.string ⟨f.toArray⟩,.int .u8 q] 76);have c0:=cell_of_row _ _ 0 _ _ _ hg;have HC:=hyd (fun W => Tryz.strings_Compare ⟨f.toArray⟩ ⟨t.toArray⟩ W);clear hg
 go_enter Tryz.func267, Tryz.ntmps267
 go_wp2_with fail
 refine (HC.out _).mono ?_;rintro e w1 ⟨rfl,rfl⟩
 go_wp2_with fail
 go_ret
 exact ⟨rfl,rfl⟩
end
section
open Go Go.RowKit
def subCells (x:SubE):List Value:=[.string ⟨x.1.toArray⟩,.int .u8 x.2]
def subsV (l:List SubE):List Value:=l.flatMap subCells
theorem T_sub:ElemT Tryz.prog 37 76 (.agg #[.string ⟨#[]⟩,.int .u8 0]) 2 24:=⟨Tryz.underlying37, by kernel_rfl,rfl,by decide⟩
theorem subsV_length (l:List SubE):(subsV l).length=l.length * 2:=by
 induction l with
 | nil=>rfl
 | cons a r ih=>simp only [subsV,List.flatMap_cons,List.length_append,List.length_cons] at *;rw [ih];simp [subCells];omega
theorem subsV_append (a b:List SubE):subsV (a++b)=subsV a++subsV b:=List.flatMap_append ..
theorem subsV_one (l:List SubE):∀ u ∈ subsV l,u.oneCell'=true:=by
 intro u hu;simp only [subsV,List.mem_flatMap] at hu;obtain ⟨m,_,hm⟩:=hu;simp only [subCells,List.mem_cons,List.not_mem_nil,or_false] at hm
 rcases hm with rfl | rfl <;> rfl
theorem subsV_at {l:List SubE} {i:Nat} (h:i < l.length):(subsV l)[i * 2]? = some (.string ⟨l[i].1.toArray⟩)/\(subsV l)[i * 2+1]? = some (.int .u8 l[i].2):=by
 induction l generalizing i with
 | nil=>simp at h
 | cons a r ih =>
  cases i with
  | zero=>exact ⟨rfl,rfl⟩
  | succ i =>
   have:=@ih i (by simpa using h);rw [show (i+1) * 2=i * 2+1+1 by omega]
   simpa [subsV,subCells] using this
theorem subsV_take (l:List SubE) (k:Nat):(subsV l).take (k * 2)=subsV (l.take k):=by
 induction l generalizing k with
 | nil=>simp [subsV]
 | cons a r ih =>
  cases k with
  | zero=>simp [subsV]
  | succ k =>
   rw [show (k+1) * 2=k * 2+1+1 by omega];have:=ih k;simp only [subsV,List.flatMap_cons,subCells,List.cons_append,List.nil_append,List.take_succ_cons] at *;rw [this]
theorem subsV_drop (l:List SubE) (k:Nat):(subsV l).drop (k * 2)=subsV (l.drop k):=by
 induction l generalizing k with
 | nil=>simp [subsV]
 | cons a r ih =>
  cases k with
  | zero=>simp [subsV]
  | succ k =>
   rw [show (k+1) * 2=k * 2+1+1 by omega];have:=ih k;simp only [subsV,List.flatMap_cons,subCells,List.cons_append,List.nil_append,List.drop_succ_cons] at *;rw [this]
theorem subs_row {w:World} {a:Option Addr} {l:List SubE} (h:Row w a (subsV l)) {i:Nat} (hi:i < l.length):∃ b off,a=some ⟨b,off,none⟩/\w.cell? ⟨b,off+i * 2,none⟩=some (.string ⟨l[i].1.toArray⟩)/\w.cell? ⟨b,off+i * 2+1,none⟩=some (.int .u8 l[i].2):=by
 obtain ⟨m0,m1⟩:=subsV_at hi
 rcases h with h | ⟨b,off,ha,hc⟩
 ·rw [h] at m0;simp at m0
 ·exact ⟨b,off,ha,hc _ _ m0,by rw [Nat.add_assoc];exact hc _ _ m1⟩
def Stands (f:List UInt8) (l:List SubE) (k:Nat):Prop:=k<=l.length/\(∀ y ∈ l.take k,y.1 < f) /\ ∀ y ∈ l.drop k,¬ y.1 < f
set_option maxRecDepth 100000
set_option maxHeartbeats 2000000
theorem bsearch_any (a:Option Addr) (c:Nat) (l:List SubE) (f:List UInt8) (w:World) (ha:Row w a (subsV l)) (hn:l.length < 1000000) (hU:SUp l) :
  Calls Tryz.prog 266 #[.slice a l.length c,.string ⟨f.toArray⟩,.func (.func 267) #[] #[]] w fun e w' =>
   ∃ k:Nat,e = .returned (.tuple #[.int .i64 k,.bool (hasE f l)])/\Stands f l k/\Below w.heap.size w w':=by
 have HA:=hyd ha;have HU:=hyd hU;clear ha hU
 go_enter Tryz.func266, Tryz.ntmps266
 go_wp2_with fail
 go_loopw [9,10] (fun x y wr => ∃ i j:Nat,x = .int .i64 i/\y = .int .i64 j/\i<=j/\j<=l.length/\(∀ y ∈ l.take i,y.1 < f)/\(∀ y ∈ l.drop j,¬ y.1 < f)/\Below w.heap.size w wr) (fun x y _=>(intOf y - intOf x).toNat)
 case atStart=>exact ⟨0,l.length,rfl,rfl,by omega,by omega,by simp,by simp,Below.refl _ _⟩
 case round =>
  obtain ⟨i,j,rfl,rfl,hij,hj,hlo,hhi,hb⟩:=hrel;have HLO:=hyd hlo;have HHI:=hyd hhi;have HB:=hyd hb;clear hlo hhi hb
  by_cases hlt:i < j
  ·have hijI:(i:Int) < j:=by omega
   have e1:IntKind.i64.wrap ((i:Int)+j)=(i:Int)+j:=w_i64 _ (by omega) (by omega);obtain ⟨m,hm⟩:∃ m:Nat,(i+j) / 2=m:=⟨_,rfl⟩;have hmI:((i:Int)+j) / 2=(m:Int):=by omega
   have hm1:i<=m:=by omega
   have hm2:m < j:=by omega
   have hml:m < l.length:=by omega
   have hmc:(m:Int) < l.length:=by omega
   have hm0:(0:Int)<=m:=by omega
   clear hm;obtain ⟨b,off,rfl,c0,c1⟩:=subs_row HA.out hml;have d0:=c0;have d1:=c1;rw [<- HB.out.cell (p:=⟨b,off+m * 2,none⟩) (World.block_lt_of_cell? w _ c0)] at d0;rw [<- HB.out.cell (p:=⟨b,off+m * 2+1,none⟩) (World.block_lt_of_cell? w _ c1)] at d1;clear c0 c1;have HLT:=hyd (fun h=>HU.out.low (f:=f) hml h);have HGE:=hyd (fun h=>HU.out.high (f:=f) hml h);generalize l[m]=x at *;obtain ⟨xf,xq⟩:=x;dsimp only at *;have HC:=hyd (scmp_any xf f xq wr);have e2:IntKind.i64.wrap ((m:Int)+1)=(m:Int)+1:=w_i64 _ (by omega) (by omega)
   by_cases hx:xf < f
   ·have hcmp:Lib.compareBytes xf f < 0:=(cmpB_lt _ _).2 hx
    go_wp2_with fail
    refine HC.out.mono ?_;rintro e w1 ⟨rfl,rfl⟩;have HB2:=hyd (HB.out.alloc HB.out.size (.cells #[.string ⟨xf.toArray⟩,.int .u8 xq] 76));have HL2:=hyd (HLT.out hx);clear hx HLT HGE
    go_wp2_with fail
    go_roundw
    case rel=>exact ⟨m+1,j,by go_num,rfl,by omega,by omega,HL2.out,HHI.out,HB2.out⟩
    case measure=>simp [intOf];omega
   ·have hcmp:¬ Lib.compareBytes xf f < 0:=fun h=>hx ((cmpB_lt _ _).1 h)
    go_wp2_with fail
    refine HC.out.mono ?_;rintro e w1 ⟨rfl,rfl⟩;have HB2:=hyd (HB.out.alloc HB.out.size (.cells #[.string ⟨xf.toArray⟩,.int .u8 xq] 76));have HL2:=hyd (HGE.out hx);clear hx HLT HGE
    go_wp2_with fail
    go_roundw
    case rel=>exact ⟨i,m,rfl,rfl,by omega,by omega,HLO.out,HL2.out,HB2.out⟩
    case measure=>simp [intOf];omega
  ·obtain rfl:i=j:=by omega
   have hE:=hasE_at HU.out hj HLO.out HHI.out;have hij0:¬ (i:Int) < i:=by omega
   by_cases hl:i < l.length
   ·have hlI:(i:Int) < l.length:=by omega
    have hi0:(0:Int)<=i:=by omega
    obtain ⟨b,off,rfl,c0,c1⟩:=subs_row HA.out hl;have d0:=c0;have d1:=c1;rw [<- HB.out.cell (p:=⟨b,off+i * 2,none⟩) (World.block_lt_of_cell? w _ c0)] at d0;rw [<- HB.out.cell (p:=⟨b,off+i * 2+1,none⟩) (World.block_lt_of_cell? w _ c1)] at d1;clear c0 c1
    have HE:=hyd (show hasE f l=decide (l[i].1=f) by
     rw [Bool.eq_iff_iff,hE,decide_eq_true_iff]
     exact ⟨fun ⟨_,h⟩=>h,fun h=>⟨hl,h⟩⟩)
    clear hE;generalize l[i]=x at *;obtain ⟨xf,xq⟩:=x;dsimp only at *;have HC:=hyd (scmp_any xf f xq wr);have HQ:=hyd (show decide (Lib.compareBytes xf f=0)=decide (xf=f) from decide_eq_decide.2 (cmpB_eq xf f))
    go_wp2_with fail
    refine HC.out.mono ?_;rintro e w1 ⟨rfl,rfl⟩;have HB2:=hyd (HB.out.alloc HB.out.size (.cells #[.string ⟨xf.toArray⟩,.int .u8 xq] 76))
    go_wp2_with fail
    go_ret2
    exact ⟨i,ret2 rfl (v_bool (by rw [HE.out,<- HQ.out];rfl)),⟨hj,HLO.out,HHI.out⟩,HB2.out⟩
   ·have hlI:¬ (i:Int) < l.length:=by omega
    have HE:=hyd (show hasE f l=false by
     rw [Bool.eq_false_iff,Ne,hE];rintro ⟨h,-⟩
     exact hl h)
    clear hE
    go_wp2_with fail
    go_ret2
    exact ⟨i,ret2 rfl (v_bool HE.out.symm),⟨hj,HLO.out,HHI.out⟩,HB.out⟩
end
end Go.Proofs.YtcekcoepdhnfgaaGreatDoor
