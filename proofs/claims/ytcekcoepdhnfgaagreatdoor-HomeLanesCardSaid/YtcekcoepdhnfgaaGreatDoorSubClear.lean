/- subs: Clear. -/
import Derived.Test.YtcekcoepdhnfgaaGreatDoorSeR
import Derived.Test.YtcekcoepdhnfgaaGreatDoorOutZ
namespace Go.Proofs.YtcekcoepdhnfgaaGreatDoor
open Go Go.RowKit
def namesV (l:List (List UInt8)):List Value:=l.map fun x => .string ⟨x.toArray⟩
theorem T_strS:ElemT Tryz.prog 41 9 (.string ⟨#[]⟩) 1 16:=⟨Tryz.underlying41, by kernel_rfl,rfl,by decide⟩
theorem namesV_snoc (l:List SubE) (k:Nat) (hk:k < l.length):namesV ((namesE l).take (k+1))=namesV ((namesE l).take k) ++ [.string ⟨l[k].1.toArray⟩]:=by
 have:k < (namesE l).length:=by simpa [namesE] using hk
 rw [List.take_succ_eq_append_getElem this];simp [namesV,namesE]
set_option maxRecDepth 100000
set_option maxHeartbeats 2000000
theorem sclear_any (b:Nat) (l:List SubE) (F:List Nat) (w:World) (h:SRep w b l F) :
  Calls Tryz.prog 110 #[.pointer (some ⟨b,0,none⟩)] w fun e w' => ∃ v,e = .returned v/\w'.ownsRow w.heap.size 9 1 v l.length (namesV (namesE l))/\SRep w' b [] [b]/\Upd F [b] w w':=by
 have HS:=hyd (subs_any b l F w h);have H:=hyd h;have hl16:=h.len;clear h
 go_enter Tryz.func110, Tryz.ntmps110
 go_wp2_with fail
 refine HS.out.mono ?_;rintro e w1 ⟨sv,rfl,hso,hb1⟩;obtain ⟨sa,sc,rfl,hrow,-,-⟩:=ownsRow_row hso;have HR:Hid (∀ X,Below w1.heap.size w1 X->Row X sa (subsV l)):=hyd (fun X hX=>hrow.below hX (Nat.le_refl _));have HB1:=hyd hb1;clear hso hrow hb1
 go_wp2_with fail
 go_loopw [3,9] (fun v i wr => ∃ k:Nat,i = .int .i64 k/\k<=l.length/\Below w1.heap.size w1 wr/\wr.ownsRow w1.heap.size 9 1 v k (namesV ((namesE l).take k))) (fun _ i _=>(l.length - intOf i).toNat)
 case atStart=>exact ⟨0,rfl,by omega,Below.refl _ _,by simpa [namesV] using World.ownsRow_nil _ _ _ _⟩
 case round =>
  obtain ⟨k,rfl,hk,hbr,hown⟩:=hrel
  by_cases hlt:k < l.length
  ·have hk0:(0:Int)<=k:=by omega
   have hkl:(k:Int) < l.length:=by omega
   obtain ⟨rb,off,rfl,c0,c1⟩:=subs_row (HR.out _ hbr) hlt;have HTK:=hyd (namesV_snoc l k hlt);generalize l[k]=x at *;generalize namesV ((namesE l).take k)=V at *;obtain ⟨xn,xq⟩:=x;dsimp only at *;have hw1:IntKind.i64.wrap ((k:Int)+1)=(k:Int)+1:=w_i64 _ (by omega) (by omega);have ho2:=hown.alloc (.cells #[.string ⟨xn.toArray⟩,.int .u8 xq] 76);have hb2:=hbr.alloc hbr.size (.cells #[.string ⟨xn.toArray⟩,.int .u8 xq] 76);have hs2:=hb2.size;clear hown hbr
   go_wp2_with (first
    | (at_builtin;refine wpList_app T_strS ho2 hb2 hs2 rfl rfl rfl (by rw [World.size_alloc];rfl) (by rfl) (by simp [Value.oneCell']) (by omega) (by omega) ?_;intro v' w8 hown' hbel3 hsz3 hlt3;have HOW8:=hyd hown';have HBL8:=hyd hbel3;clear hown' hbel3 hsz3 hlt3 ho2 hb2 hs2;go_frame)
    | fail)
   go_roundw
   case rel=>exact ⟨k+1,by go_num,by omega,HBL8.out,by rw [HTK.out];exact HOW8.out⟩
   case measure=>simp [intOf];omega
  ·have hkl:¬ (k:Int) < l.length:=by omega
   obtain rfl:k=l.length:=by omega
   have hnl:(namesE l).length=l.length:=by simp [namesE]
   rw [<- hnl,List.take_length,hnl] at hown;have hbw:=bnext HB1.out (Nat.le_refl _) hbr;have hr:=H.out.below hbw;obtain ⟨a0,c0,G,hh,hsr,-,-,hbG,-,-,hF⟩:=hr;have c0':=cell_of_row _ b 0 _ _ _ hh;have f0:=frozen_of_row _ b 0 _ _ hh;simp only [List.getElem?_toArray,List.getElem?_cons_zero] at c0';have hbF:b ∈ F:=by rw [hF];simp
   have hbl:=H.out.lt b hbF;have HOW:=hyd hown;have HBW:=hyd hbw;have HH:=hyd hh;have hs1:=HB1.out.size;clear hown hbr hbw hh hsr hF hnl
   go_wp2_with fail
   go_ret
   have h9:=heap_setCell_same wr b 0 _ _ (.slice none 0 0) HH.out;refine ⟨_,rfl,?_,⟨none,0,[],by simpa using h9,.inl ⟨rfl,rfl,rfl⟩,by simp,by decide,by simp,by simp [SUp],by simp,rfl⟩,((Mod.of_below HBW.out F).setCell (.inl hbF) _),fun k hk=>by rw [List.mem_singleton.1 hk];exact .inl hbF⟩;refine ownsRow_mono (ownsRow_local HOW.out fun j hj=>heap_setCell_other wr _ _ _ ?_) hs1;have:=(HOW.out.lt j hj).1;show j ≠ b
   omega
end Go.Proofs.YtcekcoepdhnfgaaGreatDoor
