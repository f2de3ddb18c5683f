/- shard, walked. -/
import Derived.Test.YtcekcoepdhnfgaaGreatDoorShP
import Derived.Test.YtcekcoepdhnfgaaGreatDoorStB
import Derived.Test.YtcekcoepdhnfgaaGreatDoorKT2
import Derived.Laws.Bits64
namespace Go.Proofs.YtcekcoepdhnfgaaGreatDoor
open Go Go.RowKit
theorem fnv_take {l:Str} {k:Nat} (h:k < l.length):fnv (l.take (k+1))=fnvS (fnv (l.take k)) l[k]:=by
 rw [List.take_succ_eq_append_getElem h,fnv_snoc]
theorem fnv_run (h:Nat) (b:UInt8) (hh:h < 18446744073709551616):IntKind.u64.wrap (bits .xor .u64 (h:Int) (IntKind.u64.wrap (b.toNat:Int)) * 1099511628211)=((fnvS h b:Nat):Int):=by
 have hb:=b.toNat_lt;rw [IntKind.wrap_u64 (b.toNat:Int),show (b.toNat:Int) % 18446744073709551616=b.toNat by omega,bits_xor_u64_nat _ _ hh (by omega),IntKind.wrap_u64];unfold fnvS;generalize h ^^^ b.toNat=x;omega
set_option maxRecDepth 100000
set_option maxHeartbeats 2000000
theorem hash_any (s:Str) (b:Nat) (w:World) (hs:s.length<=1000000) (hc:w.cell? ⟨b,0,none⟩=some (.string ⟨s.toArray⟩)) :
  Calls Tryz.prog 294 #[.slice (some ⟨b,0,none⟩) 1 1] w fun e w'=>e = .returned (.int .u64 (fnv s))/\w=w':=by
 have hl:(s.toArray.size:Int)=s.length:=by simp
 go_enter Tryz.func294, Tryz.ntmps294
 go_wp2_with fail
 go_loopw [3,9] (fun h i wr=>wr=w/\(i = .int .i64 0/\h = .int .u64 (fnv []) \/ i = .int .i64 1/\h = .int .u64 (fnv s))) (fun _ i _=>(1 - intOf i).toNat)
 case atStart=>exact ⟨rfl,.inl ⟨rfl,rfl⟩⟩
 case round =>
  obtain ⟨rfl,⟨rfl,rfl⟩ | ⟨rfl,rfl⟩⟩:=hrel
  ·go_wp2_with fail
   go_loopw [3,6,15] (fun h _ i wq => ∃ k:Nat,i = .int .i64 k/\k<=s.length/\wq=wr/\h = .int .u64 (fnv (s.take k))) (fun _ _ i _=>(s.length - intOf i).toNat)
   case atStart=>exact ⟨0,rfl,by omega,rfl,rfl⟩
   case round =>
    obtain ⟨k,rfl,hk,rfl,rfl⟩:=hrel
    by_cases hlt:k < s.length
    ·have hk0:(0:Int)<=k:=by omega
     have hkl:(k:Int) < s.length:=by omega
     have HT:=hyd (fnv_take hlt);have HR:=hyd (fnv_run (fnv (s.take k)) s[k] (fnv_lt _))
     go_wp2_with fail
     go_roundw
     case rel=>exact ⟨k+1,by go_num,by omega,trivial,by rw [HT.out,<- HR.out];rfl⟩
     case measure=>simp [intOf];omega
    ·have hkl:¬ (k:Int) < s.length:=by omega
     rw [List.take_of_length_le (by omega)]
     go_wp2_with fail
     go_roundw
     case rel=>exact ⟨trivial,.inr ⟨rfl,rfl⟩⟩
     case measure=>simp [intOf]
  ·go_wp2_with fail
   go_ret
   exact ⟨rfl,rfl⟩
theorem home_num (h n:Nat) (h1:1<=n) (h2:n<=64):wrap64 ((h:Int) % (n:Int))=((h % n:Nat):Int):=by
 have hm:h % n < n:=Nat.mod_lt _ h1;rw [<- Int.natCast_emod];generalize h % n=x at *;simp only [wrap64];omega
theorem rest_any (s:Str) (n:Nat) (w:World) (hs:s.length<=1000000) (h1:1<=n) (h2:n<=64) :
  Calls Tryz.prog 255 #[.string ⟨s.toArray⟩,.int .i64 n] w fun e w'=>e = .returned (.int .i64 (homeN n s))/\Below w.heap.size w w':=by
 have HH:=hyd (hash_any s w.heap.size (w.alloc (.cells #[.string ⟨s.toArray⟩] 9)) hs (cell_of_row _ _ 0 _ _ _ (heap_alloc_new w _)));have HN:=hyd (home_num (fnv s) n h1 h2);have hn0:¬ IntKind.u64.wrap (n:Int)=0:=by rw [IntKind.wrap_u64];omega
 go_enter Tryz.func255, Tryz.ntmps255
 go_wp2_with fail
 refine HH.out.mono ?_;rintro e w1 ⟨rfl,rfl⟩
 go_wp2_with fail
 go_ret
 exact ⟨by rw [show homeN n s=fnv s % n from rfl,<- HN.out];rfl,low_alloc w _⟩
theorem few_any (n:Nat) (h1:1<=n) (h2:n<=64) (w:World):Calls Tryz.prog 254 #[.int .i64 n] w fun e w'=>e = .returned (.bool true)/\w=w':=by
 have g1:(1:Int)<=n:=by omega
 have g2:(n:Int)<=64:=by omega
 go_enter Tryz.func254, Tryz.ntmps254
 go_wp2_with fail
 go_ret
 exact ⟨by simp,rfl⟩
theorem gate_num {conn:Int} {n:Nat} (h:¬ conn < 1):(conn - 1) % (n:Int)=gateN conn n:=by
 unfold gateN;rw [if_neg h]
theorem gate_any (conn:Int) (n:Nat) (w:World) (hm:conn<=9223372036854775807) (h1:1<=n) (h2:n<=64) :
  Calls Tryz.prog 192 #[.int .i64 conn,.int .i64 n] w fun e w'=>e = .returned (.int .i64 (gateN conn n))/\w=w':=by
 have HF:=hyd (few_any n h1 h2);have hn0:¬ (n:Int)=0:=by omega
 by_cases hc:conn < 1
 ·have HG:=hyd (show gateN conn n = -1 by unfold gateN;rw [if_pos hc])
  clear h1 h2
  go_enter Tryz.func192, Tryz.ntmps192
  go_wp2_with fail
  refine (HF.out _).mono ?_;rintro e w1 ⟨rfl,rfl⟩
  go_wp2_with fail
  go_ret
  exact ⟨ret_int HG.out.symm,rfl⟩
 ·have HG:=hyd (gate_num (n:=n) hc)
  clear h1 h2
  go_enter Tryz.func192, Tryz.ntmps192
  go_wp2_with fail
  refine (HF.out _).mono ?_;rintro e w1 ⟨rfl,rfl⟩
  go_wp2_with fail
  go_ret
  exact ⟨ret_int (by simpa using HG.out),rfl⟩
def firstB (f:Str):Bool:=filterB f && !wildB f
def firstL (f:Str):Str:=if firstB f then level0 f else []
theorem first7_any (s:ByteArray) (w:World) (hT:Tabs w) (hs:s.size < 4294967281) :
  Calls Tryz.prog 264 #[.string s] w fun e w'=>e = .returned (.tuple #[.string ⟨(firstL s.data.toList).toArray⟩,.bool (firstB s.data.toList)])/\Below w.heap.size w w':=by
 have HF:=hyd (filter_any s w hT hs);have HW:=hyd (fun X hX=>wild_any s X hX hs);have HL:=hyd (fun X hX=>levels_any s X hX hs);have HT:=hyd (fun X (hX:Below w.heap.size w X)=>hT.below hX);obtain ⟨x,t,hx⟩:=List.exists_cons_of_ne_nil (levels_ne s.data.toList);have HX:=hyd hx;have HD:Hid (firstB s.data.toList=(filterB s.data.toList && !wildB s.data.toList)):=hyd rfl;have HD2:Hid (firstL s.data.toList=if firstB s.data.toList then x else []):=hyd (by unfold firstL level0;rw [hx];rfl);have hlp:(0:Int) < (levels s.data.toList).length:=by rw [hx];simp
 clear hT hx;generalize levels s.data.toList=L at *;generalize firstL s.data.toList=FL at *;generalize firstB s.data.toList=FB at *;generalize filterB s.data.toList=fb at *;generalize wildB s.data.toList=wb at *
 go_enter Tryz.func264, Tryz.ntmps264
 go_wp2_with fail
 refine HF.out.mono ?_;rintro e w1 ⟨rfl,hk1⟩;have HB1:=hyd hk1;clear hk1
 cases fb
 ·obtain rfl:FB=false:=by rw [HD.out];rfl
  obtain rfl:FL = []:=by rw [HD2.out];rfl
  go_wp2_with fail
  go_ret2
  exact ⟨rfl,HB1.out⟩
 ·go_wp2_with fail
  refine (HW.out w1 (HT.out _ HB1.out)).mono ?_;rintro e w2 ⟨rfl,hk2⟩;have HB2:=hyd (bnext HB1.out (Nat.le_refl _) hk2);clear hk2
  cases wb
  ·obtain rfl:FB=true:=by rw [HD.out];rfl
   obtain rfl:FL=x:=by rw [HD2.out];rfl
   go_wp2_with fail
   refine (HL.out w2 (HT.out _ HB2.out)).mono ?_;rintro e w3 ⟨a,c,rfl,hr,hk3⟩;obtain ⟨b1,o1,rfl,k0⟩:=first_row hr HX.out;have HB3:=hyd (bnext HB2.out (Nat.le_refl _) hk3);clear hr hk3
   go_wp2_with fail
   go_ret2
   exact ⟨rfl,HB3.out⟩
  ·obtain rfl:FB=false:=by rw [HD.out];rfl
   obtain rfl:FL = []:=by rw [HD2.out];rfl
   go_wp2_with fail
   go_ret2
   exact ⟨rfl,HB2.out⟩
theorem hub_any (s:ByteArray) (n:Nat) (w:World) (hT:Tabs w) (hs:s.size<=1000000) (h1:1<=n) (h2:n<=64) :
  Calls Tryz.prog 204 #[.string s,.int .i64 n] w fun e w'=>e = .returned (.int .i64 (hubN s.data.toList n))/\Below w.heap.size w w':=by
 have HF:=hyd (few_any n h1 h2);have HN:=hyd (name_any s w hT (by omega));have HI:=hyd (fun X hX=>first7_any s X hX (by omega));have HT:=hyd (fun X (hX:Below w.heap.size w X)=>hT.below hX);have hl0:(level0 s.data.toList).length<=1000000:=Nat.le_trans (level0_len _) hs;have HR:=hyd (fun X=>rest_any (level0 s.data.toList) n X hl0 h1 h2);obtain ⟨b,hb⟩:∃ b,nameB s.data.toList=b:=⟨_,rfl⟩;have HB:=hyd hb;rw [hb] at HN;clear hT hs h1 h2 hl0 hb
 go_enter Tryz.func204, Tryz.ntmps204
 go_wp2_with fail
 refine (HF.out _).mono ?_;rintro e w1 ⟨rfl,rfl⟩
 go_wp2_with fail
 refine HN.out.mono ?_;rintro e w1 ⟨rfl,hk1⟩;have HB1:=hyd hk1;clear hk1
 cases b
 ·have HG:=hyd (show hubN s.data.toList n = -1 by unfold hubN;rw [HB.out];rfl)
  go_wp2_with fail
  go_ret
  exact ⟨ret_int HG.out.symm,HB1.out⟩
 ·have HG:=hyd (show hubN s.data.toList n=homeN n (level0 s.data.toList) by unfold hubN;rw [if_pos HB.out])
  obtain ⟨hf1,hf2⟩:=name_filter HB.out;have hfb:firstB s.data.toList=true:=by unfold firstB;rw [hf1,hf2];rfl
  have hfl:firstL s.data.toList=level0 s.data.toList:=by unfold firstL;rw [if_pos hfb]
  rw [hfb,hfl] at HI;clear hf1 hf2 hfb hfl
  go_wp2_with fail
  refine (HI.out w1 (HT.out _ HB1.out)).mono ?_;rintro e w2 ⟨rfl,hk2⟩;have HB2:=hyd (bnext HB1.out (Nat.le_refl _) hk2);clear hk2
  go_wp2_with fail
  refine (HR.out w2).mono ?_;rintro e w3 ⟨rfl,hk3⟩;have HB3:=hyd (bnext HB2.out (Nat.le_refl _) hk3);clear hk3
  go_wp2_with fail
  go_ret
  exact ⟨ret_int HG.out.symm,HB3.out⟩
theorem T_intS:ElemT Tryz.prog 150 3 (.int .i64 0) 1 8:=⟨Tryz.underlying150, by kernel_rfl,rfl,by decide⟩
def natsV (l:List Nat):List Value:=l.map fun (k:Nat) => .int .i64 k
theorem hubs_any (s:ByteArray) (n:Nat) (w:World) (hT:Tabs w) (hs:s.size<=1000000) (h1:1<=n) (h2:n<=64) :
  Calls Tryz.prog 195 #[.string s,.int .i64 n] w fun e w' => ∃ v,e = .returned v/\w'.ownsRow w.heap.size 3 1 v (hubsN s.data.toList n).length (natsV (hubsN s.data.toList n))/\Below w.heap.size w w':=by
 have HF:=hyd (few_any n h1 h2);have HN:=hyd (filter_any s w hT (by omega));have HI:=hyd (fun X hX=>first7_any s X hX (by omega));have HT:=hyd (fun X (hX:Below w.heap.size w X)=>hT.below hX);have hl0:(level0 s.data.toList).length<=1000000:=Nat.le_trans (level0_len _) hs;have HR:=hyd (fun X=>rest_any (level0 s.data.toList) n X hl0 h1 h2);obtain ⟨b,hb⟩:∃ b,filterB s.data.toList=b:=⟨_,rfl⟩;obtain ⟨c,hc⟩:∃ c,wildB s.data.toList=c:=⟨_,rfl⟩;have HB:=hyd hb;have HC:=hyd hc;rw [hb] at HN;have H2:=hyd h2;obtain ⟨HS,hHS⟩:∃ L,hubsN s.data.toList n=L:=⟨_,rfl⟩;have HHS:=hyd hHS;rw [hHS];clear hHS;clear hT hs h1 h2 hl0 hb hc
 go_enter Tryz.func195, Tryz.ntmps195
 go_wp2_with fail
 refine (HF.out _).mono ?_;rintro e w1 ⟨rfl,rfl⟩
 go_wp2_with fail
 refine HN.out.mono ?_;rintro e w1 ⟨rfl,hk1⟩;have HB1:=hyd hk1;clear hk1
 cases b
 ·have HG:=hyd (show HS = [] by rw [<- HHS.out];unfold hubsN;rw [HB.out];rfl)
  go_wp2_with fail
  go_ret
  exact ⟨_,rfl,by rw [HG.out];exact World.ownsRow_nil _ _ _ _,HB1.out⟩
 ·cases c
  ·have HG:=hyd (show HS = [homeN n (level0 s.data.toList)] by rw [<- HHS.out];unfold hubsN;rw [if_pos HB.out,HC.out];rfl)
   have hfb:firstB s.data.toList=true:=by unfold firstB;rw [HB.out,HC.out];rfl
   have hfl:firstL s.data.toList=level0 s.data.toList:=by unfold firstL;rw [if_pos hfb]
   rw [hfb,hfl] at HI;clear hfb hfl
   go_wp2_with fail
   refine (HI.out w1 (HT.out _ HB1.out)).mono ?_;rintro e w2 ⟨rfl,hk2⟩;have HB2:=hyd (bnext HB1.out (Nat.le_refl _) hk2);clear hk2
   go_wp2_with fail
   refine (HR.out w2).mono ?_;rintro e w3 ⟨rfl,hk3⟩;have HB3:=hyd (bnext HB2.out (Nat.le_refl _) hk3);clear hk3
   go_wp2_with fail
   go_ret
   have hz:=HB3.out.size;refine ⟨_,rfl,?_,HB3.out.alloc hz _⟩;show (w3.alloc _).ownsRow w.heap.size _ 1 _ HS.length (natsV HS)
   rw [HG.out];exact World.ownsRow_lit w3 _ 1 hz (by decide) rfl
  ·have HG:=hyd (show HS=List.range n by rw [<- HHS.out];unfold hubsN;rw [if_pos HB.out,HC.out];rfl)
   have hfb:firstB s.data.toList=false:=by unfold firstB;rw [HC.out];simp
   rw [hfb] at HI;clear hfb;have h64:=H2.out
   go_wp2_with fail
   refine (HI.out w1 (HT.out _ HB1.out)).mono ?_;rintro e w2 ⟨rfl,hk2⟩;have HB2:=hyd (bnext HB1.out (Nat.le_refl _) hk2);have hs2:=HB2.out.size;clear hk2
   go_wp2_with fail
   go_loopw [7,8,28] (fun v _ i wr => ∃ k:Nat,i = .int .i64 k/\k<=n/\Below w.heap.size w wr/\wr.ownsRow w.heap.size 3 1 v k (natsV (List.range k))) (fun _ _ i _=>(n - intOf i).toNat)
   case atStart=>exact ⟨0,rfl,by omega,HB2.out,World.ownsRow_nil _ _ _ _⟩
   case round =>
    obtain ⟨k,rfl,hk,hbr,hown⟩:=hrel
    by_cases hlt:k < n
    ·have hk0:(0:Int)<=k:=by omega
     have hkl:(k:Int) < n:=by omega
     have hw1:IntKind.i64.wrap ((k:Int)+1)=(k:Int)+1:=w_i64 _ (by omega) (by omega);have HTK:Hid (natsV (List.range (k+1))=natsV (List.range k) ++ [.int .i64 k]):=hyd (by simp [natsV,List.range_succ]);have ho2:=hown;have hb2:=hbr;have hs2:=hb2.size;generalize natsV (List.range k)=V at *;clear hown hbr
     go_wp2_with (first
      | (at_builtin;refine wpList_app T_intS ho2 hb2 hs2 rfl rfl rfl rfl (by rfl) (by simp [Value.oneCell']) (by omega) (by omega) ?_;intro v' w8 hown' hbel3 hsz3 hlt3;have HOW8:=hyd hown';have HBL8:=hyd hbel3;clear hown' hbel3 hsz3 hlt3 ho2 hb2 hs2;go_frame)
      | fail)
     go_roundw
     case rel=>exact ⟨k+1,by go_num,by omega,HBL8.out,by rw [HTK.out];exact HOW8.out⟩
     case measure=>simp [intOf];omega
    ·have hkl:¬ (k:Int) < n:=by omega
     obtain rfl:k=n:=by omega
     have HR:=hyd hown;have HBR:=hyd hbr;clear hown hbr
     go_wp2_with fail
     go_ret
     refine ⟨_,rfl,?_,HBR.out⟩;show wr.ownsRow w.heap.size _ 1 _ HS.length (natsV HS)
     rw [HG.out,List.length_range];exact HR.out
end Go.Proofs.YtcekcoepdhnfgaaGreatDoor
