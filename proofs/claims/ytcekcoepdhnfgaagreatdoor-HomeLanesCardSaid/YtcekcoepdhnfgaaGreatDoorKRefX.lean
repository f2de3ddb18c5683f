/- Texts and levels, plain. -/
import Derived.Test.YtcekcoepdhnfgaaGreatDoorLib
import Derived.Lib.DecodeN
import Derived.Lib.RuneCountTail
import Derived.Shelf.Unicode.DecodeSlow
import Derived.Test.YtcekcoepdhnfgaaGreatDoorRows
import Derived.Test.YtcekcoepdhnfgaaGreatDoorShelf
import Derived.Lib.OthersKept
namespace Go.Proofs.YtcekcoepdhnfgaaGreatDoor
section
open Go Go.RowKit
def cwN (n b0 b1 b2 b3:Nat):Nat:=
 if 1<=b0/\b0 < 128 then 1
 else if 194<=b0/\b0 < 224/\1 < n/\128<=b1/\b1 < 192 then 2
 else if 224<=b0/\b0 < 240/\2 < n/\128<=b1/\b1 < 192/\128<=b2/\b2 < 192/\(b0=224->160<=b1)/\(b0=237->b1 < 160) then 3
 else if 240<=b0/\b0 < 245/\3 < n/\128<=b1/\b1 < 192/\128<=b2/\b2 < 192/\128<=b3/\b3 < 192/\(b0=240->144<=b1)/\(b0=244->b1 < 144) then 4
 else 0
def at0 (l:List UInt8) (i:Nat):Nat:=(l.getD i 0).toNat
theorem at0_lt (l:List UInt8) (i:Nat):at0 l i < 256:=(l.getD i 0).toNat_lt
theorem at0_ge {l:List UInt8} {i:Nat} (h:l.length<=i):at0 l i=0:=by
 unfold at0;rw [List.getD_eq_getElem?_getD,List.getElem?_eq_none h];rfl
theorem at0_drop (l:List UInt8) (p i:Nat):at0 (l.drop p) i=at0 l (p+i):=by
 unfold at0;rw [List.getD_eq_getElem?_getD,List.getD_eq_getElem?_getD,List.getElem?_drop]
theorem at0_get {l:List UInt8} {i:Nat} {x:UInt8} (h:l[i]? = some x):at0 l i=x.toNat:=by
 unfold at0;rw [List.getD_eq_getElem?_getD,h];rfl
def cw (l:List UInt8):Nat:=cwN l.length (at0 l 0) (at0 l 1) (at0 l 2) (at0 l 3)
theorem cw_le (l:List UInt8):cw l<=l.length:=by
 have h0:=at0_ge (l:=l) (i:=0);unfold cw cwN
 repeat' split
 all_goals omega
def cntL:Nat->List UInt8->Option Nat
 | 0,l=>if l.isEmpty then some 0 else none
 | f+1,l=>if l.isEmpty then some 0 else if cw l=0 then none else (cntL f (l.drop (cw l))).map (· + 1)
def cnt (l:List UInt8):Option Nat:=cntL l.length l
theorem cntL_fuel (f:Nat):∀ (g:Nat) (l:List UInt8),l.length<=f->l.length<=g->cntL f l=cntL g l:=by
 induction f with
 | zero =>
  intro g l hf _;obtain rfl:=List.eq_nil_of_length_eq_zero (Nat.le_zero.1 hf)
  cases g <;> rfl
 | succ f ih =>
  intro g l hf hg
  cases g with
  | zero =>
   obtain rfl:=List.eq_nil_of_length_eq_zero (Nat.le_zero.1 hg)
   rfl
  | succ g =>
   unfold cntL
   split
   ·rfl
   ·split
    ·rfl
    ·rw [ih g (l.drop (cw l)) (by rw [List.length_drop];omega) (by rw [List.length_drop];omega)]
theorem cnt_nil:cnt []=some 0:=rfl
theorem cnt_step {l:List UInt8} (h:l ≠ []):cnt l=if cw l=0 then none else (cnt (l.drop (cw l))).map (· + 1):=by
 obtain ⟨x,t,rfl⟩:=List.exists_cons_of_ne_nil h;show cntL (t.length+1) (x :: t)=_
 unfold cntL;simp only [List.isEmpty_cons,Bool.false_eq_true,if_false]
 split
 ·rfl
 ·have hc:=cw_le (x :: t)
  rw [cnt,cntL_fuel t.length _ _ (by rw [List.length_drop,List.length_cons];omega) (Nat.le_refl _)]
set_option maxRecDepth 100000
set_option maxHeartbeats 4000000
theorem decodeN_good (n b0 b1 b2 b3:Nat) (h0:b0 < 256) (h1:b1 < 256) (h2:b2 < 256) (h3:b3 < 256) :
  (cwN n b0 b1 b2 b3=0->(Lib.decodeN n b0 b1 b2 b3).1=0 \/ ((Lib.decodeN n b0 b1 b2 b3).1=65533/\(Lib.decodeN n b0 b1 b2 b3).2=1)) ∧
  (cwN n b0 b1 b2 b3 ≠ 0->(Lib.decodeN n b0 b1 b2 b3).1 ≠ 0/\(Lib.decodeN n b0 b1 b2 b3).2=cwN n b0 b1 b2 b3/\((Lib.decodeN n b0 b1 b2 b3).1=65533->1 < (Lib.decodeN n b0 b1 b2 b3).2)):=by
 unfold cwN Lib.decodeN
 repeat' split
 all_goals first | (exfalso;omega) | (simp only [];omega) | (constructor <;> intro h <;> first | (exfalso;omega) | omega | (simp only [] at *;omega))
theorem get_at0 (s:ByteArray) (i:Nat):(s.get! i).toNat=at0 s.data.toList i:=by rw [at0,Lib.getD_get!']
theorem cw_decode (s:ByteArray) (p:Nat) :
  (cw (s.data.toList.drop p)=0->(Utf8.decode s p).1=0 \/ ((Utf8.decode s p).1=65533/\(Utf8.decode s p).2=1)) ∧
  (cw (s.data.toList.drop p) ≠ 0->(Utf8.decode s p).1 ≠ 0/\(Utf8.decode s p).2=cw (s.data.toList.drop p)/\((Utf8.decode s p).1=65533->1 < (Utf8.decode s p).2)):=by
 have hl:(s.data.toList.drop p).length=s.size - p:=by rw [List.length_drop];rfl
 rw [Lib.decode_at,get_at0,get_at0,get_at0,get_at0];have h:=decodeN_good (s.size - p) (at0 s.data.toList p) (at0 s.data.toList (p+1)) (at0 s.data.toList (p+2)) (at0 s.data.toList (p+3)) (at0_lt _ _) (at0_lt _ _) (at0_lt _ _) (at0_lt _ _);unfold cw;rw [hl,at0_drop,at0_drop,at0_drop,at0_drop];exact h
theorem decode_small (s:ByteArray) (p:Nat):(Utf8.decode s p).1<=1114111/\(Utf8.decode s p).2<=4/\1<=(Utf8.decode s p).2:=by
 have h0:=(s.get! p).toNat_lt;rw [Lib.decode_at];unfold Lib.decodeN
 repeat' split
 all_goals (simp only [];omega)
theorem decodeGo_tail (s:ByteArray) (p:Nat) (h:p < s.size):Lib.decodeGo (s.extract p s.size)=Utf8.decode s p:=by
 unfold Lib.decodeGo;rw [if_neg (by rw [Lib.tail_size];omega),Lib.tail_decode,Nat.add_zero]
def cntI (l:List UInt8):Int:=if 65535 < l.length then -1 else match cnt l with
 | none => -1
 | some n=>n
theorem cntI_long {l:List UInt8} (h:65535 < l.length):cntI l = -1:=by rw [cntI,if_pos h]
theorem cntI_none {l:List UInt8} (h:cnt l=none):cntI l = -1:=by rw [cntI,h];split <;> rfl
theorem cntI_some {l:List UInt8} {n:Nat} (h:¬ 65535 < l.length) (hc:cnt l=some n):cntI l=n:=by rw [cntI,if_neg h,hc]
theorem cnt_at {l:List UInt8} {p k:Nat} (h:cnt l=(cnt (l.drop p)).map (· + k)) (hp:p < l.length) :
  (cw (l.drop p)=0->cnt l=none)/\(cw (l.drop p) ≠ 0->cnt l=(cnt (l.drop (p+cw (l.drop p)))).map (· + (k+1))):=by
 have hne:l.drop p ≠ []:=by intro e;have:=congrArg List.length e;rw [List.length_drop] at this;simp at this;omega
 rw [cnt_step hne] at h;constructor
 ·intro h0;rw [h,if_pos h0];rfl
 ·intro h0
  rw [h,if_neg h0,List.drop_drop]
  cases cnt (l.drop (p+cw (l.drop p))) with
  | none=>rfl
  | some m=>simp;omega
end
section
open Go Go.RowKit Go.Lib
def Tabs (w:World):Prop:=Lib.Utf8Tabs 2 3 w /\ ∃ m:Int,w.cell? ⟨1,0,none⟩=some (.int .i64 m)
theorem Tabs.below {w w':World} (h:Tabs w) (hb:Below w.heap.size w w'):Tabs w':=by
 refine ⟨Utf8Tabs_below h.1 hb,?_⟩;obtain ⟨m,hm⟩:=h.2;exact ⟨m,by rw [hb.cell (p:=⟨1,0,none⟩) (World.block_lt_of_cell? w _ hm)];exact hm⟩
theorem byte_lt (c:UInt8):(c.toNat:Int) < 256:=by have:=c.toNat_lt;omega
theorem bget (s:ByteArray) (k:Nat) (h:k < s.size):s.data.toList[k]? = some s[k]:=by
 rw [List.getElem?_eq_getElem (by simpa using h)];rfl
end
section
open Go Go.RowKit Go.Lib
theorem whole_any (s:ByteArray) (w:World) (hT:Tabs w) :
  Calls Tryz.prog 325 #[.string s] w fun e w'=>e = .returned (.bool (decide (1 < (Lib.decodeGo s).2)))/\Below w.heap.size w w':=by
 obtain ⟨R,hR⟩:∃ R,(Lib.decodeGo s).1=R:=⟨_,rfl⟩;obtain ⟨K,hK⟩:∃ K,(Lib.decodeGo s).2=K:=⟨_,rfl⟩;have cS:=Tryz.utf8_DecodeRuneInString s w hT.1;rw [hR,hK] at cS;rw [hK];have HC:=hyd cS;clear cS hR hK
 go_enter Tryz.func325, Tryz.ntmps325
 go_wp2_with fail
 refine HC.out.mono ?_;rintro e w' ⟨rfl,hb⟩
 go_wp2_with fail
 go_ret
 exact ⟨ret_bool (decide_eq_decide.2 (by omega)),hb⟩
theorem whole_at (b:Bool) (s:ByteArray) (p:Nat) (w:World) (hT:Tabs w) (hp:p < s.size) (hb:decide (1 < (Utf8.decode s p).2)=b) :
  Calls Tryz.prog 325 #[.string (s.extract p s.size)] w fun e w'=>e = .returned (.bool b)/\Below w.heap.size w w':=by
 rw [<- hb,<- decodeGo_tail s p hp];exact whole_any _ w hT
theorem below_at' {w w':World} {p:Nat} {x:Obj} (h:w.heap[p]? = some x) (hk:Below w.heap.size w w'):w'.heap[p]? = some x:=by
 rw [hk.block p (Array.getElem?_eq_some_iff.1 h).1];exact h
def leftAt (it n:Nat) (w:World):Nat:=match w.heap[it]? with
 | some (.stringIter _ p)=>n - p
 | _=>0
theorem leftAt_of {it n p:Nat} {w:World} {s:ByteArray} (h:w.heap[it]? = some (.stringIter s p)):leftAt it n w=n - p:=by rw [leftAt,h]
set_option maxRecDepth 100000
set_option maxHeartbeats 4000000
theorem count_any (s:ByteArray) (w:World) (hT:Tabs w) (hbig:s.size<=9223372036854775807) :
  Calls Tryz.prog 291 #[.string s] w fun e w'=>e = .returned (.int .i64 (cntI s.data.toList))/\Below w.heap.size w w':=by
 have hlen:s.data.toList.length=s.size:=rfl
 by_cases hlong:65535 < s.size
 ·have HL:=hyd (cntI_long (l:=s.data.toList) (by omega))
  have hl':(65535:Int) < s.size:=by omega
  go_enter Tryz.func291, Tryz.ntmps291
  go_wp2_with fail
  go_ret
  exact ⟨by rw [HL.out];rfl,Below.refl _ _⟩
 have hl':¬ (65535:Int) < s.size:=by omega
 have hl'':decide ((65535:Int) < s.size)=false:=decide_eq_false hl';have HT:=hyd hT;clear hT
 go_enter Tryz.func291, Tryz.ntmps291
 go_wp2_with fail
 generalize hit:w.heap.size=it;have hi0:(w.iter s 0).heap[it]? = some (.stringIter s 0):=by rw [<- hit];exact World.iter_heap w s 0
 have hb0:Below it w (w.iter s 0):=by rw [<- hit];exact (Below.refl _ _).alloc (Nat.le_refl _) _
 go_loopw [3] (fun n wr => ∃ k p:Nat,n = .int .i64 k/\k<=p/\p<=s.size/\wr.heap[it]? = some (.stringIter s p)/\Below it w wr/\Hid (cnt s.data.toList=(cnt (s.data.toList.drop p)).map (· + k))) (fun _ wr=>leftAt it s.size wr)
 case atStart=>exact ⟨0,0,rfl,Nat.le_refl _,Nat.zero_le _,hi0,hb0,by unfold Hid;rw [List.drop_zero];cases cnt s.data.toList <;> rfl⟩
 case round =>
  obtain ⟨k,p,rfl,hkp,hp,hi,hb,HN⟩:=hrel;clear hi0 hb0
  by_cases hlt:p < s.size
  ·have hnx:=fun ty=>run_next_any_at (P:=Tryz.prog) wr it s p ty hi hlt
   have hd:=cw_decode s p;have hsm:=decode_small s p;have hat:=cnt_at HN.out (by omega);have hi2:=iterAt_heap wr it s p (p+(Utf8.decode s p).2) hi;have hb2:=below_iterAt hb (Nat.le_refl it) s (p+(Utf8.decode s p).2);have hT2:Tabs (wr.iterAt it s (p+(Utf8.decode s p).2)):=HT.out.below (by rw [hit];exact hb2);have hw:=fun b=>whole_at b s p _ hT2 hlt
   have hm0:leftAt it s.size wr=s.size - p:=leftAt_of hi;have hcl:=cw_le (s.data.toList.drop p);rw [List.length_drop,hlen] at hcl;generalize (Utf8.decode s p).1=c at *;generalize (Utf8.decode s p).2=K at *;generalize wr.iterAt it s (p+K)=W2 at *;have hp0:(0:Int)<=p:=by omega
   have hps:(p:Int)<=s.size:=by omega
   by_cases hc:cw (s.data.toList.drop p)=0
   ·have HF:=hyd (cntI_none (hat.1 hc))
    clear hat
    rcases hd.1 hc with rfl | ⟨rfl,rfl⟩
    ·clear hd hc hw
     go_wp2_with fail
     go_ret
     exact ⟨by rw [HF.out];rfl,by rw [hit];exact hb2⟩
    ·clear hd hc
     have HW:=hyd (hw false rfl);clear hw
     go_wp2_with fail
     refine HW.out.mono ?_;rintro e w6 ⟨rfl,hk⟩;have hb3:=bnext hb2 (by have:=hb.size;have h2:=(Array.getElem?_eq_some_iff.1 hi2).1;omega) hk
     go_wp2_with fail
     go_ret
     exact ⟨by rw [HF.out];rfl,by rw [hit];exact hb3⟩
   ·obtain ⟨hc0,rfl,hcw⟩:=hd.2 hc
    have HF:=hyd (hat.2 hc);clear hat hd;generalize cw (s.data.toList.drop p)=m at *
    by_cases hcr:c=65533
    ·subst hcr
     have HW:=hyd (hw true (decide_eq_true (hcw rfl)));clear hw
     go_wp2_with fail
     refine HW.out.mono ?_;rintro e w6 ⟨rfl,hk⟩;have hi3:=below_at' hi2 hk;have hb3:=bnext hb2 (by have:=hb.size;have h2:=(Array.getElem?_eq_some_iff.1 hi2).1;omega) hk;have hm1:leftAt it s.size w6=s.size - (p+m):=leftAt_of hi3
     go_wp2_with fail
     go_roundw
     case rel=>exact ⟨k+1,p+m,by go_num,by omega,by omega,hi3,hb3,HF⟩
     case measure=>rw [hm0,hm1];omega
    ·have hc0b:((c:Int) == 0)=false:=by simp [hc0]
     have hcrb:((c:Int) == 65533)=false:=by simp;omega
     have hm1:leftAt it s.size W2=s.size - (p+m):=leftAt_of hi2
     go_wp2_with fail
     go_roundw
     case rel=>exact ⟨k+1,p+m,by go_num,by omega,by omega,hi2,hb2,HF⟩
     case measure=>rw [hm0,hm1];omega
  ·have hnx:=fun ty=>run_next_end_at (P:=Tryz.prog) wr it s p ty hi hlt
   have HF:=hyd (cntI_some (l:=s.data.toList) (n:=k) (by omega) (by rw [HN.out,List.drop_eq_nil_of_le (by omega),cnt_nil];simp))
   go_wp2_with fail
   go_ret
   exact ⟨by rw [HF.out];rfl,by rw [hit];exact hb⟩
def validI (l:List UInt8):Bool:=decide (0<=cntI l)
theorem valid_any (s:ByteArray) (w:World) (hT:Tabs w) (hbig:s.size<=9223372036854775807) :
  Calls Tryz.prog 246 #[.string s] w fun e w'=>e = .returned (.bool (validI s.data.toList))/\Below w.heap.size w w':=by
 have HC:=hyd (count_any s w hT hbig);obtain ⟨n,hn⟩:∃ n,cntI s.data.toList=n:=⟨_,rfl⟩;rw [validI];rw [hn] at HC ⊢
 go_enter Tryz.func246, Tryz.ntmps246
 go_wp2_with fail
 refine HC.out.mono ?_;rintro e w' ⟨rfl,hb⟩
 go_wp2_with fail
 go_ret
 exact ⟨rfl,hb⟩
end
section
open Go Go.RowKit Go.Lib
end
section
open Go Go.RowKit
end
section
open Go Go.RowKit
end
end Go.Proofs.YtcekcoepdhnfgaaGreatDoor
