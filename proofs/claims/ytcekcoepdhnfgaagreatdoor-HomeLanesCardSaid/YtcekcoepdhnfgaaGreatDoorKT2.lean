/- topic: Match. -/
import Derived.Test.YtcekcoepdhnfgaaGreatDoorKTopX
import Derived.Laws.EntriesVeiled
namespace Go.Proofs.YtcekcoepdhnfgaaGreatDoor
section
open Go Go.RowKit
theorem first_row {w:World} {a:Option Addr} {l:List (List UInt8)} (h:Row w a (strs l)) {x:List UInt8} {t:List (List UInt8)} (hl:l=x :: t):∃ b off,a=some ⟨b,off,none⟩/\w.cell? ⟨b,off,none⟩=some (.string ⟨x.toArray⟩):=by
 obtain ⟨b,off,ha,hc⟩:=strs_row h (k:=0) (x:=x) (by rw [hl];rfl);exact ⟨b,off,ha,hc⟩
theorem wild_any (s:ByteArray) (w:World) (hT:Tabs w) (hs:s.size < 4294967281) :
  Calls Tryz.prog 273 #[.string s] w fun e w'=>e = .returned (.bool (wildB s.data.toList))/\Below w.heap.size w w':=by
 obtain ⟨x,t,hx⟩:=List.exists_cons_of_ne_nil (levels_ne s.data.toList);have HL:=hyd (levels_any s w hT hs);have HF:=hyd (show wildB s.data.toList=(x == [43] || x == [35]) by unfold wildB;rw [hx];rfl);have HX:=hyd hx;have hll:=levels_len_le s.data.toList;have hsl:s.data.toList.length=s.size:=rfl;have hlp:0 < (levels s.data.toList).length:=by rw [hx];simp
 rw [hsl] at hll;generalize levels s.data.toList=L at *;have hlp':(0:Int) < L.length:=by omega
 clear hx hT
 go_enter Tryz.func273, Tryz.ntmps273
 go_wp2_with fail
 refine HL.out.mono ?_;rintro e w1 ⟨a,c,rfl,hr,hk⟩;obtain ⟨b1,o1,rfl,k0⟩:=first_row hr HX.out;clear hr;have e1:=slt x
 by_cases h1:x = [43]
 ·have q1:(⟨x.toArray⟩:ByteArray).toList = [43]:=e1.trans h1
  have HB:=hyd (show wildB s.data.toList=true by rw [HF.out,h1];rfl);clear h1 e1 HX;generalize (⟨x.toArray⟩:ByteArray)=X at *
  go_wp2_with fail
  go_ret
  exact ⟨ret_bool HB.out.symm,hk⟩
 ·have q1:¬ (⟨x.toArray⟩:ByteArray).toList = [43]:=fun h=>h1 (e1.symm.trans h)
  by_cases h2:x = [35]
  ·have q2:(⟨x.toArray⟩:ByteArray).toList = [35]:=e1.trans h2
   have HB:=hyd (show wildB s.data.toList=true by rw [HF.out,h2];rfl);clear h1 e1 HX h2 q1;generalize (⟨x.toArray⟩:ByteArray)=X at *
   go_wp2_with fail
   go_ret
   exact ⟨ret_bool HB.out.symm,hk⟩
  ·have q2:¬ (⟨x.toArray⟩:ByteArray).toList = [35]:=fun h=>h2 (e1.symm.trans h)
   have q1b:((⟨x.toArray⟩:ByteArray).toList == [43])=false:=by simpa using q1
   have q2b:((⟨x.toArray⟩:ByteArray).toList == [35])=false:=by simpa using q2
   have HB:=hyd (show wildB s.data.toList=false by rw [HF.out];simp [h1,h2]);clear h1 e1 HX h2;generalize (⟨x.toArray⟩:ByteArray)=X at *
   go_wp2_with fail
   go_ret
   exact ⟨ret_bool HB.out.symm,hk⟩
theorem coversL_nil (b:List (List UInt8)):coversL [] b=b.isEmpty:=by cases b <;> simp [coversL]
theorem coversL_nilr (x:List UInt8) (a:List (List UInt8)):coversL (x :: a) []=(x == [35]):=by simp [coversL]
theorem coversL_cc (x y:List UInt8) (a b:List (List UInt8)):coversL (x :: a) (y :: b)=(x == [35] || (y != [35] && (x == [43] || x == y) && coversL a b)):=by simp [coversL]
structure CovW (ba bb bf:Nat) (a b:List (List UInt8)) (w:World):Prop where
 ra:∃ p c,w.cell? ⟨ba,0,none⟩=some (.slice p a.length c)/\Row w p (strs a)
 rb:∃ p c,w.cell? ⟨bb,0,none⟩=some (.slice p b.length c)/\Row w p (strs b)
 self:w.cell? ⟨bf,0,none⟩=some (.func (.func 309) #[] #[.pointer (some ⟨ba,0,none⟩),.pointer (some ⟨bb,0,none⟩),.pointer (some ⟨bf,0,none⟩)])
theorem CovW.drewN {ba bb bf:Nat} {a b:List (List UInt8)} {w:World} (h:CovW ba bb bf a b w) (n:Nat):CovW ba bb bf a b (w.drewN n):=⟨h.ra,h.rb,h.self⟩
set_option maxRecDepth 100000
set_option maxHeartbeats 1000000
theorem from_any (ba bb bf:Nat) (a b:List (List UInt8)) (hbl:b.length < 4294967296):∀ (n i:Nat) (w:World),a.length=i+n->CovW ba bb bf a b w->i<=b.length →
  Calls Tryz.prog 309 #[.int .i64 i,.pointer (some ⟨ba,0,none⟩),.pointer (some ⟨bb,0,none⟩),.pointer (some ⟨bf,0,none⟩)] w fun e w'=>e = .returned (.bool (coversL (a.drop i) (b.drop i))) /\ ∃ m,w'=w.drewN m:=by
 intro n
 induction n with
 | zero =>
  intro i w hn hW hib;have HW:=hyd hW;obtain ⟨pa,ca,c0,-⟩:=hW.ra;obtain ⟨pb,cb,c1,-⟩:=hW.rb;have h1:((i:Int) == a.length)=true:=by simp;omega
  obtain ⟨q,hq⟩:∃ q,decide (i=b.length)=q:=⟨_,rfl⟩;have h2:((i:Int) == b.length)=q:=by rw [<- hq];rw [Bool.eq_iff_iff];simp;omega
  have HF:=hyd (show coversL (a.drop i) (b.drop i)=q by
   rw [show a.drop i = [] from List.drop_eq_nil_of_le (by omega),coversL_nil,<- hq,Bool.eq_iff_iff];simp;omega)
  clear hq hW hn
  go_enter Tryz.func309, Tryz.ntmps309
  go_wp2_with fail
  go_ret
  exact ⟨ret_bool HF.out.symm,0,rfl⟩
 | succ n ih =>
  intro i w hn hW hib;have HI:=hyd ih;have HW:=hyd hW;clear ih;obtain ⟨pa,ca,c0,ra⟩:=hW.ra;obtain ⟨pb,cb,c1,rb⟩:=hW.rb;have c2:=hW.self;have hlt:i < a.length:=by omega
  have hi0:(0:Int)<=i:=by omega
  have hia:(i:Int) < a.length:=by omega
  have h1:((i:Int) == a.length)=false:=by simp;omega
  have HNN:=hyd hn;have hin:i+n+1<=a.length:=by omega
  clear hn;obtain ⟨b1,o1,rfl,k0⟩:=strs_row ra (k:=i) (x:=a[i]) (by simp [hlt]);have HN:=hyd (List.drop_eq_getElem_cons hlt);generalize a[i]=x at *;have e1:=slt x
  by_cases hx:x = [35]
  ·have q1:(⟨x.toArray⟩:ByteArray).toList = [35]:=e1.trans hx
   have HF:=hyd (show coversL (a.drop i) (b.drop i)=true by rw [HN.out,hx];cases b.drop i <;> simp [coversL]);clear hx e1 hW ra rb HN;generalize (⟨x.toArray⟩:ByteArray)=X at *
   go_enter Tryz.func309, Tryz.ntmps309
   go_wp2_with fail
   go_ret
   exact ⟨ret_bool HF.out.symm,0,rfl⟩
  ·have q1:¬ (⟨x.toArray⟩:ByteArray).toList = [35]:=fun h=>hx (e1.symm.trans h)
   have q1b:((⟨x.toArray⟩:ByteArray).toList == [35])=false:=by simpa using q1
   have hx':(x == [35])=false:=by simpa using hx
   by_cases hb:i=b.length
   ·have h2:((i:Int) == b.length)=true:=by simp;omega
    have HF:=hyd (show coversL (a.drop i) (b.drop i)=false by rw [HN.out,show b.drop i = [] from List.drop_eq_nil_of_le (by omega),coversL_nilr,hx']);clear hx e1 hW ra rb hb HN hx';generalize (⟨x.toArray⟩:ByteArray)=X at *
    go_enter Tryz.func309, Tryz.ntmps309
    go_wp2_with fail
    go_ret
    exact ⟨ret_bool HF.out.symm,0,rfl⟩
   ·have h2:((i:Int) == b.length)=false:=by simp;omega
    have hlb:i < b.length:=by omega
    have hib':(i:Int) < b.length:=by omega
    obtain ⟨b2,o2,rfl,k1⟩:=strs_row rb (k:=i) (x:=b[i]) (by simp [hlb]);have HM:=hyd (List.drop_eq_getElem_cons hlb);generalize b[i]=y at *;have e2:=slt y
    by_cases hy:y = [35]
    ·have q2:(⟨y.toArray⟩:ByteArray).toList = [35]:=e2.trans hy
     have HF:=hyd (show coversL (a.drop i) (b.drop i)=false by rw [HN.out,HM.out,coversL_cc,hx',hy];rfl);clear hx e1 hW ra rb hb hy e2 HN hx' HM;generalize (⟨x.toArray⟩:ByteArray)=X at *;generalize (⟨y.toArray⟩:ByteArray)=Y at *
     go_enter Tryz.func309, Tryz.ntmps309
     go_wp2_with fail
     go_ret
     exact ⟨ret_bool HF.out.symm,0,rfl⟩
    ·have q2:¬ (⟨y.toArray⟩:ByteArray).toList = [35]:=fun h=>hy (e2.symm.trans h)
     have q2b:((⟨y.toArray⟩:ByteArray).toList == [35])=false:=by simpa using q2
     have hy':(y != [35])=true:=by simpa using hy
     have hw1:IntKind.i64.wrap ((i:Int)+1)=(i:Int)+1:=w_i64 _ (by omega) (by omega)
     have HC:Hid (∀ m,Calls Tryz.prog 309 #[.int .i64 ((i:Int)+1),.pointer (some ⟨ba,0,none⟩),.pointer (some ⟨bb,0,none⟩),.pointer (some ⟨bf,0,none⟩)] (w.drewN m) fun e w'=>e = .returned (.bool (coversL (a.drop (i+1)) (b.drop (i+1)))) /\ ∃ m',w'=(w.drewN m).drewN m'):=
      hyd fun m=>HI.out (i+1) (w.drewN m) (by have:=HNN.out;omega) (HW.out.drewN m) (by omega)
     obtain ⟨r,hr⟩:∃ r,coversL (a.drop (i+1)) (b.drop (i+1))=r:=⟨_,rfl⟩;have HF:=hyd (show coversL (a.drop i) (b.drop i)=((x == [43] || x == y) && r) by rw [HN.out,HM.out,coversL_cc,hx',hy',hr];rfl);rw [hr] at HC;have i1:0<=(i:Int)+1:=by omega
     by_cases hp:x = [43]
     ·have q3:(⟨x.toArray⟩:ByteArray).toList = [43]:=e1.trans hp
      have HG:=hyd (show coversL (a.drop i) (b.drop i)=r by rw [HF.out,hp];rfl);clear hx e1 hW ra rb hb hy e2 HN hx' HM hr hp q1 q1b HF hy';generalize (⟨x.toArray⟩:ByteArray)=X at *;generalize (⟨y.toArray⟩:ByteArray)=Y at *
      go_enter Tryz.func309, Tryz.ntmps309
      go_wp2_with fail
      go_quiet ((go_at_call 309;exact Calls.quiet_of (HC.out _)))
      go_wp2_with fail
      go_ret
      exact ⟨ret_bool HG.out.symm,_,rfl⟩
     ·have q3:¬ (⟨x.toArray⟩:ByteArray).toList = [43]:=fun h=>hp (e1.symm.trans h)
      have q3b:((⟨x.toArray⟩:ByteArray).toList == [43])=false:=by simpa using q3
      by_cases hxy:x=y
      ·subst hxy
       have HG:=hyd (show coversL (a.drop i) (b.drop i)=r by rw [HF.out];simp);clear hx e1 hW ra rb hb hy e2 HN hx' HM hr hp HF hy' q2 q2b;generalize (⟨x.toArray⟩:ByteArray)=X at *
       go_enter Tryz.func309, Tryz.ntmps309
       go_wp2_with fail
       go_quiet ((go_at_call 309;exact Calls.quiet_of (HC.out _)))
       go_wp2_with fail
       go_ret
       exact ⟨ret_bool HG.out.symm,_,rfl⟩
      ·have q4:¬ (⟨x.toArray⟩:ByteArray).toList=(⟨y.toArray⟩:ByteArray).toList:=fun h=>hxy (e1.symm.trans (h.trans e2))
       have q4b:((⟨x.toArray⟩:ByteArray).toList == (⟨y.toArray⟩:ByteArray).toList)=false:=by simpa using q4
       have HG:=hyd (show coversL (a.drop i) (b.drop i)=false by rw [HF.out];simp [hp,hxy]);clear hx e1 hW ra rb hb hy e2 HN hx' HM hr hp HF hy' hxy;generalize (⟨x.toArray⟩:ByteArray)=X at *;generalize (⟨y.toArray⟩:ByteArray)=Y at *
       go_enter Tryz.func309, Tryz.ntmps309
       go_wp2_with fail
       go_quiet (fail)
       go_wp2_with fail
       go_ret
       exact ⟨ret_bool HG.out.symm,_,rfl⟩
theorem covers_any (p q:Option Addr) (c d:Nat) (a b:List (List UInt8)) (w:World) (hbl:b.length < 4294967296) (ha:Row w p (strs a)) (hb:Row w q (strs b)) :
  Calls Tryz.prog 274 #[.slice p a.length c,.slice q b.length d] w fun e w'=>e = .returned (.bool (coversL a b))/\Below w.heap.size w w':=by
 have HA:=hyd ha;have HB:=hyd hb;clear ha hb
 go_enter Tryz.func274, Tryz.ntmps274
 go_wp2_with fail
 have hbel:Below w.heap.size w (((w.alloc (.cells #[.slice p a.length c] 41)).alloc (.cells #[.slice q b.length d] 41)).alloc (.cells #[.func (.func 309) #[] #[.pointer (some ⟨w.heap.size,0,none⟩),.pointer (some ⟨w.heap.size+1,0,none⟩),.pointer (some ⟨w.heap.size+1+1,0,none⟩)]] 302)):=
  (((Below.refl _ _).alloc (Nat.le_refl _) _).alloc (by simp) _).alloc (by simp;omega) _
 have g0:=heap_alloc_new w (.cells #[.slice p a.length c] 41);have g1:=heap_alloc_new (w.alloc (.cells #[.slice p a.length c] 41)) (.cells #[.slice q b.length d] 41);have g2:=heap_alloc_new ((w.alloc (.cells #[.slice p a.length c] 41)).alloc (.cells #[.slice q b.length d] 41)) (.cells #[.func (.func 309) #[] #[.pointer (some ⟨w.heap.size,0,none⟩),.pointer (some ⟨w.heap.size+1,0,none⟩),.pointer (some ⟨w.heap.size+1+1,0,none⟩)]] 302);have k1:(w.alloc (.cells #[.slice p a.length c] 41)).heap.size=w.heap.size+1:=by simp
 have k2:((w.alloc (.cells #[.slice p a.length c] 41)).alloc (.cells #[.slice q b.length d] 41)).heap.size=w.heap.size+1+1:=by simp
 rw [k1] at g1;rw [k2] at g2;have g1':=(Below.heap_alloc ((w.alloc (.cells #[.slice p a.length c] 41)).alloc (.cells #[.slice q b.length d] 41)) (.cells #[.func (.func 309) #[] #[.pointer (some ⟨w.heap.size,0,none⟩),.pointer (some ⟨w.heap.size+1,0,none⟩),.pointer (some ⟨w.heap.size+1+1,0,none⟩)]] 302) (w.heap.size+1) (by rw [k2];omega)).trans g1;have g0':=(Below.heap_alloc ((w.alloc (.cells #[.slice p a.length c] 41)).alloc (.cells #[.slice q b.length d] 41)) (.cells #[.func (.func 309) #[] #[.pointer (some ⟨w.heap.size,0,none⟩),.pointer (some ⟨w.heap.size+1,0,none⟩),.pointer (some ⟨w.heap.size+1+1,0,none⟩)]] 302) w.heap.size (by rw [k2];omega)).trans ((Below.heap_alloc (w.alloc (.cells #[.slice p a.length c] 41)) (.cells #[.slice q b.length d] 41) w.heap.size (by rw [k1];omega)).trans g0);generalize (((w.alloc (.cells #[.slice p a.length c] 41)).alloc (.cells #[.slice q b.length d] 41)).alloc (.cells #[.func (.func 309) #[] #[.pointer (some ⟨w.heap.size,0,none⟩),.pointer (some ⟨w.heap.size+1,0,none⟩),.pointer (some ⟨w.heap.size+1+1,0,none⟩)]] 302))=W at *;have hc:=from_any w.heap.size (w.heap.size+1) (w.heap.size+1+1) a b hbl a.length 0 W (by omega) ⟨⟨p,c,cell_of_row W w.heap.size 0 _ _ _ g0',HA.out.below hbel (Nat.le_refl _)⟩,⟨q,d,cell_of_row W (w.heap.size+1) 0 _ _ _ g1',HB.out.below hbel (Nat.le_refl _)⟩,cell_of_row W (w.heap.size+1+1) 0 _ _ _ g2⟩ (by omega)
 rw [List.drop_zero,List.drop_zero] at hc;refine hc.mono ?_;rintro e w1 ⟨rfl,m,rfl⟩;clear g0 g1 g2 g0' g1' k1 k2 hc;have hb:=below_drewN hbel m;generalize W.drewN m=W2 at *
 go_wp2_with fail
 go_ret
 exact ⟨rfl,hb⟩
end
section
open Go Go.RowKit
theorem coversB_no1 {a b:List UInt8} (h:filterB a=false):coversB a b=false:=by unfold coversB;rw [h];rfl
theorem coversB_no2 {a b:List UInt8} (h:filterB b=false):coversB a b=false:=by unfold coversB;rw [h];cases filterB a <;> rfl
theorem filterB_ne {b:List UInt8} (h:filterB b=true):b ≠ []:=by rintro rfl;simp [filterB] at h
set_option maxRecDepth 100000
set_option maxHeartbeats 1000000
theorem coversf_any (s t:ByteArray) (w:World) (hT:Tabs w) (hs:s.size < 4294967281) (ht:t.size < 4294967281) :
  Calls Tryz.prog 210 #[.string s,.string t] w fun e w'=>e = .returned (.bool (coversB s.data.toList t.data.toList))/\Below w.heap.size w w':=by
 have HT:=hyd hT;clear hT;obtain ⟨fa,hfa⟩:∃ b,filterB s.data.toList=b:=⟨_,rfl⟩;obtain ⟨fb,hfb⟩:∃ b,filterB t.data.toList=b:=⟨_,rfl⟩;have HFA:=hyd (fun w hT=>filter_any s w hT hs);have HFB:=hyd (fun w hT=>filter_any t w hT ht);rw [hfa] at HFA;rw [hfb] at HFB
 cases fa with
 | false =>
  have HF:=hyd (coversB_no1 (b:=t.data.toList) hfa);clear hfa hfb
  go_enter Tryz.func210, Tryz.ntmps210
  go_wp2_with fail
  refine (HFA.out _ HT.out).mono ?_;rintro e w1 ⟨rfl,hk⟩
  go_wp2_with fail
  go_ret
  exact ⟨ret_bool HF.out.symm,hk⟩
 | true =>
  cases fb with
  | false =>
   have HF:=hyd (coversB_no2 (a:=s.data.toList) hfb);clear hfa hfb
   go_enter Tryz.func210, Tryz.ntmps210
   go_wp2_with fail
   refine (HFA.out _ HT.out).mono ?_;rintro e w1 ⟨rfl,hk⟩
   go_wp2_with fail
   refine (HFB.out _ (HT.out.below hk)).mono ?_;rintro e w2 ⟨rfl,hk2⟩;replace hk:=bnext hk (Nat.le_refl _) hk2
   go_wp2_with fail
   go_ret
   exact ⟨ret_bool HF.out.symm,hk⟩
  | true =>
   obtain ⟨wl,hwl⟩:∃ b,wildB s.data.toList=b:=⟨_,rfl⟩;have HWL:=hyd (fun w hT=>wild_any s w hT hs);rw [hwl] at HWL;obtain ⟨c,r,hc⟩:=List.exists_cons_of_ne_nil (filterB_ne hfb)
   have hts:0 < t.size:=by
    have:t.data.toList.length=t.size:=rfl;rw [hc] at this;simp at this;omega
   have hts':(0:Int) < t.size:=by omega
   have hct:t[0]'hts=c:=by
    have:=bget t 0 hts;rw [hc] at this;simpa using this.symm
   obtain ⟨d,hd⟩:∃ d,(c == 36)=d:=⟨_,rfl⟩
   have HF:Hid (coversB s.data.toList t.data.toList=(!(wl && d) && coversL (levels s.data.toList) (levels t.data.toList))):=hyd (by
    unfold coversB;rw [hfa,hfb,hwl,<- hd,hc];rfl)
   have hd':((c.toNat:Int) == 36)=d:=by
    rw [<- hd,Bool.eq_iff_iff];simp only [beq_iff_eq];exact ⟨fun h=>UInt8.toNat_inj.1 (by simp;omega),fun h=>by subst h;rfl⟩
   have hcl:=byte_lt c;have HLA:=hyd (fun w hT=>levels_any s w hT hs);have HLB:=hyd (fun w hT=>levels_any t w hT ht);have HLL:=hyd (levels_len_le t.data.toList);have hsl:t.data.toList.length=t.size:=rfl;rw [hsl] at HLL;clear hfa hfb hwl hc hd;generalize levels s.data.toList=LA at *;generalize levels t.data.toList=LB at *
   go_enter Tryz.func210, Tryz.ntmps210
   go_wp2_with fail
   refine (HFA.out _ HT.out).mono ?_;rintro e w1 ⟨rfl,hk⟩
   go_wp2_with fail
   refine (HFB.out _ (HT.out.below hk)).mono ?_;rintro e w2 ⟨rfl,hk2⟩;replace hk:=bnext hk (Nat.le_refl _) hk2;clear hk2
   go_wp2_with fail
   refine (HWL.out _ (HT.out.below hk)).mono ?_;rintro e w3 ⟨rfl,hk2⟩;replace hk:=bnext hk (Nat.le_refl _) hk2;clear hk2
   have HREST:∀ (W:World),Below w.heap.size w W->(wl && d)=false->Hid (∀ (p q:Option Addr) (c d':Nat) (w5:World),Row w5 p (strs LA)->Row w5 q (strs LB)->Calls Tryz.prog 274 #[.slice p LA.length c,.slice q LB.length d'] w5 fun e w'=>e = .returned (.bool (coversB s.data.toList t.data.toList))/\Below w5.heap.size w5 w'):=fun W _ hz=>hyd fun p q c d' w5 ha hb=>by
    rw [HF.out,hz];exact covers_any p q c d' LA LB w5 (by have:=HLL.out;omega) ha hb
   cases wl with
   | false =>
    have HR:=HREST _ hk rfl;clear HREST hd'
    go_wp2_with fail
    refine (HLA.out _ (HT.out.below hk)).mono ?_;rintro e w4 ⟨p,c1,rfl,hra,hk2⟩;replace hk:=bnext hk (Nat.le_refl _) hk2;clear hk2;have HA:=hyd hra;clear hra
    go_wp2_with fail
    refine (HLB.out _ (HT.out.below hk)).mono ?_;rintro e w5 ⟨q,c2,rfl,hrb,hk2⟩;replace hk:=bnext hk (Nat.le_refl _) hk2;have HA:=hyd (HA.out.below hk2 (Nat.le_refl _));have HB:=hyd hrb;clear hrb hk2
    go_wp2_with fail
    refine (HR.out _ _ _ _ _ HA.out HB.out).mono ?_;rintro e w6 ⟨rfl,hk2⟩;replace hk:=bnext hk (Nat.le_refl _) hk2
    go_wp2_with fail
    go_ret
    exact ⟨rfl,hk⟩
   | true =>
    cases d with
    | true =>
     have HFF:=hyd (show coversB s.data.toList t.data.toList=false by rw [HF.out];rfl);clear HREST
     go_wp2_with fail
     go_ret
     exact ⟨ret_bool HFF.out.symm,hk⟩
    | false =>
     have HR:=HREST _ hk rfl;clear HREST
     go_wp2_with fail
     refine (HLA.out _ (HT.out.below hk)).mono ?_;rintro e w4 ⟨p,c1,rfl,hra,hk2⟩;replace hk:=bnext hk (Nat.le_refl _) hk2;clear hk2;have HA:=hyd hra;clear hra
     go_wp2_with fail
     refine (HLB.out _ (HT.out.below hk)).mono ?_;rintro e w5 ⟨q,c2,rfl,hrb,hk2⟩;replace hk:=bnext hk (Nat.le_refl _) hk2;have HA:=hyd (HA.out.below hk2 (Nat.le_refl _));have HB:=hyd hrb;clear hrb hk2
     go_wp2_with fail
     refine (HR.out _ _ _ _ _ HA.out HB.out).mono ?_;rintro e w6 ⟨rfl,hk2⟩;replace hk:=bnext hk (Nat.le_refl _) hk2
     go_wp2_with fail
     go_ret
     exact ⟨rfl,hk⟩
theorem match_any (s t:ByteArray) (w:World) (hT:Tabs w) (hs:s.size < 4294967281) (ht:t.size < 4294967281) :
  Calls Tryz.prog 128 #[.string s,.string t] w fun e w'=>e = .returned (.bool (matchB s.data.toList t.data.toList))/\Below w.heap.size w w':=by
 obtain ⟨n,hn⟩:∃ b,nameB t.data.toList=b:=⟨_,rfl⟩;have HN:=hyd (name_any t w hT ht);rw [hn] at HN;have HF:=hyd (show matchB s.data.toList t.data.toList=(n && coversB s.data.toList t.data.toList) by unfold matchB;rw [hn]);have HC:=hyd (fun w hT=>coversf_any s t w hT hs ht);have HT:=hyd hT;clear hn hT
 cases n with
 | false =>
  go_enter Tryz.func128, Tryz.ntmps128
  go_wp2_with fail
  refine HN.out.mono ?_;rintro e w1 ⟨rfl,hk⟩
  go_wp2_with fail
  go_ret
  exact ⟨ret_bool HF.out.symm,hk⟩
 | true =>
  go_enter Tryz.func128, Tryz.ntmps128
  go_wp2_with fail
  refine HN.out.mono ?_;rintro e w1 ⟨rfl,hk⟩
  go_wp2_with fail
  refine (HC.out _ (HT.out.below hk)).mono ?_;rintro e w2 ⟨rfl,hk2⟩;replace hk:=bnext hk (Nat.le_refl _) hk2
  go_wp2_with fail
  go_ret
  exact ⟨ret_bool (by rw [HF.out];rfl),hk⟩
end
end Go.Proofs.YtcekcoepdhnfgaaGreatDoor
