/- topic: names and filters. -/
import Derived.Test.YtcekcoepdhnfgaaGreatDoorKRefX
import Derived.Lib.Split
import Derived.Lib.SplitLaws
import Derived.Lib.IndexAny
import Derived.Laws.Runes
import Derived.WalkMore
import Derived.Lib.OthersKept
namespace Go.Proofs.YtcekcoepdhnfgaaGreatDoor
section
open Go
def levels:List UInt8->List (List UInt8)
 | [] => [[]]
 | c :: r=>if c=47 then [] :: levels r else (c :: (levels r).headD []) :: (levels r).tail
theorem levels_ne (l:List UInt8):levels l ≠ []:=by
 cases l with
 | nil=>simp [levels]
 | cons c r=>unfold levels;split <;> simp
theorem levels_cons_sep (r:List UInt8):levels (47 :: r) = [] :: levels r:=by simp [levels]
theorem levels_cons {c:UInt8} (h:c ≠ 47) {r x:List UInt8} {t:List (List UInt8)} (hr:levels r=x :: t):levels (c :: r)=(c :: x) :: t:=by simp [levels,h,hr]
theorem levels_len_le (l:List UInt8):(levels l).length<=l.length+1:=by
 induction l with
 | nil=>simp [levels]
 | cons c r ih =>
  by_cases h:c=47
  ·subst h;rw [levels_cons_sep];simp;omega
  ·obtain ⟨x,t,hx⟩:=List.exists_cons_of_ne_nil (levels_ne r)
   rw [levels_cons h hx];rw [hx] at ih;simp at ih ⊢;omega
theorem levels_sum (l:List UInt8):∀ x ∈ levels l,x.length<=l.length:=by
 induction l with
 | nil=>simp [levels]
 | cons c r ih =>
  by_cases h:c=47
  ·subst h;rw [levels_cons_sep]
   intro x hx
   rcases List.mem_cons.1 hx with rfl | hx
   ·simp
   ·have:=ih x hx;simp;omega
  ·obtain ⟨y,t,hy⟩:=List.exists_cons_of_ne_nil (levels_ne r)
   rw [levels_cons h hy];rw [hy] at ih;intro x hx
   rcases List.mem_cons.1 hx with rfl | hx
   ·have:=ih y (by simp);simp;omega
   ·have:=ih x (by simp [hx]);simp;omega
theorem index_sep (r:List UInt8):Lib.index (47 :: r) [47]=0:=by unfold Lib.index;simp
theorem index_cons {c:UInt8} (h:c ≠ 47) (r:List UInt8):Lib.index (c :: r) [47]=if Lib.index r [47] == -1 then -1 else Lib.index r [47]+1:=by
 conv=>lhs;unfold Lib.index
 have:([47]:List UInt8).isPrefixOf (c :: r)=false:=by simp [List.isPrefixOf];exact fun e=>h e.symm
 rw [this];simp
theorem splitK_levels (l:List UInt8):Lib.splitK [47] 0 (Lib.count l [47]) l=levels l:=by
 induction l with
 | nil=>rw [Lib.count_miss (by rfl)];rfl
 | cons c r ih =>
  by_cases h:c=47
  ·subst h
   have h0:=index_sep r;rw [Lib.count_hit (i:=0) (by simp) h0,Nat.add_comm,Lib.splitK,levels_cons_sep,h0];have hz:((0:Int) == -1)=false:=by decide
   simp [hz,ih]
  ·have hi:=index_cons h r
   rcases Lib.index_spec r [47] with ⟨hm,_⟩ | ⟨i,hm,_⟩
   ·rw [hm] at hi
    rw [Lib.count_miss hm] at ih;rw [Lib.count_miss (by simpa using hi)];have e:levels r = [r]:=ih.symm;rw [levels_cons h e];rfl
   ·have hne:(Lib.index r [47] == -1)=false:=by rw [hm,beq_eq_false_iff_ne];omega
    rw [hne] at hi;have hi':Lib.index (c :: r) [47]=((i+1:Nat):Int):=by rw [hi,hm];simp
    rw [Lib.count_hit (i:=i) (by simp) hm,Nat.add_comm,Lib.splitK,hm] at ih;rw [Lib.count_hit (i:=i+1) (by simp) hi',Nat.add_comm,Lib.splitK,hi'];have z1:((((i:Nat):Int)) == -1)=false:=by rw [beq_eq_false_iff_ne];omega
    have z2:((((i+1:Nat):Int)) == -1)=false:=by rw [beq_eq_false_iff_ne];omega
    rw [z1] at ih;rw [z2];simp only [Bool.false_eq_true,if_false,Int.toNat_natCast,List.length_singleton,Nat.add_zero] at ih ⊢;rw [levels_cons h ih.symm];simp [List.take_succ_cons,List.drop_succ_cons]
def wildc (c:UInt8):Bool:=c == 43 || c == 35
def plainB (l:List UInt8):Bool:=l.all fun c => !wildc c
def validB (l:List UInt8):Bool:=decide (0<=cntI l)
def nameB (l:List UInt8):Bool:=!l.isEmpty && validB l && plainB l
def levelB (x:List UInt8) (last:Bool):Bool:=x == [43] || (x == [35] && last) || plainB x
def levelsB:List (List UInt8)->Bool
 | []=>true
 | x :: t=>levelB x t.isEmpty && levelsB t
def filterB (l:List UInt8):Bool:=!l.isEmpty && validB l && levelsB (levels l)
def wildB (l:List UInt8):Bool:=(levels l).headD [] == [43] || (levels l).headD [] == [35]
def coversL:List (List UInt8)->List (List UInt8)->Bool
 | [],b=>b.isEmpty
 | x :: a,b=>x == [35] || match b with
  | []=>false
  | y :: b=>y != [35] && (x == [43] || x == y) && coversL a b
def coversB (a b:List UInt8):Bool:=filterB a && filterB b && !(wildB a && b.headD 0 == 36) && coversL (levels a) (levels b)
def matchB (f n:List UInt8):Bool:=nameB n && coversB f n
end
section
open Go Go.RowKit Go.Lib
theorem validRune_any (r:Int) (w:World) (h:(0<=r/\r < 55296) \/ (57343 < r/\r<=1114111)):Calls Tryz.prog 349 #[.int .i32 r] w fun e w'=>e = .returned (.bool true)/\w=w':=by
 rcases h with ⟨h1,h2⟩ | ⟨h1,h2⟩
 ·skip
  go_enter Tryz.func349, Tryz.ntmps349
  go_wp2_with fail
  go_ret
  exact ⟨rfl,rfl⟩
 ·have h3:0<=r:=by omega
  have h4:decide (r < 55296)=false:=by simp;omega
  go_enter Tryz.func349, Tryz.ntmps349
  go_wp2_with fail
  go_ret
  exact ⟨rfl,rfl⟩
def wilds:ByteArray:=⟨#[43,35]⟩
theorem irune_ascii (r:Int) (w:World) (h0:0<=r) (h1:r < 128):Calls Tryz.prog 335 #[.string wilds,.int .i32 r] w fun e w' => ∃ n:Int,e = .returned (.int .i64 n)/\(0<=n ↔ (r=43 \/ r=35))/\Below w.heap.size w w':=by
 refine (Tryz.strings_IndexRune_ascii wilds r w h0 h1).mono ?_;rintro e w' ⟨rfl,rfl⟩;refine ⟨_,rfl,?_,Below.refl _ _⟩;obtain ⟨n,rfl⟩:=Int.eq_ofNat_of_zero_le h0;have e1:((n:Int)).toNat.toUInt8.toNat=n:=by simp;omega
 have e43:(43:UInt8)=((n:Int)).toNat.toUInt8 ↔ n=43:=⟨fun h=>by rw [<- h] at e1;simpa using e1.symm,fun h=>by subst h;rfl⟩;have e35:(35:UInt8)=((n:Int)).toNat.toUInt8 ↔ n=35:=⟨fun h=>by rw [<- h] at e1;simpa using e1.symm,fun h=>by subst h;rfl⟩;show 0<=Lib.indexByte [43,35] _ ↔ _
 unfold Lib.indexByte Lib.indexByte Lib.indexByte
 by_cases a:n=43
 ·subst a;simp
 ·by_cases b:n=35
  ·subst b;decide
  ·have a':¬ ((43:UInt8)=((n:Int)).toNat.toUInt8):=fun h=>a (e43.1 h)
   have b':¬ ((35:UInt8)=((n:Int)).toNat.toUInt8):=fun h=>b (e35.1 h)
   simp only [beq_iff_eq,a',b',if_false];simp;omega
set_option maxRecDepth 100000
theorem irune_err (w:World):Calls Tryz.prog 335 #[.string wilds,.int .i32 65533] w fun e w' => ∃ n:Int,e = .returned (.int .i64 n)/\(0<=n ↔ ((65533:Int)=43 \/ (65533:Int)=35))/\Below w.heap.size w w':=by
 have h0:=fun ty=>run_next_ascii (P:=Tryz.prog) w wilds 0 ty (by decide) (by decide)
 have h1:=fun ty=>run_next_ascii (P:=Tryz.prog) w wilds 1 ty (by decide) (by decide)
 have h2:=fun ty=>run_next_end (P:=Tryz.prog) w wilds 2 ty (by decide)
 have e0:(wilds[0]'(by decide)).toNat=43:=by decide
 have e1:(wilds[1]'(by decide)).toNat=35:=by decide
 rw [e0] at h0;rw [e1] at h1;clear e0 e1
 go_enter Tryz.func335, Tryz.ntmps335
 go_wp2_with fail
 refine wp_loop_rounds 3 ?_;rw [rounds_succ]
 go_wp2_with fail
 rw [rounds_succ]
 go_wp2_with fail
 rw [rounds_succ]
 go_wp2_with fail
 go_ret
 exact ⟨-1,rfl,by decide,(Below.refl _ _).alloc (Nat.le_refl _) _⟩
set_option maxHeartbeats 1000000
theorem irune_high (r:Int) (w:World) (h0:128<=r) (h1:r<=55295 \/ 57344<=r) (h2:r<=1114111) (h3:r ≠ 65533):Calls Tryz.prog 335 #[.string wilds,.int .i32 r] w fun e w' => ∃ n:Int,e = .returned (.int .i64 n)/\(0<=n ↔ (r=43 \/ r=35))/\Below w.heap.size w w':=by
 have hv:(0<=r/\r < 55296) \/ (57343 < r/\r<=1114111):=by omega
 have hval:Utf8.valid r=true:=by rw [validRune_eq,validRune];exact decide_eq_true hv
 obtain ⟨e1,e2,e3⟩:=encode_facts r hval h0;have HV:=hyd (fun w=>validRune_any r w hv);have HF:Hid (∀ n:Int,n = -1->(0<=n ↔ (r=43 \/ r=35))):=hyd fun n hn=>by omega
 have a1:0<=r:=by omega
 have a2:decide (r < 128)=false:=by simp;omega
 have a3:(r == 65533)=false:=by simpa using h3
 clear hv hval h1 h3;generalize hT:Utf8.encode r=t at *;unfold wilds
 rcases (show t.size=2 \/ t.size=3 \/ t.size=4 by omega) with hs | hs | hs
 ·have hb:128<=(t[1]'(by omega)).toNat:=by have:=e3 (by omega);simpa [hs] using this
  obtain ⟨c,hc⟩:∃ c:UInt8,t[1]'(by omega)=c:=⟨_,rfl⟩;rw [hc] at hb;have h35:((35:Int) != (c.toNat:Int))=true:=by rw [bne_iff_ne];omega
  have hcl:(c.toNat:Int) < 256:=byte_lt c;have hw1:((⟨#[43,35]⟩:ByteArray)[1]'(by decide)).toNat=35:=by decide
  have HI:Hid (∀ (e:ByteArray) (w:World),e.size=0->Calls Tryz.prog 348 #[.string e,.int .u8 c.toNat] w fun e w'=>e = .returned (.int .i64 (-1))/\w'=w):=hyd fun e w he=>by
   have h:=Tryz.strings_IndexByte e c.toNat w;have hn:e.data.toList = []:=List.length_eq_zero_iff.1 (by rw [<- Lib.size_eq];exact he);rw [hn] at h;exact h
  go_enter Tryz.func335, Tryz.ntmps335
  go_wp2_with fail
  refine (HV.out _).mono ?_;rintro e w' ⟨rfl,rfl⟩
  go_wp2_with fail
  go_step3
  go_wp2_with fail
  refine wp_loop_rounds 1 ?_;rw [rounds_succ]
  go_wp2_with fail
  go_step3
  go_wp2_with fail
  go_quiet (fail)
  have hbq:=below_draws (B:=w.heap.size) (w:=w) nq;generalize w.drewN nq=W1 at *
  go_wp2_with fail
  go_quiet ((go_at_call 348;exact Calls.quiet_of_same (HI.out _ _ (by decide))))
  go_wp2_with fail
  rw [Exit.noGoto_ret];go_simp
  try rw [Exit.noGoto_ret]
  go_ret
  exact ⟨_,rfl,HF.out _ rfl,below_drewN hbq _⟩
 ·clear e3 e1 e2
  go_enter Tryz.func335, Tryz.ntmps335
  go_wp2_with fail
  refine (HV.out _).mono ?_;rintro e w' ⟨rfl,rfl⟩
  go_wp2_with fail
  go_step3
  go_wp2_with fail
  refine wp_loop_rounds 1 ?_;rw [rounds_succ]
  go_wp2_with fail
  rw [Exit.noGoto_ret]
  go_ret
  exact ⟨_,rfl,HF.out _ rfl,Below.refl _ _⟩
 ·clear e3 e1 e2
  go_enter Tryz.func335, Tryz.ntmps335
  go_wp2_with fail
  refine (HV.out _).mono ?_;rintro e w' ⟨rfl,rfl⟩
  go_wp2_with fail
  go_step3
  go_wp2_with fail
  refine wp_loop_rounds 1 ?_;rw [rounds_succ]
  go_wp2_with fail
  rw [Exit.noGoto_ret]
  go_ret
  exact ⟨_,rfl,HF.out _ rfl,Below.refl _ _⟩
end
section
open Go Go.RowKit Go.Lib
theorem irune_any (r:Int) (w:World) (h0:0<=r) (h1:r<=55295 \/ 57344<=r) (h2:r<=1114111):Calls Tryz.prog 335 #[.string wilds,.int .i32 r] w fun e w' => ∃ n:Int,e = .returned (.int .i64 n)/\(0<=n ↔ (r=43 \/ r=35))/\Below w.heap.size w w':=by
 by_cases ha:r < 128
 ·exact irune_ascii r w h0 ha
 by_cases he:r=65533
 ·subst he;exact irune_err w
 ·exact irune_high r w (by omega) h1 h2 he
theorem irune_u (b:Bool) (r:Int) (w:World) (h0:0<=r) (h1:r<=55295 \/ 57344<=r) (h2:r<=1114111) (hb:(decide (r=43 \/ r=35))=b):Calls Tryz.prog 335 #[.string wilds,.int .i32 r] w fun e w' => ∃ n:Int,e = .returned (.int .i64 n)/\decide (0<=n)=b/\Below w.heap.size w w':=
 (irune_any r w h0 h1 h2).mono fun e w' ⟨n,h1,h2,h3⟩=>⟨n,h1,by rw [<- hb];exact decide_eq_decide.2 h2,h3⟩
theorem decodeN_low (n b0 b1 b2 b3:Nat) (h0:b0 < 128):Lib.decodeN n b0 b1 b2 b3=(b0,1):=by unfold Lib.decodeN;rw [if_pos h0]
theorem decodeN_high (n b0 b1 b2 b3:Nat) (h0:128<=b0) (h00:b0 < 256) (h1:b1 < 256) (h2:b2 < 256) (h3:b3 < 256) :
  128<=(Lib.decodeN n b0 b1 b2 b3).1/\((Lib.decodeN n b0 b1 b2 b3).1<=55295 \/ 57344<=(Lib.decodeN n b0 b1 b2 b3).1) ∧
  (1 < (Lib.decodeN n b0 b1 b2 b3).2->128<=b1)/\(2 < (Lib.decodeN n b0 b1 b2 b3).2->128<=b2)/\(3 < (Lib.decodeN n b0 b1 b2 b3).2->128<=b3):=by
 unfold Lib.decodeN
 repeat' split
 all_goals first | (exfalso;omega) | (simp only [];omega)
theorem decodeN_fits (n b0 b1 b2 b3:Nat) (hn:1<=n):(Lib.decodeN n b0 b1 b2 b3).2<=n:=by
 unfold Lib.decodeN
 repeat' split
 all_goals (simp only [];omega)
theorem decode_fits (s:ByteArray) (p:Nat) (hp:p < s.size):p+(Utf8.decode s p).2<=s.size:=by
 rw [Lib.decode_at];have:=decodeN_fits (s.size - p) (s.get! p).toNat (s.get! (p+1)).toNat (s.get! (p+2)).toNat (s.get! (p+3)).toNat (by omega);omega
theorem wildc_nat (c:UInt8):wildc c=decide ((c.toNat:Int)=43 \/ (c.toNat:Int)=35):=by
 unfold wildc
 have h1:(c == 43)=decide ((c.toNat:Int)=43):=by
  rw [Bool.eq_iff_iff];simp only [beq_iff_eq,decide_eq_true_eq];exact ⟨fun h=>by subst h;rfl,fun h=>UInt8.toNat_inj.1 (by simp;omega)⟩
 have h2:(c == 35)=decide ((c.toNat:Int)=35):=by
  rw [Bool.eq_iff_iff];simp only [beq_iff_eq,decide_eq_true_eq];exact ⟨fun h=>by subst h;rfl,fun h=>UInt8.toNat_inj.1 (by simp;omega)⟩
 rw [h1,h2];simp [Bool.decide_or]
theorem plain_split {l:List UInt8} {a b:Nat} (h:a<=b) (ha:plainB (l.take a)=true) (hm:∀ j,a<=j->j < b -> ∀ c,l[j]? = some c->wildc c=false):plainB (l.take b)=true:=by
 unfold plainB at *;rw [List.all_eq_true] at *;intro c hc;obtain ⟨j,hj,e⟩:=List.mem_take_iff_getElem.1 hc
 by_cases hja:j < a
 ·exact ha c (List.mem_take_iff_getElem.2 ⟨j,by omega,e⟩)
 ·simp [hm j (by omega) (by omega) c (by rw [List.getElem?_eq_getElem (by omega),e])]
theorem rune_wild (s:ByteArray) (p:Nat) (hp:p < s.size) :
  0<=((Utf8.decode s p).1:Int)/\(((Utf8.decode s p).1:Int)<=55295 \/ 57344<=((Utf8.decode s p).1:Int))/\((Utf8.decode s p).1:Int)<=1114111 ∧
  (decide (((Utf8.decode s p).1:Int)=43 \/ ((Utf8.decode s p).1:Int)=35)=true->plainB s.data.toList=false) ∧
  (decide (((Utf8.decode s p).1:Int)=43 \/ ((Utf8.decode s p).1:Int)=35)=false->plainB (s.data.toList.take p)=true->plainB (s.data.toList.take (p+(Utf8.decode s p).2))=true):=by
 have hsm:=decode_small s p;have hg:=bget s p hp;have hm:s[p] ∈ s.data.toList:=List.mem_of_getElem? hg;have h0:=at0_get hg;rw [Lib.decode_at,get_at0,get_at0,get_at0,get_at0,h0] at hsm ⊢
 by_cases hl:s[p].toNat < 128
 ·rw [decodeN_low _ _ _ _ _ hl]
  refine ⟨by omega,by left;show (s[p].toNat:Int)<=55295;omega,by show (s[p].toNat:Int)<=1114111;omega,fun h => ?_,fun h hpl => ?_⟩
  ·have hw:=wildc_nat s[p]
   rw [h] at hw;unfold plainB;rw [List.all_eq_false];exact ⟨s[p],hm,by simp [hw]⟩
  ·refine plain_split (by omega) hpl fun j hj1 hj2 c hc => ?_
   obtain rfl:j=p:=by omega
   rw [hg] at hc;obtain rfl:=Option.some.inj hc;rw [wildc_nat];exact h
 ·have hh:=decodeN_high (s.size - p) s[p].toNat (at0 s.data.toList (p+1)) (at0 s.data.toList (p+2)) (at0 s.data.toList (p+3)) (by omega) s[p].toNat_lt (at0_lt _ _) (at0_lt _ _) (at0_lt _ _)
  generalize Lib.decodeN (s.size - p) s[p].toNat (at0 s.data.toList (p+1)) (at0 s.data.toList (p+2)) (at0 s.data.toList (p+3))=D at *;obtain ⟨c1,c2,c3,c4,c5⟩:=hh;refine ⟨by omega,by omega,by omega,fun h => ?_,fun _ hpl => ?_⟩
  ·simp only [decide_eq_true_eq] at h;omega
  ·refine plain_split (by omega) hpl fun j hj1 hj2 c hc => ?_
   have hge:128<=c.toNat:=by
    have hc':=at0_get hc
    rcases (show j=p \/ j=p+1 \/ j=p+2 \/ j=p+3 by omega) with rfl | rfl | rfl | rfl
    ·omega
    ·have:=c3 (by omega);omega
    ·have:=c4 (by omega);omega
    ·have:=c5 (by omega);omega
   rw [wildc_nat];simp only [decide_eq_false_iff_not,not_or];omega
theorem zero75 (w:World):(zeroValue 373).run Tryz.prog w = .ok (.agg (Array.replicate 256 (.bool false))) w:=by kernel_rfl
theorem indexAny_plain (l:List UInt8):decide (0<=Lib.indexAny l [43,35]) = !plainB l:=by
 induction l with
 | nil=>rfl
 | cons c r ih =>
  have hge:=Lib.indexAny_ge [43,35] r
  have hc:([43,35]:List UInt8).contains c=wildc c:=by
   unfold wildc;simp only [List.contains_cons,List.contains_nil,Bool.or_false]
  unfold Lib.indexAny;rw [hc];unfold plainB at ih ⊢;rw [List.all_cons]
  cases hw:wildc c
  ·simp only [Bool.false_eq_true,if_false,Bool.not_false,Bool.true_and]
   rw [<- ih]
   by_cases h:Lib.indexAny r [43,35] = -1
   ·rw [h];decide
   ·have:(Lib.indexAny r [43,35] == -1)=false:=by simpa using h
    rw [this];exact decide_eq_decide.2 (by constructor <;> intro <;> simp at * <;> omega)
  ·simp
set_option maxRecDepth 100000
set_option maxHeartbeats 1000000
theorem iany_short (s:ByteArray) (w:World) (h8:s.size<=8) :
  Calls Tryz.prog 308 #[.string s,.string wilds] w fun e w' => ∃ n:Int,e = .returned (.int .i64 n)/\decide (0<=n) = !plainB s.data.toList/\Below w.heap.size w w':=by
 have h8d:decide ((8:Int) < s.size)=false:=by simp;omega
 have HU:=hyd (fun w => Tryz.strings_shouldUseASCIISet (s.size:Int) w);have hwt:(wilds.toList.isEmpty)=false:=by rw [Lib.toList_data];rfl
 have hws:(wilds.size:Int)=2:=by decide
 have hlen:s.data.toList.length=s.size:=rfl
 go_enter Tryz.func308, Tryz.ntmps308
 go_wp2_with fail
 refine (HU.out _).mono ?_;rintro e w' ⟨rfl,rfl⟩
 go_wp2_with fail
 generalize hit:w'.heap.size=it;have hi0:(w'.iter s 0).heap[it]? = some (.stringIter s 0):=by rw [<- hit];exact World.iter_heap w' s 0
 have hb0:Below it w' (w'.iter s 0):=by rw [<- hit];exact (Below.refl _ _).alloc (Nat.le_refl _) _
 go_loopw [9,10] (fun _ _ wr => ∃ p:Nat,p<=s.size/\wr.heap[it]? = some (.stringIter s p)/\Below it w' wr/\plainB (s.data.toList.take p)=true) (fun _ _ wr=>leftAt it s.size wr)
 case atStart=>exact ⟨0,Nat.zero_le _,hi0,hb0,by simp [plainB]⟩
 case round =>
  obtain ⟨p,hp,hi,hb,hpl⟩:=hrel;have HP:=hyd hpl;clear hi0 hb0 hpl
  by_cases hlt:p < s.size
  ·have hnx:=fun ty=>run_next_any_at (P:=Tryz.prog) wr it s p ty hi hlt
   have hd:=rune_wild s p hlt;have hsm:=decode_small s p;have hi2:=iterAt_heap wr it s p (p+(Utf8.decode s p).2) hi;have hb2:=below_iterAt hb (Nat.le_refl it) s (p+(Utf8.decode s p).2);have hm0:leftAt it s.size wr=s.size - p:=leftAt_of hi;have hle:=decode_fits s p hlt;generalize (Utf8.decode s p).1=c at *;generalize (Utf8.decode s p).2=K at *;generalize wr.iterAt it s (p+K)=W2 at *;obtain ⟨r0,r1,r2,d1,d2⟩:=hd;have hm1:leftAt it s.size W2=s.size - (p+K):=leftAt_of hi2;obtain ⟨b,hbb⟩:∃ b,decide ((c:Int)=43 \/ (c:Int)=35)=b:=⟨_,rfl⟩;have HR:=hyd (fun w=>irune_u b (c:Int) w r0 r1 r2 hbb);rw [hbb] at d1 d2;clear hbb
   cases b with
   | true =>
    have HF:=hyd (d1 rfl);clear d1 d2
    go_wp2_with fail
    refine (HR.out _).mono ?_;rintro e w3 ⟨n,rfl,hn,hk⟩;have hb3:=bnext hb2 (by have:=(Array.getElem?_eq_some_iff.1 hi2).1;omega) hk
    go_wp2_with fail
    go_ret
    exact ⟨_,rfl,by rw [HF.out];simp,by rw [hit];exact hb3⟩
   | false =>
    have HF:=hyd (d2 rfl HP.out);clear d1 d2
    go_wp2_with fail
    refine (HR.out _).mono ?_;rintro e w3 ⟨n,rfl,hn,hk⟩;have hb3:=bnext hb2 (by have:=(Array.getElem?_eq_some_iff.1 hi2).1;omega) hk;have hi3:=below_at' hi2 hk;have hm3:leftAt it s.size w3=s.size - (p+K):=leftAt_of hi3;clear hk
    go_wp2_with fail
    refine ⟨⟨p+K,hle,hi3,hb3,HF.out⟩,by rw [hm0,hm3];omega⟩
  ·have hnx:=fun ty=>run_next_end_at (P:=Tryz.prog) wr it s p ty hi hlt
   have HF:=hyd (show decide ((0:Int) <= -1) = !plainB s.data.toList by have:=HP.out;rw [List.take_of_length_le (by omega)] at this;rw [this];decide)
   go_wp2_with fail
   go_ret
   exact ⟨-1,rfl,HF.out,by rw [hit];exact hb⟩
theorem iany_u (s:ByteArray) (w:World) (hs:s.size < 4294967281) :
  Calls Tryz.prog 308 #[.string s,.string wilds] w fun e w' => ∃ n:Int,e = .returned (.int .i64 n)/\decide (0<=n) = !plainB s.data.toList/\Below w.heap.size w w':=by
 by_cases h8:s.size<=8
 ·exact iany_short s w h8
 ·refine (Tryz.strings_IndexAny_long zero75 s wilds w (by decide) (by omega) hs (by decide) (fun j b h => ?_)).mono ?_
  ·have hm:=List.mem_of_getElem? h
   have:b=43 \/ b=35:=by simpa [wilds] using hm
   rcases this with rfl | rfl <;> decide
  ·rintro e w' ⟨rfl,rfl⟩
   exact ⟨_,rfl,indexAny_plain _,((Below.refl _ _).alloc (Nat.le_refl _) _).alloc (by simp) _⟩
theorem cany_u (b:Bool) (s:ByteArray) (w:World) (hs:s.size < 4294967281) (hb:plainB s.data.toList=b) :
  Calls Tryz.prog 272 #[.string s,.string ⟨#[43,35]⟩] w fun e w'=>e = .returned (.bool (!b))/\Below w.heap.size w w':=by
 subst hb;have HI:=hyd (iany_u s w hs)
 go_enter Tryz.func272, Tryz.ntmps272
 go_wp2_with fail
 refine HI.out.mono ?_;rintro e w1 ⟨n,rfl,hn,hk⟩;have HN:=hyd hn;clear hn
 go_wp2_with fail
 go_ret
 exact ⟨ret_bool HN.out,hk⟩
end
section
open Go Go.RowKit
def strs (l:List (List UInt8)):List Value:=l.map fun x=>Value.string ⟨x.toArray⟩
theorem str_eta (s:ByteArray):(⟨s.data.toList.toArray⟩:ByteArray)=s:=by cases s;simp
theorem split_cells (s:ByteArray):(Lib.splitB ⟨#[47]⟩ 0 (Lib.countB s ⟨#[47]⟩) s).map Value.string=strs (levels s.data.toList):=by
 have h:=Lib.splitB_data ⟨#[47]⟩ 0 (Lib.countB s ⟨#[47]⟩) s;have h2:=splitK_levels s.data.toList;have h3:(Lib.splitB ⟨#[47]⟩ 0 (Lib.countB s ⟨#[47]⟩) s).map (·.data.toList)=levels s.data.toList:=h.trans h2;rw [<- h3,strs,List.map_map];apply List.map_congr_left;intro x _;simp
theorem split_len (s:ByteArray):Lib.countB s ⟨#[47]⟩+1=(levels s.data.toList).length:=by
 have h:∀ l:List UInt8,Lib.count l [47]+1=(levels l).length:=by
  intro l
  induction l with
  | nil=>rw [Lib.count_miss (by rfl)];rfl
  | cons c r ih =>
   by_cases h:c=47
   ·subst h
    rw [Lib.count_hit (i:=0) (by simp) (index_sep r),levels_cons_sep];simp at ih ⊢;omega
   ·obtain ⟨x,t,hx⟩:=List.exists_cons_of_ne_nil (levels_ne r)
    rw [levels_cons h hx];rw [hx] at ih;have hi:=index_cons h r
    rcases Lib.index_spec r [47] with ⟨hm,_⟩ | ⟨i,hm,_⟩
    ·rw [hm] at hi
     rw [Lib.count_miss hm] at ih;rw [Lib.count_miss (by simpa using hi)]
     simpa using ih
    ·have hne:(Lib.index r [47] == -1)=false:=by rw [hm,beq_eq_false_iff_ne];omega
     rw [hne] at hi;have hi':Lib.index (c :: r) [47]=((i+1:Nat):Int):=by rw [hi,hm];simp
     rw [Lib.count_hit (i:=i) (by simp) hm] at ih;rw [Lib.count_hit (i:=i+1) (by simp) hi']
     simpa using ih
 exact h s.data.toList
theorem levels_any (s:ByteArray) (w:World) (hT:Tabs w) (hs:s.size < 4294967281) :
  Calls Tryz.prog 178 #[.string s] w fun e w' => ∃ a c,e = .returned (.slice a (levels s.data.toList).length c)/\Row w' a (strs (levels s.data.toList))/\Below w.heap.size w w':=by
 obtain ⟨m,hm⟩:=hT.2;have hc:=Tryz.strings_Split s ⟨#[47]⟩ m w hs hm (by decide);rw [split_len,split_cells] at hc;have HC:=hyd hc;clear hc hm hT
 go_enter Tryz.func178, Tryz.ntmps178
 go_wp2_with fail
 refine HC.out.mono ?_;rintro e w1 ⟨rfl,rfl⟩
 go_wp2_with fail
 go_ret
 exact ⟨_,_,rfl,row_new _ _ _,(Below.refl _ _).alloc (Nat.le_refl _) _⟩
theorem name_all (s:ByteArray) (w:World) (hT:Tabs w) (hs:s.size<=9223372036854775807) :
  Calls Tryz.prog 209 #[.string s] w fun e w'=>e = .returned (.bool (nameB s.data.toList))/\Below w.heap.size w w':=by
 have HT:=hyd hT;clear hT
 by_cases he:s.data.toList = []
 ·have h1:s.toList.isEmpty=true:=by rw [Lib.toList_data,he];rfl
  have h2:s.toList = []:=by rw [Lib.toList_data,he]
  have HF:=hyd (show nameB s.data.toList=false by unfold nameB;rw [he];rfl);clear he
  go_enter Tryz.func209, Tryz.ntmps209
  go_wp2_with fail
  go_ret
  exact ⟨ret_bool HF.out.symm,Below.refl _ _⟩
 ·have h1:s.toList.isEmpty=false:=by rw [Lib.toList_data];simpa using he
  have h2:(!s.toList.isEmpty)=true:=by rw [h1];rfl
  obtain ⟨v,hv⟩:∃ v,validI s.data.toList=v:=⟨_,rfl⟩;obtain ⟨p,hp⟩:∃ p,plainB s.data.toList=p:=⟨_,rfl⟩;have HF:=hyd (show nameB s.data.toList=(v && p) by rw [nameB,List.isEmpty_eq_false_iff.2 he,<- hv,<- hp];rfl);have HV:=hyd (show Calls Tryz.prog 246 #[.string s] w fun e w'=>e = .returned (.bool v)/\Below w.heap.size w w' by rw [<- hv];exact valid_any s w HT.out hs);have HP:=hyd hp
  have HSZ:Hid (v=true->s.size < 4294967281):=hyd (fun h=>by
   rw [<- hv] at h;unfold validI at h;have hc:=of_decide_eq_true h
   by_cases hl:65535 < s.data.toList.length
   ·rw [cntI_long hl] at hc;omega
   ·have:s.data.toList.length=s.size:=rfl
    omega)
  clear he hv hp
  cases v with
  | false =>
   go_enter Tryz.func209, Tryz.ntmps209
   go_wp2_with fail
   refine HV.out.mono ?_;rintro e w1 ⟨rfl,hk⟩
   go_wp2_with fail
   go_ret
   exact ⟨ret_bool HF.out.symm,hk⟩
  | true =>
   have HS2:=hyd (HSZ.out rfl);clear HSZ
   go_enter Tryz.func209, Tryz.ntmps209
   go_wp2_with fail
   refine HV.out.mono ?_;rintro e w1 ⟨rfl,hk⟩
   go_wp2_with fail
   refine (cany_u p s w1 HS2.out HP.out).mono ?_;rintro e w2 ⟨rfl,hk2⟩;replace hk:=bnext hk (Nat.le_refl _) hk2
   go_wp2_with fail
   go_ret
   exact ⟨ret_bool (by rw [HF.out];simp),hk⟩
theorem name_any (s:ByteArray) (w:World) (hT:Tabs w) (hs:s.size < 4294967281) :
  Calls Tryz.prog 209 #[.string s] w fun e w'=>e = .returned (.bool (nameB s.data.toList))/\Below w.heap.size w w':=name_all s w hT (by omega)
theorem slt (l:List UInt8):(⟨l.toArray⟩:ByteArray).toList=l:=by rw [Lib.toList_data]
theorem level_any (x:List UInt8) (last:Bool) (w:World) (hs:x.length < 4294967281) :
  Calls Tryz.prog 247 #[.string ⟨x.toArray⟩,.bool last] w fun e w'=>e = .returned (.bool (levelB x last))/\Below w.heap.size w w':=by
 have e1:=slt x;obtain ⟨p,hp⟩:∃ p,plainB x=p:=⟨_,rfl⟩;have HP:=hyd (fun w=>cany_u p ⟨x.toArray⟩ w (by show x.length < _;exact hs) (by simpa using hp))
 by_cases h1:x = [43]
 ·have HF:=hyd (show levelB x last=true by unfold levelB;rw [h1];rfl)
  have q1:(⟨x.toArray⟩:ByteArray).toList = [43]:=e1.trans h1;clear h1 e1 hp;generalize (⟨x.toArray⟩:ByteArray)=X at *
  go_enter Tryz.func247, Tryz.ntmps247
  go_wp2_with fail
  go_ret
  exact ⟨ret_bool (by rw [HF.out]),Below.refl _ _⟩
 ·have q1:¬ (⟨x.toArray⟩:ByteArray).toList = [43]:=fun h=>h1 (e1.symm.trans h)
  by_cases h2:x = [35]/\last=true
  ·obtain ⟨h2,rfl⟩:=h2
   have HF:=hyd (show levelB x true=true by unfold levelB;rw [h2];rfl);have q2:(⟨x.toArray⟩:ByteArray).toList = [35]:=e1.trans h2;clear h1 e1 hp h2 q1;generalize (⟨x.toArray⟩:ByteArray)=X at *
   go_enter Tryz.func247, Tryz.ntmps247
   go_wp2_with fail
   go_ret
   exact ⟨ret_bool (by rw [HF.out]),Below.refl _ _⟩
  ·have hb1:(x == [43])=false:=by simpa using h1
   have hb2:(x == [35] && last)=false:=by cases last <;> simp_all
   have HF:=hyd (show levelB x last=p by unfold levelB;rw [hb1,hb2,hp];rfl);have q2:¬ ((⟨x.toArray⟩:ByteArray).toList = [35]/\last=true):=fun h=>h2 ⟨e1.symm.trans h.1,h.2⟩
   clear h1 e1 hp h2 hb1 hb2;generalize (⟨x.toArray⟩:ByteArray)=X at *
   cases last with
   | true =>
    have q3:¬ X.toList = [35]:=fun h=>q2 ⟨h,rfl⟩
    clear q2
    go_enter Tryz.func247, Tryz.ntmps247
    go_wp2_with fail
    refine (HP.out _).mono ?_;rintro e w1 ⟨rfl,hk⟩
    go_wp2_with fail
    go_ret
    exact ⟨ret_bool (by rw [HF.out];first | done | (simp;done) | simp [q1]),hk⟩
   | false =>
    clear q2
    by_cases q3:X.toList = [35]
    ·clear q1
     go_enter Tryz.func247, Tryz.ntmps247
     go_wp2_with fail
     refine (HP.out _).mono ?_;rintro e w1 ⟨rfl,hk⟩
     go_wp2_with fail
     go_ret
     exact ⟨ret_bool (by rw [HF.out];first | done | (simp;done) | simp [q1]),hk⟩
    ·skip
     go_enter Tryz.func247, Tryz.ntmps247
     go_wp2_with fail
     refine (HP.out _).mono ?_;rintro e w1 ⟨rfl,hk⟩
     go_wp2_with fail
     go_ret
     exact ⟨ret_bool (by rw [HF.out];first | done | (simp;done) | simp [q1]),hk⟩
theorem strs_at {l:List (List UInt8)} {k:Nat} {x:List UInt8} (h:l[k]? = some x):(strs l)[k]? = some (.string ⟨x.toArray⟩):=by simp [strs,h]
theorem strs_row {w:World} {a:Option Addr} {l:List (List UInt8)} (h:Row w a (strs l)) {k:Nat} {x:List UInt8} (hx:l[k]? = some x):∃ b off,a=some ⟨b,off,none⟩/\w.cell? ⟨b,off+k,none⟩=some (.string ⟨x.toArray⟩):=h.at (strs_at hx)
set_option maxRecDepth 100000
set_option maxHeartbeats 1000000
theorem filter_any (s:ByteArray) (w:World) (hT:Tabs w) (hs:s.size < 4294967281) :
  Calls Tryz.prog 177 #[.string s] w fun e w'=>e = .returned (.bool (filterB s.data.toList))/\Below w.heap.size w w':=by
 have HT:=hyd hT;clear hT
 by_cases he:s.data.toList = []
 ·have h1:s.toList.isEmpty=true:=by rw [Lib.toList_data,he];rfl
  have h2:s.toList = []:=by rw [Lib.toList_data,he]
  have HF:=hyd (show filterB s.data.toList=false by unfold filterB;rw [he];rfl);clear he
  go_enter Tryz.func177, Tryz.ntmps177
  go_wp2_with fail
  go_ret
  exact ⟨ret_bool HF.out.symm,Below.refl _ _⟩
 ·have h1:s.toList.isEmpty=false:=by rw [Lib.toList_data];exact List.isEmpty_eq_false_iff.2 he
  have h2:¬ s.toList = []:=by rw [Lib.toList_data];exact he
  obtain ⟨v,hv⟩:∃ v,validI s.data.toList=v:=⟨_,rfl⟩;have HF:=hyd (show filterB s.data.toList=(v && levelsB (levels s.data.toList)) by rw [filterB,List.isEmpty_eq_false_iff.2 he,<- hv];rfl);have HV:=hyd (show Calls Tryz.prog 246 #[.string s] w fun e w'=>e = .returned (.bool v)/\Below w.heap.size w w' by rw [<- hv];exact valid_any s w HT.out (by omega));clear he hv
  cases v with
  | false =>
   go_enter Tryz.func177, Tryz.ntmps177
   go_wp2_with fail
   refine HV.out.mono ?_;rintro e w1 ⟨rfl,hk⟩
   go_wp2_with fail
   go_ret
   exact ⟨ret_bool HF.out.symm,hk⟩
  | true =>
   have HLS:=hyd (levels_sum s.data.toList);have HLL:=hyd (levels_len_le s.data.toList);have hsl:s.data.toList.length=s.size:=rfl;rw [hsl] at HLS HLL
   go_enter Tryz.func177, Tryz.ntmps177
   go_wp2_with fail
   refine HV.out.mono ?_;rintro e w1 ⟨rfl,hk⟩
   go_wp2_with fail
   refine (levels_any s w1 (HT.out.below hk) hs).mono ?_;rintro e w2 ⟨a,c,rfl,hr,hk2⟩;replace hk:=bnext hk (Nat.le_refl _) hk2;have HR:=hyd hr;generalize levels s.data.toList=L at *;have hLL:L.length<=s.size+1:=HLL.out;clear hr hk2;have HK:=hyd hk;clear hk
   go_wp2_with fail
   go_loopw [17] (fun i wr => ∃ k:Nat,i = .int .i64 k/\k<=L.length/\Below w.heap.size w wr/\Below w2.heap.size w2 wr/\levelsB L=levelsB (L.drop k)) (fun i _=>(L.length - intOf i).toNat)
   case atStart=>exact ⟨0,rfl,by omega,HK.out,Below.refl _ _,by simp⟩
   case round =>
    obtain ⟨k,rfl,hkl,hb,hb2,hD⟩:=hrel;have HD:=hyd hD;clear hD HK
    by_cases hlt:k < L.length
    ·have hk0:(0:Int)<=k:=by omega
     have hkL:(k:Int) < L.length:=by omega
     obtain ⟨b1,o1,rfl,k0⟩:=strs_row (HR.out.below hb2 (Nat.le_refl _)) (k:=k) (x:=L[k]) (by simp [hlt]);have hxl:=HLS.out L[k] (List.getElem_mem hlt);have HN:=hyd (List.drop_eq_getElem_cons hlt);generalize L[k]=x at *;obtain ⟨b,hbl⟩:∃ b,decide ((k:Int)=L.length - 1)=b:=⟨_,rfl⟩;have hbq:((k:Int) == L.length - 1)=b:=by rw [<- hbl];rfl
     have HE:=hyd (show (L.drop (k+1)).isEmpty=b by
      rw [<- hbl,Bool.eq_iff_iff]
      simp only [List.isEmpty_iff,List.drop_eq_nil_iff,decide_eq_true_eq];omega)
     have HLV:=hyd (fun w=>level_any x b w (by omega));obtain ⟨q,hq⟩:∃ q,levelB x b=q:=⟨_,rfl⟩;rw [hq] at HLV;have HQ:=hyd hq;clear hbl hq
     cases q with
     | true =>
      go_wp2_with fail
      refine (HLV.out _).mono ?_;rintro e w3 ⟨rfl,hk3⟩;replace hb:=bnext hb (by have:=hb.size;omega) hk3;replace hb2:=bnext hb2 (by have:=hb2.size;omega) hk3;clear hk3 k0
      go_wp2_with fail
      go_roundw
      case rel=>exact ⟨k+1,by go_num,by omega,hb,hb2,by rw [HD.out,HN.out,levelsB,HE.out,HQ.out];rfl⟩
      case measure=>simp [intOf];omega
     | false =>
      have HFF:=hyd (show filterB s.data.toList=false by rw [HF.out,HD.out,HN.out,levelsB,HE.out,HQ.out];rfl)
      go_wp2_with fail
      refine (HLV.out _).mono ?_;rintro e w3 ⟨rfl,hk3⟩;replace hb:=bnext hb (by have:=hb.size;omega) hk3
      go_wp2_with fail
      go_ret
      exact ⟨ret_bool HFF.out.symm,hb⟩
    ·have hkL:¬ (k:Int) < L.length:=by omega
     have HFF:=hyd (show filterB s.data.toList=true by rw [HF.out,HD.out,List.drop_eq_nil_of_le (by omega)];rfl)
     go_wp2_with fail
     go_ret
     exact ⟨ret_bool HFF.out.symm,hb⟩
end
section
open Go Go.RowKit
theorem pname_all (s:ByteArray) (w:World) (hT:Tabs w) (hs:s.size<=9223372036854775807) :
  Calls Tryz.prog 339 #[.string s] w fun e w'=>e = .returned (.bool (nameB s.data.toList))/\Below w.heap.size w w':=by
 have HT:=hyd hT;clear hT
 by_cases he:s.data.toList = []
 ·have h1:s.toList.isEmpty=true:=by rw [Lib.toList_data,he];rfl
  have h2:s.toList = []:=by rw [Lib.toList_data,he]
  have HF:=hyd (show nameB s.data.toList=false by unfold nameB;rw [he];rfl);clear he
  go_enter Tryz.func339, Tryz.ntmps339
  go_wp2_with fail
  go_ret
  exact ⟨ret_bool HF.out.symm,Below.refl _ _⟩
 ·have h1:s.toList.isEmpty=false:=by rw [Lib.toList_data];simpa using he
  have h2:(!s.toList.isEmpty)=true:=by rw [h1];rfl
  obtain ⟨v,hv⟩:∃ v,validI s.data.toList=v:=⟨_,rfl⟩;obtain ⟨p,hp⟩:∃ p,plainB s.data.toList=p:=⟨_,rfl⟩;have HF:=hyd (show nameB s.data.toList=(v && p) by rw [nameB,List.isEmpty_eq_false_iff.2 he,<- hv,<- hp];rfl);have HV:=hyd (show Calls Tryz.prog 246 #[.string s] w fun e w'=>e = .returned (.bool v)/\Below w.heap.size w w' by rw [<- hv];exact valid_any s w HT.out hs);have HP:=hyd hp
  have HSZ:Hid (v=true->s.size < 4294967281):=hyd (fun h=>by
   rw [<- hv] at h;unfold validI at h;have hc:=of_decide_eq_true h
   by_cases hl:65535 < s.data.toList.length
   ·rw [cntI_long hl] at hc;omega
   ·have:s.data.toList.length=s.size:=rfl
    omega)
  clear he hv hp
  cases v with
  | false =>
   go_enter Tryz.func339, Tryz.ntmps339
   go_wp2_with fail
   refine HV.out.mono ?_;rintro e w1 ⟨rfl,hk⟩
   go_wp2_with fail
   go_ret
   exact ⟨ret_bool HF.out.symm,hk⟩
  | true =>
   have HS2:=hyd (HSZ.out rfl);clear HSZ
   go_enter Tryz.func339, Tryz.ntmps339
   go_wp2_with fail
   refine HV.out.mono ?_;rintro e w1 ⟨rfl,hk⟩
   go_wp2_with fail
   refine (cany_u p s w1 HS2.out HP.out).mono ?_;rintro e w2 ⟨rfl,hk2⟩;replace hk:=bnext hk (Nat.le_refl _) hk2
   go_wp2_with fail
   go_ret
   exact ⟨ret_bool (by rw [HF.out];simp),hk⟩
theorem pname_any (s:ByteArray) (w:World) (hT:Tabs w) (hs:s.size < 4294967281) :
  Calls Tryz.prog 339 #[.string s] w fun e w'=>e = .returned (.bool (nameB s.data.toList))/\Below w.heap.size w w':=pname_all s w hT (by omega)
end
end Go.Proofs.YtcekcoepdhnfgaaGreatDoor
