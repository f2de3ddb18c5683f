/- Ids: a set of words. -/
import Derived.Test.YtcekcoepdhnfgaaGreatDoorLib
import Derived.Test.YtcekcoepdhnfgaaGreatDoorRows
import Derived.Laws.BitsAllLaws
import Derived.Laws.Bits64
namespace Go.Proofs.YtcekcoepdhnfgaaGreatDoor
section
open Go
def lfFrom (l:List Nat):Nat->Nat->Nat
 | 0,k=>k
 | n+1,k=>if k ∈ l then lfFrom l n (k+1) else k
def leastFree (l:List Nat):Nat:=lfFrom l l.length 1
theorem pigeon:∀ (n:Nat) (l:List Nat),(∀ j,1<=j->j<=n->j ∈ l)->n<=l.length
 | 0,_,_=>Nat.zero_le _
 | n+1,l,h=>by
  have hm:=h (n+1) (by omega) (Nat.le_refl _);have:=pigeon n (l.erase (n+1)) (fun j h1 h2=>(List.mem_erase_of_ne (by omega)).2 (h j h1 (by omega)));rw [List.length_erase_of_mem hm] at this;have:=List.length_pos_of_mem hm;omega
theorem lfFrom_spec (l:List Nat):∀ (n k:Nat),k<=lfFrom l n k/\lfFrom l n k<=k+n/\(∀ j,k<=j->j < lfFrom l n k->j ∈ l)/\(lfFrom l n k < k+n->lfFrom l n k ∉ l)
 | 0,k=>⟨Nat.le_refl _,Nat.le_refl _,fun j h1 h2=>by unfold lfFrom at h2;omega,fun h=>by unfold lfFrom at h;omega⟩
 | n+1,k=>by
  unfold lfFrom
  split
  ·rename_i hk
   obtain ⟨h1,h2,h3,h4⟩:=lfFrom_spec l n (k+1);refine ⟨by omega,by omega,fun j hj hj2 => ?_,fun h=>h4 (by omega)⟩
   by_cases e:j=k
   ·exact e ▸ hk
   ·exact h3 j (by omega) hj2
  ·rename_i hk
   exact ⟨Nat.le_refl _,by omega,fun j h1 h2=>by omega,fun _=>hk⟩
theorem leastFree_pos (l:List Nat):1<=leastFree l:=(lfFrom_spec l l.length 1).1
theorem leastFree_le (l:List Nat):leastFree l<=l.length+1:=by
 have:=(lfFrom_spec l l.length 1).2.1;unfold leastFree;omega
theorem leastFree_all (l:List Nat) {j:Nat} (h1:1<=j) (h2:j < leastFree l):j ∈ l:=(lfFrom_spec l l.length 1).2.2.1 j h1 h2
theorem leastFree_not (l:List Nat):leastFree l ∉ l:=by
 obtain ⟨h1,h2,h3,h4⟩:=lfFrom_spec l l.length 1
 by_cases h:lfFrom l l.length 1 < 1+l.length
 ·exact h4 h
 ·intro hm
  have he:lfFrom l l.length 1=l.length+1:=by omega
  have:=pigeon (l.length+1) l (fun j hj1 hj2=>by
   by_cases e:j=l.length+1
   ·rw [e,<- he];exact hm
   ·exact h3 j hj1 (by omega))
  omega
theorem leastFree_eq {l:List Nat} {k:Nat} (h1:1<=k) (h2:k ∉ l) (h3:∀ j,1<=j->j < k->j ∈ l):leastFree l=k:=by
 rcases Nat.lt_trichotomy (leastFree l) k with h | h | h
 ·exact absurd (h3 _ (leastFree_pos l) h) (leastFree_not l)
 ·exact h
 ·exact absurd (leastFree_all l h1 h) h2
def WordB (l:List Nat) (k x:Nat):Prop:=x < 18446744073709551616 /\ ∀ i,i < 64->x.testBit i=decide (k * 64+i=0 \/ k * 64+i ∈ l)
theorem two64:(18446744073709551616:Nat)=2 ^ 64:=by decide
theorem WordB.uniq {l:List Nat} {k x y:Nat} (hx:WordB l k x) (hy:WordB l k y):x=y:=by
 refine Nat.eq_of_testBit_eq fun i => ?_
 by_cases hi:i < 64
 ·rw [hx.2 i hi,hy.2 i hi]
 ·rw [Nat.testBit_lt_two_pow (Nat.lt_of_lt_of_le (two64 ▸ hx.1) (Nat.pow_le_pow_right (by decide) (by omega))),Nat.testBit_lt_two_pow (Nat.lt_of_lt_of_le (two64 ▸ hy.1) (Nat.pow_le_pow_right (by decide) (by omega)))]
theorem full_bits (i:Nat):(18446744073709551615:Nat).testBit i=decide (i < 64):=by
 rw [show (18446744073709551615:Nat)=2 ^ 64 - 1 by decide,Nat.testBit_two_pow_sub_one]
theorem lt_bits {x:Nat} (h:x < 18446744073709551616) {i:Nat} (hi:64<=i):x.testBit i=false:=
 Nat.testBit_lt_two_pow (Nat.lt_of_lt_of_le (two64 ▸ h) (Nat.pow_le_pow_right (by decide) hi))
theorem WordB.full {l:List Nat} {k x:Nat} (h:WordB l k x):x=18446744073709551615 ↔ ∀ i,i < 64->k * 64+i=0 \/ k * 64+i ∈ l:=by
 constructor
 ·rintro rfl i hi
  have:=h.2 i hi;rw [full_bits,decide_eq_true hi] at this
  simpa using this.symm
 ·intro ha
  refine Nat.eq_of_testBit_eq fun i => ?_
  rw [full_bits]
  by_cases hi:i < 64
  ·rw [h.2 i hi,decide_eq_true hi,decide_eq_true (ha i hi)]
  ·rw [lt_bits h.1 (by omega),decide_eq_false hi]
theorem compl_bits {x:Nat} (h:x < 18446744073709551616) (i:Nat):(18446744073709551615 - x).testBit i=(decide (i < 64) && !x.testBit i):=by
 rw [show 18446744073709551615 - x=2 ^ 64 - (x+1) by have:=two64;omega];exact Nat.testBit_two_pow_sub_succ (two64 ▸ h) i
theorem pow_bits (n i:Nat):(2 ^ n).testBit i=decide (n=i):=Nat.testBit_two_pow
theorem or_lt {x n:Nat} (h:x < 18446744073709551616) (hn:n < 64):x ||| 2 ^ n < 18446744073709551616:=by
 rw [two64] at *;exact Nat.or_lt_two_pow h (Nat.pow_lt_pow_right (by decide) hn)
theorem WordB.take {l:List Nat} {k x n:Nat} (h:WordB l k x) (hn:n < 64):WordB (l ++ [k * 64+n]) k (x ||| 2 ^ n):=by
 refine ⟨or_lt h.1 hn,fun i hi => ?_⟩;rw [Nat.testBit_or,h.2 i hi,pow_bits]
 by_cases e:n=i
 ·subst e;simp
 ·have e':¬ (i=n):=fun h=>e h.symm
  simp [e,e']
theorem WordB.else {l:List Nat} {k x f:Nat} (h:WordB l k x) (hf:∀ i,i < 64->k * 64+i ≠ f):WordB (l ++ [f]) k x:=by
 refine ⟨h.1,fun i hi => ?_⟩;rw [h.2 i hi];have:=hf i hi;simp [this]
theorem WordB.drop {l:List Nat} {k x n:Nat} (h:WordB l k x) (hn:n < 64) (h0:k * 64+n ≠ 0):WordB (l.filter (· != k * 64+n)) k (x &&& (18446744073709551615 - 2 ^ n)):=by
 have hp:2 ^ n < 18446744073709551616:=by rw [two64];exact Nat.pow_lt_pow_right (by decide) hn
 refine ⟨Nat.lt_of_le_of_lt Nat.and_le_left h.1,fun i hi => ?_⟩;rw [Nat.testBit_and,h.2 i hi,compl_bits hp,pow_bits]
 by_cases e:n=i
 ·subst e
  simp;omega
 ·have e':¬ (i=n):=fun h=>e h.symm
  simp [e,hi,e']
theorem WordB.dropElse {l:List Nat} {k x f:Nat} (h:WordB l k x) (hf:∀ i,i < 64->k * 64+i ≠ f):WordB (l.filter (· != f)) k x:=by
 refine ⟨h.1,fun i hi => ?_⟩;rw [h.2 i hi];have:=hf i hi;simp [this]
theorem WordB.zero (k:Nat) (hk:0 < k):WordB [] k 0:=⟨by decide,fun i _=>by simp;omega⟩
theorem WordB.one:WordB [] 0 1:=⟨by decide,fun i _=>by
 rw [show (1:Nat)=2 ^ 0 from rfl,pow_bits]
 by_cases e:i=0
 ·subst e;rfl
 ·have:¬ (0=i):=fun h=>e h.symm
  simp [e,this]⟩
def IsTz (x n:Nat):Prop:=n < 64/\x.testBit n=true /\ ∀ j,j < n->x.testBit j=false
theorem least_bit {x:Nat}:∀ n,(∃ i,i < n/\x.testBit i=true) -> ∃ m,m < n/\x.testBit m=true /\ ∀ j,j < m->x.testBit j=false
 | 0,⟨i,h,_⟩=>by omega
 | n+1,⟨i,h,hi⟩=>by
  by_cases e:∃ i,i < n/\x.testBit i=true
  ·obtain ⟨m,h1,h2,h3⟩:=least_bit n e
   exact ⟨m,by omega,h2,h3⟩
  ·have hin:i=n:=by
    by_cases c:i < n
    ·exact absurd ⟨i,c,hi⟩ e
    ·omega
   refine ⟨i,h,hi,fun j hj => ?_⟩
   cases hb:x.testBit j with
   | false=>rfl
   | true=>exact absurd ⟨j,by omega,hb⟩ e
theorem tz_ex {x:Nat} (h0:x ≠ 0) (h:x < 18446744073709551616):∃ n,IsTz x n:=by
 have:∃ i,i < 64/\x.testBit i=true:=by
  obtain ⟨i,hi⟩:=Nat.exists_testBit_of_ne_zero h0;refine ⟨i,?_,hi⟩
  by_cases c:i < 64
  ·exact c
  ·rw [lt_bits h (by omega)] at hi;cases hi
 obtain ⟨m,h1,h2,h3⟩:=least_bit 64 this;exact ⟨m,h1,h2,h3⟩
theorem and_neg {x n:Nat} (h:x < 18446744073709551616) (ht:IsTz x n):x &&& (18446744073709551616 - x)=2 ^ n:=by
 obtain ⟨hn,h1,h2⟩:=ht;have hne:x ≠ 0:=by rintro rfl;simp at h1
 have hx:x=2 ^ n * (x / 2 ^ n):=by
  have hmod:x % 2 ^ n=0:=by
   refine Nat.eq_of_testBit_eq fun i => ?_
   rw [Nat.testBit_mod_two_pow,Nat.zero_testBit]
   by_cases c:i < n
   ·rw [h2 i c];simp
   ·simp [c]
  have:=Nat.div_add_mod x (2 ^ n);omega
 have hodd:(x / 2 ^ n) % 2=1:=by
  have:=Nat.testBit_eq_decide_div_mod_eq (x:=x) (i:=n);rw [h1] at this
  simpa using this.symm
 generalize hq:x / 2 ^ n=q at *;have h64:(18446744073709551616:Nat)=2 ^ n * 2 ^ (64 - n):=by rw [<- Nat.pow_add,show n+(64 - n)=64 by omega]
 have hsub:18446744073709551616 - x=2 ^ n * (2 ^ (64 - n) - q):=by rw [Nat.mul_sub,<- h64,<- hx]
 have hqlt:q < 2 ^ (64 - n):=by
  rw [<- hq];rw [Nat.div_lt_iff_lt_mul (Nat.two_pow_pos n),Nat.mul_comm,<- h64];exact h
 rw [hsub]
 conv=>lhs;arg 1;rw [hx]
 refine Nat.eq_of_testBit_eq fun i => ?_
 rw [Nat.testBit_and,Nat.testBit_two_pow_mul,Nat.testBit_two_pow_mul,pow_bits]
 by_cases c:n<=i
 ·rw [decide_eq_true c,Bool.true_and,Bool.true_and]
  have e:2 ^ (64 - n) - q=2 ^ (64 - n) - ((q - 1)+1):=by omega
  have hq1:q - 1 < 2 ^ (64 - n):=by omega
  rw [e,Nat.testBit_two_pow_sub_succ hq1];have hqq:q=2 * (q / 2)+1:=by omega
  by_cases ci:i=n
  ·subst ci
   simp only [Nat.sub_self];rw [Nat.testBit_zero,Nat.testBit_zero];have:(q - 1) % 2=0:=by omega
   have h3:0 < 64 - i:=by omega
   simp [hodd,this,h3]
  ·have hpos:i - n=(i - n - 1)+1:=by omega
   rw [hpos,Nat.testBit_succ,Nat.testBit_succ,show (q - 1) / 2=q / 2 by omega];have:¬ (n=i):=fun h=>ci h.symm
   rw [decide_eq_false this]
   cases (q / 2).testBit (i - n - 1) <;> simp
 ·have:¬ (n=i):=by omega
  rw [decide_eq_false c,decide_eq_false this];rfl
end
section
open Go Go.RowKit
def bruL:List Nat:=[0,1,56,2,57,49,28,3,61,58,42,50,38,29,17,4,62,47,59,36,45,43,51,22,53,39,33,30,24,18,12,5,63,55,48,27,60,41,37,16,46,35,44,21,52,32,23,11,54,26,40,15,34,20,31,10,25,14,19,9,13,8,7,6]
def Bru (w:World):Prop:=∀ c < 64,w.cell? ⟨0,c,none⟩=some (.int .u8 ((bruL.getD c 0:Nat):Int))
theorem Bru.below {w w':World} (h:Bru w) (hb:Below w.heap.size w w'):Bru w':=fun c hc=>by
 rw [hb.cell (p:=⟨0,c,none⟩) (World.block_lt_of_cell? w _ (h c hc))];exact h c hc
theorem bru_ok:∀ k,k < 64->bruL.getD ((2 ^ k * 285870213051353865 % 18446744073709551616) / 288230376151711744) 0=k/\(2 ^ k * 285870213051353865 % 18446744073709551616) / 288230376151711744 < 64:=by decide +kernel
theorem neg_run {x:Nat} (h0:0 < x) (h:x < 18446744073709551616):IntKind.u64.wrap (-(x:Int))=((18446744073709551616 - x:Nat):Int):=by
 rw [IntKind.wrap_u64];omega
theorem tz_run {x k:Nat} (h:x < 18446744073709551616) (ht:IsTz x k) :
  IntKind.u64.wrap (bits .and .u64 (x:Int) (IntKind.u64.wrap (-(x:Int))) * 285870213051353865) / 288230376151711744=(((2 ^ k * 285870213051353865 % 18446744073709551616) / 288230376151711744:Nat):Int):=by
 have h0:0 < x:=by
  rcases Nat.eq_zero_or_pos x with e | e
  ·subst e;have:=ht.2.1;simp at this
  ·exact e
 rw [neg_run h0 h,u64_and_nat _ _ h (by omega),and_neg h ht,IntKind.wrap_u64];generalize 2 ^ k=y;omega
theorem tz_ex2 {x k:Nat} (h:x < 18446744073709551616) (ht:IsTz x k):∃ z:Nat,z < 64/\bruL.getD z 0=k/\IntKind.u64.wrap (bits .and .u64 (x:Int) (IntKind.u64.wrap (-(x:Int))) * 285870213051353865) / 288230376151711744=(z:Int):=
 ⟨_,(bru_ok k ht.1).2,(bru_ok k ht.1).1,tz_run h ht⟩
set_option maxRecDepth 100000
set_option maxHeartbeats 1000000
theorem tz_any (x k:Nat) (w:World) (hB:Bru w) (hx:x < 18446744073709551616) (ht:IsTz x k) :
  Calls Tryz.prog 215 #[.int .u64 x] w fun e w'=>e = .returned (.int .i64 k)/\w=w':=by
 have h0:((x:Int) == 0)=false:=by
  rcases Nat.eq_zero_or_pos x with e | e
  ·subst e;have:=ht.2.1;simp at this
  ·simp;omega
 obtain ⟨z,hz,hb,hr⟩:=tz_ex2 hx ht;have hk:=ht.1;have hc:=hB _ hz;rw [hb] at hc;have hz0:(0:Int)<=z:=by omega
 have hz1:(z:Int) < 64:=by omega
 clear hB hb ht hx
 go_enter Tryz.func215, Tryz.ntmps215
 go_wp2_with fail
 go_ret
 exact ⟨rfl,rfl⟩
end
end Go.Proofs.YtcekcoepdhnfgaaGreatDoor
