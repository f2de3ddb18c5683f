/- shard, plain. -/
import Derived.Test.YtcekcoepdhnfgaaGreatDoorFamH
import Derived.Test.YtcekcoepdhnfgaaGreatDoorKTopX
namespace Go.Proofs.YtcekcoepdhnfgaaGreatDoor
open Go
def fnvS (h:Nat) (b:UInt8):Nat:=(h ^^^ b.toNat) * 1099511628211 % 18446744073709551616
def fnv (l:Str):Nat:=l.foldl fnvS 14695981039346656037
def homeN (n:Nat) (c:Str):Nat:=fnv c % n
theorem fnv_snoc (l:Str) (b:UInt8):fnv (l ++ [b])=fnvS (fnv l) b:=by unfold fnv;rw [List.foldl_append,List.foldl_cons,List.foldl_nil]
theorem fnvS_lt (h:Nat) (b:UInt8):fnvS h b < 18446744073709551616:=by unfold fnvS;exact Nat.mod_lt _ (by decide)
theorem fnv_nil:fnv []=14695981039346656037:=by unfold fnv;rw [List.foldl_nil]
theorem fnv_lt (l:Str):fnv l < 18446744073709551616:=by
 rcases List.eq_nil_or_concat l with rfl | ⟨r,b,rfl⟩
 ·rw [fnv_nil];decide
 ·rw [List.concat_eq_append,fnv_snoc];exact fnvS_lt _ _
theorem homeN_lt {n:Nat} (hn:0 < n) (c:Str):homeN n c < n:=Nat.mod_lt _ hn
def gateN (conn:Int) (n:Nat):Int:=if conn < 1 then -1 else (conn - 1) % n
def level0 (f:Str):Str:=(levels f).headD []
def hubN (name:Str) (n:Nat):Int:=if nameB name then (homeN n (level0 name):Int) else -1
def hubsN (f:Str) (n:Nat):List Nat:=if filterB f then (if wildB f then List.range n else [homeN n (level0 f)]) else []
theorem levels_plain:∀ {l:Str},plainB l=true -> ∀ x ∈ levels l,plainB x=true
 | [],_,x,hx=>by
  rw [show levels [] = [[]] from rfl,List.mem_singleton] at hx;rw [hx];rfl
 | c :: r,h,x,hx=>by
  unfold plainB at h;rw [List.all_cons,Bool.and_eq_true] at h;have hr:plainB r=true:=h.2;unfold levels at hx
  split at hx
  ·rcases List.mem_cons.1 hx with rfl | hx
   ·rfl
   ·exact levels_plain hr x hx
  ·obtain ⟨y,t,hy⟩:=List.exists_cons_of_ne_nil (levels_ne r)
   rw [hy] at hx
   rcases List.mem_cons.1 hx with rfl | hx
   ·have:=levels_plain hr y (by rw [hy];simp)
    unfold plainB at this ⊢;rw [List.headD_cons,List.all_cons,h.1,this];rfl
   ·exact levels_plain hr x (by rw [hy];exact List.mem_cons_of_mem _ hx)
theorem plain_levelsB:∀ {l:List Str},(∀ x ∈ l,plainB x=true)->levelsB l=true
 | [],_=>rfl
 | x :: t,h=>by
  unfold levelsB levelB;rw [h x (by simp),plain_levelsB fun y hy=>h y (List.mem_cons_of_mem _ hy)];simp
theorem name_filter {l:Str} (h:nameB l=true):filterB l=true/\wildB l=false:=by
 unfold nameB at h;simp only [Bool.and_eq_true] at h;have hp:=levels_plain h.2;refine ⟨by unfold filterB;rw [h.1.1,h.1.2,plain_levelsB hp];rfl,?_⟩;unfold wildB;obtain ⟨y,t,hy⟩:=List.exists_cons_of_ne_nil (levels_ne l);have hy1:=hp y (by rw [hy];simp);rw [hy,List.headD_cons];rw [Bool.or_eq_false_iff];constructor
 ·rw [beq_eq_false_iff_ne];rintro rfl;exact absurd hy1 (by decide)
 ·rw [beq_eq_false_iff_ne];rintro rfl;exact absurd hy1 (by decide)
theorem level0_len:∀ l:Str,(level0 l).length<=l.length
 | []=>by simp [level0,levels]
 | c :: r=>by
  have ih:=level0_len r;unfold level0 at *;unfold levels
  split
  ·simp
  ·rw [List.headD_cons,List.length_cons,List.length_cons];omega
theorem gateN_in {conn:Int} {n:Nat} (h:1<=conn) (hn:1<=n):0<=gateN conn n/\gateN conn n < n:=by
 unfold gateN;rw [if_neg (by omega)];exact ⟨Int.emod_nonneg _ (by omega),Int.emod_lt_of_pos _ (by omega)⟩
theorem hubN_in {s:Str} {n:Nat} (h:nameB s=true) (hn:1<=n):0<=hubN s n/\hubN s n < n:=by
 unfold hubN;rw [if_pos h];have:=homeN_lt (n:=n) (by omega) (level0 s);omega
theorem hubsN_in {s:Str} {n:Nat} (hn:1<=n):∀ k ∈ hubsN s n,k < n:=by
 unfold hubsN;intro k hk
 split at hk
 ·split at hk
  ·simpa using hk
  ·rw [List.mem_singleton.1 hk];exact homeN_lt (by omega) _
 ·cases hk
theorem hubsN_len (s:Str) {n:Nat} (hn:1<=n):(hubsN s n).length<=n:=by
 unfold hubsN
 split
 ·split
  ·simp
  ·simpa using hn
 ·simp
end Go.Proofs.YtcekcoepdhnfgaaGreatDoor
