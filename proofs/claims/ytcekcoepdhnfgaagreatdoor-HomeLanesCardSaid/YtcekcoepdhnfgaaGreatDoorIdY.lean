/- Ids: the pool. -/
import Derived.Test.YtcekcoepdhnfgaaGreatDoorIdX
import Derived.Test.YtcekcoepdhnfgaaGreatDoorMZ
import Derived.Test.YtcekcoepdhnfgaaGreatDoorStB
namespace Go.Proofs.YtcekcoepdhnfgaaGreatDoor
section
open Go Go.RowKit
def PoolRep (w:World) (p:Nat) (l:List Nat) (F:List Nat):Prop:=
 ∃ b xs low,w.heap[p]? = some (.cells #[.slice (some ⟨b,0,none⟩) 1024 1024,.int .i64 (l.length:Nat),.int .i64 (low:Nat)] 292 (0,0))/\w.heap[b]? = some (.cells xs 239 (0,0))/\xs.size=1024 ∧
  (∀ k,k < 1024 -> ∃ x:Nat,xs[k]? = some (.int .u64 (x:Int))/\WordB l k x)/\b ≠ p/\(∀ i,1<=i->i < low * 64->i ∈ l)/\l.Nodup/\(∀ i ∈ l,1<=i/\i<=1024)/\F = [p,b]
theorem PoolRep.lt {w:World} {p:Nat} {l:List Nat} {F:List Nat} (h:PoolRep w p l F):∀ k ∈ F,k < w.heap.size:=by
 obtain ⟨b,xs,low,h1,h2,-,-,-,-,-,-,rfl⟩:=h;intro k hk;simp at hk
 rcases hk with rfl | rfl
 ·exact (Array.getElem?_eq_some_iff.1 h1).1
 ·exact (Array.getElem?_eq_some_iff.1 h2).1
theorem PoolRep.keep {w w':World} {p:Nat} {l:List Nat} {F:List Nat} (h:PoolRep w p l F) (hk:∀ k ∈ F,w'.heap[k]? = w.heap[k]?):PoolRep w' p l F:=by
 obtain ⟨b,xs,low,h1,h2,h3,h4,h5,h6,h7,h8,rfl⟩:=h;exact ⟨b,xs,low,(hk p (by simp)).trans h1,(hk b (by simp)).trans h2,h3,h4,h5,h6,h7,h8,rfl⟩
theorem PoolRep.mod {S:List Nat} {w w':World} {p:Nat} {l:List Nat} {F:List Nat} (h:PoolRep w p l F) (hm:Mod S w w') (hS:∀ k ∈ F,k ∉ S):PoolRep w' p l F:=h.keep fun k hk=>hm.block k (h.lt k hk) (hS k hk)
theorem PoolRep.below {w w':World} {p:Nat} {l:List Nat} {F:List Nat} (h:PoolRep w p l F) (hb:Below w.heap.size w w'):PoolRep w' p l F:=h.mod (Mod.of_below hb []) (by simp)
theorem low_le {l:List Nat} {low:Nat} (h:∀ i,1<=i->i < low * 64->i ∈ l) (hr:∀ i ∈ l,1<=i/\i<=1024):low<=16:=by
 by_cases c:17<=low
 ·have:=hr 1087 (h 1087 (by omega) (by omega));omega
 ·omega
theorem nodup_len:∀ (n:Nat) {l:List Nat},l.Nodup->(∀ i ∈ l,1<=i/\i<=n)->l.length<=n
 | 0,l,_,hr=>by
  cases l with
  | nil=>simp
  | cons x r=>have:=hr x (by simp);omega
 | n+1,l,hn,hr=>by
  have h:=nodup_len n (hn.erase (n+1)) (fun i hi=>by
   obtain ⟨h1,h2⟩:=hn.mem_erase_iff.1 hi;have:=hr i h2
   omega)
  have:=List.le_length_erase (a:=n+1) (l:=l);omega
theorem wpList_full {P:Program} {t e:TypeId} {z:Value} {bytes:Nat} (E:ElemT P t e z 1 bytes) (hz1:z.cells = #[z]) {w0 w:World} {B:Nat} (hbel:Below B w0 w) (hB:B<=w.heap.size)
  {ops:Array Oper} {rest:List Oper} {o:Oper} {a:Act} {Q:Exit->Act->World->Prop} {l c:Operand} {kl kc:IntKind} {n:Nat}
  (hgd:o.guard=none) (ho:o.op=Op.makeSlice t l c) (hl:a.eval l = .int kl n) (hc:a.eval c = .int kc n) (hCm:n * bytes<=140737488355328) (hCn:n < 140737488355328)
  (h:∀ w' cur,w'.heap[w.heap.size]? = some (.cells cur e (0,0))->cur.size=n->(∀ i,i < n->cur[i]? = some z)->Below B w0 w'->w'.heap.size=w.heap.size+1->Below w.heap.size w w'->wpList P ops Q rest (a.put o.dst (.slice (some ⟨w.heap.size,0,none⟩) n n)) w'):wpList P ops Q (o :: rest) a w:=by
 obtain ⟨i0,hi,hz0,hs,hz2⟩:=info_parts E.hi;refine wpList_plain hgd fun K hK => ?_
 have hb:(i0.bytes:Int) * n<=281474976710656:=by
  rw [hz2];have:((n * bytes:Nat):Int)<=140737488355328:=Int.ofNat_le.2 hCm;rw [Int.natCast_mul] at this;rw [Int.mul_comm];omega
 have hrun:=run_make (P:=P) w t e i0 z E.ht hi hz0 kl kc n n (by omega) (by omega) hb (by omega);unfold Oper.wp execOp;simp only [ho,Sem.run_bind,Sem.run_pure,Result.andThen_ok,hl,hc,hrun];refine hK _ _ ?_;simp only [Int.toNat_natCast];refine h _ _ (heap_alloc_new _ _) (by simp [size_madeCells,hs]) (fun i hin => ?_) (hbel.alloc hB _) (by simp) ((Below.refl _ _).alloc (Nat.le_refl _) _);simp [madeCells,hs,hin,hz1,Nat.mod_one]
theorem T_u64:ElemT Tryz.prog 290 239 (.int .u64 0) 1 8:=⟨Tryz.underlying290, by kernel_rfl,rfl,by decide⟩
set_option maxRecDepth 100000
theorem pool_none (p:Nat) (l:List Nat) (F:List Nat) (w:World) (h:PoolRep w p l F):Calls Tryz.prog 214 #[.pointer (some ⟨p,0,none⟩)] w fun e w'=>e = .returned (.bool false)/\w=w':=by
 obtain ⟨b,xs,low,h1,h2,-⟩:=h;have c0:=cell_of_row w p 0 _ _ _ h1;simp only [List.getElem?_toArray,List.getElem?_cons_zero] at c0;have he:∀ w,(binOp .eql 290 (.slice (some ⟨b,0,none⟩) 1024 1024) (.slice none 0 0)).run Tryz.prog w = .ok (.bool false) w:=fun w=>Lib.run_eql_slice_nil w _ _ _ _ _ _ _ Tryz.underlying290
 clear h1 h2
 go_enter Tryz.func214, Tryz.ntmps214
 go_wp2_with fail
 go_ret
 exact ⟨rfl,rfl⟩
theorem new_facts {w w1 : World} {cur : Array Value} {T : TypeId} (hcur : w1.heap[w.heap.size]? = some (.cells cur T (0, 0))) (hcz : ∀ i, i < 1024 → cur[i]? = some (.int .u64 0)) (hsz : w1.heap.size = w.heap.size + 1) :
    (∀ o, (w1.alloc o).cell? ⟨w.heap.size, 0, none⟩ = some (.int .u64 0)) ∧ ∀ o, (w1.alloc o).frozen? ⟨w.heap.size, 0, none⟩ = false :=
  ⟨fun o => by
    rw [World.cell?_of_block (w := w1) ((low_alloc w1 o).block w.heap.size (by omega)), cell_of_row _ _ 0 _ _ _ hcur]; exact hcz 0 (by decide),
   fun o => frozen_of_row _ _ 0 _ _ (((low_alloc w1 o).block w.heap.size (by omega)).trans hcur)⟩
theorem pool_new (w:World):Calls Tryz.prog 260 #[] w fun e w' => ∃ p F,e = .returned (.pointer (some ⟨p,0,none⟩))/\PoolRep w' p [] F/\Upd [] F w w':=by
 go_enter Tryz.func260, Tryz.ntmps260
 go_wp2_with (first
  | (at_make;refine wpList_full T_u64 rfl (Below.refl w.heap.size w) (Nat.le_refl _) (n:=1024) rfl rfl rfl rfl (by decide) (by decide) ?_;intro w1 cur hcur hcs hcz hb1 hsz1 hk1;have hnf:=new_facts hcur hcz hsz1;obtain ⟨k0,z0⟩:=hnf;have HC:=hyd (And.intro hcur (And.intro hcs (And.intro hcz (And.intro hb1 hsz1))));clear hcur hcs hcz hb1 hsz1 hk1)
  | fail)
 go_ret
 obtain ⟨hcur,hcs,hcz,hb1,hsz1⟩:=HC.out;have hwa:=low_alloc w1 (.cells #[.slice (some ⟨w.heap.size,0,none⟩) 1024 1024,.int .i64 0,.int .i64 0] 292);have hp1:=heap_alloc_new w1 (.cells #[.slice (some ⟨w.heap.size,0,none⟩) 1024 1024,.int .i64 0,.int .i64 0] 292);have hc1:=(hwa.block w.heap.size (by omega)).trans hcur;have hsa:(w1.alloc (.cells #[.slice (some ⟨w.heap.size,0,none⟩) 1024 1024,.int .i64 0,.int .i64 0] 292)).heap.size=w.heap.size+2:=by simp [hsz1]
 have hb2:=bnext hb1 (Nat.le_refl _) hwa;clear k0 z0 hwa;generalize w1.alloc (.cells #[.slice (some ⟨w.heap.size,0,none⟩) 1024 1024,.int .i64 0,.int .i64 0] 292)=w2 at *;have hs2:=heap_setCell_same w2 w.heap.size 0 cur 239 (.int .u64 1) hc1;have hm2:Mod [] w (w2.setCell ⟨w.heap.size,0,none⟩ (.int .u64 1)):=(Mod.of_below hb2 []).setCell (.inr (Nat.le_refl _)) _;have hm3:Mod [w.heap.size] w2 (w2.setCell ⟨w.heap.size,0,none⟩ (.int .u64 1)):=(Mod.refl _ _).setCell (.inl (by simp)) _;refine ⟨w1.heap.size,[w1.heap.size,w.heap.size],rfl,⟨w.heap.size,_,0,(hm3.block w1.heap.size (by omega) (by simp;omega)).trans hp1,hs2,by simpa using hcs,fun k hk => ?_,by omega,fun i h1 h2=>by omega,List.nodup_nil,by simp,rfl⟩,hm2,fun k hk=>by simp at hk;omega⟩;rw [Array.getElem?_setIfInBounds]
 by_cases h0:0=k
 ·subst h0
  rw [if_pos rfl,if_pos (by omega)];exact ⟨1,rfl,WordB.one⟩
 ·rw [if_neg h0,hcz k hk]
  exact ⟨0,rfl,WordB.zero k (by omega)⟩
end
section
open Go Go.RowKit
def lowM (w:World) (p:Nat):Nat:=match w.cell? ⟨p,2,none⟩ with | some (.int _ n)=>(17 - n).toNat | _=>0
theorem lowM_at {w:World} {p:Nat} {n:Int} (h:w.cell? ⟨p,2,none⟩=some (.int .i64 n)):lowM w p=(17 - n).toNat:=by unfold lowM;rw [h]
theorem xor_full {x:Nat} (h:x < 18446744073709551616):18446744073709551615 ^^^ x=18446744073709551615 - x:=by
 refine Nat.eq_of_testBit_eq fun i => ?_
 rw [Nat.testBit_xor,full_bits,compl_bits h]
 by_cases hi:i < 64
 ·simp [hi]
 ·simp [hi,lt_bits h (show 64<=i by omega)]
theorem not_run {x:Nat} (h:x < 18446744073709551616):bits .xor .u64 (if IntKind.u64.signed=true then -1 else IntKind.u64.max) (x:Int)=((18446744073709551615 - x:Nat):Int):=by
 rw [<- xor_full h];exact u64_xor_nat 18446744073709551615 x (by decide) h
theorem wrap_pow {k:Nat} (hk:k < 64):IntKind.u64.wrap (2 ^ k)=((2 ^ k:Nat):Int):=by
 have hp:2 ^ k < 18446744073709551616:=by rw [two64];exact Nat.pow_lt_pow_right (by decide) hk
 have e:(2:Int) ^ k=((2 ^ k:Nat):Int):=by simp
 rw [e,IntKind.wrap_u64];generalize 2 ^ k=q at *;omega
theorem or_run {x k:Nat} (h:x < 18446744073709551616) (hk:k < 64):bits .or .u64 (x:Int) (IntKind.u64.wrap (2 ^ k))=((x ||| 2 ^ k:Nat):Int):=by
 rw [wrap_pow hk];exact u64_or_nat x (2 ^ k) h (by rw [two64];exact Nat.pow_lt_pow_right (by decide) hk)
set_option maxRecDepth 100000
set_option maxHeartbeats 2000000
theorem pool_take (p:Nat) (l:List Nat) (F:List Nat) (w:World) (h:PoolRep w p l F) (hB:Bru w) (h0:0 ∉ F) (hl:l.length < 1024) :
  Calls Tryz.prog 134 #[.pointer (some ⟨p,0,none⟩)] w fun e w'=>e = .returned (.tuple #[.int .u16 (leastFree l:Nat),.int .i64 0])/\PoolRep w' p (l ++ [leastFree l]) F/\Upd F F w w':=by
 have HN:=hyd (pool_none p l F w h);obtain ⟨b,xs,low,h1,h2,hsz,hx,hbp,hlo,hnd,hr,rfl⟩:=h;have HX:=hyd hx;have HLO:=hyd hlo;have HND:=hyd hnd;have HR:=hyd hr;have HB:=hyd hB;have H1:=hyd h1;have H2:=hyd h2;have hpl:p < w.heap.size:=(Array.getElem?_eq_some_iff.1 h1).1;have hbl:b < w.heap.size:=(Array.getElem?_eq_some_iff.1 h2).1;have c1:=cell_of_row w p 1 _ _ _ h1;simp only [List.getElem?_toArray,List.getElem?_cons_zero,List.getElem?_cons_succ] at c1;have hq:((l.length:Int) == 65535)=false:=by simp;omega
 have hp0:p ≠ 0:=fun e=>h0 (by simp [e])
 have hl16:=low_le hlo hr;clear h1 h2 hx hlo hnd hr hB h0
 go_enter Tryz.func134, Tryz.ntmps134
 go_wp2_with fail
 refine HN.out.mono ?_;rintro e w1 ⟨rfl,rfl⟩
 go_wp2_with fail
 go_loopw [] (fun wr => ∃ lo:Nat,lo<=16/\wr.heap[p]? = some (.cells #[.slice (some ⟨b,0,none⟩) 1024 1024,.int .i64 (l.length:Nat),.int .i64 (lo:Nat)] 292 (0,0))/\(∀ i,1<=i->i < lo * 64->i ∈ l)/\Mod [p] w wr) (fun wr=>lowM wr p)
 case atStart=>exact ⟨low,hl16,H1.out,HLO.out,Mod.refl _ _⟩
 case round =>
  obtain ⟨lo,hlo16,hp,hin,hm⟩:=hrel;obtain ⟨x,hxl,hw⟩:=HX.out lo (by omega);have c0:=cell_of_row wr p 0 _ _ _ hp;have c2:=cell_of_row wr p 2 _ _ _ hp;have hb2:=(hm.block b hbl (by simpa using hbp)).trans H2.out;have cw:=(cell_of_row wr b lo _ _ _ hb2).trans hxl;simp only [List.getElem?_toArray,List.getElem?_cons_zero,List.getElem?_cons_succ] at c0 c2;have HM:=hyd hm;have HP:=hyd hp;have HIN:=hyd hin;have HW:=hyd hw;have HXL:=hyd hxl;have HB2:=hyd hb2;have hlo0:(0:Int)<=lo:=by omega
  have hlo1:(lo:Int) < 1024:=by omega
  have hmw:=lowM_at c2;clear hm hp hin hw hxl hb2
  by_cases hf:x=18446744073709551615
  ·have hfb:((x:Int) == 18446744073709551615)=true:=by simp [hf]
   have f2:∀ n,(wr.drewN n).frozen? ⟨p,2,none⟩=false:=fun n=>frozen_of_row _ p 2 _ _ HP.out
   go_wp2_with fail
   go_quiet (fail)
   go_wp2_with fail
   have hp3:=heap_setCell_same (wr.drewN nq) p 2 _ _ (.int .i64 (lo+1:Nat)) HP.out
   have hin3:∀ i,1<=i->i < (lo+1) * 64->i ∈ l:=fun i hi1 hi2=>by
    by_cases hi:i < lo * 64
    ·exact HIN.out i hi1 hi
    ·rcases HW.out.full.1 hf (i - lo * 64) (by omega) with e | e
     ·omega
     ·rwa [show lo * 64+(i - lo * 64)=i by omega] at e
   go_roundw
   case rel=>exact ⟨lo+1,low_le hin3 HR.out,by simpa using hp3,hin3,(HM.out.drewN nq).setCell (.inl (by simp)) _⟩
   case measure=>rw [hmw,lowM_at (n:=(lo+1:Nat)) (by have h4:=cell_of_row _ p 2 _ _ _ hp3;simpa using h4)];omega
  ·have hfb:((x:Int) == 18446744073709551615)=false:=by simp;omega
   go_wp2_with fail
   go_quiet (fail)
   go_wp2_with fail
   have HBR:Hid (∀ n,Bru (wr.drewN n)):=hyd (fun n c hc=>by
    have h3:=HB.out c hc;rw [World.cell?_of_block (w:=w) (HM.out.block 0 (World.block_lt_of_cell? w ⟨0,c,none⟩ h3) (by simpa using Ne.symm hp0))]
    exact h3)
   obtain ⟨k,hk⟩:=tz_ex (x:=18446744073709551615 - x) (by have:=HW.out.1;omega) (by omega);refine wp_region_held_drew (S:=fun X=>X.cell? ⟨p,0,none⟩=some (.slice (some ⟨b,0,none⟩) 1024 1024)/\X.cell? ⟨p,2,none⟩=some (.int .i64 lo)/\X.cell? ⟨b,lo,none⟩=some (.int .u64 x)) (by kernel_rfl) ⟨c0,c2,cw⟩ (fun hHeld => ?_);refine tA 0 (h:=tA 1 (h:=tA 2 (h:=tA 3 (h:=tA 4 (h:=tA 5 (h:=tA 6 (h:=tA 7 (h:=tA 8 (h:=tA 9 (h:=tA 10 (h:=?_)))))))))));simp only [tks];refine wpAnyH_ready (rs:=[11]) (by kernel_rfl) (by simp) ?_;refine AllReadyH.cons rfl (fun K hK => ?_) AllReadyH.nil;rw [if_pos (by rfl)];go_simp;rw [not_run HW.out.1]
   go_at_call 215
   refine (tz_any (18446744073709551615 - x) k _ (HBR.out _) (by omega) hk).mono ?_;rintro e w1 ⟨rfl,rfl⟩;refine hK.out _ _ ⟨c0,c2,cw⟩ (fun hHeld => ?_);refine tA 12 (h:=?_);simp only [tks];refine wpAnyH_done (by kernel_rfl) ?_ _;clear hHeld
   go_wp2_with fail
   have hfree:leastFree l=lo * 64+k:=leastFree_eq (by
    rcases Nat.eq_zero_or_pos (lo * 64+k) with e | e
    ·have h3:=hk.2.1
     rw [compl_bits HW.out.1,HW.out.2 k hk.1] at h3;simp [e] at h3
    ·exact e) (fun hm=>by
     have h3:=hk.2.1;rw [compl_bits HW.out.1,HW.out.2 k hk.1] at h3;simp [hm] at h3) (fun j hj1 hj2=>by
     by_cases hi:j < lo * 64
     ·exact HIN.out j hj1 hi
     ·have h3:=hk.2.2 (j - lo * 64) (by omega)
      rw [compl_bits HW.out.1,HW.out.2 _ (by have:=hk.1;omega),show lo * 64+(j - lo * 64)=j by omega] at h3;have h4:j - lo * 64 < 64:=by have:=hk.1;omega
      by_cases hjl:j ∈ l
      ·exact hjl
      ·simp [h4,hjl,show j ≠ 0 by omega] at h3)
   have hle:=leastFree_le l;rw [hfree] at hle;have HKT:=hyd hk;have hk64:=hk.1;have HFR:=hyd hfree;have HMW:=hyd (HM.out.drewN (nq+1));have HPW:Hid ((wr.drewN (nq+1)).heap[p]? = _):=hyd HP.out;have HBW:Hid ((wr.drewN (nq+1)).heap[b]? = _):=hyd HB2.out;replace c0:(wr.drewN (nq+1)).cell? ⟨p,0,none⟩=some (.slice (some ⟨b,0,none⟩) 1024 1024):=c0;replace c2:(wr.drewN (nq+1)).cell? ⟨p,2,none⟩=some (.int .i64 lo):=c2;replace cw:(wr.drewN (nq+1)).cell? ⟨b,lo,none⟩=some (.int .u64 x):=cw;have fw:(wr.drewN (nq+1)).drew.frozen? ⟨b,lo,none⟩=false:=frozen_of_row _ b lo _ _ HB2.out;have cw':(wr.drewN (nq+1)).drew.cell? ⟨b,lo,none⟩=some (.int .u64 x):=cw;have HIN2:=HIN;clear hmw hk hfree HBR HB HM HP HB2 HIN;generalize wr.drewN (nq+1)=W at *;refine wp_region_tail (S:=fun X=>X.cell? ⟨p,0,none⟩=some (.slice (some ⟨b,0,none⟩) 1024 1024)/\X.cell? ⟨p,2,none⟩=some (.int .i64 lo)/\X.cell? ⟨b,lo,none⟩=some (.int .u64 x)) 14 (by kernel_rfl) ⟨c0,c2,cw⟩ (fun hHeld => ?_);refine uA 0 (h:=uA 1 (h:=uA 2 (h:=uA 3 (h:=uA 4 (h:=uA 5 (h:=uA 6 (h:=uA 7 (h:=uA 8 (h:=uA 9 (h:=uA 10 (h:=uA 11 (h:=uA 12 (h:=uA 13 (h:=?_))))))))))))));simp only [tks];refine wpTail.ready (rs:=[14]) (by kernel_rfl) (by simp) ?_;refine AllTail.cons rfl (fun K hK => ?_) AllTail.nil;rw [if_pos (by rfl)];go_simp;rw [or_run HW.out.1 hk64];have hb3:=heap_setCell_same W b lo xs 239 (.int .u64 ((x ||| 2 ^ k:Nat):Int)) HBW.out
   have hm3:Mod [b] W (W.setCell ⟨b,lo,none⟩ (.int .u64 ((x ||| 2 ^ k:Nat):Int))).drew:=((Mod.refl _ _).setCell (.inl (by simp)) _).drew;refine hK.out _ _ (fun h=>absurd rfl h) (fun _ => ?_);refine wpTail.done (by kernel_rfl) ?_ _;have hp3:=(hm3.block p (Array.getElem?_eq_some_iff.1 HPW.out).1 (by simpa using Ne.symm hbp)).trans HPW.out;have hb4:(W.setCell ⟨b,lo,none⟩ (.int .u64 ((x ||| 2 ^ k:Nat):Int))).drew.heap[b]? = _:=hb3;have d1:=cell_of_row _ p 1 _ _ _ hp3;have d2:=cell_of_row _ p 2 _ _ _ hp3;simp only [List.getElem?_toArray,List.getElem?_cons_zero,List.getElem?_cons_succ] at d1 d2;have f1:=frozen_of_row _ p 1 _ _ hp3;have HM3:=hyd hm3;have HP3:=hyd hp3;have HB4:=hyd hb4;clear hm3 hp3 hb4 hb3 c0 c1 c2 cw cw' fw hHeld;generalize (W.setCell ⟨b,lo,none⟩ (.int .u64 ((x ||| 2 ^ k:Nat):Int))).drew=W3 at *
   go_wp2_with fail
   go_ret2
   have hp5:=heap_setCell_same W3 p 1 _ _ (.int .i64 ((l.length:Int)+1)) HP3.out;have hm5:Mod [p] W3 (W3.setCell ⟨p,1,none⟩ (.int .i64 ((l.length:Int)+1))):=(Mod.refl _ _).setCell (.inl (by simp)) _;have hb6:=(hm5.block b (Array.getElem?_eq_some_iff.1 HB4.out).1 (by simpa using hbp)).trans HB4.out;have hmw:Mod [p,b] w (W3.setCell ⟨p,1,none⟩ (.int .i64 ((l.length:Int)+1))):=((HMW.out.mono (S':=[p,b]) (by simp)).trans HM3.out (by simp)).trans hm5 (by simp);rw [HFR.out];refine ⟨by simp,⟨b,_,lo,by simpa using hp5,hb6,by simpa using hsz,fun q hq => ?_,hbp,fun i hi1 hi2=>List.mem_append_left _ (HIN2.out i hi1 hi2),?_,fun i hi => ?_,rfl⟩,hmw,fun q hq => .inl hq⟩
   ·rw [Array.getElem?_setIfInBounds]
    by_cases e:lo=q
    ·subst e
     rw [if_pos rfl,if_pos (by omega)];exact ⟨_,rfl,HW.out.take hk64⟩
    ·rw [if_neg e]
     obtain ⟨y,hy,hwy⟩:=HX.out q hq;exact ⟨y,hy,hwy.else (fun i hi=>by omega)⟩
   ·rw [List.nodup_append]
    refine ⟨HND.out,by simp,fun i hi j hj => ?_⟩;rw [List.mem_singleton.1 hj,<- HFR.out];rintro rfl;exact leastFree_not l hi
   ·rcases List.mem_append.1 hi with hi | hi
    ·exact HR.out i hi
    ·rw [List.mem_singleton.1 hi,<- HFR.out]
     exact ⟨leastFree_pos l,by have:=leastFree_le l;omega⟩
end
section
open Go Go.RowKit
theorem has_run {x j:Nat} (h:x < 18446744073709551616) (hb:x.testBit j=true):bits .and .u64 ((x:Int) / 2 ^ j) 1=1:=by
 have e:(x:Int) / 2 ^ j=((x / 2 ^ j:Nat):Int):=by simp
 have h2:=u64_and_nat (x / 2 ^ j) 1 (Nat.lt_of_le_of_lt (Nat.div_le_self _ _) h) (by decide);rw [Nat.testBit_eq_decide_div_mod_eq] at hb;rw [Nat.and_one_is_mod,of_decide_eq_true hb] at h2;rw [e];exact h2
set_option maxRecDepth 100000
set_option maxHeartbeats 2000000
theorem pool_has (i p:Nat) (l:List Nat) (F:List Nat) (w:World) (h:PoolRep w p l F) (hi:i ∈ l) :
  Calls Tryz.prog 271 #[.pointer (some ⟨p,0,none⟩),.int .u16 (i:Nat)] w fun e w'=>e = .returned (.bool true)/\w=w':=by
 have HN:=hyd (pool_none p l F w h);obtain ⟨b,xs,low,h1,h2,hsz,hx,hbp,hlo,hnd,hr,rfl⟩:=h;obtain ⟨hi1,hi2⟩:=hr i hi;obtain ⟨x,hxl,hw⟩:=hx (i / 64) (by omega);have c0:=cell_of_row w p 0 _ _ _ h1;have cw:=(cell_of_row w b (i / 64) _ _ _ h2).trans hxl;simp only [List.getElem?_toArray,List.getElem?_cons_zero] at c0;have HW:=hyd hw;have HI:=hyd hi;have hig:(0:Int) < i:=by omega
 clear h1 h2 hx hlo hnd hr hxl hw hi
 go_enter Tryz.func271, Tryz.ntmps271
 go_wp2_with fail
 refine HN.out.mono ?_;rintro e w1 ⟨rfl,rfl⟩
 go_wp2_with fail
 go_ret
 have hb:x.testBit (i % 64)=true:=by
  rw [HW.out.2 (i % 64) (by omega),show i / 64 * 64+i % 64=i by omega];simp [HI.out]
 exact ⟨by rw [has_run HW.out.1 hb];rfl,rfl⟩
theorem filter_len {l:List Nat} {i:Nat} (hn:l.Nodup) (hi:i ∈ l):(l.filter (· != i)).length=l.length - 1:=by
 rw [<- hn.erase_eq_filter,List.length_erase_of_mem hi]
theorem pool_freed {i p b nl x:Nat} {low:Int} {xs:Array Value} {l:List Nat} {w:World} (h1:w.heap[p]? = some (.cells #[.slice (some ⟨b,0,none⟩) 1024 1024,.int .i64 (l.length:Nat),.int .i64 low] 292 (0,0))) (h2:w.heap[b]? = some (.cells xs 239 (0,0))) (hsz:xs.size=1024)
  (hx:∀ k,k < 1024 -> ∃ x:Nat,xs[k]? = some (.int .u64 (x:Int))/\WordB l k x) (hbp:b ≠ p) (hnd:l.Nodup) (hr:∀ i ∈ l,1<=i/\i<=1024) (hi:i ∈ l) (hnl:∀ q,1<=q->q < nl * 64->q ∈ l/\q ≠ i) (hw:WordB l (i / 64) x) {y n1 n2:Int}
  (hy:y=bits .andNot .u64 (x:Int) (IntKind.u64.wrap (2 ^ (i % 64)))) (hn1:n1=(l.length:Int) - 1) (hn2:n2=(nl:Int)) :
  PoolRep (((w.setCell ⟨b,i / 64,none⟩ (.int .u64 y)).setCell ⟨p,1,none⟩ (.int .i64 n1)).setCell ⟨p,2,none⟩ (.int .i64 n2)) p (l.filter (· != i)) [p,b]/\Upd [p,b] [p,b] w (((w.setCell ⟨b,i / 64,none⟩ (.int .u64 y)).setCell ⟨p,1,none⟩ (.int .i64 n1)).setCell ⟨p,2,none⟩ (.int .i64 n2)):=by
 have h3:y=((x &&& (18446744073709551615 - 2 ^ (i % 64)):Nat):Int):=by
  rw [hy,wrap_pow (by omega)];exact u64_andNot_nat x (2 ^ (i % 64)) hw.1 (by rw [two64];exact Nat.pow_lt_pow_right (by decide) (by omega))
 subst h3 hn1 hn2;obtain ⟨hi1,hi2⟩:=hr i hi;have hp2:(w.setCell ⟨b,i / 64,none⟩ (.int .u64 ((x &&& (18446744073709551615 - 2 ^ (i % 64)):Nat):Int))).heap[p]? = _:=(Below.heap_setCell _ _ _ _ (Ne.symm hbp)).trans h1;have hb2:=heap_setCell_same w b (i / 64) xs 239 (.int .u64 ((x &&& (18446744073709551615 - 2 ^ (i % 64)):Nat):Int)) h2;have hp3:=heap_setCell_same _ p 1 _ _ (.int .i64 ((l.length:Int) - 1)) hp2;have hp4:=heap_setCell_same _ p 2 _ _ (.int .i64 (nl:Int)) hp3;have hb4:=(Below.heap_setCell _ ⟨p,2,none⟩ (.int .i64 (nl:Int)) b hbp).trans ((Below.heap_setCell _ ⟨p,1,none⟩ (.int .i64 ((l.length:Int) - 1)) b hbp).trans hb2);have hfl:=filter_len hnd hi;have hpos:=List.length_pos_of_mem hi;refine ⟨⟨b,_,nl,?_,hb4,by simpa using hsz,fun q hq => ?_,hbp,fun q hq1 hq2 => ?_,hnd.filter _,fun q hq=>hr q (List.mem_filter.1 hq).1,rfl⟩,(((Mod.refl _ _).setCell (.inl (by simp)) _).setCell (.inl (by simp)) _).setCell (.inl (by simp)) _,fun q hq => .inl hq⟩
 ·rw [hfl,show ((l.length - 1:Nat):Int)=(l.length:Int) - 1 by omega]
  simpa using hp4
 ·rw [Array.getElem?_setIfInBounds]
  by_cases e:i / 64=q
  ·subst e
   rw [if_pos rfl,if_pos (by omega)];have h5:=hw.drop (n:=i % 64) (by omega) (by omega);rw [show i / 64 * 64+i % 64=i by omega] at h5;exact ⟨_,rfl,h5⟩
  ·rw [if_neg e]
   obtain ⟨z,hz,hwz⟩:=hx q hq;exact ⟨z,hz,hwz.dropElse (fun j hj=>by omega)⟩
 ·obtain ⟨h6,h7⟩:=hnl q hq1 hq2
  exact List.mem_filter.2 ⟨h6,by simpa using h7⟩
theorem pool_free (i p:Nat) (l:List Nat) (F:List Nat) (w:World) (h:PoolRep w p l F) (hi:i ∈ l) :
  Calls Tryz.prog 208 #[.pointer (some ⟨p,0,none⟩),.int .u16 (i:Nat)] w fun e w'=>e = .returned (.bool true)/\PoolRep w' p (l.filter (· != i)) F/\Upd F F w w':=by
 have HH:=hyd (pool_has i p l F w h hi);obtain ⟨b,xs,low,h1,h2,hsz,hx,hbp,hlo,hnd,hr,rfl⟩:=h;obtain ⟨hi1,hi2⟩:=hr i hi;obtain ⟨x,hxl,hw⟩:=hx (i / 64) (by omega);have c0:=cell_of_row w p 0 _ _ _ h1;have c1:=cell_of_row w p 1 _ _ _ h1;have c2:=cell_of_row w p 2 _ _ _ h1;have cw:=(cell_of_row w b (i / 64) _ _ _ h2).trans hxl;simp only [List.getElem?_toArray,List.getElem?_cons_zero,List.getElem?_cons_succ] at c0 c1 c2;have fb:=frozen_of_row w b (i / 64) _ _ h2;have hlen:=List.length_pos_of_mem hi;have hl1:=nodup_len 1024 hnd hr;have hlow:=low_le hlo hr;have HW:=hyd hw;have HI:=hyd hi;have HX:=hyd hx;have HLO:=hyd hlo;have HND:=hyd hnd;have HR:=hyd hr;have H1:=hyd h1;have H2:=hyd h2
 have fp:∀ (v:Value),(w.setCell ⟨b,i / 64,none⟩ v).frozen? ⟨p,1,none⟩=false/\(w.setCell ⟨b,i / 64,none⟩ v).frozen? ⟨p,2,none⟩=false:=fun v=>by
  have h3:(w.setCell ⟨b,i / 64,none⟩ v).heap[p]? = _:=(Below.heap_setCell _ _ _ _ (Ne.symm hbp)).trans h1;exact ⟨frozen_of_row _ p 1 _ _ h3,frozen_of_row _ p 2 _ _ h3⟩
 clear h1 h2 hx hlo hnd hr hxl hw hi
 go_enter Tryz.func208, Tryz.ntmps208
 go_wp2_with fail
 refine HH.out.mono ?_;rintro e w1 ⟨rfl,rfl⟩
 by_cases hmn:((i:Int) / 64) < low
 ·go_wp2_with fail
  go_ret
  exact ⟨by rfl,pool_freed (nl:=i / 64) H1.out H2.out hsz HX.out hbp HND.out HR.out HI.out (fun q h3 h4=>⟨HLO.out q h3 (by omega),by omega⟩) HW.out rfl rfl (by omega)⟩
 ·go_wp2_with fail
  go_ret
  exact ⟨by rfl,pool_freed (nl:=low) H1.out H2.out hsz HX.out hbp HND.out HR.out HI.out (fun q h3 h4=>⟨HLO.out q h3 h4,by omega⟩) HW.out rfl rfl rfl⟩
end
end Go.Proofs.YtcekcoepdhnfgaaGreatDoor
