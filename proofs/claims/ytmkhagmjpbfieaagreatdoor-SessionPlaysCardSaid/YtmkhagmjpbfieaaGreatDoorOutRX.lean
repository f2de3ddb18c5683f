/- Messages that wait, and messages under way (layer 13): how a table lies in memory. Wide structs in regions, rows that are appended to, pieces of code. No program in sight. (Cut by mksess.py.) -/
import Derived.Test.YtmkhagmjpbfieaaGreatDoorIdY
import Derived.Test.YtmkhagmjpbfieaaGreatDoorPkX
import Derived.Test.YtmkhagmjpbfieaaGreatDoorQueueX
import Derived.Test.YtmkhagmjpbfieaaGreatDoorMemX
import Derived.Test.YtmkhagmjpbfieaaGreatDoorOpen
import Derived.Test.YtmkhagmjpbfieaaGreatDoorTail
import Derived.Deep.MidRow
import Derived.Deep.CutBlock
namespace Go.Proofs.YtmkhagmjpbfieaaGreatDoor
section
open Go Go.RowKit

def pkZ : Pkt := ⟨0, false, 0, false, 0, ⟨#[]⟩, ⟨#[]⟩, 0, false, 0, ⟨#[]⟩, false, Msg.none, false, false, ⟨#[]⟩, ⟨#[]⟩, false, 0, none, 0, [], ⟨#[]⟩⟩
def sentC (x : Sent) : List Value := (pubK x.m x.id false).cells ++ [.int .u8 x.due]
def sentV (l : List Sent) : List Value := l.flatMap sentC
def pksV (l : List Pkt) : List Value := l.flatMap Pkt.cells
theorem sentC_len (x : Sent) : (sentC x).length = 25 := rfl
theorem sentV_append (a b : List Sent) : sentV a ++ sentV b = sentV (a ++ b) := by simp [sentV]
theorem sentV_len (l : List Sent) : (sentV l).length = l.length * 25 := flatMap_len sentC_len l
theorem pksV_append (a b : List Pkt) : pksV a ++ pksV b = pksV (a ++ b) := by simp [pksV]
theorem pksV_len (l : List Pkt) : (pksV l).length = l.length * 24 := flatMap_len pkt_len l
theorem pks_one (l : List Pkt) : ∀ u ∈ pksV l, u.oneCell' = true := by
  intro u hu
  obtain ⟨m, -, hm⟩ := List.mem_flatMap.1 hu
  have := pk_one m
  rw [Array.all_eq_true_iff_forall_mem] at this
  exact this u (by simpa using hm)
theorem sentC_one (x : Sent) : ∀ u ∈ sentC x, u.oneCell' = true := by
  intro u hu
  rcases List.mem_append.1 hu with hu | hu
  · exact pks_one [pubK x.m x.id false] u (by simpa [pksV] using hu)
  · rw [List.mem_singleton.1 hu]; rfl
theorem sent_one (l : List Sent) : ∀ u ∈ sentV l, u.oneCell' = true := by
  intro u hu
  obtain ⟨m, -, hm⟩ := List.mem_flatMap.1 hu
  exact sentC_one m u hm
theorem T_pkt : ElemT Tryz.prog 45 37 (.agg pkZ.cells.toArray) 24 200 := ⟨Tryz.underlying45, by kernel_rfl, by kernel_rfl, by decide⟩
theorem T_sent : ElemT Tryz.prog 97 119 (.agg (pkZ.cells ++ [Value.int .u8 0]).toArray) 25 208 := ⟨Tryz.underlying97, by kernel_rfl, by kernel_rfl, by decide⟩

/-- a table's parts: where they lie -/
structure OParts (w : World) (t q p : Nat) (v : Value) (win most : Int) (wait : List Msg) (ids : List Nat) (row : List Sent) (FQ FP : List Nat) : Prop where
  hd : w.heap[t]? = some (.cells #[.pointer (some ⟨q, 0, none⟩), .pointer (some ⟨p, 0, none⟩), .int .i64 win, v] 99 (0, 0))
  queue : QRep w q wait most FQ
  pool : PoolRep w p ids FP
  own : w.ownsRow 0 119 25 v row.length (sentV row)
  tq : t ∉ FQ
  tp : t ∉ FP
  tv : t ∉ v.ownBlock.toList
  qp : Off FQ FP
  qv : Off FQ v.ownBlock.toList
  pv : Off FP v.ownBlock.toList
def oFoot (t : Nat) (v : Value) (FQ FP : List Nat) : List Nat := t :: (FQ ++ (FP ++ v.ownBlock.toList))
theorem mem_oFoot {t : Nat} {v : Value} {FQ FP : List Nat} {k : Nat} : k ∈ oFoot t v FQ FP ↔ k = t ∨ k ∈ FQ ∨ k ∈ FP ∨ k ∈ v.ownBlock.toList := by simp [oFoot]
section
variable {w w' : World} {t q p : Nat} {v v' : Value} {win most : Int} {wait wait' : List Msg} {ids ids' : List Nat} {row row' : List Sent} {FQ FP FQ' FP' : List Nat}
theorem OParts.ltt (h : OParts w t q p v win most wait ids row FQ FP) : t < w.heap.size := (Array.getElem?_eq_some_iff.1 h.hd).1
theorem OParts.ltv (h : OParts w t q p v win most wait ids row FQ FP) : ∀ k ∈ v.ownBlock.toList, k < w.heap.size := fun k hk => (h.own.lt k (Option.mem_toList.1 hk)).2
theorem OParts.lt (h : OParts w t q p v win most wait ids row FQ FP) : ∀ k ∈ oFoot t v FQ FP, k < w.heap.size := fun k hk => by
  rcases mem_oFoot.1 hk with rfl | hk | hk | hk
  · exact h.ltt
  · exact h.queue.lt k hk
  · exact h.pool.lt k hk
  · exact h.ltv k hk
theorem OParts.keep (h : OParts w t q p v win most wait ids row FQ FP) (hk : ∀ k ∈ oFoot t v FQ FP, w'.heap[k]? = w.heap[k]?) : OParts w' t q p v win most wait ids row FQ FP :=
  ⟨(hk t (mem_oFoot.2 (.inl rfl))).trans h.hd, h.queue.local fun k hk' => hk k (mem_oFoot.2 (.inr (.inl hk'))), h.pool.keep fun k hk' => hk k (mem_oFoot.2 (.inr (.inr (.inl hk')))),
    ownsRow_local h.own fun k hk' => hk k (mem_oFoot.2 (.inr (.inr (.inr (Option.mem_toList.2 hk'))))), h.tq, h.tp, h.tv, h.qp, h.qv, h.pv⟩
theorem OParts.mod {S : List Nat} (h : OParts w t q p v win most wait ids row FQ FP) (hm : Mod S w w') (hS : ∀ k ∈ oFoot t v FQ FP, k ∉ S) : OParts w' t q p v win most wait ids row FQ FP := h.keep fun k hk => hm.block k (h.lt k hk) (hS k hk)
theorem OParts.below (h : OParts w t q p v win most wait ids row FQ FP) (hb : Below w.heap.size w w') : OParts w' t q p v win most wait ids row FQ FP := h.mod (Mod.of_below hb []) (by simp)
/-- the queue is turned -/
theorem OParts.turnQ (h : OParts w t q p v win most wait ids row FQ FP) (hq : QRep w' q wait' most FQ') (hu : Upd FQ FQ' w w') : OParts w' t q p v win most wait' ids row FQ' FP ∧ Upd (oFoot t v FQ FP) (oFoot t v FQ' FP) w w' := by
  have new : ∀ k ∈ FQ', k ∈ FQ ∨ w.heap.size ≤ k := hu.2
  refine ⟨⟨(hu.1.block t h.ltt h.tq).trans h.hd, hq, h.pool.mod hu.1 fun k hk hk' => h.qp k hk' hk, ownsRow_local h.own fun k hk => hu.1.block k (h.ltv k (Option.mem_toList.2 hk)) fun hk' => h.qv k hk' (Option.mem_toList.2 hk), fun hk => ?_, h.tp, h.tv, fun k hk hk' => ?_, fun k hk hk' => ?_, h.pv⟩, hu.1.mono fun k hk => mem_oFoot.2 (.inr (.inl hk)), fun k hk => ?_⟩
  · rcases new _ hk with h1 | h1
    · exact h.tq h1
    · have := h.ltt; omega
  · rcases new k hk with h1 | h1
    · exact h.qp k h1 hk'
    · have := h.pool.lt k hk'; omega
  · rcases new k hk with h1 | h1
    · exact h.qv k h1 hk'
    · have := h.ltv k hk'; omega
  · rcases mem_oFoot.1 hk with rfl | hk | hk
    · exact .inl (mem_oFoot.2 (.inl rfl))
    · exact (new k hk).imp (fun h1 => mem_oFoot.2 (.inr (.inl h1))) id
    · exact .inl (mem_oFoot.2 (.inr (.inr hk)))
/-- the pool is turned -/
theorem OParts.turnP (h : OParts w t q p v win most wait ids row FQ FP) (hp : PoolRep w' p ids' FP') (hu : Upd FP FP' w w') : OParts w' t q p v win most wait ids' row FQ FP' ∧ Upd (oFoot t v FQ FP) (oFoot t v FQ FP') w w' := by
  have new : ∀ k ∈ FP', k ∈ FP ∨ w.heap.size ≤ k := hu.2
  refine ⟨⟨(hu.1.block t h.ltt h.tp).trans h.hd, h.queue.mod hu.1 fun k hk hk' => h.qp k hk hk', hp, ownsRow_local h.own fun k hk => hu.1.block k (h.ltv k (Option.mem_toList.2 hk)) fun hk' => h.pv k hk' (Option.mem_toList.2 hk), h.tq, fun hk => ?_, h.tv, fun k hk hk' => ?_, h.qv, fun k hk hk' => ?_⟩, hu.1.mono fun k hk => mem_oFoot.2 (.inr (.inr (.inl hk))), fun k hk => ?_⟩
  · rcases new _ hk with h1 | h1
    · exact h.tp h1
    · have := h.ltt; omega
  · rcases new k hk' with h1 | h1
    · exact h.qp k hk h1
    · have := h.queue.lt k hk; omega
  · rcases new k hk with h1 | h1
    · exact h.pv k h1 hk'
    · have := h.ltv k hk'; omega
  · rcases mem_oFoot.1 hk with rfl | hk | hk | hk
    · exact .inl (mem_oFoot.2 (.inl rfl))
    · exact .inl (mem_oFoot.2 (.inr (.inl hk)))
    · exact (new k hk).imp (fun h1 => mem_oFoot.2 (.inr (.inr (.inl h1)))) id
    · exact .inl (mem_oFoot.2 (.inr (.inr (.inr hk))))
/-- the row is turned -/
theorem OParts.turnR (h : OParts w t q p v win most wait ids row FQ FP) (hm : Mod (t :: v.ownBlock.toList) w w') (ht : w'.heap[t]? = some (.cells #[.pointer (some ⟨q, 0, none⟩), .pointer (some ⟨p, 0, none⟩), .int .i64 win, v'] 99 (0, 0)))
    (ho : w'.ownsRow 0 119 25 v' row'.length (sentV row')) (new : ∀ k ∈ v'.ownBlock.toList, k ∈ v.ownBlock.toList ∨ w.heap.size ≤ k) : OParts w' t q p v' win most wait ids row' FQ FP ∧ Upd (oFoot t v FQ FP) (oFoot t v' FQ FP) w w' := by
  refine ⟨⟨ht, h.queue.mod hm fun k hk hk' => ?_, h.pool.mod hm fun k hk hk' => ?_, ho, h.tq, h.tp, fun hk => ?_, h.qp, fun k hk hk' => ?_, fun k hk hk' => ?_⟩, hm.mono fun k hk => ?_, fun k hk => ?_⟩
  · rcases List.mem_cons.1 hk' with rfl | hk'
    · exact h.tq hk
    · exact h.qv k hk hk'
  · rcases List.mem_cons.1 hk' with rfl | hk'
    · exact h.tp hk
    · exact h.pv k hk hk'
  · rcases new _ hk with h1 | h1
    · exact h.tv h1
    · have := h.ltt; omega
  · rcases new k hk' with h1 | h1
    · exact h.qv k hk h1
    · have := h.queue.lt k hk; omega
  · rcases new k hk' with h1 | h1
    · exact h.pv k hk h1
    · have := h.pool.lt k hk; omega
  · rcases List.mem_cons.1 hk with rfl | hk
    · exact mem_oFoot.2 (.inl rfl)
    · exact mem_oFoot.2 (.inr (.inr (.inr hk)))
  · rcases mem_oFoot.1 hk with rfl | hk | hk | hk
    · exact .inl (mem_oFoot.2 (.inl rfl))
    · exact .inl (mem_oFoot.2 (.inr (.inl hk)))
    · exact .inl (mem_oFoot.2 (.inr (.inr (.inl hk))))
    · exact (new k hk).imp (fun h1 => mem_oFoot.2 (.inr (.inr (.inr h1)))) id
end
def WaitOk (l : List Msg) : Prop := ∀ m ∈ l, mayP m = true ∧ 0 ≤ m.q
/-- a table lies at block t -/
def OutRep (w : World) (t : Nat) (win most : Int) (o : OT) (F : List Nat) : Prop :=
  ∃ q p v FQ FP, OParts w t q p v win most o.wait (idsOf o.row) o.row FQ FP ∧ RowOk win o.row ∧ 1 ≤ win ∧ win ≤ 1024 ∧ WaitOk o.wait ∧ F = oFoot t v FQ FP
theorem OutRep.lt {w : World} {t : Nat} {win most : Int} {o : OT} {F : List Nat} (h : OutRep w t win most o F) : ∀ k ∈ F, k < w.heap.size := by
  obtain ⟨q, p, v, FQ, FP, h, -, -, -, -, rfl⟩ := h
  exact h.lt
theorem OutRep.mod {S : List Nat} {w w' : World} {t : Nat} {win most : Int} {o : OT} {F : List Nat} (h : OutRep w t win most o F) (hm : Mod S w w') (hS : ∀ k ∈ F, k ∉ S) : OutRep w' t win most o F := by
  obtain ⟨q, p, v, FQ, FP, h, h1, h2, h3, h4, rfl⟩ := h
  exact ⟨q, p, v, FQ, FP, h.mod hm hS, h1, h2, h3, h4, rfl⟩
theorem OutRep.below {w w' : World} {t : Nat} {win most : Int} {o : OT} {F : List Nat} (h : OutRep w t win most o F) (hb : Below w.heap.size w w') : OutRep w' t win most o F := h.mod (Mod.of_below hb []) (by simp)
theorem OutRep.hd {w : World} {t : Nat} {win most : Int} {o : OT} {F : List Nat} (h : OutRep w t win most o F) : t ∈ F := by
  obtain ⟨q, p, v, FQ, FP, -, -, -, -, -, rfl⟩ := h
  exact mem_oFoot.2 (.inl rfl)
theorem OParts.cells {w : World} {t q p : Nat} {v : Value} {win most : Int} {wait : List Msg} {ids : List Nat} {row : List Sent} {FQ FP : List Nat} (h : OParts w t q p v win most wait ids row FQ FP) :
    w.cell? ⟨t, 0, none⟩ = some (.pointer (some ⟨q, 0, none⟩)) ∧ w.cell? ⟨t, 1, none⟩ = some (.pointer (some ⟨p, 0, none⟩)) ∧ w.cell? ⟨t, 2, none⟩ = some (.int .i64 win) ∧ w.cell? ⟨t, 3, none⟩ = some v := cells4 h.hd
end
section
open Go Go.RowKit

theorem range_blk {w : World} {b : Nat} {cs : List Value} {T : TypeId} {fr : Nat × Nat} (h : w.heap[b]? = some (.cells cs.toArray T fr)) : w.rangeAt b 0 cs := fun j v hj => by rw [Nat.zero_add, cell_of_row _ _ _ _ _ _ h]; simpa using hj
/-- a struct is loaded whole, in a region that draws its order -/
theorem exec_load_row {P : Program} {ev : Operand → Value} {o : Oper} {w : World} {ty : TypeId} {x : Operand} {b i : Nat} {cs : List Value} {d : TypeDesc} (ho : o.op = .load ty x) (hx : ev x = .pointer (some ⟨b, i, none⟩)) (hc : w.rangeAt b i cs)
    (hu : P.underlying ty = some d) (hd : d.isRow = true) (hi : (P.info? ty).map (·.size) = some cs.length) : (execOp ev o).run P w = .ok (Next.value (.agg cs.toArray)) w := by
  unfold execOp
  simp only [ho, hx, Instr.loadAt, Instr.sureAddr, Sem.run_bind, Sem.run_pure, Result.andThen_ok, run_loadVar_mid w b i ty cs d hc hu hd hi]
/-- a row of one struct is built, whatever the struct has -/
def Build1 (P : Program) (T e : TypeId) (NL : List Value) : Prop := ∀ (o : Oper) (a : Act) (w : World) (K : Act → World → Prop) (Q : Exit → Act → World → Prop) (x : Operand), o.op = .buildSlice T 1 #[(0, x)] → a.eval x = .agg NL.toArray →
  K (a.put o.dst (.slice (some ⟨w.heap.size, 0, none⟩) 1 1)) (w.alloc (.cells NL.toArray e)) → o.wp P a w K Q
/-- the k-th of a row of structs -/
theorem row_mid {α : Type} {mk : α → List Value} {m : Nat} (hm : ∀ a, (mk a).length = m) {w : World} {a : Option Addr} {l : List α} (h : Row w a (l.flatMap mk)) {k : Nat} (hk : k < l.length) (hpos : 0 < m) : ∃ b o, a = some ⟨b, o, none⟩ ∧ w.rangeAt b (o + k * m) (mk l[k]) := by
  have hat : ∀ j, j < m → (l.flatMap mk)[k * m + j]? = (mk l[k])[j]? := fun j hj => by
    rw [flatMap_at hm l k j hj, List.getElem?_eq_getElem hk]; rfl
  rcases h with h | ⟨b, o, rfl, hc⟩
  · have h1 := hat 0 hpos
    rw [h, List.getElem?_eq_getElem (l := mk l[k]) (by rw [hm]; exact hpos)] at h1
    simp at h1
  · refine ⟨b, o, rfl, fun j v hj => ?_⟩
    have hjm : j < m := by have := (List.getElem?_eq_some_iff.1 hj).1; rw [hm] at this; exact this
    have := hc (k * m + j) v (by rw [hat j hjm]; exact hj)
    rwa [← Nat.add_assoc] at this
theorem wpList_build1 {P : Program} {T e : TypeId} {NL : List Value} (hB : Build1 P T e NL) {ops : Array Oper} {rest : List Oper} {o : Oper} {a : Act} {w : World} {Q : Exit → Act → World → Prop} (hg : o.guard = none) (x : Operand) (ho : o.op = .buildSlice T 1 #[(0, x)]) (hx : a.eval x = .agg NL.toArray)
    (d : Option Tmp) (hd : o.dst = d) (nb : Nat) (hnb : w.heap.size = nb) (h : wpList P ops Q rest (a.put d (.slice (some ⟨nb, 0, none⟩) 1 1)) (w.alloc (.cells NL.toArray e))) : wpList P ops Q (o :: rest) a w := by
  subst hd hnb
  exact wpList_plain hg fun K hK => hB o a w K Q x ho hx (hK _ _ h)
theorem wpList_loadMid {P : Program} {ops : Array Oper} {rest : List Oper} {op : Oper} {a : Act} {w : World} {Q : Exit → Act → World → Prop} (hgd : op.guard = none) (ty : TypeId) (x : Operand) (ho : op.op = .load ty x)
    (b o : Nat) (hx : a.eval x = .pointer (some ⟨b, o, none⟩)) (cs : List Value) (d : TypeDesc) (hc : w.rangeAt b o cs)
    (hu : P.underlying ty = some d) (hd : d.isRow = true) (hi : (P.info? ty).map (·.size) = some cs.length) (t : Option Tmp) (ht : op.dst = t)
    (h : wpList P ops Q rest (a.put t (.agg cs.toArray)) w) : wpList P ops Q (op :: rest) a w := by
  subst ht
  exact wpList_load_mid hgd ty x ho b o hx cs d hc hu hd hi h
/-- what is told of a panic does not hang on the frame -/
def QuietP (Q : Exit → Act → World → Prop) : Prop := ∀ x (a a' : Act) (w : World), Q (.panic x) a w → a.defers = a'.defers → Q (.panic x) a' w
theorem quiet_body {P : Program} {fn : Func} {R : Ending → World → Prop} : QuietP (bodyPost P fn R) := fun _ _ _ _ h e => ⟨e ▸ h.1, h.2⟩
theorem quiet_then {K : Act → World → Prop} {Q : Exit → Act → World → Prop} (h : QuietP Q) : QuietP (Exit.then K Q) := fun x a a' w e => h x a a' w e
theorem quiet_block {i : Nat} {Q : Exit → Act → World → Prop} (h : QuietP Q) : QuietP (Exit.inBlock i Q) := fun x a a' w e => h x a a' w e
/-- a region of a code, by its number -/
def regionOf (k : Nat) : Code → Option Code
  | .region id ops d => bif Nat.beq id k then some (.region id ops d) else none
  | .seq a b => match regionOf k a with
    | some c => some c
    | none => regionOf k b
  | .block _ c => regionOf k c
  | .scope c => regionOf k c
  | .loop c => regionOf k c
  | .cond _ a b => match regionOf k a with
    | some c => some c
    | none => regionOf k b
  | _ => none
/-- 'append(s, l...)' of a row that has something, as one step of a region that draws its order -/
theorem step_appR {P : Program} {t e : TypeId} {z : Value} {size bytes : Nat} (E : ElemT P t e z size bytes) {W : World} {B : Nat} {v : Value} {n : Nat} {xs : List Value} (hown : W.ownsRow B e size v n xs)
    {ad : Option Addr} {ys : List Value} {m c : Nat} (hrow : Row W ad ys)
    {ops : Array Oper} {o : Oper} {a : Act} {K : Act → World → Prop} {Q : Exit → Act → World → Prop} {E' : Prop} (hgd : o.guard = none) {s x : Operand}
    (ho : o.op = .call { callee := .builtin .append, args := #[s, x], argTypes := #[t, t] }) (hs : a.eval s = v) (hx : a.eval x = .slice ad m c)
    (hc : ys.length = m * size) (hm : 0 < m) (h1 : ∀ u ∈ ys, u.oneCell' = true) (hbytes : (n + m) * bytes ≤ 140737488355328) (hn : n + m < 140737488355328) (hB : B ≤ W.heap.size)
    (h : ∀ g cap w', w'.ownsRow B e size (.slice (some ⟨g, 0, none⟩) (n + m) cap) (n + m) (xs ++ ys) → W.grownBy w' v.ownBlock → (v.ownBlock = some g ∨ g = W.heap.size) → g < w'.heap.size →
      K (a.put o.dst (.slice (some ⟨g, 0, none⟩) (n + m) cap)) w') :
    if Region.wanted o (yielded ops a.tmps) = true then Oper.wp P o a W K Q else E' := by
  obtain ⟨i0, hi, hz0, hz1, hz2⟩ := info_parts E.hi
  rcases hrow with rfl | ⟨b, off, rfl, hcell⟩
  · exfalso
    have := Nat.mul_pos hm E.hsz
    simp at hc
    omega
  · refine step_append_lies W hgd s x t ho B e i0 z size bytes E.ht hi hz0 hz1 hz2 E.hzs E.hsz v n xs hs hown ⟨b, off, none⟩ m c ys hx (by simp [hc]) ?_ h1 hm (by unfold maxLen; omega) hbytes hB W.heap.size rfl h
    intro j u hj
    have e1 : (⟨b, off, none⟩ : Addr).add j = ⟨b, off + j, none⟩ := by unfold Addr.add; split <;> simp_all
    rw [e1]; exact hcell j u hj
theorem wpList_appR {P : Program} {t e : TypeId} {z : Value} {size bytes : Nat} (E : ElemT P t e z size bytes) {w : World} {B : Nat} {v : Value} {n : Nat} {xs : List Value} (hown : w.ownsRow B e size v n xs)
    {ad : Option Addr} {ys : List Value} {m c : Nat} (hrow : Row w ad ys)
    {ops : Array Oper} {rest : List Oper} {o : Oper} {a : Act} {Q : Exit → Act → World → Prop} {s x : Operand} (hgd : o.guard = none)
    (ho : o.op = .call { callee := .builtin .append, args := #[s, x], argTypes := #[t, t] }) (hs : a.eval s = v) (hx : a.eval x = .slice ad m c) (d : Option Tmp) (hd : o.dst = d)
    (hc : ys.length = m * size) (hm : 0 < m) (h1 : ∀ u ∈ ys, u.oneCell' = true) (hbytes : (n + m) * bytes ≤ 140737488355328) (hn : n + m < 140737488355328) (hB : B ≤ w.heap.size)
    (h : ∀ g cap w', w'.ownsRow B e size (.slice (some ⟨g, 0, none⟩) (n + m) cap) (n + m) (xs ++ ys) → w.grownBy w' v.ownBlock → (v.ownBlock = some g ∨ w.heap.size ≤ g) → g < w'.heap.size →
      wpList P ops Q rest (a.put d (.slice (some ⟨g, 0, none⟩) (n + m) cap)) w') : wpList P ops Q (o :: rest) a w := by
  subst hd
  refine wpList_step fun K hK => step_appR E hown hrow hgd ho hs hx hc hm h1 hbytes hn hB fun g cap w' h2 h3 h4 h5 => hK _ _ (h g cap w' h2 h3 (h4.imp id fun e => ?_) h5)
  rw [e]; exact Nat.le_refl _
/-- a struct is built, in a region that draws its order -/
theorem exec_build {P : Program} {ev : Operand → Value} {o : Oper} {w : World} (t : TypeId) (parts : Array (Nat × Operand)) (ho : o.op = .build t parts) (cells : Array Value) (ps : List (Nat × Value)) (hps : (parts.map fun (i, x) => (i, ev x)).toList = ps)
    (hf : P.built t ps = some cells) : (execOp ev o).run P w = .ok (Next.value (.agg cells)) w := by
  subst hps
  unfold execOp
  simp only [ho, Sem.run_bind, run_build w t _ cells hf, Result.andThen_ok, Sem.run_pure]
end
end Go.Proofs.YtmkhagmjpbfieaaGreatDoor
