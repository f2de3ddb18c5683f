/- Messages that wait, and messages under way (layer 13): how a table lies in memory. -/
import Derived.Test.YtmkhagmjpbfieaaGreatDoorIdY
import Derived.Test.YtmkhagmjpbfieaaGreatDoorPkX
import Derived.Test.YtmkhagmjpbfieaaGreatDoorQueueX
namespace Go.Proofs.YtmkhagmjpbfieaaGreatDoor
open Go Go.RowKit

def pkZ : Pkt := ⟨0, false, 0, false, 0, ⟨#[]⟩, ⟨#[]⟩, 0, false, 0, ⟨#[]⟩, false, Msg.none, false, false, ⟨#[]⟩, ⟨#[]⟩, false, 0, none, 0, [], ⟨#[]⟩⟩
def sentC (x : Sent) : List Value := (pubK x.m x.id false).cells ++ [.int .u8 x.due]
def sentV (l : List Sent) : List Value := l.flatMap sentC
def pksV (l : List Pkt) : List Value := l.flatMap Pkt.cells
theorem sentC_len (x : Sent) : (sentC x).length = 25 := rfl
theorem sentV_append (a b : List Sent) : sentV a ++ sentV b = sentV (a ++ b) := by simp [sentV]
theorem sentV_len (l : List Sent) : (sentV l).length = l.length * 25 := flatMap_len sentC_len l
theorem pksV_append (a b : List Pkt) : pksV a ++ pksV b = pksV (a ++ b) := by simp [pksV]
theorem pksV_len (l : List Pkt) : (pksV l).length = l.length * 24 := flatMap_len pkt_len l
theorem pks_one (l : List Pkt) : ∀ u ∈ pksV l, u.oneCell' = true := by
  intro u hu
  obtain ⟨m, -, hm⟩ := List.mem_flatMap.1 hu
  have := pk_one m
  rw [Array.all_eq_true_iff_forall_mem] at this
  exact this u (by simpa using hm)
theorem sentC_one (x : Sent) : ∀ u ∈ sentC x, u.oneCell' = true := by
  intro u hu
  rcases List.mem_append.1 hu with hu | hu
  · exact pks_one [pubK x.m x.id false] u (by simpa [pksV] using hu)
  · rw [List.mem_singleton.1 hu]; rfl
theorem sent_one (l : List Sent) : ∀ u ∈ sentV l, u.oneCell' = true := by
  intro u hu
  obtain ⟨m, -, hm⟩ := List.mem_flatMap.1 hu
  exact sentC_one m u hm
theorem T_pkt : ElemT Tryz.prog 45 37 (.agg pkZ.cells.toArray) 24 200 := ⟨Tryz.underlying45, by kernel_rfl, by kernel_rfl, by decide⟩
theorem T_sent : ElemT Tryz.prog 97 119 (.agg (pkZ.cells ++ [Value.int .u8 0]).toArray) 25 208 := ⟨Tryz.underlying97, by kernel_rfl, by kernel_rfl, by decide⟩

/-- a table's parts: where they lie -/
structure OParts (w : World) (t q p : Nat) (v : Value) (win most : Int) (wait : List Msg) (ids : List Nat) (row : List Sent) (FQ FP : List Nat) : Prop where
  hd : w.heap[t]? = some (.cells #[.pointer (some ⟨q, 0, none⟩), .pointer (some ⟨p, 0, none⟩), .int .i64 win, v] 99 (0, 0))
  queue : QRep w q wait most FQ
  pool : PoolRep w p ids FP
  own : w.ownsRow 0 119 25 v row.length (sentV row)
  tq : t ∉ FQ
  tp : t ∉ FP
  tv : t ∉ v.ownBlock.toList
  qp : Off FQ FP
  qv : Off FQ v.ownBlock.toList
  pv : Off FP v.ownBlock.toList
def oFoot (t : Nat) (v : Value) (FQ FP : List Nat) : List Nat := t :: (FQ ++ (FP ++ v.ownBlock.toList))
theorem mem_oFoot {t : Nat} {v : Value} {FQ FP : List Nat} {k : Nat} : k ∈ oFoot t v FQ FP ↔ k = t ∨ k ∈ FQ ∨ k ∈ FP ∨ k ∈ v.ownBlock.toList := by simp [oFoot]
section
variable {w w' : World} {t q p : Nat} {v v' : Value} {win most : Int} {wait wait' : List Msg} {ids ids' : List Nat} {row row' : List Sent} {FQ FP FQ' FP' : List Nat}
theorem OParts.ltt (h : OParts w t q p v win most wait ids row FQ FP) : t < w.heap.size := (Array.getElem?_eq_some_iff.1 h.hd).1
theorem OParts.ltv (h : OParts w t q p v win most wait ids row FQ FP) : ∀ k ∈ v.ownBlock.toList, k < w.heap.size := fun k hk => (h.own.lt k (Option.mem_toList.1 hk)).2
theorem OParts.lt (h : OParts w t q p v win most wait ids row FQ FP) : ∀ k ∈ oFoot t v FQ FP, k < w.heap.size := fun k hk => by
  rcases mem_oFoot.1 hk with rfl | hk | hk | hk
  · exact h.ltt
  · exact h.queue.lt k hk
  · exact h.pool.lt k hk
  · exact h.ltv k hk
theorem OParts.keep (h : OParts w t q p v win most wait ids row FQ FP) (hk : ∀ k ∈ oFoot t v FQ FP, w'.heap[k]? = w.heap[k]?) : OParts w' t q p v win most wait ids row FQ FP :=
  ⟨(hk t (mem_oFoot.2 (.inl rfl))).trans h.hd, h.queue.local fun k hk' => hk k (mem_oFoot.2 (.inr (.inl hk'))), h.pool.keep fun k hk' => hk k (mem_oFoot.2 (.inr (.inr (.inl hk')))),
    ownsRow_local h.own fun k hk' => hk k (mem_oFoot.2 (.inr (.inr (.inr (Option.mem_toList.2 hk'))))), h.tq, h.tp, h.tv, h.qp, h.qv, h.pv⟩
theorem OParts.mod {S : List Nat} (h : OParts w t q p v win most wait ids row FQ FP) (hm : Mod S w w') (hS : ∀ k ∈ oFoot t v FQ FP, k ∉ S) : OParts w' t q p v win most wait ids row FQ FP := h.keep fun k hk => hm.block k (h.lt k hk) (hS k hk)
theorem OParts.below (h : OParts w t q p v win most wait ids row FQ FP) (hb : Below w.heap.size w w') : OParts w' t q p v win most wait ids row FQ FP := h.mod (Mod.of_below hb []) (by simp)
/-- the queue is turned -/
theorem OParts.turnQ (h : OParts w t q p v win most wait ids row FQ FP) (hq : QRep w' q wait' most FQ') (hu : Upd FQ FQ' w w') : OParts w' t q p v win most wait' ids row FQ' FP ∧ Upd (oFoot t v FQ FP) (oFoot t v FQ' FP) w w' := by
  have new : ∀ k ∈ FQ', k ∈ FQ ∨ w.heap.size ≤ k := hu.2
  refine ⟨⟨(hu.1.block t h.ltt h.tq).trans h.hd, hq, h.pool.mod hu.1 fun k hk hk' => h.qp k hk' hk, ownsRow_local h.own fun k hk => hu.1.block k (h.ltv k (Option.mem_toList.2 hk)) fun hk' => h.qv k hk' (Option.mem_toList.2 hk), fun hk => ?_, h.tp, h.tv, fun k hk hk' => ?_, fun k hk hk' => ?_, h.pv⟩, hu.1.mono fun k hk => mem_oFoot.2 (.inr (.inl hk)), fun k hk => ?_⟩
  · rcases new _ hk with h1 | h1
    · exact h.tq h1
    · have := h.ltt; omega
  · rcases new k hk with h1 | h1
    · exact h.qp k h1 hk'
    · have := h.pool.lt k hk'; omega
  · rcases new k hk with h1 | h1
    · exact h.qv k h1 hk'
    · have := h.ltv k hk'; omega
  · rcases mem_oFoot.1 hk with rfl | hk | hk
    · exact .inl (mem_oFoot.2 (.inl rfl))
    · exact (new k hk).imp (fun h1 => mem_oFoot.2 (.inr (.inl h1))) id
    · exact .inl (mem_oFoot.2 (.inr (.inr hk)))
/-- the pool is turned -/
theorem OParts.turnP (h : OParts w t q p v win most wait ids row FQ FP) (hp : PoolRep w' p ids' FP') (hu : Upd FP FP' w w') : OParts w' t q p v win most wait ids' row FQ FP' ∧ Upd (oFoot t v FQ FP) (oFoot t v FQ FP') w w' := by
  have new : ∀ k ∈ FP', k ∈ FP ∨ w.heap.size ≤ k := hu.2
  refine ⟨⟨(hu.1.block t h.ltt h.tp).trans h.hd, h.queue.mod hu.1 fun k hk hk' => h.qp k hk hk', hp, ownsRow_local h.own fun k hk => hu.1.block k (h.ltv k (Option.mem_toList.2 hk)) fun hk' => h.pv k hk' (Option.mem_toList.2 hk), h.tq, fun hk => ?_, h.tv, fun k hk hk' => ?_, h.qv, fun k hk hk' => ?_⟩, hu.1.mono fun k hk => mem_oFoot.2 (.inr (.inr (.inl hk))), fun k hk => ?_⟩
  · rcases new _ hk with h1 | h1
    · exact h.tp h1
    · have := h.ltt; omega
  · rcases new k hk' with h1 | h1
    · exact h.qp k hk h1
    · have := h.queue.lt k hk; omega
  · rcases new k hk with h1 | h1
    · exact h.pv k h1 hk'
    · have := h.ltv k hk'; omega
  · rcases mem_oFoot.1 hk with rfl | hk | hk | hk
    · exact .inl (mem_oFoot.2 (.inl rfl))
    · exact .inl (mem_oFoot.2 (.inr (.inl hk)))
    · exact (new k hk).imp (fun h1 => mem_oFoot.2 (.inr (.inr (.inl h1)))) id
    · exact .inl (mem_oFoot.2 (.inr (.inr (.inr hk))))
/-- the row is turned -/
theorem OParts.turnR (h : OParts w t q p v win most wait ids row FQ FP) (hm : Mod (t :: v.ownBlock.toList) w w') (ht : w'.heap[t]? = some (.cells #[.pointer (some ⟨q, 0, none⟩), .pointer (some ⟨p, 0, none⟩), .int .i64 win, v'] 99 (0, 0)))
    (ho : w'.ownsRow 0 119 25 v' row'.length (sentV row')) (new : ∀ k ∈ v'.ownBlock.toList, k ∈ v.ownBlock.toList ∨ w.heap.size ≤ k) : OParts w' t q p v' win most wait ids row' FQ FP ∧ Upd (oFoot t v FQ FP) (oFoot t v' FQ FP) w w' := by
  refine ⟨⟨ht, h.queue.mod hm fun k hk hk' => ?_, h.pool.mod hm fun k hk hk' => ?_, ho, h.tq, h.tp, fun hk => ?_, h.qp, fun k hk hk' => ?_, fun k hk hk' => ?_⟩, hm.mono fun k hk => ?_, fun k hk => ?_⟩
  · rcases List.mem_cons.1 hk' with rfl | hk'
    · exact h.tq hk
    · exact h.qv k hk hk'
  · rcases List.mem_cons.1 hk' with rfl | hk'
    · exact h.tp hk
    · exact h.pv k hk hk'
  · rcases new _ hk with h1 | h1
    · exact h.tv h1
    · have := h.ltt; omega
  · rcases new k hk' with h1 | h1
    · exact h.qv k hk h1
    · have := h.queue.lt k hk; omega
  · rcases new k hk' with h1 | h1
    · exact h.pv k hk h1
    · have := h.pool.lt k hk; omega
  · rcases List.mem_cons.1 hk with rfl | hk
    · exact mem_oFoot.2 (.inl rfl)
    · exact mem_oFoot.2 (.inr (.inr (.inr hk)))
  · rcases mem_oFoot.1 hk with rfl | hk | hk | hk
    · exact .inl (mem_oFoot.2 (.inl rfl))
    · exact .inl (mem_oFoot.2 (.inr (.inl hk)))
    · exact .inl (mem_oFoot.2 (.inr (.inr (.inl hk))))
    · exact (new k hk).imp (fun h1 => mem_oFoot.2 (.inr (.inr (.inr h1)))) id
end
def WaitOk (l : List Msg) : Prop := ∀ m ∈ l, mayP m = true ∧ 0 ≤ m.q
/-- a table lies at block t -/
def OutRep (w : World) (t : Nat) (win most : Int) (o : OT) (F : List Nat) : Prop :=
  ∃ q p v FQ FP, OParts w t q p v win most o.wait (idsOf o.row) o.row FQ FP ∧ RowOk win o.row ∧ 1 ≤ win ∧ win ≤ 1024 ∧ WaitOk o.wait ∧ F = oFoot t v FQ FP
theorem OutRep.lt {w : World} {t : Nat} {win most : Int} {o : OT} {F : List Nat} (h : OutRep w t win most o F) : ∀ k ∈ F, k < w.heap.size := by
  obtain ⟨q, p, v, FQ, FP, h, -, -, -, -, rfl⟩ := h
  exact h.lt
theorem OutRep.mod {S : List Nat} {w w' : World} {t : Nat} {win most : Int} {o : OT} {F : List Nat} (h : OutRep w t win most o F) (hm : Mod S w w') (hS : ∀ k ∈ F, k ∉ S) : OutRep w' t win most o F := by
  obtain ⟨q, p, v, FQ, FP, h, h1, h2, h3, h4, rfl⟩ := h
  exact ⟨q, p, v, FQ, FP, h.mod hm hS, h1, h2, h3, h4, rfl⟩
theorem OutRep.below {w w' : World} {t : Nat} {win most : Int} {o : OT} {F : List Nat} (h : OutRep w t win most o F) (hb : Below w.heap.size w w') : OutRep w' t win most o F := h.mod (Mod.of_below hb []) (by simp)
theorem OutRep.hd {w : World} {t : Nat} {win most : Int} {o : OT} {F : List Nat} (h : OutRep w t win most o F) : t ∈ F := by
  obtain ⟨q, p, v, FQ, FP, -, -, -, -, -, rfl⟩ := h
  exact mem_oFoot.2 (.inl rfl)
theorem OParts.cells {w : World} {t q p : Nat} {v : Value} {win most : Int} {wait : List Msg} {ids : List Nat} {row : List Sent} {FQ FP : List Nat} (h : OParts w t q p v win most wait ids row FQ FP) :
    w.cell? ⟨t, 0, none⟩ = some (.pointer (some ⟨q, 0, none⟩)) ∧ w.cell? ⟨t, 1, none⟩ = some (.pointer (some ⟨p, 0, none⟩)) ∧ w.cell? ⟨t, 2, none⟩ = some (.int .i64 win) ∧ w.cell? ⟨t, 3, none⟩ = some v := cells4 h.hd
end Go.Proofs.YtmkhagmjpbfieaaGreatDoor
