/- The document's table (layer 13): how it lies in memory. The document's table (layer 13): New, one, Flight, Waits, Reset walked. The document's ids (layer 11): Take walked. (Printed by gen_dfree.py.) The document's table (layer 13): the least id that is free (free), walked. The document's table: free walked. (Printed by gen_dfree3.py.) -/
import Derived.Test.YtmkhagmjpbfieaaGreatDoorOutRX
import Derived.Test.YtmkhagmjpbfieaaGreatDoorPkY
import Derived.Test.YtmkhagmjpbfieaaGreatDoorISet
import Derived.Test.YtmkhagmjpbfieaaGreatDoorOutX
import Derived.BigRegion
namespace Go.Proofs.YtmkhagmjpbfieaaGreatDoor
section
open Go Go.RowKit

def dsC (x : Sent) : List Value := x.m.cells ++ [.int .u16 (x.id : Nat), .int .u8 x.due]
def dsV (l : List Sent) : List Value := l.flatMap dsC
theorem dsC_len (x : Sent) : (dsC x).length = 6 := rfl
theorem dsV_append (a b : List Sent) : dsV a ++ dsV b = dsV (a ++ b) := by simp [dsV]
theorem dsV_len (l : List Sent) : (dsV l).length = l.length * 6 := flatMap_len dsC_len l
theorem dsC_one (x : Sent) : ∀ u ∈ dsC x, u.oneCell' = true := by simp [dsC, Msg.cells, Value.oneCell']
theorem ds_one (l : List Sent) : ∀ u ∈ dsV l, u.oneCell' = true := by
  intro u hu
  obtain ⟨m, -, hm⟩ := List.mem_flatMap.1 hu
  exact dsC_one m u hm
theorem T_ds : ElemT Tryz.prog 112 125 (.agg #[.string ⟨#[]⟩, .string ⟨#[]⟩, .int .u8 0, .bool false, .int .u16 0, .int .u8 0]) 6 48 := ⟨Tryz.underlying112, by kernel_rfl, by kernel_rfl, by decide⟩
/-- the k-th of a row -/
theorem ds_row {w : World} {a : Option Addr} {l : List Sent} (h : Row w a (dsV l)) {k : Nat} (hk : k < l.length) : ∃ b o, a = some ⟨b, o, none⟩ ∧ w.cell? ⟨b, o + k * 6, none⟩ = some (.string l[k].m.t) ∧ w.cell? ⟨b, o + k * 6 + 1, none⟩ = some (.string l[k].m.p) ∧ w.cell? ⟨b, o + k * 6 + 2, none⟩ = some (.int .u8 l[k].m.q) ∧
    w.cell? ⟨b, o + k * 6 + 3, none⟩ = some (.bool l[k].m.r) ∧ w.cell? ⟨b, o + k * 6 + 4, none⟩ = some (.int .u16 (l[k].id : Nat)) ∧ w.cell? ⟨b, o + k * 6 + 5, none⟩ = some (.int .u8 l[k].due) := by
  have hat : ∀ j, j < 6 → (dsV l)[k * 6 + j]? = (dsC l[k])[j]? := fun j hj => by
    unfold dsV
    rw [flatMap_at dsC_len l k j hj, List.getElem?_eq_getElem hk]; rfl
  obtain ⟨b, o, rfl, h0⟩ := h.at (hat 0 (by decide))
  refine ⟨b, o, rfl, h0, ?_, ?_, ?_, ?_, ?_⟩
  · obtain ⟨b', o', e, h1⟩ := h.at (hat 1 (by decide)); cases e; rw [← Nat.add_assoc] at h1; exact h1
  · obtain ⟨b', o', e, h1⟩ := h.at (hat 2 (by decide)); cases e; rw [← Nat.add_assoc] at h1; exact h1
  · obtain ⟨b', o', e, h1⟩ := h.at (hat 3 (by decide)); cases e; rw [← Nat.add_assoc] at h1; exact h1
  · obtain ⟨b', o', e, h1⟩ := h.at (hat 4 (by decide)); cases e; rw [← Nat.add_assoc] at h1; exact h1
  · obtain ⟨b', o', e, h1⟩ := h.at (hat 5 (by decide)); cases e; rw [← Nat.add_assoc] at h1; exact h1
/-- a table's parts: where they lie -/
structure DTParts (w : World) (t q : Nat) (v : Value) (win most : Int) (wait : List Msg) (row : List Sent) (FQ : List Nat) : Prop where
  hd : w.heap[t]? = some (.cells #[.pointer (some ⟨q, 0, none⟩), .int .i64 win, v] 114 (0, 0))
  queue : RRep w q wait most FQ
  own : w.ownsRow 0 125 6 v row.length (dsV row)
  tq : t ∉ FQ
  tv : t ∉ v.ownBlock.toList
  qv : Off FQ v.ownBlock.toList
def dtFoot (t : Nat) (v : Value) (FQ : List Nat) : List Nat := t :: (FQ ++ v.ownBlock.toList)
theorem mem_dtFoot {t : Nat} {v : Value} {FQ : List Nat} {k : Nat} : k ∈ dtFoot t v FQ ↔ k = t ∨ k ∈ FQ ∨ k ∈ v.ownBlock.toList := by simp [dtFoot]
section
variable {w w' : World} {t q : Nat} {v v' : Value} {win most : Int} {wait wait' : List Msg} {row row' : List Sent} {FQ FQ' : List Nat}
theorem DTParts.ltt (h : DTParts w t q v win most wait row FQ) : t < w.heap.size := (Array.getElem?_eq_some_iff.1 h.hd).1
theorem DTParts.ltv (h : DTParts w t q v win most wait row FQ) : ∀ k ∈ v.ownBlock.toList, k < w.heap.size := fun k hk => (h.own.lt k (Option.mem_toList.1 hk)).2
theorem DTParts.lt (h : DTParts w t q v win most wait row FQ) : ∀ k ∈ dtFoot t v FQ, k < w.heap.size := fun k hk => by
  rcases mem_dtFoot.1 hk with rfl | hk | hk
  · exact h.ltt
  · exact h.queue.lt k hk
  · exact h.ltv k hk
theorem DTParts.mod {S : List Nat} (h : DTParts w t q v win most wait row FQ) (hm : Mod S w w') (hS : ∀ k ∈ dtFoot t v FQ, k ∉ S) : DTParts w' t q v win most wait row FQ :=
  ⟨(hm.block t h.ltt (hS t (mem_dtFoot.2 (.inl rfl)))).trans h.hd, h.queue.mod hm fun k hk' => hS k (mem_dtFoot.2 (.inr (.inl hk'))),
    ownsRow_local h.own fun k hk' => hm.block k (h.ltv k (Option.mem_toList.2 hk')) (hS k (mem_dtFoot.2 (.inr (.inr (Option.mem_toList.2 hk'))))), h.tq, h.tv, h.qv⟩
theorem DTParts.below (h : DTParts w t q v win most wait row FQ) (hb : Below w.heap.size w w') : DTParts w' t q v win most wait row FQ := h.mod (Mod.of_below hb []) (by simp)
/-- the queue is turned -/
theorem DTParts.turnQ (h : DTParts w t q v win most wait row FQ) (hq : RRep w' q wait' most FQ') (hu : Upd FQ FQ' w w') : DTParts w' t q v win most wait' row FQ' ∧ Upd (dtFoot t v FQ) (dtFoot t v FQ') w w' := by
  have new : ∀ k ∈ FQ', k ∈ FQ ∨ w.heap.size ≤ k := hu.2
  refine ⟨⟨(hu.1.block t h.ltt h.tq).trans h.hd, hq, ownsRow_local h.own fun k hk => hu.1.block k (h.ltv k (Option.mem_toList.2 hk)) fun hk' => h.qv k hk' (Option.mem_toList.2 hk), fun hk => ?_, h.tv, fun k hk hk' => ?_⟩, hu.1.mono fun k hk => mem_dtFoot.2 (.inr (.inl hk)), fun k hk => ?_⟩
  · rcases new _ hk with h1 | h1
    · exact h.tq h1
    · have := h.ltt; omega
  · rcases new k hk with h1 | h1
    · exact h.qv k h1 hk'
    · have := h.ltv k hk'; omega
  · rcases mem_dtFoot.1 hk with rfl | hk | hk
    · exact .inl (mem_dtFoot.2 (.inl rfl))
    · exact (new k hk).imp (fun h1 => mem_dtFoot.2 (.inr (.inl h1))) id
    · exact .inl (mem_dtFoot.2 (.inr (.inr hk)))
/-- the row is turned -/
theorem DTParts.turnR (h : DTParts w t q v win most wait row FQ) (hm : Mod (t :: v.ownBlock.toList) w w') (ht : w'.heap[t]? = some (.cells #[.pointer (some ⟨q, 0, none⟩), .int .i64 win, v'] 114 (0, 0)))
    (ho : w'.ownsRow 0 125 6 v' row'.length (dsV row')) (new : ∀ k ∈ v'.ownBlock.toList, k ∈ v.ownBlock.toList ∨ w.heap.size ≤ k) : DTParts w' t q v' win most wait row' FQ ∧ Upd (dtFoot t v FQ) (dtFoot t v' FQ) w w' := by
  refine ⟨⟨ht, h.queue.mod hm fun k hk hk' => ?_, ho, h.tq, fun hk => ?_, fun k hk hk' => ?_⟩, hm.mono fun k hk => ?_, fun k hk => ?_⟩
  · rcases List.mem_cons.1 hk' with rfl | hk'
    · exact h.tq hk
    · exact h.qv k hk hk'
  · rcases new _ hk with h1 | h1
    · exact h.tv h1
    · have := h.ltt; omega
  · rcases new k hk' with h1 | h1
    · exact h.qv k hk h1
    · have := h.queue.lt k hk; omega
  · rcases List.mem_cons.1 hk with rfl | hk
    · exact mem_dtFoot.2 (.inl rfl)
    · exact mem_dtFoot.2 (.inr (.inr hk))
  · rcases mem_dtFoot.1 hk with rfl | hk | hk
    · exact .inl (mem_dtFoot.2 (.inl rfl))
    · exact .inl (mem_dtFoot.2 (.inr (.inl hk)))
    · exact (new k hk).imp (fun h1 => mem_dtFoot.2 (.inr (.inr h1))) id
end
/-- the document's table lies at block t -/
def DTRep (w : World) (t : Nat) (win most : Int) (o : OT) (F : List Nat) : Prop :=
  ∃ q v FQ, DTParts w t q v win most o.wait o.row FQ ∧ RowOk win o.row ∧ 1 ≤ win ∧ win ≤ 1024 ∧ WaitOk o.wait ∧ F = dtFoot t v FQ
theorem DTRep.lt {w : World} {t : Nat} {win most : Int} {o : OT} {F : List Nat} (h : DTRep w t win most o F) : ∀ k ∈ F, k < w.heap.size := by
  obtain ⟨q, v, FQ, h, -, -, -, -, rfl⟩ := h
  exact h.lt
theorem DTRep.mod {S : List Nat} {w w' : World} {t : Nat} {win most : Int} {o : OT} {F : List Nat} (h : DTRep w t win most o F) (hm : Mod S w w') (hS : ∀ k ∈ F, k ∉ S) : DTRep w' t win most o F := by
  obtain ⟨q, v, FQ, h, h1, h2, h3, h4, rfl⟩ := h
  exact ⟨q, v, FQ, h.mod hm hS, h1, h2, h3, h4, rfl⟩
theorem DTRep.below {w w' : World} {t : Nat} {win most : Int} {o : OT} {F : List Nat} (h : DTRep w t win most o F) (hb : Below w.heap.size w w') : DTRep w' t win most o F := h.mod (Mod.of_below hb []) (by simp)
/-- the least number that is not in a rising row: the first place that does not have its own -/
theorem least_sorted {l : List Nat} (hs : l.Pairwise (· < ·)) (h1 : ∀ x ∈ l, 1 ≤ x) {k : Nat} (hk : k ≤ l.length) (hlt : ∀ j (hj : j < k), l[j] = j + 1) (hend : ∀ h : k < l.length, l[k] ≠ k + 1) : leastFree l = k + 1 := by
  have ge : ∀ j (hj : j < l.length), j + 1 ≤ l[j] := by
    intro j
    induction j with
    | zero => intro hj; exact h1 _ (List.getElem_mem hj)
    | succ j ih =>
      intro hj
      have := ih (by omega)
      have := List.pairwise_iff_getElem.1 hs j (j + 1) (by omega) hj (by omega)
      omega
  refine leastFree_eq (by omega) (fun hm => ?_) (fun j hj1 hj2 => ?_)
  · obtain ⟨i, hi, e⟩ := List.mem_iff_getElem.1 hm
    rcases Nat.lt_trichotomy i k with h | h | h
    · have := hlt i h; omega
    · subst h; exact hend hi e
    · have h2 := ge k (by omega)
      have h3 := List.pairwise_iff_getElem.1 hs k i (by omega) hi h
      have := hend (by omega)
      omega
  · have := hlt (j - 1) (by omega)
    rw [show j - 1 + 1 = j by omega] at this
    exact List.mem_iff_getElem.2 ⟨j - 1, by omega, this⟩
end
section
open Go Go.RowKit

theorem DTParts.cells {w : World} {t q : Nat} {v : Value} {win most : Int} {wait : List Msg} {row : List Sent} {FQ : List Nat} (h : DTParts w t q v win most wait row FQ) :
    w.cell? ⟨t, 0, none⟩ = some (.pointer (some ⟨q, 0, none⟩)) ∧ w.cell? ⟨t, 1, none⟩ = some (.int .i64 win) ∧ w.cell? ⟨t, 2, none⟩ = some v := ⟨cell_of_row _ _ 0 _ _ _ h.hd, cell_of_row _ _ 1 _ _ _ h.hd, cell_of_row _ _ 2 _ _ _ h.hd⟩
theorem dtnew_any (win most : Int) (w : World) (hm : 1 ≤ most ∧ most ≤ 1024) (hw : 1 ≤ win ∧ win ≤ 1024) :
    Calls Tryz.prog 30 #[.int .i64 win, .int .i64 most] w fun e w' => ∃ t F, e = .returned (.pointer (some ⟨t, 0, none⟩)) ∧ DTRep w' t win most OT.new F ∧ Upd [] F w w' := by
  obtain ⟨h1, h2⟩ := hw
  have h1' : ¬ win < 1 := by omega
  have h2' : ¬ 1024 < win := by omega
  go_enter Tryz.func30, Tryz.ntmps30
  go_wp2_with fail
  refine (rnew_any most w hm).mono ?_
  rintro e w1 ⟨g, rfl, hr, hu⟩
  have HR := Lib.hid hr
  have HU := Lib.hid hu
  clear hr hu
  go_wp2_with fail
  go_ret
  have hb := low_alloc w1 (.cells #[.pointer (some ⟨g, 0, none⟩), .int .i64 win, .slice none 0 0] 114)
  have hgl := HR.out.lt g (by simp)
  have hs := HU.out.1.size
  refine ⟨w1.heap.size, _, rfl, ⟨g, .slice none 0 0, [g], ⟨heap_alloc_new w1 _, HR.out.below hb, World.ownsRow_nil _ _ _ _, by simp; omega, by simp [Value.ownBlock], fun k _ => by simp [Value.ownBlock]⟩, RowOk.nil (by omega), by omega, by omega, by simp [WaitOk, OT.new], rfl⟩, (HU.out.next hb).1, fun k hk => ?_⟩
  rcases mem_dtFoot.1 hk with rfl | hk | hk
  · exact .inr hs
  · exact HU.out.2 k hk
  · simp [Value.ownBlock] at hk
theorem dtnew_bad (win most : Int) (w : World) (hm : most < 1 ∨ 1024 < most ∨ win < 1 ∨ 1024 < win) :
    Calls Tryz.prog 30 #[.int .i64 win, .int .i64 most] w fun e w' => e = .returned (.pointer none) ∧ Below w.heap.size w w' := by
  by_cases hm1 : most < 1 ∨ 1024 < most
  · have HN := Lib.hid (rnew_out most w hm1)
    clear hm hm1
    go_enter Tryz.func30, Tryz.ntmps30
    go_wp2_with fail
    refine HN.out.mono ?_
    rintro e w1 ⟨rfl, rfl⟩
    go_wp2_with fail
    go_ret
    exact ⟨rfl, Below.refl _ _⟩
  · have HN := Lib.hid (rnew_any most w (by omega))
    by_cases h1 : win < 1
    · clear hm hm1
      go_enter Tryz.func30, Tryz.ntmps30
      go_wp2_with fail
      refine HN.out.mono ?_
      rintro e w1 ⟨g, rfl, -, hu⟩
      have HB : Hid (Below w.heap.size w w1) := Lib.hid (hu.1.below (Nat.le_refl _) (by simp))
      clear hu
      go_wp2_with fail
      go_ret
      exact ⟨rfl, HB.out⟩
    · have h2 : 1024 < win := by omega
      clear hm hm1
      go_enter Tryz.func30, Tryz.ntmps30
      go_wp2_with fail
      refine HN.out.mono ?_
      rintro e w1 ⟨g, rfl, -, hu⟩
      have HB : Hid (Below w.heap.size w w1) := Lib.hid (hu.1.below (Nat.le_refl _) (by simp))
      clear hu
      go_wp2_with fail
      go_ret
      exact ⟨rfl, HB.out⟩
theorem built_one (m : Msg) (id : Int) : Tryz.prog.built 37 [(0, .int .u8 3), (5, .string m.t), (6, .string m.p), (2, .int .u8 m.q), (3, .bool m.r), (4, .int .u16 id)] = some (pubK m id false).cells.toArray := by
  obtain ⟨t, p, q, r⟩ := m
  kernel_rfl
set_option maxRecDepth 100000 in
theorem one13_any (m : Msg) (id : Int) (w : World) : Calls Tryz.prog 75 #[m.val, .int .u16 id] w fun e w' => e = .returned (.agg (pubK m id false).cells.toArray) ∧ Below w.heap.size w w' := by
  have HB := Lib.hid (fun o => (low_alloc w (.cells m.cells.toArray 34)).alloc (by simp) o)
  have HRO := Lib.hid (fun o => (by
    have h9 := heap_alloc_new (w.alloc (.cells m.cells.toArray 34)) o
    rwa [World.size_alloc] at h9 : ((w.alloc (.cells m.cells.toArray 34)).alloc o).heap[w.heap.size + 1]? = some o))
  have hm := heap_alloc_new w (.cells m.cells.toArray 34)
  have HBU := Lib.hid (fun (_ : Unit) => built_one m id)
  have g0 := fun o => ((low_alloc (w.alloc (.cells m.cells.toArray 34)) o).cell (p := ⟨w.heap.size, 0, none⟩) (by simp)).trans (cell_of_row _ _ 0 _ _ _ hm)
  have g1 := fun o => ((low_alloc (w.alloc (.cells m.cells.toArray 34)) o).cell (p := ⟨w.heap.size, 1, none⟩) (by simp)).trans (cell_of_row _ _ 1 _ _ _ hm)
  have g2 := fun o => ((low_alloc (w.alloc (.cells m.cells.toArray 34)) o).cell (p := ⟨w.heap.size, 2, none⟩) (by simp)).trans (cell_of_row _ _ 2 _ _ _ hm)
  have g3 := fun o => ((low_alloc (w.alloc (.cells m.cells.toArray 34)) o).cell (p := ⟨w.heap.size, 3, none⟩) (by simp)).trans (cell_of_row _ _ 3 _ _ _ hm)
  simp only [Msg.cells, List.getElem?_toArray, List.getElem?_cons_zero, List.getElem?_cons_succ] at g0 g1 g2 g3
  have HFS := Lib.hid (pk_size (pubK m id false))
  have HF1 := Lib.hid (pk_one (pubK m id false))
  have H24 : Hid ((24 : Nat) = (pubK m id false).cells.toArray.size) := Lib.hid rfl
  generalize (pubK m id false).cells.toArray = YC at *
  clear hm
  unfold Msg.val
  go_enter Tryz.func75, Tryz.ntmps75
  go_wp2_with (first
    | (refine wpList_buildBy rfl 37 _ rfl _ rfl YC [(0, .int .u8 3), (5, .string m.t), (6, .string m.p), (2, .int .u8 m.q), (3, .bool m.r), (4, .int .u16 id)] (by kernel_rfl) (HBU.out ()) ?_)
    | (refine wpList_store_rowTo rfl 37 _ _ rfl rfl (w.heap.size + 1) YC rfl rfl 37 _ (HRO.out _) HFS.out H24.out HF1.out ?_)
    | fail)
  refine bodyPost_ret (results_cell_row rfl _ _ (w.heap.size + 1) 37 YC (0, 0) _ rfl (setRow_heap _ _ _ _ _ _ (HRO.out _)) Tryz.underlying37 rfl HFS.out) rfl ⟨rfl, ?_⟩
  exact setRow_low (HB.out _) (by omega) _
theorem dflight_any (t : Nat) (win most : Int) (o : OT) (F : List Nat) (w : World) (h : DTRep w t win most o F) : Calls Tryz.prog 51 #[.pointer (some ⟨t, 0, none⟩)] w fun e w' => e = .returned (.int .i64 o.row.length) ∧ w = w' := by
  obtain ⟨q, v, FQ, h, -⟩ := h
  obtain ⟨-, -, c2⟩ := h.cells
  obtain ⟨a, cap, rfl, -, -, -⟩ := ownsRow_row h.own
  clear h
  go_enter Tryz.func51, Tryz.ntmps51
  go_wp2_with fail
  go_ret
  exact ⟨rfl, rfl⟩
theorem dwaits_any (t : Nat) (win most : Int) (o : OT) (F : List Nat) (w : World) (h : DTRep w t win most o F) : Calls Tryz.prog 52 #[.pointer (some ⟨t, 0, none⟩)] w fun e w' => e = .returned (.int .i64 o.wait.length) ∧ w = w' := by
  obtain ⟨q, v, FQ, h, -⟩ := h
  obtain ⟨c0, -, -⟩ := h.cells
  obtain ⟨qv, hq, hqo, -⟩ := h.queue
  obtain ⟨a, cap, rfl, -, -, -⟩ := ownsRow_row hqo
  obtain ⟨d0, -⟩ := cells2 hq
  clear h hq hqo
  go_enter Tryz.func52, Tryz.ntmps52
  go_wp2_with fail
  go_ret
  exact ⟨rfl, rfl⟩
theorem dtreset_any (t : Nat) (win most : Int) (o : OT) (F : List Nat) (w : World) (h : DTRep w t win most o F) : Calls Tryz.prog 70 #[.pointer (some ⟨t, 0, none⟩)] w fun e w' => e = .returned (.tuple #[]) ∧ ∃ F', DTRep w' t win most OT.new F' ∧ Upd F F' w w' := by
  obtain ⟨q, v, FQ, h, hr, hw1, hw2, hwk, rfl⟩ := h
  obtain ⟨c0, -, c2⟩ := h.cells
  obtain ⟨qv, hq, hqo, q1, q2, q3, q4, hFQ⟩ := h.queue
  obtain ⟨d0, -⟩ := cells2 hq
  have f0 := frozen_of_row _ q 0 _ _ hq
  have hqF : q ∈ FQ := by rw [hFQ]; simp
  have hqt : q ≠ t := fun e => h.tq (e ▸ hqF)
  have s1 := heap_setCell_same w q 0 _ _ (.slice none 0 0) hq
  have hm1 : Mod FQ w (w.setCell ⟨q, 0, none⟩ (.slice none 0 0)) := (Mod.refl _ _).setCell (.inl hqF) _
  have hrq : RRep (w.setCell ⟨q, 0, none⟩ (.slice none 0 0)) q [] most [q] := ⟨.slice none 0 0, by simpa using s1, World.ownsRow_nil _ _ _ _, by simp; omega, q2, q3, by simp [Value.ownBlock], rfl⟩
  obtain ⟨h1, hu1⟩ := h.turnQ hrq ⟨hm1, fun k hk => .inl (by rw [List.mem_singleton.1 hk]; exact hqF)⟩
  have f2 := frozen_of_row _ t 2 _ _ h1.hd
  obtain ⟨-, -, e2⟩ := h1.cells
  have s2 := heap_setCell_same _ t 2 _ _ (.slice none 0 0) h1.hd
  have hm2 : Mod (t :: v.ownBlock.toList) (w.setCell ⟨q, 0, none⟩ (.slice none 0 0)) ((w.setCell ⟨q, 0, none⟩ (.slice none 0 0)).setCell ⟨t, 2, none⟩ (.slice none 0 0)) := (Mod.refl _ _).setCell (.inl (by simp)) _
  obtain ⟨h2, hu2⟩ := h1.turnR (row' := []) (v' := .slice none 0 0) hm2 (by simpa using s2) (World.ownsRow_nil _ _ _ _) (by simp [Value.ownBlock])
  have H2 := Lib.hid h2
  have HU2 := Lib.hid (hu1.trans' hu2)
  clear h h1 h2 hu1 hu2 hrq hm1 hm2 s1 s2 hq hqo hr hwk hFQ hqF
  go_enter Tryz.func70, Tryz.ntmps70
  go_wp2_with fail
  go_end0
  exact ⟨rfl, _, ⟨q, .slice none 0 0, [q], H2.out, RowOk.nil (by omega), by omega, by omega, by simp [WaitOk, OT.new], rfl⟩, HU2.out⟩
end
section
open Go Go.RowKit

/-- 'append(s, l...)' of any row -/
theorem wpList_spread {P : Program} {t e : TypeId} {z : Value} {size bytes : Nat} {m : Nat} (E : ElemT P t e z size bytes) {w0 w : World} {B : Nat} {v : Value} {n : Nat} {xs : List Value} (hown : w.ownsRow B e size v n xs) (hb : Below B w0 w) (hB0 : B ≤ w0.heap.size)
    {ad : Option Addr} {ys : List Value} {c : Nat} (hrow : Row w ad ys)
    {ops : Array Oper} {rest : List Oper} {o : Oper} {a : Act} {Q : Exit → Act → World → Prop} {s x : Operand} (hgd : o.guard = none)
    (ho : o.op = .call { callee := .builtin .append, args := #[s, x], argTypes := #[t, t] }) (hs : a.eval s = v) (hx : a.eval x = .slice ad m c) (d : Option Tmp) (hd : o.dst = d)
    (hc : ys.length = m * size) (h1 : ∀ u ∈ ys, u.oneCell' = true) (hbytes : (n + m) * bytes ≤ 140737488355328) (hn : n + m < 140737488355328)
    (h : ∀ v' w', w'.ownsRow B e size v' (n + m) (xs ++ ys) → Below B w0 w' → w.grownBy w' v.ownBlock → wpList P ops Q rest (a.put d v') w') : wpList P ops Q (o :: rest) a w := by
  subst hd
  exact wpList_step fun K hK => step_spread' E hown hb hB0 hrow hgd ho hs hx hc h1 hbytes hn fun v' w' r1 r2 r3 => hK _ _ (h v' w' r1 r2 r3)
theorem ownsRow_lowF {w w' : World} {B : Nat} {e : TypeId} {size n : Nat} {v : Value} {xs : List Value} (h : w.ownsRow B e size v n xs) (hb : Below w.heap.size w w') : w'.ownsRow B e size v n xs :=
  ownsRow_local h fun k hk => hb.block k (h.lt k hk).2
def idcV (l : List Nat) : List Value := l.map fun (x : Nat) => Value.int .u16 (x : Int)
theorem idcV_len (l : List Nat) : (idcV l).length = l.length := by simp [idcV]
theorem idcV_one (l : List Nat) : ∀ u ∈ idcV l, u.oneCell' = true := by
  intro u hu
  obtain ⟨x, -, rfl⟩ := List.mem_map.1 hu
  rfl
theorem idcV_row {w : World} {a : Option Addr} {l : List Nat} (h : Row w a (idcV l)) {k : Nat} (hk : k < l.length) : ∃ b o, a = some ⟨b, o, none⟩ ∧ w.cell? ⟨b, o + k, none⟩ = some (.int .u16 (l[k] : Nat)) :=
  h.at (by simp [idcV, hk])
set_option maxRecDepth 100000 in
set_option maxHeartbeats 2000000 in
theorem ptake_any (p : Nat) (v : Value) (l : List Nat) (w : World) (B : Nat) (hB : B ≤ p) (hp : w.heap[p]? = some (.cells #[v] 153 (0, 0))) (hown : w.ownsRow B 32 1 v l.length (idcV l)) (hl : l.length ≤ 1024) (hs : l.Pairwise (· < ·)) (h1 : ∀ x ∈ l, 1 ≤ x ∧ x ≤ 65535) :
    Calls Tryz.prog 113 #[.pointer (some ⟨p, 0, none⟩)] w fun e w' => e = .returned (.tuple #[.int .u16 (leastFree l : Nat), .int .i64 0]) ∧ Below B w w' := by
  obtain ⟨a, c, rfl, hrow, hnc, hcm⟩ := ownsRow_row hown
  have hp0 := cell_of_row _ _ 0 _ _ _ hp
  have hpl := (Array.getElem?_eq_some_iff.1 hp).1
  have hBw : B ≤ w.heap.size := by omega
  have HROW := Lib.hid hrow
  have HP := Lib.hid hp
  have HS := Lib.hid hs
  have H1 := Lib.hid h1
  have h65 : ((l.length : Int) == 65535) = false := by rw [beq_eq_false_iff_ne]; omega
  clear hrow hp hs h1 hown
  go_enter Tryz.func113, Tryz.ntmps113
  go_wp2_with fail
  go_loopw [4] (fun i wr => ∃ k : Nat, i = .int .i64 k ∧ k ≤ l.length ∧ Below w.heap.size w wr ∧ ∀ j (hj : j < k) (hjl : j < l.length), l[j] = j + 1) (fun i _ => (l.length - intOf i).toNat)
  case atStart => exact ⟨0, rfl, by omega, Below.refl _ _, fun j hj => absurd hj (Nat.not_lt_zero j)⟩
  case round =>
    obtain ⟨k, rfl, hk, hbr, hlj⟩ := hrel
    have HROWR := Lib.hid (HROW.out.below hbr (Nat.le_refl _))
    have HPR := Lib.hid ((hbr.block p hpl).trans HP.out)
    have hp1 := cell_of_row _ _ 0 _ _ _ HPR.out
    have HPLR : Hid (p < wr.heap.size) := Lib.hid (Array.getElem?_eq_some_iff.1 HPR.out).1
    have HBR := Lib.hid hbr
    have HBW := Lib.hid (hbr.mono hBw)
    have HBWR : Hid (B ≤ wr.heap.size) := Lib.hid (Nat.le_trans hBw hbr.size)
    clear hbr hp0
    have HLJ := Lib.hid hlj
    clear hlj h65
    by_cases hlt : k < l.length
    · have hk0 : (0 : Int) ≤ k := by omega
      have hkl : (k : Int) < l.length := by omega
      obtain ⟨b, o, rfl, e0⟩ := idcV_row HROWR.out hlt
      by_cases he : l[k] = k + 1
      · have HE := Lib.hid he
        have e1 : wr.cell? ⟨b, o + k, none⟩ = some (.int .u16 ((k : Int) + 1)) := by rw [e0, he]; rfl
        have hw1 : IntKind.i64.wrap ((k : Int) + 1) = (k : Int) + 1 := w_i64 _ (by omega) (by omega)
        clear e0 he
        go_wp2_with fail
        go_roundw
        case rel => exact ⟨k + 1, by go_num, by omega, HBR.out, fun j hj hjl => by
          rcases Nat.lt_succ_iff_lt_or_eq.1 hj with h | rfl
          · exact HLJ.out j h hjl
          · exact HE.out⟩
        case measure => simp [intOf]; omega
      · have HLF : Hid (leastFree l = k + 1) := Lib.hid (least_sorted HS.out (fun x hx => (H1.out x hx).1) hk (fun j hj => HLJ.out j hj (by omega)) fun _ => he)
        obtain ⟨y, hy⟩ : ∃ y, l[k] = y := ⟨_, rfl⟩
        rw [hy] at he e0
        have hne : ((y : Int) == (k : Int) + 1) = false := by rw [beq_eq_false_iff_ne]; omega
        have hy2 : y ≤ 65535 := by rw [← hy]; exact (H1.out _ (List.getElem_mem hlt)).2
        have hwy : IntKind.i64.wrap (y : Int) = (y : Int) := w_i64 _ (by omega) (by omega)
        clear he hy hy2
        go_upto_region 6 with fail
        clear e0 hne hkl hlt hk0 hwy
        generalize (some (⟨b, o, none⟩ : Addr)) = a at *
        have hkn : k ≤ l.length := hk
        have hck : l.length ≤ c := hnc
        obtain ⟨⟨s1, hs1, hr1⟩, s2, hs2, hr2⟩ := slice_run Tryz.underlying46 (sz := 1) (by kernel_rfl) a l.length c k hkn hck
        have HR1 := Lib.hid (hr1 wr _ HROWR.out)
        have HR2 := Lib.hid (hr2 wr _ HROWR.out (by rw [idcV_len]; omega))
        have HL1 : Hid (((idcV l).take (k * 1)).length = k * 1) := Lib.hid (by rw [List.length_take, idcV_len]; omega)
        have HL2 : Hid (((idcV l).drop (k * 1)).length = (l.length - k) * 1) := Lib.hid (by rw [List.length_drop, idcV_len]; omega)
        have HO1 : Hid (∀ u ∈ (idcV l).take (k * 1), u.oneCell' = true) := Lib.hid (fun u hu => idcV_one l u (List.mem_of_mem_take hu))
        have HO2 : Hid (∀ u ∈ (idcV l).drop (k * 1), u.oneCell' = true) := Lib.hid (fun u hu => idcV_one l u (List.mem_of_mem_drop hu))
        have HOL : Hid (∀ u ∈ [Value.int .u16 ((k : Int) + 1)], u.oneCell' = true) := Lib.hid (fun u hu => by rw [List.mem_singleton.1 hu]; rfl)
        have hw1 : IntKind.i64.wrap ((k : Int) + 1) = (k : Int) + 1 := w_i64 _ (by omega) (by omega)
        have hw2 : IntKind.u16.wrap ((k : Int) + 1) = (k : Int) + 1 := by simp [IntKind.wrap, IntKind.bits, IntKind.signed]; omega
        clear hr1 hr2
        go_upto_region 8 with (first
          | (at_builtin; refine wpList_spread (m := k) (w0 := wr) (B := wr.heap.size) T_u16 (World.ownsRow_nil wr _ _ _) (Below.refl _ _) (Nat.le_refl _) HR1.out rfl rfl rfl rfl _ rfl HL1.out HO1.out (by omega) (by omega) ?_; intro v2 w2 hown2 hb2 hg2)
          | fail)
        clear hg2
        have HB2 := Lib.hid hb2
        have HP2 := Lib.hid ((hb2.block p HPLR.out).trans HPR.out)
        have hlow : Below wr.heap.size wr (w2.alloc (.cells #[.int .u16 ((k : Int) + 1)] 32)) := hb2.alloc hb2.size _
        have HLIT := Lib.hid (row_new w2 [.int .u16 ((k : Int) + 1)] 32)
        have HOW2 := Lib.hid (ownsRow_lowF hown2 (low_alloc w2 (.cells #[.int .u16 ((k : Int) + 1)] 32)))
        have HLOW := Lib.hid hlow
        clear hb2 hown2 hlow
        go_upto_region 9 with (first
          | (at_builtin; refine wpList_spread (m := 1) (w0 := wr) (B := wr.heap.size) T_u16 HOW2.out HLOW.out (Nat.le_refl _) HLIT.out rfl rfl rfl rfl _ rfl rfl HOL.out (by omega) (by omega) ?_; intro v3 w3 hown3 hb3 hg3)
          | fail)
        clear hg3
        have HB3 := Lib.hid hb3
        have HP3 := (hb3.block p HPLR.out).trans HPR.out
        have hp3 := cell_of_row _ _ 0 _ _ _ HP3
        have HR3 := Lib.hid (HR2.out.below hb3 (Nat.le_refl _))
        have HOW3 := Lib.hid hown3
        replace HP3 := Lib.hid HP3
        clear hb3 hown3
        go_upto_region 10 with (first
          | (at_builtin; refine wpList_spread (m := l.length - k) (w0 := wr) (B := wr.heap.size) T_u16 HOW3.out HB3.out (Nat.le_refl _) HR3.out rfl rfl rfl rfl _ rfl HL2.out HO2.out (by omega) (by omega) ?_; intro v4 w4 hown4 hb4 hg4; obtain ⟨a4, c4, rfl, -, -, -⟩ := ownsRow_row hown4; have f4 := frozen_of_row _ _ 0 _ _ ((hb4.block p HPLR.out).trans HPR.out); have p4 := cell_of_row _ _ 0 _ _ _ ((hb4.block p HPLR.out).trans HPR.out))
          | fail)
        go_wp2_with fail
        go_ret2
        refine ⟨by rw [HLF.out]; rfl, ?_⟩
        exact (HBW.out.trans (hb4.mono HBWR.out)).setCell (p := ⟨p, 0, none⟩) hB _
    · have HLF : Hid (leastFree l = k + 1) := Lib.hid (least_sorted HS.out (fun x hx => (H1.out x hx).1) hk (fun j hj => HLJ.out j hj (by omega)) fun h => absurd h hlt)
      have hkl : ¬ (k : Int) < l.length := by omega
      go_upto_region 6 with fail
      clear hkl hlt
      have hkn : k ≤ l.length := hk
      have hck : l.length ≤ c := hnc
      obtain ⟨⟨s1, hs1, hr1⟩, s2, hs2, hr2⟩ := slice_run Tryz.underlying46 (sz := 1) (by kernel_rfl) a l.length c k hkn hck
      have HR1 := Lib.hid (hr1 wr _ HROWR.out)
      have HR2 := Lib.hid (hr2 wr _ HROWR.out (by rw [idcV_len]; omega))
      have HL1 : Hid (((idcV l).take (k * 1)).length = k * 1) := Lib.hid (by rw [List.length_take, idcV_len]; omega)
      have HL2 : Hid (((idcV l).drop (k * 1)).length = (l.length - k) * 1) := Lib.hid (by rw [List.length_drop, idcV_len]; omega)
      have HO1 : Hid (∀ u ∈ (idcV l).take (k * 1), u.oneCell' = true) := Lib.hid (fun u hu => idcV_one l u (List.mem_of_mem_take hu))
      have HO2 : Hid (∀ u ∈ (idcV l).drop (k * 1), u.oneCell' = true) := Lib.hid (fun u hu => idcV_one l u (List.mem_of_mem_drop hu))
      have HOL : Hid (∀ u ∈ [Value.int .u16 ((k : Int) + 1)], u.oneCell' = true) := Lib.hid (fun u hu => by rw [List.mem_singleton.1 hu]; rfl)
      have hw1 : IntKind.i64.wrap ((k : Int) + 1) = (k : Int) + 1 := w_i64 _ (by omega) (by omega)
      have hw2 : IntKind.u16.wrap ((k : Int) + 1) = (k : Int) + 1 := by simp [IntKind.wrap, IntKind.bits, IntKind.signed]; omega
      clear hr1 hr2
      go_upto_region 8 with (first
        | (at_builtin; refine wpList_spread (m := k) (w0 := wr) (B := wr.heap.size) T_u16 (World.ownsRow_nil wr _ _ _) (Below.refl _ _) (Nat.le_refl _) HR1.out rfl rfl rfl rfl _ rfl HL1.out HO1.out (by omega) (by omega) ?_; intro v2 w2 hown2 hb2 hg2)
        | fail)
      clear hg2
      have HB2 := Lib.hid hb2
      have HP2 := Lib.hid ((hb2.block p HPLR.out).trans HPR.out)
      have hlow : Below wr.heap.size wr (w2.alloc (.cells #[.int .u16 ((k : Int) + 1)] 32)) := hb2.alloc hb2.size _
      have HLIT := Lib.hid (row_new w2 [.int .u16 ((k : Int) + 1)] 32)
      have HOW2 := Lib.hid (ownsRow_lowF hown2 (low_alloc w2 (.cells #[.int .u16 ((k : Int) + 1)] 32)))
      have HLOW := Lib.hid hlow
      clear hb2 hown2 hlow
      go_upto_region 9 with (first
        | (at_builtin; refine wpList_spread (m := 1) (w0 := wr) (B := wr.heap.size) T_u16 HOW2.out HLOW.out (Nat.le_refl _) HLIT.out rfl rfl rfl rfl _ rfl rfl HOL.out (by omega) (by omega) ?_; intro v3 w3 hown3 hb3 hg3)
        | fail)
      clear hg3
      have HB3 := Lib.hid hb3
      have HP3 := (hb3.block p HPLR.out).trans HPR.out
      have hp3 := cell_of_row _ _ 0 _ _ _ HP3
      have HR3 := Lib.hid (HR2.out.below hb3 (Nat.le_refl _))
      have HOW3 := Lib.hid hown3
      replace HP3 := Lib.hid HP3
      clear hb3 hown3
      go_upto_region 10 with (first
        | (at_builtin; refine wpList_spread (m := l.length - k) (w0 := wr) (B := wr.heap.size) T_u16 HOW3.out HB3.out (Nat.le_refl _) HR3.out rfl rfl rfl rfl _ rfl HL2.out HO2.out (by omega) (by omega) ?_; intro v4 w4 hown4 hb4 hg4; obtain ⟨a4, c4, rfl, -, -, -⟩ := ownsRow_row hown4; have f4 := frozen_of_row _ _ 0 _ _ ((hb4.block p HPLR.out).trans HPR.out); have p4 := cell_of_row _ _ 0 _ _ _ ((hb4.block p HPLR.out).trans HPR.out))
        | fail)
      go_wp2_with fail
      go_ret2
      refine ⟨by rw [HLF.out]; rfl, ?_⟩
      exact (HBW.out.trans (hb4.mono HBWR.out)).setCell (p := ⟨p, 0, none⟩) hB _
end
section
open Go Go.RowKit

def LkN (S : List Nat) (x k : Nat) : List Nat := S.take k ++ x :: S.drop k
theorem lk_len {S : List Nat} {x k : Nat} (hk : k ≤ S.length) : (LkN S x k).length = S.length + 1 := by
  simp [LkN]; omega
theorem lk_x {S : List Nat} {x k : Nat} (hk : k ≤ S.length) : (LkN S x k)[k]? = some x := by
  unfold LkN
  rw [List.getElem?_append_right (by simp; omega)]
  simp [Nat.min_eq_left hk]
theorem lk_prev {S : List Nat} {x j : Nat} (hj : j < S.length) : (LkN S x (j + 1))[j]? = some S[j] := by
  unfold LkN
  rw [List.getElem?_append_left (by simp; omega), List.getElem?_take, if_pos (by omega), List.getElem?_eq_getElem hj]
theorem lk_swap {S : List Nat} {x j : Nat} (hj : j < S.length) : ((LkN S x (j + 1)).set j x).set (j + 1) S[j] = LkN S x j := by
  have hA : (S.take j).length = j := by simp; omega
  have h1 : LkN S x (j + 1) = S.take j ++ S[j] :: x :: S.drop (j + 1) := by
    unfold LkN
    rw [List.take_succ_eq_append_getElem hj, List.append_assoc]
    rfl
  have h2 : LkN S x j = S.take j ++ x :: S[j] :: S.drop (j + 1) := by
    unfold LkN
    rw [List.drop_eq_getElem_cons hj]
  rw [h1, h2, List.set_append_right _ _ (by omega), hA, Nat.sub_self, List.set_cons_zero, List.set_append_right _ _ (by omega), hA, Nat.add_sub_cancel_left]
  rfl
theorem lk_full (S : List Nat) (x : Nat) : LkN S x S.length = S ++ [x] := by simp [LkN]
theorem lk_mem {S : List Nat} {x k y : Nat} : y ∈ LkN S x k ↔ y = x ∨ y ∈ S := by
  unfold LkN
  constructor
  · intro h
    rcases List.mem_append.1 h with h | h
    · exact .inr (List.mem_of_mem_take h)
    · rcases List.mem_cons.1 h with h | h
      · exact .inl h
      · exact .inr (List.mem_of_mem_drop h)
  · rintro (rfl | h)
    · simp
    · rw [← List.take_append_drop k S] at h
      rcases List.mem_append.1 h with h | h
      · exact List.mem_append_left _ h
      · exact List.mem_append_right _ (List.mem_cons_of_mem _ h)
theorem lk_sorted {S : List Nat} {x k : Nat} (hS : S.Pairwise (· < ·)) (hd : ∀ d ∈ S.drop k, x < d) (ha : ∀ a ∈ S.take k, a < x) : (LkN S x k).Pairwise (· < ·) := by
  unfold LkN
  refine List.pairwise_append.2 ⟨hS.sublist (List.take_sublist ..), List.pairwise_cons.2 ⟨hd, hS.sublist (List.drop_sublist ..)⟩, fun a h b hb => ?_⟩
  rcases List.mem_cons.1 hb with rfl | hb
  · exact ha a h
  · exact Nat.lt_trans (ha a h) (hd b hb)
theorem take_lt {S : List Nat} {x j : Nat} (hS : S.Pairwise (· < ·)) (hj : j < S.length) (h : S[j] < x) : ∀ a ∈ S.take (j + 1), a < x := by
  intro a ha
  obtain ⟨i, hi, rfl⟩ := List.mem_iff_getElem.1 ha
  rw [List.getElem_take]
  have hi2 : i < j + 1 := by have := hi; simp at this; omega
  rcases Nat.lt_succ_iff_lt_or_eq.1 hi2 with h1 | rfl
  · exact Nat.lt_trans (List.pairwise_iff_getElem.1 hS i j (by omega) hj h1) h
  · exact h
/-- the ids' pool that free makes: a block, and a row of its own -/
structure FreeS (w0 w : World) (pb : Nat) (v : Value) (L : List Nat) : Prop where
  bel : Below w0.heap.size w0 w
  hd : w.heap[pb]? = some (.cells #[v] 153 (0, 0))
  own : w.ownsRow 0 32 1 v L.length (idcV L)
  low : ∀ b, v.ownBlock = some b → w0.heap.size ≤ b
  off : v.ownBlock ≠ some pb
  pbg : w0.heap.size ≤ pb
theorem own_high {w : World} {B : Nat} {e : TypeId} {size n : Nat} {v : Value} {xs : List Value} (h : w.ownsRow 0 e size v n xs) (hl : ∀ b, v.ownBlock = some b → B ≤ b) : w.ownsRow B e size v n xs := by
  refine ⟨h.1, ?_⟩
  rcases h.2 with hn | ⟨b, cap, cur, hv, -, r⟩
  · exact .inl hn
  · exact .inr ⟨b, cap, cur, hv, hl b (by rw [hv]; rfl), r⟩
theorem FreeS.below {w0 w w' : World} {pb : Nat} {v : Value} {L : List Nat} (h : FreeS w0 w pb v L) (hb : Below w.heap.size w w') : FreeS w0 w' pb v L :=
  ⟨h.bel.trans (hb.mono h.bel.size), (hb.block pb (Array.getElem?_eq_some_iff.1 h.hd).1).trans h.hd, ownsRow_lowF h.own hb, h.low, h.off, h.pbg⟩
/-- an id is appended, and the row is stored -/
theorem FreeS.grow {w0 w w1 w2 : World} {pb : Nat} {v v' : Value} {L : List Nat} {x : Nat} (h : FreeS w0 w pb v L) (hb : Below w.heap.size w w1) (ho : w2.ownsRow 0 32 1 v' (L.length + 1) (idcV L ++ [.int .u16 (x : Int)])) (hg : w1.grownBy w2 v.ownBlock)
    (hv : ∀ b, v'.ownBlock = some b → v.ownBlock = some b ∨ w.heap.size ≤ b) : Mod v.ownBlock.toList w w2 ∧ w2.cell? ⟨pb, 0, none⟩ = some v ∧ w2.frozen? ⟨pb, 0, none⟩ = false ∧ FreeS w0 (w2.setCell ⟨pb, 0, none⟩ v') pb v' (L ++ [x]) := by
  have hpl := (Array.getElem?_eq_some_iff.1 h.hd).1
  have hm : Mod v.ownBlock.toList w w2 := (Mod.of_below hb _).grown hg fun j hj => .inl (Option.mem_toList.2 hj)
  have h2 := (hm.block pb hpl fun hk => h.off (Option.mem_toList.1 hk)).trans h.hd
  have hoff : v'.ownBlock ≠ some pb := fun e => by
    rcases hv pb e with h1 | h1
    · exact h.off h1
    · omega
  have hb2 : Below w0.heap.size w0 w2 := h.bel.trans (hm.below h.bel.size fun k hk => h.low k (Option.mem_toList.1 hk))
  refine ⟨hm, cell_of_row _ _ 0 _ _ _ h2, frozen_of_row _ _ 0 _ _ h2, hb2.setCell h.pbg _, by simpa using heap_setCell_same w2 pb 0 _ _ v' h2, ?_, fun b e => ?_, hoff, h.pbg⟩
  · rw [List.length_append, show idcV (L ++ [x]) = idcV L ++ [.int .u16 (x : Int)] by simp [idcV]]
    exact ownsRow_setCell_other ho (by simpa using hoff) _
  · rcases hv b e with h1 | h1
    · exact h.low b h1
    · exact Nat.le_trans h.bel.size h1
theorem idc_set (L : List Nat) (j x : Nat) : (idcV L).set j (.int .u16 (x : Int)) = idcV (L.set j x) := by
  unfold idcV
  rw [List.map_set]
/-- two ids are exchanged -/
theorem FreeS.swap {w0 w : World} {pb g n c : Nat} {L : List Nat} (h : FreeS w0 w pb (.slice (some ⟨g, 0, none⟩) n c) L) (i j x y : Nat) :
    FreeS w0 ((w.setCell ⟨g, i, none⟩ (.int .u16 (x : Int))).setCell ⟨g, j, none⟩ (.int .u16 (y : Int))) pb (.slice (some ⟨g, 0, none⟩) n c) ((L.set i x).set j y) := by
  have hn : n = L.length := by
    rcases h.own.2 with ⟨h2, -⟩ | ⟨g', c', cur, e, -⟩
    · cases h2
    · exact (Value.slice.inj e).2.1
  subst hn
  have hgp : g ≠ pb := fun e => h.off (by rw [← e]; rfl)
  have hlg := h.low g rfl
  have h1 := ownsRow_set (ownsRow_set h.own i (.int .u16 (x : Int))) j (.int .u16 (y : Int))
  rw [idc_set, idc_set] at h1
  exact ⟨(h.bel.setCell (p := ⟨g, i, none⟩) hlg _).setCell (p := ⟨g, j, none⟩) hlg _, ((heap_setCell_other _ _ _ _ hgp.symm).trans (heap_setCell_other _ _ _ _ hgp.symm)).trans h.hd, by simpa using h1, h.low, h.off, h.pbg⟩
theorem pnew11 (w : World) : Calls Tryz.prog 112 #[] w fun e w' => ∃ pb, e = .returned (.pointer (some ⟨pb, 0, none⟩)) ∧ FreeS w w' pb (.slice none 0 0) [] := by
  go_enter Tryz.func112, Tryz.ntmps112
  go_wp2_with fail
  go_ret
  exact ⟨_, rfl, low_alloc _ _, heap_alloc_new _ _, World.ownsRow_nil _ _ _ _, by simp [Value.ownBlock], by simp [Value.ownBlock], Nat.le_refl _⟩
end
section
open Go Go.RowKit

set_option maxRecDepth 100000 in
set_option maxHeartbeats 4000000 in
theorem dfree_any (t : Nat) (win most : Int) (o : OT) (F : List Nat) (w : World) (h : DTRep w t win most o F) :
    Calls Tryz.prog 82 #[.pointer (some ⟨t, 0, none⟩)] w fun e w' => e = .returned (.int .u16 (leastFree (idsOf o.row) : Nat)) ∧ Below w.heap.size w w' := by
  obtain ⟨q, v0, FQ, hp, hr, hw1, hw2, -, -⟩ := h
  obtain ⟨ra, rc, rfl, hrow0, -, -⟩ := ownsRow_row hp.own
  have hrl : o.row.length ≤ 1024 := by have := hr.len; omega
  have HROW : Hid (∀ X, Below w.heap.size w X → X.cell? ⟨t, 2, none⟩ = some (.slice ra o.row.length rc) ∧ Row X ra (dsV o.row)) := Lib.hid (fun X hX => ⟨(hp.below hX).cells.2.2, hrow0.below hX (Nat.le_refl _)⟩)
  have HR := Lib.hid hr
  have hil : (idsOf o.row).length = o.row.length := by simp [idsOf]
  clear hp hr hrow0
  go_enter Tryz.func82, Tryz.ntmps82
  go_wp2_with fail
  refine (pnew11 w).mono ?_
  rintro e w1 ⟨pb, rfl, hf⟩
  have HF1 := Lib.hid hf
  clear hf
  go_wp2_with fail
  go_loopw [4] (fun iv wr => ∃ (S : List Nat) (v : Value), iv = .int .i64 S.length ∧ S.length ≤ o.row.length ∧ FreeS w wr pb v S ∧ S.Pairwise (· < ·) ∧ ∀ y, y ∈ S ↔ y ∈ (idsOf o.row).take S.length) (fun i _ => (o.row.length - intOf i).toNat)
  case atStart => exact ⟨[], _, rfl, by simp, HF1.out, List.Pairwise.nil, by simp⟩
  case round =>
    obtain ⟨S, v, rfl, hi, hfs, hsort, hmem⟩ := hrel
    have HFS := Lib.hid hfs
    have HSO := Lib.hid hsort
    have HMEM := Lib.hid hmem
    obtain ⟨a, c, rfl, -, -, -⟩ := ownsRow_row hfs.own
    obtain ⟨ct, hrw⟩ := HROW.out _ hfs.bel
    have cp := cell_of_row _ _ 0 _ _ _ hfs.hd
    have HRW := Lib.hid hrw
    clear hfs hsort hmem hrw
    by_cases hlt : S.length < o.row.length
    · have hi0 : (0 : Int) ≤ S.length := by omega
      have hil2 : (S.length : Int) < o.row.length := by omega
      have hw1i : IntKind.i64.wrap ((S.length : Int) + 1) = (S.length : Int) + 1 := w_i64 _ (by omega) (by omega)
      obtain ⟨rb, ro, rfl, -, -, -, -, cid, -⟩ := ds_row HRW.out hlt
      have HTK : Hid ((idsOf o.row).take (S.length + 1) = (idsOf o.row).take S.length ++ [o.row[S.length].id]) := Lib.hid (by
        rw [List.take_succ_eq_append_getElem (by rw [hil]; exact hlt)]
        simp [idsOf])
      have HXN : Hid (o.row[S.length].id ∉ S) := Lib.hid (fun hm => by
        have h1 := (HMEM.out _).1 hm
        have h2 := HR.out.nd
        have h3 : (idsOf o.row).take (S.length + 1) <+: idsOf o.row := List.take_prefix _ _
        have h4 := h2.sublist h3.sublist
        rw [HTK.out, List.nodup_append] at h4
        exact h4.2.2 _ h1 _ (List.mem_singleton.2 rfl) rfl)
      have HID : Hid (∀ X, Below w.heap.size w X → X.cell? ⟨t, 2, none⟩ = some (.slice (some ⟨rb, ro, none⟩) o.row.length rc) ∧ X.cell? ⟨rb, ro + S.length * 6 + 4, none⟩ = some (.int .u16 (o.row[S.length].id : Nat))) := Lib.hid (fun X hX => by
        obtain ⟨ct', hr'⟩ := HROW.out X hX
        obtain ⟨b', o', e, -, -, -, -, c4', -⟩ := ds_row hr' hlt
        cases e
        exact ⟨ct', c4'⟩)
      generalize o.row[S.length].id = x at *
      go_upto_region 6 with fail
      have HSX : Hid (∀ X, Below wr.heap.size wr X → X.cell? ⟨pb, 0, none⟩ = some (.slice a S.length c) ∧ X.cell? ⟨t, 2, none⟩ = some (.slice (some ⟨rb, ro, none⟩) o.row.length rc) ∧ X.cell? ⟨rb, ro + S.length * 6 + 4, none⟩ = some (.int .u16 (x : Nat))) := Lib.hid (fun X hX =>
        ⟨cell_of_row _ _ 0 _ _ _ ((HFS.out.below hX).hd), HID.out X (HFS.out.bel.trans (hX.mono HFS.out.bel.size))⟩)
      clear cp ct cid
      refine wp_region_tail (S := fun X => X.cell? ⟨pb, 0, none⟩ = some (.slice a S.length c) ∧ X.cell? ⟨t, 2, none⟩ = some (.slice (some ⟨rb, ro, none⟩) o.row.length rc) ∧ X.cell? ⟨rb, ro + S.length * 6 + 4, none⟩ = some (.int .u16 (x : Nat))) 17 (by kernel_rfl) (HSX.out _ (by first | exact (Below.refl _ _).drew | exact Below.refl _ _)) (fun hHeld => ?_)
      refine ttk 0 (v := ?_) ?_ hHeld ?_; rotate_left; · (intro w0 hS0; (try dsimp only at hS0); go_simp; try with_reducible rfl)
      simp only [tks]
      refine ttk 1 (v := ?_) ?_ hHeld ?_; rotate_left; · (intro w0 hS0; (try dsimp only at hS0); go_simp; try with_reducible rfl)
      simp only [tks]
      refine ttk 2 (v := ?_) ?_ hHeld ?_; rotate_left; · (intro w0 hS0; (try dsimp only at hS0); go_simp; try with_reducible rfl)
      simp only [tks]
      refine ttk 3 (v := ?_) ?_ hHeld ?_; rotate_left; · (intro w0 hS0; (try dsimp only at hS0); go_simp; try with_reducible rfl)
      simp only [tks]
      refine ttk 4 (v := ?_) ?_ hHeld ?_; rotate_left; · (intro w0 hS0; (try dsimp only at hS0); go_simp; try with_reducible rfl)
      simp only [tks]
      refine ttk 5 (v := ?_) ?_ hHeld ?_; rotate_left; · (intro w0 hS0; (try dsimp only at hS0); go_simp; try with_reducible rfl)
      simp only [tks]
      refine ttk 6 (v := ?_) ?_ hHeld ?_; rotate_left; · (intro w0 hS0; (try dsimp only at hS0); go_simp; try with_reducible rfl)
      simp only [tks]
      refine ttk 7 (v := ?_) ?_ hHeld ?_; rotate_left; · (intro w0 hS0; (try dsimp only at hS0); go_simp; try with_reducible rfl)
      simp only [tks]
      refine ttk 8 (v := ?_) ?_ hHeld ?_; rotate_left; · (intro w0 hS0; (try dsimp only at hS0); go_simp; try with_reducible rfl)
      simp only [tks]
      refine ttk 9 (v := ?_) ?_ hHeld ?_; rotate_left; · (intro w0 hS0; (try dsimp only at hS0); go_simp; try with_reducible rfl)
      simp only [tks]
      refine ttk 10 (v := ?_) ?_ hHeld ?_; rotate_left; · (intro w0 hS0; (try dsimp only at hS0); go_simp; try with_reducible rfl)
      simp only [tks]
      refine ttk 11 (v := ?_) ?_ hHeld ?_; rotate_left; · (intro w0 hS0; (try dsimp only at hS0); go_simp; try with_reducible rfl)
      simp only [tks]
      refine ttk 12 (v := ?_) ?_ hHeld ?_; rotate_left; · (intro w0 hS0; (try dsimp only at hS0); go_simp; try with_reducible rfl)
      simp only [tks]
      refine wpTail.ready (rs := [13]) (by kernel_rfl) (by simp) ?_
      refine AllTail.cons rfl (fun K hK => ?_) AllTail.nil
      rw [if_pos (by rfl)]
      go_simp
      have hbl : Below wr.heap.size wr (wr.drew.alloc (.cells #[.int .u16 (x : Nat)] 32)) := (Below.refl _ _).drew.alloc (by simp) _
      have hlit := heap_alloc_new wr.drew (.cells #[.int .u16 (x : Nat)] 32)
      have HBL := Lib.hid hbl
      have HLIT := Lib.hid hlit
      have HOW := Lib.hid (ownsRow_lowF HFS.out.own hbl)
      have HSB := Lib.hid (HSX.out _ hbl)
      clear hbl hlit
      refine hK.out _ _ (fun _ => HSB.out) (fun hHeld => ?_)
      replace hHeld := hHeld (by decide)
      refine wpTail.ready (rs := [14]) (by kernel_rfl) (by simp) ?_
      refine AllTail.cons rfl (fun K hK => ?_) AllTail.nil
      refine step_app (m := 1) T_u16 HOW.out HLIT.out rfl rfl rfl rfl rfl (by decide) (by intro u hu; simp at hu; rw [hu]; rfl) (by omega) (by omega) (Nat.zero_le _) ?_
      intro g cap w2 hown2 hg2 hgw hglt
      have hgr := HFS.out.grow (x := x) HBL.out hown2 hg2 (fun b e => by
        rcases hgw with h1 | h1
        · left; rw [h1]; exact e
        · right
          have : b = g := by simpa [Value.ownBlock] using e.symm
          rw [this, h1]; exact HBL.out.size)
      have HGR := Lib.hid hgr.2.2.2
      have hpc := hgr.2.1
      have hpf := hgr.2.2.1
      have HSB2 : Hid (w2.cell? ⟨pb, 0, none⟩ = some (.slice a S.length c) ∧ w2.cell? ⟨t, 2, none⟩ = some (.slice (some ⟨rb, ro, none⟩) o.row.length rc) ∧ w2.cell? ⟨rb, ro + S.length * 6 + 4, none⟩ = some (.int .u16 (x : Nat))) := Lib.hid ⟨hpc, HID.out w2 (HFS.out.bel.trans (hgr.1.below HFS.out.bel.size fun k hk => HFS.out.low k (Option.mem_toList.1 hk)))⟩
      clear hgr hown2 hg2 hgw hglt
      refine hK.out _ _ (fun _ => HSB2.out) (fun hHeld => ?_)
      replace hHeld := hHeld (by decide)
      refine ttk 15 (v := ?_) ?_ hHeld ?_; rotate_left; · (intro w0 hS0; (try dsimp only at hS0); go_simp; try with_reducible rfl)
      simp only [tks]
      refine ttk 16 (v := ?_) ?_ hHeld ?_; rotate_left; · (intro w0 hS0; (try dsimp only at hS0); go_simp; try with_reducible rfl)
      simp only [tks]
      refine wpTail.ready (rs := [17]) (by kernel_rfl) (by simp) ?_
      refine AllTail.cons rfl (fun K hK => ?_) AllTail.nil
      rw [if_pos (by rfl)]
      go_simp
      refine hK.out _ _ (fun h => absurd rfl h) (fun _ => ?_)
      refine wpTail.done (by kernel_rfl) ?_ _
      clear hHeld hpc hpf
      generalize w2.setCell ⟨pb, 0, none⟩ (.slice (some ⟨g, 0, none⟩) (S.length + 1) cap) = w3 at *
      go_wp2_with fail
      go_loopw [5] (fun kv wr => ∃ k : Nat, kv = .int .i64 k ∧ k ≤ S.length ∧ FreeS w wr pb (.slice (some ⟨g, 0, none⟩) (S.length + 1) cap) (LkN S x k) ∧ ∀ d ∈ S.drop k, x < d) (fun k _ => (intOf k).toNat)
      case atStart => exact ⟨S.length, rfl, Nat.le_refl _, by rw [lk_full]; exact HGR.out, by simp⟩
      case round =>
        obtain ⟨k, rfl, hk, hfi, hd⟩ := hrel
        have HFE := Lib.hid hfi
        have HD := Lib.hid hd
        clear hfi
        by_cases hkz : k = 0
        · subst hkz
          have HSRT : Hid ((LkN S x 0).Pairwise (· < ·)) := Lib.hid (lk_sorted HSO.out HD.out (by simp))
          have HLK : Hid ((LkN S x 0).length = S.length + 1) := Lib.hid (lk_len (by omega))
          clear hd
          go_wp2_with fail
          go_quiet (fail)
          go_wp2_with fail
          go_roundw
          case rel => exact ⟨LkN S x 0, _, by rw [HLK.out]; go_num, by rw [HLK.out]; omega, HFE.out.below (below_draws _), HSRT.out, fun y => by rw [lk_mem, HLK.out, HTK.out, List.mem_append, List.mem_singleton, HMEM.out y]; exact Or.comm⟩
          case measure => simp [intOf]; omega
        · obtain ⟨j, rfl⟩ : ∃ j, k = j + 1 := ⟨k - 1, by omega⟩
          have hj : j < S.length := by omega
          have hcast : ((j + 1 : Nat) : Int) = (j : Int) + 1 := by omega
          have hw2 : IntKind.i64.wrap ((j : Int) + 1 - 1) = (j : Int) := by rw [w_i64 _ (by omega) (by omega)]; omega
          have hj0 : (0 : Int) ≤ j := by omega
          have hjl : (j : Int) < (S.length : Int) + 1 := by omega
          have hjl1 : (j : Int) + 1 < (S.length : Int) + 1 := by omega
          have hj1 : (0 : Int) < (j : Int) + 1 := by omega
          obtain ⟨x1, x2, e, hrr, -, -⟩ := ownsRow_row HFE.out.own
          obtain ⟨e1, -, -⟩ := Value.slice.inj e
          subst e1
          clear e
          obtain ⟨_, _, e, cx⟩ := hrr.at (show (idcV (LkN S x (j + 1)))[j + 1]? = some (.int .u16 (x : Nat)) by unfold idcV; rw [List.getElem?_map, lk_x (by omega)]; rfl)
          cases e
          obtain ⟨_, _, e, cy⟩ := hrr.at (show (idcV (LkN S x (j + 1)))[j]? = some (.int .u16 (S[j] : Nat)) by unfold idcV; rw [List.getElem?_map, lk_prev hj]; rfl)
          cases e
          rw [Nat.zero_add] at cx cy
          have ch := cell_of_row _ _ 0 _ _ _ HFE.out.hd
          have HSW := Lib.hid (lk_swap (x := x) hj)
          have HNX : Hid (S[j] ≠ x) := Lib.hid (fun e => HXN.out (e ▸ List.getElem_mem hj))
          have HTL := Lib.hid (take_lt (x := x) HSO.out hj)
          have HDR : Hid (∀ d ∈ S.drop j, d = S[j] ∨ d ∈ S.drop (j + 1)) := Lib.hid (fun d hd => by rw [List.drop_eq_getElem_cons hj] at hd; exact List.mem_cons.1 hd)
          generalize S[j] = y at *
          clear hrr hkz
          by_cases hxy : x < y
          · have hgt : decide ((x : Int) < (y : Int)) = true := decide_eq_true (by omega)
            clear hd
            go_wp2_with fail
            go_quiet (fail)
            have HFE2 := Lib.hid (HFE.out.below (below_draws nq))
            replace ch : (wr.drewN nq).cell? ⟨pb, 0, none⟩ = some (.slice (some ⟨g, 0, none⟩) (S.length + 1) cap) := ch
            replace cx : (wr.drewN nq).cell? ⟨g, j + 1, none⟩ = some (.int .u16 (x : Nat)) := cx
            replace cy : (wr.drewN nq).cell? ⟨g, j, none⟩ = some (.int .u16 (y : Nat)) := cy
            have hof := HFE2.out.own
            rw [lk_len (by omega)] at hof
            have fr := fun k => ownsRow_free hof k
            clear hof
            have hgp : g ≠ pb := fun e => HFE2.out.off (by rw [← e]; rfl)
            have HSWP := Lib.hid (HFE2.out.swap j (j + 1) x y)
            generalize wr.drewN nq = wX at *
            go_wp2_with fail
            go_region
            have HFN : Hid (FreeS w ((wX.setCell ⟨g, j, none⟩ (.int .u16 (x : Nat))).setCell ⟨g, j + 1, none⟩ (.int .u16 (y : Nat))).drew pb (.slice (some ⟨g, 0, none⟩) (S.length + 1) cap) (LkN S x j)) := Lib.hid (by
              have h1 := HSWP.out
              rw [HSW.out] at h1
              exact h1.below (Below.refl _ _).drew)
            clear ch cx cy fr HSWP
            generalize ((wX.setCell ⟨g, j, none⟩ (.int .u16 (x : Nat))).setCell ⟨g, j + 1, none⟩ (.int .u16 (y : Nat))).drew = wY at *
            go_wp2_with fail
            go_roundw
            case rel => exact ⟨j, by go_num, by omega, HFN.out, fun d hd => by
              rcases HDR.out d hd with rfl | h
              · exact hxy
              · exact HD.out d h⟩
            case measure => simp [intOf]
          · have hgt : decide ((x : Int) < (y : Int)) = false := decide_eq_false (by omega)
            have HSRT : Hid ((LkN S x (j + 1)).Pairwise (· < ·)) := Lib.hid (lk_sorted HSO.out HD.out (HTL.out (by have := HNX.out; omega)))
            have HLK : Hid ((LkN S x (j + 1)).length = S.length + 1) := Lib.hid (lk_len (by omega))
            clear hd
            go_wp2_with fail
            go_quiet (fail)
            go_wp2_with fail
            go_roundw
            case rel => exact ⟨LkN S x (j + 1), _, by rw [HLK.out]; go_num, by rw [HLK.out]; omega, HFE.out.below (below_draws _), HSRT.out, fun y => by rw [lk_mem, HLK.out, HTK.out, List.mem_append, List.mem_singleton, HMEM.out y]; exact Or.comm⟩
            case measure => simp [intOf]; omega
    · have hil2 : ¬ (S.length : Int) < o.row.length := by omega
      obtain ⟨hn', -⟩ : S.length = o.row.length ∧ True := ⟨by omega, trivial⟩
      have HLF : Hid (leastFree S = leastFree (idsOf o.row)) := Lib.hid (leastFree_congr fun y => by rw [HMEM.out y, hn', List.take_of_length_le (by omega)])
      have HS1 : Hid (∀ y ∈ S, 1 ≤ y ∧ y ≤ 65535) := Lib.hid (fun y hy => by
        have h1 := List.mem_of_mem_take ((HMEM.out y).1 hy)
        obtain ⟨z, hz, rfl⟩ := List.mem_map.1 h1
        have := HR.out.id z hz
        omega)
      clear hn'
      go_wp2_with fail
      refine (ptake_any pb _ S wr w.heap.size HFS.out.pbg HFS.out.hd (own_high HFS.out.own HFS.out.low) (by omega) HSO.out HS1.out).mono ?_
      rintro e w5 ⟨rfl, hk⟩
      have HB5 := Lib.hid (HFS.out.bel.trans hk)
      rw [HLF.out]
      clear hk
      go_wp2_with fail
      go_ret
      exact ⟨rfl, HB5.out⟩
end
end Go.Proofs.YtmkhagmjpbfieaaGreatDoor
