/- The document's session (layer 18): how it lies in memory. (Printed by gen_dse.py.) The document's session: Clear, Leave, Lose, New walked. (Printed by gen_dse.py.) The document's session: Lose walked. (Printed by gen_dse2.py.) The document's session: Begin walked. (Printed by gen_dse2.py.) -/
import Derived.Test.YtmkhagmjpbfieaaGreatDoorODY
import Derived.Test.YtmkhagmjpbfieaaGreatDoorDSX
import Derived.Test.YtmkhagmjpbfieaaGreatDoorIRX
import Derived.Test.YtmkhagmjpbfieaaGreatDoorSeRX
import Derived.Test.YtmkhagmjpbfieaaGreatDoorSeWX
namespace Go.Proofs.YtmkhagmjpbfieaaGreatDoor
section
open Go Go.RowKit

/-- the document's session: its parts: where they lie -/
structure DSParts (w : World) (s lb tb cb : Nat) (x : SS) (win most : Int) (FL FO FC : List Nat) : Prop where
  hd : w.heap[s]? = some (.cells (ssC x lb tb cb).toArray 82 (0, 0))
  subs : DRep w lb x.l FL
  out : DTRep w tb win most x.o FO
  came : TRep w cb x.came FC
  sl : s ∉ FL
  so : s ∉ FO
  sc : s ∉ FC
  lo : Off FL FO
  lc : Off FL FC
  oc : Off FO FC
section
variable {w w' : World} {s lb tb cb : Nat} {x x' : SS} {win most : Int} {FL FO FC FL' FO' FC' : List Nat}
theorem DSParts.lts (h : DSParts w s lb tb cb x win most FL FO FC) : s < w.heap.size := (Array.getElem?_eq_some_iff.1 h.hd).1
theorem DSParts.lt (h : DSParts w s lb tb cb x win most FL FO FC) : ∀ k ∈ sFoot s FL FO FC, k < w.heap.size := fun k hk => by
  rcases mem_sFoot.1 hk with rfl | hk | hk | hk
  · exact h.lts
  · exact h.subs.lt k hk
  · exact h.out.lt k hk
  · exact h.came.lt k hk
theorem DSParts.mod {S : List Nat} (h : DSParts w s lb tb cb x win most FL FO FC) (hm : Mod S w w') (hS : ∀ k ∈ sFoot s FL FO FC, k ∉ S) : DSParts w' s lb tb cb x win most FL FO FC :=
  ⟨(hm.block s h.lts (hS s (mem_sFoot.2 (.inl rfl)))).trans h.hd, h.subs.mod hm fun k hk => hS k (mem_sFoot.2 (.inr (.inl hk))), h.out.mod hm fun k hk => hS k (mem_sFoot.2 (.inr (.inr (.inl hk)))), h.came.mod hm fun k hk => hS k (mem_sFoot.2 (.inr (.inr (.inr hk)))), h.sl, h.so, h.sc, h.lo, h.lc, h.oc⟩
theorem DSParts.below (h : DSParts w s lb tb cb x win most FL FO FC) (hb : Below w.heap.size w w') : DSParts w' s lb tb cb x win most FL FO FC := h.mod (Mod.of_below hb []) (by simp)
/-- the head is turned -/
theorem DSParts.turnH (h : DSParts w s lb tb cb x win most FL FO FC) (hm : Mod [s] w w') (hs : w'.heap[s]? = some (.cells (ssC x' lb tb cb).toArray 82 (0, 0))) (h1 : x'.l = x.l) (h2 : x'.o = x.o) (h3 : x'.came = x.came) :
    DSParts w' s lb tb cb x' win most FL FO FC ∧ Upd (sFoot s FL FO FC) (sFoot s FL FO FC) w w' :=
  ⟨⟨hs, by rw [h1]; exact h.subs.mod hm fun k hk hk' => h.sl (List.mem_singleton.1 hk' ▸ hk), by rw [h2]; exact h.out.mod hm fun k hk hk' => h.so (List.mem_singleton.1 hk' ▸ hk), by rw [h3]; exact h.came.mod hm fun k hk hk' => h.sc (List.mem_singleton.1 hk' ▸ hk), h.sl, h.so, h.sc, h.lo, h.lc, h.oc⟩,
    hm.mono fun k hk => mem_sFoot.2 (.inl (List.mem_singleton.1 hk)), fun k hk => .inl hk⟩
/-- the filters are turned -/
theorem DSParts.turnL (h : DSParts w s lb tb cb x win most FL FO FC) {l' : List SubE} (hl : DRep w' lb l' FL') (hu : Upd FL FL' w w') : DSParts w' s lb tb cb { x with l := l' } win most FL' FO FC ∧ Upd (sFoot s FL FO FC) (sFoot s FL' FO FC) w w' := by
  have new : ∀ k ∈ FL', k ∈ FL ∨ w.heap.size ≤ k := hu.2
  refine ⟨⟨(hu.1.block s h.lts h.sl).trans h.hd, hl, h.out.mod hu.1 fun k hk hk' => h.lo k hk' hk, h.came.mod hu.1 fun k hk hk' => h.lc k hk' hk, fun hk => ?_, h.so, h.sc, fun k hk hk' => ?_, fun k hk hk' => ?_, h.oc⟩, hu.1.mono fun k hk => mem_sFoot.2 (.inr (.inl hk)), fun k hk => ?_⟩
  · rcases new _ hk with h1 | h1
    · exact h.sl h1
    · have := h.lts; omega
  · rcases new k hk with h1 | h1
    · exact h.lo k h1 hk'
    · have := h.out.lt k hk'; omega
  · rcases new k hk with h1 | h1
    · exact h.lc k h1 hk'
    · have := h.came.lt k hk'; omega
  · rcases mem_sFoot.1 hk with rfl | hk | hk
    · exact .inl (mem_sFoot.2 (.inl rfl))
    · exact (new k hk).imp (fun h1 => mem_sFoot.2 (.inr (.inl h1))) id
    · exact .inl (mem_sFoot.2 (.inr (.inr hk)))
/-- the table is turned -/
theorem DSParts.turnO (h : DSParts w s lb tb cb x win most FL FO FC) {o' : OT} (ho : DTRep w' tb win most o' FO') (hu : Upd FO FO' w w') : DSParts w' s lb tb cb { x with o := o' } win most FL FO' FC ∧ Upd (sFoot s FL FO FC) (sFoot s FL FO' FC) w w' := by
  have new : ∀ k ∈ FO', k ∈ FO ∨ w.heap.size ≤ k := hu.2
  refine ⟨⟨(hu.1.block s h.lts h.so).trans h.hd, h.subs.mod hu.1 fun k hk hk' => h.lo k hk hk', ho, h.came.mod hu.1 fun k hk hk' => h.oc k hk' hk, h.sl, fun hk => ?_, h.sc, fun k hk hk' => ?_, h.lc, fun k hk hk' => ?_⟩, hu.1.mono fun k hk => mem_sFoot.2 (.inr (.inr (.inl hk))), fun k hk => ?_⟩
  · rcases new _ hk with h1 | h1
    · exact h.so h1
    · have := h.lts; omega
  · rcases new k hk' with h1 | h1
    · exact h.lo k hk h1
    · have := h.subs.lt k hk; omega
  · rcases new k hk with h1 | h1
    · exact h.oc k h1 hk'
    · have := h.came.lt k hk'; omega
  · rcases mem_sFoot.1 hk with rfl | hk | hk | hk
    · exact .inl (mem_sFoot.2 (.inl rfl))
    · exact .inl (mem_sFoot.2 (.inr (.inl hk)))
    · exact (new k hk).imp (fun h1 => mem_sFoot.2 (.inr (.inr (.inl h1)))) id
    · exact .inl (mem_sFoot.2 (.inr (.inr (.inr hk))))
/-- the ids that came are turned -/
theorem DSParts.turnC (h : DSParts w s lb tb cb x win most FL FO FC) {c' : List Int} (hc : TRep w' cb c' FC') (hu : Upd FC FC' w w') : DSParts w' s lb tb cb { x with came := c' } win most FL FO FC' ∧ Upd (sFoot s FL FO FC) (sFoot s FL FO FC') w w' := by
  have new : ∀ k ∈ FC', k ∈ FC ∨ w.heap.size ≤ k := hu.2
  refine ⟨⟨(hu.1.block s h.lts h.sc).trans h.hd, h.subs.mod hu.1 fun k hk hk' => h.lc k hk hk', h.out.mod hu.1 fun k hk hk' => h.oc k hk hk', hc, h.sl, h.so, fun hk => ?_, h.lo, fun k hk hk' => ?_, fun k hk hk' => ?_⟩, hu.1.mono fun k hk => mem_sFoot.2 (.inr (.inr (.inr hk))), fun k hk => ?_⟩
  · rcases new _ hk with h1 | h1
    · exact h.sc h1
    · have := h.lts; omega
  · rcases new k hk' with h1 | h1
    · exact h.lc k hk h1
    · have := h.subs.lt k hk; omega
  · rcases new k hk' with h1 | h1
    · exact h.oc k hk h1
    · have := h.out.lt k hk; omega
  · rcases mem_sFoot.1 hk with rfl | hk | hk | hk
    · exact .inl (mem_sFoot.2 (.inl rfl))
    · exact .inl (mem_sFoot.2 (.inr (.inl hk)))
    · exact .inl (mem_sFoot.2 (.inr (.inr (.inl hk))))
    · exact (new k hk).imp (fun h1 => mem_sFoot.2 (.inr (.inr (.inr h1)))) id
end
/-- a session lies at block s -/
def DSesRep (w : World) (s : Nat) (win most : Int) (x : SS) (F : List Nat) : Prop := ∃ lb tb cb FL FO FC, DSParts w s lb tb cb x win most FL FO FC ∧ F = sFoot s FL FO FC
theorem DSesRep.lt {w : World} {s : Nat} {win most : Int} {x : SS} {F : List Nat} (h : DSesRep w s win most x F) : ∀ k ∈ F, k < w.heap.size := by
  obtain ⟨lb, tb, cb, FL, FO, FC, h, rfl⟩ := h
  exact h.lt
theorem DSesRep.mod {S : List Nat} {w w' : World} {s : Nat} {win most : Int} {x : SS} {F : List Nat} (h : DSesRep w s win most x F) (hm : Mod S w w') (hS : ∀ k ∈ F, k ∉ S) : DSesRep w' s win most x F := by
  obtain ⟨lb, tb, cb, FL, FO, FC, h, rfl⟩ := h
  exact ⟨lb, tb, cb, FL, FO, FC, h.mod hm hS, rfl⟩
theorem DSesRep.below {w w' : World} {s : Nat} {win most : Int} {x : SS} {F : List Nat} (h : DSesRep w s win most x F) (hb : Below w.heap.size w w') : DSesRep w' s win most x F := h.mod (Mod.of_below hb []) (by simp)
theorem DSParts.cells {w : World} {s lb tb cb : Nat} {x : SS} {win most : Int} {FL FO FC : List Nat} (h : DSParts w s lb tb cb x win most FL FO FC) :
    w.cell? ⟨s, 0, none⟩ = some (.string x.client) ∧ w.cell? ⟨s, 1, none⟩ = some (.int .i64 x.conn) ∧ w.cell? ⟨s, 2, none⟩ = some (.bool x.clean) ∧ w.cell? ⟨s, 3, none⟩ = some (.string x.will.t) ∧ w.cell? ⟨s, 4, none⟩ = some (.string x.will.p) ∧ w.cell? ⟨s, 5, none⟩ = some (.int .u8 x.will.q) ∧
      w.cell? ⟨s, 6, none⟩ = some (.bool x.will.r) ∧ w.cell? ⟨s, 7, none⟩ = some (.bool x.has) ∧ w.cell? ⟨s, 8, none⟩ = some (.pointer (some ⟨lb, 0, none⟩)) ∧ w.cell? ⟨s, 9, none⟩ = some (.pointer (some ⟨tb, 0, none⟩)) ∧ w.cell? ⟨s, 10, none⟩ = some (.pointer (some ⟨cb, 0, none⟩)) :=
  ⟨cell_of_row _ _ 0 _ _ _ h.hd, cell_of_row _ _ 1 _ _ _ h.hd, cell_of_row _ _ 2 _ _ _ h.hd, cell_of_row _ _ 3 _ _ _ h.hd, cell_of_row _ _ 4 _ _ _ h.hd, cell_of_row _ _ 5 _ _ _ h.hd, cell_of_row _ _ 6 _ _ _ h.hd, cell_of_row _ _ 7 _ _ _ h.hd, cell_of_row _ _ 8 _ _ _ h.hd, cell_of_row _ _ 9 _ _ _ h.hd, cell_of_row _ _ 10 _ _ _ h.hd⟩
end
section
open Go Go.RowKit

set_option maxRecDepth 100000 in
set_option maxHeartbeats 2000000 in
theorem dclear_any (b : Nat) (l : List SubE) (F : List Nat) (w : World) (h : DRep w b l F) :
    Calls Tryz.prog 69 #[.pointer (some ⟨b, 0, none⟩)] w fun e w' => ∃ v, e = .returned v ∧ w'.ownsRow w.heap.size 9 1 v l.length (namesV (namesE l)) ∧ DRep w' b [] [b] ∧ Upd F [b] w w' := by
  have h16 := h.len
  obtain ⟨a, c, hac, hH⟩ := h.held
  have HH := Lib.hid hH
  have H := Lib.hid h
  clear h hH hac
  go_enter Tryz.func69, Tryz.ntmps69
  go_wp2_with fail
  go_loopw [3, 4] (fun v i wr => ∃ k : Nat, i = .int .i64 k ∧ k ≤ l.length ∧ Below w.heap.size w wr ∧ wr.ownsRow w.heap.size 9 1 v k (namesV ((namesE l).take k))) (fun _ i _ => (l.length - intOf i).toNat)
  case atStart => exact ⟨0, rfl, by omega, Below.refl _ _, by simpa [namesV] using World.ownsRow_nil _ _ _ _⟩
  case round =>
    obtain ⟨k, rfl, hk, hbr, hown⟩ := hrel
    obtain ⟨c0, hrw⟩ := HH.out _ hbr
    by_cases hlt : k < l.length
    · have hk0 : (0 : Int) ≤ k := by omega
      have hkl : (k : Int) < l.length := by omega
      obtain ⟨rb, off, rfl, e0, -⟩ := subs_row hrw hlt
      have HTK := Lib.hid (namesV_snoc l k hlt)
      generalize l[k] = x at *
      generalize namesV ((namesE l).take k) = V at *
      obtain ⟨xn, xq⟩ := x
      dsimp only at *
      have hw1 : IntKind.i64.wrap ((k : Int) + 1) = (k : Int) + 1 := w_i64 _ (by omega) (by omega)
      have HOA := Lib.hid (hown.alloc (.cells #[.string ⟨xn.toArray⟩] 9))
      have HBA := Lib.hid (hbr.alloc hbr.size (.cells #[.string ⟨xn.toArray⟩] 9))
      have HLIT := Lib.hid (row_new wr [.string ⟨xn.toArray⟩] 9)
      have HOL : Hid (∀ u ∈ [Value.string ⟨xn.toArray⟩], u.oneCell' = true) := Lib.hid (by simp [Value.oneCell'])
      clear hown hbr hrw
      go_wp2_with (first
        | (at_builtin; refine wpList_spread (m := 1) (w0 := w) (B := w.heap.size) T_strS HOA.out HBA.out (Nat.le_refl _) HLIT.out rfl rfl rfl rfl _ rfl rfl HOL.out (by omega) (by omega) ?_; intro v8 w8 hown8 hb8 hg8; have HO8 := Lib.hid hown8; have HB8 := Lib.hid hb8; clear hown8 hb8 hg8)
        | fail)
      go_roundw
      case rel => exact ⟨k + 1, by go_num, by omega, HB8.out, by rw [HTK.out]; exact HO8.out⟩
      case measure => simp [intOf]; omega
    · have hkl : ¬ (k : Int) < l.length := by omega
      obtain rfl : k = l.length := by omega
      have hnl : (namesE l).length = l.length := by simp [namesE]
      rw [← hnl, List.take_length, hnl] at hown
      obtain ⟨a0, c0', G, hh, -, -, -, -, -, -, hF⟩ := H.out.below hbr
      have f0 := frozen_of_row _ b 0 _ _ hh
      have hbF : b ∈ F := by rw [hF]; simp
      have hbl := H.out.lt b hbF
      have HOW := Lib.hid hown
      have HBW := Lib.hid hbr
      have HH9 := Lib.hid hh
      clear hown hbr hrw hh hF hnl
      go_wp2_with fail
      go_ret
      have h9 := heap_setCell_same wr b 0 _ _ (.slice none 0 0) HH9.out
      refine ⟨_, rfl, ?_, ⟨none, 0, [], by simpa using h9, .inl ⟨rfl, rfl, rfl⟩, by simp, by decide, by simp, by simp [SUp], by simp, rfl⟩, ((Mod.of_below HBW.out F).setCell (.inl hbF) _), fun k hk => by rw [List.mem_singleton.1 hk]; exact .inl hbF⟩
      refine ownsRow_local HOW.out fun j hj => heap_setCell_other wr _ _ _ ?_
      have := (HOW.out.lt j hj).1
      show j ≠ b
      omega
theorem DSParts.free {w : World} {s lb tb cb : Nat} {x : SS} {win most : Int} {FL FO FC : List Nat} (h : DSParts w s lb tb cb x win most FL FO FC) (k : Nat) : w.frozen? ⟨s, k, none⟩ = false := frozen_of_row _ _ _ _ _ h.hd
/-- what Leave leaves -/
theorem dend_cells {w : World} {s lb tb cb : Nat} {x : SS} {T : TypeId} (h : w.heap[s]? = some (.cells (ssC x lb tb cb).toArray T (0, 0))) :
    ((((((w.setCell ⟨s, 1, none⟩ (.int .i64 0)).setCell ⟨s, 7, none⟩ (.bool false)).setCell ⟨s, 3, none⟩ (.string ⟨#[]⟩)).setCell ⟨s, 4, none⟩ (.string ⟨#[]⟩)).setCell ⟨s, 5, none⟩ (.int .u8 0)).setCell ⟨s, 6, none⟩ (.bool false)).heap[s]? = some (.cells (ssC (leaveS x) lb tb cb).toArray T (0, 0)) := by
  have h1 := heap_setCell_same _ s 1 _ _ (.int .i64 0) h
  have h2 := heap_setCell_same _ s 7 _ _ (.bool false) h1
  have h3 := heap_setCell_same _ s 3 _ _ (.string ⟨#[]⟩) h2
  have h4 := heap_setCell_same _ s 4 _ _ (.string ⟨#[]⟩) h3
  have h5 := heap_setCell_same _ s 5 _ _ (.int .u8 0) h4
  have h6 := heap_setCell_same _ s 6 _ _ (.bool false) h5
  exact h6
theorem dleave_parts (s lb tb cb : Nat) (x : SS) (win most : Int) (FL FO FC : List Nat) (w : World) (h : DSParts w s lb tb cb x win most FL FO FC) :
    Calls Tryz.prog 35 #[.pointer (some ⟨s, 0, none⟩)] w fun e w' => e = .returned (.tuple #[]) ∧ DSParts w' s lb tb cb (leaveS x) win most FL FO FC ∧ Mod [s] w w' := by
  obtain ⟨c0, c1, c2, c3, c4, c5, c6, c7, -⟩ := h.cells
  have fr := fun k => h.free k
  have HE := Lib.hid (dend_cells h.hd)
  have H := Lib.hid h
  clear h
  go_enter Tryz.func35, Tryz.ntmps35
  go_wp2_with fail
  go_end0
  have hm := ((((((set_mod w s 1 (.int .i64 0)).trans (set_mod _ s 7 (.bool false)) fun _ h => .inl h).trans (set_mod _ s 3 (.string ⟨#[]⟩)) fun _ h => .inl h).trans (set_mod _ s 4 (.string ⟨#[]⟩)) fun _ h => .inl h).trans (set_mod _ s 5 (.int .u8 0)) fun _ h => .inl h).trans (set_mod _ s 6 (.bool false)) fun _ h => .inl h)
  exact ⟨rfl, (H.out.turnH hm HE.out rfl rfl rfl).1, hm⟩
theorem dleave_any (s : Nat) (x : SS) (win most : Int) (F : List Nat) (w : World) (h : DSesRep w s win most x F) :
    Calls Tryz.prog 35 #[.pointer (some ⟨s, 0, none⟩)] w fun e w' => e = .returned (.tuple #[]) ∧ DSesRep w' s win most (leaveS x) F ∧ Upd F F w w' := by
  obtain ⟨lb, tb, cb, FL, FO, FC, h, rfl⟩ := h
  refine (dleave_parts s lb tb cb x win most FL FO FC w h).mono ?_
  rintro e w1 ⟨he, hp, hm⟩
  exact ⟨he, ⟨lb, tb, cb, FL, FO, FC, hp, rfl⟩, hm.mono fun k hk => mem_sFoot.2 (.inl (List.mem_singleton.1 hk)), fun k hk => .inl hk⟩
theorem dsesnew_bad (c : ByteArray) (a1 a2 a3 most win : Int) (w : World) (h : most < 1 ∨ 1024 < most ∨ win < 1 ∨ 1024 < win) :
    Calls Tryz.prog 9 #[.string c, .agg #[.int .i64 a1, .int .i64 a2, .int .i64 a3, .int .i64 most, .int .i64 win]] w fun e w' => e = .returned (.pointer none) ∧ Below w.heap.size w w' := by
  have hb := low_alloc w (.cells #[.int .i64 a1, .int .i64 a2, .int .i64 a3, .int .i64 most, .int .i64 win] 23)
  have HB := Lib.hid hb
  have HN := Lib.hid (fun W => dtnew_bad win most W h)
  clear hb h
  go_enter Tryz.func9, Tryz.ntmps9
  go_wp2_with fail
  refine (HN.out _).mono ?_
  rintro e w1 ⟨rfl, hk⟩
  have HK := Lib.hid (bnext HB.out (Nat.le_refl _) hk)
  clear hk
  go_wp2_with fail
  go_ret
  exact ⟨rfl, HK.out⟩
set_option maxRecDepth 100000 in
theorem dsesnew_any (c : ByteArray) (a1 a2 a3 most win : Int) (w : World) (hm : 1 ≤ most ∧ most ≤ 1024) (hw : 1 ≤ win ∧ win ≤ 1024) :
    Calls Tryz.prog 9 #[.string c, .agg #[.int .i64 a1, .int .i64 a2, .int .i64 a3, .int .i64 most, .int .i64 win]] w fun e w' => ∃ s F, e = .returned (.pointer (some ⟨s, 0, none⟩)) ∧ DSesRep w' s win most (SS.new c) F ∧ Upd [] F w w' := by
  have hb := low_alloc w (.cells #[.int .i64 a1, .int .i64 a2, .int .i64 a3, .int .i64 most, .int .i64 win] 23)
  have HB := Lib.hid hb
  have HN := Lib.hid (fun W => dtnew_any win most W hm hw)
  clear hb hm hw
  go_enter Tryz.func9, Tryz.ntmps9
  go_wp2_with fail
  refine (HN.out _).mono ?_
  rintro e w1 ⟨t, FO, rfl, ho, hu⟩
  have hne1 : ∀ k ∈ FO, w.heap.size ≤ k := fun k hk => (hu.2 k hk).elim (by simp) fun h => Nat.le_trans HB.out.size h
  have hb1 : Below w.heap.size w w1 := bnext HB.out (Nat.le_refl _) (hu.1.below (Nat.le_refl _) (by simp))
  have HO := Lib.hid ho
  have HB1 := Lib.hid hb1
  have HNE := Lib.hid hne1
  clear ho hu hb1 hne1
  go_wp2_with fail
  have hl : DRep (w1.alloc (.cells #[.slice none 0 0] 78)) w1.heap.size [] [w1.heap.size] := ⟨none, 0, [], heap_alloc_new _ _, .inl ⟨rfl, rfl, rfl⟩, by simp, by decide, by simp, by simp [SUp], by simp, rfl⟩
  have HL := Lib.hid hl
  have HB2 := Lib.hid (low_alloc w1 (.cells #[.slice none 0 0] 78))
  have hw1l : w1.heap.size < (w1.alloc (.cells #[.slice none 0 0] 78)).heap.size := by simp
  clear hl
  generalize w1.alloc (.cells #[.slice none 0 0] 78) = w2 at *
  refine (tnew w2).mono ?_
  rintro e w3 ⟨cb, FC, rfl, hc, hu⟩
  have hne3 : ∀ k ∈ FC, w2.heap.size ≤ k := fun k hk => (hu.2 k hk).elim (by simp) id
  have hb3 : Below w2.heap.size w2 w3 := hu.1.below (Nat.le_refl _) (by simp)
  have HC := Lib.hid hc
  have HB3 := Lib.hid hb3
  have HN3 := Lib.hid hne3
  clear hc hu hb3 hne3
  go_wp2_with fail
  go_ret
  have hb4 := low_alloc w3 (.cells (ssC (SS.new c) w1.heap.size t cb).toArray 82)
  have hl3 := HL.out.below HB3.out
  have ho3 := (HO.out.below HB2.out).below HB3.out
  have s1 := HB1.out.size
  have s2 := HB2.out.size
  have s3 := HB3.out.size
  refine ⟨_, sFoot w3.heap.size [w1.heap.size] FO FC, rfl, ⟨w1.heap.size, t, cb, [w1.heap.size], FO, FC, ⟨heap_alloc_new w3 _, hl3.below hb4, ho3.below hb4, HC.out.below hb4, ?_, ?_, ?_, ?_, ?_, ?_⟩, rfl⟩, ?_⟩
  · intro hk; simp at hk; omega
  · intro hk; have := ho3.lt _ hk; omega
  · intro hk; have := HC.out.lt _ hk; omega
  · intro k hk hk'; rw [List.mem_singleton.1 hk] at hk'; have := HO.out.lt _ hk'; omega
  · intro k hk hk'; rw [List.mem_singleton.1 hk] at hk'; have := HN3.out _ hk'; omega
  · intro k hk hk'; have := HO.out.lt _ hk; have := HN3.out _ hk'; omega
  · refine ⟨Mod.of_below (bnext HB1.out (Nat.le_refl _) (bnext HB2.out (Nat.le_refl _) (bnext HB3.out (Nat.le_refl _) hb4))) _, fun k hk => ?_⟩
    right
    rcases mem_sFoot.1 hk with h | h | h | h
    · omega
    · simp at h; omega
    · exact HNE.out k h
    · have := HN3.out k h; omega
end
section
open Go Go.RowKit

set_option maxRecDepth 100000 in
set_option maxHeartbeats 4000000 in
theorem dlose_any (s : Nat) (x : SS) (win most : Int) (F : List Nat) (w : World) (h : DSesRep w s win most x F) :
    Calls Tryz.prog 34 #[.pointer (some ⟨s, 0, none⟩)] w fun e w' => e = .returned (.tuple #[(loseA x).1.val, .bool (loseA x).2]) ∧ DSesRep w' s win most (leaveS x) F ∧ Upd F F w w' := by
  have hX := heap_alloc_new w (.cells #[.string ⟨#[]⟩, .string ⟨#[]⟩, .int .u8 0, .bool false] 34)
  have hb := low_alloc w (.cells #[.string ⟨#[]⟩, .string ⟨#[]⟩, .int .u8 0, .bool false] 34)
  have hnF : w.heap.size ∉ F := fun hk => by have := h.lt _ hk; omega
  have HLT := Lib.hid (fun k (hk : k ∈ F) => h.lt k hk)
  obtain ⟨W, hW⟩ : ∃ W, w.alloc (.cells #[.string ⟨#[]⟩, .string ⟨#[]⟩, .int .u8 0, .bool false] 34) = W := ⟨_, rfl⟩
  have hWs : W.heap.size = w.heap.size + 1 := by rw [← hW]; simp
  rw [hW] at hX hb
  have hp := h.below hb
  have HP := Lib.hid hp
  have HSX : Hid (∀ X, Below W.heap.size W X → X.cell? ⟨s, 1, none⟩ = some (.int .i64 x.conn) ∧ X.cell? ⟨s, 3, none⟩ = some (.string x.will.t) ∧ X.cell? ⟨s, 4, none⟩ = some (.string x.will.p) ∧ X.cell? ⟨s, 5, none⟩ = some (.int .u8 x.will.q) ∧ X.cell? ⟨s, 6, none⟩ = some (.bool x.will.r) ∧ X.cell? ⟨s, 7, none⟩ = some (.bool x.has)) := Lib.hid (fun X hX2 => by
    obtain ⟨lb, tb, cb, FL, FO, FC, h9, -⟩ := hp.below hX2
    obtain ⟨-, c1, -, c3, c4, c5, c6, c7, -⟩ := h9.cells
    exact ⟨c1, c3, c4, c5, c6, c7⟩)
  have HX := Lib.hid hX
  have HBW := Lib.hid hb
  have HLA : Hid (loseA x = if losesB x then (x.will, true) else (Msg.none, false)) := Lib.hid rfl
  have HLB : Hid (losesB x = (x.has && !decide (x.conn = 0))) := Lib.hid rfl
  have HMZ := Lib.hid (msg_size' x.will)
  have HM1 := Lib.hid (msg_one' x.will)
  obtain ⟨hs, hhs⟩ : ∃ b, x.has = b := ⟨_, rfl⟩
  have HHS := Lib.hid hhs
  rw [hhs] at HSX
  have hWW := hW
  have HWS := Lib.hid hWs
  clear h hX hb hp hhs hW hWs
  by_cases hc : x.conn = 0
  · have hc' : (x.conn == 0) = true := by simpa using hc
    have hc2 : (x.conn != 0) = false := by simp [hc]
    have HLF : Hid (losesB x = false) := Lib.hid (by rw [HLB.out, hc]; simp)
    have HMZ2 := Lib.hid (msg_size' Msg.none)
    have HM2 := Lib.hid (msg_one' Msg.none)
    have HC0 := Lib.hid hc
    clear hc
    cases hs with
    | false =>
      go_enter Tryz.func34, Tryz.ntmps34
      go_upto_region 1 with fail
      try rw [hWW]
      clear hWW
      refine wp_region_held_drew (S := fun X => X.cell? ⟨s, 1, none⟩ = some (.int .i64 x.conn) ∧ X.cell? ⟨s, 3, none⟩ = some (.string x.will.t) ∧ X.cell? ⟨s, 4, none⟩ = some (.string x.will.p) ∧ X.cell? ⟨s, 5, none⟩ = some (.int .u8 x.will.q) ∧ X.cell? ⟨s, 6, none⟩ = some (.bool x.will.r) ∧ X.cell? ⟨s, 7, none⟩ = some (.bool false)) (by kernel_rfl) (HSX.out _ (by first | exact (Below.refl _ _).drew | exact Below.refl _ _)) (fun hHeld => ?_)
      refine tk 0 (v := ?_) ?_ hHeld ?_; rotate_left; · (intro w0 hS0; (try dsimp only at hS0); go_simp; try with_reducible rfl)
      simp only [tks]
      refine tk 1 (v := ?_) ?_ hHeld ?_; rotate_left; · (intro w0 hS0; (try dsimp only at hS0); go_simp; try with_reducible rfl)
      simp only [tks]
      refine tk 2 (v := ?_) ?_ hHeld ?_; rotate_left; · (intro w0 hS0; (try dsimp only at hS0); go_simp; try with_reducible rfl)
      simp only [tks]
      refine tk 3 (v := ?_) ?_ hHeld ?_; rotate_left; · (intro w0 hS0; (try dsimp only at hS0); go_simp; try with_reducible rfl)
      simp only [tks]
      refine tk 4 (v := ?_) ?_ hHeld ?_; rotate_left; · (intro w0 hS0; (try dsimp only at hS0); go_simp; try with_reducible rfl)
      simp only [tks]
      refine tk 5 (v := ?_) ?_ hHeld ?_; rotate_left; · (intro w0 hS0; (try dsimp only at hS0); go_simp; try with_reducible rfl)
      simp only [tks]
      refine tk 6 (v := ?_) ?_ hHeld ?_; rotate_left; · (intro w0 hS0; (try dsimp only at hS0); go_simp; try with_reducible rfl)
      simp only [tks]
      refine tk 7 (v := ?_) ?_ hHeld ?_; rotate_left; · (intro w0 hS0; (try dsimp only at hS0); go_simp; try with_reducible rfl)
      simp only [tks]
      refine tk 8 (v := ?_) ?_ hHeld ?_; rotate_left; · (intro w0 hS0; (try dsimp only at hS0); go_simp; try with_reducible rfl)
      simp only [tks]
      refine tsk 9 hHeld ?_
      simp only [tks]
      refine tsk 10 hHeld ?_
      simp only [tks]
      refine tsk 11 hHeld ?_
      simp only [tks]
      refine tsk 12 hHeld ?_
      simp only [tks]
      refine tsk 13 hHeld ?_
      simp only [tks]
      refine tk 14 (v := ?_) ?_ hHeld ?_; rotate_left; · (intro w0 hS0; (try dsimp only at hS0); go_simp; try with_reducible rfl)
      simp only [tks]
      refine wpAnyH_ready (rs := [15]) (by kernel_rfl) (by simp) ?_
      refine AllReadyH.cons rfl (fun K hK => ?_) AllReadyH.nil
      rw [if_pos (by rfl)]
      go_simp
      have HB1 : Hid (∀ o, Below W.heap.size W (W.alloc o).drew) := Lib.hid (fun o => (low_alloc W o).drew)
      have HX1 : Hid (∀ o, (W.alloc o).drew.heap[W.heap.size]? = some o) := Lib.hid (fun o => heap_alloc_new W o)
      refine hK.out _ _ (HSX.out _ (HB1.out _)) (fun hHeld => ?_)
      refine wpAnyH_ready (rs := [16]) (by kernel_rfl) (by simp) ?_
      refine AllReadyH.cons rfl (fun K hK => ?_) AllReadyH.nil
      rw [if_pos (by rfl)]
      refine wp_store_row 34 _ _ rfl W.heap.size x.will.cells.toArray rfl rfl 34 _ (HX1.out _) HMZ.out rfl HM1.out ?_
      have HB2 := Lib.hid (setRow_low (g := W.heap.size) (HB1.out (.cells #[.string ⟨#[]⟩, .string ⟨#[]⟩, .int .u8 0, .bool false] 34)) (Nat.le_refl _) x.will.cells.toArray)
      have HXB := Lib.hid (setRow_heap _ _ _ x.will.cells.toArray _ _ (HX1.out (.cells #[.string ⟨#[]⟩, .string ⟨#[]⟩, .int .u8 0, .bool false] 34)))
      refine hK.out _ _ (HSX.out _ HB2.out) (fun hHeld => ?_)
      refine tk 17 (v := ?_) ?_ hHeld ?_; rotate_left; · (intro w0 hS0; (try dsimp only at hS0); go_simp; try with_reducible rfl)
      simp only [tks]
      refine wpAnyH_done (by kernel_rfl) ?_ _
      clear hHeld HB1 HX1
      generalize (W.alloc (.cells #[.string ⟨#[]⟩, .string ⟨#[]⟩, .int .u8 0, .bool false] 34)).drew.setRow W.heap.size x.will.cells.toArray = W2 at *
      have HWL : Hid (W.heap.size < W2.heap.size) := Lib.hid (Array.getElem?_eq_some_iff.1 HXB.out).1
      go_wp2_with fail
      refine (dleave_any s x win most F W2 (HP.out.below HB2.out)).mono ?_
      rintro e w3 ⟨rfl, hp3, hu3⟩
      have HRB : Hid (w3.heap[w.heap.size]? = some (.cells #[.string ⟨#[]⟩, .string ⟨#[]⟩, .int .u8 0, .bool false] 34 (0, 0))) := Lib.hid (((hu3.1.block w.heap.size (by have := HWS.out; have := HWL.out; omega) hnF).trans (HB2.out.block w.heap.size (by have := HWS.out; omega))).trans HX.out)
      have hx3 := (hu3.1.block W.heap.size HWL.out (fun hk => by have := HLT.out _ hk; have := HWS.out; omega)).trans HXB.out
      have k0 := cell_of_row _ _ 0 _ _ _ hx3
      have k1 := cell_of_row _ _ 1 _ _ _ hx3
      have k2 := cell_of_row _ _ 2 _ _ _ hx3
      have k3 := cell_of_row _ _ 3 _ _ _ hx3
      simp only [Msg.cells, List.getElem?_toArray, List.getElem?_cons_zero, List.getElem?_cons_succ] at k0 k1 k2 k3
      have HP3 := Lib.hid hp3
      have HU3 := Lib.hid (Upd.pre (HBW.out.trans (HB2.out.mono (by have := HWS.out; omega))) hu3)
      clear hp3 hu3 hx3
      go_wp2_with (first
        | (refine wpList_store_rowTo rfl 34 _ _ rfl rfl w.heap.size Msg.none.cells.toArray rfl rfl 34 _ HRB.out HMZ2.out rfl HM2.out ?_)
        | fail)
      have hms : Mod [w.heap.size] w3 (w3.setRow w.heap.size Msg.none.cells.toArray) := mod_setRow (Mod.refl _ _) (.inl (by simp)) _
      refine bodyPost_ret (results_row_tmp (cs := Msg.none.cells.toArray) rfl rfl (setRow_heap w3 w.heap.size _ Msg.none.cells.toArray _ _ HRB.out) Tryz.underlying34 rfl msg_size) rfl ⟨?_, HP3.out.mod hms (fun k hk hk' => by rw [List.mem_singleton.1 hk'] at hk; exact hnF hk), HU3.out.1.trans hms (fun k hk => .inr (by rw [List.mem_singleton.1 hk]; exact Nat.le_refl _)), HU3.out.2⟩
      rw [HLA.out, HLF.out]
      rfl
    | true =>
      go_enter Tryz.func34, Tryz.ntmps34
      go_upto_region 1 with fail
      try rw [hWW]
      clear hWW
      refine wp_region_held_drew (S := fun X => X.cell? ⟨s, 1, none⟩ = some (.int .i64 x.conn) ∧ X.cell? ⟨s, 3, none⟩ = some (.string x.will.t) ∧ X.cell? ⟨s, 4, none⟩ = some (.string x.will.p) ∧ X.cell? ⟨s, 5, none⟩ = some (.int .u8 x.will.q) ∧ X.cell? ⟨s, 6, none⟩ = some (.bool x.will.r) ∧ X.cell? ⟨s, 7, none⟩ = some (.bool true)) (by kernel_rfl) (HSX.out _ (by first | exact (Below.refl _ _).drew | exact Below.refl _ _)) (fun hHeld => ?_)
      refine tk 0 (v := ?_) ?_ hHeld ?_; rotate_left; · (intro w0 hS0; (try dsimp only at hS0); go_simp; try with_reducible rfl)
      simp only [tks]
      refine tk 1 (v := ?_) ?_ hHeld ?_; rotate_left; · (intro w0 hS0; (try dsimp only at hS0); go_simp; try with_reducible rfl)
      simp only [tks]
      refine tk 2 (v := ?_) ?_ hHeld ?_; rotate_left; · (intro w0 hS0; (try dsimp only at hS0); go_simp; try with_reducible rfl)
      simp only [tks]
      refine tk 3 (v := ?_) ?_ hHeld ?_; rotate_left; · (intro w0 hS0; (try dsimp only at hS0); go_simp; try with_reducible rfl)
      simp only [tks]
      refine tk 4 (v := ?_) ?_ hHeld ?_; rotate_left; · (intro w0 hS0; (try dsimp only at hS0); go_simp; try with_reducible rfl)
      simp only [tks]
      refine tk 5 (v := ?_) ?_ hHeld ?_; rotate_left; · (intro w0 hS0; (try dsimp only at hS0); go_simp; try with_reducible rfl)
      simp only [tks]
      refine tk 6 (v := ?_) ?_ hHeld ?_; rotate_left; · (intro w0 hS0; (try dsimp only at hS0); go_simp; try with_reducible rfl)
      simp only [tks]
      refine tk 7 (v := ?_) ?_ hHeld ?_; rotate_left; · (intro w0 hS0; (try dsimp only at hS0); go_simp; try with_reducible rfl)
      simp only [tks]
      refine tk 8 (v := ?_) ?_ hHeld ?_; rotate_left; · (intro w0 hS0; (try dsimp only at hS0); go_simp; try with_reducible rfl)
      simp only [tks]
      refine tk 9 (v := ?_) ?_ hHeld ?_; rotate_left; · (intro w0 hS0; (try dsimp only at hS0); go_simp; try with_reducible rfl)
      simp only [tks]
      refine tk 10 (v := ?_) ?_ hHeld ?_; rotate_left; · (intro w0 hS0; (try dsimp only at hS0); go_simp; try with_reducible rfl)
      simp only [tks]
      refine tk 11 (v := ?_) ?_ hHeld ?_; rotate_left; · (intro w0 hS0; (try dsimp only at hS0); go_simp; try with_reducible rfl)
      simp only [tks]
      refine tk 12 (v := ?_) ?_ hHeld ?_; rotate_left; · (intro w0 hS0; (try dsimp only at hS0); go_simp; try with_reducible rfl)
      simp only [tks]
      refine tk 13 (v := ?_) ?_ hHeld ?_; rotate_left; · (intro w0 hS0; (try dsimp only at hS0); go_simp; try with_reducible rfl)
      simp only [tks]
      refine tk 14 (v := ?_) ?_ hHeld ?_; rotate_left; · (intro w0 hS0; (try dsimp only at hS0); go_simp; try with_reducible rfl)
      simp only [tks]
      refine wpAnyH_ready (rs := [15]) (by kernel_rfl) (by simp) ?_
      refine AllReadyH.cons rfl (fun K hK => ?_) AllReadyH.nil
      rw [if_pos (by rfl)]
      go_simp
      have HB1 : Hid (∀ o, Below W.heap.size W (W.alloc o).drew) := Lib.hid (fun o => (low_alloc W o).drew)
      have HX1 : Hid (∀ o, (W.alloc o).drew.heap[W.heap.size]? = some o) := Lib.hid (fun o => heap_alloc_new W o)
      refine hK.out _ _ (HSX.out _ (HB1.out _)) (fun hHeld => ?_)
      refine wpAnyH_ready (rs := [16]) (by kernel_rfl) (by simp) ?_
      refine AllReadyH.cons rfl (fun K hK => ?_) AllReadyH.nil
      rw [if_pos (by rfl)]
      refine wp_store_row 34 _ _ rfl W.heap.size x.will.cells.toArray rfl rfl 34 _ (HX1.out _) HMZ.out rfl HM1.out ?_
      have HB2 := Lib.hid (setRow_low (g := W.heap.size) (HB1.out (.cells #[.string ⟨#[]⟩, .string ⟨#[]⟩, .int .u8 0, .bool false] 34)) (Nat.le_refl _) x.will.cells.toArray)
      have HXB := Lib.hid (setRow_heap _ _ _ x.will.cells.toArray _ _ (HX1.out (.cells #[.string ⟨#[]⟩, .string ⟨#[]⟩, .int .u8 0, .bool false] 34)))
      refine hK.out _ _ (HSX.out _ HB2.out) (fun hHeld => ?_)
      refine tk 17 (v := ?_) ?_ hHeld ?_; rotate_left; · (intro w0 hS0; (try dsimp only at hS0); go_simp; try with_reducible rfl)
      simp only [tks]
      refine wpAnyH_done (by kernel_rfl) ?_ _
      clear hHeld HB1 HX1
      generalize (W.alloc (.cells #[.string ⟨#[]⟩, .string ⟨#[]⟩, .int .u8 0, .bool false] 34)).drew.setRow W.heap.size x.will.cells.toArray = W2 at *
      have HWL : Hid (W.heap.size < W2.heap.size) := Lib.hid (Array.getElem?_eq_some_iff.1 HXB.out).1
      go_wp2_with fail
      refine (dleave_any s x win most F W2 (HP.out.below HB2.out)).mono ?_
      rintro e w3 ⟨rfl, hp3, hu3⟩
      have HRB : Hid (w3.heap[w.heap.size]? = some (.cells #[.string ⟨#[]⟩, .string ⟨#[]⟩, .int .u8 0, .bool false] 34 (0, 0))) := Lib.hid (((hu3.1.block w.heap.size (by have := HWS.out; have := HWL.out; omega) hnF).trans (HB2.out.block w.heap.size (by have := HWS.out; omega))).trans HX.out)
      have hx3 := (hu3.1.block W.heap.size HWL.out (fun hk => by have := HLT.out _ hk; have := HWS.out; omega)).trans HXB.out
      have k0 := cell_of_row _ _ 0 _ _ _ hx3
      have k1 := cell_of_row _ _ 1 _ _ _ hx3
      have k2 := cell_of_row _ _ 2 _ _ _ hx3
      have k3 := cell_of_row _ _ 3 _ _ _ hx3
      simp only [Msg.cells, List.getElem?_toArray, List.getElem?_cons_zero, List.getElem?_cons_succ] at k0 k1 k2 k3
      have HP3 := Lib.hid hp3
      have HU3 := Lib.hid (Upd.pre (HBW.out.trans (HB2.out.mono (by have := HWS.out; omega))) hu3)
      clear hp3 hu3 hx3
      go_wp2_with (first
        | (refine wpList_store_rowTo rfl 34 _ _ rfl rfl w.heap.size Msg.none.cells.toArray rfl rfl 34 _ HRB.out HMZ2.out rfl HM2.out ?_)
        | fail)
      have hms : Mod [w.heap.size] w3 (w3.setRow w.heap.size Msg.none.cells.toArray) := mod_setRow (Mod.refl _ _) (.inl (by simp)) _
      refine bodyPost_ret (results_row_tmp (cs := Msg.none.cells.toArray) rfl rfl (setRow_heap w3 w.heap.size _ Msg.none.cells.toArray _ _ HRB.out) Tryz.underlying34 rfl msg_size) rfl ⟨?_, HP3.out.mod hms (fun k hk hk' => by rw [List.mem_singleton.1 hk'] at hk; exact hnF hk), HU3.out.1.trans hms (fun k hk => .inr (by rw [List.mem_singleton.1 hk]; exact Nat.le_refl _)), HU3.out.2⟩
      rw [HLA.out, HLF.out]
      rfl
  · have hc' : (x.conn == 0) = false := by rw [beq_eq_false_iff_ne]; exact hc
    have hc2 : (x.conn != 0) = true := by simp [hc]
    cases hs with
    | false =>
      have HLF : Hid (losesB x = false) := Lib.hid (by rw [HLB.out, HHS.out]; rfl)
      have HMZ2 := Lib.hid (msg_size' Msg.none)
      have HM2 := Lib.hid (msg_one' Msg.none)
      go_enter Tryz.func34, Tryz.ntmps34
      go_upto_region 1 with fail
      try rw [hWW]
      clear hWW
      refine wp_region_held_drew (S := fun X => X.cell? ⟨s, 1, none⟩ = some (.int .i64 x.conn) ∧ X.cell? ⟨s, 3, none⟩ = some (.string x.will.t) ∧ X.cell? ⟨s, 4, none⟩ = some (.string x.will.p) ∧ X.cell? ⟨s, 5, none⟩ = some (.int .u8 x.will.q) ∧ X.cell? ⟨s, 6, none⟩ = some (.bool x.will.r) ∧ X.cell? ⟨s, 7, none⟩ = some (.bool false)) (by kernel_rfl) (HSX.out _ (by first | exact (Below.refl _ _).drew | exact Below.refl _ _)) (fun hHeld => ?_)
      refine tk 0 (v := ?_) ?_ hHeld ?_; rotate_left; · (intro w0 hS0; (try dsimp only at hS0); go_simp; try with_reducible rfl)
      simp only [tks]
      refine tk 1 (v := ?_) ?_ hHeld ?_; rotate_left; · (intro w0 hS0; (try dsimp only at hS0); go_simp; try with_reducible rfl)
      simp only [tks]
      refine tk 2 (v := ?_) ?_ hHeld ?_; rotate_left; · (intro w0 hS0; (try dsimp only at hS0); go_simp; try with_reducible rfl)
      simp only [tks]
      refine tk 3 (v := ?_) ?_ hHeld ?_; rotate_left; · (intro w0 hS0; (try dsimp only at hS0); go_simp; try with_reducible rfl)
      simp only [tks]
      refine tk 4 (v := ?_) ?_ hHeld ?_; rotate_left; · (intro w0 hS0; (try dsimp only at hS0); go_simp; try with_reducible rfl)
      simp only [tks]
      refine tk 5 (v := ?_) ?_ hHeld ?_; rotate_left; · (intro w0 hS0; (try dsimp only at hS0); go_simp; try with_reducible rfl)
      simp only [tks]
      refine tk 6 (v := ?_) ?_ hHeld ?_; rotate_left; · (intro w0 hS0; (try dsimp only at hS0); go_simp; try with_reducible rfl)
      simp only [tks]
      refine tk 7 (v := ?_) ?_ hHeld ?_; rotate_left; · (intro w0 hS0; (try dsimp only at hS0); go_simp; try with_reducible rfl)
      simp only [tks]
      refine tk 8 (v := ?_) ?_ hHeld ?_; rotate_left; · (intro w0 hS0; (try dsimp only at hS0); go_simp; try with_reducible rfl)
      simp only [tks]
      refine tsk 9 hHeld ?_
      simp only [tks]
      refine tsk 10 hHeld ?_
      simp only [tks]
      refine tsk 11 hHeld ?_
      simp only [tks]
      refine tsk 12 hHeld ?_
      simp only [tks]
      refine tsk 13 hHeld ?_
      simp only [tks]
      refine tk 14 (v := ?_) ?_ hHeld ?_; rotate_left; · (intro w0 hS0; (try dsimp only at hS0); go_simp; try with_reducible rfl)
      simp only [tks]
      refine wpAnyH_ready (rs := [15]) (by kernel_rfl) (by simp) ?_
      refine AllReadyH.cons rfl (fun K hK => ?_) AllReadyH.nil
      rw [if_pos (by rfl)]
      go_simp
      have HB1 : Hid (∀ o, Below W.heap.size W (W.alloc o).drew) := Lib.hid (fun o => (low_alloc W o).drew)
      have HX1 : Hid (∀ o, (W.alloc o).drew.heap[W.heap.size]? = some o) := Lib.hid (fun o => heap_alloc_new W o)
      refine hK.out _ _ (HSX.out _ (HB1.out _)) (fun hHeld => ?_)
      refine wpAnyH_ready (rs := [16]) (by kernel_rfl) (by simp) ?_
      refine AllReadyH.cons rfl (fun K hK => ?_) AllReadyH.nil
      rw [if_pos (by rfl)]
      refine wp_store_row 34 _ _ rfl W.heap.size x.will.cells.toArray rfl rfl 34 _ (HX1.out _) HMZ.out rfl HM1.out ?_
      have HB2 := Lib.hid (setRow_low (g := W.heap.size) (HB1.out (.cells #[.string ⟨#[]⟩, .string ⟨#[]⟩, .int .u8 0, .bool false] 34)) (Nat.le_refl _) x.will.cells.toArray)
      have HXB := Lib.hid (setRow_heap _ _ _ x.will.cells.toArray _ _ (HX1.out (.cells #[.string ⟨#[]⟩, .string ⟨#[]⟩, .int .u8 0, .bool false] 34)))
      refine hK.out _ _ (HSX.out _ HB2.out) (fun hHeld => ?_)
      refine tk 17 (v := ?_) ?_ hHeld ?_; rotate_left; · (intro w0 hS0; (try dsimp only at hS0); go_simp; try with_reducible rfl)
      simp only [tks]
      refine wpAnyH_done (by kernel_rfl) ?_ _
      clear hHeld HB1 HX1
      generalize (W.alloc (.cells #[.string ⟨#[]⟩, .string ⟨#[]⟩, .int .u8 0, .bool false] 34)).drew.setRow W.heap.size x.will.cells.toArray = W2 at *
      have HWL : Hid (W.heap.size < W2.heap.size) := Lib.hid (Array.getElem?_eq_some_iff.1 HXB.out).1
      go_wp2_with fail
      refine (dleave_any s x win most F W2 (HP.out.below HB2.out)).mono ?_
      rintro e w3 ⟨rfl, hp3, hu3⟩
      have HRB : Hid (w3.heap[w.heap.size]? = some (.cells #[.string ⟨#[]⟩, .string ⟨#[]⟩, .int .u8 0, .bool false] 34 (0, 0))) := Lib.hid (((hu3.1.block w.heap.size (by have := HWS.out; have := HWL.out; omega) hnF).trans (HB2.out.block w.heap.size (by have := HWS.out; omega))).trans HX.out)
      have hx3 := (hu3.1.block W.heap.size HWL.out (fun hk => by have := HLT.out _ hk; have := HWS.out; omega)).trans HXB.out
      have k0 := cell_of_row _ _ 0 _ _ _ hx3
      have k1 := cell_of_row _ _ 1 _ _ _ hx3
      have k2 := cell_of_row _ _ 2 _ _ _ hx3
      have k3 := cell_of_row _ _ 3 _ _ _ hx3
      simp only [Msg.cells, List.getElem?_toArray, List.getElem?_cons_zero, List.getElem?_cons_succ] at k0 k1 k2 k3
      have HP3 := Lib.hid hp3
      have HU3 := Lib.hid (Upd.pre (HBW.out.trans (HB2.out.mono (by have := HWS.out; omega))) hu3)
      clear hp3 hu3 hx3
      go_wp2_with (first
        | (refine wpList_store_rowTo rfl 34 _ _ rfl rfl w.heap.size Msg.none.cells.toArray rfl rfl 34 _ HRB.out HMZ2.out rfl HM2.out ?_)
        | fail)
      have hms : Mod [w.heap.size] w3 (w3.setRow w.heap.size Msg.none.cells.toArray) := mod_setRow (Mod.refl _ _) (.inl (by simp)) _
      refine bodyPost_ret (results_row_tmp (cs := Msg.none.cells.toArray) rfl rfl (setRow_heap w3 w.heap.size _ Msg.none.cells.toArray _ _ HRB.out) Tryz.underlying34 rfl msg_size) rfl ⟨?_, HP3.out.mod hms (fun k hk hk' => by rw [List.mem_singleton.1 hk'] at hk; exact hnF hk), HU3.out.1.trans hms (fun k hk => .inr (by rw [List.mem_singleton.1 hk]; exact Nat.le_refl _)), HU3.out.2⟩
      rw [HLA.out, HLF.out]
      rfl
    | true =>
      have HLF : Hid (losesB x = true) := Lib.hid (by rw [HLB.out, HHS.out, decide_eq_false hc]; rfl)
      have HMZ2 := HMZ
      have HM2 := HM1
      go_enter Tryz.func34, Tryz.ntmps34
      go_upto_region 1 with fail
      try rw [hWW]
      clear hWW
      refine wp_region_held_drew (S := fun X => X.cell? ⟨s, 1, none⟩ = some (.int .i64 x.conn) ∧ X.cell? ⟨s, 3, none⟩ = some (.string x.will.t) ∧ X.cell? ⟨s, 4, none⟩ = some (.string x.will.p) ∧ X.cell? ⟨s, 5, none⟩ = some (.int .u8 x.will.q) ∧ X.cell? ⟨s, 6, none⟩ = some (.bool x.will.r) ∧ X.cell? ⟨s, 7, none⟩ = some (.bool true)) (by kernel_rfl) (HSX.out _ (by first | exact (Below.refl _ _).drew | exact Below.refl _ _)) (fun hHeld => ?_)
      refine tk 0 (v := ?_) ?_ hHeld ?_; rotate_left; · (intro w0 hS0; (try dsimp only at hS0); go_simp; try with_reducible rfl)
      simp only [tks]
      refine tk 1 (v := ?_) ?_ hHeld ?_; rotate_left; · (intro w0 hS0; (try dsimp only at hS0); go_simp; try with_reducible rfl)
      simp only [tks]
      refine tk 2 (v := ?_) ?_ hHeld ?_; rotate_left; · (intro w0 hS0; (try dsimp only at hS0); go_simp; try with_reducible rfl)
      simp only [tks]
      refine tk 3 (v := ?_) ?_ hHeld ?_; rotate_left; · (intro w0 hS0; (try dsimp only at hS0); go_simp; try with_reducible rfl)
      simp only [tks]
      refine tk 4 (v := ?_) ?_ hHeld ?_; rotate_left; · (intro w0 hS0; (try dsimp only at hS0); go_simp; try with_reducible rfl)
      simp only [tks]
      refine tk 5 (v := ?_) ?_ hHeld ?_; rotate_left; · (intro w0 hS0; (try dsimp only at hS0); go_simp; try with_reducible rfl)
      simp only [tks]
      refine tk 6 (v := ?_) ?_ hHeld ?_; rotate_left; · (intro w0 hS0; (try dsimp only at hS0); go_simp; try with_reducible rfl)
      simp only [tks]
      refine tk 7 (v := ?_) ?_ hHeld ?_; rotate_left; · (intro w0 hS0; (try dsimp only at hS0); go_simp; try with_reducible rfl)
      simp only [tks]
      refine tk 8 (v := ?_) ?_ hHeld ?_; rotate_left; · (intro w0 hS0; (try dsimp only at hS0); go_simp; try with_reducible rfl)
      simp only [tks]
      refine tk 9 (v := ?_) ?_ hHeld ?_; rotate_left; · (intro w0 hS0; (try dsimp only at hS0); go_simp; try with_reducible rfl)
      simp only [tks]
      refine tk 10 (v := ?_) ?_ hHeld ?_; rotate_left; · (intro w0 hS0; (try dsimp only at hS0); go_simp; try with_reducible rfl)
      simp only [tks]
      refine tk 11 (v := ?_) ?_ hHeld ?_; rotate_left; · (intro w0 hS0; (try dsimp only at hS0); go_simp; try with_reducible rfl)
      simp only [tks]
      refine tk 12 (v := ?_) ?_ hHeld ?_; rotate_left; · (intro w0 hS0; (try dsimp only at hS0); go_simp; try with_reducible rfl)
      simp only [tks]
      refine tk 13 (v := ?_) ?_ hHeld ?_; rotate_left; · (intro w0 hS0; (try dsimp only at hS0); go_simp; try with_reducible rfl)
      simp only [tks]
      refine tk 14 (v := ?_) ?_ hHeld ?_; rotate_left; · (intro w0 hS0; (try dsimp only at hS0); go_simp; try with_reducible rfl)
      simp only [tks]
      refine wpAnyH_ready (rs := [15]) (by kernel_rfl) (by simp) ?_
      refine AllReadyH.cons rfl (fun K hK => ?_) AllReadyH.nil
      rw [if_pos (by rfl)]
      go_simp
      have HB1 : Hid (∀ o, Below W.heap.size W (W.alloc o).drew) := Lib.hid (fun o => (low_alloc W o).drew)
      have HX1 : Hid (∀ o, (W.alloc o).drew.heap[W.heap.size]? = some o) := Lib.hid (fun o => heap_alloc_new W o)
      refine hK.out _ _ (HSX.out _ (HB1.out _)) (fun hHeld => ?_)
      refine wpAnyH_ready (rs := [16]) (by kernel_rfl) (by simp) ?_
      refine AllReadyH.cons rfl (fun K hK => ?_) AllReadyH.nil
      rw [if_pos (by rfl)]
      refine wp_store_row 34 _ _ rfl W.heap.size x.will.cells.toArray rfl rfl 34 _ (HX1.out _) HMZ.out rfl HM1.out ?_
      have HB2 := Lib.hid (setRow_low (g := W.heap.size) (HB1.out (.cells #[.string ⟨#[]⟩, .string ⟨#[]⟩, .int .u8 0, .bool false] 34)) (Nat.le_refl _) x.will.cells.toArray)
      have HXB := Lib.hid (setRow_heap _ _ _ x.will.cells.toArray _ _ (HX1.out (.cells #[.string ⟨#[]⟩, .string ⟨#[]⟩, .int .u8 0, .bool false] 34)))
      refine hK.out _ _ (HSX.out _ HB2.out) (fun hHeld => ?_)
      refine tk 17 (v := ?_) ?_ hHeld ?_; rotate_left; · (intro w0 hS0; (try dsimp only at hS0); go_simp; try with_reducible rfl)
      simp only [tks]
      refine wpAnyH_done (by kernel_rfl) ?_ _
      clear hHeld HB1 HX1
      generalize (W.alloc (.cells #[.string ⟨#[]⟩, .string ⟨#[]⟩, .int .u8 0, .bool false] 34)).drew.setRow W.heap.size x.will.cells.toArray = W2 at *
      have HWL : Hid (W.heap.size < W2.heap.size) := Lib.hid (Array.getElem?_eq_some_iff.1 HXB.out).1
      go_wp2_with fail
      refine (dleave_any s x win most F W2 (HP.out.below HB2.out)).mono ?_
      rintro e w3 ⟨rfl, hp3, hu3⟩
      have HRB : Hid (w3.heap[w.heap.size]? = some (.cells #[.string ⟨#[]⟩, .string ⟨#[]⟩, .int .u8 0, .bool false] 34 (0, 0))) := Lib.hid (((hu3.1.block w.heap.size (by have := HWS.out; have := HWL.out; omega) hnF).trans (HB2.out.block w.heap.size (by have := HWS.out; omega))).trans HX.out)
      have hx3 := (hu3.1.block W.heap.size HWL.out (fun hk => by have := HLT.out _ hk; have := HWS.out; omega)).trans HXB.out
      have k0 := cell_of_row _ _ 0 _ _ _ hx3
      have k1 := cell_of_row _ _ 1 _ _ _ hx3
      have k2 := cell_of_row _ _ 2 _ _ _ hx3
      have k3 := cell_of_row _ _ 3 _ _ _ hx3
      simp only [Msg.cells, List.getElem?_toArray, List.getElem?_cons_zero, List.getElem?_cons_succ] at k0 k1 k2 k3
      have HP3 := Lib.hid hp3
      have HU3 := Lib.hid (Upd.pre (HBW.out.trans (HB2.out.mono (by have := HWS.out; omega))) hu3)
      clear hp3 hu3 hx3
      go_wp2_with (first
        | (refine wpList_store_rowTo rfl 34 _ _ rfl rfl w.heap.size x.will.cells.toArray rfl rfl 34 _ HRB.out HMZ2.out rfl HM2.out ?_)
        | fail)
      have hms : Mod [w.heap.size] w3 (w3.setRow w.heap.size x.will.cells.toArray) := mod_setRow (Mod.refl _ _) (.inl (by simp)) _
      refine bodyPost_ret (results_row_tmp (cs := x.will.cells.toArray) rfl rfl (setRow_heap w3 w.heap.size _ x.will.cells.toArray _ _ HRB.out) Tryz.underlying34 rfl msg_size) rfl ⟨?_, HP3.out.mod hms (fun k hk hk' => by rw [List.mem_singleton.1 hk'] at hk; exact hnF hk), HU3.out.1.trans hms (fun k hk => .inr (by rw [List.mem_singleton.1 hk]; exact Nat.le_refl _)), HU3.out.2⟩
      rw [HLA.out, HLF.out]
      rfl
end
section
open Go Go.RowKit

/-- what a Begin comes to -/
def DBeginDone (w w' : World) (s : Nat) (win most : Int) (F : List Nat) (e : Ending) (a : Bool × List (List UInt8)) (x' : SS) : Prop :=
  ∃ v F', e = .returned (.tuple #[.bool a.1, v]) ∧ w'.ownsRow w.heap.size 9 1 v a.2.length (namesV a.2) ∧ DSesRep w' s win most x' F' ∧ Upd F F' w w' ∧ Off F' v.ownBlock.toList
theorem dbegin_no {w w' : World} {s : Nat} {win most : Int} {F : List Nat} {x : SS} (h : DSesRep w s win most x F) (hb : Below w.heap.size w w') : DBeginDone w w' s win most F (.returned (.tuple #[.bool false, .slice none 0 0])) (false, []) x :=
  ⟨_, F, rfl, World.ownsRow_nil _ _ _ _, h.below hb, Upd.of_below hb, fun k _ => by simp [Value.ownBlock]⟩
theorem dbegun_no {w : World} {s lb tb cb : Nat} {x : SS} {T : TypeId} (conn : Int) (p : Pkt) (hw : p.hasWill = false) (h : w.heap[s]? = some (.cells (ssC x lb tb cb).toArray T (0, 0))) :
    (((((((w.setCell ⟨s, 1, none⟩ (.int .i64 conn)).setCell ⟨s, 2, none⟩ (.bool p.clean)).setCell ⟨s, 7, none⟩ (.bool p.hasWill)).setCell ⟨s, 3, none⟩ (.string ⟨#[]⟩)).setCell ⟨s, 4, none⟩ (.string ⟨#[]⟩)).setCell ⟨s, 5, none⟩ (.int .u8 0)).setCell ⟨s, 6, none⟩ (.bool false)).heap[s]? = some (.cells (ssC (begunS conn p x) lb tb cb).toArray T (0, 0)) ∧ Mod [s] w (((((((w.setCell ⟨s, 1, none⟩ (.int .i64 conn)).setCell ⟨s, 2, none⟩ (.bool p.clean)).setCell ⟨s, 7, none⟩ (.bool p.hasWill)).setCell ⟨s, 3, none⟩ (.string ⟨#[]⟩)).setCell ⟨s, 4, none⟩ (.string ⟨#[]⟩)).setCell ⟨s, 5, none⟩ (.int .u8 0)).setCell ⟨s, 6, none⟩ (.bool false)) := by
  have h0 := heap_setCell_same _ s 1 _ _ (.int .i64 conn) h
  have h1 := heap_setCell_same _ s 2 _ _ (.bool p.clean) h0
  have h2 := heap_setCell_same _ s 7 _ _ (.bool p.hasWill) h1
  have h3 := heap_setCell_same _ s 3 _ _ (.string ⟨#[]⟩) h2
  have h4 := heap_setCell_same _ s 4 _ _ (.string ⟨#[]⟩) h3
  have h5 := heap_setCell_same _ s 5 _ _ (.int .u8 0) h4
  have h6 := heap_setCell_same _ s 6 _ _ (.bool false) h5
  refine ⟨?_, ((((((set_mod w s 1 (.int .i64 conn)).trans (set_mod _ s 2 (.bool p.clean)) fun _ h => .inl h).trans (set_mod _ s 7 (.bool p.hasWill)) fun _ h => .inl h).trans (set_mod _ s 3 (.string ⟨#[]⟩)) fun _ h => .inl h).trans (set_mod _ s 4 (.string ⟨#[]⟩)) fun _ h => .inl h).trans (set_mod _ s 5 (.int .u8 0)) fun _ h => .inl h).trans (set_mod _ s 6 (.bool false)) fun _ h => .inl h⟩
  unfold begunS
  rw [hw] at h6 ⊢
  simpa [ssC, Msg.none] using h6
theorem dbegun_yes {w : World} {s lb tb cb : Nat} {x : SS} {T : TypeId} (conn : Int) (p : Pkt) (hw : p.hasWill = true) (h : w.heap[s]? = some (.cells (ssC x lb tb cb).toArray T (0, 0))) :
    (((((((((((w.setCell ⟨s, 1, none⟩ (.int .i64 conn)).setCell ⟨s, 2, none⟩ (.bool p.clean)).setCell ⟨s, 7, none⟩ (.bool p.hasWill)).setCell ⟨s, 3, none⟩ (.string ⟨#[]⟩)).setCell ⟨s, 4, none⟩ (.string ⟨#[]⟩)).setCell ⟨s, 5, none⟩ (.int .u8 0)).setCell ⟨s, 6, none⟩ (.bool false)).setCell ⟨s, 3, none⟩ (.string p.will.t)).setCell ⟨s, 4, none⟩ (.string p.will.p)).setCell ⟨s, 5, none⟩ (.int .u8 p.will.q)).setCell ⟨s, 6, none⟩ (.bool p.will.r)).heap[s]? = some (.cells (ssC (begunS conn p x) lb tb cb).toArray T (0, 0)) ∧ Mod [s] w (((((((((((w.setCell ⟨s, 1, none⟩ (.int .i64 conn)).setCell ⟨s, 2, none⟩ (.bool p.clean)).setCell ⟨s, 7, none⟩ (.bool p.hasWill)).setCell ⟨s, 3, none⟩ (.string ⟨#[]⟩)).setCell ⟨s, 4, none⟩ (.string ⟨#[]⟩)).setCell ⟨s, 5, none⟩ (.int .u8 0)).setCell ⟨s, 6, none⟩ (.bool false)).setCell ⟨s, 3, none⟩ (.string p.will.t)).setCell ⟨s, 4, none⟩ (.string p.will.p)).setCell ⟨s, 5, none⟩ (.int .u8 p.will.q)).setCell ⟨s, 6, none⟩ (.bool p.will.r)) := by
  have h0 := heap_setCell_same _ s 1 _ _ (.int .i64 conn) h
  have h1 := heap_setCell_same _ s 2 _ _ (.bool p.clean) h0
  have h2 := heap_setCell_same _ s 7 _ _ (.bool p.hasWill) h1
  have h3 := heap_setCell_same _ s 3 _ _ (.string ⟨#[]⟩) h2
  have h4 := heap_setCell_same _ s 4 _ _ (.string ⟨#[]⟩) h3
  have h5 := heap_setCell_same _ s 5 _ _ (.int .u8 0) h4
  have h6 := heap_setCell_same _ s 6 _ _ (.bool false) h5
  have h7 := heap_setCell_same _ s 3 _ _ (.string p.will.t) h6
  have h8 := heap_setCell_same _ s 4 _ _ (.string p.will.p) h7
  have h9 := heap_setCell_same _ s 5 _ _ (.int .u8 p.will.q) h8
  have h10 := heap_setCell_same _ s 6 _ _ (.bool p.will.r) h9
  refine ⟨?_, ((((((((((set_mod w s 1 (.int .i64 conn)).trans (set_mod _ s 2 (.bool p.clean)) fun _ h => .inl h).trans (set_mod _ s 7 (.bool p.hasWill)) fun _ h => .inl h).trans (set_mod _ s 3 (.string ⟨#[]⟩)) fun _ h => .inl h).trans (set_mod _ s 4 (.string ⟨#[]⟩)) fun _ h => .inl h).trans (set_mod _ s 5 (.int .u8 0)) fun _ h => .inl h).trans (set_mod _ s 6 (.bool false)) fun _ h => .inl h).trans (set_mod _ s 3 (.string p.will.t)) fun _ h => .inl h).trans (set_mod _ s 4 (.string p.will.p)) fun _ h => .inl h).trans (set_mod _ s 5 (.int .u8 p.will.q)) fun _ h => .inl h).trans (set_mod _ s 6 (.bool p.will.r)) fun _ h => .inl h⟩
  unfold begunS
  rw [hw] at h10 ⊢
  simpa [ssC, Msg.none] using h10
theorem dbegin_fin {w W w2 w3 : World} {s lb tb cb : Nat} {conn : Int} {p : Pkt} {x : SS} {win most : Int} {FL FO FC FL0 FO0 FC0 : List Nat} {v : Value} {a : Bool × List (List UInt8)} (hb : Below w.heap.size w W) (hu : Upd (sFoot s FL0 FO0 FC0) (sFoot s FL FO FC) W w2)
    (hp : DSParts w2 s lb tb cb x win most FL FO FC) (h : w3.heap[s]? = some (.cells (ssC (begunS conn p x) lb tb cb).toArray 82 (0, 0)) ∧ Mod [s] w2 w3)
    (ho : w2.ownsRow w.heap.size 9 1 v a.2.length (namesV a.2)) (hf : Off (sFoot s FL FO FC) v.ownBlock.toList) :
    DBeginDone w w3 s win most (sFoot s FL0 FO0 FC0) (.returned (.tuple #[.bool a.1, v])) a (begunS conn p x) := by
  obtain ⟨h3, hu3⟩ := hp.turnH (x' := begunS conn p x) h.2 h.1 rfl rfl rfl
  exact ⟨v, _, rfl, own_upd ho hu3 hf, ⟨lb, tb, cb, FL, FO, FC, h3, rfl⟩, Upd.pre hb (hu.trans' hu3), hf⟩
set_option maxRecDepth 100000 in
set_option maxHeartbeats 4000000 in
theorem dbegin_any (s : Nat) (x : SS) (win most : Int) (F : List Nat) (conn : Int) (p : Pkt) (w : World) (h : DSesRep w s win most x F) :
    Calls Tryz.prog 32 #[.pointer (some ⟨s, 0, none⟩), .int .i64 conn, .agg p.cells.toArray] w fun e w' => DBeginDone w w' s win most F e (beginA conn p x) (beginS conn p x) := by
  have hb := low_alloc w (.cells p.cells.toArray 37)
  have hX := heap_alloc_new w (.cells p.cells.toArray 37)
  have hnF : w.heap.size ∉ F := fun hk => by have := h.lt _ hk; omega
  have HH := Lib.hid h
  have HPK : Hid (∀ X : World, X.heap[w.heap.size]? = (w.alloc (.cells p.cells.toArray 37)).heap[w.heap.size]? → PkAt X w.heap.size p) := Lib.hid (fun X e => pkAt (e.trans hX))
  obtain ⟨W, hW⟩ : ∃ W, w.alloc (.cells p.cells.toArray 37) = W := ⟨_, rfl⟩
  have hnl : w.heap.size < W.heap.size := by rw [← hW]; simp
  rw [hW] at HPK hb
  obtain ⟨lb, tb, cb, FL, FO, FC, hp, rfl⟩ := h.below hb
  obtain ⟨p0, p8, p11, p12, p13, p14, p15⟩ := HPK.out W rfl
  have HB := Lib.hid hb
  have HNF := Lib.hid hnF
  have HP := Lib.hid hp
  obtain ⟨-, -, k2, -, -, -, -, -, k8, k9, k10⟩ := hp.cells
  have HMB : Hid (mayB conn p = (decide (1 ≤ conn) && decide (p.ty = 1))) := Lib.hid rfl
  have HFB : Hid (freshB p x = (x.clean || p.clean)) := Lib.hid rfl
  clear h hb hX hnF hp
  generalize p.cells.toArray = PC at *
  by_cases hcn : conn < 1
  · have HM : Hid (mayB conn p = false) := Lib.hid (by rw [HMB.out, decide_eq_false (by omega)]; rfl)
    go_enter Tryz.func32, Tryz.ntmps32
    go_wp2_with fail
    go_ret2
    rw [(begin_may HM.out).1, (begin_may HM.out).2]
    exact dbegin_no HH.out HB.out
  · by_cases hty : p.ty = 1
    · have HM : Hid (mayB conn p = true) := Lib.hid (by rw [HMB.out, decide_eq_true (by omega), decide_eq_true hty]; rfl)
      rw [hty] at p0
      clear hty
      obtain ⟨cl, hcl⟩ : ∃ b, x.clean = b := ⟨_, rfl⟩
      obtain ⟨pc, hpc⟩ : ∃ b, p.clean = b := ⟨_, rfl⟩
      obtain ⟨hw, hhw⟩ : ∃ b, p.hasWill = b := ⟨_, rfl⟩
      have HHW := Lib.hid hhw
      rw [hcl] at k2
      rw [hpc] at p8
      rw [hhw] at p11
      have HPC := Lib.hid hpc
      rw [hcl, hpc] at HFB
      clear hcl hpc hhw
      have hpbs : w.heap.size ≠ s := fun e => HNF.out (mem_sFoot.2 (.inl e))
      have hlbF : lb ∈ FL := by
        obtain ⟨_, _, G, -, -, -, -, -, -, -, e⟩ := HP.out.subs
        rw [e]; simp
      have hpbl : w.heap.size ∉ FL := fun e => HNF.out (mem_sFoot.2 (.inr (.inl e)))
      have hpbo : w.heap.size ∉ FO := fun e => HNF.out (mem_sFoot.2 (.inr (.inr (.inl e))))
      have hpbc : w.heap.size ∉ FC := fun e => HNF.out (mem_sFoot.2 (.inr (.inr (.inr e))))
      cases cl with
      | true =>
        have HF : Hid (freshB p x = true) := Lib.hid HFB.out
        go_enter Tryz.func32, Tryz.ntmps32
        go_wp2_with fail
        refine (dclear_any lb x.l FL W HP.out.subs).mono ?_
        rintro e w2 ⟨v, rfl, hov, hl2, hu2⟩
        obtain ⟨h2, hU2⟩ := HP.out.turnL hl2 hu2
        have hpb2 := hu2.1.block w.heap.size hnl hpbl
        have hs2 := hu2.1.size
        obtain ⟨-, -, -, -, -, -, -, -, -, k9, k10⟩ := h2.cells
        have H2 := Lib.hid h2
        have HU2 := Lib.hid hU2
        have HPB2 := Lib.hid hpb2
        have HOV := Lib.hid hov
        obtain ⟨va, vc, rfl, -, -, -⟩ := ownsRow_row hov
        clear hov hl2 hu2 h2 hU2 hpb2 p0 p8 p11 k2 k8
        go_wp2_with fail
        refine (dtreset_any tb win most x.o FO w2 H2.out.out).mono ?_
        rintro e w3 ⟨rfl, FO', ho3, hu3⟩
        obtain ⟨h3, hU3⟩ := H2.out.turnO ho3 hu3
        have hpb3 := (hu3.1.block w.heap.size (Nat.lt_of_lt_of_le hnl hs2) hpbo).trans HPB2.out
        have hs3 := Nat.le_trans hs2 hu3.1.size
        have hfv : Off FO (Value.slice va x.l.length vc).ownBlock.toList := fun k hk hk' => by
          have h1 := (HOV.out.lt k (Option.mem_toList.1 hk')).1
          have h2 := HP.out.out.lt k hk
          omega
        have hov3 := own_upd HOV.out hu3 hfv
        have hfv' : Off FO' (Value.slice va x.l.length vc).ownBlock.toList := hu3.off hfv fun k hk => (HOV.out.lt k (Option.mem_toList.1 hk)).2
        have HFV := Lib.hid hfv'
        obtain ⟨-, -, -, -, -, -, -, -, -, -, k10⟩ := h3.cells
        have H3 := Lib.hid h3
        have HU3 := Lib.hid (HU2.out.trans' hU3)
        have HPB3 := Lib.hid hpb3
        have HOV3 := Lib.hid hov3
        clear ho3 hu3 h3 hU3 hpb3 hfv hov3 hfv' k9
        go_wp2_with fail
        refine (tforget cb x.came FC w3 H3.out.came).mono ?_
        rintro e w4 ⟨rfl, FC', hc4, hu4⟩
        obtain ⟨h4, hU4⟩ := H3.out.turnC hc4 hu4
        have HPB : Hid (w4.heap[w.heap.size]? = W.heap[w.heap.size]?) := Lib.hid ((hu4.1.block w.heap.size (Nat.lt_of_lt_of_le hnl hs3) hpbc).trans HPB3.out)
        have hfc : Off FC (Value.slice va x.l.length vc).ownBlock.toList := fun k hk hk' => by
          have h1 := (HOV.out.lt k (Option.mem_toList.1 hk')).1
          have h2 := HP.out.came.lt k hk
          omega
        have hov4 := own_upd HOV3.out hu4 hfc
        have hfc' : Off FC' (Value.slice va x.l.length vc).ownBlock.toList := hu4.off hfc fun k hk => (HOV3.out.lt k (Option.mem_toList.1 hk)).2
        have HP5 := Lib.hid h4
        have HU4 := Lib.hid (HU3.out.trans' hU4)
        have HOV4 := Lib.hid hov4
        have HOF : Hid (Off (sFoot s [lb] FO' FC') (Value.slice va x.l.length vc).ownBlock.toList) := Lib.hid (fun k hk hk' => by
          have h1 := (HOV.out.lt k (Option.mem_toList.1 hk')).1
          rcases mem_sFoot.1 hk with h2 | h2 | h2 | h2
          · have := HP.out.lts; omega
          · have := HP.out.subs.lt k (by rw [List.mem_singleton.1 h2]; exact hlbF); omega
          · exact HFV.out k h2 hk'
          · exact hfc' k h2 hk')
        clear hc4 hu4 h4 hU4 hov4 hfc hfc' k10
        obtain ⟨d0, d1, d2, d3, d4, d5, d6, d7, -⟩ := HP5.out.cells
        have fr := fun k => HP5.out.free k
        obtain ⟨-, q8, q11, q12, q13, q14, q15⟩ := HPK.out _ HPB.out
        rw [HPC.out] at q8
        rw [HHW.out] at q11
        have hos : ∀ (k j : Nat) (X : World) (v : Value), (X.setCell ⟨s, k, none⟩ v).cell? ⟨w.heap.size, j, none⟩ = X.cell? ⟨w.heap.size, j, none⟩ := fun k j X v => World.cell?_of_block (heap_setCell_other X _ _ _ hpbs)
        cases hw with
        | false =>
          go_wp2_with fail
          go_ret2
          have hcs := dbegun_no (x := { x with l := [], o := OT.new, came := [] }) conn p HHW.out HP5.out.hd
          rw [HPC.out, HHW.out] at hcs
          rw [(begunS_fresh HM.out HF.out).1, (begunS_fresh HM.out HF.out).2]
          exact dbegin_fin (x := { x with l := [], o := OT.new, came := [] }) (a := (false, namesE x.l)) HB.out HU4.out HP5.out hcs (by rw [show (namesE x.l).length = x.l.length by simp [namesE]]; exact ownsRow_mono HOV4.out HB.out.size) HOF.out
        | true =>
          go_wp2_with fail
          go_ret2
          have hcs := dbegun_yes (x := { x with l := [], o := OT.new, came := [] }) conn p HHW.out HP5.out.hd
          rw [HPC.out, HHW.out] at hcs
          rw [(begunS_fresh HM.out HF.out).1, (begunS_fresh HM.out HF.out).2]
          exact dbegin_fin (x := { x with l := [], o := OT.new, came := [] }) (a := (false, namesE x.l)) HB.out HU4.out HP5.out hcs (by rw [show (namesE x.l).length = x.l.length by simp [namesE]]; exact ownsRow_mono HOV4.out HB.out.size) HOF.out
      | false =>
        cases pc with
        | true =>
          have HF : Hid (freshB p x = true) := Lib.hid HFB.out
          go_enter Tryz.func32, Tryz.ntmps32
          go_wp2_with fail
          refine (dclear_any lb x.l FL W HP.out.subs).mono ?_
          rintro e w2 ⟨v, rfl, hov, hl2, hu2⟩
          obtain ⟨h2, hU2⟩ := HP.out.turnL hl2 hu2
          have hpb2 := hu2.1.block w.heap.size hnl hpbl
          have hs2 := hu2.1.size
          obtain ⟨-, -, -, -, -, -, -, -, -, k9, k10⟩ := h2.cells
          have H2 := Lib.hid h2
          have HU2 := Lib.hid hU2
          have HPB2 := Lib.hid hpb2
          have HOV := Lib.hid hov
          obtain ⟨va, vc, rfl, -, -, -⟩ := ownsRow_row hov
          clear hov hl2 hu2 h2 hU2 hpb2 p0 p8 p11 k2 k8
          go_wp2_with fail
          refine (dtreset_any tb win most x.o FO w2 H2.out.out).mono ?_
          rintro e w3 ⟨rfl, FO', ho3, hu3⟩
          obtain ⟨h3, hU3⟩ := H2.out.turnO ho3 hu3
          have hpb3 := (hu3.1.block w.heap.size (Nat.lt_of_lt_of_le hnl hs2) hpbo).trans HPB2.out
          have hs3 := Nat.le_trans hs2 hu3.1.size
          have hfv : Off FO (Value.slice va x.l.length vc).ownBlock.toList := fun k hk hk' => by
            have h1 := (HOV.out.lt k (Option.mem_toList.1 hk')).1
            have h2 := HP.out.out.lt k hk
            omega
          have hov3 := own_upd HOV.out hu3 hfv
          have hfv' : Off FO' (Value.slice va x.l.length vc).ownBlock.toList := hu3.off hfv fun k hk => (HOV.out.lt k (Option.mem_toList.1 hk)).2
          have HFV := Lib.hid hfv'
          obtain ⟨-, -, -, -, -, -, -, -, -, -, k10⟩ := h3.cells
          have H3 := Lib.hid h3
          have HU3 := Lib.hid (HU2.out.trans' hU3)
          have HPB3 := Lib.hid hpb3
          have HOV3 := Lib.hid hov3
          clear ho3 hu3 h3 hU3 hpb3 hfv hov3 hfv' k9
          go_wp2_with fail
          refine (tforget cb x.came FC w3 H3.out.came).mono ?_
          rintro e w4 ⟨rfl, FC', hc4, hu4⟩
          obtain ⟨h4, hU4⟩ := H3.out.turnC hc4 hu4
          have HPB : Hid (w4.heap[w.heap.size]? = W.heap[w.heap.size]?) := Lib.hid ((hu4.1.block w.heap.size (Nat.lt_of_lt_of_le hnl hs3) hpbc).trans HPB3.out)
          have hfc : Off FC (Value.slice va x.l.length vc).ownBlock.toList := fun k hk hk' => by
            have h1 := (HOV.out.lt k (Option.mem_toList.1 hk')).1
            have h2 := HP.out.came.lt k hk
            omega
          have hov4 := own_upd HOV3.out hu4 hfc
          have hfc' : Off FC' (Value.slice va x.l.length vc).ownBlock.toList := hu4.off hfc fun k hk => (HOV3.out.lt k (Option.mem_toList.1 hk)).2
          have HP5 := Lib.hid h4
          have HU4 := Lib.hid (HU3.out.trans' hU4)
          have HOV4 := Lib.hid hov4
          have HOF : Hid (Off (sFoot s [lb] FO' FC') (Value.slice va x.l.length vc).ownBlock.toList) := Lib.hid (fun k hk hk' => by
            have h1 := (HOV.out.lt k (Option.mem_toList.1 hk')).1
            rcases mem_sFoot.1 hk with h2 | h2 | h2 | h2
            · have := HP.out.lts; omega
            · have := HP.out.subs.lt k (by rw [List.mem_singleton.1 h2]; exact hlbF); omega
            · exact HFV.out k h2 hk'
            · exact hfc' k h2 hk')
          clear hc4 hu4 h4 hU4 hov4 hfc hfc' k10
          obtain ⟨d0, d1, d2, d3, d4, d5, d6, d7, -⟩ := HP5.out.cells
          have fr := fun k => HP5.out.free k
          obtain ⟨-, q8, q11, q12, q13, q14, q15⟩ := HPK.out _ HPB.out
          rw [HPC.out] at q8
          rw [HHW.out] at q11
          have hos : ∀ (k j : Nat) (X : World) (v : Value), (X.setCell ⟨s, k, none⟩ v).cell? ⟨w.heap.size, j, none⟩ = X.cell? ⟨w.heap.size, j, none⟩ := fun k j X v => World.cell?_of_block (heap_setCell_other X _ _ _ hpbs)
          cases hw with
          | false =>
            go_wp2_with fail
            go_ret2
            have hcs := dbegun_no (x := { x with l := [], o := OT.new, came := [] }) conn p HHW.out HP5.out.hd
            rw [HPC.out, HHW.out] at hcs
            rw [(begunS_fresh HM.out HF.out).1, (begunS_fresh HM.out HF.out).2]
            exact dbegin_fin (x := { x with l := [], o := OT.new, came := [] }) (a := (false, namesE x.l)) HB.out HU4.out HP5.out hcs (by rw [show (namesE x.l).length = x.l.length by simp [namesE]]; exact ownsRow_mono HOV4.out HB.out.size) HOF.out
          | true =>
            go_wp2_with fail
            go_ret2
            have hcs := dbegun_yes (x := { x with l := [], o := OT.new, came := [] }) conn p HHW.out HP5.out.hd
            rw [HPC.out, HHW.out] at hcs
            rw [(begunS_fresh HM.out HF.out).1, (begunS_fresh HM.out HF.out).2]
            exact dbegin_fin (x := { x with l := [], o := OT.new, came := [] }) (a := (false, namesE x.l)) HB.out HU4.out HP5.out hcs (by rw [show (namesE x.l).length = x.l.length by simp [namesE]]; exact ownsRow_mono HOV4.out HB.out.size) HOF.out
        | false =>
          have HF : Hid (freshB p x = false) := Lib.hid HFB.out
          go_enter Tryz.func32, Tryz.ntmps32
          have HP5 := HP
          have HPB : Hid (W.heap[w.heap.size]? = W.heap[w.heap.size]?) := Lib.hid rfl
          obtain ⟨d0, d1, -, d3, d4, d5, d6, d7, -⟩ := HP5.out.cells
          have fr := fun k => HP5.out.free k
          obtain ⟨-, -, -, q12, q13, q14, q15⟩ := HPK.out _ HPB.out
          have hos : ∀ (k j : Nat) (X : World) (v : Value), (X.setCell ⟨s, k, none⟩ v).cell? ⟨w.heap.size, j, none⟩ = X.cell? ⟨w.heap.size, j, none⟩ := fun k j X v => World.cell?_of_block (heap_setCell_other X _ _ _ hpbs)
          cases hw with
          | false =>
            go_wp2_with fail
            go_ret2
            have hcs := dbegun_no (x := x) conn p HHW.out HP5.out.hd
            rw [HPC.out, HHW.out] at hcs
            rw [(begunS_eq HM.out HF.out).1, (begunS_eq HM.out HF.out).2]
            exact dbegin_fin (a := (true, [])) HB.out (Upd.refl _ _) HP5.out hcs (World.ownsRow_nil _ _ _ _) (fun k _ => by simp [Value.ownBlock])
          | true =>
            go_wp2_with fail
            go_ret2
            have hcs := dbegun_yes (x := x) conn p HHW.out HP5.out.hd
            rw [HPC.out, HHW.out] at hcs
            rw [(begunS_eq HM.out HF.out).1, (begunS_eq HM.out HF.out).2]
            exact dbegin_fin (a := (true, [])) HB.out (Upd.refl _ _) HP5.out hcs (World.ownsRow_nil _ _ _ _) (fun k _ => by simp [Value.ownBlock])
    · have hty' : (p.ty == 1) = false := by rw [beq_eq_false_iff_ne]; exact hty
      have HM : Hid (mayB conn p = false) := Lib.hid (by rw [HMB.out, decide_eq_false hty, Bool.and_false])
      clear hty
      go_enter Tryz.func32, Tryz.ntmps32
      go_wp2_with fail
      go_ret2
      rw [(begin_may HM.out).1, (begin_may HM.out).2]
      exact dbegin_no HH.out HB.out
end
end Go.Proofs.YtmkhagmjpbfieaaGreatDoor
