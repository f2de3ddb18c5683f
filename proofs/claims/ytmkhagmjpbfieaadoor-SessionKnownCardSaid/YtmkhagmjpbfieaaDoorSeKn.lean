/- No session, and the empty one: Lose, Begin, begins walked. -/
import Derived.Test.YtmkhagmjpbfieaaDoorSeAX
namespace Go.Proofs.YtmkhagmjpbfieaaDoor
open Go Go.RowKit

set_option maxRecDepth 100000 in
theorem lose_nil (w : World) : Calls Tryd.prog 19 #[.pointer none] w fun e w' => e = .returned (.tuple #[Msg.none.val, .bool false]) ∧ Below w.heap.size w w' := by
  go_enter_defers Tryd.func19, Tryd.ntmps19
  go_wp2_with fail
  exact ⟨_, results_row_tmp rfl (g := w.heap.size) (d := _) rfl (heap_alloc_new w _) Tryd.underlying30 rfl (by kernel_rfl), rfl, low_alloc _ _⟩
set_option maxRecDepth 100000 in
theorem begin_nil (conn : Int) (p : Pkt) (w : World) : Calls Tryd.prog 26 #[.pointer none, .int .i64 conn, .agg p.cells.toArray] w fun e w' => e = .returned (.tuple #[.bool false, .slice none 0 0]) ∧ Below w.heap.size w w' := by
  have HB := Lib.hid (low_alloc w (.cells p.cells.toArray 33))
  generalize p.cells.toArray = PC at *
  go_enter Tryd.func26, Tryd.ntmps26
  go_wp2_with fail
  go_ret2
  exact ⟨rfl, HB.out⟩
/-- the empty session's cells, behind a connection -/
def zC (n : Int) : List Value := [.string ⟨#[]⟩, .int .i64 n, .bool false, .string ⟨#[]⟩, .string ⟨#[]⟩, .int .u8 0, .bool false, .bool false, .pointer none, .pointer none, .pointer none]
structure ZAt (w : World) (s : Nat) (n : Int) : Prop where
  hd : w.heap[s]? = some (.cells (zC n).toArray 40 (0, 0))
theorem ZAt.cells {w : World} {s : Nat} {n : Int} (h : ZAt w s n) : w.cell? ⟨s, 1, none⟩ = some (.int .i64 n) ∧ w.cell? ⟨s, 2, none⟩ = some (.bool false) ∧ w.cell? ⟨s, 3, none⟩ = some (.string ⟨#[]⟩) ∧ w.cell? ⟨s, 4, none⟩ = some (.string ⟨#[]⟩) ∧ w.cell? ⟨s, 5, none⟩ = some (.int .u8 0) ∧ w.cell? ⟨s, 6, none⟩ = some (.bool false) ∧ w.cell? ⟨s, 7, none⟩ = some (.bool false) ∧ w.cell? ⟨s, 9, none⟩ = some (.pointer none) :=
  ⟨cell_of_row _ _ 1 _ _ _ h.hd, cell_of_row _ _ 2 _ _ _ h.hd, cell_of_row _ _ 3 _ _ _ h.hd, cell_of_row _ _ 4 _ _ _ h.hd, cell_of_row _ _ 5 _ _ _ h.hd, cell_of_row _ _ 6 _ _ _ h.hd, cell_of_row _ _ 7 _ _ _ h.hd, cell_of_row _ _ 9 _ _ _ h.hd⟩
theorem ZAt.free {w : World} {s : Nat} {n : Int} (h : ZAt w s n) (k : Nat) : w.frozen? ⟨s, k, none⟩ = false := frozen_of_row _ _ _ _ _ h.hd
theorem ZAt.lt {w : World} {s : Nat} {n : Int} (h : ZAt w s n) : s < w.heap.size := (Array.getElem?_eq_some_iff.1 h.hd).1
theorem ZAt.mod {w w' : World} {s : Nat} {n : Int} (h : ZAt w s n) (hb : Below w.heap.size w w') : ZAt w' s n := ⟨(hb.block s h.lt).trans h.hd⟩
theorem zend_cells {w : World} {s : Nat} {n : Int} (h : ZAt w s n) :
    ZAt ((((((w.setCell ⟨s, 1, none⟩ (.int .i64 0)).setCell ⟨s, 3, none⟩ (.string ⟨#[]⟩)).setCell ⟨s, 4, none⟩ (.string ⟨#[]⟩)).setCell ⟨s, 5, none⟩ (.int .u8 0)).setCell ⟨s, 6, none⟩ (.bool false)).setCell ⟨s, 7, none⟩ (.bool false)) s 0 := by
  have h1 := heap_setCell_same _ s 1 _ _ (.int .i64 0) h.hd
  have h2 := heap_setCell_same _ s 3 _ _ (.string ⟨#[]⟩) h1
  have h3 := heap_setCell_same _ s 4 _ _ (.string ⟨#[]⟩) h2
  have h4 := heap_setCell_same _ s 5 _ _ (.int .u8 0) h3
  have h5 := heap_setCell_same _ s 6 _ _ (.bool false) h4
  have h6 := heap_setCell_same _ s 7 _ _ (.bool false) h5
  exact ⟨h6⟩
theorem send_zero (s : Nat) (n : Int) (w : World) (h : ZAt w s n) :
    Calls Tryd.prog 37 #[.pointer (some ⟨s, 0, none⟩)] w fun e w' => e = .returned (.tuple #[]) ∧ ZAt w' s 0 ∧ Mod [s] w w' := by
  obtain ⟨c1, c2, c3, c4, c5, c6, c7, -⟩ := h.cells
  have fr := fun k => h.free k
  have HE := Lib.hid (zend_cells h)
  clear h
  go_enter Tryd.func37, Tryd.ntmps37
  go_wp2_with fail
  go_end0
  have hm := ((((((set_mod w s 1 (.int .i64 0)).trans (set_mod _ s 3 (.string ⟨#[]⟩)) fun _ h => .inl h).trans (set_mod _ s 4 (.string ⟨#[]⟩)) fun _ h => .inl h).trans (set_mod _ s 5 (.int .u8 0)) fun _ h => .inl h).trans (set_mod _ s 6 (.bool false)) fun _ h => .inl h).trans (set_mod _ s 7 (.bool false)) fun _ h => .inl h)
  exact ⟨rfl, HE.out, hm⟩
set_option maxRecDepth 100000 in
theorem begin_zero (s : Nat) (w : World) (h : ZAt w s 0) :
    Calls Tryd.prog 26 #[.pointer (some ⟨s, 0, none⟩), .int .i64 1, .agg (conK false).cells.toArray] w fun e w' => e = .returned (.tuple #[.bool true, .slice none 0 0]) ∧ ZAt w' s 1 ∧ Mod [s] w w' := by
  have hb := low_alloc w (.cells (conK false).cells.toArray 33)
  have hX := heap_alloc_new w (.cells (conK false).cells.toArray 33)
  have hpbs : w.heap.size ≠ s := fun e => by have := h.lt; omega
  obtain ⟨W, hW⟩ : ∃ W, w.alloc (.cells (conK false).cells.toArray 33) = W := ⟨_, rfl⟩
  have hnl : w.heap.size < W.heap.size := by rw [← hW]; simp
  rw [hW] at hX hb
  have HPK : Hid (∀ X : World, X.heap[w.heap.size]? = W.heap[w.heap.size]? → PkAt X w.heap.size (conK false)) := Lib.hid (fun X e => pkAt (e.trans hX))
  obtain ⟨p0, p8, p11, -, -, -, -⟩ := HPK.out W rfl
  replace p0 : W.cell? ⟨w.heap.size, 0, none⟩ = some (.int .u8 1) := p0
  replace p8 : W.cell? ⟨w.heap.size, 8, none⟩ = some (.bool false) := p8
  have h1 := h.mod hb
  obtain ⟨-, k2, -⟩ := h1.cells
  have HE2 := Lib.hid (send_zero s 0 W h1)
  have HB := Lib.hid hb
  clear h h1 hb hX p11
  generalize (conK false).cells.toArray = PC at *
  go_enter Tryd.func26, Tryd.ntmps26
  go_wp2_with fail
  refine HE2.out.mono ?_
  rintro e w5 ⟨rfl, hz5, hm5⟩
  have hpb5 := (hm5.block w.heap.size hnl (by simpa using hpbs))
  obtain ⟨-, q8, q11, -, -, -, -⟩ := HPK.out _ hpb5
  replace q8 : w5.cell? ⟨w.heap.size, 8, none⟩ = some (.bool false) := q8
  replace q11 : w5.cell? ⟨w.heap.size, 11, none⟩ = some (.bool false) := q11
  obtain ⟨d1, d2, d3, d4, d5, d6, d7, -⟩ := hz5.cells
  have fr := fun k => hz5.free k
  have HZ5 := Lib.hid hz5
  have HM5 := Lib.hid hm5
  have hos : ∀ (k j : Nat) (X : World) (v : Value), (X.setCell ⟨s, k, none⟩ v).cell? ⟨w.heap.size, j, none⟩ = X.cell? ⟨w.heap.size, j, none⟩ := fun k j X v => World.cell?_of_block (heap_setCell_other X _ _ _ hpbs)
  clear hz5 hm5 hpb5
  go_wp2_with fail
  go_ret2
  have h1 := heap_setCell_same _ s 1 _ _ (.int .i64 1) HZ5.out.hd
  have h2 := heap_setCell_same _ s 2 _ _ (.bool false) h1
  exact ⟨rfl, ⟨h2⟩, ((Mod.of_below HB.out _).trans HM5.out fun _ hk => .inl hk).trans (begun_mod _ _ _ _) fun _ hk => .inl hk⟩
set_option maxRecDepth 100000 in
theorem begins_nil (w : World) : Calls Tryd.prog 7 #[.pointer none, .int .i64 1, .agg (conK true).cells.toArray, .bool false, .slice none 0 0] w fun e w' => e = .returned (.bool true) ∧ Below w.heap.size w w' := by
  have hb := low_alloc w (.cells (conK true).cells.toArray 33)
  have HX := Lib.hid (heap_alloc_new w (.cells (conK true).cells.toArray 33))
  have HLS := Lib.hid (pk_size (conK true))
  have HC := Lib.hid (begin_nil 1 (conK true))
  have HT := Lib.hid (fun W => texts_same none none 0 0 [] W (.inl rfl) (.inl rfl) (by simp))
  have HBW := Lib.hid hb
  clear hb
  generalize (conK true).cells = PL at *
  go_enter Tryd.func7, Tryd.ntmps7
  go_wp2_with (first
    | (refine wpList_load_row rfl 33 _ rfl w.heap.size rfl 33 PL.toArray _ _ HX.out Tryd.underlying33 rfl HLS.out ?_)
    | fail)
  refine (HC.out _).mono ?_
  rintro e w2 ⟨rfl, hk⟩
  have HU := Lib.hid (bnext HBW.out (Nat.le_refl _) hk)
  clear hk
  go_wp2_with fail
  refine (HT.out _).mono ?_
  rintro e w3 ⟨rfl, hk⟩
  have HU3 := Lib.hid (bnext HU.out (Nat.le_refl _) hk)
  clear hk
  go_wp2_with fail
  go_ret
  exact ⟨rfl, HU3.out⟩
set_option maxRecDepth 100000 in
theorem begins_zero (s : Nat) (w : World) (h : ZAt w s 0) : Calls Tryd.prog 7 #[.pointer (some ⟨s, 0, none⟩), .int .i64 1, .agg (conK false).cells.toArray, .bool true, .slice none 0 0] w fun e w' => e = .returned (.bool true) ∧ ZAt w' s 1 ∧ Mod [s] w w' := by
  have hb := low_alloc w (.cells (conK false).cells.toArray 33)
  have HX := Lib.hid (heap_alloc_new w (.cells (conK false).cells.toArray 33))
  have HLS := Lib.hid (pk_size (conK false))
  have HC := Lib.hid (begin_zero s _ (h.mod hb))
  have HT := Lib.hid (fun W => texts_same none none 0 0 [] W (.inl rfl) (.inl rfl) (by simp))
  have HBW := Lib.hid hb
  clear hb h
  generalize (conK false).cells = PL at *
  go_enter Tryd.func7, Tryd.ntmps7
  go_wp2_with (first
    | (refine wpList_load_row rfl 33 _ rfl w.heap.size rfl 33 PL.toArray _ _ HX.out Tryd.underlying33 rfl HLS.out ?_)
    | fail)
  refine HC.out.mono ?_
  rintro e w2 ⟨rfl, hz, hm⟩
  have HZ := Lib.hid hz
  have HM := Lib.hid ((Mod.of_below HBW.out _).trans hm fun _ hk => .inl hk)
  clear hz hm
  go_wp2_with fail
  refine (HT.out _).mono ?_
  rintro e w3 ⟨rfl, hk⟩
  have HZ3 := Lib.hid (HZ.out.mod hk)
  have HM3 := Lib.hid (HM.out.trans (Mod.of_below hk _) fun _ hk => .inl hk)
  clear hk
  go_wp2_with fail
  go_ret
  exact ⟨rfl, HZ3.out, HM3.out⟩
end Go.Proofs.YtmkhagmjpbfieaaDoor
