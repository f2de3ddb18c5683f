/- No model, and an empty one: what their calls answer (walked). -/
import Derived.Test.YthfeckndkmhieaaGreatDoorQR
import Derived.Laws.IdiomRangeMap
namespace Go.Proofs.YthfeckndkmhieaaGreatDoor
open Go Go.RowKit Go.Maps

/-- no model, or an empty one -/
def NoM (w : World) (p : Value) : Prop := p = .pointer none ∨ ∃ m, p = .pointer (some ⟨m, 0, none⟩) ∧ w.cell? ⟨m, 0, none⟩ = some (.map none) ∧ w.cell? ⟨m, 1, none⟩ = some (.pointer none)
theorem NoM.below {w w' : World} {p : Value} (h : NoM w p) (hb : Below w.heap.size w w') : NoM w' p := by
  rcases h with rfl | ⟨m, rfl, h0, h1⟩
  · exact .inl rfl
  · exact .inr ⟨m, rfl, (hb.cell (p := ⟨m, 0, none⟩) (World.block_lt_of_cell? _ _ h0)).trans h0, (hb.cell (p := ⟨m, 1, none⟩) (World.block_lt_of_cell? _ _ h1)).trans h1⟩
theorem nseat (p : Value) (c : ByteArray) (w : World) (h : NoM w p) (hc : c.size ≤ maxLen) : Calls Tryz.prog 31 #[p, .string c] w fun e w' => e = .returned (.pointer none) ∧ w = w' := by
  rcases h with rfl | ⟨m, rfl, h0, -⟩
  · exact mseat_nil c w
  · exact mseat_zero m c w h0 hc
theorem nhas (p : Value) (c : ByteArray) (w : World) (h : NoM w p) (hc : c.size ≤ maxLen) : Calls Tryz.prog 11 #[p, .string c] w fun e w' => e = .returned (.bool false) ∧ w = w' := by
  have HC := Lib.hid (nseat p c w h hc)
  clear h hc
  go_enter Tryz.func11, Tryz.ntmps11
  go_wp2_with fail
  refine HC.out.mono ?_
  rintro e w' ⟨rfl, rfl⟩
  go_wp2_with fail
  go_ret
  exact ⟨rfl, rfl⟩
theorem nconn (p : Value) (c : ByteArray) (w : World) (h : NoM w p) (hc : c.size ≤ maxLen) : Calls Tryz.prog 12 #[p, .string c] w fun e w' => e = .returned (.int .i64 0) ∧ w = w' := by
  have HC := Lib.hid (nseat p c w h hc)
  clear h hc
  go_enter Tryz.func12, Tryz.ntmps12
  go_wp2_with fail
  refine HC.out.mono ?_
  rintro e w' ⟨rfl, rfl⟩
  go_wp2_with fail
  go_ret
  exact ⟨rfl, rfl⟩
theorem nbest (p : Value) (c n : ByteArray) (w : World) (h : NoM w p) (hc : c.size ≤ maxLen) : Calls Tryz.prog 14 #[p, .string c, .string n] w fun e w' => e = .returned (.tuple #[.int .u8 0, .bool false]) ∧ w = w' := by
  have HC := Lib.hid (nseat p c w h hc)
  clear h hc
  go_enter Tryz.func14, Tryz.ntmps14
  go_wp2_with fail
  refine HC.out.mono ?_
  rintro e w' ⟨rfl, rfl⟩
  go_wp2_with fail
  go_ret2
  exact ⟨rfl, rfl⟩
theorem nkept (p : Value) (w : World) (h : NoM w p) : Calls Tryz.prog 13 #[p] w fun e w' => e = .returned (.slice none 0 0) ∧ w = w' := by
  rcases h with rfl | ⟨m, rfl, -, h1⟩
  · skip
    go_enter Tryz.func13, Tryz.ntmps13
    go_wp2_with fail
    go_ret
    exact ⟨rfl, rfl⟩
  · skip
    go_enter Tryz.func13, Tryz.ntmps13
    go_wp2_with fail
    refine (kall_nil w).mono ?_
    rintro e w' ⟨rfl, rfl⟩
    go_wp2_with fail
    go_ret
    exact ⟨rfl, rfl⟩
theorem nlists (p : Value) (w : World) (h : NoM w p) : Calls Tryz.prog 15 #[p] w fun e w' => e = .returned (.slice none 0 0) ∧ Below w.heap.size w w' := by
  rcases h with rfl | ⟨m, rfl, h0, -⟩
  · exact (mlists_nil w).mono fun _ _ ⟨he, hw⟩ => ⟨he, hw ▸ Below.refl _ _⟩
  · have hr := fun w => run_range_nilMap (P := Tryz.prog) w 42 _ _ Tryz.underlying42
    have hn := fun ty => run_next_nilMap (P := Tryz.prog) w ty 0 0 #[]
    have HS := Lib.hid (fun w => mownsort_any w.heap.size (.slice none 0 0) [] [] w (World.ownsRow_nil _ _ _ _) (by decide) List.Pairwise.nil (List.Perm.refl _))
    have HB := Lib.hid (low_alloc w (.mapIter none 0 #[] 0))
    go_enter Tryz.func15, Tryz.ntmps15
    go_wp2_with fail
    go_loopw [3, 4, 5] (fun v _ _ wr => v = .slice none 0 0 ∧ wr = w.alloc (.mapIter none 0 #[] 0)) (fun _ _ _ _ => 0)
    case atStart => exact ⟨rfl, rfl⟩
    case round =>
      obtain ⟨rfl, rfl⟩ := hrel
      go_wp2_with fail
      refine (HS.out _).mono ?_
      rintro e w' ⟨rfl, -, hg⟩
      have HB2 := Lib.hid (HB.out.grown hg HB.out.size (fun k hk => by cases hk))
      clear hg
      go_wp2_with fail
      go_ret
      exact ⟨rfl, HB2.out⟩
set_option maxRecDepth 100000 in
set_option maxHeartbeats 2000000 in
theorem napply (p : Value) (n : Note) (w : World) (h : NoM w p) : Calls Tryz.prog 19 #[p, .agg n.cells.toArray] w fun e w' => e = .returned (.tuple #[.string ⟨#[]⟩, .bool false, .bool false]) ∧ Below w.heap.size w w' := by
  have h1 := h.below (low_alloc w (.cells n.cells.toArray 32))
  have HB := Lib.hid (low_alloc w (.cells n.cells.toArray 32))
  have eqn := eqmap
  clear h
  generalize n.cells.toArray = NC at *
  rcases h1 with rfl | ⟨m, rfl, h0, -⟩
  · skip
    go_enter Tryz.func19, Tryz.ntmps19
    go_wp2_with fail
    go_ret3
    exact ⟨rfl, HB.out⟩
  · skip
    go_enter Tryz.func19, Tryz.ntmps19
    go_wp2_with fail
    go_ret3
    exact ⟨rfl, HB.out⟩
set_option maxRecDepth 100000 in
set_option maxHeartbeats 2000000 in
theorem napplies (p : Value) (x : Note) (w : World) (h : NoM w p) :
    Calls Tryz.prog 9 #[p, .agg x.cells.toArray, .string ⟨#[]⟩, .bool false, .bool false] w fun e w' => e = .returned (.bool true) ∧ Below w.heap.size w w' := by
  have HC := Lib.hid (napply p x _ (h.below (low_alloc w (.cells x.cells.toArray 32))))
  have HZ := Lib.hid (show (Tryz.prog.info? 32).map (·.size) = some x.cells.toArray.size by kernel_rfl)
  have HB := Lib.hid (low_alloc w (.cells x.cells.toArray 32))
  clear h
  generalize x.cells.toArray = NC at *
  have HNB := Lib.hid (heap_alloc_new w (.cells NC 32))
  go_enter Tryz.func9, Tryz.ntmps9
  go_wp2_with (first | (refine wpList_load_row rfl 32 _ rfl w.heap.size rfl 32 NC _ _ HNB.out Tryz.underlying32 rfl HZ.out ?_) | fail)
  refine HC.out.mono ?_
  rintro e w2 ⟨rfl, hk⟩
  have HK := Lib.hid (bnext HB.out (Nat.le_refl _) hk)
  clear hk
  go_wp2_with fail
  go_ret
  exact ⟨rfl, HK.out⟩
end Go.Proofs.YthfeckndkmhieaaGreatDoor
