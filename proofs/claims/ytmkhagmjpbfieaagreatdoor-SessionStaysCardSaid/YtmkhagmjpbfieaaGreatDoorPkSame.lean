/- Packets: packet.Same at two that are the same, without filters. -/
import Derived.Test.YtmkhagmjpbfieaaGreatDoorPkY
namespace Go.Proofs.YtmkhagmjpbfieaaGreatDoor
open Go Go.RowKit

set_option maxRecDepth 100000 in
set_option maxHeartbeats 2000000 in
theorem flat_neq (x : Pkt) (w : World) : (binOp .neq 133 (.agg (flatC x).toArray) (.agg (flatC x).toArray)).run Tryz.prog w = .ok (.bool false) w := by
  have hst : Tryz.prog.stoodInHeld 133 = false := by kernel_rfl
  have hgd : Tryz.prog.eqGuardType Tryz.prog.depth 133 = false := by kernel_rfl
  unfold flatC
  go_simp
set_option maxRecDepth 100000 in
set_option maxHeartbeats 4000000 in
theorem psame_any (x : Pkt) (w : World) (hs : x.subs = []) : Calls Tryz.prog 55 #[.agg x.cells.toArray, .agg x.cells.toArray] w fun e w' => e = .returned (.bool true) ∧ Below w.heap.size w w' := by
  have HBB : Hid (Below w.heap.size w ((w.alloc (.cells x.cells.toArray 37)).alloc (.cells x.cells.toArray 37))) := Lib.hid ((low_alloc w _).alloc (by simp) _)
  have hA : ((w.alloc (.cells x.cells.toArray 37)).alloc (.cells x.cells.toArray 37)).heap[w.heap.size]? = some (.cells x.cells.toArray 37 (0, 0)) := (Below.heap_alloc _ _ _ (by simp)).trans (heap_alloc_new w _)
  have hB : ((w.alloc (.cells x.cells.toArray 37)).alloc (.cells x.cells.toArray 37)).heap[w.heap.size + 1]? = some (.cells x.cells.toArray 37 (0, 0)) := by
    have := heap_alloc_new (w.alloc (.cells x.cells.toArray 37)) (.cells x.cells.toArray 37)
    rwa [World.size_alloc] at this
  obtain ⟨W, hW⟩ : ∃ W, (w.alloc (.cells x.cells.toArray 37)).alloc (.cells x.cells.toArray 37) = W := ⟨_, rfl⟩
  have hWs : W.heap.size = w.heap.size + 2 := by rw [← hW]; simp
  rw [hW] at hA hB HBB
  have HS : Hid (∀ X, Below W.heap.size W X → X.rangeAt w.heap.size 0 x.cells ∧ X.rangeAt (w.heap.size + 1) 0 x.cells ∧ X.cell? ⟨w.heap.size, 22, none⟩ = some (.slice x.subsA 0 x.subsC) ∧ X.cell? ⟨w.heap.size + 1, 22, none⟩ = some (.slice x.subsA 0 x.subsC)) := Lib.hid (fun X hX => by
    have h1 := (hX.block w.heap.size (by omega)).trans hA
    have h2 := (hX.block (w.heap.size + 1) (by omega)).trans hB
    refine ⟨range_blk h1, range_blk h2, ?_, ?_⟩
    · have := (pk_cells2 h1).2.2.2.2.2.2.2.2.2.2.2.2.2.2.2.1
      rwa [hs] at this
    · have := (pk_cells2 h2).2.2.2.2.2.2.2.2.2.2.2.2.2.2.2.1
      rwa [hs] at this)
  have HPL := Lib.hid (plain_any x)
  have HEQ := Lib.hid (flat_neq x)
  have HLS := Lib.hid (pk_size' x)
  generalize x.cells = XL at *
  generalize (flatC x).toArray = FC at *
  generalize x.subsA = sa at *
  generalize x.subsC = sc at *
  clear hA hB hs
  go_enter Tryz.func55, Tryz.ntmps55
  go_upto_region 1 with fail
  try rw [hW]
  clear hW
  refine wp_region_held_drew (S := fun X => X.rangeAt w.heap.size 0 XL ∧ X.rangeAt (w.heap.size + 1) 0 XL ∧ X.cell? ⟨w.heap.size, 22, none⟩ = some (.slice sa 0 sc) ∧ X.cell? ⟨w.heap.size + 1, 22, none⟩ = some (.slice sa 0 sc)) (by kernel_rfl) (HS.out W (Below.refl _ _)) (fun hHeld => ?_)
  refine wpAnyH_take (i := 0) (v := .agg XL.toArray) rfl (by kernel_rfl) (by kernel_rfl) (by kernel_rfl) (fun _ _ _ h => h) (Or.inl ⟨rfl, ?_⟩) hHeld ?_
  · intro w0 hS0
    exact exec_load_row rfl rfl hS0.1 Tryz.underlying37 rfl HLS.out
  simp only [List.getElem_toArray, List.getElem_cons_zero, Act.put, List.setIfInBounds_toArray, List.set_cons_zero, List.set_cons_succ]
  refine wpAnyH_take (i := 2) (v := .agg XL.toArray) rfl (by kernel_rfl) (by kernel_rfl) (by kernel_rfl) (fun _ _ _ h => h) (Or.inl ⟨rfl, ?_⟩) hHeld ?_
  · intro w0 hS0
    exact exec_load_row rfl rfl hS0.2.1 Tryz.underlying37 rfl HLS.out
  simp only [List.getElem_toArray, List.getElem_cons_zero, List.getElem_cons_succ, Act.put, List.setIfInBounds_toArray, List.set_cons_zero, List.set_cons_succ]
  refine wpAnyH_ready (rs := [1]) (by kernel_rfl) (by simp) ?_
  refine AllReadyH.cons rfl (fun K hK => ?_) AllReadyH.nil
  rw [if_pos (by rfl)]
  go_simp
  go_at_call 90
  refine (HPL.out _).mono ?_
  rintro e w1 ⟨rfl, hk⟩
  have HB1 : Hid (Below W.heap.size W w1) := Lib.hid (((Below.refl _ _).drew).trans hk)
  clear hk hHeld
  refine hK.out _ _ (HS.out _ HB1.out) (fun hHeld => ?_)
  have hs1 := HB1.out.size
  refine wpAnyH_ready (rs := [3]) (by kernel_rfl) (by simp) ?_
  refine AllReadyH.cons rfl (fun K hK => ?_) AllReadyH.nil
  rw [if_pos (by rfl)]
  go_simp
  go_at_call 90
  refine (HPL.out _).mono ?_
  rintro e w2 ⟨rfl, hk⟩
  have HB2 : Hid (Below W.heap.size W w2) := Lib.hid (HB1.out.trans (hk.mono hs1))
  clear hk hHeld
  refine hK.out _ _ (HS.out _ HB2.out) (fun hHeld => ?_)
  have hcmp := fun w => HEQ.out w
  refine wpAnyH_take (i := 4) (v := ?_) rfl (by kernel_rfl) (by kernel_rfl) (by kernel_rfl) (fun _ _ _ h => h) (Or.inl ⟨rfl, ?_⟩) hHeld ?_
  rotate_left
  · intro w0 hS0
    try dsimp only at hS0
    go_simp
    try with_reducible rfl
  simp only [List.getElem_toArray, List.getElem_cons_zero, List.getElem_cons_succ, Act.put, List.setIfInBounds_toArray, List.set_cons_zero, List.set_cons_succ]
  refine wpAnyH_take (i := 5) (v := ?_) rfl (by kernel_rfl) (by kernel_rfl) (by kernel_rfl) (fun _ _ _ h => h) (Or.inl ⟨rfl, ?_⟩) hHeld ?_
  rotate_left
  · intro w0 hS0
    try dsimp only at hS0
    go_simp
    try with_reducible rfl
  simp only [List.getElem_toArray, List.getElem_cons_zero, List.getElem_cons_succ, Act.put, List.setIfInBounds_toArray, List.set_cons_zero, List.set_cons_succ]
  refine wpAnyH_take (i := 6) (v := ?_) rfl (by kernel_rfl) (by kernel_rfl) (by kernel_rfl) (fun _ _ _ h => h) (Or.inl ⟨rfl, ?_⟩) hHeld ?_
  rotate_left
  · intro w0 hS0
    try dsimp only at hS0
    go_simp
    try with_reducible rfl
  simp only [List.getElem_toArray, List.getElem_cons_zero, List.getElem_cons_succ, Act.put, List.setIfInBounds_toArray, List.set_cons_zero, List.set_cons_succ]
  refine wpAnyH_take (i := 7) (v := ?_) rfl (by kernel_rfl) (by kernel_rfl) (by kernel_rfl) (fun _ _ _ h => h) (Or.inl ⟨rfl, ?_⟩) hHeld ?_
  rotate_left
  · intro w0 hS0
    try dsimp only at hS0
    go_simp
    try with_reducible rfl
  simp only [List.getElem_toArray, List.getElem_cons_zero, List.getElem_cons_succ, Act.put, List.setIfInBounds_toArray, List.set_cons_zero, List.set_cons_succ]
  refine wpAnyH_take (i := 8) (v := ?_) rfl (by kernel_rfl) (by kernel_rfl) (by kernel_rfl) (fun _ _ _ h => h) (Or.inl ⟨rfl, ?_⟩) hHeld ?_
  rotate_left
  · intro w0 hS0
    try dsimp only at hS0
    go_simp
    try with_reducible rfl
  simp only [List.getElem_toArray, List.getElem_cons_zero, List.getElem_cons_succ, Act.put, List.setIfInBounds_toArray, List.set_cons_zero, List.set_cons_succ]
  refine wpAnyH_take (i := 9) (v := ?_) rfl (by kernel_rfl) (by kernel_rfl) (by kernel_rfl) (fun _ _ _ h => h) (Or.inl ⟨rfl, ?_⟩) hHeld ?_
  rotate_left
  · intro w0 hS0
    try dsimp only at hS0
    go_simp
    try with_reducible rfl
  simp only [List.getElem_toArray, List.getElem_cons_zero, List.getElem_cons_succ, Act.put, List.setIfInBounds_toArray, List.set_cons_zero, List.set_cons_succ]
  refine wpAnyH_take (i := 10) (v := ?_) rfl (by kernel_rfl) (by kernel_rfl) (by kernel_rfl) (fun _ _ _ h => h) (Or.inl ⟨rfl, ?_⟩) hHeld ?_
  rotate_left
  · intro w0 hS0
    try dsimp only at hS0
    go_simp
    try with_reducible rfl
  simp only [List.getElem_toArray, List.getElem_cons_zero, List.getElem_cons_succ, Act.put, List.setIfInBounds_toArray, List.set_cons_zero, List.set_cons_succ]
  refine wpAnyH_take (i := 11) (v := ?_) rfl (by kernel_rfl) (by kernel_rfl) (by kernel_rfl) (fun _ _ _ h => h) (Or.inl ⟨rfl, ?_⟩) hHeld ?_
  rotate_left
  · intro w0 hS0
    try dsimp only at hS0
    go_simp
    try with_reducible rfl
  simp only [List.getElem_toArray, List.getElem_cons_zero, List.getElem_cons_succ, Act.put, List.setIfInBounds_toArray, List.set_cons_zero, List.set_cons_succ]
  refine wpAnyH_take (i := 12) (v := ?_) rfl (by kernel_rfl) (by kernel_rfl) (by kernel_rfl) (fun _ _ _ h => h) (Or.inl ⟨rfl, ?_⟩) hHeld ?_
  rotate_left
  · intro w0 hS0
    try dsimp only at hS0
    go_simp
    try with_reducible rfl
  simp only [List.getElem_toArray, List.getElem_cons_zero, List.getElem_cons_succ, Act.put, List.setIfInBounds_toArray, List.set_cons_zero, List.set_cons_succ]
  refine wpAnyH_take (i := 13) (v := ?_) rfl (by kernel_rfl) (by kernel_rfl) (by kernel_rfl) (fun _ _ _ h => h) (Or.inl ⟨rfl, ?_⟩) hHeld ?_
  rotate_left
  · intro w0 hS0
    try dsimp only at hS0
    go_simp
    try with_reducible rfl
  simp only [List.getElem_toArray, List.getElem_cons_zero, List.getElem_cons_succ, Act.put, List.setIfInBounds_toArray, List.set_cons_zero, List.set_cons_succ]
  refine wpAnyH_done (by kernel_rfl) ?_ _
  clear hHeld hcmp
  obtain ⟨-, -, s1, s2⟩ := HS.out _ HB2.out
  go_wp2_with fail
  go_loopw [24] (fun i wr => i = .int .i64 0 ∧ w2 = wr) (fun _ _ => 0)
  case atStart => exact ⟨rfl, rfl⟩
  case round =>
    obtain ⟨rfl, rfl⟩ := hrel
    go_wp2_with fail
    go_ret
    exact ⟨rfl, HBB.out.trans (HB2.out.mono (by omega))⟩
end Go.Proofs.YtmkhagmjpbfieaaGreatDoor
