/- The document's model: Apply of an UNSUBSCRIBE. The document's model: Apply of a SUBSCRIBE. -/
import Derived.Test.YthfeckndkmhieaaGreatDoorMD13
import Derived.Test.YthfeckndkmhieaaGreatDoorQN
namespace Go.Proofs.YthfeckndkmhieaaGreatDoor
section
open Go Go.RowKit Go.Maps

set_option maxRecDepth 100000 in
set_option maxHeartbeats 4000000 in
theorem dapply_unsub (r kg : Nat) (v : Value) (KF : List Nat) (bl : Str → Nat × List Nat) (s : MS) (n : Note) (w : World) (h : DParts w r kg v KF bl s) (hl : s.seats.length < 1000000) (hU : KeyU s.seats) (hk : n.kind = 2) (x : Seat) (ho : lookS n.client.data.toList s.seats = some x) (hc1 : ¬ n.conn < 1) (hc2 : x.conn = n.conn) (hn : NoteOk n) (hrw : Beside w (footD r v KF bl s.seats) n.pk.subsA (subsV n.pk.subs)) (ht : n.pk.ty = 10) :
    Calls Tryz.prog 20 #[.pointer (some ⟨r, 0, none⟩), .agg n.cells.toArray] w (DApplyQ r kg v KF bl s n w) := by
  have HE : Hid (applyM n s = ((does1 n n.client.data.toList x s.seats).1, ⟨(does1 n n.client.data.toList x s.seats).2, s.kept⟩)) := Lib.hid (does_own hk (by omega) ho hc1 hc2)
  have hnew := heap_alloc_new w (.cells n.cells.toArray 32)
  have hba := (Below.refl w.heap.size w).alloc (Nat.le_refl _) (.cells n.cells.toArray 32)
  have h1 := h.below hba
  obtain ⟨n0, n2, n3, n4, -, n26, -⟩ := note_cell hnew
  obtain ⟨a, cp, hv, c0, -, hrow⟩ := h1.held
  have HB := Lib.hid hba
  have HP := Lib.hid h1
  have HF := Lib.hid (dfind_any r n.client.data.toList s.seats bl a cp _ c0 hrow hl)
  rw [str_mk] at HF
  obtain ⟨k, hp⟩ : ∃ k, posS n.client.data.toList s.seats = some k := by
    cases hp : posS n.client.data.toList s.seats with
    | none => rw [posS_none.1 hp] at ho; cases ho
    | some k => exact ⟨k, rfl⟩
  rw [findI_some hp] at HF
  obtain ⟨y, hy, hyc, hlk⟩ := posS_some hp
  have hyx : y.2 = x := by rw [hlk] at ho; exact Option.some.inj ho
  obtain ⟨b1, o1, rfl, d0, d1, d2, d3⟩ := seats_row hrow hy
  rw [hyx, hc2] at d1
  have hkl : k < s.seats.length := (List.getElem?_eq_some_iff.1 hy).1
  have hk0 : (0 : Int) ≤ k := by omega
  have hk1 : (k : Int) < s.seats.length := by omega
  have hk2 : ¬ (k : Int) < 0 := by omega
  have hcd : decide (n.conn < 1) = false := decide_eq_false hc1
  have HRW := Lib.hid hrw
  have HUU := Lib.hid hU
  have HPOS := Lib.hid hp
  have HO := Lib.hid ho
  have HY := Lib.hid hy
  have HYC := Lib.hid hyc
  have HV := Lib.hid hv
  clear hv hnew h1 hba hp hlk hyx hrow ho hrw hU hy hyc
  have HE2 : Hid (does1 n n.client.data.toList x s.seats = (([], false, true), turnS n.client.data.toList { x with l := dropGo n.pk.subs x.l } s.seats)) := Lib.hid (by
    unfold does1
    rw [if_neg (by omega), if_pos ht])
  rw [ht] at n4
  clear ht
  go_enter Tryz.func20, Tryz.ntmps20
  go_wp2_with fail
  refine HF.out.mono ?_
  rintro e w' ⟨rfl, rfl⟩
  go_wp2_with fail
  refine wp_region_held_drew (S := fun X => X.cell? ⟨w.heap.size, 2, none⟩ = some (.int .i64 n.conn) ∧ X.cell? ⟨r, 0, none⟩ = some (.slice (some ⟨b1, o1, none⟩) s.seats.length cp) ∧ X.cell? ⟨b1, o1 + k * 4 + 1, none⟩ = some (.int .i64 n.conn)) (by kernel_rfl) ⟨n2, c0, d1⟩ (fun hHeld => ?_)
  refine wpAnyH_take (i := 0) (v := ?_) rfl (by kernel_rfl) (by kernel_rfl) (by kernel_rfl) (fun _ _ _ h => h) (Or.inl ⟨rfl, ?_⟩) hHeld ?_
  rotate_left
  · intro w0 hS0
    try dsimp only at hS0
    go_simp
    try with_reducible rfl
  simp only [List.getElem_toArray, List.getElem_cons_zero, Act.put, List.setIfInBounds_toArray, List.set_cons_zero, List.set_cons_succ]
  refine wpAnyH_take (i := 1) (v := ?_) rfl (by kernel_rfl) (by kernel_rfl) (by kernel_rfl) (fun _ _ _ h => h) (Or.inl ⟨rfl, ?_⟩) hHeld ?_
  rotate_left
  · intro w0 hS0
    try dsimp only at hS0
    go_simp
    try with_reducible rfl
  simp only [List.getElem_toArray, List.getElem_cons_zero, List.getElem_cons_succ, Act.put, List.setIfInBounds_toArray, List.set_cons_zero, List.set_cons_succ]
  refine wpAnyH_take (i := 2) (v := ?_) rfl (by kernel_rfl) (by kernel_rfl) (by kernel_rfl) (fun _ _ _ h => h) (Or.inl ⟨rfl, ?_⟩) hHeld ?_
  rotate_left
  · intro w0 hS0
    try dsimp only at hS0
    go_simp
    try with_reducible rfl
  simp only [List.getElem_toArray, List.getElem_cons_zero, List.getElem_cons_succ, Act.put, List.setIfInBounds_toArray, List.set_cons_zero, List.set_cons_succ]
  refine wpAnyH_take (i := 3) (v := ?_) rfl (by kernel_rfl) (by kernel_rfl) (by kernel_rfl) (fun _ _ _ h => h) (Or.inl ⟨rfl, ?_⟩) hHeld ?_
  rotate_left
  · intro w0 hS0
    try dsimp only at hS0
    go_simp
    try with_reducible rfl
  simp only [List.getElem_toArray, List.getElem_cons_zero, List.getElem_cons_succ, Act.put, List.setIfInBounds_toArray, List.set_cons_zero, List.set_cons_succ]
  refine wpAnyH_take (i := 4) (v := ?_) rfl (by kernel_rfl) (by kernel_rfl) (by kernel_rfl) (fun _ _ _ h => h) (Or.inl ⟨rfl, ?_⟩) hHeld ?_
  rotate_left
  · intro w0 hS0
    try dsimp only at hS0
    go_simp
    try with_reducible rfl
  simp only [List.getElem_toArray, List.getElem_cons_zero, List.getElem_cons_succ, Act.put, List.setIfInBounds_toArray, List.set_cons_zero, List.set_cons_succ]
  refine wpAnyH_take (i := 5) (v := ?_) rfl (by kernel_rfl) (by kernel_rfl) (by kernel_rfl) (fun _ _ _ h => h) (Or.inl ⟨rfl, ?_⟩) hHeld ?_
  rotate_left
  · intro w0 hS0
    try dsimp only at hS0
    go_simp
    try with_reducible rfl
  simp only [List.getElem_toArray, List.getElem_cons_zero, List.getElem_cons_succ, Act.put, List.setIfInBounds_toArray, List.set_cons_zero, List.set_cons_succ]
  refine wpAnyH_take (i := 6) (v := ?_) rfl (by kernel_rfl) (by kernel_rfl) (by kernel_rfl) (fun _ _ _ h => h) (Or.inl ⟨rfl, ?_⟩) hHeld ?_
  rotate_left
  · intro w0 hS0
    try dsimp only at hS0
    go_simp
    try with_reducible rfl
  simp only [List.getElem_toArray, List.getElem_cons_zero, List.getElem_cons_succ, Act.put, List.setIfInBounds_toArray, List.set_cons_zero, List.set_cons_succ]
  refine wpAnyH_take (i := 7) (v := ?_) rfl (by kernel_rfl) (by kernel_rfl) (by kernel_rfl) (fun _ _ _ h => h) (Or.inl ⟨rfl, ?_⟩) hHeld ?_
  rotate_left
  · intro w0 hS0
    try dsimp only at hS0
    go_simp
    try with_reducible rfl
  simp only [List.getElem_toArray, List.getElem_cons_zero, List.getElem_cons_succ, Act.put, List.setIfInBounds_toArray, List.set_cons_zero, List.set_cons_succ]
  refine wpAnyH_take (i := 8) (v := ?_) rfl (by kernel_rfl) (by kernel_rfl) (by kernel_rfl) (fun _ _ _ h => h) (Or.inl ⟨rfl, ?_⟩) hHeld ?_
  rotate_left
  · intro w0 hS0
    try dsimp only at hS0
    go_simp
    try with_reducible rfl
  simp only [List.getElem_toArray, List.getElem_cons_zero, List.getElem_cons_succ, Act.put, List.setIfInBounds_toArray, List.set_cons_zero, List.set_cons_succ]
  refine wpAnyH_take (i := 9) (v := ?_) rfl (by kernel_rfl) (by kernel_rfl) (by kernel_rfl) (fun _ _ _ h => h) (Or.inl ⟨rfl, ?_⟩) hHeld ?_
  rotate_left
  · intro w0 hS0
    try dsimp only at hS0
    go_simp
    try with_reducible rfl
  simp only [List.getElem_toArray, List.getElem_cons_zero, List.getElem_cons_succ, Act.put, List.setIfInBounds_toArray, List.set_cons_zero, List.set_cons_succ]
  refine wpAnyH_take (i := 10) (v := ?_) rfl (by kernel_rfl) (by kernel_rfl) (by kernel_rfl) (fun _ _ _ h => h) (Or.inl ⟨rfl, ?_⟩) hHeld ?_
  rotate_left
  · intro w0 hS0
    try dsimp only at hS0
    go_simp
    try with_reducible rfl
  simp only [List.getElem_toArray, List.getElem_cons_zero, List.getElem_cons_succ, Act.put, List.setIfInBounds_toArray, List.set_cons_zero, List.set_cons_succ]
  refine wpAnyH_take (i := 11) (v := ?_) rfl (by kernel_rfl) (by kernel_rfl) (by kernel_rfl) (fun _ _ _ h => h) (Or.inl ⟨rfl, ?_⟩) hHeld ?_
  rotate_left
  · intro w0 hS0
    try dsimp only at hS0
    go_simp
    try with_reducible rfl
  simp only [List.getElem_toArray, List.getElem_cons_zero, List.getElem_cons_succ, Act.put, List.setIfInBounds_toArray, List.set_cons_zero, List.set_cons_succ]
  refine wpAnyH_take (i := 12) (v := ?_) rfl (by kernel_rfl) (by kernel_rfl) (by kernel_rfl) (fun _ _ _ h => h) (Or.inl ⟨rfl, ?_⟩) hHeld ?_
  rotate_left
  · intro w0 hS0
    try dsimp only at hS0
    go_simp
    try with_reducible rfl
  simp only [List.getElem_toArray, List.getElem_cons_zero, List.getElem_cons_succ, Act.put, List.setIfInBounds_toArray, List.set_cons_zero, List.set_cons_succ]
  refine wpAnyH_take (i := 13) (v := ?_) rfl (by kernel_rfl) (by kernel_rfl) (by kernel_rfl) (fun _ _ _ h => h) (Or.inl ⟨rfl, ?_⟩) hHeld ?_
  rotate_left
  · intro w0 hS0
    try dsimp only at hS0
    go_simp
    try with_reducible rfl
  simp only [List.getElem_toArray, List.getElem_cons_zero, List.getElem_cons_succ, Act.put, List.setIfInBounds_toArray, List.set_cons_zero, List.set_cons_succ]
  refine wpAnyH_take (i := 14) (v := ?_) rfl (by kernel_rfl) (by kernel_rfl) (by kernel_rfl) (fun _ _ _ h => h) (Or.inl ⟨rfl, ?_⟩) hHeld ?_
  rotate_left
  · intro w0 hS0
    try dsimp only at hS0
    go_simp
    try with_reducible rfl
  simp only [List.getElem_toArray, List.getElem_cons_zero, List.getElem_cons_succ, Act.put, List.setIfInBounds_toArray, List.set_cons_zero, List.set_cons_succ]
  refine wpAnyH_take (i := 15) (v := ?_) rfl (by kernel_rfl) (by kernel_rfl) (by kernel_rfl) (fun _ _ _ h => h) (Or.inl ⟨rfl, ?_⟩) hHeld ?_
  rotate_left
  · intro w0 hS0
    try dsimp only at hS0
    go_simp
    try with_reducible rfl
  simp only [List.getElem_toArray, List.getElem_cons_zero, List.getElem_cons_succ, Act.put, List.setIfInBounds_toArray, List.set_cons_zero, List.set_cons_succ]
  refine wpAnyH_take (i := 16) (v := ?_) rfl (by kernel_rfl) (by kernel_rfl) (by kernel_rfl) (fun _ _ _ h => h) (Or.inl ⟨rfl, ?_⟩) hHeld ?_
  rotate_left
  · intro w0 hS0
    try dsimp only at hS0
    go_simp
    try with_reducible rfl
  simp only [List.getElem_toArray, List.getElem_cons_zero, List.getElem_cons_succ, Act.put, List.setIfInBounds_toArray, List.set_cons_zero, List.set_cons_succ]
  refine wpAnyH_take (i := 17) (v := ?_) rfl (by kernel_rfl) (by kernel_rfl) (by kernel_rfl) (fun _ _ _ h => h) (Or.inl ⟨rfl, ?_⟩) hHeld ?_
  rotate_left
  · intro w0 hS0
    try dsimp only at hS0
    go_simp
    try with_reducible rfl
  simp only [List.getElem_toArray, List.getElem_cons_zero, List.getElem_cons_succ, Act.put, List.setIfInBounds_toArray, List.set_cons_zero, List.set_cons_succ]
  refine wpAnyH_take (i := 18) (v := ?_) rfl (by kernel_rfl) (by kernel_rfl) (by kernel_rfl) (fun _ _ _ h => h) (Or.inl ⟨rfl, ?_⟩) hHeld ?_
  rotate_left
  · intro w0 hS0
    try dsimp only at hS0
    go_simp
    try with_reducible rfl
  simp only [List.getElem_toArray, List.getElem_cons_zero, List.getElem_cons_succ, Act.put, List.setIfInBounds_toArray, List.set_cons_zero, List.set_cons_succ]
  refine wpAnyH_take (i := 19) (v := ?_) rfl (by kernel_rfl) (by kernel_rfl) (by kernel_rfl) (fun _ _ _ h => h) (Or.inl ⟨rfl, ?_⟩) hHeld ?_
  rotate_left
  · intro w0 hS0
    try dsimp only at hS0
    go_simp
    try with_reducible rfl
  simp only [List.getElem_toArray, List.getElem_cons_zero, List.getElem_cons_succ, Act.put, List.setIfInBounds_toArray, List.set_cons_zero, List.set_cons_succ]
  refine wpAnyH_take (i := 20) (v := ?_) rfl (by kernel_rfl) (by kernel_rfl) (by kernel_rfl) (fun _ _ _ h => h) (Or.inl ⟨rfl, ?_⟩) hHeld ?_
  rotate_left
  · intro w0 hS0
    try dsimp only at hS0
    go_simp
    try with_reducible rfl
  simp only [List.getElem_toArray, List.getElem_cons_zero, List.getElem_cons_succ, Act.put, List.setIfInBounds_toArray, List.set_cons_zero, List.set_cons_succ]
  refine wpAnyH_take (i := 21) (v := ?_) rfl (by kernel_rfl) (by kernel_rfl) (by kernel_rfl) (fun _ _ _ h => h) (Or.inl ⟨rfl, ?_⟩) hHeld ?_
  rotate_left
  · intro w0 hS0
    try dsimp only at hS0
    go_simp
    try with_reducible rfl
  simp only [List.getElem_toArray, List.getElem_cons_zero, List.getElem_cons_succ, Act.put, List.setIfInBounds_toArray, List.set_cons_zero, List.set_cons_succ]
  refine wpAnyH_take (i := 22) (v := ?_) rfl (by kernel_rfl) (by kernel_rfl) (by kernel_rfl) (fun _ _ _ h => h) (Or.inl ⟨rfl, ?_⟩) hHeld ?_
  rotate_left
  · intro w0 hS0
    try dsimp only at hS0
    go_simp
    try with_reducible rfl
  simp only [List.getElem_toArray, List.getElem_cons_zero, List.getElem_cons_succ, Act.put, List.setIfInBounds_toArray, List.set_cons_zero, List.set_cons_succ]
  refine wpAnyH_take (i := 23) (v := ?_) rfl (by kernel_rfl) (by kernel_rfl) (by kernel_rfl) (fun _ _ _ h => h) (Or.inl ⟨rfl, ?_⟩) hHeld ?_
  rotate_left
  · intro w0 hS0
    try dsimp only at hS0
    go_simp
    try with_reducible rfl
  simp only [List.getElem_toArray, List.getElem_cons_zero, List.getElem_cons_succ, Act.put, List.setIfInBounds_toArray, List.set_cons_zero, List.set_cons_succ]
  refine wpAnyH_take (i := 24) (v := ?_) rfl (by kernel_rfl) (by kernel_rfl) (by kernel_rfl) (fun _ _ _ h => h) (Or.inl ⟨rfl, ?_⟩) hHeld ?_
  rotate_left
  · intro w0 hS0
    try dsimp only at hS0
    go_simp
    try with_reducible rfl
  simp only [List.getElem_toArray, List.getElem_cons_zero, List.getElem_cons_succ, Act.put, List.setIfInBounds_toArray, List.set_cons_zero, List.set_cons_succ]
  refine wpAnyH_take (i := 25) (v := ?_) rfl (by kernel_rfl) (by kernel_rfl) (by kernel_rfl) (fun _ _ _ h => h) (Or.inl ⟨rfl, ?_⟩) hHeld ?_
  rotate_left
  · intro w0 hS0
    try dsimp only at hS0
    go_simp
    try with_reducible rfl
  simp only [List.getElem_toArray, List.getElem_cons_zero, List.getElem_cons_succ, Act.put, List.setIfInBounds_toArray, List.set_cons_zero, List.set_cons_succ]
  refine wpAnyH_take (i := 26) (v := ?_) rfl (by kernel_rfl) (by kernel_rfl) (by kernel_rfl) (fun _ _ _ h => h) (Or.inl ⟨rfl, ?_⟩) hHeld ?_
  rotate_left
  · intro w0 hS0
    try dsimp only at hS0
    go_simp
    try with_reducible rfl
  simp only [List.getElem_toArray, List.getElem_cons_zero, List.getElem_cons_succ, Act.put, List.setIfInBounds_toArray, List.set_cons_zero, List.set_cons_succ]
  refine wpAnyH_take (i := 27) (v := ?_) rfl (by kernel_rfl) (by kernel_rfl) (by kernel_rfl) (fun _ _ _ h => h) (Or.inl ⟨rfl, ?_⟩) hHeld ?_
  rotate_left
  · intro w0 hS0
    try dsimp only at hS0
    go_simp
    try with_reducible rfl
  simp only [List.getElem_toArray, List.getElem_cons_zero, List.getElem_cons_succ, Act.put, List.setIfInBounds_toArray, List.set_cons_zero, List.set_cons_succ]
  refine wpAnyH_take (i := 28) (v := undef) rfl (by kernel_rfl) (by kernel_rfl) (by kernel_rfl) (fun _ _ _ h => h) (Or.inr ⟨rfl, rfl⟩) hHeld ?_
  simp only [List.getElem_toArray, List.getElem_cons_zero, List.getElem_cons_succ, Act.put, List.setIfInBounds_toArray, List.set_cons_zero, List.set_cons_succ]
  refine wpAnyH_take (i := 29) (v := undef) rfl (by kernel_rfl) (by kernel_rfl) (by kernel_rfl) (fun _ _ _ h => h) (Or.inr ⟨rfl, rfl⟩) hHeld ?_
  simp only [List.getElem_toArray, List.getElem_cons_zero, List.getElem_cons_succ, Act.put, List.setIfInBounds_toArray, List.set_cons_zero, List.set_cons_succ]
  refine wpAnyH_take (i := 30) (v := ?_) rfl (by kernel_rfl) (by kernel_rfl) (by kernel_rfl) (fun _ _ _ h => h) (Or.inl ⟨rfl, ?_⟩) hHeld ?_
  rotate_left
  · intro w0 hS0
    try dsimp only at hS0
    go_simp
    try with_reducible rfl
  simp only [List.getElem_toArray, List.getElem_cons_zero, List.getElem_cons_succ, Act.put, List.setIfInBounds_toArray, List.set_cons_zero, List.set_cons_succ]
  refine wpAnyH_take (i := 31) (v := ?_) rfl (by kernel_rfl) (by kernel_rfl) (by kernel_rfl) (fun _ _ _ h => h) (Or.inl ⟨rfl, ?_⟩) hHeld ?_
  rotate_left
  · intro w0 hS0
    try dsimp only at hS0
    go_simp
    try with_reducible rfl
  simp only [List.getElem_toArray, List.getElem_cons_zero, List.getElem_cons_succ, Act.put, List.setIfInBounds_toArray, List.set_cons_zero, List.set_cons_succ]
  refine wpAnyH_take (i := 32) (v := undef) rfl (by kernel_rfl) (by kernel_rfl) (by kernel_rfl) (fun _ _ _ h => h) (Or.inr ⟨rfl, rfl⟩) hHeld ?_
  simp only [List.getElem_toArray, List.getElem_cons_zero, List.getElem_cons_succ, Act.put, List.setIfInBounds_toArray, List.set_cons_zero, List.set_cons_succ]
  refine wpAnyH_take (i := 33) (v := undef) rfl (by kernel_rfl) (by kernel_rfl) (by kernel_rfl) (fun _ _ _ h => h) (Or.inr ⟨rfl, rfl⟩) hHeld ?_
  simp only [List.getElem_toArray, List.getElem_cons_zero, List.getElem_cons_succ, Act.put, List.setIfInBounds_toArray, List.set_cons_zero, List.set_cons_succ]
  refine wpAnyH_take (i := 34) (v := ?_) rfl (by kernel_rfl) (by kernel_rfl) (by kernel_rfl) (fun _ _ _ h => h) (Or.inl ⟨rfl, ?_⟩) hHeld ?_
  rotate_left
  · intro w0 hS0
    try dsimp only at hS0
    go_simp
    try with_reducible rfl
  simp only [List.getElem_toArray, List.getElem_cons_zero, List.getElem_cons_succ, Act.put, List.setIfInBounds_toArray, List.set_cons_zero, List.set_cons_succ]
  refine wpAnyH_take (i := 35) (v := ?_) rfl (by kernel_rfl) (by kernel_rfl) (by kernel_rfl) (fun _ _ _ h => h) (Or.inl ⟨rfl, ?_⟩) hHeld ?_
  rotate_left
  · intro w0 hS0
    try dsimp only at hS0
    go_simp
    try with_reducible rfl
  simp only [List.getElem_toArray, List.getElem_cons_zero, List.getElem_cons_succ, Act.put, List.setIfInBounds_toArray, List.set_cons_zero, List.set_cons_succ]
  refine wpAnyH_done (by kernel_rfl) ?_ _
  clear hHeld
  go_wp2_with fail
  have HB2 := Lib.hid HB.out.drew
  have HP2 := Lib.hid (HP.out.below (Below.refl _ _).drew)
  have HBES := Lib.hid (HRW.out.below HB.out.drew)
  have n4w : ((w.alloc (.cells n.cells.toArray 32)).drew).cell? ⟨w.heap.size, 4, none⟩ = some (.int .u8 10) := n4
  have n26w : ((w.alloc (.cells n.cells.toArray 32)).drew).cell? ⟨w.heap.size, 26, none⟩ = some (.slice n.pk.subsA n.pk.subs.length n.pk.subsC) := n26
  have hws : w.heap.size < ((w.alloc (.cells n.cells.toArray 32)).drew).heap.size := by simp
  have HLT := Lib.hid h.lt
  obtain ⟨hrep, hin, hheld, hout⟩ := HP2.out.listed HUU.out HO.out
  have HREP := Lib.hid hrep
  have HOUT := Lib.hid hout
  have HROW : Hid (∀ G X, Upd (bl n.client.data.toList).2 G ((w.alloc (.cells n.cells.toArray 32)).drew) X → Row X n.pk.subsA (subsV n.pk.subs)) := Lib.hid (fun G X hu => ((HBES.out.sub hin).upd hu).row)
  have HH : Hid (∀ G X, Upd (bl n.client.data.toList).2 G ((w.alloc (.cells n.cells.toArray 32)).drew) X → X.cell? ⟨r, 0, none⟩ = some (.slice (some ⟨b1, o1, none⟩) s.seats.length cp) ∧ X.cell? ⟨b1, o1 + k * 4 + 3, none⟩ = some (.pointer (some ⟨(bl n.client.data.toList).1, 0, none⟩)) ∧ X.cell? ⟨w.heap.size, 4, none⟩ = some (.int .u8 10) ∧ X.cell? ⟨w.heap.size, 26, none⟩ = some (.slice n.pk.subsA n.pk.subs.length n.pk.subsC)) := Lib.hid (fun G X hu => by
    have hnf : w.heap.size ∉ (bl n.client.data.toList).2 := fun hj => by have := HLT.out _ (hin _ hj); omega
    have hnb := hu.1.block w.heap.size hws hnf
    have hoff := HP2.out.off _ _ HO.out
    have hrl := (Array.getElem?_eq_some_iff.1 HP2.out.top).1
    obtain ⟨a9, cp9, hv9, -, -, hrow9⟩ := HP2.out.held
    rw [HV.out] at hv9
    obtain ⟨rfl, rfl⟩ : a9 = some ⟨b1, o1, none⟩ ∧ cp = cp9 := by simpa [eq_comm] using hv9
    have hrx := hrow9.mod hu.1 (fun b o hb hj => (hoff b hj).2.1 (by rw [HV.out]; cases hb; rfl))
    obtain ⟨b7, o7, e7, -, -, -, f3⟩ := seats_row hrx HY.out
    cases e7
    rw [HYC.out] at f3
    have hT := HP2.out.top
    rw [HV.out] at hT
    exact ⟨cell_of_row X r 0 _ _ _ ((hu.1.block r hrl fun hj => (hoff r hj).1 rfl).trans hT), f3, by rw [World.cell?_of_block hnb]; exact n4w, by rw [World.cell?_of_block hnb]; exact n26w⟩)
  have HSO := Lib.hid hn.subs
  have hlen := hn.len
  obtain ⟨m0, m1, m4, m26⟩ := HH.out _ _ (upd_refl _ _)
  clear n0 n2 n3 n4 n26 n4w n26w c0 d0 d1 d2 d3 HP HB HRW HF HBES hrep hin hheld hout hn h
  generalize hw1 : (w.alloc (.cells n.cells.toArray 32)).drew = w1 at *
  generalize hlb : (bl n.client.data.toList).1 = lb at *
  generalize hG0 : (bl n.client.data.toList).2 = G0 at *
  clear hw1 hlb hG0 HP2
  generalize n.pk.subs = xs at *
  go_loopw [11, 12] (fun v i wr => v = .string ⟨#[]⟩ ∧ ∃ j : Nat, i = .int .i64 j ∧ j ≤ xs.length ∧ ∃ G, DRep wr lb (dropGo (xs.take j) x.l) G ∧ Upd G0 G w1 wr) (fun _ i _ => (xs.length - intOf i).toNat)
  case atStart => exact ⟨rfl, 0, rfl, by omega, G0, HREP.out, upd_refl _ _⟩
  case round =>
    obtain ⟨rfl, j, rfl, hjl, G, hr, hu⟩ := hrel
    obtain ⟨p0, p1, p4, p26⟩ := HH.out _ _ hu
    by_cases hlt : j < xs.length
    · have hjI : (j : Int) < xs.length := by omega
      have hj0 : (0 : Int) ≤ j := by omega
      obtain ⟨b2, o2, hea, e0, e1⟩ := subs_row (HROW.out G wr hu) hlt
      rw [hea] at p26
      have HTK := Lib.hid (show dropGo (xs.take (j + 1)) x.l = delE xs[j].1 (dropGo (xs.take j) x.l) by rw [List.take_succ_eq_append_getElem hlt, dropGo_snoc])
      generalize xs[j] = z at *
      obtain ⟨zf, zq⟩ := z
      dsimp only at *
      have hbn := (Below.refl wr.heap.size wr).alloc (Nat.le_refl _) (.cells #[.string ⟨zf.toArray⟩, .int .u8 zq] 39)
      have b0 := cell_of_row _ _ 0 _ _ _ (heap_alloc_new wr (.cells #[.string ⟨zf.toArray⟩, .int .u8 zq] 39))
      simp only [List.getElem?_toArray, List.getElem?_cons_zero] at b0
      have HU := Lib.hid hu
      have HR := Lib.hid hr
      clear hu hr hea m0 m1 m4 m26
      go_wp2_with fail
      have q0 := (hbn.cell (World.block_lt_of_cell? _ _ p0)).trans p0
      have q1 := (hbn.cell (World.block_lt_of_cell? _ _ p1)).trans p1
      have HBN := Lib.hid hbn
      clear hbn p0 p1 p4 p26 e0 e1
      generalize wr.alloc (.cells #[.string ⟨zf.toArray⟩, .int .u8 zq] 39) = w2 at *
      have HD := Lib.hid (ddrop_any lb _ G zf w2.drew (HR.out.below HBN.out.drew))
      go_still_tail 10, (by kernel_rfl)
      change wpList _ _ _ _ _ w2.drew
      go_wp2_with fail
      refine HD.out.mono ?_
      rintro e w3 ⟨rfl, G2, hr3, hu3⟩
      have HR3 := Lib.hid hr3
      have HU3 := Lib.hid (upd_trans HU.out (upd_pre HBN.out.drew hu3))
      clear hr3 hu3
      go_wp2_with fail
      go_roundw
      case rel => exact ⟨rfl, j + 1, by go_num, by omega, G2, by rw [HTK.out]; exact HR3.out, HU3.out⟩
      case measure => simp [intOf]; omega
    · have hjI : ¬ (j : Int) < xs.length := by omega
      rw [List.take_of_length_le (by omega)] at hr
      have HFIN := Lib.hid (HOUT.out _ _ _ hr hu)
      clear hu hr m0 m1 m4 m26
      go_wp2_with fail
      go_ret3
      unfold DApplyQ
      rw [HE.out, HE2.out]
      obtain ⟨f1, f2⟩ := HFIN.out
      exact ⟨rfl, v, KF, _, f1, upd_pre HB2.out f2⟩
end
section
open Go Go.RowKit Go.Maps

theorem codes_snoc (a : Str) (c : UInt8) : (⟨(a ++ [c]).toArray⟩ : ByteArray) = ⟨a.toArray⟩ ++ ⟨#[c]⟩ := by
  apply ByteArray.ext
  simp
set_option maxRecDepth 100000 in
set_option maxHeartbeats 4000000 in
theorem dapply_sub (r kg : Nat) (v : Value) (KF : List Nat) (bl : Str → Nat × List Nat) (s : MS) (n : Note) (w : World) (h : DParts w r kg v KF bl s) (hl : s.seats.length < 1000000) (hU : KeyU s.seats) (hk : n.kind = 2) (x : Seat) (ho : lookS n.client.data.toList s.seats = some x) (hc1 : ¬ n.conn < 1) (hc2 : x.conn = n.conn) (hn : NoteOk n) (hrw : Beside w (footD r v KF bl s.seats) n.pk.subsA (subsV n.pk.subs)) (ht : n.pk.ty = 8) :
    Calls Tryz.prog 20 #[.pointer (some ⟨r, 0, none⟩), .agg n.cells.toArray] w (DApplyQ r kg v KF bl s n w) := by
  have HE : Hid (applyM n s = ((does1 n n.client.data.toList x s.seats).1, ⟨(does1 n n.client.data.toList x s.seats).2, s.kept⟩)) := Lib.hid (does_own hk (by omega) ho hc1 hc2)
  have hnew := heap_alloc_new w (.cells n.cells.toArray 32)
  have hba := (Below.refl w.heap.size w).alloc (Nat.le_refl _) (.cells n.cells.toArray 32)
  have h1 := h.below hba
  obtain ⟨n0, n2, n3, n4, -, n26, -⟩ := note_cell hnew
  obtain ⟨a, cp, hv, c0, -, hrow⟩ := h1.held
  have HB := Lib.hid hba
  have HP := Lib.hid h1
  have HF := Lib.hid (dfind_any r n.client.data.toList s.seats bl a cp _ c0 hrow hl)
  rw [str_mk] at HF
  obtain ⟨k, hp⟩ : ∃ k, posS n.client.data.toList s.seats = some k := by
    cases hp : posS n.client.data.toList s.seats with
    | none => rw [posS_none.1 hp] at ho; cases ho
    | some k => exact ⟨k, rfl⟩
  rw [findI_some hp] at HF
  obtain ⟨y, hy, hyc, hlk⟩ := posS_some hp
  have hyx : y.2 = x := by rw [hlk] at ho; exact Option.some.inj ho
  obtain ⟨bx, o1, rfl, d0, d1, d2, d3⟩ := seats_row hrow hy
  rw [hyx, hc2] at d1
  have hkl : k < s.seats.length := (List.getElem?_eq_some_iff.1 hy).1
  have hk0 : (0 : Int) ≤ k := by omega
  have hk1 : (k : Int) < s.seats.length := by omega
  have hk2 : ¬ (k : Int) < 0 := by omega
  have hcd : decide (n.conn < 1) = false := decide_eq_false hc1
  have HRW := Lib.hid hrw
  have HUU := Lib.hid hU
  have HPOS := Lib.hid hp
  have HO := Lib.hid ho
  have HY := Lib.hid hy
  have HYC := Lib.hid hyc
  have HV := Lib.hid hv
  clear hv hnew h1 hba hp hlk hyx hrow ho hrw hU hy hyc
  have HE2 : Hid (does1 n n.client.data.toList x s.seats = (((subGo n.pk.subs ([], x.l)).1, false, true), turnS n.client.data.toList { x with l := (subGo n.pk.subs ([], x.l)).2 } s.seats)) := Lib.hid (by
    unfold does1
    rw [if_pos ht])
  rw [ht] at n4
  clear ht
  go_enter Tryz.func20, Tryz.ntmps20
  go_wp2_with fail
  refine HF.out.mono ?_
  rintro e w' ⟨rfl, rfl⟩
  go_wp2_with fail
  refine wp_region_held_drew (S := fun X => X.cell? ⟨w.heap.size, 2, none⟩ = some (.int .i64 n.conn) ∧ X.cell? ⟨r, 0, none⟩ = some (.slice (some ⟨bx, o1, none⟩) s.seats.length cp) ∧ X.cell? ⟨bx, o1 + k * 4 + 1, none⟩ = some (.int .i64 n.conn)) (by kernel_rfl) ⟨n2, c0, d1⟩ (fun hHeld => ?_)
  refine wpAnyH_take (i := 0) (v := ?_) rfl (by kernel_rfl) (by kernel_rfl) (by kernel_rfl) (fun _ _ _ h => h) (Or.inl ⟨rfl, ?_⟩) hHeld ?_
  rotate_left
  · intro w0 hS0
    try dsimp only at hS0
    go_simp
    try with_reducible rfl
  simp only [List.getElem_toArray, List.getElem_cons_zero, Act.put, List.setIfInBounds_toArray, List.set_cons_zero, List.set_cons_succ]
  refine wpAnyH_take (i := 1) (v := ?_) rfl (by kernel_rfl) (by kernel_rfl) (by kernel_rfl) (fun _ _ _ h => h) (Or.inl ⟨rfl, ?_⟩) hHeld ?_
  rotate_left
  · intro w0 hS0
    try dsimp only at hS0
    go_simp
    try with_reducible rfl
  simp only [List.getElem_toArray, List.getElem_cons_zero, List.getElem_cons_succ, Act.put, List.setIfInBounds_toArray, List.set_cons_zero, List.set_cons_succ]
  refine wpAnyH_take (i := 2) (v := ?_) rfl (by kernel_rfl) (by kernel_rfl) (by kernel_rfl) (fun _ _ _ h => h) (Or.inl ⟨rfl, ?_⟩) hHeld ?_
  rotate_left
  · intro w0 hS0
    try dsimp only at hS0
    go_simp
    try with_reducible rfl
  simp only [List.getElem_toArray, List.getElem_cons_zero, List.getElem_cons_succ, Act.put, List.setIfInBounds_toArray, List.set_cons_zero, List.set_cons_succ]
  refine wpAnyH_take (i := 3) (v := ?_) rfl (by kernel_rfl) (by kernel_rfl) (by kernel_rfl) (fun _ _ _ h => h) (Or.inl ⟨rfl, ?_⟩) hHeld ?_
  rotate_left
  · intro w0 hS0
    try dsimp only at hS0
    go_simp
    try with_reducible rfl
  simp only [List.getElem_toArray, List.getElem_cons_zero, List.getElem_cons_succ, Act.put, List.setIfInBounds_toArray, List.set_cons_zero, List.set_cons_succ]
  refine wpAnyH_take (i := 4) (v := ?_) rfl (by kernel_rfl) (by kernel_rfl) (by kernel_rfl) (fun _ _ _ h => h) (Or.inl ⟨rfl, ?_⟩) hHeld ?_
  rotate_left
  · intro w0 hS0
    try dsimp only at hS0
    go_simp
    try with_reducible rfl
  simp only [List.getElem_toArray, List.getElem_cons_zero, List.getElem_cons_succ, Act.put, List.setIfInBounds_toArray, List.set_cons_zero, List.set_cons_succ]
  refine wpAnyH_take (i := 5) (v := ?_) rfl (by kernel_rfl) (by kernel_rfl) (by kernel_rfl) (fun _ _ _ h => h) (Or.inl ⟨rfl, ?_⟩) hHeld ?_
  rotate_left
  · intro w0 hS0
    try dsimp only at hS0
    go_simp
    try with_reducible rfl
  simp only [List.getElem_toArray, List.getElem_cons_zero, List.getElem_cons_succ, Act.put, List.setIfInBounds_toArray, List.set_cons_zero, List.set_cons_succ]
  refine wpAnyH_take (i := 6) (v := ?_) rfl (by kernel_rfl) (by kernel_rfl) (by kernel_rfl) (fun _ _ _ h => h) (Or.inl ⟨rfl, ?_⟩) hHeld ?_
  rotate_left
  · intro w0 hS0
    try dsimp only at hS0
    go_simp
    try with_reducible rfl
  simp only [List.getElem_toArray, List.getElem_cons_zero, List.getElem_cons_succ, Act.put, List.setIfInBounds_toArray, List.set_cons_zero, List.set_cons_succ]
  refine wpAnyH_take (i := 7) (v := ?_) rfl (by kernel_rfl) (by kernel_rfl) (by kernel_rfl) (fun _ _ _ h => h) (Or.inl ⟨rfl, ?_⟩) hHeld ?_
  rotate_left
  · intro w0 hS0
    try dsimp only at hS0
    go_simp
    try with_reducible rfl
  simp only [List.getElem_toArray, List.getElem_cons_zero, List.getElem_cons_succ, Act.put, List.setIfInBounds_toArray, List.set_cons_zero, List.set_cons_succ]
  refine wpAnyH_take (i := 8) (v := ?_) rfl (by kernel_rfl) (by kernel_rfl) (by kernel_rfl) (fun _ _ _ h => h) (Or.inl ⟨rfl, ?_⟩) hHeld ?_
  rotate_left
  · intro w0 hS0
    try dsimp only at hS0
    go_simp
    try with_reducible rfl
  simp only [List.getElem_toArray, List.getElem_cons_zero, List.getElem_cons_succ, Act.put, List.setIfInBounds_toArray, List.set_cons_zero, List.set_cons_succ]
  refine wpAnyH_take (i := 9) (v := ?_) rfl (by kernel_rfl) (by kernel_rfl) (by kernel_rfl) (fun _ _ _ h => h) (Or.inl ⟨rfl, ?_⟩) hHeld ?_
  rotate_left
  · intro w0 hS0
    try dsimp only at hS0
    go_simp
    try with_reducible rfl
  simp only [List.getElem_toArray, List.getElem_cons_zero, List.getElem_cons_succ, Act.put, List.setIfInBounds_toArray, List.set_cons_zero, List.set_cons_succ]
  refine wpAnyH_take (i := 10) (v := ?_) rfl (by kernel_rfl) (by kernel_rfl) (by kernel_rfl) (fun _ _ _ h => h) (Or.inl ⟨rfl, ?_⟩) hHeld ?_
  rotate_left
  · intro w0 hS0
    try dsimp only at hS0
    go_simp
    try with_reducible rfl
  simp only [List.getElem_toArray, List.getElem_cons_zero, List.getElem_cons_succ, Act.put, List.setIfInBounds_toArray, List.set_cons_zero, List.set_cons_succ]
  refine wpAnyH_take (i := 11) (v := ?_) rfl (by kernel_rfl) (by kernel_rfl) (by kernel_rfl) (fun _ _ _ h => h) (Or.inl ⟨rfl, ?_⟩) hHeld ?_
  rotate_left
  · intro w0 hS0
    try dsimp only at hS0
    go_simp
    try with_reducible rfl
  simp only [List.getElem_toArray, List.getElem_cons_zero, List.getElem_cons_succ, Act.put, List.setIfInBounds_toArray, List.set_cons_zero, List.set_cons_succ]
  refine wpAnyH_take (i := 12) (v := ?_) rfl (by kernel_rfl) (by kernel_rfl) (by kernel_rfl) (fun _ _ _ h => h) (Or.inl ⟨rfl, ?_⟩) hHeld ?_
  rotate_left
  · intro w0 hS0
    try dsimp only at hS0
    go_simp
    try with_reducible rfl
  simp only [List.getElem_toArray, List.getElem_cons_zero, List.getElem_cons_succ, Act.put, List.setIfInBounds_toArray, List.set_cons_zero, List.set_cons_succ]
  refine wpAnyH_take (i := 13) (v := ?_) rfl (by kernel_rfl) (by kernel_rfl) (by kernel_rfl) (fun _ _ _ h => h) (Or.inl ⟨rfl, ?_⟩) hHeld ?_
  rotate_left
  · intro w0 hS0
    try dsimp only at hS0
    go_simp
    try with_reducible rfl
  simp only [List.getElem_toArray, List.getElem_cons_zero, List.getElem_cons_succ, Act.put, List.setIfInBounds_toArray, List.set_cons_zero, List.set_cons_succ]
  refine wpAnyH_take (i := 14) (v := ?_) rfl (by kernel_rfl) (by kernel_rfl) (by kernel_rfl) (fun _ _ _ h => h) (Or.inl ⟨rfl, ?_⟩) hHeld ?_
  rotate_left
  · intro w0 hS0
    try dsimp only at hS0
    go_simp
    try with_reducible rfl
  simp only [List.getElem_toArray, List.getElem_cons_zero, List.getElem_cons_succ, Act.put, List.setIfInBounds_toArray, List.set_cons_zero, List.set_cons_succ]
  refine wpAnyH_take (i := 15) (v := ?_) rfl (by kernel_rfl) (by kernel_rfl) (by kernel_rfl) (fun _ _ _ h => h) (Or.inl ⟨rfl, ?_⟩) hHeld ?_
  rotate_left
  · intro w0 hS0
    try dsimp only at hS0
    go_simp
    try with_reducible rfl
  simp only [List.getElem_toArray, List.getElem_cons_zero, List.getElem_cons_succ, Act.put, List.setIfInBounds_toArray, List.set_cons_zero, List.set_cons_succ]
  refine wpAnyH_take (i := 16) (v := ?_) rfl (by kernel_rfl) (by kernel_rfl) (by kernel_rfl) (fun _ _ _ h => h) (Or.inl ⟨rfl, ?_⟩) hHeld ?_
  rotate_left
  · intro w0 hS0
    try dsimp only at hS0
    go_simp
    try with_reducible rfl
  simp only [List.getElem_toArray, List.getElem_cons_zero, List.getElem_cons_succ, Act.put, List.setIfInBounds_toArray, List.set_cons_zero, List.set_cons_succ]
  refine wpAnyH_take (i := 17) (v := ?_) rfl (by kernel_rfl) (by kernel_rfl) (by kernel_rfl) (fun _ _ _ h => h) (Or.inl ⟨rfl, ?_⟩) hHeld ?_
  rotate_left
  · intro w0 hS0
    try dsimp only at hS0
    go_simp
    try with_reducible rfl
  simp only [List.getElem_toArray, List.getElem_cons_zero, List.getElem_cons_succ, Act.put, List.setIfInBounds_toArray, List.set_cons_zero, List.set_cons_succ]
  refine wpAnyH_take (i := 18) (v := ?_) rfl (by kernel_rfl) (by kernel_rfl) (by kernel_rfl) (fun _ _ _ h => h) (Or.inl ⟨rfl, ?_⟩) hHeld ?_
  rotate_left
  · intro w0 hS0
    try dsimp only at hS0
    go_simp
    try with_reducible rfl
  simp only [List.getElem_toArray, List.getElem_cons_zero, List.getElem_cons_succ, Act.put, List.setIfInBounds_toArray, List.set_cons_zero, List.set_cons_succ]
  refine wpAnyH_take (i := 19) (v := ?_) rfl (by kernel_rfl) (by kernel_rfl) (by kernel_rfl) (fun _ _ _ h => h) (Or.inl ⟨rfl, ?_⟩) hHeld ?_
  rotate_left
  · intro w0 hS0
    try dsimp only at hS0
    go_simp
    try with_reducible rfl
  simp only [List.getElem_toArray, List.getElem_cons_zero, List.getElem_cons_succ, Act.put, List.setIfInBounds_toArray, List.set_cons_zero, List.set_cons_succ]
  refine wpAnyH_take (i := 20) (v := ?_) rfl (by kernel_rfl) (by kernel_rfl) (by kernel_rfl) (fun _ _ _ h => h) (Or.inl ⟨rfl, ?_⟩) hHeld ?_
  rotate_left
  · intro w0 hS0
    try dsimp only at hS0
    go_simp
    try with_reducible rfl
  simp only [List.getElem_toArray, List.getElem_cons_zero, List.getElem_cons_succ, Act.put, List.setIfInBounds_toArray, List.set_cons_zero, List.set_cons_succ]
  refine wpAnyH_take (i := 21) (v := ?_) rfl (by kernel_rfl) (by kernel_rfl) (by kernel_rfl) (fun _ _ _ h => h) (Or.inl ⟨rfl, ?_⟩) hHeld ?_
  rotate_left
  · intro w0 hS0
    try dsimp only at hS0
    go_simp
    try with_reducible rfl
  simp only [List.getElem_toArray, List.getElem_cons_zero, List.getElem_cons_succ, Act.put, List.setIfInBounds_toArray, List.set_cons_zero, List.set_cons_succ]
  refine wpAnyH_take (i := 22) (v := ?_) rfl (by kernel_rfl) (by kernel_rfl) (by kernel_rfl) (fun _ _ _ h => h) (Or.inl ⟨rfl, ?_⟩) hHeld ?_
  rotate_left
  · intro w0 hS0
    try dsimp only at hS0
    go_simp
    try with_reducible rfl
  simp only [List.getElem_toArray, List.getElem_cons_zero, List.getElem_cons_succ, Act.put, List.setIfInBounds_toArray, List.set_cons_zero, List.set_cons_succ]
  refine wpAnyH_take (i := 23) (v := ?_) rfl (by kernel_rfl) (by kernel_rfl) (by kernel_rfl) (fun _ _ _ h => h) (Or.inl ⟨rfl, ?_⟩) hHeld ?_
  rotate_left
  · intro w0 hS0
    try dsimp only at hS0
    go_simp
    try with_reducible rfl
  simp only [List.getElem_toArray, List.getElem_cons_zero, List.getElem_cons_succ, Act.put, List.setIfInBounds_toArray, List.set_cons_zero, List.set_cons_succ]
  refine wpAnyH_take (i := 24) (v := undef) rfl (by kernel_rfl) (by kernel_rfl) (by kernel_rfl) (fun _ _ _ h => h) (Or.inr ⟨rfl, rfl⟩) hHeld ?_
  simp only [List.getElem_toArray, List.getElem_cons_zero, List.getElem_cons_succ, Act.put, List.setIfInBounds_toArray, List.set_cons_zero, List.set_cons_succ]
  refine wpAnyH_take (i := 25) (v := undef) rfl (by kernel_rfl) (by kernel_rfl) (by kernel_rfl) (fun _ _ _ h => h) (Or.inr ⟨rfl, rfl⟩) hHeld ?_
  simp only [List.getElem_toArray, List.getElem_cons_zero, List.getElem_cons_succ, Act.put, List.setIfInBounds_toArray, List.set_cons_zero, List.set_cons_succ]
  refine wpAnyH_take (i := 26) (v := ?_) rfl (by kernel_rfl) (by kernel_rfl) (by kernel_rfl) (fun _ _ _ h => h) (Or.inl ⟨rfl, ?_⟩) hHeld ?_
  rotate_left
  · intro w0 hS0
    try dsimp only at hS0
    go_simp
    try with_reducible rfl
  simp only [List.getElem_toArray, List.getElem_cons_zero, List.getElem_cons_succ, Act.put, List.setIfInBounds_toArray, List.set_cons_zero, List.set_cons_succ]
  refine wpAnyH_take (i := 27) (v := ?_) rfl (by kernel_rfl) (by kernel_rfl) (by kernel_rfl) (fun _ _ _ h => h) (Or.inl ⟨rfl, ?_⟩) hHeld ?_
  rotate_left
  · intro w0 hS0
    try dsimp only at hS0
    go_simp
    try with_reducible rfl
  simp only [List.getElem_toArray, List.getElem_cons_zero, List.getElem_cons_succ, Act.put, List.setIfInBounds_toArray, List.set_cons_zero, List.set_cons_succ]
  refine wpAnyH_take (i := 28) (v := undef) rfl (by kernel_rfl) (by kernel_rfl) (by kernel_rfl) (fun _ _ _ h => h) (Or.inr ⟨rfl, rfl⟩) hHeld ?_
  simp only [List.getElem_toArray, List.getElem_cons_zero, List.getElem_cons_succ, Act.put, List.setIfInBounds_toArray, List.set_cons_zero, List.set_cons_succ]
  refine wpAnyH_take (i := 29) (v := undef) rfl (by kernel_rfl) (by kernel_rfl) (by kernel_rfl) (fun _ _ _ h => h) (Or.inr ⟨rfl, rfl⟩) hHeld ?_
  simp only [List.getElem_toArray, List.getElem_cons_zero, List.getElem_cons_succ, Act.put, List.setIfInBounds_toArray, List.set_cons_zero, List.set_cons_succ]
  refine wpAnyH_take (i := 30) (v := ?_) rfl (by kernel_rfl) (by kernel_rfl) (by kernel_rfl) (fun _ _ _ h => h) (Or.inl ⟨rfl, ?_⟩) hHeld ?_
  rotate_left
  · intro w0 hS0
    try dsimp only at hS0
    go_simp
    try with_reducible rfl
  simp only [List.getElem_toArray, List.getElem_cons_zero, List.getElem_cons_succ, Act.put, List.setIfInBounds_toArray, List.set_cons_zero, List.set_cons_succ]
  refine wpAnyH_take (i := 31) (v := ?_) rfl (by kernel_rfl) (by kernel_rfl) (by kernel_rfl) (fun _ _ _ h => h) (Or.inl ⟨rfl, ?_⟩) hHeld ?_
  rotate_left
  · intro w0 hS0
    try dsimp only at hS0
    go_simp
    try with_reducible rfl
  simp only [List.getElem_toArray, List.getElem_cons_zero, List.getElem_cons_succ, Act.put, List.setIfInBounds_toArray, List.set_cons_zero, List.set_cons_succ]
  refine wpAnyH_take (i := 32) (v := undef) rfl (by kernel_rfl) (by kernel_rfl) (by kernel_rfl) (fun _ _ _ h => h) (Or.inr ⟨rfl, rfl⟩) hHeld ?_
  simp only [List.getElem_toArray, List.getElem_cons_zero, List.getElem_cons_succ, Act.put, List.setIfInBounds_toArray, List.set_cons_zero, List.set_cons_succ]
  refine wpAnyH_take (i := 33) (v := undef) rfl (by kernel_rfl) (by kernel_rfl) (by kernel_rfl) (fun _ _ _ h => h) (Or.inr ⟨rfl, rfl⟩) hHeld ?_
  simp only [List.getElem_toArray, List.getElem_cons_zero, List.getElem_cons_succ, Act.put, List.setIfInBounds_toArray, List.set_cons_zero, List.set_cons_succ]
  refine wpAnyH_take (i := 34) (v := ?_) rfl (by kernel_rfl) (by kernel_rfl) (by kernel_rfl) (fun _ _ _ h => h) (Or.inl ⟨rfl, ?_⟩) hHeld ?_
  rotate_left
  · intro w0 hS0
    try dsimp only at hS0
    go_simp
    try with_reducible rfl
  simp only [List.getElem_toArray, List.getElem_cons_zero, List.getElem_cons_succ, Act.put, List.setIfInBounds_toArray, List.set_cons_zero, List.set_cons_succ]
  refine wpAnyH_take (i := 35) (v := ?_) rfl (by kernel_rfl) (by kernel_rfl) (by kernel_rfl) (fun _ _ _ h => h) (Or.inl ⟨rfl, ?_⟩) hHeld ?_
  rotate_left
  · intro w0 hS0
    try dsimp only at hS0
    go_simp
    try with_reducible rfl
  simp only [List.getElem_toArray, List.getElem_cons_zero, List.getElem_cons_succ, Act.put, List.setIfInBounds_toArray, List.set_cons_zero, List.set_cons_succ]
  refine wpAnyH_done (by kernel_rfl) ?_ _
  clear hHeld
  go_wp2_with fail
  have HB2 := Lib.hid HB.out.drew
  have HP2 := Lib.hid (HP.out.below (Below.refl _ _).drew)
  have HBES := Lib.hid (HRW.out.below HB.out.drew)
  have n4w : ((w.alloc (.cells n.cells.toArray 32)).drew).cell? ⟨w.heap.size, 4, none⟩ = some (.int .u8 8) := n4
  have n26w : ((w.alloc (.cells n.cells.toArray 32)).drew).cell? ⟨w.heap.size, 26, none⟩ = some (.slice n.pk.subsA n.pk.subs.length n.pk.subsC) := n26
  have hws : w.heap.size < ((w.alloc (.cells n.cells.toArray 32)).drew).heap.size := by simp
  have HLT := Lib.hid h.lt
  obtain ⟨hrep, hin, hheld, hout⟩ := HP2.out.listed HUU.out HO.out
  have HREP := Lib.hid hrep
  have HOUT := Lib.hid hout
  have HROW : Hid (∀ G X, Upd (bl n.client.data.toList).2 G ((w.alloc (.cells n.cells.toArray 32)).drew) X → Row X n.pk.subsA (subsV n.pk.subs)) := Lib.hid (fun G X hu => ((HBES.out.sub hin).upd hu).row)
  have HH : Hid (∀ G X, Upd (bl n.client.data.toList).2 G ((w.alloc (.cells n.cells.toArray 32)).drew) X → X.cell? ⟨r, 0, none⟩ = some (.slice (some ⟨bx, o1, none⟩) s.seats.length cp) ∧ X.cell? ⟨bx, o1 + k * 4 + 3, none⟩ = some (.pointer (some ⟨(bl n.client.data.toList).1, 0, none⟩)) ∧ X.cell? ⟨w.heap.size, 4, none⟩ = some (.int .u8 8) ∧ X.cell? ⟨w.heap.size, 26, none⟩ = some (.slice n.pk.subsA n.pk.subs.length n.pk.subsC)) := Lib.hid (fun G X hu => by
    have hnf : w.heap.size ∉ (bl n.client.data.toList).2 := fun hj => by have := HLT.out _ (hin _ hj); omega
    have hnb := hu.1.block w.heap.size hws hnf
    have hoff := HP2.out.off _ _ HO.out
    have hrl := (Array.getElem?_eq_some_iff.1 HP2.out.top).1
    obtain ⟨a9, cp9, hv9, -, -, hrow9⟩ := HP2.out.held
    rw [HV.out] at hv9
    obtain ⟨rfl, rfl⟩ : a9 = some ⟨bx, o1, none⟩ ∧ cp = cp9 := by simpa [eq_comm] using hv9
    have hrx := hrow9.mod hu.1 (fun b o hb hj => (hoff b hj).2.1 (by rw [HV.out]; cases hb; rfl))
    obtain ⟨b7, o7, e7, -, -, -, f3⟩ := seats_row hrx HY.out
    cases e7
    rw [HYC.out] at f3
    have hT := HP2.out.top
    rw [HV.out] at hT
    exact ⟨cell_of_row X r 0 _ _ _ ((hu.1.block r hrl fun hj => (hoff r hj).1 rfl).trans hT), f3, by rw [World.cell?_of_block hnb]; exact n4w, by rw [World.cell?_of_block hnb]; exact n26w⟩)
  have HSO := Lib.hid hn.subs
  have hlen := hn.len
  obtain ⟨m0, m1, m4, m26⟩ := HH.out _ _ (upd_refl _ _)
  clear n0 n2 n3 n4 n26 n4w n26w c0 d0 d1 d2 d3 HP HB HRW HF HBES hrep hin hheld hout hn h
  generalize hw1 : (w.alloc (.cells n.cells.toArray 32)).drew = w1 at *
  generalize hlb : (bl n.client.data.toList).1 = lb at *
  generalize hG0 : (bl n.client.data.toList).2 = G0 at *
  clear hw1 hlb hG0 HP2
  generalize n.pk.subs = xs at *
  have hconv := fun (w : World) (x : Int) => run_string_new (P := Tryz.prog) Tryz.underlying70 Tryz.underlying5 Tryz.underlying9 [x] 1 w
  simp only [List.map_cons, List.map_nil, List.length_cons, List.length_nil, Nat.zero_add] at hconv
  go_loopw [11, 12] (fun v i wr => ∃ j : Nat, i = .int .i64 j ∧ j ≤ xs.length ∧ ∃ G, v = .string ⟨(subGo (xs.take j) ([], x.l)).1.toArray⟩ ∧ DRep wr lb (subGo (xs.take j) ([], x.l)).2 G ∧ Upd G0 G w1 wr) (fun _ i _ => (xs.length - intOf i).toNat)
  case atStart => exact ⟨0, rfl, by omega, G0, rfl, HREP.out, upd_refl _ _⟩
  case round =>
    obtain ⟨j, rfl, hjl, G, rfl, hr, hu⟩ := hrel
    obtain ⟨p0, p1, p4, p26⟩ := HH.out _ _ hu
    by_cases hlt : j < xs.length
    · have hjI : (j : Int) < xs.length := by omega
      have hj0 : (0 : Int) ≤ j := by omega
      obtain ⟨b2, o2, hea, e0, e1⟩ := subs_row (HROW.out G wr hu) hlt
      rw [hea] at p26
      have HTK := Lib.hid (show subGo (xs.take (j + 1)) ([], x.l) = ((subGo (xs.take j) ([], x.l)).1 ++ [setCu xs[j].1 xs[j].2 (subGo (xs.take j) ([], x.l)).2], setE xs[j].1 xs[j].2 (subGo (xs.take j) ([], x.l)).2) by rw [List.take_succ_eq_append_getElem hlt, subGo_snoc])
      have HXO := Lib.hid (HSO.out _ (List.getElem_mem hlt))
      generalize xs[j] = z at *
      obtain ⟨zf, zq⟩ := z
      dsimp only at *
      have hbn := (Below.refl wr.heap.size wr).alloc (Nat.le_refl _) (.cells #[.string ⟨zf.toArray⟩, .int .u8 zq] 39)
      have hxb := heap_alloc_new wr (.cells #[.string ⟨zf.toArray⟩, .int .u8 zq] 39)
      have b0 := cell_of_row _ _ 0 _ _ _ hxb
      have b1 := cell_of_row _ _ 1 _ _ _ hxb
      simp only [List.getElem?_toArray, List.getElem?_cons_zero, List.getElem?_cons_succ] at b0 b1
      have HU := Lib.hid hu
      have HR := Lib.hid hr
      have HGL := Lib.hid hr.lt
      clear hu hr hea m0 m1 m4 m26
      go_wp2_with fail
      have q0 := (hbn.cell (World.block_lt_of_cell? _ _ p0)).trans p0
      have q1 := (hbn.cell (World.block_lt_of_cell? _ _ p1)).trans p1
      have HBN := Lib.hid hbn
      have hxbn : wr.heap.size < (wr.alloc (.cells #[.string ⟨zf.toArray⟩, .int .u8 zq] 39)).heap.size := by simp
      clear hbn hxb p0 p1 p4 p26 e0 e1
      generalize wr.alloc (.cells #[.string ⟨zf.toArray⟩, .int .u8 zq] 39) = w2 at *
      have hrl : ¬ 9223372036854775807 < (subGo (xs.take j) ([], x.l)).1.length + 1 := by
        rw [subGo_len, List.length_take, List.length_nil]
        omega
      generalize subGo (xs.take j) ([], x.l) = R at *
      obtain ⟨rc, rl⟩ := R
      dsimp only at *
      have HD := Lib.hid (dset_any lb _ G zf zq w2.drew (HR.out.below HBN.out.drew) HXO.out.2.2 HXO.out.1 HXO.out.2.1)
      have HCI := Lib.hid (setCu_int (f := zf) (q := zq) (l := rl) HXO.out.1)
      rw [← HCI.out] at HD
      generalize setCu zf zq rl = cu at *
      refine wp_region_held_drew (S := fun X => X.cell? ⟨r, 0, none⟩ = some (.slice (some ⟨bx, o1, none⟩) s.seats.length cp) ∧ X.cell? ⟨bx, o1 + k * 4 + 3, none⟩ = some (.pointer (some ⟨lb, 0, none⟩)) ∧ X.cell? ⟨wr.heap.size, 0, none⟩ = some (.string ⟨zf.toArray⟩) ∧ X.cell? ⟨wr.heap.size, 1, none⟩ = some (.int .u8 zq)) (by kernel_rfl) ⟨q0, q1, b0, b1⟩ (fun hHeld => ?_)
      refine wpAnyH_take (i := 0) (v := ?_) rfl (by kernel_rfl) (by kernel_rfl) (by kernel_rfl) (fun _ _ _ h => h) (Or.inl ⟨rfl, ?_⟩) hHeld ?_
      rotate_left
      · intro w0 hS0
        try dsimp only at hS0
        go_simp
        try with_reducible rfl
      simp only [List.getElem_toArray, List.getElem_cons_zero, Act.put, List.setIfInBounds_toArray, List.set_cons_zero, List.set_cons_succ]
      refine wpAnyH_take (i := 1) (v := ?_) rfl (by kernel_rfl) (by kernel_rfl) (by kernel_rfl) (fun _ _ _ h => h) (Or.inl ⟨rfl, ?_⟩) hHeld ?_
      rotate_left
      · intro w0 hS0
        try dsimp only at hS0
        go_simp
        try with_reducible rfl
      simp only [List.getElem_toArray, List.getElem_cons_zero, List.getElem_cons_succ, Act.put, List.setIfInBounds_toArray, List.set_cons_zero, List.set_cons_succ]
      refine wpAnyH_take (i := 2) (v := ?_) rfl (by kernel_rfl) (by kernel_rfl) (by kernel_rfl) (fun _ _ _ h => h) (Or.inl ⟨rfl, ?_⟩) hHeld ?_
      rotate_left
      · intro w0 hS0
        try dsimp only at hS0
        go_simp
        try with_reducible rfl
      simp only [List.getElem_toArray, List.getElem_cons_zero, List.getElem_cons_succ, Act.put, List.setIfInBounds_toArray, List.set_cons_zero, List.set_cons_succ]
      refine wpAnyH_take (i := 3) (v := ?_) rfl (by kernel_rfl) (by kernel_rfl) (by kernel_rfl) (fun _ _ _ h => h) (Or.inl ⟨rfl, ?_⟩) hHeld ?_
      rotate_left
      · intro w0 hS0
        try dsimp only at hS0
        go_simp
        try with_reducible rfl
      simp only [List.getElem_toArray, List.getElem_cons_zero, List.getElem_cons_succ, Act.put, List.setIfInBounds_toArray, List.set_cons_zero, List.set_cons_succ]
      refine wpAnyH_take (i := 4) (v := ?_) rfl (by kernel_rfl) (by kernel_rfl) (by kernel_rfl) (fun _ _ _ h => h) (Or.inl ⟨rfl, ?_⟩) hHeld ?_
      rotate_left
      · intro w0 hS0
        try dsimp only at hS0
        go_simp
        try with_reducible rfl
      simp only [List.getElem_toArray, List.getElem_cons_zero, List.getElem_cons_succ, Act.put, List.setIfInBounds_toArray, List.set_cons_zero, List.set_cons_succ]
      refine wpAnyH_take (i := 5) (v := ?_) rfl (by kernel_rfl) (by kernel_rfl) (by kernel_rfl) (fun _ _ _ h => h) (Or.inl ⟨rfl, ?_⟩) hHeld ?_
      rotate_left
      · intro w0 hS0
        try dsimp only at hS0
        go_simp
        try with_reducible rfl
      simp only [List.getElem_toArray, List.getElem_cons_zero, List.getElem_cons_succ, Act.put, List.setIfInBounds_toArray, List.set_cons_zero, List.set_cons_succ]
      refine wpAnyH_take (i := 6) (v := ?_) rfl (by kernel_rfl) (by kernel_rfl) (by kernel_rfl) (fun _ _ _ h => h) (Or.inl ⟨rfl, ?_⟩) hHeld ?_
      rotate_left
      · intro w0 hS0
        try dsimp only at hS0
        go_simp
        try with_reducible rfl
      simp only [List.getElem_toArray, List.getElem_cons_zero, List.getElem_cons_succ, Act.put, List.setIfInBounds_toArray, List.set_cons_zero, List.set_cons_succ]
      refine wpAnyH_take (i := 7) (v := ?_) rfl (by kernel_rfl) (by kernel_rfl) (by kernel_rfl) (fun _ _ _ h => h) (Or.inl ⟨rfl, ?_⟩) hHeld ?_
      rotate_left
      · intro w0 hS0
        try dsimp only at hS0
        go_simp
        try with_reducible rfl
      simp only [List.getElem_toArray, List.getElem_cons_zero, List.getElem_cons_succ, Act.put, List.setIfInBounds_toArray, List.set_cons_zero, List.set_cons_succ]
      refine wpAnyH_take (i := 8) (v := ?_) rfl (by kernel_rfl) (by kernel_rfl) (by kernel_rfl) (fun _ _ _ h => h) (Or.inl ⟨rfl, ?_⟩) hHeld ?_
      rotate_left
      · intro w0 hS0
        try dsimp only at hS0
        go_simp
        try with_reducible rfl
      simp only [List.getElem_toArray, List.getElem_cons_zero, List.getElem_cons_succ, Act.put, List.setIfInBounds_toArray, List.set_cons_zero, List.set_cons_succ]
      refine wpAnyH_take (i := 9) (v := ?_) rfl (by kernel_rfl) (by kernel_rfl) (by kernel_rfl) (fun _ _ _ h => h) (Or.inl ⟨rfl, ?_⟩) hHeld ?_
      rotate_left
      · intro w0 hS0
        try dsimp only at hS0
        go_simp
        try with_reducible rfl
      simp only [List.getElem_toArray, List.getElem_cons_zero, List.getElem_cons_succ, Act.put, List.setIfInBounds_toArray, List.set_cons_zero, List.set_cons_succ]
      refine wpAnyH_take (i := 10) (v := ?_) rfl (by kernel_rfl) (by kernel_rfl) (by kernel_rfl) (fun _ _ _ h => h) (Or.inl ⟨rfl, ?_⟩) hHeld ?_
      rotate_left
      · intro w0 hS0
        try dsimp only at hS0
        go_simp
        try with_reducible rfl
      simp only [List.getElem_toArray, List.getElem_cons_zero, List.getElem_cons_succ, Act.put, List.setIfInBounds_toArray, List.set_cons_zero, List.set_cons_succ]
      refine wpAnyH_take (i := 11) (v := ?_) rfl (by kernel_rfl) (by kernel_rfl) (by kernel_rfl) (fun _ _ _ h => h) (Or.inl ⟨rfl, ?_⟩) hHeld ?_
      rotate_left
      · intro w0 hS0
        try dsimp only at hS0
        go_simp
        try with_reducible rfl
      simp only [List.getElem_toArray, List.getElem_cons_zero, List.getElem_cons_succ, Act.put, List.setIfInBounds_toArray, List.set_cons_zero, List.set_cons_succ]
      refine wpAnyH_take (i := 12) (v := ?_) rfl (by kernel_rfl) (by kernel_rfl) (by kernel_rfl) (fun _ _ _ h => h) (Or.inl ⟨rfl, ?_⟩) hHeld ?_
      rotate_left
      · intro w0 hS0
        try dsimp only at hS0
        go_simp
        try with_reducible rfl
      simp only [List.getElem_toArray, List.getElem_cons_zero, List.getElem_cons_succ, Act.put, List.setIfInBounds_toArray, List.set_cons_zero, List.set_cons_succ]
      refine wpAnyH_ready (rs := [13]) (by kernel_rfl) (by simp) ?_
      refine AllReadyH.cons rfl (fun K hK => ?_) AllReadyH.nil
      rw [if_pos (by rfl)]
      go_simp
      go_at_call 46
      refine HD.out.mono ?_
      rintro e w3 ⟨rfl, G2, hr3, hu3⟩
      have HU3 := Lib.hid (upd_trans HU.out (upd_pre HBN.out.drew hu3))
      obtain ⟨p0, p1, -, -⟩ := HH.out _ _ HU3.out
      have hS3 : w3.cell? ⟨r, 0, none⟩ = some (.slice (some ⟨bx, o1, none⟩) s.seats.length cp) ∧ w3.cell? ⟨bx, o1 + k * 4 + 3, none⟩ = some (.pointer (some ⟨lb, 0, none⟩)) ∧ w3.cell? ⟨wr.heap.size, 0, none⟩ = some (.string ⟨zf.toArray⟩) ∧ w3.cell? ⟨wr.heap.size, 1, none⟩ = some (.int .u8 zq) := by
        have k2 := hu3.1.block wr.heap.size (by simpa using hxbn) (fun h => by have := HGL.out _ h; omega)
        refine ⟨p0, p1, ?_, ?_⟩
        · rw [World.cell?_of_block k2]; exact b0
        · rw [World.cell?_of_block k2]; exact b1
      have HR3 := Lib.hid hr3
      clear hr3 hu3 p0 p1
      refine hK.out _ _ hS3 (fun hHeld => ?_)
      refine wpAnyH_ready (rs := [14]) (by kernel_rfl) (by simp) ?_
      refine AllReadyH.cons rfl (fun K hK => ?_) AllReadyH.nil
      rw [if_pos (by rfl)]
      go_simp
      have hba3 := (Below.refl w3.heap.size w3).alloc (Nat.le_refl _) (.cells #[.int .u8 cu.toNat] 5)
      have hS4 : ∀ X, Below w3.heap.size w3 X → X.cell? ⟨r, 0, none⟩ = some (.slice (some ⟨bx, o1, none⟩) s.seats.length cp) ∧ X.cell? ⟨bx, o1 + k * 4 + 3, none⟩ = some (.pointer (some ⟨lb, 0, none⟩)) ∧ X.cell? ⟨wr.heap.size, 0, none⟩ = some (.string ⟨zf.toArray⟩) ∧ X.cell? ⟨wr.heap.size, 1, none⟩ = some (.int .u8 zq) := fun X hX =>
        ⟨(hX.cell (World.block_lt_of_cell? _ _ hS3.1)).trans hS3.1, (hX.cell (World.block_lt_of_cell? _ _ hS3.2.1)).trans hS3.2.1, (hX.cell (World.block_lt_of_cell? _ _ hS3.2.2.1)).trans hS3.2.2.1, (hX.cell (World.block_lt_of_cell? _ _ hS3.2.2.2)).trans hS3.2.2.2⟩
      refine hK.out _ _ (hS4 _ hba3) (fun hHeld => ?_)
      have hcv := hconv w3 cu.toNat
      have hcu : UInt8.ofNat ((cu.toNat : Int)).toNat = cu := by simp
      rw [hcu] at hcv
      clear hcu
      refine wpAnyH_ready (rs := [15]) (by kernel_rfl) (by simp) ?_
      refine AllReadyH.cons rfl (fun K hK => ?_) AllReadyH.nil
      rw [if_pos (by rfl)]
      go_simp
      have HR4 := Lib.hid (HR3.out.below hba3)
      have HU4 : Hid (Upd G0 G2 w1 (w3.alloc (.cells #[.int .u8 cu.toNat] 5))) := Lib.hid ⟨HU3.out.1.alloc _, HU3.out.2⟩
      refine hK.out _ _ (hS4 _ hba3) (fun hHeld => ?_)
      clear hcv hba3 hS4 hS3
      refine wpAnyH_take (i := 16) (v := ?_) rfl (by kernel_rfl) (by kernel_rfl) (by kernel_rfl) (fun _ _ _ h => h) (Or.inl ⟨rfl, ?_⟩) hHeld ?_
      rotate_left
      · intro w0 hS0
        try dsimp only at hS0
        go_simp
        try with_reducible rfl
      simp only [List.getElem_toArray, List.getElem_cons_zero, List.getElem_cons_succ, Act.put, List.setIfInBounds_toArray, List.set_cons_zero, List.set_cons_succ]
      refine wpAnyH_take (i := 17) (v := ?_) rfl (by kernel_rfl) (by kernel_rfl) (by kernel_rfl) (fun _ _ _ h => h) (Or.inl ⟨rfl, ?_⟩) hHeld ?_
      rotate_left
      · intro w0 hS0
        try dsimp only at hS0
        go_simp
        try with_reducible rfl
      simp only [List.getElem_toArray, List.getElem_cons_zero, List.getElem_cons_succ, Act.put, List.setIfInBounds_toArray, List.set_cons_zero, List.set_cons_succ]
      refine wpAnyH_done (by kernel_rfl) ?_ _
      clear hHeld
      go_wp2_with fail
      go_roundw
      case rel => exact ⟨j + 1, by go_num, by omega, G2, by rw [HTK.out]; simp [codes_snoc], by rw [HTK.out]; exact HR4.out, HU4.out⟩
      case measure => simp [intOf]; omega
    · have hjI : ¬ (j : Int) < xs.length := by omega
      rw [List.take_of_length_le (by omega)] at hr
      have HFIN := Lib.hid (HOUT.out _ _ _ hr hu)
      clear hu hr m0 m1 m4 m26
      rw [List.take_of_length_le (by omega)]
      go_wp2_with fail
      go_ret3
      unfold DApplyQ
      rw [HE.out, HE2.out]
      obtain ⟨f1, f2⟩ := HFIN.out
      exact ⟨rfl, v, KF, _, f1, upd_pre HB2.out f2⟩
end
end Go.Proofs.YthfeckndkmhieaaGreatDoor
