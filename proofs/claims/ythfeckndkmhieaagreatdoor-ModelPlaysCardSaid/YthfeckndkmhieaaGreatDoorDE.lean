/- The document's model: Apply of a note that keeps. The document's model: Apply of a note that is not for it. The document's model: a session is appended to its row. The document's model: a session's connection ends, its filters are turned: what stands in memory then. -/
import Derived.Test.YthfeckndkmhieaaGreatDoorDD
import Derived.Test.YthfeckndkmhieaaGreatDoorQM
namespace Go.Proofs.YthfeckndkmhieaaGreatDoor
section
open Go Go.RowKit Go.Maps

def DApplyQ (r kg : Nat) (v : Value) (KF : List Nat) (bl : Str → Nat × List Nat) (s : MS) (n : Note) (w : World) (e : Ending) (w' : World) : Prop :=
  e = .returned (.tuple #[.string ⟨(applyM n s).1.1.toArray⟩, .bool (applyM n s).1.2.1, .bool (applyM n s).1.2.2]) ∧ ∃ v' KF' bl', DParts w' r kg v' KF' bl' (applyM n s).2 ∧ Upd (footD r v KF bl s.seats) (footD r v' KF' bl' (applyM n s).2.seats) w w'
set_option maxRecDepth 100000 in
set_option maxHeartbeats 2000000 in
theorem dapply_keeps (r kg : Nat) (v : Value) (KF : List Nat) (bl : Str → Nat × List Nat) (s : MS) (n : Note) (w : World) (h : DParts w r kg v KF bl s) (hn : NoteOk n) (hk : n.kind = 5) (hU : Up s.kept) (hl : s.kept.length < 1000000) :
    Calls Tryz.prog 20 #[.pointer (some ⟨r, 0, none⟩), .agg n.cells.toArray] w (DApplyQ r kg v KF bl s n w) := by
  have HE : Hid (applyM n s = (([], false, mayB n.msg), ⟨s.seats, setB n.msg s.kept⟩)) := Lib.hid (by unfold applyM; rw [if_pos hk])
  have hnew := heap_alloc_new w (.cells n.cells.toArray 32)
  have hba := (Below.refl w.heap.size w).alloc (Nat.le_refl _) (.cells n.cells.toArray 32)
  have h1 := h.below hba
  obtain ⟨n0, -, -, -, -, -, n28, n29, n30, n31⟩ := note_cell hnew
  obtain ⟨a, cp, hv, c0, c1, -⟩ := h1.held
  have HB := Lib.hid hba
  clear hnew
  go_enter Tryz.func20, Tryz.ntmps20
  go_wp2_with fail
  generalize w.alloc (.cells n.cells.toArray 32) = w1 at *
  have HS := Lib.hid (rset_u (mayB n.msg) kg n.msg s.kept KF w1.drew (h1.kept.below (below_drewN (Below.refl _ _) 1)) hU hn.topic hn.q0 hn.q1 hl rfl)
  have HP := Lib.hid (h1.below (below_drewN (Below.refl _ _) 1))
  clear h h1 hba hn
  go_still_tail 6, (by kernel_rfl)
  change wpList _ _ _ _ _ w1.drew
  go_wp2_with fail
  refine HS.out.mono ?_
  rintro e w2 ⟨rfl, KF', hr, hu⟩
  have HG := Lib.hid (HP.out.setKept hr hu)
  clear hr hu
  go_wp2_with fail
  go_ret3
  unfold DApplyQ
  rw [HE.out]
  obtain ⟨g1, g2⟩ := HG.out
  exact ⟨rfl, v, KF', bl, g1, upd_pre HB.out.drew g2⟩
set_option maxRecDepth 100000 in
set_option maxHeartbeats 2000000 in
theorem dapply_else (r kg : Nat) (v : Value) (KF : List Nat) (bl : Str → Nat × List Nat) (s : MS) (n : Note) (w : World) (h : DParts w r kg v KF bl s) (hk : n.kind ≠ 5) (hk2 : n.kind ≠ 2) :
    Calls Tryz.prog 20 #[.pointer (some ⟨r, 0, none⟩), .agg n.cells.toArray] w (DApplyQ r kg v KF bl s n w) := by
  have HE : Hid (applyM n s = (([], false, true), s)) := Lib.hid (by unfold applyM; rw [if_neg hk, if_pos hk2])
  have hnew := heap_alloc_new w (.cells n.cells.toArray 32)
  have hba := (Below.refl w.heap.size w).alloc (Nat.le_refl _) (.cells n.cells.toArray 32)
  have HP := Lib.hid (h.below hba)
  obtain ⟨n0, -⟩ := note_cell hnew
  have HB := Lib.hid hba
  have hq : (n.kind == 5) = false := by simpa using hk
  have hq2 : (n.kind == 2) = false := by simpa using hk2
  clear hnew h hba
  go_enter Tryz.func20, Tryz.ntmps20
  go_wp2_with fail
  go_ret3
  unfold DApplyQ
  rw [HE.out]
  exact ⟨rfl, v, KF, bl, HP.out, Mod.of_below HB.out _, fun k hk => .inl hk⟩
end
section
open Go Go.RowKit Go.Maps

set_option maxRecDepth 100000 in
set_option maxHeartbeats 4000000 in
theorem dapply_no (r kg : Nat) (v : Value) (KF : List Nat) (bl : Str → Nat × List Nat) (s : MS) (n : Note) (w : World) (h : DParts w r kg v KF bl s) (hl : s.seats.length < 1000000) (hk : n.kind = 2) (ht : n.pk.ty ≠ 1) (hno : ∀ x, lookS n.client.data.toList s.seats = some x → n.conn < 1 ∨ x.conn ≠ n.conn) :
    Calls Tryz.prog 20 #[.pointer (some ⟨r, 0, none⟩), .agg n.cells.toArray] w (DApplyQ r kg v KF bl s n w) := by
  have HE : Hid (applyM n s = (([], false, false), s)) := Lib.hid (by
    unfold applyM
    rw [if_neg (by omega), if_neg (by omega), if_neg ht]
    cases ho : lookS n.client.data.toList s.seats with
    | none => rfl
    | some x => simp only; rw [if_pos (hno x ho)])
  have hnew := heap_alloc_new w (.cells n.cells.toArray 32)
  have hba := (Below.refl w.heap.size w).alloc (Nat.le_refl _) (.cells n.cells.toArray 32)
  have h1 := h.below hba
  obtain ⟨n0, n2, n3, n4, -, n26, -⟩ := note_cell hnew
  obtain ⟨a, cp, -, c0, -, hrow⟩ := h1.held
  have HB := Lib.hid hba
  have HP := Lib.hid h1
  have HF := Lib.hid (dfind_any r n.client.data.toList s.seats bl a cp _ c0 hrow hl)
  rw [str_mk] at HF
  clear hnew h h1 hba
  cases hp : posS n.client.data.toList s.seats with
  | none =>
    rw [findI_none hp] at HF
    clear hp hno hrow
    go_enter Tryz.func20, Tryz.ntmps20
    go_wp2_with fail
    refine HF.out.mono ?_
    rintro e w' ⟨rfl, rfl⟩
    go_wp2_with fail
    go_quiet (fail)
    go_wp2_with fail
    go_ret3
    unfold DApplyQ
    rw [HE.out]
    exact ⟨rfl, v, KF, bl, HP.out.below (below_drewN (Below.refl _ _) _), Mod.of_below (below_drewN HB.out _) _, fun k hk => .inl hk⟩
  | some k =>
    rw [findI_some hp] at HF
    obtain ⟨x, hx, hxc, hlk⟩ := posS_some hp
    have hno := hno x.2 hlk
    obtain ⟨b1, o1, rfl, d0, d1, d2, d3⟩ := seats_row hrow hx
    have hkl : k < s.seats.length := (List.getElem?_eq_some_iff.1 hx).1
    have hk0 : (0 : Int) ≤ k := by omega
    have hk1 : (k : Int) < s.seats.length := by omega
    have hk2 : ¬ (k : Int) < 0 := by omega
    clear hp hrow hlk hx hxc d0 d2 d3
    generalize x.2.conn = xn at *
    generalize hsl : s.seats.length = sn at *
    clear hsl
    by_cases hc1 : n.conn < 1
    · clear hno
      go_enter Tryz.func20, Tryz.ntmps20
      go_wp2_with fail
      refine HF.out.mono ?_
      rintro e w' ⟨rfl, rfl⟩
      go_wp2_with fail
      refine wp_region_held_drew (S := fun X => X.cell? ⟨w.heap.size, 2, none⟩ = some (.int .i64 n.conn) ∧ X.cell? ⟨r, 0, none⟩ = some (.slice (some ⟨b1, o1, none⟩) sn cp) ∧ X.cell? ⟨b1, o1 + k * 4 + 1, none⟩ = some (.int .i64 xn)) (by kernel_rfl) ⟨n2, c0, d1⟩ (fun hHeld => ?_)
      refine wpAnyH_take (i := 0) (v := ?_) rfl (by kernel_rfl) (by kernel_rfl) (by kernel_rfl) (fun _ _ _ h => h) (Or.inl ⟨rfl, ?_⟩) hHeld ?_
      rotate_left
      · intro w0 hS0
        try dsimp only at hS0
        go_simp
        try with_reducible rfl
      simp only [List.getElem_toArray, List.getElem_cons_zero, Act.put, List.setIfInBounds_toArray, List.set_cons_zero, List.set_cons_succ]
      refine wpAnyH_take (i := 1) (v := ?_) rfl (by kernel_rfl) (by kernel_rfl) (by kernel_rfl) (fun _ _ _ h => h) (Or.inl ⟨rfl, ?_⟩) hHeld ?_
      rotate_left
      · intro w0 hS0
        try dsimp only at hS0
        go_simp
        try with_reducible rfl
      simp only [List.getElem_toArray, List.getElem_cons_zero, List.getElem_cons_succ, Act.put, List.setIfInBounds_toArray, List.set_cons_zero, List.set_cons_succ]
      refine wpAnyH_take (i := 2) (v := ?_) rfl (by kernel_rfl) (by kernel_rfl) (by kernel_rfl) (fun _ _ _ h => h) (Or.inl ⟨rfl, ?_⟩) hHeld ?_
      rotate_left
      · intro w0 hS0
        try dsimp only at hS0
        go_simp
        try with_reducible rfl
      simp only [List.getElem_toArray, List.getElem_cons_zero, List.getElem_cons_succ, Act.put, List.setIfInBounds_toArray, List.set_cons_zero, List.set_cons_succ]
      refine wpAnyH_take (i := 3) (v := ?_) rfl (by kernel_rfl) (by kernel_rfl) (by kernel_rfl) (fun _ _ _ h => h) (Or.inl ⟨rfl, ?_⟩) hHeld ?_
      rotate_left
      · intro w0 hS0
        try dsimp only at hS0
        go_simp
        try with_reducible rfl
      simp only [List.getElem_toArray, List.getElem_cons_zero, List.getElem_cons_succ, Act.put, List.setIfInBounds_toArray, List.set_cons_zero, List.set_cons_succ]
      refine wpAnyH_take (i := 4) (v := ?_) rfl (by kernel_rfl) (by kernel_rfl) (by kernel_rfl) (fun _ _ _ h => h) (Or.inl ⟨rfl, ?_⟩) hHeld ?_
      rotate_left
      · intro w0 hS0
        try dsimp only at hS0
        go_simp
        try with_reducible rfl
      simp only [List.getElem_toArray, List.getElem_cons_zero, List.getElem_cons_succ, Act.put, List.setIfInBounds_toArray, List.set_cons_zero, List.set_cons_succ]
      refine wpAnyH_take (i := 5) (v := ?_) rfl (by kernel_rfl) (by kernel_rfl) (by kernel_rfl) (fun _ _ _ h => h) (Or.inl ⟨rfl, ?_⟩) hHeld ?_
      rotate_left
      · intro w0 hS0
        try dsimp only at hS0
        go_simp
        try with_reducible rfl
      simp only [List.getElem_toArray, List.getElem_cons_zero, List.getElem_cons_succ, Act.put, List.setIfInBounds_toArray, List.set_cons_zero, List.set_cons_succ]
      refine wpAnyH_take (i := 6) (v := ?_) rfl (by kernel_rfl) (by kernel_rfl) (by kernel_rfl) (fun _ _ _ h => h) (Or.inl ⟨rfl, ?_⟩) hHeld ?_
      rotate_left
      · intro w0 hS0
        try dsimp only at hS0
        go_simp
        try with_reducible rfl
      simp only [List.getElem_toArray, List.getElem_cons_zero, List.getElem_cons_succ, Act.put, List.setIfInBounds_toArray, List.set_cons_zero, List.set_cons_succ]
      refine wpAnyH_take (i := 7) (v := ?_) rfl (by kernel_rfl) (by kernel_rfl) (by kernel_rfl) (fun _ _ _ h => h) (Or.inl ⟨rfl, ?_⟩) hHeld ?_
      rotate_left
      · intro w0 hS0
        try dsimp only at hS0
        go_simp
        try with_reducible rfl
      simp only [List.getElem_toArray, List.getElem_cons_zero, List.getElem_cons_succ, Act.put, List.setIfInBounds_toArray, List.set_cons_zero, List.set_cons_succ]
      refine wpAnyH_take (i := 8) (v := undef) rfl (by kernel_rfl) (by kernel_rfl) (by kernel_rfl) (fun _ _ _ h => h) (Or.inr ⟨rfl, rfl⟩) hHeld ?_
      simp only [List.getElem_toArray, List.getElem_cons_zero, List.getElem_cons_succ, Act.put, List.setIfInBounds_toArray, List.set_cons_zero, List.set_cons_succ]
      refine wpAnyH_take (i := 9) (v := undef) rfl (by kernel_rfl) (by kernel_rfl) (by kernel_rfl) (fun _ _ _ h => h) (Or.inr ⟨rfl, rfl⟩) hHeld ?_
      simp only [List.getElem_toArray, List.getElem_cons_zero, List.getElem_cons_succ, Act.put, List.setIfInBounds_toArray, List.set_cons_zero, List.set_cons_succ]
      refine wpAnyH_take (i := 10) (v := undef) rfl (by kernel_rfl) (by kernel_rfl) (by kernel_rfl) (fun _ _ _ h => h) (Or.inr ⟨rfl, rfl⟩) hHeld ?_
      simp only [List.getElem_toArray, List.getElem_cons_zero, List.getElem_cons_succ, Act.put, List.setIfInBounds_toArray, List.set_cons_zero, List.set_cons_succ]
      refine wpAnyH_take (i := 11) (v := undef) rfl (by kernel_rfl) (by kernel_rfl) (by kernel_rfl) (fun _ _ _ h => h) (Or.inr ⟨rfl, rfl⟩) hHeld ?_
      simp only [List.getElem_toArray, List.getElem_cons_zero, List.getElem_cons_succ, Act.put, List.setIfInBounds_toArray, List.set_cons_zero, List.set_cons_succ]
      refine wpAnyH_take (i := 12) (v := undef) rfl (by kernel_rfl) (by kernel_rfl) (by kernel_rfl) (fun _ _ _ h => h) (Or.inr ⟨rfl, rfl⟩) hHeld ?_
      simp only [List.getElem_toArray, List.getElem_cons_zero, List.getElem_cons_succ, Act.put, List.setIfInBounds_toArray, List.set_cons_zero, List.set_cons_succ]
      refine wpAnyH_take (i := 13) (v := undef) rfl (by kernel_rfl) (by kernel_rfl) (by kernel_rfl) (fun _ _ _ h => h) (Or.inr ⟨rfl, rfl⟩) hHeld ?_
      simp only [List.getElem_toArray, List.getElem_cons_zero, List.getElem_cons_succ, Act.put, List.setIfInBounds_toArray, List.set_cons_zero, List.set_cons_succ]
      refine wpAnyH_take (i := 14) (v := undef) rfl (by kernel_rfl) (by kernel_rfl) (by kernel_rfl) (fun _ _ _ h => h) (Or.inr ⟨rfl, rfl⟩) hHeld ?_
      simp only [List.getElem_toArray, List.getElem_cons_zero, List.getElem_cons_succ, Act.put, List.setIfInBounds_toArray, List.set_cons_zero, List.set_cons_succ]
      refine wpAnyH_take (i := 15) (v := undef) rfl (by kernel_rfl) (by kernel_rfl) (by kernel_rfl) (fun _ _ _ h => h) (Or.inr ⟨rfl, rfl⟩) hHeld ?_
      simp only [List.getElem_toArray, List.getElem_cons_zero, List.getElem_cons_succ, Act.put, List.setIfInBounds_toArray, List.set_cons_zero, List.set_cons_succ]
      refine wpAnyH_take (i := 16) (v := undef) rfl (by kernel_rfl) (by kernel_rfl) (by kernel_rfl) (fun _ _ _ h => h) (Or.inr ⟨rfl, rfl⟩) hHeld ?_
      simp only [List.getElem_toArray, List.getElem_cons_zero, List.getElem_cons_succ, Act.put, List.setIfInBounds_toArray, List.set_cons_zero, List.set_cons_succ]
      refine wpAnyH_take (i := 17) (v := undef) rfl (by kernel_rfl) (by kernel_rfl) (by kernel_rfl) (fun _ _ _ h => h) (Or.inr ⟨rfl, rfl⟩) hHeld ?_
      simp only [List.getElem_toArray, List.getElem_cons_zero, List.getElem_cons_succ, Act.put, List.setIfInBounds_toArray, List.set_cons_zero, List.set_cons_succ]
      refine wpAnyH_take (i := 18) (v := undef) rfl (by kernel_rfl) (by kernel_rfl) (by kernel_rfl) (fun _ _ _ h => h) (Or.inr ⟨rfl, rfl⟩) hHeld ?_
      simp only [List.getElem_toArray, List.getElem_cons_zero, List.getElem_cons_succ, Act.put, List.setIfInBounds_toArray, List.set_cons_zero, List.set_cons_succ]
      refine wpAnyH_take (i := 19) (v := ?_) rfl (by kernel_rfl) (by kernel_rfl) (by kernel_rfl) (fun _ _ _ h => h) (Or.inl ⟨rfl, ?_⟩) hHeld ?_
      rotate_left
      · intro w0 hS0
        try dsimp only at hS0
        go_simp
        try with_reducible rfl
      simp only [List.getElem_toArray, List.getElem_cons_zero, List.getElem_cons_succ, Act.put, List.setIfInBounds_toArray, List.set_cons_zero, List.set_cons_succ]
      refine wpAnyH_take (i := 20) (v := ?_) rfl (by kernel_rfl) (by kernel_rfl) (by kernel_rfl) (fun _ _ _ h => h) (Or.inl ⟨rfl, ?_⟩) hHeld ?_
      rotate_left
      · intro w0 hS0
        try dsimp only at hS0
        go_simp
        try with_reducible rfl
      simp only [List.getElem_toArray, List.getElem_cons_zero, List.getElem_cons_succ, Act.put, List.setIfInBounds_toArray, List.set_cons_zero, List.set_cons_succ]
      refine wpAnyH_take (i := 21) (v := undef) rfl (by kernel_rfl) (by kernel_rfl) (by kernel_rfl) (fun _ _ _ h => h) (Or.inr ⟨rfl, rfl⟩) hHeld ?_
      simp only [List.getElem_toArray, List.getElem_cons_zero, List.getElem_cons_succ, Act.put, List.setIfInBounds_toArray, List.set_cons_zero, List.set_cons_succ]
      refine wpAnyH_take (i := 22) (v := undef) rfl (by kernel_rfl) (by kernel_rfl) (by kernel_rfl) (fun _ _ _ h => h) (Or.inr ⟨rfl, rfl⟩) hHeld ?_
      simp only [List.getElem_toArray, List.getElem_cons_zero, List.getElem_cons_succ, Act.put, List.setIfInBounds_toArray, List.set_cons_zero, List.set_cons_succ]
      refine wpAnyH_take (i := 23) (v := undef) rfl (by kernel_rfl) (by kernel_rfl) (by kernel_rfl) (fun _ _ _ h => h) (Or.inr ⟨rfl, rfl⟩) hHeld ?_
      simp only [List.getElem_toArray, List.getElem_cons_zero, List.getElem_cons_succ, Act.put, List.setIfInBounds_toArray, List.set_cons_zero, List.set_cons_succ]
      refine wpAnyH_take (i := 24) (v := undef) rfl (by kernel_rfl) (by kernel_rfl) (by kernel_rfl) (fun _ _ _ h => h) (Or.inr ⟨rfl, rfl⟩) hHeld ?_
      simp only [List.getElem_toArray, List.getElem_cons_zero, List.getElem_cons_succ, Act.put, List.setIfInBounds_toArray, List.set_cons_zero, List.set_cons_succ]
      refine wpAnyH_take (i := 25) (v := undef) rfl (by kernel_rfl) (by kernel_rfl) (by kernel_rfl) (fun _ _ _ h => h) (Or.inr ⟨rfl, rfl⟩) hHeld ?_
      simp only [List.getElem_toArray, List.getElem_cons_zero, List.getElem_cons_succ, Act.put, List.setIfInBounds_toArray, List.set_cons_zero, List.set_cons_succ]
      refine wpAnyH_take (i := 26) (v := undef) rfl (by kernel_rfl) (by kernel_rfl) (by kernel_rfl) (fun _ _ _ h => h) (Or.inr ⟨rfl, rfl⟩) hHeld ?_
      simp only [List.getElem_toArray, List.getElem_cons_zero, List.getElem_cons_succ, Act.put, List.setIfInBounds_toArray, List.set_cons_zero, List.set_cons_succ]
      refine wpAnyH_take (i := 27) (v := undef) rfl (by kernel_rfl) (by kernel_rfl) (by kernel_rfl) (fun _ _ _ h => h) (Or.inr ⟨rfl, rfl⟩) hHeld ?_
      simp only [List.getElem_toArray, List.getElem_cons_zero, List.getElem_cons_succ, Act.put, List.setIfInBounds_toArray, List.set_cons_zero, List.set_cons_succ]
      refine wpAnyH_take (i := 28) (v := undef) rfl (by kernel_rfl) (by kernel_rfl) (by kernel_rfl) (fun _ _ _ h => h) (Or.inr ⟨rfl, rfl⟩) hHeld ?_
      simp only [List.getElem_toArray, List.getElem_cons_zero, List.getElem_cons_succ, Act.put, List.setIfInBounds_toArray, List.set_cons_zero, List.set_cons_succ]
      refine wpAnyH_take (i := 29) (v := undef) rfl (by kernel_rfl) (by kernel_rfl) (by kernel_rfl) (fun _ _ _ h => h) (Or.inr ⟨rfl, rfl⟩) hHeld ?_
      simp only [List.getElem_toArray, List.getElem_cons_zero, List.getElem_cons_succ, Act.put, List.setIfInBounds_toArray, List.set_cons_zero, List.set_cons_succ]
      refine wpAnyH_take (i := 30) (v := undef) rfl (by kernel_rfl) (by kernel_rfl) (by kernel_rfl) (fun _ _ _ h => h) (Or.inr ⟨rfl, rfl⟩) hHeld ?_
      simp only [List.getElem_toArray, List.getElem_cons_zero, List.getElem_cons_succ, Act.put, List.setIfInBounds_toArray, List.set_cons_zero, List.set_cons_succ]
      refine wpAnyH_take (i := 31) (v := undef) rfl (by kernel_rfl) (by kernel_rfl) (by kernel_rfl) (fun _ _ _ h => h) (Or.inr ⟨rfl, rfl⟩) hHeld ?_
      simp only [List.getElem_toArray, List.getElem_cons_zero, List.getElem_cons_succ, Act.put, List.setIfInBounds_toArray, List.set_cons_zero, List.set_cons_succ]
      refine wpAnyH_take (i := 32) (v := undef) rfl (by kernel_rfl) (by kernel_rfl) (by kernel_rfl) (fun _ _ _ h => h) (Or.inr ⟨rfl, rfl⟩) hHeld ?_
      simp only [List.getElem_toArray, List.getElem_cons_zero, List.getElem_cons_succ, Act.put, List.setIfInBounds_toArray, List.set_cons_zero, List.set_cons_succ]
      refine wpAnyH_take (i := 33) (v := undef) rfl (by kernel_rfl) (by kernel_rfl) (by kernel_rfl) (fun _ _ _ h => h) (Or.inr ⟨rfl, rfl⟩) hHeld ?_
      simp only [List.getElem_toArray, List.getElem_cons_zero, List.getElem_cons_succ, Act.put, List.setIfInBounds_toArray, List.set_cons_zero, List.set_cons_succ]
      refine wpAnyH_take (i := 34) (v := undef) rfl (by kernel_rfl) (by kernel_rfl) (by kernel_rfl) (fun _ _ _ h => h) (Or.inr ⟨rfl, rfl⟩) hHeld ?_
      simp only [List.getElem_toArray, List.getElem_cons_zero, List.getElem_cons_succ, Act.put, List.setIfInBounds_toArray, List.set_cons_zero, List.set_cons_succ]
      refine wpAnyH_take (i := 35) (v := ?_) rfl (by kernel_rfl) (by kernel_rfl) (by kernel_rfl) (fun _ _ _ h => h) (Or.inl ⟨rfl, ?_⟩) hHeld ?_
      rotate_left
      · intro w0 hS0
        try dsimp only at hS0
        go_simp
        try with_reducible rfl
      simp only [List.getElem_toArray, List.getElem_cons_zero, List.getElem_cons_succ, Act.put, List.setIfInBounds_toArray, List.set_cons_zero, List.set_cons_succ]
      refine wpAnyH_done (by kernel_rfl) ?_ _
      clear hHeld
      go_wp2_with fail
      go_ret3
      unfold DApplyQ
      rw [HE.out]
      exact ⟨rfl, v, KF, bl, HP.out.below (Below.refl _ _).drew, Mod.of_below HB.out.drew _, fun k hk => .inl hk⟩
    · have hq : (xn != n.conn) = true := bne_iff_ne.2 (hno.resolve_left hc1)
      have hcd : decide (n.conn < 1) = false := decide_eq_false hc1
      clear hno
      go_enter Tryz.func20, Tryz.ntmps20
      go_wp2_with fail
      refine HF.out.mono ?_
      rintro e w' ⟨rfl, rfl⟩
      go_wp2_with fail
      refine wp_region_held_drew (S := fun X => X.cell? ⟨w.heap.size, 2, none⟩ = some (.int .i64 n.conn) ∧ X.cell? ⟨r, 0, none⟩ = some (.slice (some ⟨b1, o1, none⟩) sn cp) ∧ X.cell? ⟨b1, o1 + k * 4 + 1, none⟩ = some (.int .i64 xn)) (by kernel_rfl) ⟨n2, c0, d1⟩ (fun hHeld => ?_)
      refine wpAnyH_take (i := 0) (v := ?_) rfl (by kernel_rfl) (by kernel_rfl) (by kernel_rfl) (fun _ _ _ h => h) (Or.inl ⟨rfl, ?_⟩) hHeld ?_
      rotate_left
      · intro w0 hS0
        try dsimp only at hS0
        go_simp
        try with_reducible rfl
      simp only [List.getElem_toArray, List.getElem_cons_zero, Act.put, List.setIfInBounds_toArray, List.set_cons_zero, List.set_cons_succ]
      refine wpAnyH_take (i := 1) (v := ?_) rfl (by kernel_rfl) (by kernel_rfl) (by kernel_rfl) (fun _ _ _ h => h) (Or.inl ⟨rfl, ?_⟩) hHeld ?_
      rotate_left
      · intro w0 hS0
        try dsimp only at hS0
        go_simp
        try with_reducible rfl
      simp only [List.getElem_toArray, List.getElem_cons_zero, List.getElem_cons_succ, Act.put, List.setIfInBounds_toArray, List.set_cons_zero, List.set_cons_succ]
      refine wpAnyH_take (i := 2) (v := ?_) rfl (by kernel_rfl) (by kernel_rfl) (by kernel_rfl) (fun _ _ _ h => h) (Or.inl ⟨rfl, ?_⟩) hHeld ?_
      rotate_left
      · intro w0 hS0
        try dsimp only at hS0
        go_simp
        try with_reducible rfl
      simp only [List.getElem_toArray, List.getElem_cons_zero, List.getElem_cons_succ, Act.put, List.setIfInBounds_toArray, List.set_cons_zero, List.set_cons_succ]
      refine wpAnyH_take (i := 3) (v := ?_) rfl (by kernel_rfl) (by kernel_rfl) (by kernel_rfl) (fun _ _ _ h => h) (Or.inl ⟨rfl, ?_⟩) hHeld ?_
      rotate_left
      · intro w0 hS0
        try dsimp only at hS0
        go_simp
        try with_reducible rfl
      simp only [List.getElem_toArray, List.getElem_cons_zero, List.getElem_cons_succ, Act.put, List.setIfInBounds_toArray, List.set_cons_zero, List.set_cons_succ]
      refine wpAnyH_take (i := 4) (v := ?_) rfl (by kernel_rfl) (by kernel_rfl) (by kernel_rfl) (fun _ _ _ h => h) (Or.inl ⟨rfl, ?_⟩) hHeld ?_
      rotate_left
      · intro w0 hS0
        try dsimp only at hS0
        go_simp
        try with_reducible rfl
      simp only [List.getElem_toArray, List.getElem_cons_zero, List.getElem_cons_succ, Act.put, List.setIfInBounds_toArray, List.set_cons_zero, List.set_cons_succ]
      refine wpAnyH_take (i := 5) (v := ?_) rfl (by kernel_rfl) (by kernel_rfl) (by kernel_rfl) (fun _ _ _ h => h) (Or.inl ⟨rfl, ?_⟩) hHeld ?_
      rotate_left
      · intro w0 hS0
        try dsimp only at hS0
        go_simp
        try with_reducible rfl
      simp only [List.getElem_toArray, List.getElem_cons_zero, List.getElem_cons_succ, Act.put, List.setIfInBounds_toArray, List.set_cons_zero, List.set_cons_succ]
      refine wpAnyH_take (i := 6) (v := ?_) rfl (by kernel_rfl) (by kernel_rfl) (by kernel_rfl) (fun _ _ _ h => h) (Or.inl ⟨rfl, ?_⟩) hHeld ?_
      rotate_left
      · intro w0 hS0
        try dsimp only at hS0
        go_simp
        try with_reducible rfl
      simp only [List.getElem_toArray, List.getElem_cons_zero, List.getElem_cons_succ, Act.put, List.setIfInBounds_toArray, List.set_cons_zero, List.set_cons_succ]
      refine wpAnyH_take (i := 7) (v := ?_) rfl (by kernel_rfl) (by kernel_rfl) (by kernel_rfl) (fun _ _ _ h => h) (Or.inl ⟨rfl, ?_⟩) hHeld ?_
      rotate_left
      · intro w0 hS0
        try dsimp only at hS0
        go_simp
        try with_reducible rfl
      simp only [List.getElem_toArray, List.getElem_cons_zero, List.getElem_cons_succ, Act.put, List.setIfInBounds_toArray, List.set_cons_zero, List.set_cons_succ]
      refine wpAnyH_take (i := 8) (v := ?_) rfl (by kernel_rfl) (by kernel_rfl) (by kernel_rfl) (fun _ _ _ h => h) (Or.inl ⟨rfl, ?_⟩) hHeld ?_
      rotate_left
      · intro w0 hS0
        try dsimp only at hS0
        go_simp
        try with_reducible rfl
      simp only [List.getElem_toArray, List.getElem_cons_zero, List.getElem_cons_succ, Act.put, List.setIfInBounds_toArray, List.set_cons_zero, List.set_cons_succ]
      refine wpAnyH_take (i := 9) (v := ?_) rfl (by kernel_rfl) (by kernel_rfl) (by kernel_rfl) (fun _ _ _ h => h) (Or.inl ⟨rfl, ?_⟩) hHeld ?_
      rotate_left
      · intro w0 hS0
        try dsimp only at hS0
        go_simp
        try with_reducible rfl
      simp only [List.getElem_toArray, List.getElem_cons_zero, List.getElem_cons_succ, Act.put, List.setIfInBounds_toArray, List.set_cons_zero, List.set_cons_succ]
      refine wpAnyH_take (i := 10) (v := ?_) rfl (by kernel_rfl) (by kernel_rfl) (by kernel_rfl) (fun _ _ _ h => h) (Or.inl ⟨rfl, ?_⟩) hHeld ?_
      rotate_left
      · intro w0 hS0
        try dsimp only at hS0
        go_simp
        try with_reducible rfl
      simp only [List.getElem_toArray, List.getElem_cons_zero, List.getElem_cons_succ, Act.put, List.setIfInBounds_toArray, List.set_cons_zero, List.set_cons_succ]
      refine wpAnyH_take (i := 11) (v := ?_) rfl (by kernel_rfl) (by kernel_rfl) (by kernel_rfl) (fun _ _ _ h => h) (Or.inl ⟨rfl, ?_⟩) hHeld ?_
      rotate_left
      · intro w0 hS0
        try dsimp only at hS0
        go_simp
        try with_reducible rfl
      simp only [List.getElem_toArray, List.getElem_cons_zero, List.getElem_cons_succ, Act.put, List.setIfInBounds_toArray, List.set_cons_zero, List.set_cons_succ]
      refine wpAnyH_take (i := 12) (v := ?_) rfl (by kernel_rfl) (by kernel_rfl) (by kernel_rfl) (fun _ _ _ h => h) (Or.inl ⟨rfl, ?_⟩) hHeld ?_
      rotate_left
      · intro w0 hS0
        try dsimp only at hS0
        go_simp
        try with_reducible rfl
      simp only [List.getElem_toArray, List.getElem_cons_zero, List.getElem_cons_succ, Act.put, List.setIfInBounds_toArray, List.set_cons_zero, List.set_cons_succ]
      refine wpAnyH_take (i := 13) (v := ?_) rfl (by kernel_rfl) (by kernel_rfl) (by kernel_rfl) (fun _ _ _ h => h) (Or.inl ⟨rfl, ?_⟩) hHeld ?_
      rotate_left
      · intro w0 hS0
        try dsimp only at hS0
        go_simp
        try with_reducible rfl
      simp only [List.getElem_toArray, List.getElem_cons_zero, List.getElem_cons_succ, Act.put, List.setIfInBounds_toArray, List.set_cons_zero, List.set_cons_succ]
      refine wpAnyH_take (i := 14) (v := ?_) rfl (by kernel_rfl) (by kernel_rfl) (by kernel_rfl) (fun _ _ _ h => h) (Or.inl ⟨rfl, ?_⟩) hHeld ?_
      rotate_left
      · intro w0 hS0
        try dsimp only at hS0
        go_simp
        try with_reducible rfl
      simp only [List.getElem_toArray, List.getElem_cons_zero, List.getElem_cons_succ, Act.put, List.setIfInBounds_toArray, List.set_cons_zero, List.set_cons_succ]
      refine wpAnyH_take (i := 15) (v := ?_) rfl (by kernel_rfl) (by kernel_rfl) (by kernel_rfl) (fun _ _ _ h => h) (Or.inl ⟨rfl, ?_⟩) hHeld ?_
      rotate_left
      · intro w0 hS0
        try dsimp only at hS0
        go_simp
        try with_reducible rfl
      simp only [List.getElem_toArray, List.getElem_cons_zero, List.getElem_cons_succ, Act.put, List.setIfInBounds_toArray, List.set_cons_zero, List.set_cons_succ]
      refine wpAnyH_take (i := 16) (v := ?_) rfl (by kernel_rfl) (by kernel_rfl) (by kernel_rfl) (fun _ _ _ h => h) (Or.inl ⟨rfl, ?_⟩) hHeld ?_
      rotate_left
      · intro w0 hS0
        try dsimp only at hS0
        go_simp
        try with_reducible rfl
      simp only [List.getElem_toArray, List.getElem_cons_zero, List.getElem_cons_succ, Act.put, List.setIfInBounds_toArray, List.set_cons_zero, List.set_cons_succ]
      refine wpAnyH_take (i := 17) (v := ?_) rfl (by kernel_rfl) (by kernel_rfl) (by kernel_rfl) (fun _ _ _ h => h) (Or.inl ⟨rfl, ?_⟩) hHeld ?_
      rotate_left
      · intro w0 hS0
        try dsimp only at hS0
        go_simp
        try with_reducible rfl
      simp only [List.getElem_toArray, List.getElem_cons_zero, List.getElem_cons_succ, Act.put, List.setIfInBounds_toArray, List.set_cons_zero, List.set_cons_succ]
      refine wpAnyH_take (i := 18) (v := ?_) rfl (by kernel_rfl) (by kernel_rfl) (by kernel_rfl) (fun _ _ _ h => h) (Or.inl ⟨rfl, ?_⟩) hHeld ?_
      rotate_left
      · intro w0 hS0
        try dsimp only at hS0
        go_simp
        try with_reducible rfl
      simp only [List.getElem_toArray, List.getElem_cons_zero, List.getElem_cons_succ, Act.put, List.setIfInBounds_toArray, List.set_cons_zero, List.set_cons_succ]
      refine wpAnyH_take (i := 19) (v := ?_) rfl (by kernel_rfl) (by kernel_rfl) (by kernel_rfl) (fun _ _ _ h => h) (Or.inl ⟨rfl, ?_⟩) hHeld ?_
      rotate_left
      · intro w0 hS0
        try dsimp only at hS0
        go_simp
        try with_reducible rfl
      simp only [List.getElem_toArray, List.getElem_cons_zero, List.getElem_cons_succ, Act.put, List.setIfInBounds_toArray, List.set_cons_zero, List.set_cons_succ]
      refine wpAnyH_take (i := 20) (v := ?_) rfl (by kernel_rfl) (by kernel_rfl) (by kernel_rfl) (fun _ _ _ h => h) (Or.inl ⟨rfl, ?_⟩) hHeld ?_
      rotate_left
      · intro w0 hS0
        try dsimp only at hS0
        go_simp
        try with_reducible rfl
      simp only [List.getElem_toArray, List.getElem_cons_zero, List.getElem_cons_succ, Act.put, List.setIfInBounds_toArray, List.set_cons_zero, List.set_cons_succ]
      refine wpAnyH_take (i := 21) (v := undef) rfl (by kernel_rfl) (by kernel_rfl) (by kernel_rfl) (fun _ _ _ h => h) (Or.inr ⟨rfl, rfl⟩) hHeld ?_
      simp only [List.getElem_toArray, List.getElem_cons_zero, List.getElem_cons_succ, Act.put, List.setIfInBounds_toArray, List.set_cons_zero, List.set_cons_succ]
      refine wpAnyH_take (i := 22) (v := undef) rfl (by kernel_rfl) (by kernel_rfl) (by kernel_rfl) (fun _ _ _ h => h) (Or.inr ⟨rfl, rfl⟩) hHeld ?_
      simp only [List.getElem_toArray, List.getElem_cons_zero, List.getElem_cons_succ, Act.put, List.setIfInBounds_toArray, List.set_cons_zero, List.set_cons_succ]
      refine wpAnyH_take (i := 23) (v := undef) rfl (by kernel_rfl) (by kernel_rfl) (by kernel_rfl) (fun _ _ _ h => h) (Or.inr ⟨rfl, rfl⟩) hHeld ?_
      simp only [List.getElem_toArray, List.getElem_cons_zero, List.getElem_cons_succ, Act.put, List.setIfInBounds_toArray, List.set_cons_zero, List.set_cons_succ]
      refine wpAnyH_take (i := 24) (v := undef) rfl (by kernel_rfl) (by kernel_rfl) (by kernel_rfl) (fun _ _ _ h => h) (Or.inr ⟨rfl, rfl⟩) hHeld ?_
      simp only [List.getElem_toArray, List.getElem_cons_zero, List.getElem_cons_succ, Act.put, List.setIfInBounds_toArray, List.set_cons_zero, List.set_cons_succ]
      refine wpAnyH_take (i := 25) (v := undef) rfl (by kernel_rfl) (by kernel_rfl) (by kernel_rfl) (fun _ _ _ h => h) (Or.inr ⟨rfl, rfl⟩) hHeld ?_
      simp only [List.getElem_toArray, List.getElem_cons_zero, List.getElem_cons_succ, Act.put, List.setIfInBounds_toArray, List.set_cons_zero, List.set_cons_succ]
      refine wpAnyH_take (i := 26) (v := undef) rfl (by kernel_rfl) (by kernel_rfl) (by kernel_rfl) (fun _ _ _ h => h) (Or.inr ⟨rfl, rfl⟩) hHeld ?_
      simp only [List.getElem_toArray, List.getElem_cons_zero, List.getElem_cons_succ, Act.put, List.setIfInBounds_toArray, List.set_cons_zero, List.set_cons_succ]
      refine wpAnyH_take (i := 27) (v := undef) rfl (by kernel_rfl) (by kernel_rfl) (by kernel_rfl) (fun _ _ _ h => h) (Or.inr ⟨rfl, rfl⟩) hHeld ?_
      simp only [List.getElem_toArray, List.getElem_cons_zero, List.getElem_cons_succ, Act.put, List.setIfInBounds_toArray, List.set_cons_zero, List.set_cons_succ]
      refine wpAnyH_take (i := 28) (v := undef) rfl (by kernel_rfl) (by kernel_rfl) (by kernel_rfl) (fun _ _ _ h => h) (Or.inr ⟨rfl, rfl⟩) hHeld ?_
      simp only [List.getElem_toArray, List.getElem_cons_zero, List.getElem_cons_succ, Act.put, List.setIfInBounds_toArray, List.set_cons_zero, List.set_cons_succ]
      refine wpAnyH_take (i := 29) (v := undef) rfl (by kernel_rfl) (by kernel_rfl) (by kernel_rfl) (fun _ _ _ h => h) (Or.inr ⟨rfl, rfl⟩) hHeld ?_
      simp only [List.getElem_toArray, List.getElem_cons_zero, List.getElem_cons_succ, Act.put, List.setIfInBounds_toArray, List.set_cons_zero, List.set_cons_succ]
      refine wpAnyH_take (i := 30) (v := undef) rfl (by kernel_rfl) (by kernel_rfl) (by kernel_rfl) (fun _ _ _ h => h) (Or.inr ⟨rfl, rfl⟩) hHeld ?_
      simp only [List.getElem_toArray, List.getElem_cons_zero, List.getElem_cons_succ, Act.put, List.setIfInBounds_toArray, List.set_cons_zero, List.set_cons_succ]
      refine wpAnyH_take (i := 31) (v := undef) rfl (by kernel_rfl) (by kernel_rfl) (by kernel_rfl) (fun _ _ _ h => h) (Or.inr ⟨rfl, rfl⟩) hHeld ?_
      simp only [List.getElem_toArray, List.getElem_cons_zero, List.getElem_cons_succ, Act.put, List.setIfInBounds_toArray, List.set_cons_zero, List.set_cons_succ]
      refine wpAnyH_take (i := 32) (v := undef) rfl (by kernel_rfl) (by kernel_rfl) (by kernel_rfl) (fun _ _ _ h => h) (Or.inr ⟨rfl, rfl⟩) hHeld ?_
      simp only [List.getElem_toArray, List.getElem_cons_zero, List.getElem_cons_succ, Act.put, List.setIfInBounds_toArray, List.set_cons_zero, List.set_cons_succ]
      refine wpAnyH_take (i := 33) (v := undef) rfl (by kernel_rfl) (by kernel_rfl) (by kernel_rfl) (fun _ _ _ h => h) (Or.inr ⟨rfl, rfl⟩) hHeld ?_
      simp only [List.getElem_toArray, List.getElem_cons_zero, List.getElem_cons_succ, Act.put, List.setIfInBounds_toArray, List.set_cons_zero, List.set_cons_succ]
      refine wpAnyH_take (i := 34) (v := undef) rfl (by kernel_rfl) (by kernel_rfl) (by kernel_rfl) (fun _ _ _ h => h) (Or.inr ⟨rfl, rfl⟩) hHeld ?_
      simp only [List.getElem_toArray, List.getElem_cons_zero, List.getElem_cons_succ, Act.put, List.setIfInBounds_toArray, List.set_cons_zero, List.set_cons_succ]
      refine wpAnyH_take (i := 35) (v := ?_) rfl (by kernel_rfl) (by kernel_rfl) (by kernel_rfl) (fun _ _ _ h => h) (Or.inl ⟨rfl, ?_⟩) hHeld ?_
      rotate_left
      · intro w0 hS0
        try dsimp only at hS0
        go_simp
        try with_reducible rfl
      simp only [List.getElem_toArray, List.getElem_cons_zero, List.getElem_cons_succ, Act.put, List.setIfInBounds_toArray, List.set_cons_zero, List.set_cons_succ]
      refine wpAnyH_done (by kernel_rfl) ?_ _
      clear hHeld
      go_wp2_with fail
      go_ret3
      unfold DApplyQ
      rw [HE.out]
      exact ⟨rfl, v, KF, bl, HP.out.below (Below.refl _ _).drew, Mod.of_below HB.out.drew _, fun k hk => .inl hk⟩
end
section
open Go Go.RowKit Go.Maps

theorem dropS_none {c : Str} {st : Seats} (h : lookS c st = none) : dropS c st = st := by
  unfold dropS
  refine List.filter_eq_self.2 fun x hx => ?_
  by_cases e : x.1 = c
  · exfalso
    induction st with
    | nil => cases hx
    | cons y t ih =>
      rw [lookS_cons] at h
      by_cases hy : y.1 = c
      · rw [if_pos hy] at h; cases h
      · rw [if_neg hy] at h
        rcases List.mem_cons.1 hx with rfl | hx
        · exact hy e
        · exact ih h hx
  · simpa using e
theorem dropS_pos {c : Str} {st : Seats} (hU : KeyU st) {k : Nat} (h : posS c st = some k) : st.take k ++ st.drop (k + 1) = dropS c st := by
  induction st generalizing k with
  | nil => cases h
  | cons y t ih =>
    unfold KeyU at hU
    rw [List.map_cons, List.nodup_cons] at hU
    unfold posS at h
    by_cases hy : y.1 = c
    · rw [if_pos hy] at h
      obtain rfl := Option.some.inj h
      have hn : lookS c t = none := by
        cases ho : lookS c t with
        | none => rfl
        | some x => exact absurd (List.mem_map.2 ⟨_, lookS_mem ho, hy.symm⟩) hU.1
      have e1 := dropS_none hn
      unfold dropS at e1 ⊢
      rw [List.filter_cons_of_neg (by simp [hy]), e1]
      rfl
    · rw [if_neg hy] at h
      obtain ⟨j, hj, rfl⟩ := Option.map_eq_some_iff.1 h
      have e1 := ih hU.2 hj
      unfold dropS at e1 ⊢
      rw [List.filter_cons_of_pos (by simp [hy]), ← e1]
      rfl
theorem seatsV_other {bl : Str → Nat × List Nat} {c : Str} {z : Nat × List Nat} {st : Seats} (h : lookS c st = none) : seatsV (updF bl c z) st = seatsV bl st := by
  induction st with
  | nil => rfl
  | cons y t ih =>
    rw [lookS_cons] at h
    by_cases hy : y.1 = c
    · rw [if_pos hy] at h; cases h
    · rw [if_neg hy] at h
      have e1 := ih h
      unfold seatsV at e1 ⊢
      rw [List.flatMap_cons, List.flatMap_cons, e1]
      unfold seatCells
      rw [updF_other hy]
theorem DParts.snoc {w X : World} {r kg : Nat} {v v' : Value} {KF : List Nat} {bl : Str → Nat × List Nat} {s : MS} (h : DParts w r kg v KF bl s) (c : Str) (x : Seat) {lb : Nat} {LF : List Nat}
    (hn : lookS c s.seats = none) (hl : DRep w lb x.l LF) (hLF : ∀ k ∈ LF, k ∉ footD r v KF bl s.seats) (hX : Mod v.ownBlock.toList w X)
    (hown : X.ownsRow 0 91 4 v' (s.seats.length + 1) (seatsV bl s.seats ++ [.string ⟨c.toArray⟩, .int .i64 x.conn, .bool x.clean, .pointer (some ⟨lb, 0, none⟩)])) (hv' : ∀ k, v'.ownBlock = some k → v.ownBlock = some k ∨ w.heap.size ≤ k) :
    X.frozen? ⟨r, 0, none⟩ = false ∧ DParts (X.setCell ⟨r, 0, none⟩ v') r kg v' KF (updF bl c (lb, LF)) ⟨s.seats ++ [(c, x)], s.kept⟩ ∧ Mod (footD r v KF bl s.seats) w (X.setCell ⟨r, 0, none⟩ v') ∧
      ∀ k ∈ footD r v' KF (updF bl c (lb, LF)) (s.seats ++ [(c, x)]), k ∈ footD r v KF bl s.seats ∨ k ∈ LF ∨ w.heap.size ≤ k := by
  have hrl := (Array.getElem?_eq_some_iff.1 h.top).1
  have hvl : ∀ k, v.ownBlock = some k → k < w.heap.size := fun k hk => (h.row.lt k hk).2
  have hrX := (hX.block r hrl (fun hin => h.vr (Option.mem_toList.1 hin))).trans h.top
  have hlk := lookS_snoc x hn
  have hLl : ∀ k ∈ LF, k < w.heap.size := hl.lt
  have hS : ∀ k, k ≠ r → (X.setCell ⟨r, 0, none⟩ v').heap[k]? = X.heap[k]? := fun k hk => heap_setCell_other X _ _ _ hk
  have hne : ∀ k, v'.ownBlock = some k → k ≠ r := fun k hk e => by
    rcases hv' k hk with h1 | h1
    · exact h.vr (e ▸ h1)
    · omega
  have hoff : ∀ k, k < w.heap.size → v.ownBlock ≠ some k → v'.ownBlock ≠ some k := fun k hk h1 h2 => by
    rcases hv' k h2 with h3 | h3
    · exact h1 h3
    · omega
  have hfar : ∀ k, k < w.heap.size → k ≠ r → v.ownBlock ≠ some k → (X.setCell ⟨r, 0, none⟩ v').heap[k]? = w.heap[k]? := fun k hk h1 h2 => (hS k h1).trans (hX.block k hk fun hin => h2 (Option.mem_toList.1 hin))
  have hLr : ∀ k ∈ LF, k ≠ r ∧ v.ownBlock ≠ some k ∧ k ∉ KF := fun k hk => ⟨fun e => hLF k hk (mem_footD.2 (.inl e)), fun e => hLF k hk (mem_footD.2 (.inr (.inl e))), fun e => hLF k hk (mem_footD.2 (.inr (.inr (.inl e))))⟩
  have hold : ∀ d y, lookS d (s.seats ++ [(c, x)]) = some y → d ≠ c → lookS d s.seats = some y ∧ updF bl c (lb, LF) d = bl d := fun d y hd e => by
    rw [hlk, if_neg e] at hd
    exact ⟨hd, updF_other e⟩
  refine ⟨frozen_of_row X r 0 _ _ hrX, ⟨?_, ?_, fun hk => hne r hk rfl, ?_, ⟨?_, ?_⟩, ?_, h.rK, ?_⟩, ?_, ?_⟩
  · rw [heap_setCell_same X r 0 _ _ v' hrX]; rfl
  · refine ownsRow_local (w := X) ?_ fun k hk => hS k (hne k hk)
    have e1 : seatsV (updF bl c (lb, LF)) (s.seats ++ [(c, x)]) = seatsV bl s.seats ++ [.string ⟨c.toArray⟩, .int .i64 x.conn, .bool x.clean, .pointer (some ⟨lb, 0, none⟩)] := by
      rw [← seatsV_append, seatsV_other hn]
      simp [seatsV, seatCells, updF]
    show X.ownsRow 0 _ 4 v' (s.seats ++ [(c, x)]).length (seatsV (updF bl c (lb, LF)) (s.seats ++ [(c, x)]))
    rw [e1, List.length_append]
    exact hown
  · exact fun k hk => hoff k (h.kept.lt k hk) (h.vK k hk)
  · intro d y hd
    by_cases e : d = c
    · subst e
      simp only [hlk, if_true] at hd
      obtain rfl := Option.some.inj hd
      rw [updF_same]
      exact drep_local.keep hl fun k hk => hfar k (hLl k hk) (hLr k hk).1 (hLr k hk).2.1
    · obtain ⟨h1, h2⟩ := hold d y hd e
      rw [h2]
      exact dseat_local.keep (h.fam.rep d y h1) fun k hk => hfar k (h.fam.lt dseat_local h1 k hk) (h.off d y h1 k hk).1 (h.off d y h1 k hk).2.1
  · intro d y d' y' hd hd' k hk hk'
    by_cases e : d = c
    · by_cases e' : d' = c
      · rw [e, e']
      · subst e
        obtain ⟨h1, h2⟩ := hold d' y' hd' e'
        rw [updF_same] at hk
        rw [h2] at hk'
        exact absurd (mem_footD.2 (.inr (.inr (.inr ⟨d', y', h1, hk'⟩)))) (hLF k hk)
    · obtain ⟨h1, h2⟩ := hold d y hd e
      rw [h2] at hk
      by_cases e' : d' = c
      · subst e'
        rw [updF_same] at hk'
        exact absurd (mem_footD.2 (.inr (.inr (.inr ⟨d, y, h1, hk⟩)))) (hLF k hk')
      · obtain ⟨h3, h4⟩ := hold d' y' hd' e'
        rw [h4] at hk'
        exact h.fam.inj d y d' y' h1 h3 k hk hk'
  · exact h.kept.mod (S := r :: v.ownBlock.toList) ((hX.mono (fun k hk => List.mem_cons_of_mem _ hk)).setCell (.inl (by simp)) v') fun k hk hk' => by
      rcases List.mem_cons.1 hk' with rfl | hk'
      · exact h.rK hk
      · exact h.vK k hk (Option.mem_toList.1 hk')
  · intro d y hd k hk
    by_cases e : d = c
    · subst e
      rw [updF_same] at hk
      exact ⟨(hLr k hk).1, hoff k (hLl k hk) (hLr k hk).2.1, (hLr k hk).2.2⟩
    · obtain ⟨h1, h2⟩ := hold d y hd e
      rw [h2] at hk
      exact ⟨(h.off d y h1 k hk).1, hoff k (h.fam.lt dseat_local h1 k hk) (h.off d y h1 k hk).2.1, (h.off d y h1 k hk).2.2⟩
  · exact (hX.mono (fun k hk => mem_footD.2 (.inr (.inl (Option.mem_toList.1 hk))))).setCell (.inl (by exact mem_footD.2 (.inl rfl))) v'
  · intro k hk
    rcases mem_footD.1 hk with rfl | hk | hk | ⟨d, y, hd, hk⟩
    · exact .inl (mem_footD.2 (.inl rfl))
    · rcases hv' k hk with h1 | h1
      · exact .inl (mem_footD.2 (.inr (.inl h1)))
      · exact .inr (.inr h1)
    · exact .inl (mem_footD.2 (.inr (.inr (.inl hk))))
    · by_cases e : d = c
      · subst e
        rw [updF_same] at hk
        exact .inr (.inl hk)
      · obtain ⟨h1, h2⟩ := hold d y hd e
        rw [h2] at hk
        exact .inl (mem_footD.2 (.inr (.inr (.inr ⟨d, y, h1, hk⟩))))
end
section
open Go Go.RowKit Go.Maps

theorem turnS_set {c : Str} {x : Seat} {st : Seats} (hU : KeyU st) {k : Nat} (h : posS c st = some k) : turnS c x st = st.set k (c, x) := by
  induction st generalizing k with
  | nil => cases h
  | cons y t ih =>
    unfold KeyU at hU
    rw [List.map_cons, List.nodup_cons] at hU
    unfold posS at h
    have e0 : turnS c x (y :: t) = (if y.1 = c then (c, x) else y) :: turnS c x t := rfl
    rw [e0]
    by_cases hy : y.1 = c
    · rw [if_pos hy] at h ⊢
      obtain rfl := Option.some.inj h
      rw [List.set_cons_zero]
      congr 1
      unfold turnS
      refine (List.map_congr_left fun z hz => ?_).trans (List.map_id t)
      rw [if_neg]
      · rfl
      · exact fun e => hU.1 (List.mem_map.2 ⟨z, hz, e.trans hy.symm⟩)
    · rw [if_neg hy] at h ⊢
      obtain ⟨j, hj, rfl⟩ := Option.map_eq_some_iff.1 h
      rw [List.set_cons_succ, ih hU.2 hj]
theorem seatsV_conn (bl : Str → Nat × List Nat) {st : Seats} {k : Nat} {y : Str × Seat} (h : st[k]? = some y) (z : Int) : (seatsV bl st).set (k * 4 + 1) (.int .i64 z) = seatsV bl (st.set k (y.1, { y.2 with conn := z })) := by
  induction st generalizing k with
  | nil => simp at h
  | cons u t ih =>
    have e : ∀ u t, seatsV bl (u :: t) = seatCells bl u ++ seatsV bl t := fun u t => by simp [seatsV]
    rw [e]
    have hu : (seatCells bl u).length = 4 := rfl
    cases k with
    | zero =>
      obtain rfl : u = y := by simpa using h
      rw [List.set_cons_zero, e, List.set_append_left _ _ (by omega)]
      rfl
    | succ k =>
      rw [List.set_cons_succ, e, List.set_append_right _ _ (by omega), hu, show (k + 1) * 4 + 1 - 4 = k * 4 + 1 by omega, ih (by simpa using h)]
theorem footD_ext {r : Nat} {v : Value} {KF : List Nat} {bl : Str → Nat × List Nat} {st st' : Seats} (h : ∀ d, (lookS d st).isSome = true → (lookS d st').isSome = true) {k : Nat} (hk : k ∈ footD r v KF bl st) : k ∈ footD r v KF bl st' := by
  rcases mem_footD.1 hk with h1 | h1 | h1 | ⟨c, x, hx, h1⟩
  · exact mem_footD.2 (.inl h1)
  · exact mem_footD.2 (.inr (.inl h1))
  · exact mem_footD.2 (.inr (.inr (.inl h1)))
  · obtain ⟨y, hy⟩ := Option.isSome_iff_exists.1 (h c (by rw [hx]; rfl))
    exact mem_footD.2 (.inr (.inr (.inr ⟨c, y, hy, h1⟩)))
/-- 'm.L[i].Conn = 0' -/
theorem DParts.conn0 {w : World} {r kg : Nat} {v : Value} {KF : List Nat} {bl : Str → Nat × List Nat} {s : MS} (h : DParts w r kg v KF bl s) (hU : KeyU s.seats) {c : Str} {k : Nat} {x : Seat} (hp : posS c s.seats = some k) (hx : lookS c s.seats = some x)
    {b o cp : Nat} (hv : v = .slice (some ⟨b, o, none⟩) s.seats.length cp) :
    w.frozen? ⟨b, o + k * 4 + 1, none⟩ = false ∧ DParts (w.setCell ⟨b, o + k * 4 + 1, none⟩ (.int .i64 0)) r kg v KF bl ⟨turnS c { x with conn := 0 } s.seats, s.kept⟩ ∧
      Upd (footD r v KF bl s.seats) (footD r v KF bl (turnS c { x with conn := 0 } s.seats)) w (w.setCell ⟨b, o + k * 4 + 1, none⟩ (.int .i64 0)) := by
  obtain ⟨y, hy, hyc, hlk⟩ := posS_some hp
  have hyx : y.2 = x := by rw [hlk] at hx; exact Option.some.inj hx
  have ho : o = 0 := by
    rcases h.row.2 with ⟨h', _⟩ | ⟨g', cap', cur, h', _⟩
    · rw [hv] at h'; simp at h'
    · rw [hv] at h'
      simp only [Value.slice.injEq, Option.some.injEq, Addr.mk.injEq] at h'
      exact h'.1.2.1
  subst ho
  have hrow := h.row
  rw [hv] at hrow
  have fz := hrow.frozenAt (k * 4 + 1)
  obtain ⟨hst, hg⟩ := hrow.stored (k * 4 + 1) (.int .i64 0)
  have hown : v.ownBlock = some b := by rw [hv]; rfl
  have hbr : b ≠ r := fun e => h.vr (e ▸ hown)
  have hS : ∀ j, j ≠ b → (w.setCell ⟨b, 0 + k * 4 + 1, none⟩ (.int .i64 0)).heap[j]? = w.heap[j]? := fun j hj => heap_setCell_other w _ _ _ hj
  have hlook : ∀ d, lookS d (turnS c { x with conn := 0 } s.seats) = if d = c then some { x with conn := 0 } else lookS d s.seats := fun d => lookS_turn (by rw [hx]; rfl) d
  have hsome : ∀ d, (lookS d (turnS c { x with conn := 0 } s.seats)).isSome = (lookS d s.seats).isSome := fun d => by
    rw [hlook]
    split
    · rename_i e; rw [e, hx]; rfl
    · rfl
  have hin : ∀ d z, lookS d (turnS c { x with conn := 0 } s.seats) = some z → ∃ z', lookS d s.seats = some z' ∧ z'.l = z.l := fun d z hd => by
    rw [hlook] at hd
    by_cases e : d = c
    · rw [if_pos e] at hd
      obtain rfl := Option.some.inj hd
      exact ⟨x, by rw [e]; exact hx, rfl⟩
    · rw [if_neg e] at hd
      exact ⟨z, hd, rfl⟩
  have hm : Mod [b] w (w.setCell ⟨b, 0 + k * 4 + 1, none⟩ (.int .i64 0)) := (Mod.refl _ w).setCell (.inl (by simp)) _
  have e0 : 0 + k * 4 + 1 = k * 4 + 1 := by omega
  refine ⟨by rw [e0]; exact fz, ⟨(hS r (Ne.symm hbr)).trans h.top, ?_, h.vr, h.vK, ⟨fun d z hd => ?_, fun d z d' z' hd hd' => ?_⟩, h.kept.mod hm (fun j hj hj' => ?_), h.rK, fun d z hd => ?_⟩, hm.mono (fun j hj => ?_), fun j hj => .inl (footD_ext (fun d hd => ?_) hj)⟩
  · show World.ownsRow _ 0 _ 4 v (turnS c { x with conn := 0 } s.seats).length (seatsV bl (turnS c { x with conn := 0 } s.seats))
    rw [turnS_set hU hp, List.length_set, hv, e0]
    rw [seatsV_conn bl hy 0, hyc, hyx] at hst
    exact hst
  · obtain ⟨z', h1, h2⟩ := hin d z hd
    have h3 : DRep w (bl d).1 z'.l (bl d).2 := h.fam.rep d z' h1
    rw [h2] at h3
    exact drep_local.keep h3 fun j hj => hS j fun e => (h.off d z' h1 j hj).2.1 (e ▸ hown)
  · obtain ⟨z1, h1, -⟩ := hin d z hd
    obtain ⟨z2, h2, -⟩ := hin d' z' hd'
    exact h.fam.inj d z1 d' z2 h1 h2
  · obtain rfl := List.mem_singleton.1 hj'
    exact h.vK j hj hown
  · obtain ⟨z', h1, -⟩ := hin d z hd
    exact h.off d z' h1
  · obtain rfl := List.mem_singleton.1 hj
    exact mem_footD.2 (.inr (.inl hown))
  · rw [← hsome]; exact hd
theorem flatMap_cong {α β : Type} {f g : α → List β} : ∀ {l : List α}, (∀ x ∈ l, f x = g x) → l.flatMap f = l.flatMap g
  | [], _ => rfl
  | x :: r, h => by rw [List.flatMap_cons, List.flatMap_cons, h x (by simp), flatMap_cong fun y hy => h y (by simp [hy])]
theorem seatsV_listed {bl : Str → Nat × List Nat} {st : Seats} (hU : KeyU st) {c : Str} {x : Seat} (hx : lookS c st = some x) (l' : List SubE) (G' : List Nat) : seatsV (updF bl c ((bl c).1, G')) (turnS c { x with l := l' } st) = seatsV bl st := by
  unfold seatsV turnS
  rw [List.flatMap_map]
  refine flatMap_cong fun y hy => ?_
  by_cases e : y.1 = c
  · have h1 : lookS c st = some y.2 := by rw [← e]; exact lookS_of_mem hU hy
    rw [hx] at h1
    obtain rfl := Option.some.inj h1
    rw [if_pos e]
    unfold seatCells
    rw [updF_same]
    simp only [e]
  · rw [if_neg e]
    unfold seatCells
    rw [updF_other e]
/-- a session's filters are turned -/
theorem DParts.listed {w : World} {r kg : Nat} {v : Value} {KF : List Nat} {bl : Str → Nat × List Nat} {s : MS} (h : DParts w r kg v KF bl s) (hU : KeyU s.seats) {c : Str} {x : Seat} (hx : lookS c s.seats = some x) :
    DRep w (bl c).1 x.l (bl c).2 ∧ (∀ k ∈ (bl c).2, k ∈ footD r v KF bl s.seats) ∧ (∀ G' X, Upd (bl c).2 G' w X → ∃ a cp, X.cell? ⟨r, 0, none⟩ = some (.slice a s.seats.length cp) ∧ Row X a (seatsV bl s.seats)) ∧
      ∀ W' l' G', DRep W' (bl c).1 l' G' → Upd (bl c).2 G' w W' → DParts W' r kg v KF (updF bl c ((bl c).1, G')) ⟨turnS c { x with l := l' } s.seats, s.kept⟩ ∧ Upd (footD r v KF bl s.seats) (footD r v KF (updF bl c ((bl c).1, G')) (turnS c { x with l := l' } s.seats)) w W' := by
  have hr : DRep w (bl c).1 x.l (bl c).2 := h.fam.rep c x hx
  have hrl := (Array.getElem?_eq_some_iff.1 h.top).1
  have hoff := h.off c x hx
  have hin : ∀ k ∈ (bl c).2, k ∈ footD r v KF bl s.seats := fun k hk => mem_footD.2 (.inr (.inr (.inr ⟨c, x, hx, hk⟩)))
  refine ⟨hr, hin, fun G' X hu => ?_, fun W' l' G' hr' hu => ?_⟩
  · obtain ⟨a, cp, e, -, -, hrow⟩ := h.held
    have hT := h.top
    rw [e] at hT
    have hT2 := (hu.1.block r hrl fun hin' => (hoff r hin').1 rfl).trans hT
    refine ⟨a, cp, cell_of_row X r 0 _ _ _ hT2, hrow.mod hu.1 fun b o hb hin' => (hoff b hin').2.1 ?_⟩
    rw [e, hb]; rfl
  · have hlook : ∀ d, lookS d (turnS c { x with l := l' } s.seats) = if d = c then some { x with l := l' } else lookS d s.seats := fun d => lookS_turn (by rw [hx]; rfl) d
    have hold : ∀ d y, lookS d (turnS c { x with l := l' } s.seats) = some y → d ≠ c → lookS d s.seats = some y ∧ updF bl c ((bl c).1, G') d = bl d := fun d y hd e => by
      rw [hlook, if_neg e] at hd
      exact ⟨hd, updF_other e⟩
    have hnew : ∀ k ∈ G', k ∈ (bl c).2 ∨ w.heap.size ≤ k := hu.2
    have hb : ∀ k, k < w.heap.size → k ∉ (bl c).2 → W'.heap[k]? = w.heap[k]? := fun k h1 h2 => hu.1.block k h1 h2
    have hvl : ∀ k, v.ownBlock = some k → k < w.heap.size := fun k hk => (h.row.lt k hk).2
    refine ⟨⟨(hb r hrl fun hin' => (hoff r hin').1 rfl).trans h.top, ?_, h.vr, h.vK, ⟨fun d y hd => ?_, fun d y d' y' hd hd' k hk hk' => ?_⟩, h.kept.mod hu.1 (fun k hk hk' => (hoff k hk').2.2 hk), h.rK, fun d y hd k hk => ?_⟩, hu.1.mono hin, fun k hk => ?_⟩
    · show World.ownsRow _ 0 _ 4 v (turnS c { x with l := l' } s.seats).length (seatsV (updF bl c ((bl c).1, G')) (turnS c { x with l := l' } s.seats))
      rw [seatsV_listed hU hx, show (turnS c { x with l := l' } s.seats).length = s.seats.length by unfold turnS; rw [List.length_map]]
      exact ownsRow_local h.row fun k hk => hb k (hvl k hk) fun hin' => (hoff k hin').2.1 hk
    · by_cases e : d = c
      · subst e
        simp only [hlook, if_true] at hd
        obtain rfl := Option.some.inj hd
        rw [updF_same]
        exact hr'
      · obtain ⟨h1, h2⟩ := hold d y hd e
        rw [h2]
        exact dseat_local.keep (h.fam.rep d y h1) fun k hk => hb k (h.fam.lt dseat_local h1 k hk) fun hin' => e (h.fam.inj d y c x h1 hx k hk hin')
    · have hoth : ∀ d y, lookS d s.seats = some y → d ≠ c → ∀ k ∈ (bl d).2, k ∉ G' := fun d y hd e k hk hk' => by
        rcases hnew k hk' with h1 | h1
        · exact e (h.fam.inj d y c x hd hx k hk h1)
        · have := h.fam.lt dseat_local hd k hk; omega
      by_cases e : d = c
      · by_cases e' : d' = c
        · rw [e, e']
        · subst e
          obtain ⟨h1, h2⟩ := hold d' y' hd' e'
          rw [updF_same] at hk
          rw [h2] at hk'
          exact absurd hk (hoth d' y' h1 e' k hk')
      · obtain ⟨h1, h2⟩ := hold d y hd e
        rw [h2] at hk
        by_cases e' : d' = c
        · subst e'
          rw [updF_same] at hk'
          exact absurd hk' (hoth d y h1 e k hk)
        · obtain ⟨h3, h4⟩ := hold d' y' hd' e'
          rw [h4] at hk'
          exact h.fam.inj d y d' y' h1 h3 k hk hk'
    · by_cases e : d = c
      · subst e
        rw [updF_same] at hk
        rcases hnew k hk with h1 | h1
        · exact hoff k h1
        · exact ⟨by omega, fun h2 => by have := hvl k h2; omega, fun h2 => by have := h.kept.lt k h2; omega⟩
      · obtain ⟨h1, h2⟩ := hold d y hd e
        rw [h2] at hk
        exact h.off d y h1 k hk
    · rcases mem_footD.1 hk with rfl | hk | hk | ⟨d, y, hd, hk⟩
      · exact .inl (mem_footD.2 (.inl rfl))
      · exact .inl (mem_footD.2 (.inr (.inl hk)))
      · exact .inl (mem_footD.2 (.inr (.inr (.inl hk))))
      · by_cases e : d = c
        · subst e
          rw [updF_same] at hk
          exact (hnew k hk).imp (hin k) id
        · obtain ⟨h1, h2⟩ := hold d y hd e
          rw [h2] at hk
          exact .inl (mem_footD.2 (.inr (.inr (.inr ⟨d, y, h1, hk⟩))))
end
end Go.Proofs.YthfeckndkmhieaaGreatDoor
