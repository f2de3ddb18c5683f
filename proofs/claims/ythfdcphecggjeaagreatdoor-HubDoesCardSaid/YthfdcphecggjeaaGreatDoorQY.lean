/- The hub: Do's regions, each a law of its own. (Printed by gen_hdo.py.) The hub: Do walked. (Printed by gen_hdo2.py.) The hub: New, Hints, Kept walked; a log joined. The hub's laws: the chapter's hub. No program in sight. The hub's laws: Great walked. -/
import Derived.Test.YthfdcphecggjeaaGreatDoorQX
import Derived.Deep.CutBlock
namespace Go.Proofs.YthfdcphecggjeaaGreatDoor
section
open Go Go.RowKit

theorem upd_out {w w2 w4 : World} {F S S' : List Nat} (h : Below w.heap.size w w2) (hu : Upd S S' w2 w4) : Upd (F ++ S) F w w4 :=
  ⟨(Mod.of_below h _).trans hu.1 (fun _ hk => .inl (List.mem_append_right _ hk)), fun _ hk => .inl (List.mem_append_left _ hk)⟩
theorem upd_then19 {w w2 w4 : World} {F F' S S' : List Nat} (h : Upd F F' w w2) (hu : Upd S S' w2 w4) : Upd (F ++ S) F' w w4 :=
  ⟨(h.1.mono fun _ hk => List.mem_append_left _ hk).trans hu.1 (fun _ hk => .inl (List.mem_append_right _ hk)), fun k hk => (h.2 k hk).imp (fun h1 => List.mem_append_left _ h1) id⟩
theorem routeM_len (n : Nat) (x : Item) (s : HubS) : 1 ≤ (routeM n x s).length ∧ (routeM n x s).length ≤ 65 := by
  have h : (sendM n x (toldG s.gs x.msg.k) 64).length ≤ 64 := by
    unfold sendM
    rw [List.length_map]
    exact Nat.le_trans (List.length_filter_le _ _) (by simp)
  unfold routeM
  rw [List.length_append, List.length_singleton]
  omega
noncomputable def doReg (k : Nat) : Code := (Tryz.f12.body.bind (regionOf k)).getD .skip
set_option maxRecDepth 100000 in
set_option maxHeartbeats 4000000 in
theorem do_r10 (w0 : World) (h n k : Nat) (s : HubS) (lv : Value) (ns : List NoteK) (F : List Nat) (x : Item) (xb : Nat) (w : World) (hp : Hb w0 w h n k s lv ns F) (hT : Tabs w0) (hx : SmallI x) (hk : k ≤ 399) (hX : w.heap[xb]? = some (.cells x.cells.toArray 36 (0, 0))) (hxF : xb ∉ F)
    {c1 c2 c3 c4 c5 c6 c7 c8 c10 c11 c12 c13 c14 c15 c16 c17 c18 c19 c20 c21 c22 c23 c24 c25 c26 c27 c28 c29 c30 c31 c32 c33 c34 c35 c36 c37 c38 c39 c40 c41 c42 c43 c44 c45 c46 c47 c48 c49 c50 c51 c52 c53 c54 c55 c56 c57 c58 c59 c60 c61 c62 c63 c64 c65 c66 c67 c68 c69 c70 c71 c72 c73 c74 c75 c76 c77 c78 c79 c80 c81 c82 : Value} {Q : Exit → Act → World → Prop} (hQp : QuietP Q)
    (hQ : ∀ ⦃d34 d35 d36 d37 d38 d39 d40 d41 d42 : Value⦄ (w' : World) (F' : List Nat), Hb w0 w' h n (k + 1) ⟨addG s.gs x.filter.data.toList x.client.data.toList, s.kp⟩ lv ns F' → Upd F F' w w' → Q .normal ⟨#[.pointer (some ⟨h, 0, none⟩), c1, c2, c3, c4, c5, c6, c7, c8, .pointer (some ⟨xb, 0, none⟩), c10, c11, c12, c13, c14, c15, c16, c17, c18, c19, c20, c21, c22, c23, c24, c25, c26, c27, c28, c29, c30, c31, c32, c33, d34, d35, d36, d37, d38, d39, d40, d41, d42, c43, c44, c45, c46, c47, c48, c49, c50, c51, c52, c53, c54, c55, c56, c57, c58, c59, c60, c61, c62, c63, c64, c65, c66, c67, c68, c69, c70, c71, c72, c73, c74, c75, c76, c77, c78, c79, c80, c81, c82], []⟩ w') :
    Code.wp Tryz.prog (doReg 10) Q ⟨#[.pointer (some ⟨h, 0, none⟩), c1, c2, c3, c4, c5, c6, c7, c8, .pointer (some ⟨xb, 0, none⟩), c10, c11, c12, c13, c14, c15, c16, c17, c18, c19, c20, c21, c22, c23, c24, c25, c26, c27, c28, c29, c30, c31, c32, c33, c34, c35, c36, c37, c38, c39, c40, c41, c42, c43, c44, c45, c46, c47, c48, c49, c50, c51, c52, c53, c54, c55, c56, c57, c58, c59, c60, c61, c62, c63, c64, c65, c66, c67, c68, c69, c70, c71, c72, c73, c74, c75, c76, c77, c78, c79, c80, c81, c82], []⟩ w := by
  dsimp only at hQ ⊢
  conv => arg 2; whnf
  obtain ⟨t, N, Ft, t0, hr, hup⟩ := hp.lensT
  obtain ⟨-, -, x3, x4, -⟩ := item_cells hX
  have HX := Lib.hid hX
  have HUP := Lib.hid hup
  have HCL := Lib.hid hp.cl
  have HXF : Hid (∀ X F', Upd F F' w.drew X → X.cell? ⟨xb, 4, none⟩ = some (.string x.filter) ∧ X.cell? ⟨xb, 3, none⟩ = some (.string x.client)) := Lib.hid (fun X F' hu => by
    obtain ⟨-, -, a, b, -⟩ := item_cells ((hu.1.block xb (Array.getElem?_eq_some_iff.1 hX).1 hxF).trans hX)
    exact ⟨b, a⟩)
  have HC := Lib.hid (hadd k t N x.filter x.client s.gs Ft w.drew (hr.below (Below.refl _ _).drew) ((hT.below hp.bel).below (Below.refl _ _).drew) hx.f hx.c (by omega))
  have HXC := Lib.hid hx.c
  have HQ := Lib.hid hQ
  clear hp hT hx hX hxF hup hr hQ
  refine wp_region_held_drew (S := fun X => X.cell? ⟨h, 0, none⟩ = some (.pointer (some ⟨t, 0, none⟩)) ∧ X.cell? ⟨xb, 4, none⟩ = some (.string x.filter) ∧ X.cell? ⟨xb, 3, none⟩ = some (.string x.client)) (by kernel_rfl) ⟨t0, x4, x3⟩ (fun hHeld => ?_)
  refine wpAnyH_take (i := 0) (v := ?_) rfl (by kernel_rfl) (by kernel_rfl) (by kernel_rfl) (fun _ _ _ h => hQp _ _ _ _ h rfl) (Or.inl ⟨rfl, ?_⟩) hHeld ?_
  rotate_left
  · intro w0 hS0
    try dsimp only at hS0
    go_simp
    try with_reducible rfl
  simp only [List.getElem_toArray, List.getElem_cons_zero, Act.put, List.setIfInBounds_toArray, List.set_cons_zero, List.set_cons_succ]
  refine wpAnyH_take (i := 1) (v := ?_) rfl (by kernel_rfl) (by kernel_rfl) (by kernel_rfl) (fun _ _ _ h => hQp _ _ _ _ h rfl) (Or.inl ⟨rfl, ?_⟩) hHeld ?_
  rotate_left
  · intro w0 hS0
    try dsimp only at hS0
    go_simp
    try with_reducible rfl
  simp only [List.getElem_toArray, List.getElem_cons_zero, List.getElem_cons_succ, Act.put, List.setIfInBounds_toArray, List.set_cons_zero, List.set_cons_succ]
  refine wpAnyH_take (i := 2) (v := ?_) rfl (by kernel_rfl) (by kernel_rfl) (by kernel_rfl) (fun _ _ _ h => hQp _ _ _ _ h rfl) (Or.inl ⟨rfl, ?_⟩) hHeld ?_
  rotate_left
  · intro w0 hS0
    try dsimp only at hS0
    go_simp
    try with_reducible rfl
  simp only [List.getElem_toArray, List.getElem_cons_zero, List.getElem_cons_succ, Act.put, List.setIfInBounds_toArray, List.set_cons_zero, List.set_cons_succ]
  refine wpAnyH_take (i := 3) (v := ?_) rfl (by kernel_rfl) (by kernel_rfl) (by kernel_rfl) (fun _ _ _ h => hQp _ _ _ _ h rfl) (Or.inl ⟨rfl, ?_⟩) hHeld ?_
  rotate_left
  · intro w0 hS0
    try dsimp only at hS0
    go_simp
    try with_reducible rfl
  simp only [List.getElem_toArray, List.getElem_cons_zero, List.getElem_cons_succ, Act.put, List.setIfInBounds_toArray, List.set_cons_zero, List.set_cons_succ]
  refine wpAnyH_take (i := 4) (v := ?_) rfl (by kernel_rfl) (by kernel_rfl) (by kernel_rfl) (fun _ _ _ h => hQp _ _ _ _ h rfl) (Or.inl ⟨rfl, ?_⟩) hHeld ?_
  rotate_left
  · intro w0 hS0
    try dsimp only at hS0
    go_simp
    try with_reducible rfl
  simp only [List.getElem_toArray, List.getElem_cons_zero, List.getElem_cons_succ, Act.put, List.setIfInBounds_toArray, List.set_cons_zero, List.set_cons_succ]
  refine wpAnyH_take (i := 5) (v := ?_) rfl (by kernel_rfl) (by kernel_rfl) (by kernel_rfl) (fun _ _ _ h => hQp _ _ _ _ h rfl) (Or.inl ⟨rfl, ?_⟩) hHeld ?_
  rotate_left
  · intro w0 hS0
    try dsimp only at hS0
    go_simp
    try with_reducible rfl
  simp only [List.getElem_toArray, List.getElem_cons_zero, List.getElem_cons_succ, Act.put, List.setIfInBounds_toArray, List.set_cons_zero, List.set_cons_succ]
  refine wpAnyH_take (i := 6) (v := ?_) rfl (by kernel_rfl) (by kernel_rfl) (by kernel_rfl) (fun _ _ _ h => hQp _ _ _ _ h rfl) (Or.inl ⟨rfl, ?_⟩) hHeld ?_
  rotate_left
  · intro w0 hS0
    try dsimp only at hS0
    go_simp
    try with_reducible rfl
  simp only [List.getElem_toArray, List.getElem_cons_zero, List.getElem_cons_succ, Act.put, List.setIfInBounds_toArray, List.set_cons_zero, List.set_cons_succ]
  refine wpAnyH_take (i := 7) (v := ?_) rfl (by kernel_rfl) (by kernel_rfl) (by kernel_rfl) (fun _ _ _ h => hQp _ _ _ _ h rfl) (Or.inl ⟨rfl, ?_⟩) hHeld ?_
  rotate_left
  · intro w0 hS0
    try dsimp only at hS0
    go_simp
    try with_reducible rfl
  simp only [List.getElem_toArray, List.getElem_cons_zero, List.getElem_cons_succ, Act.put, List.setIfInBounds_toArray, List.set_cons_zero, List.set_cons_succ]
  refine wpAnyH_ready (rs := [8]) (by kernel_rfl) (by simp) ?_
  refine AllReadyH.cons rfl (fun K hK => ?_) AllReadyH.nil
  rw [if_pos (by rfl)]
  go_simp
  go_at_call 35
  refine HC.out.mono ?_
  rintro e w' ⟨rfl, N', Ft', hr', hu'⟩
  obtain ⟨c0, F', hb', hu⟩ := HUP.out w.drew w' (Below.refl _ _).drew _ _ N' Ft' hr' hu' (Nat.le_succ k) (addG_cl HCL.out (by simpa using HXC.out))
  refine hK.out _ _ ⟨c0, HXF.out w' F' hu⟩ (fun _ => ?_)
  refine wpAnyH_done (by kernel_rfl) ?_ _
  exact HQ.out _ _ hb' ⟨(Mod.of_below (Below.refl _ _).drew _).trans hu.1 (fun k hk => .inl hk), hu.2⟩
set_option maxRecDepth 100000 in
set_option maxHeartbeats 4000000 in
theorem do_r13 (w0 : World) (h n k : Nat) (s : HubS) (lv : Value) (ns : List NoteK) (F : List Nat) (x : Item) (xb : Nat) (w : World) (hp : Hb w0 w h n k s lv ns F) (hT : Tabs w0) (hx : SmallI x) (hk : k ≤ 399) (hX : w.heap[xb]? = some (.cells x.cells.toArray 36 (0, 0))) (hxF : xb ∉ F)
    {c1 c2 c3 c4 c5 c6 c7 c8 c10 c11 c12 c13 c14 c15 c16 c17 c18 c19 c20 c21 c22 c23 c24 c25 c26 c27 c28 c29 c30 c31 c32 c33 c34 c35 c36 c37 c38 c39 c40 c41 c42 c43 c44 c45 c46 c47 c48 c49 c50 c51 c52 c53 c54 c55 c56 c57 c58 c59 c60 c61 c62 c63 c64 c65 c66 c67 c68 c69 c70 c71 c72 c73 c74 c75 c76 c77 c78 c79 c80 c81 c82 : Value} {Q : Exit → Act → World → Prop} (hQp : QuietP Q)
    (hQ : ∀ ⦃d58 d59 d60 d61 d62 d63 d64 d65 d66 : Value⦄ (w' : World) (F' : List Nat), Hb w0 w' h n k ⟨s.gs.erase (x.filter.data.toList, x.client.data.toList), s.kp⟩ lv ns F' → Upd F F' w w' → Q .normal ⟨#[.pointer (some ⟨h, 0, none⟩), c1, c2, c3, c4, c5, c6, c7, c8, .pointer (some ⟨xb, 0, none⟩), c10, c11, c12, c13, c14, c15, c16, c17, c18, c19, c20, c21, c22, c23, c24, c25, c26, c27, c28, c29, c30, c31, c32, c33, c34, c35, c36, c37, c38, c39, c40, c41, c42, c43, c44, c45, c46, c47, c48, c49, c50, c51, c52, c53, c54, c55, c56, c57, d58, d59, d60, d61, d62, d63, d64, d65, d66, c67, c68, c69, c70, c71, c72, c73, c74, c75, c76, c77, c78, c79, c80, c81, c82], []⟩ w') :
    Code.wp Tryz.prog (doReg 13) Q ⟨#[.pointer (some ⟨h, 0, none⟩), c1, c2, c3, c4, c5, c6, c7, c8, .pointer (some ⟨xb, 0, none⟩), c10, c11, c12, c13, c14, c15, c16, c17, c18, c19, c20, c21, c22, c23, c24, c25, c26, c27, c28, c29, c30, c31, c32, c33, c34, c35, c36, c37, c38, c39, c40, c41, c42, c43, c44, c45, c46, c47, c48, c49, c50, c51, c52, c53, c54, c55, c56, c57, c58, c59, c60, c61, c62, c63, c64, c65, c66, c67, c68, c69, c70, c71, c72, c73, c74, c75, c76, c77, c78, c79, c80, c81, c82], []⟩ w := by
  dsimp only at hQ ⊢
  conv => arg 2; whnf
  obtain ⟨t, N, Ft, t0, hr, hup⟩ := hp.lensT
  obtain ⟨-, -, x3, x4, -⟩ := item_cells hX
  have HX := Lib.hid hX
  have HUP := Lib.hid hup
  have HCL := Lib.hid hp.cl
  have HXF : Hid (∀ X F', Upd F F' w.drew X → X.cell? ⟨xb, 4, none⟩ = some (.string x.filter) ∧ X.cell? ⟨xb, 3, none⟩ = some (.string x.client)) := Lib.hid (fun X F' hu => by
    obtain ⟨-, -, a, b, -⟩ := item_cells ((hu.1.block xb (Array.getElem?_eq_some_iff.1 hX).1 hxF).trans hX)
    exact ⟨b, a⟩)
  have HC := Lib.hid (hrem k t N x.filter x.client s.gs Ft w.drew (hr.below (Below.refl _ _).drew) ((hT.below hp.bel).below (Below.refl _ _).drew) hx.f hx.c (by omega))
  have HXC := Lib.hid hx.c
  have HQ := Lib.hid hQ
  clear hp hT hx hX hxF hup hr hQ
  refine wp_region_held_drew (S := fun X => X.cell? ⟨h, 0, none⟩ = some (.pointer (some ⟨t, 0, none⟩)) ∧ X.cell? ⟨xb, 4, none⟩ = some (.string x.filter) ∧ X.cell? ⟨xb, 3, none⟩ = some (.string x.client)) (by kernel_rfl) ⟨t0, x4, x3⟩ (fun hHeld => ?_)
  refine wpAnyH_take (i := 0) (v := ?_) rfl (by kernel_rfl) (by kernel_rfl) (by kernel_rfl) (fun _ _ _ h => hQp _ _ _ _ h rfl) (Or.inl ⟨rfl, ?_⟩) hHeld ?_
  rotate_left
  · intro w0 hS0
    try dsimp only at hS0
    go_simp
    try with_reducible rfl
  simp only [List.getElem_toArray, List.getElem_cons_zero, Act.put, List.setIfInBounds_toArray, List.set_cons_zero, List.set_cons_succ]
  refine wpAnyH_take (i := 1) (v := ?_) rfl (by kernel_rfl) (by kernel_rfl) (by kernel_rfl) (fun _ _ _ h => hQp _ _ _ _ h rfl) (Or.inl ⟨rfl, ?_⟩) hHeld ?_
  rotate_left
  · intro w0 hS0
    try dsimp only at hS0
    go_simp
    try with_reducible rfl
  simp only [List.getElem_toArray, List.getElem_cons_zero, List.getElem_cons_succ, Act.put, List.setIfInBounds_toArray, List.set_cons_zero, List.set_cons_succ]
  refine wpAnyH_take (i := 2) (v := ?_) rfl (by kernel_rfl) (by kernel_rfl) (by kernel_rfl) (fun _ _ _ h => hQp _ _ _ _ h rfl) (Or.inl ⟨rfl, ?_⟩) hHeld ?_
  rotate_left
  · intro w0 hS0
    try dsimp only at hS0
    go_simp
    try with_reducible rfl
  simp only [List.getElem_toArray, List.getElem_cons_zero, List.getElem_cons_succ, Act.put, List.setIfInBounds_toArray, List.set_cons_zero, List.set_cons_succ]
  refine wpAnyH_take (i := 3) (v := ?_) rfl (by kernel_rfl) (by kernel_rfl) (by kernel_rfl) (fun _ _ _ h => hQp _ _ _ _ h rfl) (Or.inl ⟨rfl, ?_⟩) hHeld ?_
  rotate_left
  · intro w0 hS0
    try dsimp only at hS0
    go_simp
    try with_reducible rfl
  simp only [List.getElem_toArray, List.getElem_cons_zero, List.getElem_cons_succ, Act.put, List.setIfInBounds_toArray, List.set_cons_zero, List.set_cons_succ]
  refine wpAnyH_take (i := 4) (v := ?_) rfl (by kernel_rfl) (by kernel_rfl) (by kernel_rfl) (fun _ _ _ h => hQp _ _ _ _ h rfl) (Or.inl ⟨rfl, ?_⟩) hHeld ?_
  rotate_left
  · intro w0 hS0
    try dsimp only at hS0
    go_simp
    try with_reducible rfl
  simp only [List.getElem_toArray, List.getElem_cons_zero, List.getElem_cons_succ, Act.put, List.setIfInBounds_toArray, List.set_cons_zero, List.set_cons_succ]
  refine wpAnyH_take (i := 5) (v := ?_) rfl (by kernel_rfl) (by kernel_rfl) (by kernel_rfl) (fun _ _ _ h => hQp _ _ _ _ h rfl) (Or.inl ⟨rfl, ?_⟩) hHeld ?_
  rotate_left
  · intro w0 hS0
    try dsimp only at hS0
    go_simp
    try with_reducible rfl
  simp only [List.getElem_toArray, List.getElem_cons_zero, List.getElem_cons_succ, Act.put, List.setIfInBounds_toArray, List.set_cons_zero, List.set_cons_succ]
  refine wpAnyH_take (i := 6) (v := ?_) rfl (by kernel_rfl) (by kernel_rfl) (by kernel_rfl) (fun _ _ _ h => hQp _ _ _ _ h rfl) (Or.inl ⟨rfl, ?_⟩) hHeld ?_
  rotate_left
  · intro w0 hS0
    try dsimp only at hS0
    go_simp
    try with_reducible rfl
  simp only [List.getElem_toArray, List.getElem_cons_zero, List.getElem_cons_succ, Act.put, List.setIfInBounds_toArray, List.set_cons_zero, List.set_cons_succ]
  refine wpAnyH_take (i := 7) (v := ?_) rfl (by kernel_rfl) (by kernel_rfl) (by kernel_rfl) (fun _ _ _ h => hQp _ _ _ _ h rfl) (Or.inl ⟨rfl, ?_⟩) hHeld ?_
  rotate_left
  · intro w0 hS0
    try dsimp only at hS0
    go_simp
    try with_reducible rfl
  simp only [List.getElem_toArray, List.getElem_cons_zero, List.getElem_cons_succ, Act.put, List.setIfInBounds_toArray, List.set_cons_zero, List.set_cons_succ]
  refine wpAnyH_ready (rs := [8]) (by kernel_rfl) (by simp) ?_
  refine AllReadyH.cons rfl (fun K hK => ?_) AllReadyH.nil
  rw [if_pos (by rfl)]
  go_simp
  go_at_call 37
  refine HC.out.mono ?_
  rintro e w' ⟨rfl, N', Ft', hr', hu'⟩
  obtain ⟨c0, F', hb', hu⟩ := HUP.out w.drew w' (Below.refl _ _).drew _ _ N' Ft' hr' hu' (Nat.le_refl k) (fun g hg => HCL.out g (List.mem_of_mem_erase hg))
  refine hK.out _ _ ⟨c0, HXF.out w' F' hu⟩ (fun _ => ?_)
  refine wpAnyH_done (by kernel_rfl) ?_ _
  exact HQ.out _ _ hb' ⟨(Mod.of_below (Below.refl _ _).drew _).trans hu.1 (fun k hk => .inl hk), hu.2⟩
set_option maxRecDepth 100000 in
set_option maxHeartbeats 4000000 in
theorem do_r11 (w0 : World) (h n k : Nat) (s : HubS) (lv : Value) (ns : List NoteK) (F : List Nat) (x : Item) (xb : Nat) (w : World) (hp : Hb w0 w h n k s lv ns F) (hT : Tabs w0) (hx : SmallI x) (hk : k ≤ 399) (hX : w.heap[xb]? = some (.cells x.cells.toArray 36 (0, 0))) (_hxF : xb ∉ F) (B : Nat) (v : Value) (M : List Mail) (H : List HMail) (G : List Nat) (hG : ∀ j ∈ G, j < w.heap.size) (ho : OutM w (F ++ G) B v M H) (hB0 : w0.heap.size ≤ B) (hB : B ≤ w.heap.size) (hM : M.length ≤ 100000) (hxo : xb ∉ v.ownBlock.toList)
    {c1 c2 c3 c4 c5 c6 c8 c10 c11 c12 c13 c14 c15 c16 c17 c18 c19 c20 c21 c22 c23 c24 c25 c26 c27 c28 c29 c30 c31 c32 c33 c34 c35 c36 c37 c38 c39 c40 c41 c42 c43 c44 c45 c46 c47 c48 c49 c50 c51 c52 c53 c54 c55 c56 c57 c58 c59 c60 c61 c62 c63 c64 c65 c66 c67 c68 c69 c70 c71 c72 c73 c74 c75 c76 c77 c78 c79 c80 c81 c82 : Value} {Q : Exit → Act → World → Prop} (hQp : QuietP Q)
    (hQ : ∀ ⦃d43 d44 d45 d46 d47 d48 d49 d50 d51 d52 d53 d54 d55 : Value⦄ (w' : World) (v' : Value) (M' : List Mail), Hb w0 w' h n k s lv ns F → OutM w' (F ++ G) B v' M' (H ++ [backM x 8 (finds x.filter.data.toList s.kp) 0]) → Upd (F ++ v.ownBlock.toList) F w w' → Q .normal ⟨#[.pointer (some ⟨h, 0, none⟩), c1, c2, c3, c4, c5, c6, v', c8, .pointer (some ⟨xb, 0, none⟩), c10, c11, c12, c13, c14, c15, c16, c17, c18, c19, c20, c21, c22, c23, c24, c25, c26, c27, c28, c29, c30, c31, c32, c33, c34, c35, c36, c37, c38, c39, c40, c41, c42, d43, d44, d45, d46, d47, d48, d49, d50, d51, d52, d53, d54, d55, c56, c57, c58, c59, c60, c61, c62, c63, c64, c65, c66, c67, c68, c69, c70, c71, c72, c73, c74, c75, c76, c77, c78, c79, c80, c81, c82], []⟩ w') :
    Code.wp Tryz.prog (doReg 11) Q ⟨#[.pointer (some ⟨h, 0, none⟩), c1, c2, c3, c4, c5, c6, v, c8, .pointer (some ⟨xb, 0, none⟩), c10, c11, c12, c13, c14, c15, c16, c17, c18, c19, c20, c21, c22, c23, c24, c25, c26, c27, c28, c29, c30, c31, c32, c33, c34, c35, c36, c37, c38, c39, c40, c41, c42, c43, c44, c45, c46, c47, c48, c49, c50, c51, c52, c53, c54, c55, c56, c57, c58, c59, c60, c61, c62, c63, c64, c65, c66, c67, c68, c69, c70, c71, c72, c73, c74, c75, c76, c77, c78, c79, c80, c81, c82], []⟩ w := by
  dsimp only at hQ ⊢
  conv => arg 2; whnf
  obtain ⟨g, KF, c1, hkr, -⟩ := hp.lensK
  obtain ⟨-, -, -, x4, -⟩ := item_cells hX
  have HIL : Hid ((Tryz.prog.info? 36).map (·.size) = some x.cells.length) := Lib.hid ((item_size x).trans (by simp))
  have HAN := Lib.hid (fun (y : Item) W => answer_any x y W)
  have HP := Lib.hid hp
  have HO := Lib.hid ho
  have HTW := Lib.hid (hT.below hp.bel)
  have hhl : h < w.heap.size := hp.lt h hp.mem
  have hxl : xb < w.heap.size := (Array.getElem?_eq_some_iff.1 hX).1
  have hho : h ∉ v.ownBlock.toList := fun hj => ho.off h (Option.mem_toList.1 hj) (List.mem_append_left _ hp.mem)
  have HOL := Lib.hid ho.lt
  have HFL : Hid (∀ j ∈ F ++ G, j < w.heap.size) := Lib.hid (fun j hj => (List.mem_append.1 hj).elim (hp.lt j) (hG j))
  have HQ := Lib.hid hQ
  have HS : Hid (∀ X : World, X.heap[h]? = w.heap[h]? → X.heap[xb]? = w.heap[xb]? → X.cell? ⟨h, 1, none⟩ = some (.pointer (some ⟨g, 0, none⟩)) ∧ X.cell? ⟨xb, 4, none⟩ = some (.string x.filter) ∧ X.rangeAt xb 0 x.cells) := Lib.hid (fun X e1 e2 => by
    obtain ⟨-, -, -, b, -⟩ := item_cells (e2.trans hX)
    exact ⟨(World.cell?_of_block (w := w) e1).trans c1, b, range_blk (e2.trans hX)⟩)
  have HSB : Hid (∀ X : World, Below w.heap.size w X → X.cell? ⟨h, 1, none⟩ = some (.pointer (some ⟨g, 0, none⟩)) ∧ X.cell? ⟨xb, 4, none⟩ = some (.string x.filter) ∧ X.rangeAt xb 0 x.cells) := Lib.hid (fun X hX' => HS.out X (hX'.block h hhl) (hX'.block xb hxl))
  have HF := Lib.hid (kfind_any x.filter g s.kp KF w.drew (by have := hp.kl; omega) ((hT.below hp.bel).below (Below.refl _ _).drew) (by have := hx.f; omega) (fun m hm => by have := hp.ok m hm; omega) (hkr.below (Below.refl _ _).drew))
  have HKP : Hid ((finds x.filter.data.toList s.kp).length ≤ 400) := Lib.hid (Nat.le_trans (finds_len _ _) (Nat.le_trans hp.kl (by omega)))
  clear hp hT hx hX _hxF hkr hQ ho c1 x4
  generalize hXL : x.cells = XL at *
  clear hXL
  refine wp_region_held_drew (S := fun X => X.cell? ⟨h, 1, none⟩ = some (.pointer (some ⟨g, 0, none⟩)) ∧ X.cell? ⟨xb, 4, none⟩ = some (.string x.filter) ∧ X.rangeAt xb 0 XL) (by kernel_rfl) (HSB.out _ (Below.refl _ _).drew) (fun hHeld => ?_)
  refine wpAnyH_take (i := 0) (v := ?_) rfl (by kernel_rfl) (by kernel_rfl) (by kernel_rfl) (fun _ _ _ h => hQp _ _ _ _ h rfl) (Or.inl ⟨rfl, ?_⟩) hHeld ?_
  rotate_left
  · intro w0 hS0
    try dsimp only at hS0
    go_simp
    try with_reducible rfl
  simp only [List.getElem_toArray, List.getElem_cons_zero, Act.put, List.setIfInBounds_toArray, List.set_cons_zero, List.set_cons_succ]
  refine wpAnyH_take (i := 1) (v := .agg XL.toArray) rfl (by kernel_rfl) (by kernel_rfl) (by kernel_rfl) (fun _ _ _ h => hQp _ _ _ _ h rfl) (Or.inl ⟨rfl, ?_⟩) hHeld ?_
  · intro w1 hS1
    exact exec_load_row rfl rfl hS1.2.2 Tryz.underlying36 rfl HIL.out
  simp only [List.getElem_toArray, List.getElem_cons_zero, List.getElem_cons_succ, Act.put, List.setIfInBounds_toArray, List.set_cons_zero, List.set_cons_succ]
  refine wpAnyH_take (i := 2) (v := ?_) rfl (by kernel_rfl) (by kernel_rfl) (by kernel_rfl) (fun _ _ _ h => hQp _ _ _ _ h rfl) (Or.inl ⟨rfl, ?_⟩) hHeld ?_
  rotate_left
  · intro w0 hS0
    try dsimp only at hS0
    go_simp
    try with_reducible rfl
  simp only [List.getElem_toArray, List.getElem_cons_zero, List.getElem_cons_succ, Act.put, List.setIfInBounds_toArray, List.set_cons_zero, List.set_cons_succ]
  refine wpAnyH_take (i := 3) (v := ?_) rfl (by kernel_rfl) (by kernel_rfl) (by kernel_rfl) (fun _ _ _ h => hQp _ _ _ _ h rfl) (Or.inl ⟨rfl, ?_⟩) hHeld ?_
  rotate_left
  · intro w0 hS0
    try dsimp only at hS0
    go_simp
    try with_reducible rfl
  simp only [List.getElem_toArray, List.getElem_cons_zero, List.getElem_cons_succ, Act.put, List.setIfInBounds_toArray, List.set_cons_zero, List.set_cons_succ]
  refine wpAnyH_take (i := 4) (v := ?_) rfl (by kernel_rfl) (by kernel_rfl) (by kernel_rfl) (fun _ _ _ h => hQp _ _ _ _ h rfl) (Or.inl ⟨rfl, ?_⟩) hHeld ?_
  rotate_left
  · intro w0 hS0
    try dsimp only at hS0
    go_simp
    try with_reducible rfl
  simp only [List.getElem_toArray, List.getElem_cons_zero, List.getElem_cons_succ, Act.put, List.setIfInBounds_toArray, List.set_cons_zero, List.set_cons_succ]
  refine wpAnyH_take (i := 5) (v := ?_) rfl (by kernel_rfl) (by kernel_rfl) (by kernel_rfl) (fun _ _ _ h => hQp _ _ _ _ h rfl) (Or.inl ⟨rfl, ?_⟩) hHeld ?_
  rotate_left
  · intro w0 hS0
    try dsimp only at hS0
    go_simp
    try with_reducible rfl
  simp only [List.getElem_toArray, List.getElem_cons_zero, List.getElem_cons_succ, Act.put, List.setIfInBounds_toArray, List.set_cons_zero, List.set_cons_succ]
  refine wpAnyH_take (i := 6) (v := ?_) rfl (by kernel_rfl) (by kernel_rfl) (by kernel_rfl) (fun _ _ _ h => hQp _ _ _ _ h rfl) (Or.inl ⟨rfl, ?_⟩) hHeld ?_
  rotate_left
  · intro w0 hS0
    try dsimp only at hS0
    go_simp
    try with_reducible rfl
  simp only [List.getElem_toArray, List.getElem_cons_zero, List.getElem_cons_succ, Act.put, List.setIfInBounds_toArray, List.set_cons_zero, List.set_cons_succ]
  refine wpAnyH_take (i := 7) (v := ?_) rfl (by kernel_rfl) (by kernel_rfl) (by kernel_rfl) (fun _ _ _ h => hQp _ _ _ _ h rfl) (Or.inl ⟨rfl, ?_⟩) hHeld ?_
  rotate_left
  · intro w0 hS0
    try dsimp only at hS0
    go_simp
    try with_reducible rfl
  simp only [List.getElem_toArray, List.getElem_cons_zero, List.getElem_cons_succ, Act.put, List.setIfInBounds_toArray, List.set_cons_zero, List.set_cons_succ]
  refine wpAnyH_ready (rs := [8]) (by kernel_rfl) (by simp) ?_
  refine AllReadyH.cons rfl (fun K hK => ?_) AllReadyH.nil
  rw [if_pos (by rfl)]
  go_simp
  go_at_call 31
  refine HF.out.mono ?_
  rintro e w1 ⟨fv, rfl, hfo, hf1⟩
  have HB1 : Hid (Below w.heap.size w w1) := Lib.hid ((Below.refl w.heap.size w).drew.trans hf1)
  obtain ⟨fa, fc, rfl, -, -, hfB⟩ := Beside.own (F := (F ++ G) ++ v.ownBlock.toList) hfo (fun j hj => by
    rcases List.mem_append.1 hj with hj | hj
    · exact HFL.out j hj
    · exact (HOL.out j hj).2)
  have HFB := Lib.hid hfB
  clear hfo hf1 hfB
  refine hK.out _ _ (HSB.out _ HB1.out) (fun hHeld => ?_)
  have HBU := Lib.hid (fun (_ : Unit) => built_added fa fc (finds x.filter.data.toList s.kp))
  have HAY := Lib.hid (fun W => HAN.out (itemB 8 fa fc (finds x.filter.data.toList s.kp) 0) W)
  have HBD := Lib.hid (build_mail ⟨x.frm, itemOf (backM x 8 (finds x.filter.data.toList s.kp) 0) fa fc none 0⟩)
  have HMA : Hid (MailAt w1 ((F ++ G) ++ v.ownBlock.toList) ⟨x.frm, itemOf (backM x 8 (finds x.filter.data.toList s.kp) 0) fa fc none 0⟩ (backM x 8 (finds x.filter.data.toList s.kp) 0)) := Lib.hid ⟨fa, fc, none, 0, rfl, HFB.out, .inl rfl⟩
  have HMC : Hid ((Mail.cells ⟨x.frm, itemOf (backM x 8 (finds x.filter.data.toList s.kp) 0) fa fc none 0⟩).length = 1 * 40) := Lib.hid rfl
  have HM1 := Lib.hid (mails_one [⟨x.frm, itemOf (backM x 8 (finds x.filter.data.toList s.kp) 0) fa fc none 0⟩])
  have hmv : mailsV [(⟨x.frm, itemOf (backM x 8 (finds x.filter.data.toList s.kp) 0) fa fc none 0⟩ : Mail)] = Mail.cells ⟨x.frm, itemOf (backM x 8 (finds x.filter.data.toList s.kp) 0) fa fc none 0⟩ := by simp [mailsV]
  have HMV := Lib.hid hmv
  rw [hmv] at HM1
  clear hmv
  have e0 : ({ itemB 8 fa fc (finds x.filter.data.toList s.kp) 0 with op := x.op, client := x.client } : Item) = itemOf (backM x 8 (finds x.filter.data.toList s.kp) 0) fa fc none 0 := rfl
  rw [e0] at HAY
  clear e0 HF HAN
  generalize hml : (⟨x.frm, itemOf (backM x 8 (finds x.filter.data.toList s.kp) 0) fa fc none 0⟩ : Mail) = ML at *
  clear hml
  generalize (itemB 8 fa fc (finds x.filter.data.toList s.kp) 0).cells.toArray = YA at *
  generalize hmc : ML.cells = MC at *
  clear hmc
  generalize (finds x.filter.data.toList s.kp) = L at *
  refine wpAnyH_take (i := 9) (v := .agg YA) rfl (by kernel_rfl) (by kernel_rfl) (by kernel_rfl) (fun _ _ _ h => hQp _ _ _ _ h rfl) (Or.inl ⟨rfl, ?_⟩) hHeld ?_
  · intro w1 hS1
    exact exec_build 36 _ rfl YA [(0, .int .u8 8), (7, .slice fa L.length fc)] (by kernel_rfl) (HBU.out ())
  simp only [List.getElem_toArray, List.getElem_cons_zero, List.getElem_cons_succ, Act.put, List.setIfInBounds_toArray, List.set_cons_zero, List.set_cons_succ]
  refine wpAnyH_ready (rs := [10]) (by kernel_rfl) (by simp) ?_
  refine AllReadyH.cons rfl (fun K hK => ?_) AllReadyH.nil
  rw [if_pos (by rfl)]
  go_simp
  go_at_call 46
  refine (HAY.out _).mono ?_
  rintro e w2 ⟨rfl, hk2⟩
  have HB2 : Hid (Below w.heap.size w w2) := Lib.hid (bnext HB1.out (Nat.le_refl _) hk2)
  have HMA2 := Lib.hid (HMA.out.upd ⟨Mod.of_below hk2 _, fun _ h => .inl h⟩)
  clear hk2
  refine hK.out _ _ (HSB.out _ HB2.out) (fun hHeld => ?_)
  refine wpAnyH_ready (rs := [11]) (by kernel_rfl) (by simp) ?_
  refine AllReadyH.cons rfl (fun K hK => ?_) AllReadyH.nil
  rw [if_pos (by rfl)]
  refine HBD.out _ _ _ _ _ _ rfl rfl ?_
  have HB3 : Hid (Below w.heap.size w (w2.alloc (.cells MC.toArray 43))) := Lib.hid (HB2.out.alloc HB2.out.size _)
  refine hK.out _ _ (HSB.out _ HB3.out) (fun hHeld => ?_)
  have HO2 := Lib.hid (HO.out.below HB2.out)
  refine wpAnyH_ready (rs := [12]) (by kernel_rfl) (by simp) ?_
  refine AllReadyH.cons rfl (fun K hK => ?_) AllReadyH.nil
  refine step_appR (m := 1) T_mail (HO2.out.own.alloc _) (row_new w2 MC 43) rfl rfl rfl rfl HMC.out (by omega) HM1.out ?_ ?_ ?_ ?_
  · omega
  · omega
  · have := HB3.out.size; omega
  intro ng cap w4 hown4 hg4 hb4 hl4
  rw [← HMV.out] at hown4
  obtain ⟨ho4, hu4⟩ := OutM.grow (M2 := [ML]) (H2 := [backM x 8 L 0]) HO2.out (fun j hj => Nat.lt_of_lt_of_le (HFL.out j hj) HB2.out.size) (low_alloc w2 _) hown4 hg4 (fun b hb => by
    obtain rfl : ng = b := by simpa [Value.ownBlock] using hb
    rcases hb4 with h1 | h1
    · exact .inl h1
    · right; rw [h1]; simp) ⟨HMA2.out, trivial⟩
  have hp4 := ((HP.out.below HB2.out).out HO2.out hB0 hu4)
  have hm4 : Mod v.ownBlock.toList w w4 := (Mod.of_below HB2.out _).trans hu4.1 (fun k hk => .inl hk)
  refine hK.out _ _ (HS.out _ (hm4.block h hhl hho) (hm4.block xb hxl hxo)) (fun hHeld => ?_)
  refine wpAnyH_take (i := 13) (v := ?_) rfl (by kernel_rfl) (by kernel_rfl) (by kernel_rfl) (fun _ _ _ h => hQp _ _ _ _ h rfl) (Or.inl ⟨rfl, ?_⟩) hHeld ?_
  rotate_left
  · intro w0 hS0
    try dsimp only at hS0
    go_simp
    try with_reducible rfl
  simp only [List.getElem_toArray, List.getElem_cons_zero, List.getElem_cons_succ, Act.put, List.setIfInBounds_toArray, List.set_cons_zero, List.set_cons_succ]
  refine wpAnyH_done (by kernel_rfl) ?_ _
  exact HQ.out _ _ _ hp4 ho4 (upd_out HB2.out hu4)
set_option maxRecDepth 100000 in
set_option maxHeartbeats 4000000 in
theorem do_r14 (w0 : World) (h n k : Nat) (s : HubS) (lv : Value) (ns : List NoteK) (F : List Nat) (x : Item) (xb : Nat) (w : World) (hp : Hb w0 w h n k s lv ns F) (_hT : Tabs w0) (_hx : SmallI x) (_hk : k ≤ 399) (hX : w.heap[xb]? = some (.cells x.cells.toArray 36 (0, 0))) (_hxF : xb ∉ F) (B : Nat) (v : Value) (M : List Mail) (H : List HMail) (G : List Nat) (hG : ∀ j ∈ G, j < w.heap.size) (ho : OutM w (F ++ G) B v M H) (hB0 : w0.heap.size ≤ B) (hB : B ≤ w.heap.size) (hM : M.length ≤ 100000) (_hxo : xb ∉ v.ownBlock.toList)
    {c0 c1 c2 c3 c4 c5 c6 c8 c10 c11 c12 c13 c14 c15 c16 c17 c18 c19 c20 c21 c22 c23 c24 c25 c26 c27 c28 c29 c30 c31 c32 c33 c34 c35 c36 c37 c38 c39 c40 c41 c42 c43 c44 c45 c46 c47 c48 c49 c50 c51 c52 c53 c54 c55 c56 c57 c58 c59 c60 c61 c62 c63 c64 c65 c66 c67 c68 c69 c70 c71 c72 c73 c74 c75 c76 c77 c78 c79 c80 c81 c82 : Value} {Q : Exit → Act → World → Prop} (_hQp : QuietP Q)
    (hQ : ∀ ⦃d67 d68 d69 d70 d71 d72 : Value⦄ (w' : World) (v' : Value) (M' : List Mail), Hb w0 w' h n k s lv ns F → OutM w' (F ++ G) B v' M' (H ++ [backM x 9 [] 0]) → Upd (F ++ v.ownBlock.toList) F w w' → Q .normal ⟨#[c0, c1, c2, c3, c4, c5, c6, v', c8, .pointer (some ⟨xb, 0, none⟩), c10, c11, c12, c13, c14, c15, c16, c17, c18, c19, c20, c21, c22, c23, c24, c25, c26, c27, c28, c29, c30, c31, c32, c33, c34, c35, c36, c37, c38, c39, c40, c41, c42, c43, c44, c45, c46, c47, c48, c49, c50, c51, c52, c53, c54, c55, c56, c57, c58, c59, c60, c61, c62, c63, c64, c65, c66, d67, d68, d69, d70, d71, d72, c73, c74, c75, c76, c77, c78, c79, c80, c81, c82], []⟩ w') :
    Code.wp Tryz.prog (doReg 14) Q ⟨#[c0, c1, c2, c3, c4, c5, c6, v, c8, .pointer (some ⟨xb, 0, none⟩), c10, c11, c12, c13, c14, c15, c16, c17, c18, c19, c20, c21, c22, c23, c24, c25, c26, c27, c28, c29, c30, c31, c32, c33, c34, c35, c36, c37, c38, c39, c40, c41, c42, c43, c44, c45, c46, c47, c48, c49, c50, c51, c52, c53, c54, c55, c56, c57, c58, c59, c60, c61, c62, c63, c64, c65, c66, c67, c68, c69, c70, c71, c72, c73, c74, c75, c76, c77, c78, c79, c80, c81, c82], []⟩ w := by
  dsimp only at hQ ⊢
  conv => arg 2; whnf
  have HXS := Lib.hid (item_size x)
  have HAY := Lib.hid (fun W => answer_any x (itemB 9 none 0 [] 0) W)
  have HP := Lib.hid hp
  have HO := Lib.hid ho
  have HQ := Lib.hid hQ
  have HXB := Lib.hid hX
  have HFL : Hid (∀ j ∈ F ++ G, j < w.heap.size) := Lib.hid (fun j hj => (List.mem_append.1 hj).elim (hp.lt j) (hG j))
  have HBU := Lib.hid built_removed
  have HBD := Lib.hid (build_mail ⟨x.frm, itemOf (backM x 9 [] 0) none 0 none 0⟩)
  have HMC : Hid ((Mail.cells ⟨x.frm, itemOf (backM x 9 [] 0) none 0 none 0⟩).length = 1 * 40) := Lib.hid rfl
  have HM1 := Lib.hid (mails_one [⟨x.frm, itemOf (backM x 9 [] 0) none 0 none 0⟩])
  have hmv : mailsV [(⟨x.frm, itemOf (backM x 9 [] 0) none 0 none 0⟩ : Mail)] = Mail.cells ⟨x.frm, itemOf (backM x 9 [] 0) none 0 none 0⟩ := by simp [mailsV]
  have HMV := Lib.hid hmv
  rw [hmv] at HM1
  clear hmv
  have e0 : ({ itemB 9 none 0 [] 0 with op := x.op, client := x.client } : Item) = itemOf (backM x 9 [] 0) none 0 none 0 := rfl
  rw [e0] at HAY
  clear e0
  have HMA : Hid (∀ W G, MailAt W G ⟨x.frm, itemOf (backM x 9 [] 0) none 0 none 0⟩ (backM x 9 [] 0)) := Lib.hid (fun W G => ⟨none, 0, none, 0, rfl, .inl rfl, .inl rfl⟩)
  generalize hml : (⟨x.frm, itemOf (backM x 9 [] 0) none 0 none 0⟩ : Mail) = ML at *
  clear hml
  generalize (itemB 9 none 0 [] 0).cells.toArray = YA at *
  generalize hmc : ML.cells = MC at *
  clear hmc
  generalize x.cells.toArray = XA at *
  clear hp _hT _hx hX _hxF hQ ho
  go_wp2_with (first
    | (refine wpList_load_row rfl 36 _ rfl xb rfl 36 XA _ _ HXB.out Tryz.underlying36 rfl HXS.out ?_)
    | (refine wpList_buildBy rfl 36 _ rfl _ rfl YA [(0, .int .u8 9)] (by kernel_rfl) HBU.out ?_)
    | fail)
  refine (HAY.out _).mono ?_
  rintro e w2 ⟨rfl, hk2⟩
  have HB2 : Hid (Below w.heap.size w w2) := Lib.hid hk2
  have HO2 := Lib.hid (HO.out.below hk2)
  have hs2 : w.heap.size ≤ w2.heap.size := hk2.size
  clear hk2
  have hmb : M.length ≤ 100000 := hM
  go_wp2_with (first
    | (refine wpList_build1 HBD.out rfl _ rfl rfl _ rfl w2.heap.size rfl ?_)
    | (at_builtin; refine wpList_appR (m := 1) T_mail (HO2.out.own.alloc (.cells MC.toArray 43)) (row_new w2 MC 43) rfl rfl rfl rfl _ rfl HMC.out (by omega) HM1.out (by omega) (by omega) (by simp; omega) ?_; intro ng cap w4 hown4 hg4 hb4 hl4; have H4 := Lib.hid (And.intro hown4 (And.intro hg4 hb4)); clear hown4 hg4 hb4 hl4)
    | fail)
  obtain ⟨hown4, hg4, hb4⟩ := H4.out
  rw [← HMV.out] at hown4
  obtain ⟨ho4, hu4⟩ := OutM.grow (M2 := [ML]) (H2 := [backM x 9 [] 0]) HO2.out (fun j hj => Nat.lt_of_lt_of_le (HFL.out j hj) hs2) (low_alloc w2 _) hown4 hg4 (fun b hb => by
    obtain rfl : ng = b := by simpa [Value.ownBlock] using hb
    rcases hb4 with h1 | h1
    · exact .inl h1
    · right; simp at h1; omega) ⟨HMA.out _ _, trivial⟩
  exact HQ.out _ _ _ ((HP.out.below HB2.out).out HO2.out hB0 hu4) ho4 (upd_out HB2.out hu4)
set_option maxRecDepth 100000 in
set_option maxHeartbeats 4000000 in
theorem do_r16 (w0 : World) (h n k : Nat) (s : HubS) (lv : Value) (ns : List NoteK) (F : List Nat) (x : Item) (xb : Nat) (w : World) (hp : Hb w0 w h n k s lv ns F) (hT : Tabs w0) (hx : SmallI x) (hk : k ≤ 399) (hX : w.heap[xb]? = some (.cells x.cells.toArray 36 (0, 0))) (_hxF : xb ∉ F) (B : Nat) (v : Value) (M : List Mail) (H : List HMail) (G : List Nat) (hG : ∀ j ∈ G, j < w.heap.size) (ho : OutM w (F ++ G) B v M H) (hB0 : w0.heap.size ≤ B) (hB : B ≤ w.heap.size) (hM : M.length ≤ 100000) (_hxo : xb ∉ v.ownBlock.toList) (h1 : 1 ≤ n) (h2 : n ≤ 64)
    {c2 c3 c4 c5 c6 c8 c10 c11 c12 c13 c14 c15 c16 c17 c18 c19 c20 c21 c22 c23 c24 c25 c26 c27 c28 c29 c30 c31 c32 c33 c34 c35 c36 c37 c38 c39 c40 c41 c42 c43 c44 c45 c46 c47 c48 c49 c50 c51 c52 c53 c54 c55 c56 c57 c58 c59 c60 c61 c62 c63 c64 c65 c66 c67 c68 c69 c70 c71 c72 c73 c74 c75 c76 c77 c78 c79 c80 c81 c82 : Value} {Q : Exit → Act → World → Prop} (_hQp : QuietP Q)
    (hQ : ∀ ⦃d75 d76 d77 d78 d79 d80 : Value⦄ (w' : World) (v' : Value) (M' : List Mail) (F' : List Nat), Hb w0 w' h n (k + 1) ⟨s.gs, routeK x s.kp⟩ lv (ns ++ if keeps x then [⟨x.op, x.client, x.msg⟩] else []) F' → OutM w' (F' ++ G) B v' M' (H ++ routeM n x s) → Upd (F ++ v.ownBlock.toList) F' w w' → Q .normal ⟨#[.pointer (some ⟨h, 0, none⟩), lv, c2, c3, c4, c5, c6, v', c8, .pointer (some ⟨xb, 0, none⟩), c10, c11, c12, c13, c14, c15, c16, c17, c18, c19, c20, c21, c22, c23, c24, c25, c26, c27, c28, c29, c30, c31, c32, c33, c34, c35, c36, c37, c38, c39, c40, c41, c42, c43, c44, c45, c46, c47, c48, c49, c50, c51, c52, c53, c54, c55, c56, c57, c58, c59, c60, c61, c62, c63, c64, c65, c66, c67, c68, c69, c70, c71, c72, c73, c74, d75, d76, d77, d78, d79, d80, c81, c82], []⟩ w') :
    Code.wp Tryz.prog (doReg 16) Q ⟨#[.pointer (some ⟨h, 0, none⟩), lv, c2, c3, c4, c5, c6, v, c8, .pointer (some ⟨xb, 0, none⟩), c10, c11, c12, c13, c14, c15, c16, c17, c18, c19, c20, c21, c22, c23, c24, c25, c26, c27, c28, c29, c30, c31, c32, c33, c34, c35, c36, c37, c38, c39, c40, c41, c42, c43, c44, c45, c46, c47, c48, c49, c50, c51, c52, c53, c54, c55, c56, c57, c58, c59, c60, c61, c62, c63, c64, c65, c66, c67, c68, c69, c70, c71, c72, c73, c74, c75, c76, c77, c78, c79, c80, c81, c82], []⟩ w := by
  dsimp only at hQ ⊢
  conv => arg 2; whnf
  have HXS := Lib.hid (item_size x)
  have HRT := Lib.hid (hroute_any w0 h n k s lv ns F x w hp hT hx hk h1 h2)
  have HO := Lib.hid ho
  have HQ := Lib.hid hQ
  have HXB := Lib.hid hX
  have HOL := Lib.hid ho.lt
  generalize x.cells.toArray = XA at *
  clear hp hT hx hX _hxF hQ ho
  go_wp2_with (first
    | (refine wpList_load_row rfl 36 _ rfl xb rfl 36 XA _ _ HXB.out Tryz.underlying36 rfl HXS.out ?_)
    | fail)
  refine HRT.out.mono ?_
  rintro e w2 ⟨v2, L, F', rfl, hp2, hu2, hout⟩
  have hg2 := hout (G ++ v.ownBlock.toList) (fun j hj => (List.mem_append.1 hj).elim (hG j) (fun hj => (HOL.out j hj).2))
  obtain ⟨a2, cc2, e2, hr2, -, -⟩ := ownsRow_row hg2.own
  subst e2
  have HG2 := Lib.hid hg2
  have HO2 := Lib.hid (HO.out.updG hu2)
  have HFG : Hid (∀ j ∈ F' ++ G, j < w2.heap.size) := Lib.hid (fun j hj => (List.mem_append.1 hj).elim (hp2.lt j) (fun hj => Nat.lt_of_lt_of_le (hG j hj) hu2.1.size))
  have HP2 := Lib.hid hp2
  have HU2 := Lib.hid hu2
  have HR2 := Lib.hid hr2
  have hs2 : w.heap.size ≤ w2.heap.size := hu2.1.size
  have hml := hg2.ms.len
  have hrl := routeM_len n x s
  have hlp : 0 < L.length := by omega
  have hll : L.length ≤ 65 := by omega
  have HLC := Lib.hid (mailsV_length L)
  have HM1 := Lib.hid (mails_one L)
  have hmb : M.length ≤ 100000 := hM
  clear hp2 hu2 hout hg2 hr2 hml hrl
  go_wp2_with (first
    | (at_builtin; refine wpList_appR (m := L.length) T_mail HO2.out.own HR2.out rfl rfl rfl rfl _ rfl HLC.out (by omega) HM1.out (by omega) (by omega) (by omega) ?_; intro ng cap w4 hown4 hg4 hb4 hl4; have H4 := Lib.hid (And.intro hown4 (And.intro hg4 hb4)); clear hown4 hg4 hb4 hl4)
    | fail)
  obtain ⟨hown4, hg4, hb4⟩ := H4.out
  obtain ⟨ho4, hu4⟩ := OutM.grow (M2 := L) (H2 := routeM n x s) HO2.out HFG.out (Below.refl _ _) hown4 hg4 (fun b hb => by
    obtain rfl : ng = b := by simpa [Value.ownBlock] using hb
    exact hb4) (HG2.out.ms.sub fun j hj => by
    simp only [List.mem_append] at hj ⊢
    rcases hj with (hj | hj) | hj
    · exact .inl (.inl hj)
    · exact .inl (.inr (.inl hj))
    · exact .inl (.inr (.inr hj)))
  exact HQ.out _ _ _ _ (HP2.out.out HO2.out hB0 hu4) ho4 (upd_then19 HU2.out hu4)
end
section
open Go Go.RowKit

noncomputable def doCase : Code := (Tryz.f12.body.bind (blockOf 2)).getD .skip
theorem one_add {n : Nat} {x : Item} (hf : fits n x = true) (s : HubS) (h : x.kind = 5) : oneM n x s = ([backM x 8 (finds x.filter.data.toList s.kp) 0], ⟨addG s.gs x.filter.data.toList x.client.data.toList, s.kp⟩) := by
  unfold oneM
  rw [hf, if_neg (by simp), if_pos h]
theorem one_rem {n : Nat} {x : Item} (hf : fits n x = true) (s : HubS) (h : x.kind = 6) : oneM n x s = ([backM x 9 [] 0], ⟨s.gs.erase (x.filter.data.toList, x.client.data.toList), s.kp⟩) := by
  unfold oneM
  rw [hf, if_neg (by simp), if_neg (by omega), if_pos h]
theorem one_route {n : Nat} {x : Item} (hf : fits n x = true) (s : HubS) (h : x.kind = 7) : oneM n x s = (routeM n x s, ⟨s.gs, routeK x s.kp⟩) := by
  unfold oneM
  rw [hf, if_neg (by simp), if_neg (by omega), if_neg (by omega), if_pos h]
theorem one_none {n : Nat} {x : Item} (s : HubS) (h : fits n x = false ∨ (x.kind ≠ 5 ∧ x.kind ≠ 6 ∧ x.kind ≠ 7)) : oneM n x s = ([], s) := by
  unfold oneM
  rcases h with h | ⟨h1, h2, h3⟩
  · rw [h, if_pos (by simp)]
  · rw [if_neg h1, if_neg h2, if_neg h3]
    split <;> rfl
def noteOf (x : Item) : NoteK := ⟨x.op, x.client, x.msg⟩
def notesOf (n : Nat) (l : List Item) : List NoteK := (l.filter (noted n)).map noteOf
theorem notesOf_snoc (n : Nat) (l : List Item) (x : Item) : notesOf n (l ++ [x]) = notesOf n l ++ (if noted n x then [noteOf x] else []) := by
  unfold notesOf
  rw [List.filter_append, List.map_append]
  by_cases h : noted n x = true <;> simp [h]
theorem noted_no {n : Nat} {x : Item} (h : x.kind ≠ 7 ∨ fits n x = false) : noted n x = false := by
  unfold noted
  rcases h with h | h
  · simp [h]
  · simp [h]
theorem noted_yes {n : Nat} {x : Item} (hf : fits n x = true) (h : x.kind = 7) : noted n x = keeps x := by unfold noted; simp [hf, h]
theorem oneM_len (n : Nat) (x : Item) (s : HubS) : (oneM n x s).1.length ≤ 65 := by
  unfold oneM
  split
  · simp
  · split
    · simp
    · split
      · simp
      · split
        · exact (routeM_len n x s).2
        · simp
theorem upd_round {w wr W w2 : World} {F F1 F2 S : List Nat} (h : Upd F F1 w wr) (hb : Below wr.heap.size wr W) (hu : Upd (F1 ++ S) F2 W w2) (hS : ∀ j ∈ S, w.heap.size ≤ j) : Upd F F2 w w2 := by
  refine ⟨(h.1.next hb).trans hu.1 fun k hk => ?_, fun k hk => ?_⟩
  · rcases List.mem_append.1 hk with hk | hk
    · exact h.2 k hk
    · exact .inr (hS k hk)
  · rcases hu.2 k hk with hk | hk
    · rcases List.mem_append.1 hk with hk | hk
      · exact h.2 k hk
      · exact .inr (hS k hk)
    · exact .inr (Nat.le_trans (h.1.next hb).size hk)
theorem upd_two {w w1 w2 : World} {F F1 F2 S : List Nat} (h : Upd F F1 w w1) (hu : Upd (F1 ++ S) F2 w1 w2) : Upd (F ++ S) F2 w w2 := by
  refine ⟨(h.1.mono fun k hk => List.mem_append_left _ hk).trans hu.1 fun k hk => ?_, fun k hk => ?_⟩
  · rcases List.mem_append.1 hk with hk | hk
    · exact (h.2 k hk).imp (fun h1 => List.mem_append_left _ h1) id
    · exact .inl (List.mem_append_right _ hk)
  · rcases hu.2 k hk with hk | hk
    · rcases List.mem_append.1 hk with hk | hk
      · exact (h.2 k hk).imp (fun h1 => List.mem_append_left _ h1) id
      · exact .inl (List.mem_append_right _ hk)
    · exact .inr (Nat.le_trans h.1.size hk)
set_option maxRecDepth 100000 in
set_option maxHeartbeats 8000000 in
theorem do_case (w0 : World) (h n k : Nat) (s : HubS) (lv : Value) (ns : List NoteK) (F : List Nat) (x : Item) (xb : Nat) (w : World) (hp : Hb w0 w h n k s lv ns F) (hT : Tabs w0) (hx : SmallI x) (hk : k + 1 ≤ 399) (hX : w.heap[xb]? = some (.cells x.cells.toArray 36 (0, 0))) (hxF : xb ∉ F)
    (B : Nat) (v : Value) (M : List Mail) (H : List HMail) (G : List Nat) (hG : ∀ j ∈ G, j < w.heap.size) (ho : OutM w (F ++ G) B v M H) (hB0 : w0.heap.size ≤ B) (hB : B ≤ w.heap.size) (hM : M.length ≤ 100000) (hxo : xb ∉ v.ownBlock.toList) (h1 : 1 ≤ n) (h2 : n ≤ 64) (hf : fits n x = true)
    {c2 c3 c4 c5 c6 c8 c10 c11 c12 c13 c14 c15 c16 c17 c18 c19 c20 c21 c22 c23 c24 c25 c26 c27 c28 c29 c30 c32 c33 c34 c35 c36 c37 c38 c39 c40 c41 c42 c43 c44 c45 c46 c47 c48 c49 c50 c51 c52 c53 c54 c55 c56 c57 c58 c59 c60 c61 c62 c63 c64 c65 c66 c67 c68 c69 c70 c71 c72 c73 c74 c75 c76 c77 c78 c79 c80 c81 c82 : Value} {Q : Exit → Act → World → Prop} (hQp : QuietP Q)
    (hQ : ∀ ⦃d31 d32 d33 d34 d35 d36 d37 d38 d39 d40 d41 d42 d43 d44 d45 d46 d47 d48 d49 d50 d51 d52 d53 d54 d55 d56 d57 d58 d59 d60 d61 d62 d63 d64 d65 d66 d67 d68 d69 d70 d71 d72 d73 d74 d75 d76 d77 d78 d79 d80 : Value⦄ (w' : World) (v' : Value) (M' : List Mail) (F' : List Nat), Hb w0 w' h n (k + 1) (oneM n x s).2 lv (ns ++ if noted n x then [noteOf x] else []) F' → OutM w' (F' ++ G) B v' M' (H ++ (oneM n x s).1) → Upd (F ++ v.ownBlock.toList) F' w w' → Q .normal ⟨#[.pointer (some ⟨h, 0, none⟩), lv, c2, c3, c4, c5, c6, v', c8, .pointer (some ⟨xb, 0, none⟩), c10, c11, c12, c13, c14, c15, c16, c17, c18, c19, c20, c21, c22, c23, c24, c25, c26, c27, c28, c29, c30, d31, d32, d33, d34, d35, d36, d37, d38, d39, d40, d41, d42, d43, d44, d45, d46, d47, d48, d49, d50, d51, d52, d53, d54, d55, d56, d57, d58, d59, d60, d61, d62, d63, d64, d65, d66, d67, d68, d69, d70, d71, d72, d73, d74, d75, d76, d77, d78, d79, d80, c81, c82], []⟩ w') :
    Code.wp Tryz.prog doCase Q ⟨#[.pointer (some ⟨h, 0, none⟩), lv, c2, c3, c4, c5, c6, v, c8, .pointer (some ⟨xb, 0, none⟩), c10, c11, c12, c13, c14, c15, c16, c17, c18, c19, c20, c21, c22, c23, c24, c25, c26, c27, c28, c29, c30, .int .u8 x.kind, c32, c33, c34, c35, c36, c37, c38, c39, c40, c41, c42, c43, c44, c45, c46, c47, c48, c49, c50, c51, c52, c53, c54, c55, c56, c57, c58, c59, c60, c61, c62, c63, c64, c65, c66, c67, c68, c69, c70, c71, c72, c73, c74, c75, c76, c77, c78, c79, c80, c81, c82], []⟩ w := by
  dsimp only at hQ ⊢
  conv => arg 2; whnf
  have HP := Lib.hid hp
  have HO := Lib.hid ho
  have HT := Lib.hid hT
  have HX := Lib.hid hx
  have HXB := Lib.hid hX
  have HXF := Lib.hid hxF
  have HQ := Lib.hid hQ
  have HXO := Lib.hid hxo
  have HF := Lib.hid hf
  have hxl : xb < w.heap.size := (Array.getElem?_eq_some_iff.1 hX).1
  clear hp ho hT hx hX hxF hQ hxo hf
  by_cases k5 : x.kind = 5
  · have HE := Lib.hid (one_add HF.out s k5)
    have HN := Lib.hid (noted_no (n := n) (x := x) (.inl (by omega)))
    go_wp2_with fail
    refine do_r10 w0 h n k s lv ns F x xb w HP.out HT.out HX.out (by omega) HXB.out HXF.out (fun x a a' w h e => hQp x a a' w h e) ?_
    intro d34 d35 d36 d37 d38 d39 d40 d41 d42 w1 F1 hp1 hu1
    have HP1 := Lib.hid hp1
    have HU1 := Lib.hid hu1
    have hs1 := hu1.1.size
    clear hp1 hu1
    go_wp2_with fail
    refine do_r11 w0 h n (k + 1) _ lv ns F1 x xb w1 HP1.out HT.out HX.out (by omega) ((HU1.out.1.block xb hxl HXF.out).trans HXB.out) (fresh_not hxl HXF.out HU1.out.2) B v M H G (fun j hj => Nat.lt_of_lt_of_le (hG j hj) hs1) (HO.out.updG HU1.out) hB0 (by omega) hM HXO.out (fun x a a' w h e => hQp x a a' w h e) ?_
    intro d43 d44 d45 d46 d47 d48 d49 d50 d51 d52 d53 d54 d55 w2 v2 M2 hp2 ho2 hu2
    have HP2 := Lib.hid hp2
    have HO2 := Lib.hid ho2
    have HU2 := Lib.hid hu2
    clear hp2 ho2 hu2
    go_wp2_with fail
    refine HQ.out w2 v2 M2 F1 ?_ ?_ ?_
    · rw [HE.out, HN.out]; simpa using HP2.out
    · rw [HE.out]; exact HO2.out
    · exact upd_two HU1.out HU2.out
  · by_cases k6 : x.kind = 6
    · have HE := Lib.hid (one_rem HF.out s k6)
      have HN := Lib.hid (noted_no (n := n) (x := x) (.inl (by omega)))
      go_wp2_with fail
      refine do_r13 w0 h n k s lv ns F x xb w HP.out HT.out HX.out (by omega) HXB.out HXF.out (fun x a a' w h e => hQp x a a' w h e) ?_
      intro d58 d59 d60 d61 d62 d63 d64 d65 d66 w1 F1 hp1 hu1
      have HP1 := Lib.hid hp1
      have HU1 := Lib.hid hu1
      have hs1 := hu1.1.size
      clear hp1 hu1
      go_upto_region 14 with fail
      refine do_r14 w0 h n k _ lv ns F1 x xb w1 HP1.out HT.out HX.out (by omega) ((HU1.out.1.block xb hxl HXF.out).trans HXB.out) (fresh_not hxl HXF.out HU1.out.2) B v M H G (fun j hj => Nat.lt_of_lt_of_le (hG j hj) hs1) (HO.out.updG HU1.out) hB0 (by omega) hM HXO.out (fun x a a' w h e => hQp x a a' w h e) ?_
      intro d67 d68 d69 d70 d71 d72 w2 v2 M2 hp2 ho2 hu2
      have HP2 := Lib.hid hp2
      have HO2 := Lib.hid ho2
      have HU2 := Lib.hid hu2
      clear hp2 ho2 hu2
      go_wp2_with fail
      refine HQ.out w2 v2 M2 F1 ?_ ?_ ?_
      · rw [HE.out, HN.out]; simpa using HP2.out.more (Nat.le_succ k)
      · rw [HE.out]; exact HO2.out
      · exact upd_two HU1.out HU2.out
    · by_cases k7 : x.kind = 7
      · have HE := Lib.hid (one_route HF.out s k7)
        have HN := Lib.hid (noted_yes HF.out k7)
        go_upto_region 16 with fail
        refine do_r16 w0 h n k s lv ns F x xb w HP.out HT.out HX.out (by omega) HXB.out HXF.out B v M H G hG HO.out hB0 hB hM HXO.out h1 h2 (fun x a a' w h e => hQp x a a' w h e) ?_
        intro d75 d76 d77 d78 d79 d80 w2 v2 M2 F2 hp2 ho2 hu2
        have HP2 := Lib.hid hp2
        have HO2 := Lib.hid ho2
        have HU2 := Lib.hid hu2
        clear hp2 ho2 hu2
        go_wp2_with fail
        refine HQ.out w2 v2 M2 F2 ?_ ?_ HU2.out
        · rw [HE.out, HN.out]; exact HP2.out
        · rw [HE.out]; exact HO2.out
      · have HE := Lib.hid (one_none (n := n) (x := x) s (.inr ⟨k5, k6, k7⟩))
        have HN := Lib.hid (noted_no (n := n) (x := x) (.inl k7))
        go_wp2_with fail
        refine HQ.out w v M F ?_ ?_ ⟨Mod.refl _ _, fun k hk => .inl (List.mem_append_left _ hk)⟩
        · rw [HE.out, HN.out]; simpa using HP.out.more (Nat.le_succ k)
        · rw [HE.out]; simpa using HO.out
set_option maxRecDepth 100000 in
set_option maxHeartbeats 8000000 in
theorem hdo_any (w0 : World) (h n k : Nat) (s : HubS) (lv : Value) (ns : List NoteK) (F : List Nat) (L : List Item) (a : Option Addr) (c : Nat) (w : World) (hp : Hb w0 w h n k s lv ns F) (hT : Tabs w0) (hL : ∀ x ∈ L, SmallI x) (hk : k + L.length ≤ 398) (h1 : 1 ≤ n) (h2 : n ≤ 64) (hr : Beside w F a (itemsV L)) (G : List Nat) (hG : ∀ j ∈ G, j < w.heap.size) :
    Calls Tryz.prog 12 #[.pointer (some ⟨h, 0, none⟩), lv, .slice a L.length c] w fun e w' => ∃ v M F', e = .returned v ∧ Hb w0 w' h n (k + L.length) (doH n L s).2 lv (ns ++ notesOf n L) F' ∧ Upd F F' w w' ∧ OutM w' (F' ++ G) w.heap.size v M (doH n L s).1 := by
  have HP := Lib.hid hp
  have HT := Lib.hid hT
  have HR := Lib.hid hr
  have HL := Lib.hid hL
  have hw0 := hp.bel.size
  clear hp hT hr hL
  go_enter Tryz.func12, Tryz.ntmps12
  go_wp2_with fail
  go_loopw [7, 14] (fun v i wr => ∃ (j : Nat) (M : List Mail) (F' : List Nat), i = .int .i64 j ∧ j ≤ L.length ∧ Hb w0 wr h n (k + j) (doH n (L.take j) s).2 lv (ns ++ notesOf n (L.take j)) F' ∧ Upd F F' w wr ∧ OutM wr (F' ++ G) w.heap.size v M (doH n (L.take j) s).1 ∧ M.length ≤ 65 * j) (fun _ i _ => (L.length - intOf i).toNat)
  case atStart => exact ⟨0, [], F, rfl, by omega, by simpa [doH, notesOf] using HP.out, ⟨Mod.refl _ _, fun _ h => .inl h⟩, OutM.nil _ _ _, by simp⟩
  case round =>
    obtain ⟨j, M, F', rfl, hj, hpj, huj, hoj, hMj⟩ := hrel
    have HPJ := Lib.hid hpj
    have HUJ := Lib.hid huj
    have HOJ := Lib.hid hoj
    have hwr := huj.1.size
    clear hpj huj hoj
    by_cases hlt : j < L.length
    · have hj0 : (0 : Int) ≤ j := by omega
      have hjl : (j : Int) < L.length := by omega
      obtain ⟨b, o, rfl, hra⟩ := row_mid (mk := Item.cells) (m := 38) item_width (HR.out.upd HUJ.out).row hlt (by decide)
      have HRA := Lib.hid hra
      have HD := Lib.hid (doH_snoc n (L.take j) L[j] s)
      have HN := Lib.hid (notesOf_snoc n (L.take j) L[j])
      have htk := List.take_succ_eq_append_getElem hlt
      rw [← htk] at HD HN
      clear htk
      have HXS := Lib.hid (HL.out _ (List.getElem_mem hlt))
      have HIS := Lib.hid (item_size L[j])
      have HIL : Hid ((Tryz.prog.info? 36).map (·.size) = some L[j].cells.length) := Lib.hid ((item_size L[j]).trans (by simp))
      have HI38 : Hid ((38 : Nat) = L[j].cells.toArray.size) := Lib.hid rfl
      have HIO := Lib.hid (item_one L[j])
      generalize L[j] = x at *
      have HXB := Lib.hid (heap_alloc_new wr (.cells x.cells.toArray 36))
      have hbl := low_alloc wr (.cells x.cells.toArray 36)
      obtain ⟨-, -, -, -, -, -, -, -, c36⟩ := item_cells HXB.out
      obtain ⟨c0, -⟩ := item_cells HXB.out
      have cn := (hbl.cell (World.block_lt_of_cell? _ _ HPJ.out.num)).trans HPJ.out.num
      have HXF : Hid (wr.heap.size ∉ F') := Lib.hid (fun hm => by have := HPJ.out.lt _ hm; omega)
      have HXO : Hid (wr.heap.size ∉ u7.ownBlock.toList) := Lib.hid (fun hm => by have := (HOJ.out.lt _ hm).2; omega)
      have HPW := Lib.hid (HPJ.out.below hbl)
      have HOW := Lib.hid (HOJ.out.below hbl)
      have HBL := Lib.hid hbl
      have hsz : (wr.alloc (.cells x.cells.toArray 36)).heap.size = wr.heap.size + 1 := by simp
      clear hra hbl
      have HX0 : Hid (x.cells.toArray[0]? = some (.int .u8 x.kind)) := Lib.hid rfl
      generalize hXC : x.cells = XC at *
      by_cases hf : fits n x = true
      · have hfa : 0 ≤ x.frm ∧ x.frm < n := by simpa [fits] using hf
        have hd1 : decide (x.frm < 0) = false := by simp; omega
        have hd2 : decide ((n : Int) ≤ x.frm) = false := by simp; omega
        have HF := Lib.hid hf
        clear hf hfa
        go_wp2_with (first
          | (refine wpList_loadMid rfl 36 _ rfl b (o + j * 38) rfl XC _ HRA.out Tryz.underlying36 rfl HIL.out _ rfl ?_)
          | (refine wpList_store_newTo rfl 36 _ _ rfl rfl wr.heap.size rfl XC.toArray _ rfl rfl HIS.out HI38.out HIO.out ?_)
          | fail)
        go_quiet (fail)
        have HBD : Hid (Below (wr.alloc (.cells XC.toArray 36)).heap.size (wr.alloc (.cells XC.toArray 36)) ((wr.alloc (.cells XC.toArray 36)).drewN nq)) := Lib.hid (drewN_below _ nq)
        have HXW := Lib.hid ((HBD.out.block wr.heap.size (by omega)).trans HXB.out)
        have HP2 := Lib.hid (HPW.out.below HBD.out)
        have HO2 := Lib.hid (HOW.out.below HBD.out)
        have HB2 := Lib.hid (bnext HBL.out (Nat.le_refl _) HBD.out)
        have hs2 : wr.heap.size ≤ ((wr.alloc (.cells XC.toArray 36)).drewN nq).heap.size := HB2.out.size
        clear c36 c0 cn HBD
        generalize (wr.alloc (.cells XC.toArray 36)).drewN nq = W at *
        have kx := (cell_of_row W wr.heap.size 0 _ _ _ HXW.out).trans HX0.out
        go_upto_block 2 with fail
        refine do_case w0 h n (k + j) (doH n (L.take j) s).2 lv (ns ++ notesOf n (L.take j)) F' x wr.heap.size W HP2.out HT.out HXS.out (by omega) (by rw [hXC]; exact HXW.out) HXF.out w.heap.size u7 M _ G (fun i hi => by have := hG i hi; omega) HO2.out hw0 (by omega) (by omega) HXO.out h1 h2 HF.out (fun _ _ _ _ h e => ⟨e ▸ h.1, h.2⟩) ?_
        intro d31 d32 d33 d34 d35 d36 d37 d38 d39 d40 d41 d42 d43 d44 d45 d46 d47 d48 d49 d50 d51 d52 d53 d54 d55 d56 d57 d58 d59 d60 d61 d62 d63 d64 d65 d66 d67 d68 d69 d70 d71 d72 d73 d74 d75 d76 d77 d78 d79 d80 W2 v2 M2 F2 hp2 ho2 hu2
        have HP3 := Lib.hid hp2
        have HO3 := Lib.hid ho2
        have HU3 := Lib.hid hu2
        have hln : M2.length = M.length + (oneM n x (doH n (L.take j) s).2).1.length := by rw [ho2.ms.len, List.length_append, HO2.out.ms.len]
        have hol := oneM_len n x (doH n (L.take j) s).2
        clear hp2 ho2 hu2
        go_wp2_with fail
        go_roundw
        case rel =>
          refine ⟨j + 1, M2, F2, by go_num, by omega, ?_, ?_, ?_, by omega⟩
          · rw [HD.out, HN.out, ← List.append_assoc]; exact HP3.out
          · exact upd_round HUJ.out HB2.out HU3.out (fun i hi => (HOJ.out.lt i hi).1)
          · rw [HD.out]; exact HO3.out
        case measure => simp [intOf]; omega
      · have HE := Lib.hid (one_none (n := n) (x := x) (doH n (L.take j) s).2 (.inl (by simpa using hf)))
        have HNN := Lib.hid (noted_no (n := n) (x := x) (.inr (by simpa using hf)))
        have hfa : x.frm < 0 ∨ (n : Int) ≤ x.frm := by
          simp [fits] at hf
          omega
        by_cases hd : x.frm < 0
        · have hd1 : decide (x.frm < 0) = true := by simpa using hd
          clear hf hfa
          go_wp2_with (first
            | (refine wpList_loadMid rfl 36 _ rfl b (o + j * 38) rfl XC _ HRA.out Tryz.underlying36 rfl HIL.out _ rfl ?_)
            | (refine wpList_store_newTo rfl 36 _ _ rfl rfl wr.heap.size rfl XC.toArray _ rfl rfl HIS.out HI38.out HIO.out ?_)
            | fail)
          go_quiet (fail)
          go_wp2_with fail
          go_roundw
          case rel =>
            have hbd : Below (wr.alloc (.cells XC.toArray 36)).heap.size (wr.alloc (.cells XC.toArray 36)) ((wr.alloc (.cells XC.toArray 36)).drewN nq) := drewN_below _ nq
            refine ⟨j + 1, M, F', by go_num, by omega, ?_, ⟨HUJ.out.1.next (bnext HBL.out (Nat.le_refl _) hbd), HUJ.out.2⟩, ?_, by omega⟩
            · rw [HD.out, HN.out, HNN.out, HE.out]
              simpa [Nat.add_assoc] using (HPW.out.below hbd).more (Nat.le_succ _)
            · rw [HD.out, HE.out]
              simpa using HOW.out.below hbd
          case measure => simp [intOf]; omega
        · have hd1 : decide (x.frm < 0) = false := by simpa using hd
          have hd2 : decide ((n : Int) ≤ x.frm) = true := by simp; omega
          clear hf hfa
          go_wp2_with (first
            | (refine wpList_loadMid rfl 36 _ rfl b (o + j * 38) rfl XC _ HRA.out Tryz.underlying36 rfl HIL.out _ rfl ?_)
            | (refine wpList_store_newTo rfl 36 _ _ rfl rfl wr.heap.size rfl XC.toArray _ rfl rfl HIS.out HI38.out HIO.out ?_)
            | fail)
          go_quiet (fail)
          go_wp2_with fail
          go_roundw
          case rel =>
            have hbd : Below (wr.alloc (.cells XC.toArray 36)).heap.size (wr.alloc (.cells XC.toArray 36)) ((wr.alloc (.cells XC.toArray 36)).drewN nq) := drewN_below _ nq
            refine ⟨j + 1, M, F', by go_num, by omega, ?_, ⟨HUJ.out.1.next (bnext HBL.out (Nat.le_refl _) hbd), HUJ.out.2⟩, ?_, by omega⟩
            · rw [HD.out, HN.out, HNN.out, HE.out]
              simpa [Nat.add_assoc] using (HPW.out.below hbd).more (Nat.le_succ _)
            · rw [HD.out, HE.out]
              simpa using HOW.out.below hbd
          case measure => simp [intOf]; omega
    · have hjl : ¬ (j : Int) < L.length := by omega
      obtain rfl : j = L.length := by omega
      rw [List.take_length] at HPJ HOJ
      clear HR HL
      go_wp2_with fail
      go_ret
      exact ⟨_, rfl, M, F', HPJ.out, HUJ.out, HOJ.out⟩
end
section
open Go Go.RowKit

set_option maxRecDepth 100000 in
theorem hub_no (n : Int) (hn : n < 1 ∨ 64 < n) (w : World) : Calls Tryz.prog 9 #[.int .i64 n] w fun e w' => e = .returned (.pointer none) ∧ w = w' := by
  by_cases h : n < 1
  · have hh := h
    go_enter Tryz.func9, Tryz.ntmps9
    go_wp2_with fail
    go_ret
    exact ⟨rfl, rfl⟩
  · have h2 : 64 < n := by omega
    go_enter Tryz.func9, Tryz.ntmps9
    go_wp2_with fail
    go_ret
    exact ⟨rfl, rfl⟩
set_option maxRecDepth 100000 in
theorem hub_yes (w0 : World) (n : Nat) (h1 : 1 ≤ n) (h2 : n ≤ 64) (w : World) (hb : Below w0.heap.size w0 w) :
    Calls Tryz.prog 9 #[.int .i64 n] w fun e w' => ∃ h F, e = .returned (.pointer (some ⟨h, 0, none⟩)) ∧ Hb w0 w' h n 0 HubS.new (.pointer none) [] F ∧ Upd [] F w w' := by
  have g1 : ¬ (n : Int) < 1 := by omega
  have g2 : ¬ (64 : Int) < n := by omega
  have HN := Lib.hid hnew
  have HK := Lib.hid knew
  have HB := Lib.hid hb
  clear hb
  go_enter Tryz.func9, Tryz.ntmps9
  go_wp2_with fail
  refine (HN.out w).mono ?_
  rintro e w1 ⟨t, Ft, rfl, hr, hu⟩
  have HR1 := Lib.hid hr
  have HU1 := Lib.hid hu
  clear hr hu
  go_wp2_with fail
  refine (HK.out w1).mono ?_
  rintro e w2 ⟨g, KF, rfl, hr, hu⟩
  have HR2 := Lib.hid hr
  have HU2 := Lib.hid hu
  clear hr hu
  go_wp2_with fail
  go_ret
  have hl1 := HR1.out.lt
  have hl2 := HR2.out.lt
  have hs2 := HU2.out.1.size
  have hm3 := low_alloc w2 (.cells #[.pointer (some ⟨t, 0, none⟩), .pointer (some ⟨g, 0, none⟩), .int .i64 n] 66)
  have hk1 : ∀ j ∈ Ft, w.heap.size ≤ j := fun j hj => (HU1.out.2 j hj).resolve_left (by simp)
  have hk2 : ∀ j ∈ KF, w1.heap.size ≤ j := fun j hj => (HU2.out.2 j hj).resolve_left (by simp)
  have hs1 := HU1.out.1.size
  have hs0 := HB.out.size
  refine ⟨_, footH w2.heap.size Ft KF [], rfl, ⟨⟨t, g, 1, Ft, KF, [], ⟨heap_alloc_new w2 _, (HR1.out.mod HU2.out.1 (by simp)).below hm3, HR2.out.below hm3, .inl ⟨rfl, rfl⟩, fun hj => ?_, fun hj => ?_, by simp, fun j hj hj' => ?_, by simp, by simp⟩, rfl⟩, by simp [HubS.new], by simp, by simp [HubS.new], by simp [HubS.new], ?_, fun j hj => ?_, ?_⟩, ?_, fun j hj => ?_⟩
  · have := hl1 _ hj; omega
  · have := hl2 _ hj; omega
  · have := hl1 j hj
    have := hk2 j hj'
    omega
  · exact List.Pairwise.nil
  · rcases mem_footH.1 hj with rfl | hj | hj | hj
    · omega
    · have := hk1 j hj; omega
    · have := hk2 j hj; omega
    · cases hj
  · exact bnext ((lie_below ((lie_below HB.out (Nat.le_refl _) (by simp) HU1.out).1) (Nat.le_refl _) (by simp) HU2.out).1) (Nat.le_refl _) hm3
  · exact ((HU1.out.1.trans HU2.out.1 (by simp)).next hm3).mono (by simp)
  · rcases mem_footH.1 hj with rfl | hj | hj | hj
    · right; omega
    · exact .inr (hk1 j hj)
    · right; have := hk2 j hj; omega
    · cases hj
theorem Hb.withLog {w0 w w' : World} {h n k : Nat} {s : HubS} {lv : Value} {ns ns' : List NoteK} {F G : List Nat} (p : Hb w0 w h n k s (.pointer none) ns F) (hl : LogAt w' lv ns' G) (hu : Upd [] G w w') (hn : ns'.length ≤ k) : ∃ F', Hb w0 w' h n k s lv ns' F' ∧ Upd F F' w w' := by
  obtain ⟨t, kg, N, Ft, KF, G0, P, rfl⟩ := p.p
  have hG0 : G0 = [] := by
    rcases P.lg with ⟨-, h⟩ | ⟨lg, v, h, -⟩
    · exact h
    · cases h
  subst hG0
  have hfr : ∀ j, j < w.heap.size → j ∉ G := fun j hj hm => by
    rcases hu.2 j hm with h | h
    · cases h
    · omega
  have P1 := P.mod hu.1 (by simp)
  have hlt := P.lt
  refine ⟨footH h Ft KF G, ⟨⟨t, kg, N, Ft, KF, G, ⟨P1.top, P1.tr, P1.kp, hl, P.hT, P.hK, hfr h (hlt h (mem_footH.2 (.inl rfl))), P.tK, fun j hj => hfr j (P.tr.lt j hj), fun j hj => hfr j (P.kp.lt j hj)⟩, rfl⟩, p.kl, hn, p.ok, p.cl, p.up, fun j hj => ?_, (lie_below p.bel (Nat.le_refl _) (by simp) hu).1⟩, hu.1.mono (by simp), fun j hj => ?_⟩
  · rcases mem_footH.1 hj with rfl | hj | hj | hj
    · exact p.fF _ (mem_footH.2 (.inl rfl))
    · exact p.fF j (mem_footH.2 (.inr (.inl hj)))
    · exact p.fF j (mem_footH.2 (.inr (.inr (.inl hj))))
    · have h1 := (hu.2 j hj).resolve_left (by simp)
      have := p.bel.size
      omega
  · rcases mem_footH.1 hj with rfl | hj | hj | hj
    · exact .inl (mem_footH.2 (.inl rfl))
    · exact .inl (mem_footH.2 (.inr (.inl hj)))
    · exact .inl (mem_footH.2 (.inr (.inr (.inl hj))))
    · exact .inr ((hu.2 j hj).resolve_left (by simp))
set_option maxRecDepth 100000 in
theorem hints_any (w0 : World) (h n k : Nat) (s : HubS) (lv : Value) (ns : List NoteK) (F : List Nat) (w : World) (hp : Hb w0 w h n k s lv ns F) (hk : k ≤ 1000) :
    Calls Tryz.prog 13 #[.pointer (some ⟨h, 0, none⟩)] w fun e w' => ∃ v, e = .returned v ∧ w'.ownsRow w.heap.size 47 2 v s.gs.length (hintsV s.gs) ∧ Below w.heap.size w w' := by
  obtain ⟨t, N, Ft, t0, hr, -⟩ := hp.lensT
  have HA := Lib.hid (hall k t N s.gs Ft w hr hk)
  clear hr hp
  go_enter Tryz.func13, Tryz.ntmps13
  go_wp2_with fail
  refine HA.out.mono ?_
  rintro e w1 ⟨v, rfl, hown, hb⟩
  have HO := Lib.hid hown
  have HB := Lib.hid hb
  clear hown hb
  go_wp2_with fail
  go_ret
  exact ⟨v, rfl, HO.out, HB.out⟩
set_option maxRecDepth 100000 in
theorem kept_any (w0 : World) (h n k : Nat) (s : HubS) (lv : Value) (ns : List NoteK) (F : List Nat) (w : World) (hp : Hb w0 w h n k s lv ns F) (hk : k ≤ 1000) :
    Calls Tryz.prog 19 #[.pointer (some ⟨h, 0, none⟩)] w fun e w' => ∃ v, e = .returned v ∧ w'.ownsRow w.heap.size 24 4 v s.kp.length (msgs s.kp) ∧ Below w.heap.size w w' := by
  obtain ⟨g, KF, t1, hr, -⟩ := hp.lensK
  have hl : s.kp.length < 1000000 := by have := hp.kl; omega
  have HA := Lib.hid (kall_any g s.kp KF w hl hr)
  clear hr hp hl
  go_enter Tryz.func19, Tryz.ntmps19
  go_wp2_with fail
  refine HA.out.mono ?_
  rintro e w1 ⟨v, rfl, hown, hb⟩
  have HO := Lib.hid hown
  have HB := Lib.hid hb
  clear hown hb
  go_wp2_with fail
  go_ret
  exact ⟨v, rfl, HO.out, HB.out⟩
end
section
open Go Go.RowKit

def m1 : Msg := ⟨⟨#[97, 47, 98]⟩, ⟨#[49]⟩, 0, true⟩
def m2 : Msg := ⟨⟨#[97, 47, 98]⟩, ⟨#[50]⟩, 0, false⟩
def iAdd (f c : ByteArray) (frm : Int) : Item := ⟨5, 0, 0, c, f, pkZ, Msg.zero, none, 0, [], none, 0, [], none, 0, [], frm, 0⟩
def iRoute (op : Int) (c : ByteArray) (m : Msg) (frm : Int) : Item := ⟨7, op, 0, c, ⟨#[]⟩, pkZ, m, none, 0, [], none, 0, [], none, 0, [], frm, 0⟩
def smallL : List Item := [iAdd ⟨#[97, 47, 43]⟩ ⟨#[120]⟩ 0, iAdd ⟨#[35]⟩ ⟨#[121]⟩ 0, iRoute 0 ⟨#[]⟩ m1 0]
def routedI : Item := iRoute 3 ⟨#[112]⟩ m2 2
def smallG : List Hint := [([35], [121]), ([97, 47, 43], [120])]
def smallS : HubS := ⟨smallG, setB m1 []⟩
theorem fnv_one (b : UInt8) : fnv [b] = fnvS 14695981039346656037 b := by
  have := fnv_snoc [] b
  rw [List.nil_append, fnv_nil] at this
  exact this
theorem home_x : homeN 4 [120] = 3 := by
  unfold homeN
  rw [fnv_one]
  decide
theorem home_y : homeN 4 [121] = 0 := by
  unfold homeN
  rw [fnv_one]
  decide
theorem small_add1 (s : HubS) : (oneM 4 (iAdd ⟨#[97, 47, 43]⟩ ⟨#[120]⟩ 0) s).2 = ⟨addG s.gs [97, 47, 43] [120], s.kp⟩ := rfl
theorem small_add2 (s : HubS) : (oneM 4 (iAdd ⟨#[35]⟩ ⟨#[121]⟩ 0) s).2 = ⟨addG s.gs [35] [121], s.kp⟩ := rfl
theorem small_g : addG (addG [] [97, 47, 43] [120]) [35] [121] = smallG := by decide
theorem small_s : (doH 4 smallL HubS.new).2 = smallS := by
  show (oneM 4 (iRoute 0 ⟨#[]⟩ m1 0) (oneM 4 (iAdd ⟨#[35]⟩ ⟨#[121]⟩ 0) (oneM 4 (iAdd ⟨#[97, 47, 43]⟩ ⟨#[120]⟩ 0) HubS.new).2).2).2 = smallS
  rw [small_add1, small_add2]
  show (⟨addG (addG [] [97, 47, 43] [120]) [35] [121], routeK (iRoute 0 ⟨#[]⟩ m1 0) []⟩ : HubS) = smallS
  rw [small_g]
  rfl
theorem small_told : toldG smallG [97, 47, 98] = [[120], [121]] := by decide
theorem small_send (x : Item) : sendM 4 x [[120], [121]] 64 = [toM 4 x [[120], [121]] 0, toM 4 x [[120], [121]] 3] := by
  rw [sendM_more (by decide) x _ (show 4 ≤ 64 by decide)]
  have h0 : at1 4 [[120], [121]] 0 = [[121]] := by simp [at1, home_x, home_y]
  have h1 : at1 4 [[120], [121]] 1 = [] := by simp [at1, home_x, home_y]
  have h2 : at1 4 [[120], [121]] 2 = [] := by simp [at1, home_x, home_y]
  have h3 : at1 4 [[120], [121]] 3 = [[120]] := by simp [at1, home_x, home_y]
  rw [sendM_succ, sendM_succ, sendM_succ, sendM_succ, h0, h1, h2, h3]
  simp [sendM]
theorem routed_mails : (doH 4 [routedI] smallS).1 = [toM 4 routedI [[120], [121]] 0, toM 4 routedI [[120], [121]] 3, backM routedI 10 [] 2] := by
  show routeM 4 routedI smallS ++ [] = _
  rw [List.append_nil]
  unfold routeM
  rw [show toldG smallS.gs routedI.msg.k = [[120], [121]] from small_told, small_send]
  rfl
theorem routed_state : (doH 4 [routedI] smallS).2 = smallS := rfl
theorem small_ok : ∀ x ∈ smallL, SmallI x := by
  intro x hx
  simp only [smallL, List.mem_cons, List.not_mem_nil, or_false] at hx
  rcases hx with rfl | rfl | rfl <;> exact ⟨by decide, by decide, by decide, by decide, by decide, by decide⟩
theorem routed_ok : SmallI routedI := ⟨by decide, by decide, by decide, by decide, by decide, by decide⟩
end
section
open Go Go.RowKit

def Sm19 (x : Item) : Prop := x.client.size ≤ 200 ∧ x.filter.size ≤ 200 ∧ x.msg.t.size ≤ 200 ∧ x.msg.p.size ≤ 200
def SmL (l : List Item) : Prop := l.length ≤ 60 ∧ ∀ x ∈ l, Sm19 x
set_option maxRecDepth 100000 in
set_option maxHeartbeats 4000000 in
theorem great19 (a : Option Addr) (c : Nat) (l : List Item) (w : World) (ha : Row w a (itemsV l)) (hl : l.length ≤ maxLen) :
    Calls Tryz.prog 10 #[.slice a l.length c] w fun e w' => (e = .returned (.bool true) ∨ (e = .returned (.bool false) ∧ Hid (SmL l))) ∧ w = w' := by
  have HA := Lib.hid ha
  have hl2 : (l.length : Int) ≤ 9223372036854775807 := by unfold maxLen at hl; omega
  clear ha hl
  go_enter Tryz.func10, Tryz.ntmps10
  go_wp2_with fail
  go_loopw [3] (fun i wr => ∃ k : Nat, i = .int .i64 k ∧ k ≤ l.length ∧ w = wr ∧ Hid (∀ x ∈ l.take k, Sm19 x)) (fun i _ => (l.length - intOf i).toNat)
  case atStart => exact ⟨0, rfl, by omega, rfl, Lib.hid (by simp)⟩
  case round =>
    obtain ⟨k, rfl, hk, rfl, HS⟩ := hrel
    by_cases hlt : k < l.length
    · have hk0 : (0 : Int) ≤ k := by omega
      have hkl : (k : Int) < l.length := by omega
      obtain ⟨b, o, rfl, hrg⟩ := row_mid (mk := Item.cells) (m := 38) item_width HA.out hlt (by decide)
      obtain ⟨-, -, c3, c4, c29, c30, -⟩ := item_at hrg
      have HNX : Hid (Sm19 l[k] → ∀ n ∈ l.take (k + 1), Sm19 n) := Lib.hid (fun h n hn => by
        rw [List.take_succ_eq_append_getElem hlt] at hn
        rcases List.mem_append.1 hn with hn | hn
        · exact HS.out n hn
        · rw [List.mem_singleton.1 hn]; exact h)
      generalize l[k] = x at *
      have HSM : Hid (¬ (200 : Int) < x.client.size → ¬ (200 : Int) < x.filter.size → ¬ (200 : Int) < x.msg.t.size → ¬ (200 : Int) < x.msg.p.size → Sm19 x) := Lib.hid (fun h1 h2 h3 h4 => ⟨by omega, by omega, by omega, by omega⟩)
      generalize x.client = s1 at *
      generalize x.filter = s2 at *
      generalize x.msg.t = s3 at *
      generalize x.msg.p = s4 at *
      clear hrg HS
      by_cases g1 : (200 : Int) < s1.size
      · go_wp2_with fail
        go_ret
        exact ⟨.inl rfl, rfl⟩
      by_cases g2 : (200 : Int) < s2.size
      · go_wp2_with fail
        go_ret
        exact ⟨.inl rfl, rfl⟩
      by_cases g3 : (200 : Int) < s3.size
      · go_wp2_with fail
        go_ret
        exact ⟨.inl rfl, rfl⟩
      by_cases g4 : (200 : Int) < s4.size
      · go_wp2_with fail
        go_ret
        exact ⟨.inl rfl, rfl⟩
      have HX := Lib.hid (HNX.out (HSM.out g1 g2 g3 g4))
      go_wp2_with fail
      go_roundw
      case rel => exact ⟨k + 1, by go_num, by omega, by first | rfl | trivial, HX⟩
      case measure => simp [intOf]; omega
    · have hkl : ¬ (k : Int) < l.length := by omega
      obtain rfl : k = l.length := by omega
      rw [List.take_length] at HS
      by_cases g : (60 : Int) < l.length
      · go_wp2_with fail
        go_ret
        exact ⟨.inl (by simp), rfl⟩
      · have HX : Hid (SmL l) := Lib.hid ⟨by omega, HS.out⟩
        go_wp2_with fail
        go_ret
        exact ⟨.inr (by first | exact ⟨rfl, HX⟩ | rfl), rfl⟩
end
end Go.Proofs.YthfdcphecggjeaaGreatDoor
