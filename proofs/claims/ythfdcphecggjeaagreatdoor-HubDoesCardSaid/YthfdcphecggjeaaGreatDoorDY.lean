/- The document's hub: one's regions, each a law of its own. (Printed by gen_done.py.) The document's hub: one's loops. (Printed by gen_done2.py.) The document's hub: one, an item that adds. -/
import Derived.Test.YthfdcphecggjeaaGreatDoorDN
import Derived.Test.YthfdcphecggjeaaGreatDoorQY
import Derived.Test.YthfdcphecggjeaaGreatDoorDX
import Derived.Deep.CutBlock
namespace Go.Proofs.YthfdcphecggjeaaGreatDoor
section
open Go Go.RowKit

noncomputable def oneReg (k : Nat) : Code := (Tryz.f54.body.bind (regionOf k)).getD .skip
set_option maxRecDepth 100000 in
set_option maxHeartbeats 4000000 in
theorem one_r4 (w0 : World) (h n k : Nat) (s : HubS) (lv : Nat) (ns : List NoteK) (F : List Nat) (x : Item) (xb : Nat) (w : World) (hp : Db w0 w h n k s lv ns F) (hx : SmallI x) (hk : k ≤ 399) (hX : w.heap[xb]? = some (.cells x.cells.toArray 36 (0, 0))) (hxF : xb ∉ F)
    {c1 c2 c3 c4 c6 c7 c8 c9 c10 c11 c12 c13 c14 c15 c16 c17 c18 c19 c20 c21 c22 c23 c24 c25 c26 c27 c28 c29 c30 c31 c32 c33 c34 c35 c36 c37 c38 c39 c40 c41 c42 c43 c44 c45 c46 c47 c48 c49 c50 c51 c52 c53 c54 c55 c56 c57 c58 c59 c60 c61 c62 c63 c64 c65 c66 c67 c68 c69 c70 c71 c72 c73 c74 c75 c76 c77 c78 c79 c80 c81 c82 c83 c84 c85 c86 c87 c88 c89 c90 c91 c92 c93 c94 c95 c96 c97 c98 c99 c100 c101 c102 c103 c104 c105 c106 c107 c108 c109 c110 c111 c112 c113 c114 c115 c116 c117 c118 c119 c120 c121 c122 c123 c124 c125 c126 c127 c128 c129 c130 c131 c132 c133 c134 c135 c136 c137 c138 c139 c140 c141 c142 c143 c144 c145 c146 c147 c148 c149 c150 c151 c152 c153 c154 : Value} {Q : Exit → Act → World → Prop} (hQp : QuietP Q)
    (hQ : ∀ ⦃d22 d23 d24 d25 d26 d27 d28 d29 d30 : Value⦄ (w' : World) (F' : List Nat), Db w0 w' h n (k + 1) ⟨addG s.gs x.filter.data.toList x.client.data.toList, s.kp⟩ lv ns F' → Upd F F' w w' → Q .normal ⟨#[.pointer (some ⟨h, 0, none⟩), c1, c2, c3, c4, .pointer (some ⟨xb, 0, none⟩), c6, c7, c8, c9, c10, c11, c12, c13, c14, c15, c16, c17, c18, c19, c20, c21, d22, d23, d24, d25, d26, d27, d28, d29, d30, c31, c32, c33, c34, c35, c36, c37, c38, c39, c40, c41, c42, c43, c44, c45, c46, c47, c48, c49, c50, c51, c52, c53, c54, c55, c56, c57, c58, c59, c60, c61, c62, c63, c64, c65, c66, c67, c68, c69, c70, c71, c72, c73, c74, c75, c76, c77, c78, c79, c80, c81, c82, c83, c84, c85, c86, c87, c88, c89, c90, c91, c92, c93, c94, c95, c96, c97, c98, c99, c100, c101, c102, c103, c104, c105, c106, c107, c108, c109, c110, c111, c112, c113, c114, c115, c116, c117, c118, c119, c120, c121, c122, c123, c124, c125, c126, c127, c128, c129, c130, c131, c132, c133, c134, c135, c136, c137, c138, c139, c140, c141, c142, c143, c144, c145, c146, c147, c148, c149, c150, c151, c152, c153, c154], []⟩ w') :
    Code.wp Tryz.prog (oneReg 4) Q ⟨#[.pointer (some ⟨h, 0, none⟩), c1, c2, c3, c4, .pointer (some ⟨xb, 0, none⟩), c6, c7, c8, c9, c10, c11, c12, c13, c14, c15, c16, c17, c18, c19, c20, c21, c22, c23, c24, c25, c26, c27, c28, c29, c30, c31, c32, c33, c34, c35, c36, c37, c38, c39, c40, c41, c42, c43, c44, c45, c46, c47, c48, c49, c50, c51, c52, c53, c54, c55, c56, c57, c58, c59, c60, c61, c62, c63, c64, c65, c66, c67, c68, c69, c70, c71, c72, c73, c74, c75, c76, c77, c78, c79, c80, c81, c82, c83, c84, c85, c86, c87, c88, c89, c90, c91, c92, c93, c94, c95, c96, c97, c98, c99, c100, c101, c102, c103, c104, c105, c106, c107, c108, c109, c110, c111, c112, c113, c114, c115, c116, c117, c118, c119, c120, c121, c122, c123, c124, c125, c126, c127, c128, c129, c130, c131, c132, c133, c134, c135, c136, c137, c138, c139, c140, c141, c142, c143, c144, c145, c146, c147, c148, c149, c150, c151, c152, c153, c154], []⟩ w := by
  dsimp only at hQ ⊢
  conv => arg 2; whnf
  obtain ⟨t, N, Ft, t0, hr, hup⟩ := hp.lensT
  obtain ⟨-, -, x3, x4, -⟩ := item_cells hX
  have HUP := Lib.hid hup
  have HCL := Lib.hid hp.cl
  have HXF : Hid (∀ X F', Upd F F' w.drew X → X.cell? ⟨xb, 4, none⟩ = some (.string x.filter) ∧ X.cell? ⟨xb, 3, none⟩ = some (.string x.client)) := Lib.hid (fun X F' hu => by
    obtain ⟨-, -, a, b, -⟩ := item_cells ((hu.1.block xb (Array.getElem?_eq_some_iff.1 hX).1 hxF).trans hX)
    exact ⟨b, a⟩)
  have HC := Lib.hid (dadd_h k t N x.filter x.client s.gs Ft w.drew (hr.below (Below.refl _ _).drew) hx.f (by omega))
  have HXC := Lib.hid hx.c
  have HQ := Lib.hid hQ
  clear hp hx hX hxF hup hr hQ
  refine wp_region_held_drew (S := fun X => X.cell? ⟨h, 0, none⟩ = some (.pointer (some ⟨t, 0, none⟩)) ∧ X.cell? ⟨xb, 4, none⟩ = some (.string x.filter) ∧ X.cell? ⟨xb, 3, none⟩ = some (.string x.client)) (by kernel_rfl) ⟨t0, x4, x3⟩ (fun hHeld => ?_)
  refine wpAnyH_take (i := 0) (v := ?_) rfl (by kernel_rfl) (by kernel_rfl) (by kernel_rfl) (fun _ _ _ h => hQp _ _ _ _ h rfl) (Or.inl ⟨rfl, ?_⟩) hHeld ?_
  rotate_left
  · intro w0 hS0
    try dsimp only at hS0
    go_simp
    try with_reducible rfl
  simp only [List.getElem_toArray, List.getElem_cons_zero, Act.put, List.setIfInBounds_toArray, List.set_cons_zero, List.set_cons_succ]
  refine wpAnyH_take (i := 1) (v := ?_) rfl (by kernel_rfl) (by kernel_rfl) (by kernel_rfl) (fun _ _ _ h => hQp _ _ _ _ h rfl) (Or.inl ⟨rfl, ?_⟩) hHeld ?_
  rotate_left
  · intro w0 hS0
    try dsimp only at hS0
    go_simp
    try with_reducible rfl
  simp only [List.getElem_toArray, List.getElem_cons_zero, List.getElem_cons_succ, Act.put, List.setIfInBounds_toArray, List.set_cons_zero, List.set_cons_succ]
  refine wpAnyH_take (i := 2) (v := ?_) rfl (by kernel_rfl) (by kernel_rfl) (by kernel_rfl) (fun _ _ _ h => hQp _ _ _ _ h rfl) (Or.inl ⟨rfl, ?_⟩) hHeld ?_
  rotate_left
  · intro w0 hS0
    try dsimp only at hS0
    go_simp
    try with_reducible rfl
  simp only [List.getElem_toArray, List.getElem_cons_zero, List.getElem_cons_succ, Act.put, List.setIfInBounds_toArray, List.set_cons_zero, List.set_cons_succ]
  refine wpAnyH_take (i := 3) (v := ?_) rfl (by kernel_rfl) (by kernel_rfl) (by kernel_rfl) (fun _ _ _ h => hQp _ _ _ _ h rfl) (Or.inl ⟨rfl, ?_⟩) hHeld ?_
  rotate_left
  · intro w0 hS0
    try dsimp only at hS0
    go_simp
    try with_reducible rfl
  simp only [List.getElem_toArray, List.getElem_cons_zero, List.getElem_cons_succ, Act.put, List.setIfInBounds_toArray, List.set_cons_zero, List.set_cons_succ]
  refine wpAnyH_take (i := 4) (v := ?_) rfl (by kernel_rfl) (by kernel_rfl) (by kernel_rfl) (fun _ _ _ h => hQp _ _ _ _ h rfl) (Or.inl ⟨rfl, ?_⟩) hHeld ?_
  rotate_left
  · intro w0 hS0
    try dsimp only at hS0
    go_simp
    try with_reducible rfl
  simp only [List.getElem_toArray, List.getElem_cons_zero, List.getElem_cons_succ, Act.put, List.setIfInBounds_toArray, List.set_cons_zero, List.set_cons_succ]
  refine wpAnyH_take (i := 5) (v := ?_) rfl (by kernel_rfl) (by kernel_rfl) (by kernel_rfl) (fun _ _ _ h => hQp _ _ _ _ h rfl) (Or.inl ⟨rfl, ?_⟩) hHeld ?_
  rotate_left
  · intro w0 hS0
    try dsimp only at hS0
    go_simp
    try with_reducible rfl
  simp only [List.getElem_toArray, List.getElem_cons_zero, List.getElem_cons_succ, Act.put, List.setIfInBounds_toArray, List.set_cons_zero, List.set_cons_succ]
  refine wpAnyH_take (i := 6) (v := ?_) rfl (by kernel_rfl) (by kernel_rfl) (by kernel_rfl) (fun _ _ _ h => hQp _ _ _ _ h rfl) (Or.inl ⟨rfl, ?_⟩) hHeld ?_
  rotate_left
  · intro w0 hS0
    try dsimp only at hS0
    go_simp
    try with_reducible rfl
  simp only [List.getElem_toArray, List.getElem_cons_zero, List.getElem_cons_succ, Act.put, List.setIfInBounds_toArray, List.set_cons_zero, List.set_cons_succ]
  refine wpAnyH_take (i := 7) (v := ?_) rfl (by kernel_rfl) (by kernel_rfl) (by kernel_rfl) (fun _ _ _ h => hQp _ _ _ _ h rfl) (Or.inl ⟨rfl, ?_⟩) hHeld ?_
  rotate_left
  · intro w0 hS0
    try dsimp only at hS0
    go_simp
    try with_reducible rfl
  simp only [List.getElem_toArray, List.getElem_cons_zero, List.getElem_cons_succ, Act.put, List.setIfInBounds_toArray, List.set_cons_zero, List.set_cons_succ]
  refine wpAnyH_ready (rs := [8]) (by kernel_rfl) (by simp) ?_
  refine AllReadyH.cons rfl (fun K hK => ?_) AllReadyH.nil
  rw [if_pos (by rfl)]
  go_simp
  go_at_call 36
  refine HC.out.mono ?_
  rintro e w' ⟨rfl, N', Ft', hr', hu'⟩
  obtain ⟨c0, F', hb', hu⟩ := HUP.out w.drew w' (Below.refl _ _).drew _ _ N' Ft' hr' hu' (Nat.le_succ k) (addG_cl HCL.out (by simpa using HXC.out))
  refine hK.out _ _ ⟨c0, HXF.out w' F' hu⟩ (fun _ => ?_)
  refine wpAnyH_done (by kernel_rfl) ?_ _
  exact HQ.out _ _ hb' ⟨(Mod.of_below (Below.refl _ _).drew _).trans hu.1 (fun k hk => .inl hk), hu.2⟩
set_option maxRecDepth 100000 in
set_option maxHeartbeats 4000000 in
theorem one_r9 (w0 : World) (h n k : Nat) (s : HubS) (lv : Nat) (ns : List NoteK) (F : List Nat) (x : Item) (xb : Nat) (w : World) (hp : Db w0 w h n k s lv ns F) (hx : SmallI x) (hk : k ≤ 399) (hX : w.heap[xb]? = some (.cells x.cells.toArray 36 (0, 0))) (hxF : xb ∉ F)
    {c1 c2 c3 c4 c6 c7 c8 c9 c10 c11 c12 c13 c14 c15 c16 c17 c18 c19 c20 c21 c22 c23 c24 c25 c26 c27 c28 c29 c30 c31 c32 c33 c34 c35 c36 c37 c38 c39 c40 c41 c42 c43 c44 c45 c46 c47 c48 c49 c50 c51 c52 c53 c54 c55 c56 c57 c58 c59 c60 c61 c62 c63 c64 c65 c66 c67 c68 c69 c70 c71 c72 c73 c74 c75 c76 c77 c78 c79 c80 c81 c82 c83 c84 c85 c86 c87 c88 c89 c90 c91 c92 c93 c94 c95 c96 c97 c98 c99 c100 c101 c102 c103 c104 c105 c106 c107 c108 c109 c110 c111 c112 c113 c114 c115 c116 c117 c118 c119 c120 c121 c122 c123 c124 c125 c126 c127 c128 c129 c130 c131 c132 c133 c134 c135 c136 c137 c138 c139 c140 c141 c142 c143 c144 c145 c146 c147 c148 c149 c150 c151 c152 c153 c154 : Value} {Q : Exit → Act → World → Prop} (hQp : QuietP Q)
    (hQ : ∀ ⦃d47 d48 d49 d50 d51 d52 d53 d54 d55 : Value⦄ (w' : World) (F' : List Nat), Db w0 w' h n k ⟨s.gs.erase (x.filter.data.toList, x.client.data.toList), s.kp⟩ lv ns F' → Upd F F' w w' → Q .normal ⟨#[.pointer (some ⟨h, 0, none⟩), c1, c2, c3, c4, .pointer (some ⟨xb, 0, none⟩), c6, c7, c8, c9, c10, c11, c12, c13, c14, c15, c16, c17, c18, c19, c20, c21, c22, c23, c24, c25, c26, c27, c28, c29, c30, c31, c32, c33, c34, c35, c36, c37, c38, c39, c40, c41, c42, c43, c44, c45, c46, d47, d48, d49, d50, d51, d52, d53, d54, d55, c56, c57, c58, c59, c60, c61, c62, c63, c64, c65, c66, c67, c68, c69, c70, c71, c72, c73, c74, c75, c76, c77, c78, c79, c80, c81, c82, c83, c84, c85, c86, c87, c88, c89, c90, c91, c92, c93, c94, c95, c96, c97, c98, c99, c100, c101, c102, c103, c104, c105, c106, c107, c108, c109, c110, c111, c112, c113, c114, c115, c116, c117, c118, c119, c120, c121, c122, c123, c124, c125, c126, c127, c128, c129, c130, c131, c132, c133, c134, c135, c136, c137, c138, c139, c140, c141, c142, c143, c144, c145, c146, c147, c148, c149, c150, c151, c152, c153, c154], []⟩ w') :
    Code.wp Tryz.prog (oneReg 9) Q ⟨#[.pointer (some ⟨h, 0, none⟩), c1, c2, c3, c4, .pointer (some ⟨xb, 0, none⟩), c6, c7, c8, c9, c10, c11, c12, c13, c14, c15, c16, c17, c18, c19, c20, c21, c22, c23, c24, c25, c26, c27, c28, c29, c30, c31, c32, c33, c34, c35, c36, c37, c38, c39, c40, c41, c42, c43, c44, c45, c46, c47, c48, c49, c50, c51, c52, c53, c54, c55, c56, c57, c58, c59, c60, c61, c62, c63, c64, c65, c66, c67, c68, c69, c70, c71, c72, c73, c74, c75, c76, c77, c78, c79, c80, c81, c82, c83, c84, c85, c86, c87, c88, c89, c90, c91, c92, c93, c94, c95, c96, c97, c98, c99, c100, c101, c102, c103, c104, c105, c106, c107, c108, c109, c110, c111, c112, c113, c114, c115, c116, c117, c118, c119, c120, c121, c122, c123, c124, c125, c126, c127, c128, c129, c130, c131, c132, c133, c134, c135, c136, c137, c138, c139, c140, c141, c142, c143, c144, c145, c146, c147, c148, c149, c150, c151, c152, c153, c154], []⟩ w := by
  dsimp only at hQ ⊢
  conv => arg 2; whnf
  obtain ⟨t, N, Ft, t0, hr, hup⟩ := hp.lensT
  obtain ⟨-, -, x3, x4, -⟩ := item_cells hX
  have HUP := Lib.hid hup
  have HCL := Lib.hid hp.cl
  have HXF : Hid (∀ X F', Upd F F' w.drew X → X.cell? ⟨xb, 4, none⟩ = some (.string x.filter) ∧ X.cell? ⟨xb, 3, none⟩ = some (.string x.client)) := Lib.hid (fun X F' hu => by
    obtain ⟨-, -, a, b, -⟩ := item_cells ((hu.1.block xb (Array.getElem?_eq_some_iff.1 hX).1 hxF).trans hX)
    exact ⟨b, a⟩)
  have HC := Lib.hid (drem_h k t N x.filter x.client s.gs Ft w.drew (hr.below (Below.refl _ _).drew) (by omega))
  have HXC := Lib.hid hx.c
  have HQ := Lib.hid hQ
  clear hp hx hX hxF hup hr hQ
  refine wp_region_held_drew (S := fun X => X.cell? ⟨h, 0, none⟩ = some (.pointer (some ⟨t, 0, none⟩)) ∧ X.cell? ⟨xb, 4, none⟩ = some (.string x.filter) ∧ X.cell? ⟨xb, 3, none⟩ = some (.string x.client)) (by kernel_rfl) ⟨t0, x4, x3⟩ (fun hHeld => ?_)
  refine wpAnyH_take (i := 0) (v := ?_) rfl (by kernel_rfl) (by kernel_rfl) (by kernel_rfl) (fun _ _ _ h => hQp _ _ _ _ h rfl) (Or.inl ⟨rfl, ?_⟩) hHeld ?_
  rotate_left
  · intro w0 hS0
    try dsimp only at hS0
    go_simp
    try with_reducible rfl
  simp only [List.getElem_toArray, List.getElem_cons_zero, Act.put, List.setIfInBounds_toArray, List.set_cons_zero, List.set_cons_succ]
  refine wpAnyH_take (i := 1) (v := ?_) rfl (by kernel_rfl) (by kernel_rfl) (by kernel_rfl) (fun _ _ _ h => hQp _ _ _ _ h rfl) (Or.inl ⟨rfl, ?_⟩) hHeld ?_
  rotate_left
  · intro w0 hS0
    try dsimp only at hS0
    go_simp
    try with_reducible rfl
  simp only [List.getElem_toArray, List.getElem_cons_zero, List.getElem_cons_succ, Act.put, List.setIfInBounds_toArray, List.set_cons_zero, List.set_cons_succ]
  refine wpAnyH_take (i := 2) (v := ?_) rfl (by kernel_rfl) (by kernel_rfl) (by kernel_rfl) (fun _ _ _ h => hQp _ _ _ _ h rfl) (Or.inl ⟨rfl, ?_⟩) hHeld ?_
  rotate_left
  · intro w0 hS0
    try dsimp only at hS0
    go_simp
    try with_reducible rfl
  simp only [List.getElem_toArray, List.getElem_cons_zero, List.getElem_cons_succ, Act.put, List.setIfInBounds_toArray, List.set_cons_zero, List.set_cons_succ]
  refine wpAnyH_take (i := 3) (v := ?_) rfl (by kernel_rfl) (by kernel_rfl) (by kernel_rfl) (fun _ _ _ h => hQp _ _ _ _ h rfl) (Or.inl ⟨rfl, ?_⟩) hHeld ?_
  rotate_left
  · intro w0 hS0
    try dsimp only at hS0
    go_simp
    try with_reducible rfl
  simp only [List.getElem_toArray, List.getElem_cons_zero, List.getElem_cons_succ, Act.put, List.setIfInBounds_toArray, List.set_cons_zero, List.set_cons_succ]
  refine wpAnyH_take (i := 4) (v := ?_) rfl (by kernel_rfl) (by kernel_rfl) (by kernel_rfl) (fun _ _ _ h => hQp _ _ _ _ h rfl) (Or.inl ⟨rfl, ?_⟩) hHeld ?_
  rotate_left
  · intro w0 hS0
    try dsimp only at hS0
    go_simp
    try with_reducible rfl
  simp only [List.getElem_toArray, List.getElem_cons_zero, List.getElem_cons_succ, Act.put, List.setIfInBounds_toArray, List.set_cons_zero, List.set_cons_succ]
  refine wpAnyH_take (i := 5) (v := ?_) rfl (by kernel_rfl) (by kernel_rfl) (by kernel_rfl) (fun _ _ _ h => hQp _ _ _ _ h rfl) (Or.inl ⟨rfl, ?_⟩) hHeld ?_
  rotate_left
  · intro w0 hS0
    try dsimp only at hS0
    go_simp
    try with_reducible rfl
  simp only [List.getElem_toArray, List.getElem_cons_zero, List.getElem_cons_succ, Act.put, List.setIfInBounds_toArray, List.set_cons_zero, List.set_cons_succ]
  refine wpAnyH_take (i := 6) (v := ?_) rfl (by kernel_rfl) (by kernel_rfl) (by kernel_rfl) (fun _ _ _ h => hQp _ _ _ _ h rfl) (Or.inl ⟨rfl, ?_⟩) hHeld ?_
  rotate_left
  · intro w0 hS0
    try dsimp only at hS0
    go_simp
    try with_reducible rfl
  simp only [List.getElem_toArray, List.getElem_cons_zero, List.getElem_cons_succ, Act.put, List.setIfInBounds_toArray, List.set_cons_zero, List.set_cons_succ]
  refine wpAnyH_take (i := 7) (v := ?_) rfl (by kernel_rfl) (by kernel_rfl) (by kernel_rfl) (fun _ _ _ h => hQp _ _ _ _ h rfl) (Or.inl ⟨rfl, ?_⟩) hHeld ?_
  rotate_left
  · intro w0 hS0
    try dsimp only at hS0
    go_simp
    try with_reducible rfl
  simp only [List.getElem_toArray, List.getElem_cons_zero, List.getElem_cons_succ, Act.put, List.setIfInBounds_toArray, List.set_cons_zero, List.set_cons_succ]
  refine wpAnyH_ready (rs := [8]) (by kernel_rfl) (by simp) ?_
  refine AllReadyH.cons rfl (fun K hK => ?_) AllReadyH.nil
  rw [if_pos (by rfl)]
  go_simp
  go_at_call 38
  refine HC.out.mono ?_
  rintro e w' ⟨rfl, N', Ft', hr', hu'⟩
  obtain ⟨c0, F', hb', hu⟩ := HUP.out w.drew w' (Below.refl _ _).drew _ _ N' Ft' hr' hu' (Nat.le_refl k) (fun g hg => HCL.out g (List.mem_of_mem_erase hg))
  refine hK.out _ _ ⟨c0, HXF.out w' F' hu⟩ (fun _ => ?_)
  refine wpAnyH_done (by kernel_rfl) ?_ _
  exact HQ.out _ _ hb' ⟨(Mod.of_below (Below.refl _ _).drew _).trans hu.1 (fun k hk => .inl hk), hu.2⟩
set_option maxRecDepth 100000 in
set_option maxHeartbeats 4000000 in
theorem one_r6 (w0 : World) (h n k : Nat) (s : HubS) (lv : Nat) (ns : List NoteK) (F : List Nat) (x : Item) (xb : Nat) (w : World) (hp : Db w0 w h n k s lv ns F) (hx : SmallI x) (hk : k ≤ 399) (hX : w.heap[xb]? = some (.cells x.cells.toArray 36 (0, 0))) (_hxF : xb ∉ F) (yb : Nat) (hY : w.heap[yb]? = some (.cells (itemOf (backM x 8 [] 0) none 0 none 0).cells.toArray 36 (0, 0))) (hyF : yb ∉ F) (hy0 : w0.heap.size ≤ yb)
    {c1 c2 c3 c4 c6 c8 c9 c10 c11 c12 c13 c14 c15 c16 c17 c18 c19 c20 c21 c22 c23 c24 c25 c26 c27 c28 c29 c30 c31 c32 c33 c34 c35 c36 c37 c38 c39 c40 c41 c42 c43 c44 c45 c46 c47 c48 c49 c50 c51 c52 c53 c54 c55 c56 c57 c58 c59 c60 c61 c62 c63 c64 c65 c66 c67 c68 c69 c70 c71 c72 c73 c74 c75 c76 c77 c78 c79 c80 c81 c82 c83 c84 c85 c86 c87 c88 c89 c90 c91 c92 c93 c94 c95 c96 c97 c98 c99 c100 c101 c102 c103 c104 c105 c106 c107 c108 c109 c110 c111 c112 c113 c114 c115 c116 c117 c118 c119 c120 c121 c122 c123 c124 c125 c126 c127 c128 c129 c130 c131 c132 c133 c134 c135 c136 c137 c138 c139 c140 c141 c142 c143 c144 c145 c146 c147 c148 c149 c150 c151 c152 c153 c154 : Value} {Q : Exit → Act → World → Prop} (hQp : QuietP Q)
    (hQ : ∀ ⦃d32 d33 d34 d35 d36 d37 d38 d39 : Value⦄ (w' : World) (fa : Option Addr) (fc : Nat), Db w0 w' h n k s lv ns F → w'.heap[yb]? = some (.cells (itemOf (backM x 8 (finds x.filter.data.toList s.kp) 0) fa fc none 0).cells.toArray 36 (0, 0)) → (∀ G : List Nat, (∀ j ∈ G, j < w.heap.size) → Beside w' G fa (msgs (finds x.filter.data.toList s.kp))) → Mod [yb] w w' → Q .normal ⟨#[.pointer (some ⟨h, 0, none⟩), c1, c2, c3, c4, .pointer (some ⟨xb, 0, none⟩), c6, .pointer (some ⟨yb, 0, none⟩), c8, c9, c10, c11, c12, c13, c14, c15, c16, c17, c18, c19, c20, c21, c22, c23, c24, c25, c26, c27, c28, c29, c30, c31, d32, d33, d34, d35, d36, d37, d38, d39, c40, c41, c42, c43, c44, c45, c46, c47, c48, c49, c50, c51, c52, c53, c54, c55, c56, c57, c58, c59, c60, c61, c62, c63, c64, c65, c66, c67, c68, c69, c70, c71, c72, c73, c74, c75, c76, c77, c78, c79, c80, c81, c82, c83, c84, c85, c86, c87, c88, c89, c90, c91, c92, c93, c94, c95, c96, c97, c98, c99, c100, c101, c102, c103, c104, c105, c106, c107, c108, c109, c110, c111, c112, c113, c114, c115, c116, c117, c118, c119, c120, c121, c122, c123, c124, c125, c126, c127, c128, c129, c130, c131, c132, c133, c134, c135, c136, c137, c138, c139, c140, c141, c142, c143, c144, c145, c146, c147, c148, c149, c150, c151, c152, c153, c154], []⟩ w') :
    Code.wp Tryz.prog (oneReg 6) Q ⟨#[.pointer (some ⟨h, 0, none⟩), c1, c2, c3, c4, .pointer (some ⟨xb, 0, none⟩), c6, .pointer (some ⟨yb, 0, none⟩), c8, c9, c10, c11, c12, c13, c14, c15, c16, c17, c18, c19, c20, c21, c22, c23, c24, c25, c26, c27, c28, c29, c30, c31, c32, c33, c34, c35, c36, c37, c38, c39, c40, c41, c42, c43, c44, c45, c46, c47, c48, c49, c50, c51, c52, c53, c54, c55, c56, c57, c58, c59, c60, c61, c62, c63, c64, c65, c66, c67, c68, c69, c70, c71, c72, c73, c74, c75, c76, c77, c78, c79, c80, c81, c82, c83, c84, c85, c86, c87, c88, c89, c90, c91, c92, c93, c94, c95, c96, c97, c98, c99, c100, c101, c102, c103, c104, c105, c106, c107, c108, c109, c110, c111, c112, c113, c114, c115, c116, c117, c118, c119, c120, c121, c122, c123, c124, c125, c126, c127, c128, c129, c130, c131, c132, c133, c134, c135, c136, c137, c138, c139, c140, c141, c142, c143, c144, c145, c146, c147, c148, c149, c150, c151, c152, c153, c154], []⟩ w := by
  dsimp only at hQ ⊢
  conv => arg 2; whnf
  obtain ⟨g, KF, c1, hkr, -⟩ := hp.lensK
  obtain ⟨-, -, -, x4, -⟩ := item_cells hX
  have hhl : h < w.heap.size := hp.lt h hp.mem
  have hxl : xb < w.heap.size := (Array.getElem?_eq_some_iff.1 hX).1
  have hyl : yb < w.heap.size := (Array.getElem?_eq_some_iff.1 hY).1
  have HP := Lib.hid hp
  have HF := Lib.hid (rfind_any x.filter g s.kp KF w.drew (by have := hp.kl; omega) (by have := hx.f; omega) (fun m hm => by have := hp.ok m hm; omega) (hkr.below (Below.refl _ _).drew))
  have HSB : Hid (∀ X : World, Below w.heap.size w X → X.cell? ⟨h, 1, none⟩ = some (.pointer (some ⟨g, 0, none⟩)) ∧ X.cell? ⟨xb, 4, none⟩ = some (.string x.filter)) := Lib.hid (fun X hX' => by
    obtain ⟨-, -, -, b, -⟩ := item_cells ((hX'.block xb hxl).trans hX)
    exact ⟨(World.cell?_of_block (w := w) (hX'.block h hhl)).trans c1, b⟩)
  have HY := Lib.hid hY
  have HYF := Lib.hid hyF
  have HQ := Lib.hid hQ
  clear hp hx hX _hxF hkr hQ c1 x4 hY hyF
  refine wp_region_tail (S := fun X => X.cell? ⟨h, 1, none⟩ = some (.pointer (some ⟨g, 0, none⟩)) ∧ X.cell? ⟨xb, 4, none⟩ = some (.string x.filter)) 8 (by kernel_rfl) (HSB.out _ (Below.refl _ _).drew) (fun hHeld => ?_)
  refine wpTail.take (i := 0) (v := ?_) rfl (by kernel_rfl) (by kernel_rfl) (by kernel_rfl) (by kernel_rfl) (by kernel_rfl) (fun _ _ _ h => hQp _ _ _ _ h rfl) (Or.inl ⟨rfl, ?_⟩) hHeld ?_
  rotate_left
  · intro w0 hS0
    try dsimp only at hS0
    go_simp
    try with_reducible rfl
  simp only [List.getElem_toArray, List.getElem_cons_zero, Act.put, List.setIfInBounds_toArray, List.set_cons_zero, List.set_cons_succ]
  refine wpTail.take (i := 1) (v := ?_) rfl (by kernel_rfl) (by kernel_rfl) (by kernel_rfl) (by kernel_rfl) (by kernel_rfl) (fun _ _ _ h => hQp _ _ _ _ h rfl) (Or.inl ⟨rfl, ?_⟩) hHeld ?_
  rotate_left
  · intro w0 hS0
    try dsimp only at hS0
    go_simp
    try with_reducible rfl
  simp only [List.getElem_toArray, List.getElem_cons_zero, List.getElem_cons_succ, Act.put, List.setIfInBounds_toArray, List.set_cons_zero, List.set_cons_succ]
  refine wpTail.take (i := 2) (v := ?_) rfl (by kernel_rfl) (by kernel_rfl) (by kernel_rfl) (by kernel_rfl) (by kernel_rfl) (fun _ _ _ h => hQp _ _ _ _ h rfl) (Or.inl ⟨rfl, ?_⟩) hHeld ?_
  rotate_left
  · intro w0 hS0
    try dsimp only at hS0
    go_simp
    try with_reducible rfl
  simp only [List.getElem_toArray, List.getElem_cons_zero, List.getElem_cons_succ, Act.put, List.setIfInBounds_toArray, List.set_cons_zero, List.set_cons_succ]
  refine wpTail.take (i := 3) (v := ?_) rfl (by kernel_rfl) (by kernel_rfl) (by kernel_rfl) (by kernel_rfl) (by kernel_rfl) (fun _ _ _ h => hQp _ _ _ _ h rfl) (Or.inl ⟨rfl, ?_⟩) hHeld ?_
  rotate_left
  · intro w0 hS0
    try dsimp only at hS0
    go_simp
    try with_reducible rfl
  simp only [List.getElem_toArray, List.getElem_cons_zero, List.getElem_cons_succ, Act.put, List.setIfInBounds_toArray, List.set_cons_zero, List.set_cons_succ]
  refine wpTail.take (i := 4) (v := ?_) rfl (by kernel_rfl) (by kernel_rfl) (by kernel_rfl) (by kernel_rfl) (by kernel_rfl) (fun _ _ _ h => hQp _ _ _ _ h rfl) (Or.inl ⟨rfl, ?_⟩) hHeld ?_
  rotate_left
  · intro w0 hS0
    try dsimp only at hS0
    go_simp
    try with_reducible rfl
  simp only [List.getElem_toArray, List.getElem_cons_zero, List.getElem_cons_succ, Act.put, List.setIfInBounds_toArray, List.set_cons_zero, List.set_cons_succ]
  refine wpTail.take (i := 5) (v := ?_) rfl (by kernel_rfl) (by kernel_rfl) (by kernel_rfl) (by kernel_rfl) (by kernel_rfl) (fun _ _ _ h => hQp _ _ _ _ h rfl) (Or.inl ⟨rfl, ?_⟩) hHeld ?_
  rotate_left
  · intro w0 hS0
    try dsimp only at hS0
    go_simp
    try with_reducible rfl
  simp only [List.getElem_toArray, List.getElem_cons_zero, List.getElem_cons_succ, Act.put, List.setIfInBounds_toArray, List.set_cons_zero, List.set_cons_succ]
  refine wpTail.ready (rs := [6]) (by kernel_rfl) (by simp) ?_
  refine AllTail.cons rfl (fun K hK => ?_) AllTail.nil
  rw [if_pos (by rfl)]
  go_simp
  go_at_call 32
  refine HF.out.mono ?_
  rintro e w1 ⟨fv, rfl, hfo, hf1⟩
  have HB1 : Hid (Below w.heap.size w w1) := Lib.hid ((Below.refl w.heap.size w).drew.trans hf1)
  obtain ⟨fa, fc, rfl, -, -, -⟩ := Beside.own (F := []) hfo (by simp)
  have HFB : Hid (∀ G : List Nat, (∀ j ∈ G, j < w.heap.size) → Beside w1 G fa (msgs (finds x.filter.data.toList s.kp))) := Lib.hid (fun G hG => by
    obtain ⟨a, c, e, -, -, hb⟩ := Beside.own (F := G) hfo hG
    cases e
    exact hb)
  clear hfo hf1
  refine hK.out _ _ (fun _ => HSB.out _ HB1.out) (fun hHeld => ?_)
  replace hHeld := hHeld (by decide)
  have HY1 := Lib.hid ((HB1.out.block yb hyl).trans HY.out)
  have c33 : w1.cell? ⟨yb, 33, none⟩ = some (.slice none 0 0) := cell_of_row w1 yb 33 _ _ _ HY1.out
  have fz33 := frozen_of_row w1 yb 33 _ _ HY1.out
  refine wpTail.take (i := 7) (v := ?_) rfl (by kernel_rfl) (by kernel_rfl) (by kernel_rfl) (by kernel_rfl) (by kernel_rfl) (fun _ _ _ h => hQp _ _ _ _ h rfl) (Or.inl ⟨rfl, ?_⟩) hHeld ?_
  rotate_left
  · intro w0 hS0
    try dsimp only at hS0
    go_simp
    try with_reducible rfl
  simp only [List.getElem_toArray, List.getElem_cons_zero, List.getElem_cons_succ, Act.put, List.setIfInBounds_toArray, List.set_cons_zero, List.set_cons_succ]
  refine wpTail.ready (rs := [8]) (by kernel_rfl) (by simp) ?_
  refine AllTail.cons rfl (fun K hK => ?_) AllTail.nil
  rw [if_pos (by rfl)]
  go_simp
  have h7 := heap_setCell_same w1 yb 33 _ _ (.slice fa (finds x.filter.data.toList s.kp).length fc) HY1.out
  have hm1 : Mod [yb] w (w1.setCell ⟨yb, 33, none⟩ (.slice fa (finds x.filter.data.toList s.kp).length fc)) := (Mod.of_below HB1.out [yb]).setCell (.inl (by simp)) _
  refine hK.out _ _ (fun h => absurd rfl h) (fun _ => ?_)
  refine wpTail.done (by kernel_rfl) ?_ _
  refine HQ.out _ fa fc (HP.out.mod (S' := []) ⟨hm1, by simp⟩ (fun j hj hj' => by rw [List.mem_singleton.1 hj'] at hj; exact HYF.out hj) (fun j hj => by rw [List.mem_singleton.1 hj]; exact hy0)) h7 (fun G hG => ?_) hm1
  have hb := HFB.out (yb :: G) (fun j hj => by
    rcases List.mem_cons.1 hj with rfl | hj
    · exact hyl
    · exact hG j hj)
  exact (hb.upd (F' := yb :: G) ⟨(Mod.of_below (Below.refl _ _) _).setCell (.inl (by simp)) _, fun _ h => .inl h⟩).sub fun j hj => List.mem_cons_of_mem _ hj
set_option maxRecDepth 100000 in
set_option maxHeartbeats 4000000 in
theorem one_r14n (w0 : World) (h n k : Nat) (s : HubS) (lv : Nat) (ns : List NoteK) (F : List Nat) (x : Item) (xb : Nat) (w : World) (_hp : Db w0 w h n k s lv ns F) (_hx : SmallI x) (_hk : k ≤ 399) (hX : w.heap[xb]? = some (.cells x.cells.toArray 36 (0, 0))) (_hxF : xb ∉ F) (hr : x.msg.r = false)
    {c1 c2 c3 c4 c6 c7 c8 c9 c10 c11 c12 c13 c14 c15 c16 c17 c18 c19 c20 c21 c22 c23 c24 c25 c26 c27 c28 c29 c30 c31 c32 c33 c34 c35 c36 c37 c38 c39 c40 c41 c42 c43 c44 c45 c46 c47 c48 c49 c50 c51 c52 c53 c54 c55 c56 c57 c58 c59 c60 c61 c62 c63 c64 c65 c66 c67 c68 c69 c70 c71 c72 c73 c74 c75 c76 c77 c78 c79 c80 c81 c82 c83 c84 c85 c86 c87 c88 c89 c90 c91 c92 c93 c94 c95 c96 c97 c98 c99 c100 c101 c102 c103 c104 c105 c106 c107 c108 c109 c110 c111 c112 c113 c114 c115 c116 c117 c118 c119 c120 c121 c122 c123 c124 c125 c126 c127 c128 c129 c130 c131 c132 c133 c134 c135 c136 c137 c138 c139 c140 c141 c142 c143 c144 c145 c146 c147 c148 c149 c150 c151 c152 c153 c154 : Value} {Q : Exit → Act → World → Prop} (hQp : QuietP Q)
    (hQ : ∀ ⦃d65 d66 d67 d68 d69 d70 d71 d72 d73 d74 d75 : Value⦄ (w' : World) , Below w.heap.size w w' → Q .normal ⟨#[.pointer (some ⟨h, 0, none⟩), c1, c2, c3, c4, .pointer (some ⟨xb, 0, none⟩), c6, c7, c8, c9, c10, c11, c12, c13, c14, c15, c16, c17, c18, c19, c20, c21, c22, c23, c24, c25, c26, c27, c28, c29, c30, c31, c32, c33, c34, c35, c36, c37, c38, c39, c40, c41, c42, c43, c44, c45, c46, c47, c48, c49, c50, c51, c52, c53, c54, c55, c56, c57, c58, c59, c60, c61, c62, c63, c64, d65, d66, d67, d68, d69, d70, d71, d72, d73, d74, d75, .bool false, c77, c78, c79, c80, c81, c82, c83, c84, c85, c86, c87, c88, c89, c90, c91, c92, c93, c94, c95, c96, c97, c98, c99, c100, c101, c102, c103, c104, c105, c106, c107, c108, c109, c110, c111, c112, c113, c114, c115, c116, c117, c118, c119, c120, c121, c122, c123, c124, c125, c126, c127, c128, c129, c130, c131, c132, c133, c134, c135, c136, c137, c138, c139, c140, c141, c142, c143, c144, c145, c146, c147, c148, c149, c150, c151, c152, c153, c154], []⟩ w') :
    Code.wp Tryz.prog (oneReg 14) Q ⟨#[.pointer (some ⟨h, 0, none⟩), c1, c2, c3, c4, .pointer (some ⟨xb, 0, none⟩), c6, c7, c8, c9, c10, c11, c12, c13, c14, c15, c16, c17, c18, c19, c20, c21, c22, c23, c24, c25, c26, c27, c28, c29, c30, c31, c32, c33, c34, c35, c36, c37, c38, c39, c40, c41, c42, c43, c44, c45, c46, c47, c48, c49, c50, c51, c52, c53, c54, c55, c56, c57, c58, c59, c60, c61, c62, c63, c64, c65, c66, c67, c68, c69, c70, c71, c72, c73, c74, c75, c76, c77, c78, c79, c80, c81, c82, c83, c84, c85, c86, c87, c88, c89, c90, c91, c92, c93, c94, c95, c96, c97, c98, c99, c100, c101, c102, c103, c104, c105, c106, c107, c108, c109, c110, c111, c112, c113, c114, c115, c116, c117, c118, c119, c120, c121, c122, c123, c124, c125, c126, c127, c128, c129, c130, c131, c132, c133, c134, c135, c136, c137, c138, c139, c140, c141, c142, c143, c144, c145, c146, c147, c148, c149, c150, c151, c152, c153, c154], []⟩ w := by
  dsimp only at hQ ⊢
  conv => arg 2; whnf
  obtain ⟨-, -, -, -, -, -, -, x32, -⟩ := item_cells hX
  rw [hr] at x32
  have HQ := Lib.hid hQ
  clear _hp _hx hX _hxF hr hQ
  refine wp_region_held_drew (S := fun X => X.cell? ⟨xb, 32, none⟩ = some (.bool false)) (by kernel_rfl) x32 (fun hHeld => ?_)
  refine wpAnyH_take (i := 0) (v := ?_) rfl (by kernel_rfl) (by kernel_rfl) (by kernel_rfl) (fun _ _ _ h => hQp _ _ _ _ h rfl) (Or.inl ⟨rfl, ?_⟩) hHeld ?_
  rotate_left
  · intro w0 hS0
    try dsimp only at hS0
    go_simp
    try with_reducible rfl
  simp only [List.getElem_toArray, List.getElem_cons_zero, Act.put, List.setIfInBounds_toArray, List.set_cons_zero, List.set_cons_succ]
  refine wpAnyH_take (i := 1) (v := ?_) rfl (by kernel_rfl) (by kernel_rfl) (by kernel_rfl) (fun _ _ _ h => hQp _ _ _ _ h rfl) (Or.inl ⟨rfl, ?_⟩) hHeld ?_
  rotate_left
  · intro w0 hS0
    try dsimp only at hS0
    go_simp
    try with_reducible rfl
  simp only [List.getElem_toArray, List.getElem_cons_zero, List.getElem_cons_succ, Act.put, List.setIfInBounds_toArray, List.set_cons_zero, List.set_cons_succ]
  refine wpAnyH_take (i := 2) (v := ?_) rfl (by kernel_rfl) (by kernel_rfl) (by kernel_rfl) (fun _ _ _ h => hQp _ _ _ _ h rfl) (Or.inl ⟨rfl, ?_⟩) hHeld ?_
  rotate_left
  · intro w0 hS0
    try dsimp only at hS0
    go_simp
    try with_reducible rfl
  simp only [List.getElem_toArray, List.getElem_cons_zero, List.getElem_cons_succ, Act.put, List.setIfInBounds_toArray, List.set_cons_zero, List.set_cons_succ]
  refine wpAnyH_take (i := 3) (v := ?_) rfl (by kernel_rfl) (by kernel_rfl) (by kernel_rfl) (fun _ _ _ h => hQp _ _ _ _ h rfl) (Or.inl ⟨rfl, ?_⟩) hHeld ?_
  rotate_left
  · intro w0 hS0
    try dsimp only at hS0
    go_simp
    try with_reducible rfl
  simp only [List.getElem_toArray, List.getElem_cons_zero, List.getElem_cons_succ, Act.put, List.setIfInBounds_toArray, List.set_cons_zero, List.set_cons_succ]
  refine wpAnyH_take (i := 4) (v := undef) rfl (by kernel_rfl) (by kernel_rfl) (by kernel_rfl) (fun _ _ _ h => hQp _ _ _ _ h rfl) (Or.inr ⟨rfl, rfl⟩) hHeld ?_
  simp only [List.getElem_toArray, List.getElem_cons_zero, List.getElem_cons_succ, Act.put, List.setIfInBounds_toArray, List.set_cons_zero, List.set_cons_succ]
  refine wpAnyH_take (i := 5) (v := undef) rfl (by kernel_rfl) (by kernel_rfl) (by kernel_rfl) (fun _ _ _ h => hQp _ _ _ _ h rfl) (Or.inr ⟨rfl, rfl⟩) hHeld ?_
  simp only [List.getElem_toArray, List.getElem_cons_zero, List.getElem_cons_succ, Act.put, List.setIfInBounds_toArray, List.set_cons_zero, List.set_cons_succ]
  refine wpAnyH_take (i := 6) (v := undef) rfl (by kernel_rfl) (by kernel_rfl) (by kernel_rfl) (fun _ _ _ h => hQp _ _ _ _ h rfl) (Or.inr ⟨rfl, rfl⟩) hHeld ?_
  simp only [List.getElem_toArray, List.getElem_cons_zero, List.getElem_cons_succ, Act.put, List.setIfInBounds_toArray, List.set_cons_zero, List.set_cons_succ]
  refine wpAnyH_take (i := 7) (v := undef) rfl (by kernel_rfl) (by kernel_rfl) (by kernel_rfl) (fun _ _ _ h => hQp _ _ _ _ h rfl) (Or.inr ⟨rfl, rfl⟩) hHeld ?_
  simp only [List.getElem_toArray, List.getElem_cons_zero, List.getElem_cons_succ, Act.put, List.setIfInBounds_toArray, List.set_cons_zero, List.set_cons_succ]
  refine wpAnyH_take (i := 8) (v := undef) rfl (by kernel_rfl) (by kernel_rfl) (by kernel_rfl) (fun _ _ _ h => hQp _ _ _ _ h rfl) (Or.inr ⟨rfl, rfl⟩) hHeld ?_
  simp only [List.getElem_toArray, List.getElem_cons_zero, List.getElem_cons_succ, Act.put, List.setIfInBounds_toArray, List.set_cons_zero, List.set_cons_succ]
  refine wpAnyH_take (i := 9) (v := undef) rfl (by kernel_rfl) (by kernel_rfl) (by kernel_rfl) (fun _ _ _ h => hQp _ _ _ _ h rfl) (Or.inr ⟨rfl, rfl⟩) hHeld ?_
  simp only [List.getElem_toArray, List.getElem_cons_zero, List.getElem_cons_succ, Act.put, List.setIfInBounds_toArray, List.set_cons_zero, List.set_cons_succ]
  refine wpAnyH_take (i := 10) (v := undef) rfl (by kernel_rfl) (by kernel_rfl) (by kernel_rfl) (fun _ _ _ h => hQp _ _ _ _ h rfl) (Or.inr ⟨rfl, rfl⟩) hHeld ?_
  simp only [List.getElem_toArray, List.getElem_cons_zero, List.getElem_cons_succ, Act.put, List.setIfInBounds_toArray, List.set_cons_zero, List.set_cons_succ]
  refine wpAnyH_take (i := 11) (v := ?_) rfl (by kernel_rfl) (by kernel_rfl) (by kernel_rfl) (fun _ _ _ h => hQp _ _ _ _ h rfl) (Or.inl ⟨rfl, ?_⟩) hHeld ?_
  rotate_left
  · intro w0 hS0
    try dsimp only at hS0
    go_simp
    try with_reducible rfl
  simp only [List.getElem_toArray, List.getElem_cons_zero, List.getElem_cons_succ, Act.put, List.setIfInBounds_toArray, List.set_cons_zero, List.set_cons_succ]
  refine wpAnyH_done (by kernel_rfl) ?_ _
  exact HQ.out _ (Below.refl _ _).drew
set_option maxRecDepth 100000 in
set_option maxHeartbeats 4000000 in
theorem one_r14y (w0 : World) (h n k : Nat) (s : HubS) (lv : Nat) (ns : List NoteK) (F : List Nat) (x : Item) (xb : Nat) (w : World) (hp : Db w0 w h n k s lv ns F) (hx : SmallI x) (_hk : k ≤ 399) (hX : w.heap[xb]? = some (.cells x.cells.toArray 36 (0, 0))) (hxF : xb ∉ F) (hr : x.msg.r = true)
    {c1 c2 c3 c4 c6 c7 c8 c9 c10 c11 c12 c13 c14 c15 c16 c17 c18 c19 c20 c21 c22 c23 c24 c25 c26 c27 c28 c29 c30 c31 c32 c33 c34 c35 c36 c37 c38 c39 c40 c41 c42 c43 c44 c45 c46 c47 c48 c49 c50 c51 c52 c53 c54 c55 c56 c57 c58 c59 c60 c61 c62 c63 c64 c65 c66 c67 c68 c69 c70 c71 c72 c73 c74 c75 c76 c77 c78 c79 c80 c81 c82 c83 c84 c85 c86 c87 c88 c89 c90 c91 c92 c93 c94 c95 c96 c97 c98 c99 c100 c101 c102 c103 c104 c105 c106 c107 c108 c109 c110 c111 c112 c113 c114 c115 c116 c117 c118 c119 c120 c121 c122 c123 c124 c125 c126 c127 c128 c129 c130 c131 c132 c133 c134 c135 c136 c137 c138 c139 c140 c141 c142 c143 c144 c145 c146 c147 c148 c149 c150 c151 c152 c153 c154 : Value} {Q : Exit → Act → World → Prop} (hQp : QuietP Q)
    (hQ : ∀ ⦃d65 d66 d67 d68 d69 d70 d71 d72 d73 d74 d75 : Value⦄ (w' : World) (F' : List Nat), Db w0 w' h n (k + 1) ⟨s.gs, setB x.msg s.kp⟩ lv ns F' → Upd F F' w w' → Q .normal ⟨#[.pointer (some ⟨h, 0, none⟩), c1, c2, c3, c4, .pointer (some ⟨xb, 0, none⟩), c6, c7, c8, c9, c10, c11, c12, c13, c14, c15, c16, c17, c18, c19, c20, c21, c22, c23, c24, c25, c26, c27, c28, c29, c30, c31, c32, c33, c34, c35, c36, c37, c38, c39, c40, c41, c42, c43, c44, c45, c46, c47, c48, c49, c50, c51, c52, c53, c54, c55, c56, c57, c58, c59, c60, c61, c62, c63, c64, d65, d66, d67, d68, d69, d70, d71, d72, d73, d74, d75, .bool (mayB x.msg), c77, c78, c79, c80, c81, c82, c83, c84, c85, c86, c87, c88, c89, c90, c91, c92, c93, c94, c95, c96, c97, c98, c99, c100, c101, c102, c103, c104, c105, c106, c107, c108, c109, c110, c111, c112, c113, c114, c115, c116, c117, c118, c119, c120, c121, c122, c123, c124, c125, c126, c127, c128, c129, c130, c131, c132, c133, c134, c135, c136, c137, c138, c139, c140, c141, c142, c143, c144, c145, c146, c147, c148, c149, c150, c151, c152, c153, c154], []⟩ w') :
    Code.wp Tryz.prog (oneReg 14) Q ⟨#[.pointer (some ⟨h, 0, none⟩), c1, c2, c3, c4, .pointer (some ⟨xb, 0, none⟩), c6, c7, c8, c9, c10, c11, c12, c13, c14, c15, c16, c17, c18, c19, c20, c21, c22, c23, c24, c25, c26, c27, c28, c29, c30, c31, c32, c33, c34, c35, c36, c37, c38, c39, c40, c41, c42, c43, c44, c45, c46, c47, c48, c49, c50, c51, c52, c53, c54, c55, c56, c57, c58, c59, c60, c61, c62, c63, c64, c65, c66, c67, c68, c69, c70, c71, c72, c73, c74, c75, c76, c77, c78, c79, c80, c81, c82, c83, c84, c85, c86, c87, c88, c89, c90, c91, c92, c93, c94, c95, c96, c97, c98, c99, c100, c101, c102, c103, c104, c105, c106, c107, c108, c109, c110, c111, c112, c113, c114, c115, c116, c117, c118, c119, c120, c121, c122, c123, c124, c125, c126, c127, c128, c129, c130, c131, c132, c133, c134, c135, c136, c137, c138, c139, c140, c141, c142, c143, c144, c145, c146, c147, c148, c149, c150, c151, c152, c153, c154], []⟩ w := by
  dsimp only at hQ ⊢
  conv => arg 2; whnf
  obtain ⟨g, KF, c1, hkr, hup⟩ := hp.lensK
  obtain ⟨-, -, -, -, x29, x30, x31, x32, -⟩ := item_cells hX
  have hxl : xb < w.heap.size := (Array.getElem?_eq_some_iff.1 hX).1
  obtain ⟨bm, hbm⟩ : ∃ b, mayB x.msg = b := ⟨_, rfl⟩
  rw [hbm] at hQ
  have HUP := Lib.hid hup
  have HKS := rset_u bm g x.msg s.kp KF w.drew (hkr.below (Below.refl _ _).drew) hp.up (by have := hx.m.1; omega) hx.m.2.2.1 hx.m.2.2.2 (by have := hp.kl; omega) hbm
  rw [hr] at HKS x32
  replace HKS := Lib.hid HKS
  have HXC : Hid (∀ X : World, X.heap[xb]? = w.heap[xb]? → X.cell? ⟨xb, 29, none⟩ = some (.string x.msg.t) ∧ X.cell? ⟨xb, 30, none⟩ = some (.string x.msg.p) ∧ X.cell? ⟨xb, 31, none⟩ = some (.int .u8 x.msg.q) ∧ X.cell? ⟨xb, 32, none⟩ = some (.bool true)) := Lib.hid (fun X h => by
    obtain ⟨-, -, -, -, y29, y30, y31, y32, -⟩ := item_cells (h.trans hX)
    rw [hr] at y32
    exact ⟨y29, y30, y31, y32⟩)
  have HP := Lib.hid hp
  have HX := Lib.hid hx
  have HXF := Lib.hid hxF
  have HQ := Lib.hid hQ
  clear hp hx hX hxF hr hQ hkr hup hbm
  refine wp_region_held_drew (S := fun X => X.cell? ⟨h, 1, none⟩ = some (.pointer (some ⟨g, 0, none⟩)) ∧ X.cell? ⟨xb, 29, none⟩ = some (.string x.msg.t) ∧ X.cell? ⟨xb, 30, none⟩ = some (.string x.msg.p) ∧ X.cell? ⟨xb, 31, none⟩ = some (.int .u8 x.msg.q) ∧ X.cell? ⟨xb, 32, none⟩ = some (.bool true)) (by kernel_rfl) ⟨c1, x29, x30, x31, x32⟩ (fun hHeld => ?_)
  clear x29 x30 x31 x32 c1
  refine wpAnyH_take (i := 0) (v := ?_) rfl (by kernel_rfl) (by kernel_rfl) (by kernel_rfl) (fun _ _ _ h => hQp _ _ _ _ h rfl) (Or.inl ⟨rfl, ?_⟩) hHeld ?_
  rotate_left
  · intro w0 hS0
    try dsimp only at hS0
    go_simp
    try with_reducible rfl
  simp only [List.getElem_toArray, List.getElem_cons_zero, Act.put, List.setIfInBounds_toArray, List.set_cons_zero, List.set_cons_succ]
  refine wpAnyH_take (i := 1) (v := ?_) rfl (by kernel_rfl) (by kernel_rfl) (by kernel_rfl) (fun _ _ _ h => hQp _ _ _ _ h rfl) (Or.inl ⟨rfl, ?_⟩) hHeld ?_
  rotate_left
  · intro w0 hS0
    try dsimp only at hS0
    go_simp
    try with_reducible rfl
  simp only [List.getElem_toArray, List.getElem_cons_zero, List.getElem_cons_succ, Act.put, List.setIfInBounds_toArray, List.set_cons_zero, List.set_cons_succ]
  refine wpAnyH_take (i := 2) (v := ?_) rfl (by kernel_rfl) (by kernel_rfl) (by kernel_rfl) (fun _ _ _ h => hQp _ _ _ _ h rfl) (Or.inl ⟨rfl, ?_⟩) hHeld ?_
  rotate_left
  · intro w0 hS0
    try dsimp only at hS0
    go_simp
    try with_reducible rfl
  simp only [List.getElem_toArray, List.getElem_cons_zero, List.getElem_cons_succ, Act.put, List.setIfInBounds_toArray, List.set_cons_zero, List.set_cons_succ]
  refine wpAnyH_take (i := 3) (v := ?_) rfl (by kernel_rfl) (by kernel_rfl) (by kernel_rfl) (fun _ _ _ h => hQp _ _ _ _ h rfl) (Or.inl ⟨rfl, ?_⟩) hHeld ?_
  rotate_left
  · intro w0 hS0
    try dsimp only at hS0
    go_simp
    try with_reducible rfl
  simp only [List.getElem_toArray, List.getElem_cons_zero, List.getElem_cons_succ, Act.put, List.setIfInBounds_toArray, List.set_cons_zero, List.set_cons_succ]
  refine wpAnyH_take (i := 4) (v := ?_) rfl (by kernel_rfl) (by kernel_rfl) (by kernel_rfl) (fun _ _ _ h => hQp _ _ _ _ h rfl) (Or.inl ⟨rfl, ?_⟩) hHeld ?_
  rotate_left
  · intro w0 hS0
    try dsimp only at hS0
    go_simp
    try with_reducible rfl
  simp only [List.getElem_toArray, List.getElem_cons_zero, List.getElem_cons_succ, Act.put, List.setIfInBounds_toArray, List.set_cons_zero, List.set_cons_succ]
  refine wpAnyH_take (i := 5) (v := ?_) rfl (by kernel_rfl) (by kernel_rfl) (by kernel_rfl) (fun _ _ _ h => hQp _ _ _ _ h rfl) (Or.inl ⟨rfl, ?_⟩) hHeld ?_
  rotate_left
  · intro w0 hS0
    try dsimp only at hS0
    go_simp
    try with_reducible rfl
  simp only [List.getElem_toArray, List.getElem_cons_zero, List.getElem_cons_succ, Act.put, List.setIfInBounds_toArray, List.set_cons_zero, List.set_cons_succ]
  refine wpAnyH_take (i := 6) (v := ?_) rfl (by kernel_rfl) (by kernel_rfl) (by kernel_rfl) (fun _ _ _ h => hQp _ _ _ _ h rfl) (Or.inl ⟨rfl, ?_⟩) hHeld ?_
  rotate_left
  · intro w0 hS0
    try dsimp only at hS0
    go_simp
    try with_reducible rfl
  simp only [List.getElem_toArray, List.getElem_cons_zero, List.getElem_cons_succ, Act.put, List.setIfInBounds_toArray, List.set_cons_zero, List.set_cons_succ]
  refine wpAnyH_take (i := 7) (v := ?_) rfl (by kernel_rfl) (by kernel_rfl) (by kernel_rfl) (fun _ _ _ h => hQp _ _ _ _ h rfl) (Or.inl ⟨rfl, ?_⟩) hHeld ?_
  rotate_left
  · intro w0 hS0
    try dsimp only at hS0
    go_simp
    try with_reducible rfl
  simp only [List.getElem_toArray, List.getElem_cons_zero, List.getElem_cons_succ, Act.put, List.setIfInBounds_toArray, List.set_cons_zero, List.set_cons_succ]
  refine wpAnyH_take (i := 8) (v := ?_) rfl (by kernel_rfl) (by kernel_rfl) (by kernel_rfl) (fun _ _ _ h => hQp _ _ _ _ h rfl) (Or.inl ⟨rfl, ?_⟩) hHeld ?_
  rotate_left
  · intro w0 hS0
    try dsimp only at hS0
    go_simp
    try with_reducible rfl
  simp only [List.getElem_toArray, List.getElem_cons_zero, List.getElem_cons_succ, Act.put, List.setIfInBounds_toArray, List.set_cons_zero, List.set_cons_succ]
  refine wpAnyH_take (i := 9) (v := ?_) rfl (by kernel_rfl) (by kernel_rfl) (by kernel_rfl) (fun _ _ _ h => hQp _ _ _ _ h rfl) (Or.inl ⟨rfl, ?_⟩) hHeld ?_
  rotate_left
  · intro w0 hS0
    try dsimp only at hS0
    go_simp
    try with_reducible rfl
  simp only [List.getElem_toArray, List.getElem_cons_zero, List.getElem_cons_succ, Act.put, List.setIfInBounds_toArray, List.set_cons_zero, List.set_cons_succ]
  refine wpAnyH_ready (rs := [10]) (by kernel_rfl) (by simp) ?_
  refine AllReadyH.cons rfl (fun K hK => ?_) AllReadyH.nil
  rw [if_pos (by rfl)]
  go_simp
  go_at_call 87
  refine HKS.out.mono ?_
  rintro e w2 ⟨rfl, KF2, hkr2, hu2⟩
  obtain ⟨c1', F1, hp1, hu1⟩ := HUP.out _ w2 (Below.refl _ _).drew (setB x.msg s.kp) (k + 1) KF2 hkr2 hu2 (by omega) (keepL HP.out.kl) (fun m hm => by
    rcases mem_setB hm with h | rfl
    · exact HP.out.ok m h
    · exact HX.out.m.1) (up_setBh HP.out.up)
  have hx2 : w2.heap[xb]? = w.heap[xb]? := hu1.1.block _ hxl HXF.out
  refine hK.out _ _ ⟨c1', HXC.out w2 hx2⟩ (fun hHeld => ?_)
  refine wpAnyH_take (i := 11) (v := ?_) rfl (by kernel_rfl) (by kernel_rfl) (by kernel_rfl) (fun _ _ _ h => hQp _ _ _ _ h rfl) (Or.inl ⟨rfl, ?_⟩) hHeld ?_
  rotate_left
  · intro w0 hS0
    try dsimp only at hS0
    go_simp
    try with_reducible rfl
  simp only [List.getElem_toArray, List.getElem_cons_zero, List.getElem_cons_succ, Act.put, List.setIfInBounds_toArray, List.set_cons_zero, List.set_cons_succ]
  refine wpAnyH_done (by kernel_rfl) ?_ _
  exact HQ.out _ _ hp1 ⟨(Mod.of_below (Below.refl _ _).drew _).trans hu1.1 (fun k _hk => .inl _hk), hu1.2⟩
set_option maxRecDepth 100000 in
set_option maxHeartbeats 4000000 in
theorem one_r16 (w0 : World) (h n k : Nat) (s : HubS) (lv : Nat) (ns : List NoteK) (F : List Nat) (x : Item) (xb : Nat) (w : World) (hp : Db w0 w h n k s lv ns F) (hx : SmallI x) (hk : k ≤ 399) (hX : w.heap[xb]? = some (.cells x.cells.toArray 36 (0, 0))) (_hxF : xb ∉ F)
    {c1 c2 c3 c4 c6 c7 c8 c9 c10 c11 c12 c13 c14 c15 c16 c17 c18 c19 c20 c21 c22 c23 c24 c25 c26 c27 c28 c29 c30 c31 c32 c33 c34 c35 c36 c37 c38 c39 c40 c41 c42 c43 c44 c45 c46 c47 c48 c49 c50 c51 c52 c53 c54 c55 c56 c57 c58 c59 c60 c61 c62 c63 c64 c65 c66 c67 c68 c69 c70 c71 c72 c73 c74 c75 c76 c77 c78 c79 c80 c81 c82 c83 c84 c85 c86 c87 c88 c89 c90 c91 c92 c93 c94 c95 c96 c97 c98 c99 c100 c101 c102 c103 c104 c105 c106 c107 c108 c109 c110 c111 c112 c113 c114 c115 c116 c117 c118 c119 c120 c121 c122 c123 c124 c125 c126 c127 c128 c129 c130 c131 c132 c133 c134 c135 c136 c137 c138 c139 c140 c141 c142 c143 c144 c145 c146 c147 c148 c149 c150 c151 c152 c153 c154 : Value} {Q : Exit → Act → World → Prop} (hQp : QuietP Q)
    (hQ : ∀ ⦃d86 d87 d88 d89 d90 d91 d92 d93 : Value⦄ (w' : World) (a : Option Addr) (cp : Nat), Row w' a (strs (toldG s.gs x.msg.k)) → Below w.heap.size w w' → Q .normal ⟨#[.pointer (some ⟨h, 0, none⟩), c1, c2, c3, c4, .pointer (some ⟨xb, 0, none⟩), c6, c7, .slice a (toldG s.gs x.msg.k).length cp, c9, c10, c11, c12, c13, c14, c15, c16, c17, c18, c19, c20, c21, c22, c23, c24, c25, c26, c27, c28, c29, c30, c31, c32, c33, c34, c35, c36, c37, c38, c39, c40, c41, c42, c43, c44, c45, c46, c47, c48, c49, c50, c51, c52, c53, c54, c55, c56, c57, c58, c59, c60, c61, c62, c63, c64, c65, c66, c67, c68, c69, c70, c71, c72, c73, c74, c75, c76, c77, c78, c79, c80, c81, c82, c83, c84, c85, d86, d87, d88, d89, d90, d91, d92, d93, c94, c95, c96, c97, c98, c99, c100, c101, c102, c103, c104, c105, c106, c107, c108, c109, c110, c111, c112, c113, c114, c115, c116, c117, c118, c119, c120, c121, c122, c123, c124, c125, c126, c127, c128, c129, c130, c131, c132, c133, c134, c135, c136, c137, c138, c139, c140, c141, c142, c143, c144, c145, c146, c147, c148, c149, c150, c151, c152, c153, c154], []⟩ w') :
    Code.wp Tryz.prog (oneReg 16) Q ⟨#[.pointer (some ⟨h, 0, none⟩), c1, c2, c3, c4, .pointer (some ⟨xb, 0, none⟩), c6, c7, c8, c9, c10, c11, c12, c13, c14, c15, c16, c17, c18, c19, c20, c21, c22, c23, c24, c25, c26, c27, c28, c29, c30, c31, c32, c33, c34, c35, c36, c37, c38, c39, c40, c41, c42, c43, c44, c45, c46, c47, c48, c49, c50, c51, c52, c53, c54, c55, c56, c57, c58, c59, c60, c61, c62, c63, c64, c65, c66, c67, c68, c69, c70, c71, c72, c73, c74, c75, c76, c77, c78, c79, c80, c81, c82, c83, c84, c85, c86, c87, c88, c89, c90, c91, c92, c93, c94, c95, c96, c97, c98, c99, c100, c101, c102, c103, c104, c105, c106, c107, c108, c109, c110, c111, c112, c113, c114, c115, c116, c117, c118, c119, c120, c121, c122, c123, c124, c125, c126, c127, c128, c129, c130, c131, c132, c133, c134, c135, c136, c137, c138, c139, c140, c141, c142, c143, c144, c145, c146, c147, c148, c149, c150, c151, c152, c153, c154], []⟩ w := by
  dsimp only at hQ ⊢
  conv => arg 2; whnf
  obtain ⟨t, N, Ft, t0, hr, -⟩ := hp.lensT
  obtain ⟨-, -, -, -, x29, -⟩ := item_cells hX
  have hhl : h < w.heap.size := hp.lt h hp.mem
  have hxl : xb < w.heap.size := (Array.getElem?_eq_some_iff.1 hX).1
  have HC := Lib.hid (tdmatchT_any t s.gs Ft x.msg.t w.drew (hr.1.below (Below.refl _ _).drew) (by have := hr.2.2.2; omega) hx.m.1 hr.2.2.1)
  have HSB : Hid (∀ X : World, Below w.heap.size w X → X.cell? ⟨h, 0, none⟩ = some (.pointer (some ⟨t, 0, none⟩)) ∧ X.cell? ⟨xb, 29, none⟩ = some (.string x.msg.t)) := Lib.hid (fun X hX' => by
    obtain ⟨-, -, -, -, b, -⟩ := item_cells ((hX'.block xb hxl).trans hX)
    exact ⟨(World.cell?_of_block (w := w) (hX'.block h hhl)).trans t0, b⟩)
  have HQ := Lib.hid hQ
  clear hp hx hX _hxF hr hQ
  refine wp_region_held_drew (S := fun X => X.cell? ⟨h, 0, none⟩ = some (.pointer (some ⟨t, 0, none⟩)) ∧ X.cell? ⟨xb, 29, none⟩ = some (.string x.msg.t)) (by kernel_rfl) ⟨t0, x29⟩ (fun hHeld => ?_)
  refine wpAnyH_take (i := 0) (v := ?_) rfl (by kernel_rfl) (by kernel_rfl) (by kernel_rfl) (fun _ _ _ h => hQp _ _ _ _ h rfl) (Or.inl ⟨rfl, ?_⟩) hHeld ?_
  rotate_left
  · intro w0 hS0
    try dsimp only at hS0
    go_simp
    try with_reducible rfl
  simp only [List.getElem_toArray, List.getElem_cons_zero, Act.put, List.setIfInBounds_toArray, List.set_cons_zero, List.set_cons_succ]
  refine wpAnyH_take (i := 1) (v := ?_) rfl (by kernel_rfl) (by kernel_rfl) (by kernel_rfl) (fun _ _ _ h => hQp _ _ _ _ h rfl) (Or.inl ⟨rfl, ?_⟩) hHeld ?_
  rotate_left
  · intro w0 hS0
    try dsimp only at hS0
    go_simp
    try with_reducible rfl
  simp only [List.getElem_toArray, List.getElem_cons_zero, List.getElem_cons_succ, Act.put, List.setIfInBounds_toArray, List.set_cons_zero, List.set_cons_succ]
  refine wpAnyH_take (i := 2) (v := ?_) rfl (by kernel_rfl) (by kernel_rfl) (by kernel_rfl) (fun _ _ _ h => hQp _ _ _ _ h rfl) (Or.inl ⟨rfl, ?_⟩) hHeld ?_
  rotate_left
  · intro w0 hS0
    try dsimp only at hS0
    go_simp
    try with_reducible rfl
  simp only [List.getElem_toArray, List.getElem_cons_zero, List.getElem_cons_succ, Act.put, List.setIfInBounds_toArray, List.set_cons_zero, List.set_cons_succ]
  refine wpAnyH_take (i := 3) (v := ?_) rfl (by kernel_rfl) (by kernel_rfl) (by kernel_rfl) (fun _ _ _ h => hQp _ _ _ _ h rfl) (Or.inl ⟨rfl, ?_⟩) hHeld ?_
  rotate_left
  · intro w0 hS0
    try dsimp only at hS0
    go_simp
    try with_reducible rfl
  simp only [List.getElem_toArray, List.getElem_cons_zero, List.getElem_cons_succ, Act.put, List.setIfInBounds_toArray, List.set_cons_zero, List.set_cons_succ]
  refine wpAnyH_take (i := 4) (v := ?_) rfl (by kernel_rfl) (by kernel_rfl) (by kernel_rfl) (fun _ _ _ h => hQp _ _ _ _ h rfl) (Or.inl ⟨rfl, ?_⟩) hHeld ?_
  rotate_left
  · intro w0 hS0
    try dsimp only at hS0
    go_simp
    try with_reducible rfl
  simp only [List.getElem_toArray, List.getElem_cons_zero, List.getElem_cons_succ, Act.put, List.setIfInBounds_toArray, List.set_cons_zero, List.set_cons_succ]
  refine wpAnyH_take (i := 5) (v := ?_) rfl (by kernel_rfl) (by kernel_rfl) (by kernel_rfl) (fun _ _ _ h => hQp _ _ _ _ h rfl) (Or.inl ⟨rfl, ?_⟩) hHeld ?_
  rotate_left
  · intro w0 hS0
    try dsimp only at hS0
    go_simp
    try with_reducible rfl
  simp only [List.getElem_toArray, List.getElem_cons_zero, List.getElem_cons_succ, Act.put, List.setIfInBounds_toArray, List.set_cons_zero, List.set_cons_succ]
  refine wpAnyH_take (i := 6) (v := ?_) rfl (by kernel_rfl) (by kernel_rfl) (by kernel_rfl) (fun _ _ _ h => hQp _ _ _ _ h rfl) (Or.inl ⟨rfl, ?_⟩) hHeld ?_
  rotate_left
  · intro w0 hS0
    try dsimp only at hS0
    go_simp
    try with_reducible rfl
  simp only [List.getElem_toArray, List.getElem_cons_zero, List.getElem_cons_succ, Act.put, List.setIfInBounds_toArray, List.set_cons_zero, List.set_cons_succ]
  refine wpAnyH_ready (rs := [7]) (by kernel_rfl) (by simp) ?_
  refine AllReadyH.cons rfl (fun K hK => ?_) AllReadyH.nil
  rw [if_pos (by rfl)]
  go_simp
  go_at_call 27
  refine HC.out.mono ?_
  rintro e w' ⟨a, cp, rfl, hrow, hb⟩
  have hbw : Below w.heap.size w w' := (Below.refl w.heap.size w).drew.trans hb
  refine hK.out _ _ (HSB.out _ hbw) (fun hHeld => ?_)
  refine wpAnyH_take (i := 8) (v := ?_) rfl (by kernel_rfl) (by kernel_rfl) (by kernel_rfl) (fun _ _ _ h => hQp _ _ _ _ h rfl) (Or.inl ⟨rfl, ?_⟩) hHeld ?_
  rotate_left
  · intro w0 hS0
    try dsimp only at hS0
    go_simp
    try with_reducible rfl
  simp only [List.getElem_toArray, List.getElem_cons_zero, List.getElem_cons_succ, Act.put, List.setIfInBounds_toArray, List.set_cons_zero, List.set_cons_succ]
  refine wpAnyH_done (by kernel_rfl) ?_ _
  exact HQ.out _ _ _ hrow hbw
end
section
open Go Go.RowKit

set_option maxRecDepth 100000 in
set_option maxHeartbeats 4000000 in
theorem one_r25 (h n b o m rc i j : Nat) (c : Str) (w : World) (t2 : w.cell? ⟨h, 2, none⟩ = some (.int .i64 n)) (hcell : w.cell? ⟨b, o + j, none⟩ = some (.string ⟨c.toArray⟩)) (hj : j < m) (hc : c.length ≤ 300) (h1 : 1 ≤ n) (h2 : n ≤ 64)
    {c1 c2 c3 c4 c5 c6 c7 c9 c11 c13 c14 c15 c16 c17 c18 c19 c20 c21 c22 c23 c24 c25 c26 c27 c28 c29 c30 c31 c32 c33 c34 c35 c36 c37 c38 c39 c40 c41 c42 c43 c44 c45 c46 c47 c48 c49 c50 c51 c52 c53 c54 c55 c56 c57 c58 c59 c60 c61 c62 c63 c64 c65 c66 c67 c68 c69 c70 c71 c72 c73 c74 c75 c76 c77 c78 c79 c80 c81 c82 c83 c84 c85 c86 c87 c88 c89 c90 c91 c92 c93 c94 c95 c96 c97 c98 c99 c100 c101 c102 c103 c104 c105 c106 c107 c108 c109 c110 c111 c112 c113 c114 c115 c116 c117 c118 c119 c120 c121 c122 c123 c124 c125 c126 c127 c128 c129 c130 c131 c132 c133 c134 c135 c136 c137 c138 c139 c140 c141 c142 c143 c144 c145 c146 c147 c148 c149 c150 c151 c152 c153 c154 : Value} {Q : Exit → Act → World → Prop} (hQp : QuietP Q)
    (hQ : ∀ ⦃d108 d109 d110 d111 d112 d113 d114 d115 d116 d117 : Value⦄ (w' : World), Below w.heap.size w w' → Q .normal ⟨#[.pointer (some ⟨h, 0, none⟩), c1, c2, c3, c4, c5, c6, c7, .slice (some ⟨b, o, none⟩) m rc, c9, .int .i64 i, c11, .int .i64 j, c13, c14, c15, c16, c17, c18, c19, c20, c21, c22, c23, c24, c25, c26, c27, c28, c29, c30, c31, c32, c33, c34, c35, c36, c37, c38, c39, c40, c41, c42, c43, c44, c45, c46, c47, c48, c49, c50, c51, c52, c53, c54, c55, c56, c57, c58, c59, c60, c61, c62, c63, c64, c65, c66, c67, c68, c69, c70, c71, c72, c73, c74, c75, c76, c77, c78, c79, c80, c81, c82, c83, c84, c85, c86, c87, c88, c89, c90, c91, c92, c93, c94, c95, c96, c97, c98, c99, c100, c101, c102, c103, c104, c105, c106, c107, d108, d109, d110, d111, d112, d113, d114, d115, d116, d117, .bool (decide (homeN n c = i)), c119, c120, c121, c122, c123, c124, c125, c126, c127, c128, c129, c130, c131, c132, c133, c134, c135, c136, c137, c138, c139, c140, c141, c142, c143, c144, c145, c146, c147, c148, c149, c150, c151, c152, c153, c154], []⟩ w') :
    Code.wp Tryz.prog (oneReg 25) Q ⟨#[.pointer (some ⟨h, 0, none⟩), c1, c2, c3, c4, c5, c6, c7, .slice (some ⟨b, o, none⟩) m rc, c9, .int .i64 i, c11, .int .i64 j, c13, c14, c15, c16, c17, c18, c19, c20, c21, c22, c23, c24, c25, c26, c27, c28, c29, c30, c31, c32, c33, c34, c35, c36, c37, c38, c39, c40, c41, c42, c43, c44, c45, c46, c47, c48, c49, c50, c51, c52, c53, c54, c55, c56, c57, c58, c59, c60, c61, c62, c63, c64, c65, c66, c67, c68, c69, c70, c71, c72, c73, c74, c75, c76, c77, c78, c79, c80, c81, c82, c83, c84, c85, c86, c87, c88, c89, c90, c91, c92, c93, c94, c95, c96, c97, c98, c99, c100, c101, c102, c103, c104, c105, c106, c107, c108, c109, c110, c111, c112, c113, c114, c115, c116, c117, c118, c119, c120, c121, c122, c123, c124, c125, c126, c127, c128, c129, c130, c131, c132, c133, c134, c135, c136, c137, c138, c139, c140, c141, c142, c143, c144, c145, c146, c147, c148, c149, c150, c151, c152, c153, c154], []⟩ w := by
  dsimp only at hQ ⊢
  conv => arg 2; whnf
  have hhl := World.block_lt_of_cell? _ _ t2
  have hbl := World.block_lt_of_cell? _ _ hcell
  have HC := Lib.hid (dhome_any c n w.drew (by omega) h1 h2)
  have HSB : Hid (∀ X : World, Below w.heap.size w X → X.cell? ⟨h, 2, none⟩ = some (.int .i64 n) ∧ X.cell? ⟨b, o + j, none⟩ = some (.string ⟨c.toArray⟩)) := Lib.hid (fun X hX' => ⟨(World.cell?_of_block (w := w) (hX'.block h hhl)).trans t2, (World.cell?_of_block (w := w) (hX'.block b hbl)).trans hcell⟩)
  have hj0 : (0 : Int) ≤ j := by omega
  have hjm : (j : Int) < m := by omega
  have HE : decide (homeN n c = i) = ((homeN n c : Int) == (i : Int)) := by
    by_cases h : homeN n c = i
    · simp [h]
    · have : ¬ (homeN n c : Int) = i := by omega
      simp [h, this]
  rw [HE] at hQ
  have HQ := Lib.hid hQ
  clear hQ HE
  refine wp_region_held_drew (S := fun X => X.cell? ⟨h, 2, none⟩ = some (.int .i64 n) ∧ X.cell? ⟨b, o + j, none⟩ = some (.string ⟨c.toArray⟩)) (by kernel_rfl) ⟨t2, hcell⟩ (fun hHeld => ?_)
  refine wpAnyH_take (i := 0) (v := ?_) rfl (by kernel_rfl) (by kernel_rfl) (by kernel_rfl) (fun _ _ _ h => hQp _ _ _ _ h rfl) (Or.inl ⟨rfl, ?_⟩) hHeld ?_
  rotate_left
  · intro w0 hS0
    try dsimp only at hS0
    go_simp
    try with_reducible rfl
  simp only [List.getElem_toArray, List.getElem_cons_zero, Act.put, List.setIfInBounds_toArray, List.set_cons_zero, List.set_cons_succ]
  refine wpAnyH_take (i := 1) (v := ?_) rfl (by kernel_rfl) (by kernel_rfl) (by kernel_rfl) (fun _ _ _ h => hQp _ _ _ _ h rfl) (Or.inl ⟨rfl, ?_⟩) hHeld ?_
  rotate_left
  · intro w0 hS0
    try dsimp only at hS0
    go_simp
    try with_reducible rfl
  simp only [List.getElem_toArray, List.getElem_cons_zero, List.getElem_cons_succ, Act.put, List.setIfInBounds_toArray, List.set_cons_zero, List.set_cons_succ]
  refine wpAnyH_take (i := 2) (v := ?_) rfl (by kernel_rfl) (by kernel_rfl) (by kernel_rfl) (fun _ _ _ h => hQp _ _ _ _ h rfl) (Or.inl ⟨rfl, ?_⟩) hHeld ?_
  rotate_left
  · intro w0 hS0
    try dsimp only at hS0
    go_simp
    try with_reducible rfl
  simp only [List.getElem_toArray, List.getElem_cons_zero, List.getElem_cons_succ, Act.put, List.setIfInBounds_toArray, List.set_cons_zero, List.set_cons_succ]
  refine wpAnyH_take (i := 3) (v := ?_) rfl (by kernel_rfl) (by kernel_rfl) (by kernel_rfl) (fun _ _ _ h => hQp _ _ _ _ h rfl) (Or.inl ⟨rfl, ?_⟩) hHeld ?_
  rotate_left
  · intro w0 hS0
    try dsimp only at hS0
    go_simp
    try with_reducible rfl
  simp only [List.getElem_toArray, List.getElem_cons_zero, List.getElem_cons_succ, Act.put, List.setIfInBounds_toArray, List.set_cons_zero, List.set_cons_succ]
  refine wpAnyH_take (i := 4) (v := ?_) rfl (by kernel_rfl) (by kernel_rfl) (by kernel_rfl) (fun _ _ _ h => hQp _ _ _ _ h rfl) (Or.inl ⟨rfl, ?_⟩) hHeld ?_
  rotate_left
  · intro w0 hS0
    try dsimp only at hS0
    go_simp
    try with_reducible rfl
  simp only [List.getElem_toArray, List.getElem_cons_zero, List.getElem_cons_succ, Act.put, List.setIfInBounds_toArray, List.set_cons_zero, List.set_cons_succ]
  refine wpAnyH_take (i := 5) (v := ?_) rfl (by kernel_rfl) (by kernel_rfl) (by kernel_rfl) (fun _ _ _ h => hQp _ _ _ _ h rfl) (Or.inl ⟨rfl, ?_⟩) hHeld ?_
  rotate_left
  · intro w0 hS0
    try dsimp only at hS0
    go_simp
    try with_reducible rfl
  simp only [List.getElem_toArray, List.getElem_cons_zero, List.getElem_cons_succ, Act.put, List.setIfInBounds_toArray, List.set_cons_zero, List.set_cons_succ]
  refine wpAnyH_take (i := 6) (v := ?_) rfl (by kernel_rfl) (by kernel_rfl) (by kernel_rfl) (fun _ _ _ h => hQp _ _ _ _ h rfl) (Or.inl ⟨rfl, ?_⟩) hHeld ?_
  rotate_left
  · intro w0 hS0
    try dsimp only at hS0
    go_simp
    try with_reducible rfl
  simp only [List.getElem_toArray, List.getElem_cons_zero, List.getElem_cons_succ, Act.put, List.setIfInBounds_toArray, List.set_cons_zero, List.set_cons_succ]
  refine wpAnyH_take (i := 7) (v := ?_) rfl (by kernel_rfl) (by kernel_rfl) (by kernel_rfl) (fun _ _ _ h => hQp _ _ _ _ h rfl) (Or.inl ⟨rfl, ?_⟩) hHeld ?_
  rotate_left
  · intro w0 hS0
    try dsimp only at hS0
    go_simp
    try with_reducible rfl
  simp only [List.getElem_toArray, List.getElem_cons_zero, List.getElem_cons_succ, Act.put, List.setIfInBounds_toArray, List.set_cons_zero, List.set_cons_succ]
  refine wpAnyH_take (i := 9) (v := ?_) rfl (by kernel_rfl) (by kernel_rfl) (by kernel_rfl) (fun _ _ _ h => hQp _ _ _ _ h rfl) (Or.inl ⟨rfl, ?_⟩) hHeld ?_
  rotate_left
  · intro w0 hS0
    try dsimp only at hS0
    go_simp
    try with_reducible rfl
  simp only [List.getElem_toArray, List.getElem_cons_zero, List.getElem_cons_succ, Act.put, List.setIfInBounds_toArray, List.set_cons_zero, List.set_cons_succ]
  refine wpAnyH_ready (rs := [8]) (by kernel_rfl) (by simp) ?_
  refine AllReadyH.cons rfl (fun K hK => ?_) AllReadyH.nil
  rw [if_pos (by rfl)]
  go_simp
  go_at_call 89
  refine HC.out.mono ?_
  rintro e w' ⟨rfl, hb⟩
  have hbw : Below w.heap.size w w' := (Below.refl w.heap.size w).drew.trans hb
  refine hK.out _ _ (HSB.out _ hbw) (fun hHeld => ?_)
  refine wpAnyH_take (i := 10) (v := ?_) rfl (by kernel_rfl) (by kernel_rfl) (by kernel_rfl) (fun _ _ _ h => hQp _ _ _ _ h rfl) (Or.inl ⟨rfl, ?_⟩) hHeld ?_
  rotate_left
  · intro w0 hS0
    try dsimp only at hS0
    go_simp
    try with_reducible rfl
  simp only [List.getElem_toArray, List.getElem_cons_zero, List.getElem_cons_succ, Act.put, List.setIfInBounds_toArray, List.set_cons_zero, List.set_cons_succ]
  refine wpAnyH_done (by kernel_rfl) ?_ _
  exact HQ.out w' hbw
noncomputable def oneInner : Code := ((((Tryz.f54.body.bind (blockOf 3)).map loops).getD [])[0]?).getD .skip
theorem at1_take {n i : Nat} {l : List Str} {j : Nat} (h : j < l.length) : at1 n (l.take (j + 1)) i = at1 n (l.take j) i ++ (if homeN n l[j] = i then [l[j]] else []) := by
  unfold at1
  rw [List.take_succ_eq_append_getElem h, List.filter_append]
  congr 1
  by_cases e : homeN n l[j] = i
  · simp [e]
  · simp [e]
set_option maxRecDepth 100000 in
set_option maxHeartbeats 8000000 in
theorem one_inner (h n i : Nat) (cs : List Str) (ra : Option Addr) (rc : Nat) (w : World) (t2 : w.cell? ⟨h, 2, none⟩ = some (.int .i64 n)) (hr : Row w ra (strs cs)) (hcl : ∀ c ∈ cs, c.length ≤ 300) (hl : cs.length ≤ 400) (h1 : 1 ≤ n) (h2 : n ≤ 64)
    {c1 c2 c3 c4 c5 c6 c7 c9 c13 c14 c15 c16 c17 c18 c19 c20 c21 c22 c23 c24 c25 c26 c27 c28 c29 c30 c31 c32 c33 c34 c35 c36 c37 c38 c39 c40 c41 c42 c43 c44 c45 c46 c47 c48 c49 c50 c51 c52 c53 c54 c55 c56 c57 c58 c59 c60 c61 c62 c63 c64 c65 c66 c67 c68 c69 c70 c71 c72 c73 c74 c75 c76 c77 c78 c79 c80 c81 c82 c83 c84 c85 c86 c87 c88 c89 c90 c91 c92 c93 c94 c95 c96 c97 c98 c99 c100 c101 c102 c103 c104 c105 c106 c107 c108 c109 c110 c111 c112 c113 c114 c115 c116 c117 c118 c119 c120 c121 c122 c123 c124 c125 c126 c127 c128 c129 c130 c131 c132 c133 c134 c135 c136 c137 c138 c139 c140 c141 c142 c143 c144 c145 c146 c147 c148 c149 c150 c151 c152 c153 c154 : Value} {Q : Exit → Act → World → Prop} (hQp : QuietP Q)
    (hQ : ∀ ⦃d12 d102 d103 d104 d105 d106 d107 d108 d109 d110 d111 d112 d113 d114 d115 d116 d117 d118 d119 d120 d121 d122 d123 d124 d125 : Value⦄ (v : Value) (w' : World), w'.ownsRow w.heap.size 9 1 v (at1 n cs i).length (strs (at1 n cs i)) → Below w.heap.size w w' → Q (.exit 3) ⟨#[.pointer (some ⟨h, 0, none⟩), c1, c2, c3, c4, c5, c6, c7, .slice ra cs.length rc, c9, .int .i64 i, v, d12, c13, c14, c15, c16, c17, c18, c19, c20, c21, c22, c23, c24, c25, c26, c27, c28, c29, c30, c31, c32, c33, c34, c35, c36, c37, c38, c39, c40, c41, c42, c43, c44, c45, c46, c47, c48, c49, c50, c51, c52, c53, c54, c55, c56, c57, c58, c59, c60, c61, c62, c63, c64, c65, c66, c67, c68, c69, c70, c71, c72, c73, c74, c75, c76, c77, c78, c79, c80, c81, c82, c83, c84, c85, c86, c87, c88, c89, c90, c91, c92, c93, c94, c95, c96, c97, c98, c99, c100, c101, d102, d103, d104, d105, d106, d107, d108, d109, d110, d111, d112, d113, d114, d115, d116, d117, d118, d119, d120, d121, d122, d123, d124, d125, c126, c127, c128, c129, c130, c131, c132, c133, c134, c135, c136, c137, c138, c139, c140, c141, c142, c143, c144, c145, c146, c147, c148, c149, c150, c151, c152, c153, c154], []⟩ w') :
    Code.wp Tryz.prog oneInner Q ⟨#[.pointer (some ⟨h, 0, none⟩), c1, c2, c3, c4, c5, c6, c7, .slice ra cs.length rc, c9, .int .i64 i, .slice none 0 0, .int .i64 0, c13, c14, c15, c16, c17, c18, c19, c20, c21, c22, c23, c24, c25, c26, c27, c28, c29, c30, c31, c32, c33, c34, c35, c36, c37, c38, c39, c40, c41, c42, c43, c44, c45, c46, c47, c48, c49, c50, c51, c52, c53, c54, c55, c56, c57, c58, c59, c60, c61, c62, c63, c64, c65, c66, c67, c68, c69, c70, c71, c72, c73, c74, c75, c76, c77, c78, c79, c80, c81, c82, c83, c84, c85, c86, c87, c88, c89, c90, c91, c92, c93, c94, c95, c96, c97, c98, c99, c100, c101, c102, c103, c104, c105, c106, c107, c108, c109, c110, c111, c112, c113, c114, c115, c116, c117, c118, c119, c120, c121, c122, c123, c124, c125, c126, c127, c128, c129, c130, c131, c132, c133, c134, c135, c136, c137, c138, c139, c140, c141, c142, c143, c144, c145, c146, c147, c148, c149, c150, c151, c152, c153, c154], []⟩ w := by
  dsimp only at hQ ⊢
  conv => arg 2; whnf
  have hhl := World.block_lt_of_cell? _ _ t2
  have HCL := Lib.hid hcl
  have HR := Lib.hid (fun X (hX : Below w.heap.size w X) => hr.below hX (Nat.le_refl _))
  have HT := Lib.hid (fun X (hX : Below w.heap.size w X) => (World.cell?_of_block (w := w) (hX.block h hhl)).trans t2)
  have HQ := Lib.hid hQ
  clear hr hcl hQ
  go_loopw [11, 12] (fun v jv wq => ∃ j : Nat, jv = .int .i64 j ∧ j ≤ cs.length ∧ wq.ownsRow w.heap.size 9 1 v (at1 n (cs.take j) i).length (strs (at1 n (cs.take j) i)) ∧ Below w.heap.size w wq) (fun _ jv _ => (cs.length - intOf jv).toNat)
  case atStart => exact ⟨0, rfl, by omega, World.ownsRow_nil _ _ _ _, Below.refl _ _⟩
  case round =>
    obtain ⟨j, rfl, hj, hown, hbq⟩ := hrel
    obtain ⟨va, vc, rfl, -, -, -⟩ := ownsRow_row hown
    have HO := Lib.hid hown
    have HB := Lib.hid hbq
    clear hown hbq
    by_cases hlt : j < cs.length
    · have hj0 : (0 : Int) ≤ j := by omega
      have hjl : (j : Int) < cs.length := by omega
      obtain ⟨b, o, hra, hcell⟩ := strs_row (HR.out _ HB.out) (k := j) (x := cs[j]) (by simp [hlt])
      subst hra
      have HCC := HCL.out _ (List.getElem_mem hlt)
      have HTK := Lib.hid (at1_take (n := n) (i := i) hlt)
      have hal : (at1 n (cs.take j) i).length ≤ 400 := Nat.le_trans (at1_len n (cs.take j) i) (by rw [List.length_take]; omega)
      have t2r := HT.out _ HB.out
      generalize cs[j] = c at *
      generalize at1 n (cs.take j) i = A at *
      go_wp2_with fail
      refine one_r25 h n b o cs.length rc i j c wr t2r hcell hlt HCC h1 h2 (fun x a a' w h e => hQp x a a' w h e) ?_
      intro d108 d109 d110 d111 d112 d113 d114 d115 d116 d117 w4 hb4
      dsimp only
      have HB4 := Lib.hid (bnext HB.out (Nat.le_refl _) hb4)
      have HO4 := Lib.hid (ownsRow_local (w' := w4) HO.out fun k hk => hb4.block k (HO.out.lt k hk).2)
      have hs4 : w.heap.size ≤ w4.heap.size := HB4.out.size
      have hcell4 := (World.cell?_of_block (w := wr) (hb4.block b (World.block_lt_of_cell? _ _ hcell))).trans hcell
      clear hb4 t2r hcell
      by_cases hi : homeN n c = i
      · have hd : decide (homeN n c = i) = true := by simpa using hi
        rw [hd]
        rw [if_pos hi] at HTK
        clear hd
        go_wp2_with (first
          | (at_builtin; refine wpList_appS (m := 1) T_str HO4.out rfl rfl rfl rfl rfl _ rfl (by rfl) (by decide) (by simp [Value.oneCell']) (by omega) (by omega) hs4 ?_; intro g cap w8 hown8 hg8 hb8 hlt8; have H8 := Lib.hid (And.intro hown8 hg8); clear hown8 hg8 hb8 hlt8)
          | fail)
        obtain ⟨hown8, hg8⟩ := H8.out
        go_roundw
        case rel =>
          refine ⟨j + 1, by go_num, by omega, ?_, (HB4.out.alloc hs4 _).grown hg8 (by simp; omega) fun k hk => (HO4.out.lt k hk).1⟩
          rw [HTK.out, List.length_append]
          simpa [strs] using hown8
        case measure => simp [intOf]; omega
      · have hd : decide (homeN n c = i) = false := by simpa using hi
        rw [hd]
        rw [if_neg hi, List.append_nil] at HTK
        clear hd
        go_wp2_with fail
        go_roundw
        case rel => exact ⟨j + 1, by go_num, by omega, by rw [HTK.out]; exact HO4.out, HB4.out⟩
        case measure => simp [intOf]; omega
    · have hjl : ¬ (j : Int) < cs.length := by omega
      obtain rfl : j = cs.length := by omega
      rw [List.take_length] at HO
      go_wp2_with fail
      exact HQ.out _ _ HO.out HB.out
noncomputable def oneOuter : Code := ((((Tryz.f54.body.bind (blockOf 1)).map loops).getD [])[0]?).getD .skip
set_option maxRecDepth 100000 in
set_option maxHeartbeats 8000000 in
theorem one_outer (h n : Nat) (cs : List Str) (ra : Option Addr) (rc : Nat) (x : Item) (xb : Nat) (w : World) (t2 : w.cell? ⟨h, 2, none⟩ = some (.int .i64 n)) (hr : Row w ra (strs cs)) (hX : w.heap[xb]? = some (.cells x.cells.toArray 36 (0, 0))) (hcl : ∀ c ∈ cs, c.length ≤ 300) (hl : cs.length ≤ 400) (h1 : 1 ≤ n) (h2 : n ≤ 64)
    {c1 c2 c3 c4 c6 c7 c11 c12 c13 c14 c15 c16 c17 c18 c19 c20 c21 c22 c23 c24 c25 c26 c27 c28 c29 c30 c31 c32 c33 c34 c35 c36 c37 c38 c39 c40 c41 c42 c43 c44 c45 c46 c47 c48 c49 c50 c51 c52 c53 c54 c55 c56 c57 c58 c59 c60 c61 c62 c63 c64 c65 c66 c67 c68 c69 c70 c71 c72 c73 c74 c75 c76 c77 c78 c79 c80 c81 c82 c83 c84 c85 c86 c87 c88 c89 c90 c91 c92 c93 c94 c95 c96 c97 c98 c99 c100 c101 c102 c103 c104 c105 c106 c107 c108 c109 c110 c111 c112 c113 c114 c115 c116 c117 c118 c119 c120 c121 c122 c123 c124 c125 c126 c127 c128 c129 c130 c131 c132 c133 c134 c135 c136 c137 c138 c139 c140 c141 c142 c143 c144 c145 c146 c147 c148 c149 c150 c151 c152 c153 c154 : Value} {Q : Exit → Act → World → Prop} (hQp : QuietP Q)
    (hQ : ∀ ⦃d10 d11 d12 d94 d95 d96 d97 d98 d99 d100 d101 d102 d103 d104 d105 d106 d107 d108 d109 d110 d111 d112 d113 d114 d115 d116 d117 d118 d119 d120 d121 d122 d123 d124 d125 d126 d127 d128 d129 d130 d131 d132 d133 d134 d135 d136 d137 d138 d139 d140 d141 d142 d143 : Value⦄ (v : Value) (M : List Mail) (w' : World), (∀ G : List Nat, (∀ j ∈ G, j < w.heap.size) → OutM w' G w.heap.size v M (sendM n x cs n)) → Below w.heap.size w w' → Q (.exit 1) ⟨#[.pointer (some ⟨h, 0, none⟩), c1, c2, c3, c4, .pointer (some ⟨xb, 0, none⟩), c6, c7, .slice ra cs.length rc, v, d10, d11, d12, c13, c14, c15, c16, c17, c18, c19, c20, c21, c22, c23, c24, c25, c26, c27, c28, c29, c30, c31, c32, c33, c34, c35, c36, c37, c38, c39, c40, c41, c42, c43, c44, c45, c46, c47, c48, c49, c50, c51, c52, c53, c54, c55, c56, c57, c58, c59, c60, c61, c62, c63, c64, c65, c66, c67, c68, c69, c70, c71, c72, c73, c74, c75, c76, c77, c78, c79, c80, c81, c82, c83, c84, c85, c86, c87, c88, c89, c90, c91, c92, c93, d94, d95, d96, d97, d98, d99, d100, d101, d102, d103, d104, d105, d106, d107, d108, d109, d110, d111, d112, d113, d114, d115, d116, d117, d118, d119, d120, d121, d122, d123, d124, d125, d126, d127, d128, d129, d130, d131, d132, d133, d134, d135, d136, d137, d138, d139, d140, d141, d142, d143, c144, c145, c146, c147, c148, c149, c150, c151, c152, c153, c154], []⟩ w') :
    Code.wp Tryz.prog oneOuter Q ⟨#[.pointer (some ⟨h, 0, none⟩), c1, c2, c3, c4, .pointer (some ⟨xb, 0, none⟩), c6, c7, .slice ra cs.length rc, .slice none 0 0, .int .i64 0, c11, c12, c13, c14, c15, c16, c17, c18, c19, c20, c21, c22, c23, c24, c25, c26, c27, c28, c29, c30, c31, c32, c33, c34, c35, c36, c37, c38, c39, c40, c41, c42, c43, c44, c45, c46, c47, c48, c49, c50, c51, c52, c53, c54, c55, c56, c57, c58, c59, c60, c61, c62, c63, c64, c65, c66, c67, c68, c69, c70, c71, c72, c73, c74, c75, c76, c77, c78, c79, c80, c81, c82, c83, c84, c85, c86, c87, c88, c89, c90, c91, c92, c93, c94, c95, c96, c97, c98, c99, c100, c101, c102, c103, c104, c105, c106, c107, c108, c109, c110, c111, c112, c113, c114, c115, c116, c117, c118, c119, c120, c121, c122, c123, c124, c125, c126, c127, c128, c129, c130, c131, c132, c133, c134, c135, c136, c137, c138, c139, c140, c141, c142, c143, c144, c145, c146, c147, c148, c149, c150, c151, c152, c153, c154], []⟩ w := by
  dsimp only at hQ ⊢
  conv => arg 2; whnf
  have hhl := World.block_lt_of_cell? _ _ t2
  have hxl : xb < w.heap.size := (Array.getElem?_eq_some_iff.1 hX).1
  have HR := Lib.hid (fun X (hX : Below w.heap.size w X) => hr.below hX (Nat.le_refl _))
  have HT := Lib.hid (fun X (hX : Below w.heap.size w X) => (World.cell?_of_block (w := w) (hX.block h hhl)).trans t2)
  have HXB := Lib.hid (fun X (hX' : Below w.heap.size w X) => (hX'.block xb hxl).trans hX)
  have HCL := Lib.hid hcl
  have HQ := Lib.hid hQ
  clear hr hQ hX hcl
  go_loopw [9, 10, 11, 12] (fun v iv _ _ wq => ∃ (i : Nat) (M : List Mail), iv = .int .i64 i ∧ i ≤ n ∧ (∀ G : List Nat, (∀ j ∈ G, j < w.heap.size) → OutM wq G w.heap.size v M (sendM n x cs i)) ∧ Below w.heap.size w wq) (fun _ iv _ _ _ => (n - intOf iv).toNat)
  case atStart => exact ⟨0, [], rfl, by omega, fun G _ => by simpa [sendM] using OutM.nil w G w.heap.size, Below.refl _ _⟩
  case round =>
    obtain ⟨i, M, rfl, hi, ho, hbq⟩ := hrel
    obtain ⟨va, vc, rfl, -, -, -⟩ := ownsRow_row (ho [] (by simp)).own
    have HO := Lib.hid ho
    have HB := Lib.hid hbq
    have hMl : M.length ≤ 64 := by
      have e := (ho [] (by simp)).ms.len
      rw [e]
      unfold sendM
      rw [List.length_map]
      exact Nat.le_trans (List.length_filter_le _ _) (by simp; omega)
    clear ho hbq
    have t2r := HT.out _ HB.out
    by_cases hlt : i < n
    · have hi0 : (0 : Int) ≤ i := by omega
      have hil : (i : Int) < n := by omega
      have HSU := Lib.hid (sendM_succ n x cs i)
      go_wp2_with fail
      refine one_inner h n i cs ra rc wr t2r (HR.out _ HB.out) HCL.out hl h1 h2 (fun x a a' w h e => hQp x a a' w h e) ?_
      intro d12 d102 d103 d104 d105 d106 d107 d108 d109 d110 d111 d112 d113 d114 d115 d116 d117 d118 d119 d120 d121 d122 d123 d124 d125 v w4 hown4 hb4
      dsimp only
      have HB4 := Lib.hid (bnext HB.out (Nat.le_refl _) hb4)
      have HK4 := Lib.hid hb4
      have hsr : w.heap.size ≤ wr.heap.size := HB.out.size
      have hs4 : w.heap.size ≤ w4.heap.size := HB4.out.size
      obtain ⟨a4, c4, rfl, -, -, -⟩ := ownsRow_row hown4
      have HA4 := Lib.hid hown4
      clear hown4 hb4 t2r
      by_cases hem : at1 n cs i = []
      · rw [if_pos (by simp [hem]), List.append_nil] at HSU
        rw [hem]
        simp only [List.length_nil]
        go_wp2_with fail
        go_roundw
        case rel => exact ⟨i + 1, M, by go_num, by omega, fun G hG => by rw [HSU.out]; exact (HO.out G hG).below HK4.out, HB4.out⟩
        case measure => simp [intOf]; omega
      · rw [if_neg (by simpa using hem)] at HSU
        have hne : (0 : Int) < (at1 n cs i).length := by have := List.length_pos_iff.2 hem; omega
        have HBI := Lib.hid (fun (_ : Unit) => built_deliver i x.op x.client x.msg a4 c4 (at1 n cs i) x.frm)
        have e0 : itemOf ⟨i, 11, x.op, x.client, x.msg, [], at1 n cs i, x.frm, 0⟩ none 0 a4 c4 = itemOf (toM n x cs i) none 0 a4 c4 := rfl
        rw [e0] at HBI
        clear e0
        have HBM2 := Lib.hid (fun (_ : Unit) => built_mail i (itemOf (toM n x cs i) none 0 a4 c4))
        have HBD := Lib.hid (build_mail ⟨i, itemOf (toM n x cs i) none 0 a4 c4⟩)
        have HMC : Hid ((Mail.cells ⟨i, itemOf (toM n x cs i) none 0 a4 c4⟩).toArray.size = 1 * 40) := Lib.hid rfl
        have hmv : mailsV [(⟨i, itemOf (toM n x cs i) none 0 a4 c4⟩ : Mail)] = Mail.cells ⟨i, itemOf (toM n x cs i) none 0 a4 c4⟩ := by simp [mailsV]
        have HM1 := Lib.hid (mails_one [⟨i, itemOf (toM n x cs i) none 0 a4 c4⟩])
        have HMV := Lib.hid hmv
        rw [hmv] at HM1
        clear hmv
        have HMA : Hid (∀ G : List Nat, (∀ j ∈ G, j < wr.heap.size) → MailAt w4 G ⟨i, itemOf (toM n x cs i) none 0 a4 c4⟩ (toM n x cs i)) := Lib.hid (fun G hG => by
          obtain ⟨a, c, e, -, -, hb⟩ := Beside.own (F := G) HA4.out hG
          cases e
          exact ⟨none, 0, a4, c4, rfl, .inl rfl, hb⟩)
        have HO4 : Hid (∀ G : List Nat, (∀ j ∈ G, j < w.heap.size) → OutM w4 G w.heap.size (.slice va M.length vc) M (sendM n x cs i)) := Lib.hid (fun G hG => (HO.out G hG).below HK4.out)
        have HOW := Lib.hid (HO4.out [] (by simp)).own
        have HLT : Hid (∀ G : List Nat, (∀ j ∈ G, j < w.heap.size) → ∀ j ∈ G ++ (Value.slice va M.length vc).ownBlock.toList, j < wr.heap.size) := Lib.hid (fun G hG j hj => by
          rcases List.mem_append.1 hj with hj | hj
          · have := hG j hj; omega
          · exact ((HO.out [] (by simp)).lt j hj).2)
        obtain ⟨-, y1, y3, -, y29, y30, y31, y32, y36⟩ := item_cells (HXB.out _ HB4.out)
        generalize hml : (⟨i, itemOf (toM n x cs i) none 0 a4 c4⟩ : Mail) = ML at *
        clear hml
        generalize hmc : ML.cells = MC at *
        clear hmc
        generalize (itemOf (toM n x cs i) none 0 a4 c4).cells.toArray = IC at *
        generalize at1 n cs i = A at *
        clear hem
        go_wp2_with (first
          | (refine wpList_buildBy rfl 36 _ rfl _ rfl IC [(0, .int .u8 11), (1, .int .i64 x.op), (3, .string x.client), (6, .agg #[.string x.msg.t, .string x.msg.p, .int .u8 x.msg.q, .bool x.msg.r]), (8, .slice a4 A.length c4), (10, .int .i64 x.frm)] (by kernel_rfl) (HBI.out ()) ?_)
          | (refine wpList_buildBy rfl 43 _ rfl _ rfl MC.toArray [(0, .int .i64 i), (1, .int .i64 5), (2, .agg IC)] (by kernel_rfl) (HBM2.out ()) ?_)
          | (refine wpList_build1 HBD.out rfl _ rfl rfl _ rfl w4.heap.size rfl ?_)
          | (at_builtin; refine wpList_appS (m := 1) T_mail HOW.out rfl rfl rfl rfl rfl _ rfl HMC.out (by decide) (by simpa using HM1.out) (by omega) (by omega) hs4 ?_; intro ng cap w8 hown8 hg8 hb8 hlt8; have H8 := Lib.hid (And.intro hown8 (And.intro hg8 hb8)); clear hown8 hg8 hb8 hlt8)
          | fail)
        obtain ⟨hown8, hg8, hb8⟩ := H8.out
        go_roundw
        case rel =>
          refine ⟨i + 1, M ++ [ML], by go_num, by omega, fun G hG => ?_, (HB4.out.alloc hs4 _).grown hg8 (by simp; omega) fun k hk => (HOW.out.lt k hk).1⟩
          rw [HSU.out]
          exact (OutM.grow (M2 := [ML]) (H2 := [toM n x cs i]) (HO4.out G hG) (fun j hj => by have := hG j hj; omega) (low_alloc w4 _) (by rw [HMV.out]; simpa using hown8) hg8 (fun b hb => by
            obtain rfl : ng = b := by simpa [Value.ownBlock] using hb
            exact hb8) ⟨HMA.out _ (HLT.out G hG), trivial⟩).1
        case measure => simp [intOf]; omega
    · have hil : ¬ (i : Int) < n := by omega
      obtain rfl : i = n := by omega
      go_wp2_with fail
      exact HQ.out _ _ _ HO.out HB.out
end
section
open Go Go.RowKit

theorem built_back (fr op : Int) (cl : ByteArray) : Tryz.prog.built 36 [(1, .int .i64 op), (3, .string cl)] = some (itemOf ⟨fr, 0, op, cl, Msg.zero, [], [], 0, 0⟩ none 0 none 0).cells.toArray := by kernel_rfl
theorem quiet_one {P : Program} {fn : Func} {R : Ending → World → Prop} {K K1 : Act → World → Prop} {i : Nat} : QuietP (Exit.then K (Exit.inBlock i (Exit.then K1 (bodyPost P fn R)))) := quiet_then (quiet_block (quiet_then quiet_body))
theorem out_one {w : World} {B : Nat} {G : List Nat} {ML : Mail} {MC : List Value} {H : HMail} (hB : B ≤ w.heap.size) (hc : ML.cells = MC) (hG : ∀ j ∈ G, j < w.heap.size) (hm : MailAt w G ML H) :
    OutM (w.alloc (.cells MC.toArray 43)) G B (.slice (some ⟨w.heap.size, 0, none⟩) 1 1) [ML] [H] := by
  subst hc
  refine ⟨?_, fun b hb hk => ?_, ?_, trivial⟩
  · have h := World.ownsRow_lit (base := B) (e := 43) (size := 40) w ML.cells.toArray 1 hB (by unfold maxLen; omega) rfl
    simpa [mailsV] using h
  · obtain rfl : w.heap.size = b := by simpa [Value.ownBlock] using hb
    exact Nat.lt_irrefl _ (hG _ hk)
  · exact hm.upd ⟨Mod.of_below (low_alloc w _) _, fun k hk => by
      rcases List.mem_append.1 hk with hk | hk
      · exact .inl hk
      · right
        simp [Value.ownBlock] at hk
        omega⟩
set_option maxRecDepth 100000 in
set_option maxHeartbeats 8000000 in
theorem done_add (w0 : World) (h n k : Nat) (s : HubS) (lg : Nat) (ns : List NoteK) (F : List Nat) (x : Item) (w : World) (hp : Db w0 w h n k s lg ns F) (hx : SmallI x) (hk : k ≤ 398) (h5 : x.kind = 5) :
    Calls Tryz.prog 54 #[.pointer (some ⟨h, 0, none⟩), .pointer (some ⟨lg, 0, none⟩), .agg x.cells.toArray] w fun e w' => ∃ v L F', e = .returned v ∧ Db w0 w' h n (k + 1) ⟨addG s.gs x.filter.data.toList x.client.data.toList, s.kp⟩ lg ns F' ∧ Upd F F' w w' ∧ ∀ G : List Nat, (∀ j ∈ G, j < w.heap.size) → OutM w' (F' ++ G) w.heap.size v L [backM x 8 (finds x.filter.data.toList s.kp) 0] := by
  have hb1 := low_alloc w (.cells x.cells.toArray 36)
  have hX1 := heap_alloc_new w (.cells x.cells.toArray 36)
  have HIS := Lib.hid (item_size (itemOf (backM x 0 [] 0) none 0 none 0))
  have HI38 : Hid ((38 : Nat) = (itemOf (backM x 0 [] 0) none 0 none 0).cells.toArray.size) := Lib.hid rfl
  have HIO := Lib.hid (item_one (itemOf (backM x 0 [] 0) none 0 none 0))
  have HBI := Lib.hid (fun (_ : Unit) => built_back x.frm x.op x.client)
  have e0 : (itemOf ⟨x.frm, 0, x.op, x.client, Msg.zero, [], [], 0, 0⟩ none 0 none 0) = itemOf (backM x 0 [] 0) none 0 none 0 := rfl
  rw [e0] at HBI
  clear e0
  have HY8 : Hid ((itemOf (backM x 0 [] 0) none 0 none 0).cells.toArray.setIfInBounds 0 (.int .u8 8) = (itemOf (backM x 8 [] 0) none 0 none 0).cells.toArray) := Lib.hid rfl
  have HY0 : Hid ((itemOf (backM x 0 [] 0) none 0 none 0).cells.toArray[0]? = some (.int .u8 0)) := Lib.hid rfl
  generalize hYC : (itemOf (backM x 0 [] 0) none 0 none 0).cells.toArray = YC at *
  have hsX : (w.alloc (.cells x.cells.toArray 36)).heap.size = w.heap.size + 1 := by simp
  have hbz := low_alloc (w.alloc (.cells x.cells.toArray 36)) (.cells YC 36)
  have hYb := heap_alloc_new (w.alloc (.cells x.cells.toArray 36)) (.cells YC 36)
  rw [hsX] at hbz hYb
  have HP := Lib.hid ((hp.below hb1).below (by rw [hsX]; exact hbz))
  have HX := Lib.hid hx
  have HXB := Lib.hid ((hbz.block w.heap.size (by omega)).trans hX1)
  have HYB := Lib.hid hYb
  have HFL := Lib.hid hp.lt
  have hw0 := hp.bel.size
  have HBW := Lib.hid (bnext hb1 (Nat.le_refl _) (by rw [hsX]; exact hbz))
  obtain ⟨c0, c1, c3, -⟩ := item_cells hX1
  obtain ⟨k0, -⟩ := item_cells HXB.out
  clear hp hx hb1 hX1 hbz hYb
  go_enter Tryz.func54, Tryz.ntmps54
  go_wp2_with (first
    | (refine wpList_buildBy rfl 36 _ rfl _ rfl YC [(1, .int .i64 x.op), (3, .string x.client)] (by kernel_rfl) (HBI.out ()) ?_)
    | (refine wpList_store_newTo rfl 36 _ _ rfl rfl (w.heap.size + 1) (by simp) YC _ rfl rfl HIS.out HI38.out HIO.out ?_)
    | fail)
  have hs2 : ((w.alloc (.cells x.cells.toArray 36)).alloc (.cells YC 36)).heap.size = w.heap.size + 2 := by simp
  generalize (w.alloc (.cells x.cells.toArray 36)).alloc (.cells YC 36) = w2 at *
  have HXF : Hid (w.heap.size ∉ F) := Lib.hid (fun hm => by have := HFL.out _ hm; omega)
  have HYF : Hid (w.heap.size + 1 ∉ F) := Lib.hid (fun hm => by have := HFL.out _ hm; omega)
  clear c0 c1 c3 k0
  refine one_r4 w0 h n k s lg ns F x w.heap.size w2 HP.out HX.out (by omega) HXB.out HXF.out quiet_one ?_
  intro d22 d23 d24 d25 d26 d27 d28 d29 d30 w3 F1 hp1 hu1
  dsimp only
  have HXB3 := Lib.hid ((hu1.1.block w.heap.size (by omega) HXF.out).trans HXB.out)
  have HYB3 := Lib.hid ((hu1.1.block (w.heap.size + 1) (by omega) HYF.out).trans HYB.out)
  have HXF1 := Lib.hid (fresh_not (w := w2) (by omega) HXF.out hu1.2)
  have HYF1 := Lib.hid (fresh_not (w := w2) (by omega) HYF.out hu1.2)
  have hs3 : w.heap.size + 2 ≤ w3.heap.size := by have := hu1.1.size; omega
  have HP1 := Lib.hid hp1
  have HU1 := Lib.hid hu1
  clear hp1 hu1
  have c3 : w3.cell? ⟨w.heap.size + 1, 0, none⟩ = some (.int .u8 0) := by rw [cell_of_row _ _ 0 _ _ _ HYB3.out]; exact HY0.out
  have f3 := frozen_of_row w3 (w.heap.size + 1) 0 _ _ HYB3.out
  go_wp2_with fail
  have h4 := heap_setCell_same w3 (w.heap.size + 1) 0 YC 36 (.int .u8 8) HYB3.out
  rw [HY8.out] at h4
  have hm4 : Mod [w.heap.size + 1] w3 (w3.setCell ⟨w.heap.size + 1, 0, none⟩ (.int .u8 8)) := (Mod.refl _ _).setCell (.inl (by simp)) _
  have HP4 := Lib.hid (HP1.out.mod (S' := []) ⟨hm4, by simp⟩ (fun j hj hj' => by rw [List.mem_singleton.1 hj'] at hj; exact HYF1.out hj) (fun j hj => by rw [List.mem_singleton.1 hj]; omega))
  have HXB4 := Lib.hid ((hm4.block w.heap.size (by omega) (by simp)).trans HXB3.out)
  have HYB4 := Lib.hid h4
  have HM4 := Lib.hid hm4
  have hs4 : w.heap.size + 2 ≤ (w3.setCell ⟨w.heap.size + 1, 0, none⟩ (.int .u8 8)).heap.size := by have := hm4.size; omega
  clear c3 f3 h4 hm4
  generalize w3.setCell ⟨w.heap.size + 1, 0, none⟩ (.int .u8 8) = w4 at *
  refine one_r6 w0 h n (k + 1) _ lg ns F1 x w.heap.size w4 HP4.out HX.out (by omega) HXB4.out HXF1.out (w.heap.size + 1) HYB4.out HYF1.out (by omega) quiet_one ?_
  intro d32 d33 d34 d35 d36 d37 d38 d39 w5 fa fc hp5 hy5 hB5 hm5
  dsimp only
  have HXB5 := Lib.hid ((hm5.block w.heap.size (by omega) (by simp)).trans HXB4.out)
  obtain ⟨-, -, -, -, -, -, -, -, c36⟩ := item_cells HXB5.out
  have HM5 := Lib.hid hm5
  have HP5 := Lib.hid hp5
  have HB5 := Lib.hid hB5
  have HY5 := Lib.hid hy5
  have hs5 : w.heap.size + 2 ≤ w5.heap.size := by have := hm5.size; omega
  have HZS := Lib.hid (item_size (itemOf (backM x 8 (finds x.filter.data.toList s.kp) 0) fa fc none 0))
  have HBM := Lib.hid (fun (_ : Unit) => built_mail x.frm (itemOf (backM x 8 (finds x.filter.data.toList s.kp) 0) fa fc none 0))
  have HBD := Lib.hid (build_mail ⟨x.frm, itemOf (backM x 8 (finds x.filter.data.toList s.kp) 0) fa fc none 0⟩)
  have HM1 := Lib.hid (mail_one ⟨x.frm, itemOf (backM x 8 (finds x.filter.data.toList s.kp) 0) fa fc none 0⟩)
  have hmv : mailsV [(⟨x.frm, itemOf (backM x 8 (finds x.filter.data.toList s.kp) 0) fa fc none 0⟩ : Mail)] = Mail.cells ⟨x.frm, itemOf (backM x 8 (finds x.filter.data.toList s.kp) 0) fa fc none 0⟩ := by simp [mailsV]
  have HMV := Lib.hid hmv
  have HMA : Hid (∀ G : List Nat, (∀ j ∈ G, j < w4.heap.size) → MailAt w5 G ⟨x.frm, itemOf (backM x 8 (finds x.filter.data.toList s.kp) 0) fa fc none 0⟩ (backM x 8 (finds x.filter.data.toList s.kp) 0)) := Lib.hid (fun G hG => ⟨fa, fc, none, 0, rfl, HB5.out G hG, .inl rfl⟩)
  clear hp5 hB5 hm5 hy5 hmv
  generalize hml : (⟨x.frm, itemOf (backM x 8 (finds x.filter.data.toList s.kp) 0) fa fc none 0⟩ : Mail) = ML at *
  clear hml
  generalize hmc : ML.cells = MC at *
  generalize (itemOf (backM x 8 (finds x.filter.data.toList s.kp) 0) fa fc none 0).cells.toArray = ZC at *
  go_wp2_with (first
    | (refine wpList_load_row rfl 36 _ rfl (w.heap.size + 1) rfl 36 ZC _ _ HY5.out Tryz.underlying36 rfl HZS.out ?_)
    | (refine wpList_buildBy rfl 43 _ rfl _ rfl MC.toArray [(0, .int .i64 x.frm), (1, .int .i64 5), (2, .agg ZC)] (by kernel_rfl) (HBM.out ()) ?_)
    | (refine wpList_build1 HBD.out rfl _ rfl rfl _ rfl w5.heap.size rfl ?_)
    | fail)
  go_ret
  refine ⟨_, rfl, [ML], F1, HP5.out.below (low_alloc w5 _), ⟨?_, fun j hj => ?_⟩, fun G hG => ?_⟩
  · exact ((((Mod.of_below HBW.out F).trans HU1.out.1 (fun k hk => .inl hk)).trans HM4.out (fun k hk => .inr (by rw [List.mem_singleton.1 hk]; omega))).trans HM5.out (fun k hk => .inr (by rw [List.mem_singleton.1 hk]; omega))).alloc _
  · exact (HU1.out.2 j hj).imp id fun h => by omega
  · refine out_one (by omega) hmc (fun j hj => ?_) (HMA.out (F1 ++ G) fun j hj => ?_)
    · rcases List.mem_append.1 hj with hj | hj
      · exact HP5.out.lt j hj
      · have := hG j hj; omega
    · rcases List.mem_append.1 hj with hj | hj
      · exact HP4.out.lt j hj
      · have := hG j hj; omega
set_option maxRecDepth 100000 in
set_option maxHeartbeats 8000000 in
theorem done_rem (w0 : World) (h n k : Nat) (s : HubS) (lg : Nat) (ns : List NoteK) (F : List Nat) (x : Item) (w : World) (hp : Db w0 w h n k s lg ns F) (hx : SmallI x) (hk : k ≤ 398) (h6 : x.kind = 6) :
    Calls Tryz.prog 54 #[.pointer (some ⟨h, 0, none⟩), .pointer (some ⟨lg, 0, none⟩), .agg x.cells.toArray] w fun e w' => ∃ v L F', e = .returned v ∧ Db w0 w' h n k ⟨s.gs.erase (x.filter.data.toList, x.client.data.toList), s.kp⟩ lg ns F' ∧ Upd F F' w w' ∧ ∀ G : List Nat, (∀ j ∈ G, j < w.heap.size) → OutM w' (F' ++ G) w.heap.size v L [backM x 9 [] 0] := by
  have hb1 := low_alloc w (.cells x.cells.toArray 36)
  have hX1 := heap_alloc_new w (.cells x.cells.toArray 36)
  have HIS := Lib.hid (item_size (itemOf (backM x 0 [] 0) none 0 none 0))
  have HI38 : Hid ((38 : Nat) = (itemOf (backM x 0 [] 0) none 0 none 0).cells.toArray.size) := Lib.hid rfl
  have HIO := Lib.hid (item_one (itemOf (backM x 0 [] 0) none 0 none 0))
  have HBI := Lib.hid (fun (_ : Unit) => built_back x.frm x.op x.client)
  have e0 : (itemOf ⟨x.frm, 0, x.op, x.client, Msg.zero, [], [], 0, 0⟩ none 0 none 0) = itemOf (backM x 0 [] 0) none 0 none 0 := rfl
  rw [e0] at HBI
  clear e0
  have HY8 : Hid ((itemOf (backM x 0 [] 0) none 0 none 0).cells.toArray.setIfInBounds 0 (.int .u8 9) = (itemOf (backM x 9 [] 0) none 0 none 0).cells.toArray) := Lib.hid rfl
  have HY0 : Hid ((itemOf (backM x 0 [] 0) none 0 none 0).cells.toArray[0]? = some (.int .u8 0)) := Lib.hid rfl
  generalize hYC : (itemOf (backM x 0 [] 0) none 0 none 0).cells.toArray = YC at *
  have hsX : (w.alloc (.cells x.cells.toArray 36)).heap.size = w.heap.size + 1 := by simp
  have hbz := low_alloc (w.alloc (.cells x.cells.toArray 36)) (.cells YC 36)
  have hYb := heap_alloc_new (w.alloc (.cells x.cells.toArray 36)) (.cells YC 36)
  rw [hsX] at hbz hYb
  have HP := Lib.hid ((hp.below hb1).below (by rw [hsX]; exact hbz))
  have HX := Lib.hid hx
  have HXB := Lib.hid ((hbz.block w.heap.size (by omega)).trans hX1)
  have HYB := Lib.hid hYb
  have HFL := Lib.hid hp.lt
  have hw0 := hp.bel.size
  have HBW := Lib.hid (bnext hb1 (Nat.le_refl _) (by rw [hsX]; exact hbz))
  obtain ⟨c0, c1, c3, -⟩ := item_cells hX1
  obtain ⟨k0, -⟩ := item_cells HXB.out
  clear hp hx hb1 hX1 hbz hYb
  go_enter Tryz.func54, Tryz.ntmps54
  go_wp2_with (first
    | (refine wpList_buildBy rfl 36 _ rfl _ rfl YC [(1, .int .i64 x.op), (3, .string x.client)] (by kernel_rfl) (HBI.out ()) ?_)
    | (refine wpList_store_newTo rfl 36 _ _ rfl rfl (w.heap.size + 1) (by simp) YC _ rfl rfl HIS.out HI38.out HIO.out ?_)
    | fail)
  have hs2 : ((w.alloc (.cells x.cells.toArray 36)).alloc (.cells YC 36)).heap.size = w.heap.size + 2 := by simp
  generalize (w.alloc (.cells x.cells.toArray 36)).alloc (.cells YC 36) = w2 at *
  have HXF : Hid (w.heap.size ∉ F) := Lib.hid (fun hm => by have := HFL.out _ hm; omega)
  have HYF : Hid (w.heap.size + 1 ∉ F) := Lib.hid (fun hm => by have := HFL.out _ hm; omega)
  clear c0 c1 c3 k0
  refine one_r9 w0 h n k s lg ns F x w.heap.size w2 HP.out HX.out (by omega) HXB.out HXF.out quiet_one ?_
  intro d47 d48 d49 d50 d51 d52 d53 d54 d55 w3 F1 hp1 hu1
  dsimp only
  have HXB3 := Lib.hid ((hu1.1.block w.heap.size (by omega) HXF.out).trans HXB.out)
  have HYB3 := Lib.hid ((hu1.1.block (w.heap.size + 1) (by omega) HYF.out).trans HYB.out)
  have HXF1 := Lib.hid (fresh_not (w := w2) (by omega) HXF.out hu1.2)
  have HYF1 := Lib.hid (fresh_not (w := w2) (by omega) HYF.out hu1.2)
  have hs3 : w.heap.size + 2 ≤ w3.heap.size := by have := hu1.1.size; omega
  have HP1 := Lib.hid hp1
  have HU1 := Lib.hid hu1
  clear hp1 hu1
  have c3 : w3.cell? ⟨w.heap.size + 1, 0, none⟩ = some (.int .u8 0) := by rw [cell_of_row _ _ 0 _ _ _ HYB3.out]; exact HY0.out
  have f3 := frozen_of_row w3 (w.heap.size + 1) 0 _ _ HYB3.out
  go_upto_region 11 with fail
  have h4 := heap_setCell_same w3 (w.heap.size + 1) 0 YC 36 (.int .u8 9) HYB3.out
  rw [HY8.out] at h4
  have hm4 : Mod [w.heap.size + 1] w3 (w3.setCell ⟨w.heap.size + 1, 0, none⟩ (.int .u8 9)) := (Mod.refl _ _).setCell (.inl (by simp)) _
  have HP4 := Lib.hid (HP1.out.mod (S' := []) ⟨hm4, by simp⟩ (fun j hj hj' => by rw [List.mem_singleton.1 hj'] at hj; exact HYF1.out hj) (fun j hj => by rw [List.mem_singleton.1 hj]; omega))
  have HXB4 := Lib.hid ((hm4.block w.heap.size (by omega) (by simp)).trans HXB3.out)
  have HYB4 := Lib.hid h4
  have HM4 := Lib.hid hm4
  have hs4 : w.heap.size + 2 ≤ (w3.setCell ⟨w.heap.size + 1, 0, none⟩ (.int .u8 9)).heap.size := by have := hm4.size; omega
  clear c3 f3 h4 hm4
  generalize w3.setCell ⟨w.heap.size + 1, 0, none⟩ (.int .u8 9) = w4 at *
  obtain ⟨-, -, -, -, -, -, -, -, c36⟩ := item_cells HXB4.out
  have HZS := Lib.hid (item_size (itemOf (backM x 9 [] 0) none 0 none 0))
  have HBM := Lib.hid (fun (_ : Unit) => built_mail x.frm (itemOf (backM x 9 [] 0) none 0 none 0))
  have HBD := Lib.hid (build_mail ⟨x.frm, itemOf (backM x 9 [] 0) none 0 none 0⟩)
  have HM1 := Lib.hid (mail_one ⟨x.frm, itemOf (backM x 9 [] 0) none 0 none 0⟩)
  have hmv : mailsV [(⟨x.frm, itemOf (backM x 9 [] 0) none 0 none 0⟩ : Mail)] = Mail.cells ⟨x.frm, itemOf (backM x 9 [] 0) none 0 none 0⟩ := by simp [mailsV]
  have HMV := Lib.hid hmv
  have HMA : Hid (∀ G : List Nat, MailAt w4 G ⟨x.frm, itemOf (backM x 9 [] 0) none 0 none 0⟩ (backM x 9 [] 0)) := Lib.hid (fun G => ⟨none, 0, none, 0, rfl, .inl rfl, .inl rfl⟩)
  clear hmv
  generalize hml : (⟨x.frm, itemOf (backM x 9 [] 0) none 0 none 0⟩ : Mail) = ML at *
  clear hml
  generalize hmc : ML.cells = MC at *
  generalize (itemOf (backM x 9 [] 0) none 0 none 0).cells.toArray = ZC at *
  go_wp2_with (first
    | (refine wpList_load_row rfl 36 _ rfl (w.heap.size + 1) rfl 36 ZC _ _ HYB4.out Tryz.underlying36 rfl HZS.out ?_)
    | (refine wpList_buildBy rfl 43 _ rfl _ rfl MC.toArray [(0, .int .i64 x.frm), (1, .int .i64 5), (2, .agg ZC)] (by kernel_rfl) (HBM.out ()) ?_)
    | (refine wpList_build1 HBD.out rfl _ rfl rfl _ rfl w4.heap.size rfl ?_)
    | fail)
  go_ret
  refine ⟨_, [ML], F1, rfl, HP4.out.below (low_alloc w4 _), ⟨?_, fun j hj => ?_⟩, fun G hG => ?_⟩
  · exact ((((Mod.of_below HBW.out F).trans HU1.out.1 (fun k hk => .inl hk)).trans HM4.out (fun k hk => .inr (by rw [List.mem_singleton.1 hk]; omega)))).alloc _
  · exact (HU1.out.2 j hj).imp id fun h => by omega
  · refine out_one (by omega) hmc (fun j hj => ?_) (HMA.out (F1 ++ G))
    · rcases List.mem_append.1 hj with hj | hj
      · exact HP4.out.lt j hj
      · have := hG j hj; omega
set_option maxRecDepth 100000 in
set_option maxHeartbeats 8000000 in
theorem done_none (w0 : World) (h n k : Nat) (s : HubS) (lg : Nat) (ns : List NoteK) (F : List Nat) (x : Item) (w : World) (hp : Db w0 w h n k s lg ns F) (k5 : x.kind ≠ 5) (k6 : x.kind ≠ 6) (k7 : x.kind ≠ 7) :
    Calls Tryz.prog 54 #[.pointer (some ⟨h, 0, none⟩), .pointer (some ⟨lg, 0, none⟩), .agg x.cells.toArray] w fun e w' => e = .returned (.slice none 0 0) ∧ Db w0 w' h n k s lg ns F ∧ Below w.heap.size w w' := by
  have hb1 := low_alloc w (.cells x.cells.toArray 36)
  have hX1 := heap_alloc_new w (.cells x.cells.toArray 36)
  have HIS := Lib.hid (item_size (itemOf (backM x 0 [] 0) none 0 none 0))
  have HI38 : Hid ((38 : Nat) = (itemOf (backM x 0 [] 0) none 0 none 0).cells.toArray.size) := Lib.hid rfl
  have HIO := Lib.hid (item_one (itemOf (backM x 0 [] 0) none 0 none 0))
  have HBI := Lib.hid (fun (_ : Unit) => built_back x.frm x.op x.client)
  have e0 : (itemOf ⟨x.frm, 0, x.op, x.client, Msg.zero, [], [], 0, 0⟩ none 0 none 0) = itemOf (backM x 0 [] 0) none 0 none 0 := rfl
  rw [e0] at HBI
  clear e0
  generalize (itemOf (backM x 0 [] 0) none 0 none 0).cells.toArray = YC at *
  have hsX : (w.alloc (.cells x.cells.toArray 36)).heap.size = w.heap.size + 1 := by simp
  have hbz := low_alloc (w.alloc (.cells x.cells.toArray 36)) (.cells YC 36)
  rw [hsX] at hbz
  have HP := Lib.hid ((hp.below hb1).below (by rw [hsX]; exact hbz))
  have HXB := Lib.hid ((hbz.block w.heap.size (by omega)).trans hX1)
  have HBW := Lib.hid (bnext hb1 (Nat.le_refl _) (by rw [hsX]; exact hbz))
  obtain ⟨c0, c1, c3, -⟩ := item_cells hX1
  obtain ⟨k0, -⟩ := item_cells HXB.out
  clear hp hb1 hX1 hbz
  go_enter Tryz.func54, Tryz.ntmps54
  go_wp2_with (first
    | (refine wpList_buildBy rfl 36 _ rfl _ rfl YC [(1, .int .i64 x.op), (3, .string x.client)] (by kernel_rfl) (HBI.out ()) ?_)
    | (refine wpList_store_newTo rfl 36 _ _ rfl rfl (w.heap.size + 1) (by simp) YC _ rfl rfl HIS.out HI38.out HIO.out ?_)
    | fail)
  go_ret
  exact ⟨rfl, HP.out, HBW.out⟩
end
end Go.Proofs.YthfdcphecggjeaaGreatDoor
