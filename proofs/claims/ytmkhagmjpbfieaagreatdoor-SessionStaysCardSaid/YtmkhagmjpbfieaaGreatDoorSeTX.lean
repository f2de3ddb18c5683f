/- A session's law: told walked. A session's law: what is told, compared. -/
import Derived.Test.YtmkhagmjpbfieaaGreatDoorSeGX
import Derived.Test.YtmkhagmjpbfieaaGreatDoorIOpen
import Derived.Test.YtmkhagmjpbfieaaGreatDoorPkSame
namespace Go.Proofs.YtmkhagmjpbfieaaGreatDoor
section
open Go Go.RowKit

/-- what a session tells lies in rows -/
structure ToldAt (w : World) (x : SS) (a1 a2 a3 : Option Addr) : Prop where
  subs : Row w a1 (subsV x.l)
  res : Row w a2 (pksV (resumeO x.o))
  opn : Row w a3 (u16s x.came)
def toldC (x : SS) (a1 a2 a3 : Option Addr) (c1 c2 c3 : Nat) : Array Value := #[.slice a1 x.l.length c1, .slice a2 (resumeO x.o).length c2, .slice a3 x.came.length c3, .int .i64 x.o.wait.length]
theorem ToldAt.below {w w' : World} {x : SS} {a1 a2 a3 : Option Addr} (h : ToldAt w x a1 a2 a3) (hb : Below w.heap.size w w') : ToldAt w' x a1 a2 a3 := ⟨h.subs.below hb (Nat.le_refl _), h.res.below hb (Nat.le_refl _), h.opn.below hb (Nat.le_refl _)⟩
theorem built_told (x : SS) (a1 a2 a3 : Option Addr) (c1 c2 c3 : Nat) : Tryz.prog.built 48 [(0, .slice a1 x.l.length c1), (1, .slice a2 (resumeO x.o).length c2), (2, .slice a3 x.came.length c3), (3, .int .i64 x.o.wait.length)] = some (toldC x a1 a2 a3 c1 c2 c3) := by
  unfold toldC
  generalize x.l.length = n1
  generalize (resumeO x.o).length = n2
  generalize x.came.length = n3
  generalize x.o.wait.length = n4
  kernel_rfl
set_option maxRecDepth 100000 in
set_option maxHeartbeats 4000000 in
theorem told_any (s : Nat) (x : SS) (win most : Int) (F : List Nat) (w : World) (h : SesRep w s win most x F) :
    Calls Tryz.prog 13 #[.pointer (some ⟨s, 0, none⟩)] w fun e w' => ∃ a1 a2 a3 c1 c2 c3, e = .returned (.agg (toldC x a1 a2 a3 c1 c2 c3)) ∧ ToldAt w' x a1 a2 a3 ∧ Below w.heap.size w w' ∧ (∀ b o, (a1 = some ⟨b, o, none⟩ ∨ a2 = some ⟨b, o, none⟩ ∨ a3 = some ⟨b, o, none⟩) → w.heap.size ≤ b) := by
  obtain ⟨W, hW⟩ : ∃ W, w.alloc (.cells #[.slice none 0 0, .slice none 0 0, .slice none 0 0, .int .i64 0] 48) = W := ⟨_, rfl⟩
  have hb : Below w.heap.size w W := by rw [← hW]; exact low_alloc _ _
  have hx : W.heap[w.heap.size]? = some (.cells #[.slice none 0 0, .slice none 0 0, .slice none 0 0, .int .i64 0] 48 (0, 0)) := by rw [← hW]; exact heap_alloc_new _ _
  have hsz : w.heap.size < W.heap.size := by rw [← hW]; simp
  obtain ⟨lb, tb, cb, FL, FO, FC, hp, rfl⟩ := h.below hb
  have HSB : Hid (∀ X, Below W.heap.size W X → SParts X s lb tb cb x win most FL FO FC) := Lib.hid (fun X hX => hp.below hX)
  have HS : Hid (∀ X, Below W.heap.size W X → X.cell? ⟨s, 8, none⟩ = some (.pointer (some ⟨lb, 0, none⟩)) ∧ X.cell? ⟨s, 9, none⟩ = some (.pointer (some ⟨tb, 0, none⟩)) ∧ X.cell? ⟨s, 10, none⟩ = some (.pointer (some ⟨cb, 0, none⟩))) := Lib.hid (fun X hX => by
    obtain ⟨-, -, -, -, -, -, -, -, k8, k9, k10⟩ := (hp.below hX).cells
    exact ⟨k8, k9, k10⟩)
  have HB := Lib.hid hb
  have HX := Lib.hid hx
  clear hp h hb hx
  go_enter Tryz.func13, Tryz.ntmps13
  go_upto_region 1 with fail
  try rw [hW]
  clear hW
  refine wp_region_tail (S := fun X => X.cell? ⟨s, 8, none⟩ = some (.pointer (some ⟨lb, 0, none⟩)) ∧ X.cell? ⟨s, 9, none⟩ = some (.pointer (some ⟨tb, 0, none⟩)) ∧ X.cell? ⟨s, 10, none⟩ = some (.pointer (some ⟨cb, 0, none⟩))) 21 (by kernel_rfl) (HS.out W (Below.refl _ _)) (fun hHeld => ?_)
  refine wpTail.take (i := 0) (v := ?_) rfl (by kernel_rfl) (by kernel_rfl) (by kernel_rfl) (by kernel_rfl) (by kernel_rfl) (fun _ _ _ h => h) (Or.inl ⟨rfl, ?_⟩) hHeld ?_
  rotate_left
  · intro w0 hS0
    try dsimp only at hS0
    go_simp
    try with_reducible rfl
  simp only [List.getElem_toArray, List.getElem_cons_zero, Act.put, List.setIfInBounds_toArray, List.set_cons_zero, List.set_cons_succ]
  refine wpTail.take (i := 1) (v := ?_) rfl (by kernel_rfl) (by kernel_rfl) (by kernel_rfl) (by kernel_rfl) (by kernel_rfl) (fun _ _ _ h => h) (Or.inl ⟨rfl, ?_⟩) hHeld ?_
  rotate_left
  · intro w0 hS0
    try dsimp only at hS0
    go_simp
    try with_reducible rfl
  simp only [List.getElem_toArray, List.getElem_cons_zero, List.getElem_cons_succ, Act.put, List.setIfInBounds_toArray, List.set_cons_zero, List.set_cons_succ]
  refine wpTail.take (i := 2) (v := ?_) rfl (by kernel_rfl) (by kernel_rfl) (by kernel_rfl) (by kernel_rfl) (by kernel_rfl) (fun _ _ _ h => h) (Or.inl ⟨rfl, ?_⟩) hHeld ?_
  rotate_left
  · intro w0 hS0
    try dsimp only at hS0
    go_simp
    try with_reducible rfl
  simp only [List.getElem_toArray, List.getElem_cons_zero, List.getElem_cons_succ, Act.put, List.setIfInBounds_toArray, List.set_cons_zero, List.set_cons_succ]
  refine wpTail.take (i := 3) (v := ?_) rfl (by kernel_rfl) (by kernel_rfl) (by kernel_rfl) (by kernel_rfl) (by kernel_rfl) (fun _ _ _ h => h) (Or.inl ⟨rfl, ?_⟩) hHeld ?_
  rotate_left
  · intro w0 hS0
    try dsimp only at hS0
    go_simp
    try with_reducible rfl
  simp only [List.getElem_toArray, List.getElem_cons_zero, List.getElem_cons_succ, Act.put, List.setIfInBounds_toArray, List.set_cons_zero, List.set_cons_succ]
  refine wpTail.take (i := 5) (v := ?_) rfl (by kernel_rfl) (by kernel_rfl) (by kernel_rfl) (by kernel_rfl) (by kernel_rfl) (fun _ _ _ h => h) (Or.inl ⟨rfl, ?_⟩) hHeld ?_
  rotate_left
  · intro w0 hS0
    try dsimp only at hS0
    go_simp
    try with_reducible rfl
  simp only [List.getElem_toArray, List.getElem_cons_zero, List.getElem_cons_succ, Act.put, List.setIfInBounds_toArray, List.set_cons_zero, List.set_cons_succ]
  refine wpTail.take (i := 6) (v := ?_) rfl (by kernel_rfl) (by kernel_rfl) (by kernel_rfl) (by kernel_rfl) (by kernel_rfl) (fun _ _ _ h => h) (Or.inl ⟨rfl, ?_⟩) hHeld ?_
  rotate_left
  · intro w0 hS0
    try dsimp only at hS0
    go_simp
    try with_reducible rfl
  simp only [List.getElem_toArray, List.getElem_cons_zero, List.getElem_cons_succ, Act.put, List.setIfInBounds_toArray, List.set_cons_zero, List.set_cons_succ]
  refine wpTail.take (i := 7) (v := ?_) rfl (by kernel_rfl) (by kernel_rfl) (by kernel_rfl) (by kernel_rfl) (by kernel_rfl) (fun _ _ _ h => h) (Or.inl ⟨rfl, ?_⟩) hHeld ?_
  rotate_left
  · intro w0 hS0
    try dsimp only at hS0
    go_simp
    try with_reducible rfl
  simp only [List.getElem_toArray, List.getElem_cons_zero, List.getElem_cons_succ, Act.put, List.setIfInBounds_toArray, List.set_cons_zero, List.set_cons_succ]
  refine wpTail.take (i := 8) (v := ?_) rfl (by kernel_rfl) (by kernel_rfl) (by kernel_rfl) (by kernel_rfl) (by kernel_rfl) (fun _ _ _ h => h) (Or.inl ⟨rfl, ?_⟩) hHeld ?_
  rotate_left
  · intro w0 hS0
    try dsimp only at hS0
    go_simp
    try with_reducible rfl
  simp only [List.getElem_toArray, List.getElem_cons_zero, List.getElem_cons_succ, Act.put, List.setIfInBounds_toArray, List.set_cons_zero, List.set_cons_succ]
  refine wpTail.take (i := 10) (v := ?_) rfl (by kernel_rfl) (by kernel_rfl) (by kernel_rfl) (by kernel_rfl) (by kernel_rfl) (fun _ _ _ h => h) (Or.inl ⟨rfl, ?_⟩) hHeld ?_
  rotate_left
  · intro w0 hS0
    try dsimp only at hS0
    go_simp
    try with_reducible rfl
  simp only [List.getElem_toArray, List.getElem_cons_zero, List.getElem_cons_succ, Act.put, List.setIfInBounds_toArray, List.set_cons_zero, List.set_cons_succ]
  refine wpTail.take (i := 11) (v := ?_) rfl (by kernel_rfl) (by kernel_rfl) (by kernel_rfl) (by kernel_rfl) (by kernel_rfl) (fun _ _ _ h => h) (Or.inl ⟨rfl, ?_⟩) hHeld ?_
  rotate_left
  · intro w0 hS0
    try dsimp only at hS0
    go_simp
    try with_reducible rfl
  simp only [List.getElem_toArray, List.getElem_cons_zero, List.getElem_cons_succ, Act.put, List.setIfInBounds_toArray, List.set_cons_zero, List.set_cons_succ]
  refine wpTail.take (i := 12) (v := ?_) rfl (by kernel_rfl) (by kernel_rfl) (by kernel_rfl) (by kernel_rfl) (by kernel_rfl) (fun _ _ _ h => h) (Or.inl ⟨rfl, ?_⟩) hHeld ?_
  rotate_left
  · intro w0 hS0
    try dsimp only at hS0
    go_simp
    try with_reducible rfl
  simp only [List.getElem_toArray, List.getElem_cons_zero, List.getElem_cons_succ, Act.put, List.setIfInBounds_toArray, List.set_cons_zero, List.set_cons_succ]
  refine wpTail.take (i := 13) (v := ?_) rfl (by kernel_rfl) (by kernel_rfl) (by kernel_rfl) (by kernel_rfl) (by kernel_rfl) (fun _ _ _ h => h) (Or.inl ⟨rfl, ?_⟩) hHeld ?_
  rotate_left
  · intro w0 hS0
    try dsimp only at hS0
    go_simp
    try with_reducible rfl
  simp only [List.getElem_toArray, List.getElem_cons_zero, List.getElem_cons_succ, Act.put, List.setIfInBounds_toArray, List.set_cons_zero, List.set_cons_succ]
  refine wpTail.take (i := 15) (v := ?_) rfl (by kernel_rfl) (by kernel_rfl) (by kernel_rfl) (by kernel_rfl) (by kernel_rfl) (fun _ _ _ h => h) (Or.inl ⟨rfl, ?_⟩) hHeld ?_
  rotate_left
  · intro w0 hS0
    try dsimp only at hS0
    go_simp
    try with_reducible rfl
  simp only [List.getElem_toArray, List.getElem_cons_zero, List.getElem_cons_succ, Act.put, List.setIfInBounds_toArray, List.set_cons_zero, List.set_cons_succ]
  refine wpTail.take (i := 16) (v := ?_) rfl (by kernel_rfl) (by kernel_rfl) (by kernel_rfl) (by kernel_rfl) (by kernel_rfl) (fun _ _ _ h => h) (Or.inl ⟨rfl, ?_⟩) hHeld ?_
  rotate_left
  · intro w0 hS0
    try dsimp only at hS0
    go_simp
    try with_reducible rfl
  simp only [List.getElem_toArray, List.getElem_cons_zero, List.getElem_cons_succ, Act.put, List.setIfInBounds_toArray, List.set_cons_zero, List.set_cons_succ]
  refine wpTail.take (i := 17) (v := ?_) rfl (by kernel_rfl) (by kernel_rfl) (by kernel_rfl) (by kernel_rfl) (by kernel_rfl) (fun _ _ _ h => h) (Or.inl ⟨rfl, ?_⟩) hHeld ?_
  rotate_left
  · intro w0 hS0
    try dsimp only at hS0
    go_simp
    try with_reducible rfl
  simp only [List.getElem_toArray, List.getElem_cons_zero, List.getElem_cons_succ, Act.put, List.setIfInBounds_toArray, List.set_cons_zero, List.set_cons_succ]
  refine wpTail.take (i := 18) (v := ?_) rfl (by kernel_rfl) (by kernel_rfl) (by kernel_rfl) (by kernel_rfl) (by kernel_rfl) (fun _ _ _ h => h) (Or.inl ⟨rfl, ?_⟩) hHeld ?_
  rotate_left
  · intro w0 hS0
    try dsimp only at hS0
    go_simp
    try with_reducible rfl
  simp only [List.getElem_toArray, List.getElem_cons_zero, List.getElem_cons_succ, Act.put, List.setIfInBounds_toArray, List.set_cons_zero, List.set_cons_succ]
  refine wpTail.ready (rs := [4]) (by kernel_rfl) (by simp) ?_
  refine AllTail.cons rfl (fun K hK => ?_) AllTail.nil
  rw [if_pos (by rfl)]
  go_simp
  go_at_call 26
  refine (subs_any lb x.l FL _ (HSB.out _ (Below.refl _ _).drew).subs).mono ?_
  rintro e w1 ⟨v1, rfl, ho1, hk⟩
  have HB1 : Hid (Below W.heap.size W w1) := Lib.hid ((Below.refl _ _).drew.trans hk)
  have hs1 := HB1.out.size
  obtain ⟨a1, c1, rfl, hr1, -, -⟩ := ownsRow_row ho1
  have hl1 := ho1.lt
  have HO1 := Lib.hid ho1
  have HR1 := Lib.hid hr1
  clear ho1 hr1
  clear hk
  refine hK.out _ _ (fun _ => HS.out _ HB1.out) (fun hHeld => ?_)
  replace hHeld := hHeld (by decide)
  refine wpTail.ready (rs := [9]) (by kernel_rfl) (by simp) ?_
  refine AllTail.cons rfl (fun K hK => ?_) AllTail.nil
  rw [if_pos (by rfl)]
  go_simp
  go_at_call 49
  refine (resume_any tb win most x.o FO _ (HSB.out _ HB1.out).out).mono ?_
  rintro e w2 ⟨v2, rfl, ho2, hk⟩
  have HB2 : Hid (Below W.heap.size W w2) := Lib.hid (HB1.out.trans (hk.mono hs1))
  have hs2 := HB2.out.size
  obtain ⟨a2, c2, rfl, hr2, -, -⟩ := ownsRow_row ho2
  have HR1b := Lib.hid (HR1.out.below hk (Nat.le_refl _))
  have HO2 := Lib.hid ho2
  have HR2 := Lib.hid hr2
  clear ho2 hr2
  clear hk
  refine hK.out _ _ (fun _ => HS.out _ HB2.out) (fun hHeld => ?_)
  replace hHeld := hHeld (by decide)
  refine wpTail.ready (rs := [14]) (by kernel_rfl) (by simp) ?_
  refine AllTail.cons rfl (fun K hK => ?_) AllTail.nil
  rw [if_pos (by rfl)]
  go_simp
  go_at_call 53
  refine (copen cb x.came FC _ (HSB.out _ HB2.out).came).mono ?_
  rintro e w3 ⟨v3, rfl, ho3, hk⟩
  have HB3 : Hid (Below W.heap.size W w3) := Lib.hid (HB2.out.trans (hk.mono hs2))
  have hs3 := HB3.out.size
  obtain ⟨a3, c3, rfl, hr3, -, -⟩ := ownsRow_row ho3
  have HR1c := Lib.hid (HR1b.out.below hk (Nat.le_refl _))
  have HR2c := Lib.hid (HR2.out.below hk (Nat.le_refl _))
  have HO3 := Lib.hid ho3
  have HR3 := Lib.hid hr3
  clear ho3 hr3
  clear hk
  refine hK.out _ _ (fun _ => HS.out _ HB3.out) (fun hHeld => ?_)
  replace hHeld := hHeld (by decide)
  refine wpTail.ready (rs := [19]) (by kernel_rfl) (by simp) ?_
  refine AllTail.cons rfl (fun K hK => ?_) AllTail.nil
  rw [if_pos (by rfl)]
  go_simp
  go_at_call 25
  refine (waits_any tb win most x.o FO _ (HSB.out _ HB3.out).out).mono ?_
  rintro e w4 ⟨rfl, hk⟩
  have HB4 : Hid (Below W.heap.size W w4) := Lib.hid (HB3.out.trans (hk.mono hs3))
  have hs4 := HB4.out.size
  have HT := Lib.hid (ToldAt.mk (x := x) (HR1c.out.below hk (Nat.le_refl _)) (HR2c.out.below hk (Nat.le_refl _)) (HR3.out.below hk (Nat.le_refl _)))
  clear hk
  refine hK.out _ _ (fun _ => HS.out _ HB4.out) (fun hHeld => ?_)
  replace hHeld := hHeld (by decide)
  refine wpTail.take (i := 20) (v := .agg (toldC x a1 a2 a3 c1 c2 c3)) rfl (by kernel_rfl) (by kernel_rfl) (by kernel_rfl) (by kernel_rfl) (by kernel_rfl) (fun _ _ _ h => h) (Or.inl ⟨rfl, ?_⟩) hHeld ?_
  · intro w0 hS0
    exact exec_build 48 _ rfl (toldC x a1 a2 a3 c1 c2 c3) [(0, .slice a1 x.l.length c1), (1, .slice a2 (resumeO x.o).length c2), (2, .slice a3 x.came.length c3), (3, .int .i64 x.o.wait.length)] (by kernel_rfl) (built_told x a1 a2 a3 c1 c2 c3)
  simp only [List.getElem_toArray, List.getElem_cons_zero, List.getElem_cons_succ, Act.put, List.setIfInBounds_toArray, List.set_cons_zero, List.set_cons_succ]
  have hx4 := (HB4.out.block w.heap.size hsz).trans HX.out
  have q0 := cell_of_row _ _ 0 _ _ _ hx4
  have q1 := cell_of_row _ _ 1 _ _ _ hx4
  have q2 := cell_of_row _ _ 2 _ _ _ hx4
  have q3 := cell_of_row _ _ 3 _ _ _ hx4
  simp only [List.getElem?_toArray, List.getElem?_cons_zero, List.getElem?_cons_succ] at q0 q1 q2 q3
  have fr := fun k => frozen_of_row _ _ k _ _ hx4
  refine wpTail.ready (rs := [21]) (by kernel_rfl) (by simp) ?_
  refine AllTail.cons rfl (fun K hK => ?_) AllTail.nil
  rw [if_pos (by rfl)]
  dsimp only [toldC]
  go_simp
  refine hK.out _ _ (fun h => absurd rfl h) (fun _ => ?_)
  refine wpTail.done (by kernel_rfl) ?_ _
  have h9 := heap_setCell_same _ _ 3 _ _ (.int .i64 x.o.wait.length) (heap_setCell_same _ _ 2 _ _ (.slice a3 x.came.length c3) (heap_setCell_same _ _ 1 _ _ (.slice a2 (resumeO x.o).length c2) (heap_setCell_same _ _ 0 _ _ (.slice a1 x.l.length c1) hx4)))
  have hm9 : Mod [w.heap.size] w4 ((((w4.setCell ⟨w.heap.size, 0, none⟩ (.slice a1 x.l.length c1)).setCell ⟨w.heap.size, 1, none⟩ (.slice a2 (resumeO x.o).length c2)).setCell ⟨w.heap.size, 2, none⟩ (.slice a3 x.came.length c3)).setCell ⟨w.heap.size, 3, none⟩ (.int .i64 x.o.wait.length)) := ((((Mod.refl _ _).setCell (.inl (by simp)) _).setCell (.inl (by simp)) _).setCell (.inl (by simp)) _).setCell (.inl (by simp)) _
  have hl : ∀ b o, (a1 = some ⟨b, o, none⟩ ∨ a2 = some ⟨b, o, none⟩ ∨ a3 = some ⟨b, o, none⟩) → w.heap.size < b := fun b o h => by
    rcases h with h | h | h
    · have := (HO1.out.lt b (by rw [h]; rfl)).1
      have : W.heap.size ≤ b := this
      omega
    · have := (HO2.out.lt b (by rw [h]; rfl)).1
      omega
    · have := (HO3.out.lt b (by rw [h]; rfl)).1
      omega
  have hF : Hid (ToldAt ((((w4.setCell ⟨w.heap.size, 0, none⟩ (.slice a1 x.l.length c1)).setCell ⟨w.heap.size, 1, none⟩ (.slice a2 (resumeO x.o).length c2)).setCell ⟨w.heap.size, 2, none⟩ (.slice a3 x.came.length c3)).setCell ⟨w.heap.size, 3, none⟩ (.int .i64 x.o.wait.length)) x a1 a2 a3 ∧ Below w.heap.size w ((((w4.setCell ⟨w.heap.size, 0, none⟩ (.slice a1 x.l.length c1)).setCell ⟨w.heap.size, 1, none⟩ (.slice a2 (resumeO x.o).length c2)).setCell ⟨w.heap.size, 2, none⟩ (.slice a3 x.came.length c3)).setCell ⟨w.heap.size, 3, none⟩ (.int .i64 x.o.wait.length)) ∧ ∀ b o, (a1 = some ⟨b, o, none⟩ ∨ a2 = some ⟨b, o, none⟩ ∨ a3 = some ⟨b, o, none⟩) → w.heap.size ≤ b) := Lib.hid
    ⟨⟨HT.out.subs.mod hm9 fun b o e => by have := hl b o (.inl e); simp; omega, HT.out.res.mod hm9 fun b o e => by have := hl b o (.inr (.inl e)); simp; omega, HT.out.opn.mod hm9 fun b o e => by have := hl b o (.inr (.inr e)); simp; omega⟩,
      (bnext HB.out (Nat.le_refl _) HB4.out).trans (hm9.below (Nat.le_trans HB.out.size hs4) (by simp)), fun b o h => Nat.le_of_lt (hl b o h)⟩
  have H9 := Lib.hid h9
  clear h9 hm9 hl q0 q1 q2 q3 fr hx4
  go_wp2_with fail
  exact bodyPost_ret (results_cell_row rfl _ _ w.heap.size 48 (toldC x a1 a2 a3 c1 c2 c3) (0, 0) _ rfl (by simpa [toldC] using H9.out) Tryz.underlying48 rfl (by kernel_rfl)) rfl ⟨a1, a2, a3, c1, c2, c3, rfl, hF.out.1, hF.out.2.1, hF.out.2.2⟩
end
section
open Go Go.RowKit

set_option maxRecDepth 100000 in
theorem sub_neq (f : ByteArray) (q : Int) (w : World) : (binOp .neq 39 (.agg #[.string f, .int .u8 q]) (.agg #[.string f, .int .u8 q])).run Tryz.prog w = .ok (.bool false) w := by
  have hst : Tryz.prog.stoodInHeld 39 = false := by kernel_rfl
  have hgd : Tryz.prog.eqGuardType Tryz.prog.depth 39 = false := by kernel_rfl
  go_simp
set_option maxRecDepth 100000 in
set_option maxHeartbeats 4000000 in
theorem same18_any (L : List SubE) (R : List Pkt) (O : List Int) (n : Int) (a1 a2 a3 b1 b2 b3 : Option Addr) (c1 c2 c3 d1 d2 d3 : Nat) (w : World) (hL1 : Row w a1 (subsV L)) (hL2 : Row w b1 (subsV L)) (hR1 : Row w a2 (pksV R)) (hR2 : Row w b2 (pksV R)) (hO1 : Row w a3 (u16s O)) (hO2 : Row w b3 (u16s O))
    (hs : ∀ x ∈ R, x.subs = []) (hl : L.length ≤ 100000) (hr : R.length ≤ 100000) (ho : O.length ≤ 100000) :
    Calls Tryz.prog 16 #[.agg #[.slice a1 L.length c1, .slice a2 R.length c2, .slice a3 O.length c3, .int .i64 n], .agg #[.slice b1 L.length d1, .slice b2 R.length d2, .slice b3 O.length d3, .int .i64 n]] w fun e w' => e = .returned (.bool true) ∧ Below w.heap.size w w' := by
  obtain ⟨W, hW⟩ : ∃ W, (w.alloc (.cells #[.slice a1 L.length c1, .slice a2 R.length c2, .slice a3 O.length c3, .int .i64 n] 48)).alloc (.cells #[.slice b1 L.length d1, .slice b2 R.length d2, .slice b3 O.length d3, .int .i64 n] 48) = W := ⟨_, rfl⟩
  have hb : Below w.heap.size w W := by rw [← hW]; exact (low_alloc w _).alloc (by simp) _
  have hA : W.heap[w.heap.size]? = some (.cells #[.slice a1 L.length c1, .slice a2 R.length c2, .slice a3 O.length c3, .int .i64 n] 48 (0, 0)) := by rw [← hW]; exact (Below.heap_alloc _ _ _ (by simp)).trans (heap_alloc_new w _)
  have hB : W.heap[w.heap.size + 1]? = some (.cells #[.slice b1 L.length d1, .slice b2 R.length d2, .slice b3 O.length d3, .int .i64 n] 48 (0, 0)) := by
    rw [← hW]
    have := heap_alloc_new (w.alloc (.cells #[.slice a1 L.length c1, .slice a2 R.length c2, .slice a3 O.length c3, .int .i64 n] 48)) (.cells #[.slice b1 L.length d1, .slice b2 R.length d2, .slice b3 O.length d3, .int .i64 n] 48)
    rwa [World.size_alloc] at this
  have hWs : w.heap.size + 1 < W.heap.size := (Array.getElem?_eq_some_iff.1 hB).1
  have HX : Hid (∀ X, Below W.heap.size W X → (X.cell? ⟨w.heap.size, 0, none⟩ = some (.slice a1 L.length c1) ∧ X.cell? ⟨w.heap.size, 1, none⟩ = some (.slice a2 R.length c2) ∧ X.cell? ⟨w.heap.size, 2, none⟩ = some (.slice a3 O.length c3) ∧ X.cell? ⟨w.heap.size, 3, none⟩ = some (.int .i64 n)) ∧
      X.cell? ⟨w.heap.size + 1, 0, none⟩ = some (.slice b1 L.length d1) ∧ X.cell? ⟨w.heap.size + 1, 1, none⟩ = some (.slice b2 R.length d2) ∧ X.cell? ⟨w.heap.size + 1, 2, none⟩ = some (.slice b3 O.length d3) ∧ X.cell? ⟨w.heap.size + 1, 3, none⟩ = some (.int .i64 n)) := Lib.hid (fun X hX => by
    obtain ⟨p0, p1, p2, p3⟩ := cells4 ((hX.block _ (by omega)).trans hA)
    obtain ⟨q0, q1, q2, q3⟩ := cells4 ((hX.block _ (by omega)).trans hB)
    exact ⟨⟨p0, p1, p2, p3⟩, q0, q1, q2, q3⟩)
  have HR : Hid (∀ X, Below W.heap.size W X → (Row X a1 (subsV L) ∧ Row X b1 (subsV L)) ∧ (Row X a2 (pksV R) ∧ Row X b2 (pksV R)) ∧ Row X a3 (u16s O) ∧ Row X b3 (u16s O)) := Lib.hid (fun X hX => by
    have h1 := bnext hb (Nat.le_refl _) hX
    exact ⟨⟨hL1.below h1 (Nat.le_refl _), hL2.below h1 (Nat.le_refl _)⟩, ⟨hR1.below h1 (Nat.le_refl _), hR2.below h1 (Nat.le_refl _)⟩, hO1.below h1 (Nat.le_refl _), hO2.below h1 (Nat.le_refl _)⟩)
  have HS := Lib.hid hs
  have HB := Lib.hid hb
  obtain ⟨⟨p0, p1, p2, p3⟩, q0, q1, q2, q3⟩ := HX.out W (Below.refl _ _)
  clear hA hB hb hL1 hL2 hR1 hR2 hO1 hO2 hs
  go_enter Tryz.func16, Tryz.ntmps16
  go_wp2_with fail
  go_loopw [5] (fun i wr => ∃ k : Nat, i = .int .i64 k ∧ k ≤ L.length ∧ Below W.heap.size W wr) (fun i _ => (L.length - intOf i).toNat)
  case atStart => exact ⟨0, rfl, by omega, Below.refl _ _⟩
  case round =>
    clear p0 p1 p2 p3 q0 q1 q2 q3
    obtain ⟨k, rfl, hk, hbr⟩ := hrel
    obtain ⟨⟨p0, p1, p2, p3⟩, q0, q1, q2, q3⟩ := HX.out _ hbr
    have HBR := Lib.hid hbr
    by_cases hlt : k < L.length
    · obtain ⟨⟨r1, r2⟩, -⟩ := HR.out _ hbr
      obtain ⟨x1, o1, rfl, e0, e1⟩ := subs_row r1 hlt
      obtain ⟨x2, o2, rfl, f0, f1⟩ := subs_row r2 hlt
      have hk0 : (0 : Int) ≤ k := by omega
      have hkl : (k : Int) < L.length := by omega
      have hw1 : IntKind.i64.wrap ((k : Int) + 1) = (k : Int) + 1 := w_i64 _ (by omega) (by omega)
      generalize L[k] = x at *
      obtain ⟨xf, xq⟩ := x
      dsimp only at *
      have hcmp := fun w => sub_neq ⟨xf.toArray⟩ xq w
      clear r1 r2 hbr p1 p2 p3 q1 q2 q3
      go_wp2_with fail
      go_quiet (fail)
      go_wp2_with fail
      go_roundw
      case rel => exact ⟨k + 1, by go_num, by omega, HBR.out.trans (below_draws _)⟩
      case measure => simp [intOf]; omega
    · have hkl : ¬ (k : Int) < L.length := by omega
      clear hbr
      go_wp2_with fail
      clear hlt hkl hk
      generalize wr = wa at *
      go_loopw [6] (fun i wr => ∃ k : Nat, i = .int .i64 k ∧ k ≤ R.length ∧ Below W.heap.size W wr) (fun i _ => (R.length - intOf i).toNat)
      case atStart => exact ⟨0, rfl, by omega, HBR.out⟩
      case round =>
        clear p0 p1 p2 p3 q0 q1 q2 q3
        clear HBR
        obtain ⟨k, rfl, hk, hbr⟩ := hrel
        obtain ⟨⟨p0, p1, p2, p3⟩, q0, q1, q2, q3⟩ := HX.out _ hbr
        have HBR := Lib.hid hbr
        by_cases hlt : k < R.length
        · obtain ⟨-, ⟨r1, r2⟩, -⟩ := HR.out _ hbr
          obtain ⟨x1, o1, rfl, g1⟩ := row_mid (mk := Pkt.cells) (m := 24) pkt_len r1 hlt (by decide)
          obtain ⟨x2, o2, rfl, g2⟩ := row_mid (mk := Pkt.cells) (m := 24) pkt_len r2 hlt (by decide)
          have hk0 : (0 : Int) ≤ k := by omega
          have hkl : (k : Int) < R.length := by omega
          have hw1 : IntKind.i64.wrap ((k : Int) + 1) = (k : Int) + 1 := w_i64 _ (by omega) (by omega)
          have HSX := Lib.hid (HS.out _ (List.getElem_mem hlt))
          generalize R[k] = x at *
          have HPS := Lib.hid (fun X => psame_any x X HSX.out)
          have HLS := Lib.hid (pk_size' x)
          have HSX2 : Hid (∀ X, Below wr.heap.size wr X → X.cell? ⟨w.heap.size, 1, none⟩ = some (.slice (some ⟨x1, o1, none⟩) R.length c2) ∧ X.cell? ⟨w.heap.size + 1, 1, none⟩ = some (.slice (some ⟨x2, o2, none⟩) R.length d2) ∧ X.rangeAt x1 (o1 + k * 24) x.cells ∧ X.rangeAt x2 (o2 + k * 24) x.cells) := Lib.hid (fun X hX =>
            ⟨(hX.cell (p := ⟨w.heap.size, 1, none⟩) (World.block_lt_of_cell? wr _ p1)).trans p1, (hX.cell (p := ⟨w.heap.size + 1, 1, none⟩) (World.block_lt_of_cell? wr _ q1)).trans q1, fun j v hj => (hX.cell (p := ⟨x1, _, none⟩) (World.block_lt_of_cell? wr _ (g1 j v hj))).trans (g1 j v hj), fun j v hj => (hX.cell (p := ⟨x2, _, none⟩) (World.block_lt_of_cell? wr _ (g2 j v hj))).trans (g2 j v hj)⟩)
          generalize x.cells = XL at *
          clear r1 r2 hbr g1 g2 p0 p2 p3 q0 q2 q3
          go_upto_region 11 with fail
          refine wp_region_held_drew (S := fun X => X.cell? ⟨w.heap.size, 1, none⟩ = some (.slice (some ⟨x1, o1, none⟩) R.length c2) ∧ X.cell? ⟨w.heap.size + 1, 1, none⟩ = some (.slice (some ⟨x2, o2, none⟩) R.length d2) ∧ X.rangeAt x1 (o1 + k * 24) XL ∧ X.rangeAt x2 (o2 + k * 24) XL) (by kernel_rfl) (HSX2.out _ (by first | exact Below.refl _ _ | exact (Below.refl _ _).drew)) (fun hHeld => ?_)
          refine wpAnyH_take (i := 0) (v := ?_) rfl (by kernel_rfl) (by kernel_rfl) (by kernel_rfl) (fun _ _ _ h => h) (Or.inl ⟨rfl, ?_⟩) hHeld ?_
          rotate_left
          · intro w0 hS0
            try dsimp only at hS0
            go_simp
            try with_reducible rfl
          simp only [List.getElem_toArray, List.getElem_cons_zero, Act.put, List.setIfInBounds_toArray, List.set_cons_zero, List.set_cons_succ]
          refine wpAnyH_take (i := 1) (v := ?_) rfl (by kernel_rfl) (by kernel_rfl) (by kernel_rfl) (fun _ _ _ h => h) (Or.inl ⟨rfl, ?_⟩) hHeld ?_
          rotate_left
          · intro w0 hS0
            try dsimp only at hS0
            go_simp
            try with_reducible rfl
          simp only [List.getElem_toArray, List.getElem_cons_zero, List.getElem_cons_succ, Act.put, List.setIfInBounds_toArray, List.set_cons_zero, List.set_cons_succ]
          refine wpAnyH_take (i := 2) (v := ?_) rfl (by kernel_rfl) (by kernel_rfl) (by kernel_rfl) (fun _ _ _ h => h) (Or.inl ⟨rfl, ?_⟩) hHeld ?_
          rotate_left
          · intro w0 hS0
            try dsimp only at hS0
            go_simp
            try with_reducible rfl
          simp only [List.getElem_toArray, List.getElem_cons_zero, List.getElem_cons_succ, Act.put, List.setIfInBounds_toArray, List.set_cons_zero, List.set_cons_succ]
          refine wpAnyH_take (i := 3) (v := ?_) rfl (by kernel_rfl) (by kernel_rfl) (by kernel_rfl) (fun _ _ _ h => h) (Or.inl ⟨rfl, ?_⟩) hHeld ?_
          rotate_left
          · intro w0 hS0
            try dsimp only at hS0
            go_simp
            try with_reducible rfl
          simp only [List.getElem_toArray, List.getElem_cons_zero, List.getElem_cons_succ, Act.put, List.setIfInBounds_toArray, List.set_cons_zero, List.set_cons_succ]
          refine wpAnyH_take (i := 4) (v := .agg XL.toArray) rfl (by kernel_rfl) (by kernel_rfl) (by kernel_rfl) (fun _ _ _ h => h) (Or.inl ⟨rfl, ?_⟩) hHeld ?_
          · intro w0 hS0
            exact exec_load_row rfl rfl hS0.2.2.1 Tryz.underlying37 rfl HLS.out
          simp only [List.getElem_toArray, List.getElem_cons_zero, List.getElem_cons_succ, Act.put, List.setIfInBounds_toArray, List.set_cons_zero, List.set_cons_succ]
          refine wpAnyH_take (i := 5) (v := ?_) rfl (by kernel_rfl) (by kernel_rfl) (by kernel_rfl) (fun _ _ _ h => h) (Or.inl ⟨rfl, ?_⟩) hHeld ?_
          rotate_left
          · intro w0 hS0
            try dsimp only at hS0
            go_simp
            try with_reducible rfl
          simp only [List.getElem_toArray, List.getElem_cons_zero, List.getElem_cons_succ, Act.put, List.setIfInBounds_toArray, List.set_cons_zero, List.set_cons_succ]
          refine wpAnyH_take (i := 6) (v := ?_) rfl (by kernel_rfl) (by kernel_rfl) (by kernel_rfl) (fun _ _ _ h => h) (Or.inl ⟨rfl, ?_⟩) hHeld ?_
          rotate_left
          · intro w0 hS0
            try dsimp only at hS0
            go_simp
            try with_reducible rfl
          simp only [List.getElem_toArray, List.getElem_cons_zero, List.getElem_cons_succ, Act.put, List.setIfInBounds_toArray, List.set_cons_zero, List.set_cons_succ]
          refine wpAnyH_take (i := 7) (v := ?_) rfl (by kernel_rfl) (by kernel_rfl) (by kernel_rfl) (fun _ _ _ h => h) (Or.inl ⟨rfl, ?_⟩) hHeld ?_
          rotate_left
          · intro w0 hS0
            try dsimp only at hS0
            go_simp
            try with_reducible rfl
          simp only [List.getElem_toArray, List.getElem_cons_zero, List.getElem_cons_succ, Act.put, List.setIfInBounds_toArray, List.set_cons_zero, List.set_cons_succ]
          refine wpAnyH_take (i := 8) (v := ?_) rfl (by kernel_rfl) (by kernel_rfl) (by kernel_rfl) (fun _ _ _ h => h) (Or.inl ⟨rfl, ?_⟩) hHeld ?_
          rotate_left
          · intro w0 hS0
            try dsimp only at hS0
            go_simp
            try with_reducible rfl
          simp only [List.getElem_toArray, List.getElem_cons_zero, List.getElem_cons_succ, Act.put, List.setIfInBounds_toArray, List.set_cons_zero, List.set_cons_succ]
          refine wpAnyH_take (i := 9) (v := .agg XL.toArray) rfl (by kernel_rfl) (by kernel_rfl) (by kernel_rfl) (fun _ _ _ h => h) (Or.inl ⟨rfl, ?_⟩) hHeld ?_
          · intro w0 hS0
            exact exec_load_row rfl rfl hS0.2.2.2 Tryz.underlying37 rfl HLS.out
          simp only [List.getElem_toArray, List.getElem_cons_zero, List.getElem_cons_succ, Act.put, List.setIfInBounds_toArray, List.set_cons_zero, List.set_cons_succ]
          refine wpAnyH_ready (rs := [10]) (by kernel_rfl) (by simp) ?_
          refine AllReadyH.cons rfl (fun K hK => ?_) AllReadyH.nil
          rw [if_pos (by rfl)]
          go_simp
          go_at_call 55
          refine (HPS.out _).mono ?_
          rintro e w2 ⟨rfl, hk2⟩
          have HB2 : Hid (Below wr.heap.size wr w2) := Lib.hid (((Below.refl _ _).drew).trans hk2)
          clear hk2
          refine hK.out _ _ (HSX2.out _ HB2.out) (fun hHeld => ?_)
          refine wpAnyH_take (i := 11) (v := ?_) rfl (by kernel_rfl) (by kernel_rfl) (by kernel_rfl) (fun _ _ _ h => h) (Or.inl ⟨rfl, ?_⟩) hHeld ?_
          rotate_left
          · intro w0 hS0
            try dsimp only at hS0
            go_simp
            try with_reducible rfl
          simp only [List.getElem_toArray, List.getElem_cons_zero, List.getElem_cons_succ, Act.put, List.setIfInBounds_toArray, List.set_cons_zero, List.set_cons_succ]
          refine wpAnyH_done (by kernel_rfl) ?_ _
          clear hHeld
          go_wp2_with fail
          go_roundw
          case rel => exact ⟨k + 1, by go_num, by omega, HBR.out.trans (HB2.out.mono HBR.out.size)⟩
          case measure => simp [intOf]; omega
        · have hkl : ¬ (k : Int) < R.length := by omega
          clear hbr
          go_wp2_with fail
          clear hlt hkl hk
          generalize wr = wb at *
          go_loopw [7] (fun i wr => ∃ k : Nat, i = .int .i64 k ∧ k ≤ O.length ∧ Below W.heap.size W wr) (fun i _ => (O.length - intOf i).toNat)
          case atStart => exact ⟨0, rfl, by omega, HBR.out⟩
          case round =>
            clear p0 p1 p2 p3 q0 q1 q2 q3
            clear HBR
            obtain ⟨k, rfl, hk, hbr⟩ := hrel
            obtain ⟨⟨p0, p1, p2, p3⟩, q0, q1, q2, q3⟩ := HX.out _ hbr
            have HBR := Lib.hid hbr
            by_cases hlt : k < O.length
            · obtain ⟨-, -, r1, r2⟩ := HR.out _ hbr
              obtain ⟨x1, o1, rfl, g1⟩ := r1.at (j := k) (u := .int .u16 O[k]) (by simp [u16s, hlt])
              obtain ⟨x2, o2, rfl, g2⟩ := r2.at (j := k) (u := .int .u16 O[k]) (by simp [u16s, hlt])
              have hk0 : (0 : Int) ≤ k := by omega
              have hkl : (k : Int) < O.length := by omega
              have hw1 : IntKind.i64.wrap ((k : Int) + 1) = (k : Int) + 1 := w_i64 _ (by omega) (by omega)
              generalize O[k] = x at *
              clear r1 r2 hbr p0 p1 p3 q0 q1 q3
              go_wp2_with fail
              go_quiet (fail)
              go_wp2_with fail
              go_roundw
              case rel => exact ⟨k + 1, by go_num, by omega, HBR.out.trans (below_draws _)⟩
              case measure => simp [intOf]; omega
            · have hkl : ¬ (k : Int) < O.length := by omega
              clear hbr
              go_wp2_with fail
              go_ret
              exact ⟨rfl, bnext HB.out (Nat.le_refl _) HBR.out⟩
end
end Go.Proofs.YtmkhagmjpbfieaaGreatDoor
