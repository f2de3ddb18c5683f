/- A session beside what it told before: the box and the rows stay. SessionStays: the round's regions that draw their order, each a law. (Printed by gen_stays.py.) SessionStays: what is left of a round, behind the connection's end. (Printed by gen_stays.py.) SessionStays walked. -/
import Derived.Test.YtmkhagmjpbfieaaGreatDoorSeF
namespace Go.Proofs.YtmkhagmjpbfieaaGreatDoor
section
open Go Go.RowKit

/-- a row of something does not lie in F -/
def RowOff (F : List Nat) (a : Option Addr) (l : List Value) : Prop := ∀ b o, a = some ⟨b, o, none⟩ → l ≠ [] → b ∉ F
theorem RowOff.keep {F F' : List Nat} {w w' : World} {a : Option Addr} {l : List Value} (h : RowOff F a l) (hr : Row w a l) (hu : Upd F F' w w') : Row w' a l ∧ RowOff F' a l := by
  by_cases e : l = []
  · subst e
    exact ⟨.inl rfl, fun _ _ _ h => absurd rfl h⟩
  · refine ⟨hr.mod hu.1 fun b o e2 => h b o e2 e, fun b o e2 _ hk => ?_⟩
    have h0 : 0 < l.length := List.length_pos_iff.2 e
    obtain ⟨b1, o1, e3, hc⟩ := hr.at (List.getElem?_eq_getElem h0)
    rw [e2] at e3
    cases e3
    have hlt := World.block_lt_of_cell? w _ hc
    exact (hu.2 b hk).elim (h b o e2 e) (by simp at hlt; omega)
/-- a session, and what it told when it was y -/
structure Was (W w : World) (s : Nat) (win most : Int) (z y : SS) (F : List Nat) (bb : Nat) (a1 a2 a3 : Option Addr) (c1 c2 c3 : Nat) : Prop where
  se : Se W w s win most z F
  box : w.heap[bb]? = some (.cells (toldC y a1 a2 a3 c1 c2 c3) 48 (0, 0))
  off : bb ∉ F
  told : ToldAt w y a1 a2 a3
  o1 : RowOff F a1 (subsV y.l)
  o2 : RowOff F a2 (pksV (resumeO y.o))
  o3 : RowOff F a3 (u16s y.came)
section
variable {W w w' : World} {s : Nat} {win most : Int} {z z' y : SS} {F F' : List Nat} {bb : Nat} {a1 a2 a3 : Option Addr} {c1 c2 c3 : Nat}
theorem Was.upd (h : Was W w s win most z y F bb a1 a2 a3 c1 c2 c3) (hr : SesRep w' s win most z' F') (hu : Upd F F' w w') : Was W w' s win most z' y F' bb a1 a2 a3 c1 c2 c3 := by
  have hl := (Array.getElem?_eq_some_iff.1 h.box).1
  obtain ⟨r1, p1⟩ := h.o1.keep h.told.subs hu
  obtain ⟨r2, p2⟩ := h.o2.keep h.told.res hu
  obtain ⟨r3, p3⟩ := h.o3.keep h.told.opn hu
  exact ⟨h.se.upd hr hu, (hu.1.block bb hl h.off).trans h.box, fun hk => (hu.2 bb hk).elim h.off (by omega), ⟨r1, r2, r3⟩, p1, p2, p3⟩
theorem Was.below (h : Was W w s win most z y F bb a1 a2 a3 c1 c2 c3) (hb : Below w.heap.size w w') : Was W w' s win most z y F bb a1 a2 a3 c1 c2 c3 :=
  ⟨h.se.below hb, (hb.block bb (Array.getElem?_eq_some_iff.1 h.box).1).trans h.box, h.off, h.told.below hb, h.o1, h.o2, h.o3⟩
end
end
section
open Go Go.RowKit

/-- a box with what a session tells -/
theorem told_box {w : World} {b : Nat} {x : SS} (a1 a2 a3 : Option Addr) (c1 c2 c3 : Nat) (h : w.heap[b]? = some (.cells #[.slice none 0 0, .slice none 0 0, .slice none 0 0, .int .i64 0] 48 (0, 0))) :
    ((((w.setCell ⟨b, 0, none⟩ (.slice a1 x.l.length c1)).setCell ⟨b, 1, none⟩ (.slice a2 (resumeO x.o).length c2)).setCell ⟨b, 2, none⟩ (.slice a3 x.came.length c3)).setCell ⟨b, 3, none⟩ (.int .i64 x.o.wait.length)).heap[b]? = some (.cells (toldC x a1 a2 a3 c1 c2 c3) 48 (0, 0)) ∧
      Mod [b] w ((((w.setCell ⟨b, 0, none⟩ (.slice a1 x.l.length c1)).setCell ⟨b, 1, none⟩ (.slice a2 (resumeO x.o).length c2)).setCell ⟨b, 2, none⟩ (.slice a3 x.came.length c3)).setCell ⟨b, 3, none⟩ (.int .i64 x.o.wait.length)) := by
  have h9 := heap_setCell_same _ _ 3 _ _ (.int .i64 x.o.wait.length) (heap_setCell_same _ _ 2 _ _ (.slice a3 x.came.length c3) (heap_setCell_same _ _ 1 _ _ (.slice a2 (resumeO x.o).length c2) (heap_setCell_same _ _ 0 _ _ (.slice a1 x.l.length c1) h)))
  exact ⟨by simpa [toldC] using h9, (((set_mod w b 0 _).trans (set_mod _ b 1 _) fun _ h => .inl h).trans (set_mod _ b 2 _) fun _ h => .inl h).trans (set_mod _ b 3 _) fun _ h => .inl h⟩
theorem zero_box {w : World} {b : Nat} (h : w.heap[b]? = some (.cells #[.slice none 0 0, .slice none 0 0, .slice none 0 0, .int .i64 0] 48 (0, 0))) : w.cell? ⟨b, 0, none⟩ = some (.slice none 0 0) ∧ w.cell? ⟨b, 1, none⟩ = some (.slice none 0 0) ∧ w.cell? ⟨b, 2, none⟩ = some (.slice none 0 0) ∧ w.cell? ⟨b, 3, none⟩ = some (.int .i64 0) :=
  ⟨cell_of_row _ _ 0 _ _ _ h, cell_of_row _ _ 1 _ _ _ h, cell_of_row _ _ 2 _ _ _ h, cell_of_row _ _ 3 _ _ _ h⟩
noncomputable def stReg (k : Nat) : Code := (Tryz.f4.body.bind (regionOf k)).getD .skip
set_option maxRecDepth 100000 in
set_option maxHeartbeats 8000000 in
theorem st_r13 (W : World) (s : Nat) (win most : Int) (y : SS) (F : List Nat) (w : World) (hse : Se W w s win most y F)
    {f0 f1 f2 f3 f4 f5 f6 f7 f8 f9 f10 f12 f13 f14 f15 f16 f17 f18 f19 f20 f21 f22 f23 f24 f25 f26 f27 f28 f29 f30 f31 f32 f33 f34 f35 f36 f37 f38 f39 f40 f41 f42 f43 f44 f45 f46 f47 f48 f49 f50 f51 f52 f53 f54 f55 f56 f57 f58 f59 f60 f61 f62 f63 f64 f65 f66 f67 f68 f69 f70 f71 f72 f73 f74 f75 f76 f77 f78 f79 f80 f81 f82 f83 f84 f85 f86 f87 f88 f89 f90 f91 f92 f93 f94 f95 f96 f97 f98 f99 f100 f101 f102 f103 f104 f105 f106 f107 f108 f109 f110 f111 f112 f113 f114 f115 f116 f117 f118 f119 f120 f121 f122 f123 f124 f125 f126 f127 f128 f129 f130 f131 f132 f133 f134 f135 f136 f137 f138 f139 f140 f141 f142 f143 f144 f145 f146 f147 f148 f149 f150 f151 f152 f153 f154 f155 f156 f157 f158 f159 f160 f161 f162 f163 f164 f165 f166 f167 f168 f169 f170 f171 f172 f173 f174 f175 f176 f177 f178 f179 f180 f181 f182 f183 f184 f185 f186 f187 f188 f189 f190 f191 f192 f193 f194 f195 f196 f197 f198 f199 f200 f201 f202 f203 f204 f205 f206 f207 f208 f209 f210 f211 f212 f213 f214 f215 f216 f217 f218 f219 f220 f221 f222 f223 f224 f225 f226 f227 : Value} {Q : Exit → Act → World → Prop} (hQp : QuietP Q)
    (hQ : ∀ ⦃d49 d50 d51 d52 d53 d54 : Value⦄ (bb : Nat) (a1 a2 a3 : Option Addr) (c1 c2 c3 : Nat) (w' : World), Was W w' s win most y y F bb a1 a2 a3 c1 c2 c3 → Q .normal ⟨#[f0, f1, f2, f3, f4, f5, f6, f7, f8, f9, f10, .pointer (some ⟨s, 0, none⟩), f12, f13, .pointer (some ⟨bb, 0, none⟩), .bool y.clean, f16, f17, f18, f19, f20, f21, f22, f23, f24, f25, f26, f27, f28, f29, f30, f31, f32, f33, f34, f35, f36, f37, f38, f39, f40, f41, f42, f43, f44, f45, f46, f47, f48, d49, d50, d51, d52, d53, d54, f55, f56, f57, f58, f59, f60, f61, f62, f63, f64, f65, f66, f67, f68, f69, f70, f71, f72, f73, f74, f75, f76, f77, f78, f79, f80, f81, f82, f83, f84, f85, f86, f87, f88, f89, f90, f91, f92, f93, f94, f95, f96, f97, f98, f99, f100, f101, f102, f103, f104, f105, f106, f107, f108, f109, f110, f111, f112, f113, f114, f115, f116, f117, f118, f119, f120, f121, f122, f123, f124, f125, f126, f127, f128, f129, f130, f131, f132, f133, f134, f135, f136, f137, f138, f139, f140, f141, f142, f143, f144, f145, f146, f147, f148, f149, f150, f151, f152, f153, f154, f155, f156, f157, f158, f159, f160, f161, f162, f163, f164, f165, f166, f167, f168, f169, f170, f171, f172, f173, f174, f175, f176, f177, f178, f179, f180, f181, f182, f183, f184, f185, f186, f187, f188, f189, f190, f191, f192, f193, f194, f195, f196, f197, f198, f199, f200, f201, f202, f203, f204, f205, f206, f207, f208, f209, f210, f211, f212, f213, f214, f215, f216, f217, f218, f219, f220, f221, f222, f223, f224, f225, f226, f227], []⟩ w') :
    Code.wp Tryz.prog (stReg 13) Q ⟨#[f0, f1, f2, f3, f4, f5, f6, f7, f8, f9, f10, .pointer (some ⟨s, 0, none⟩), f12, f13, f14, f15, f16, f17, f18, f19, f20, f21, f22, f23, f24, f25, f26, f27, f28, f29, f30, f31, f32, f33, f34, f35, f36, f37, f38, f39, f40, f41, f42, f43, f44, f45, f46, f47, f48, f49, f50, f51, f52, f53, f54, f55, f56, f57, f58, f59, f60, f61, f62, f63, f64, f65, f66, f67, f68, f69, f70, f71, f72, f73, f74, f75, f76, f77, f78, f79, f80, f81, f82, f83, f84, f85, f86, f87, f88, f89, f90, f91, f92, f93, f94, f95, f96, f97, f98, f99, f100, f101, f102, f103, f104, f105, f106, f107, f108, f109, f110, f111, f112, f113, f114, f115, f116, f117, f118, f119, f120, f121, f122, f123, f124, f125, f126, f127, f128, f129, f130, f131, f132, f133, f134, f135, f136, f137, f138, f139, f140, f141, f142, f143, f144, f145, f146, f147, f148, f149, f150, f151, f152, f153, f154, f155, f156, f157, f158, f159, f160, f161, f162, f163, f164, f165, f166, f167, f168, f169, f170, f171, f172, f173, f174, f175, f176, f177, f178, f179, f180, f181, f182, f183, f184, f185, f186, f187, f188, f189, f190, f191, f192, f193, f194, f195, f196, f197, f198, f199, f200, f201, f202, f203, f204, f205, f206, f207, f208, f209, f210, f211, f212, f213, f214, f215, f216, f217, f218, f219, f220, f221, f222, f223, f224, f225, f226, f227], []⟩ w := by
  dsimp only at hQ ⊢
  conv => arg 2; whnf
  have HSE := Lib.hid hse
  have HQ := Lib.hid hQ
  clear hse hQ
  obtain ⟨lb, tb, cb, FL, FO, FC, hp, hF⟩ := HSE.out.rep
  have HSX : Hid (∀ X, Below w.heap.size w X → X.cell? ⟨s, 2, none⟩ = some (.bool y.clean)) := Lib.hid (fun X hX => (hp.below hX).head.2.1)
  have HTO := Lib.hid (fun X (hX : Below w.heap.size w X) => told_any s y win most F X (HSE.out.below hX).rep)
  clear hp hF
  refine wp_region_held_drew (S := fun X => X.cell? ⟨s, 2, none⟩ = some (.bool y.clean)) (by kernel_rfl) (HSX.out _ (by first | exact Below.refl _ _ | exact (Below.refl _ _).drew)) (fun hHeld => ?_)
  refine wpAnyH_take (i := 0) (v := ?_) rfl (by kernel_rfl) (by kernel_rfl) (by kernel_rfl) (fun _ _ _ h => hQp _ _ _ _ h rfl) (Or.inl ⟨rfl, ?_⟩) hHeld ?_
  rotate_left
  · intro w0 hS0
    try dsimp only at hS0
    go_simp
    try with_reducible rfl
  simp only [List.getElem_toArray, List.getElem_cons_zero, Act.put, List.setIfInBounds_toArray, List.set_cons_zero, List.set_cons_succ]
  refine wpAnyH_take (i := 2) (v := ?_) rfl (by kernel_rfl) (by kernel_rfl) (by kernel_rfl) (fun _ _ _ h => hQp _ _ _ _ h rfl) (Or.inl ⟨rfl, ?_⟩) hHeld ?_
  rotate_left
  · intro w0 hS0
    try dsimp only at hS0
    go_simp
    try with_reducible rfl
  simp only [List.getElem_toArray, List.getElem_cons_zero, List.getElem_cons_succ, Act.put, List.setIfInBounds_toArray, List.set_cons_zero, List.set_cons_succ]
  refine wpAnyH_take (i := 3) (v := ?_) rfl (by kernel_rfl) (by kernel_rfl) (by kernel_rfl) (fun _ _ _ h => hQp _ _ _ _ h rfl) (Or.inl ⟨rfl, ?_⟩) hHeld ?_
  rotate_left
  · intro w0 hS0
    try dsimp only at hS0
    go_simp
    try with_reducible rfl
  simp only [List.getElem_toArray, List.getElem_cons_zero, List.getElem_cons_succ, Act.put, List.setIfInBounds_toArray, List.set_cons_zero, List.set_cons_succ]
  refine wpAnyH_take (i := 4) (v := ?_) rfl (by kernel_rfl) (by kernel_rfl) (by kernel_rfl) (fun _ _ _ h => hQp _ _ _ _ h rfl) (Or.inl ⟨rfl, ?_⟩) hHeld ?_
  rotate_left
  · intro w0 hS0
    try dsimp only at hS0
    go_simp
    try with_reducible rfl
  simp only [List.getElem_toArray, List.getElem_cons_zero, List.getElem_cons_succ, Act.put, List.setIfInBounds_toArray, List.set_cons_zero, List.set_cons_succ]
  refine wpAnyH_take (i := 5) (v := ?_) rfl (by kernel_rfl) (by kernel_rfl) (by kernel_rfl) (fun _ _ _ h => hQp _ _ _ _ h rfl) (Or.inl ⟨rfl, ?_⟩) hHeld ?_
  rotate_left
  · intro w0 hS0
    try dsimp only at hS0
    go_simp
    try with_reducible rfl
  simp only [List.getElem_toArray, List.getElem_cons_zero, List.getElem_cons_succ, Act.put, List.setIfInBounds_toArray, List.set_cons_zero, List.set_cons_succ]
  refine wpAnyH_ready (rs := [1, 6]) (by kernel_rfl) (by simp) ?_
  refine AllReadyH.cons rfl (fun K hK => ?_) (AllReadyH.cons rfl (fun K hK => ?_) AllReadyH.nil)
  · rw [if_pos (by rfl)]
    go_simp
    go_at_call 13
    refine (HTO.out _ (Below.refl _ _).drew).mono ?_
    rintro e v1 ⟨a1, a2, a3, c1, c2, c3, rfl, ht1, hk, hge⟩
    have HGE : Hid (∀ b o, (a1 = some ⟨b, o, none⟩ ∨ a2 = some ⟨b, o, none⟩ ∨ a3 = some ⟨b, o, none⟩) → w.heap.size ≤ b) := Lib.hid hge
    clear hge
    have HC1 : Hid (Below w.heap.size w v1) := Lib.hid ((Below.refl _ _).drew.trans hk)
    have HT1 := Lib.hid ht1
    clear hk ht1
    refine hK.out _ _ (HSX.out _ HC1.out) (fun hHeld => ?_)
    refine wpAnyH_ready (rs := [6]) (by kernel_rfl) (by simp) ?_
    refine AllReadyH.cons rfl (fun K hK => ?_) AllReadyH.nil
    rw [if_pos (by rfl)]
    go_simp
    have hx := heap_alloc_new v1 (.cells #[.slice none 0 0, .slice none 0 0, .slice none 0 0, .int .i64 0] 48)
    have hbx := low_alloc v1 (.cells #[.slice none 0 0, .slice none 0 0, .slice none 0 0, .int .i64 0] 48)
    have HTX : Hid (∀ X, Mod [v1.heap.size] (v1.alloc (.cells #[.slice none 0 0, .slice none 0 0, .slice none 0 0, .int .i64 0] 48)) X → ToldAt X y a1 a2 a3) := Lib.hid (fun X hX => HT1.out.below (hbx.trans (hX.below hbx.size (by simp))))
    have HCX : Hid (Below w.heap.size w (v1.alloc (.cells #[.slice none 0 0, .slice none 0 0, .slice none 0 0, .int .i64 0] 48))) := Lib.hid (HC1.out.trans (hbx.mono HC1.out.size))
    have HBL : Hid (w.heap.size ≤ v1.heap.size) := Lib.hid HC1.out.size
    generalize v1.alloc (.cells #[.slice none 0 0, .slice none 0 0, .slice none 0 0, .int .i64 0] 48) = x1 at *
    generalize v1.heap.size = bb at *
    clear hbx
    refine hK.out _ _ (HSX.out _ HCX.out) (fun hHeld => ?_)
    obtain ⟨q0, q1, q2, q3⟩ := zero_box hx
    have fr := fun k => frozen_of_row _ _ k _ _ hx
    have HX := Lib.hid hx
    clear hx
    refine wpAnyH_ready (rs := [7]) (by kernel_rfl) (by simp) ?_
    refine AllReadyH.cons rfl (fun K hK => ?_) AllReadyH.nil
    rw [if_pos (by rfl)]
    dsimp only [toldC]
    go_simp
    obtain ⟨hbox, hm⟩ := told_box (x := y) a1 a2 a3 c1 c2 c3 HX.out
    have HC9 := Lib.hid (HCX.out.trans (hm.below HCX.out.size (by simpa using HBL.out)))
    have HBOX := Lib.hid hbox
    have HT9 := Lib.hid (HTX.out _ hm)
    clear hbox hm q0 q1 q2 q3 fr
    refine hK.out _ _ (HSX.out _ HC9.out) (fun hHeld => ?_)
    refine wpAnyH_take (i := 8) (v := ?_) rfl (by kernel_rfl) (by kernel_rfl) (by kernel_rfl) (fun _ _ _ h => hQp _ _ _ _ h rfl) (Or.inl ⟨rfl, ?_⟩) hHeld ?_
    rotate_left
    · intro w0 hS0
      try dsimp only at hS0
      go_simp
      try with_reducible rfl
    simp only [List.getElem_toArray, List.getElem_cons_zero, List.getElem_cons_succ, Act.put, List.setIfInBounds_toArray, List.set_cons_zero, List.set_cons_succ]
    refine wpAnyH_done (by kernel_rfl) ?_ _
    clear hHeld
    generalize ((((x1.setCell ⟨bb, 0, none⟩ (.slice a1 y.l.length c1)).setCell ⟨bb, 1, none⟩ (.slice a2 (resumeO y.o).length c2)).setCell ⟨bb, 2, none⟩ (.slice a3 y.came.length c3)).setCell ⟨bb, 3, none⟩ (.int .i64 y.o.wait.length)) = x9 at *
    exact HQ.out bb a1 a2 a3 c1 c2 c3 x9 ⟨HSE.out.below HC9.out, HBOX.out, fun hk => by have := HSE.out.rep.lt _ hk; have := HBL.out; omega, HT9.out, fun b o e _ hk => by have := HSE.out.rep.lt _ hk; have := HGE.out b o (.inl e); omega, fun b o e _ hk => by have := HSE.out.rep.lt _ hk; have := HGE.out b o (.inr (.inl e)); omega, fun b o e _ hk => by have := HSE.out.rep.lt _ hk; have := HGE.out b o (.inr (.inr e)); omega⟩
  · rw [if_pos (by rfl)]
    go_simp
    have hx : (w.alloc (.cells #[.slice none 0 0, .slice none 0 0, .slice none 0 0, .int .i64 0] 48)).drew.heap[w.heap.size]? = some (.cells #[.slice none 0 0, .slice none 0 0, .slice none 0 0, .int .i64 0] 48 (0, 0)) := heap_alloc_new w (.cells #[.slice none 0 0, .slice none 0 0, .slice none 0 0, .int .i64 0] 48)
    have HC0 : Hid (Below w.heap.size w (w.alloc (.cells #[.slice none 0 0, .slice none 0 0, .slice none 0 0, .int .i64 0] 48)).drew) := Lib.hid (low_alloc w (.cells #[.slice none 0 0, .slice none 0 0, .slice none 0 0, .int .i64 0] 48)).drew
    have HBL : Hid (w.heap.size < (w.alloc (.cells #[.slice none 0 0, .slice none 0 0, .slice none 0 0, .int .i64 0] 48)).drew.heap.size) := Lib.hid (by show _ < (w.alloc (.cells #[.slice none 0 0, .slice none 0 0, .slice none 0 0, .int .i64 0] 48)).heap.size; simp)
    generalize (w.alloc (.cells #[.slice none 0 0, .slice none 0 0, .slice none 0 0, .int .i64 0] 48)).drew = x0 at *
    have HX0 := Lib.hid hx
    clear hx
    refine hK.out _ _ (HSX.out _ HC0.out) (fun hHeld => ?_)
    refine wpAnyH_ready (rs := [1]) (by kernel_rfl) (by simp) ?_
    refine AllReadyH.cons rfl (fun K hK => ?_) AllReadyH.nil
    rw [if_pos (by rfl)]
    go_simp
    go_at_call 13
    refine (HTO.out _ HC0.out).mono ?_
    rintro e x1 ⟨a1, a2, a3, c1, c2, c3, rfl, ht1, hk, hge⟩
    have HCX : Hid (Below w.heap.size w x1) := Lib.hid (HC0.out.trans (hk.mono HC0.out.size))
    have hx := (hk.block _ HBL.out).trans HX0.out
    have HTX : Hid (∀ X, Mod [w.heap.size] x1 X → ToldAt X y a1 a2 a3) := Lib.hid (fun X hX => ⟨ht1.subs.mod hX fun b o e => by have := hge b o (.inl e); have := HBL.out; simp; omega, ht1.res.mod hX fun b o e => by have := hge b o (.inr (.inl e)); have := HBL.out; simp; omega, ht1.opn.mod hX fun b o e => by have := hge b o (.inr (.inr e)); have := HBL.out; simp; omega⟩)
    have HGE : Hid (∀ b o, (a1 = some ⟨b, o, none⟩ ∨ a2 = some ⟨b, o, none⟩ ∨ a3 = some ⟨b, o, none⟩) → w.heap.size ≤ b) := Lib.hid (fun b o h => Nat.le_trans (Nat.le_of_lt HBL.out) (hge b o h))
    clear hk ht1 hge
    refine hK.out _ _ (HSX.out _ HCX.out) (fun hHeld => ?_)
    obtain ⟨q0, q1, q2, q3⟩ := zero_box hx
    have fr := fun k => frozen_of_row _ _ k _ _ hx
    have HX := Lib.hid hx
    clear hx
    refine wpAnyH_ready (rs := [7]) (by kernel_rfl) (by simp) ?_
    refine AllReadyH.cons rfl (fun K hK => ?_) AllReadyH.nil
    rw [if_pos (by rfl)]
    dsimp only [toldC]
    go_simp
    obtain ⟨hbox, hm⟩ := told_box (x := y) a1 a2 a3 c1 c2 c3 HX.out
    have HC9 := Lib.hid (HCX.out.trans (hm.below HCX.out.size (by simp)))
    have HBOX := Lib.hid hbox
    have HT9 := Lib.hid (HTX.out _ hm)
    clear hbox hm q0 q1 q2 q3 fr
    refine hK.out _ _ (HSX.out _ HC9.out) (fun hHeld => ?_)
    refine wpAnyH_take (i := 8) (v := ?_) rfl (by kernel_rfl) (by kernel_rfl) (by kernel_rfl) (fun _ _ _ h => hQp _ _ _ _ h rfl) (Or.inl ⟨rfl, ?_⟩) hHeld ?_
    rotate_left
    · intro w0 hS0
      try dsimp only at hS0
      go_simp
      try with_reducible rfl
    simp only [List.getElem_toArray, List.getElem_cons_zero, List.getElem_cons_succ, Act.put, List.setIfInBounds_toArray, List.set_cons_zero, List.set_cons_succ]
    refine wpAnyH_done (by kernel_rfl) ?_ _
    clear hHeld
    generalize ((((x1.setCell ⟨w.heap.size, 0, none⟩ (.slice a1 y.l.length c1)).setCell ⟨w.heap.size, 1, none⟩ (.slice a2 (resumeO y.o).length c2)).setCell ⟨w.heap.size, 2, none⟩ (.slice a3 y.came.length c3)).setCell ⟨w.heap.size, 3, none⟩ (.int .i64 y.o.wait.length)) = x9 at *
    exact HQ.out w.heap.size a1 a2 a3 c1 c2 c3 x9 ⟨HSE.out.below HC9.out, HBOX.out, fun hk => by have := HSE.out.rep.lt _ hk; have := Nat.le_refl w.heap.size; omega, HT9.out, fun b o e _ hk => by have := HSE.out.rep.lt _ hk; have := HGE.out b o (.inl e); omega, fun b o e _ hk => by have := HSE.out.rep.lt _ hk; have := HGE.out b o (.inr (.inl e)); omega, fun b o e _ hk => by have := HSE.out.rep.lt _ hk; have := HGE.out b o (.inr (.inr e)); omega⟩
set_option maxRecDepth 100000 in
set_option maxHeartbeats 8000000 in
theorem st_r17 (W : World) (s : Nat) (win most : Int) (y : SS) (F : List Nat) (bb : Nat) (a1 a2 a3 : Option Addr) (c1 c2 c3 : Nat) (yc : Bool) (hyc : y.clean = yc) (w : World) (hw : Was W w s win most (leaveS y) y F bb a1 a2 a3 c1 c2 c3)
    {f0 f1 f2 f3 f4 f5 f6 f7 f8 f9 f10 f12 f13 f16 f17 f18 f19 f20 f21 f22 f23 f24 f25 f26 f27 f28 f29 f30 f31 f32 f33 f34 f35 f36 f37 f38 f39 f40 f41 f42 f43 f44 f45 f46 f47 f48 f49 f50 f51 f52 f53 f54 f55 f56 f57 f58 f59 f60 f61 f62 f63 f64 f65 f66 f67 f68 f69 f70 f71 f72 f73 f74 f75 f76 f77 f78 f79 f80 f81 f82 f83 f84 f85 f86 f87 f88 f89 f90 f91 f92 f93 f94 f95 f96 f97 f98 f99 f100 f101 f102 f103 f104 f105 f106 f107 f108 f109 f110 f111 f112 f113 f114 f115 f116 f117 f118 f119 f120 f121 f122 f123 f124 f125 f126 f127 f128 f129 f130 f131 f132 f133 f134 f135 f136 f137 f138 f139 f140 f141 f142 f143 f144 f145 f146 f147 f148 f149 f150 f151 f152 f153 f154 f155 f156 f157 f158 f159 f160 f161 f162 f163 f164 f165 f166 f167 f168 f169 f170 f171 f172 f173 f174 f175 f176 f177 f178 f179 f180 f181 f182 f183 f184 f185 f186 f187 f188 f189 f190 f191 f192 f193 f194 f195 f196 f197 f198 f199 f200 f201 f202 f203 f204 f205 f206 f207 f208 f209 f210 f211 f212 f213 f214 f215 f216 f217 f218 f219 f220 f221 f222 f223 f224 f225 f226 f227 : Value} {Q : Exit → Act → World → Prop} (hQp : QuietP Q)
    (hQ : ∀ ⦃d62 d63 d64 d65 d66 d67 d68 d69 d70 d71 d72 d73 d74 d75 d76 d77 d78 d79 d80 d81 d82 d83 d84 d85 d86 : Value⦄ (w' : World), Was W w' s win most (leaveS y) y F bb a1 a2 a3 c1 c2 c3 → Q .normal ⟨#[f0, f1, f2, f3, f4, f5, f6, f7, f8, f9, f10, .pointer (some ⟨s, 0, none⟩), f12, f13, .pointer (some ⟨bb, 0, none⟩), .bool yc, f16, f17, f18, f19, f20, f21, f22, f23, f24, f25, f26, f27, f28, f29, f30, f31, f32, f33, f34, f35, f36, f37, f38, f39, f40, f41, f42, f43, f44, f45, f46, f47, f48, f49, f50, f51, f52, f53, f54, f55, f56, f57, f58, f59, f60, f61, d62, d63, d64, d65, d66, d67, d68, d69, d70, d71, d72, d73, d74, d75, d76, d77, d78, d79, d80, d81, d82, d83, d84, d85, d86, .bool false, f88, f89, f90, f91, f92, f93, f94, f95, f96, f97, f98, f99, f100, f101, f102, f103, f104, f105, f106, f107, f108, f109, f110, f111, f112, f113, f114, f115, f116, f117, f118, f119, f120, f121, f122, f123, f124, f125, f126, f127, f128, f129, f130, f131, f132, f133, f134, f135, f136, f137, f138, f139, f140, f141, f142, f143, f144, f145, f146, f147, f148, f149, f150, f151, f152, f153, f154, f155, f156, f157, f158, f159, f160, f161, f162, f163, f164, f165, f166, f167, f168, f169, f170, f171, f172, f173, f174, f175, f176, f177, f178, f179, f180, f181, f182, f183, f184, f185, f186, f187, f188, f189, f190, f191, f192, f193, f194, f195, f196, f197, f198, f199, f200, f201, f202, f203, f204, f205, f206, f207, f208, f209, f210, f211, f212, f213, f214, f215, f216, f217, f218, f219, f220, f221, f222, f223, f224, f225, f226, f227], []⟩ w') :
    Code.wp Tryz.prog (stReg 17) Q ⟨#[f0, f1, f2, f3, f4, f5, f6, f7, f8, f9, f10, .pointer (some ⟨s, 0, none⟩), f12, f13, .pointer (some ⟨bb, 0, none⟩), .bool yc, f16, f17, f18, f19, f20, f21, f22, f23, f24, f25, f26, f27, f28, f29, f30, f31, f32, f33, f34, f35, f36, f37, f38, f39, f40, f41, f42, f43, f44, f45, f46, f47, f48, f49, f50, f51, f52, f53, f54, f55, f56, f57, f58, f59, f60, f61, f62, f63, f64, f65, f66, f67, f68, f69, f70, f71, f72, f73, f74, f75, f76, f77, f78, f79, f80, f81, f82, f83, f84, f85, f86, f87, f88, f89, f90, f91, f92, f93, f94, f95, f96, f97, f98, f99, f100, f101, f102, f103, f104, f105, f106, f107, f108, f109, f110, f111, f112, f113, f114, f115, f116, f117, f118, f119, f120, f121, f122, f123, f124, f125, f126, f127, f128, f129, f130, f131, f132, f133, f134, f135, f136, f137, f138, f139, f140, f141, f142, f143, f144, f145, f146, f147, f148, f149, f150, f151, f152, f153, f154, f155, f156, f157, f158, f159, f160, f161, f162, f163, f164, f165, f166, f167, f168, f169, f170, f171, f172, f173, f174, f175, f176, f177, f178, f179, f180, f181, f182, f183, f184, f185, f186, f187, f188, f189, f190, f191, f192, f193, f194, f195, f196, f197, f198, f199, f200, f201, f202, f203, f204, f205, f206, f207, f208, f209, f210, f211, f212, f213, f214, f215, f216, f217, f218, f219, f220, f221, f222, f223, f224, f225, f226, f227], []⟩ w := by
  dsimp only at hQ ⊢
  conv => arg 2; whnf
  subst hyc
  have HW := Lib.hid hw
  have HQ := Lib.hid hQ
  obtain ⟨hlS, hrS, hoS, -⟩ := hw.se.rep.lens
  have HRS := Lib.hid (resume_subs y.o)
  clear hw hQ
  obtain ⟨lb, tb, cb, FL, FO, FC, hp, hF⟩ := HW.out.se.rep
  have HSX : Hid (∀ X, Below w.heap.size w X → X.cell? ⟨s, 1, none⟩ = some (.int .i64 0) ∧ X.cell? ⟨s, 7, none⟩ = some (.bool false) ∧ X.cell? ⟨s, 2, none⟩ = some (.bool y.clean) ∧ X.cell? ⟨bb, 0, none⟩ = some (.slice a1 y.l.length c1) ∧ X.cell? ⟨bb, 1, none⟩ = some (.slice a2 (resumeO y.o).length c2) ∧ X.cell? ⟨bb, 2, none⟩ = some (.slice a3 y.came.length c3) ∧ X.cell? ⟨bb, 3, none⟩ = some (.int .i64 y.o.wait.length)) := Lib.hid (fun X hX => by
    obtain ⟨k1, k2, -, -, -, -, k7, -⟩ := (hp.below hX).head
    obtain ⟨p0, p1, p2, p3⟩ := cells4 (HW.out.below hX).box
    exact ⟨k1, k7, k2, p0, p1, p2, p3⟩)
  have HTO := Lib.hid (fun X (hX : Below w.heap.size w X) => told_any s (leaveS y) win most F X (HW.out.se.below hX).rep)
  clear hp hF
  refine wp_region_held_drew (S := fun X => X.cell? ⟨s, 1, none⟩ = some (.int .i64 0) ∧ X.cell? ⟨s, 7, none⟩ = some (.bool false) ∧ X.cell? ⟨s, 2, none⟩ = some (.bool y.clean) ∧ X.cell? ⟨bb, 0, none⟩ = some (.slice a1 y.l.length c1) ∧ X.cell? ⟨bb, 1, none⟩ = some (.slice a2 (resumeO y.o).length c2) ∧ X.cell? ⟨bb, 2, none⟩ = some (.slice a3 y.came.length c3) ∧ X.cell? ⟨bb, 3, none⟩ = some (.int .i64 y.o.wait.length)) (by kernel_rfl) (HSX.out _ (by first | exact Below.refl _ _ | exact (Below.refl _ _).drew)) (fun hHeld => ?_)
  refine wpAnyH_take (i := 0) (v := ?_) rfl (by kernel_rfl) (by kernel_rfl) (by kernel_rfl) (fun _ _ _ h => hQp _ _ _ _ h rfl) (Or.inl ⟨rfl, ?_⟩) hHeld ?_
  rotate_left
  · intro w0 hS0
    try dsimp only at hS0
    go_simp
    try with_reducible rfl
  simp only [List.getElem_toArray, List.getElem_cons_zero, Act.put, List.setIfInBounds_toArray, List.set_cons_zero, List.set_cons_succ]
  refine wpAnyH_take (i := 1) (v := ?_) rfl (by kernel_rfl) (by kernel_rfl) (by kernel_rfl) (fun _ _ _ h => hQp _ _ _ _ h rfl) (Or.inl ⟨rfl, ?_⟩) hHeld ?_
  rotate_left
  · intro w0 hS0
    try dsimp only at hS0
    go_simp
    try with_reducible rfl
  simp only [List.getElem_toArray, List.getElem_cons_zero, List.getElem_cons_succ, Act.put, List.setIfInBounds_toArray, List.set_cons_zero, List.set_cons_succ]
  refine wpAnyH_take (i := 2) (v := ?_) rfl (by kernel_rfl) (by kernel_rfl) (by kernel_rfl) (fun _ _ _ h => hQp _ _ _ _ h rfl) (Or.inl ⟨rfl, ?_⟩) hHeld ?_
  rotate_left
  · intro w0 hS0
    try dsimp only at hS0
    go_simp
    try with_reducible rfl
  simp only [List.getElem_toArray, List.getElem_cons_zero, List.getElem_cons_succ, Act.put, List.setIfInBounds_toArray, List.set_cons_zero, List.set_cons_succ]
  refine wpAnyH_take (i := 3) (v := ?_) rfl (by kernel_rfl) (by kernel_rfl) (by kernel_rfl) (fun _ _ _ h => hQp _ _ _ _ h rfl) (Or.inl ⟨rfl, ?_⟩) hHeld ?_
  rotate_left
  · intro w0 hS0
    try dsimp only at hS0
    go_simp
    try with_reducible rfl
  simp only [List.getElem_toArray, List.getElem_cons_zero, List.getElem_cons_succ, Act.put, List.setIfInBounds_toArray, List.set_cons_zero, List.set_cons_succ]
  refine wpAnyH_take (i := 4) (v := ?_) rfl (by kernel_rfl) (by kernel_rfl) (by kernel_rfl) (fun _ _ _ h => hQp _ _ _ _ h rfl) (Or.inl ⟨rfl, ?_⟩) hHeld ?_
  rotate_left
  · intro w0 hS0
    try dsimp only at hS0
    go_simp
    try with_reducible rfl
  simp only [List.getElem_toArray, List.getElem_cons_zero, List.getElem_cons_succ, Act.put, List.setIfInBounds_toArray, List.set_cons_zero, List.set_cons_succ]
  refine wpAnyH_take (i := 5) (v := ?_) rfl (by kernel_rfl) (by kernel_rfl) (by kernel_rfl) (fun _ _ _ h => hQp _ _ _ _ h rfl) (Or.inl ⟨rfl, ?_⟩) hHeld ?_
  rotate_left
  · intro w0 hS0
    try dsimp only at hS0
    go_simp
    try with_reducible rfl
  simp only [List.getElem_toArray, List.getElem_cons_zero, List.getElem_cons_succ, Act.put, List.setIfInBounds_toArray, List.set_cons_zero, List.set_cons_succ]
  refine wpAnyH_take (i := 6) (v := ?_) rfl (by kernel_rfl) (by kernel_rfl) (by kernel_rfl) (fun _ _ _ h => hQp _ _ _ _ h rfl) (Or.inl ⟨rfl, ?_⟩) hHeld ?_
  rotate_left
  · intro w0 hS0
    try dsimp only at hS0
    go_simp
    try with_reducible rfl
  simp only [List.getElem_toArray, List.getElem_cons_zero, List.getElem_cons_succ, Act.put, List.setIfInBounds_toArray, List.set_cons_zero, List.set_cons_succ]
  refine wpAnyH_take (i := 7) (v := ?_) rfl (by kernel_rfl) (by kernel_rfl) (by kernel_rfl) (fun _ _ _ h => hQp _ _ _ _ h rfl) (Or.inl ⟨rfl, ?_⟩) hHeld ?_
  rotate_left
  · intro w0 hS0
    try dsimp only at hS0
    go_simp
    try with_reducible rfl
  simp only [List.getElem_toArray, List.getElem_cons_zero, List.getElem_cons_succ, Act.put, List.setIfInBounds_toArray, List.set_cons_zero, List.set_cons_succ]
  refine wpAnyH_take (i := 8) (v := ?_) rfl (by kernel_rfl) (by kernel_rfl) (by kernel_rfl) (fun _ _ _ h => hQp _ _ _ _ h rfl) (Or.inl ⟨rfl, ?_⟩) hHeld ?_
  rotate_left
  · intro w0 hS0
    try dsimp only at hS0
    go_simp
    try with_reducible rfl
  simp only [List.getElem_toArray, List.getElem_cons_zero, List.getElem_cons_succ, Act.put, List.setIfInBounds_toArray, List.set_cons_zero, List.set_cons_succ]
  refine wpAnyH_take (i := 9) (v := ?_) rfl (by kernel_rfl) (by kernel_rfl) (by kernel_rfl) (fun _ _ _ h => hQp _ _ _ _ h rfl) (Or.inl ⟨rfl, ?_⟩) hHeld ?_
  rotate_left
  · intro w0 hS0
    try dsimp only at hS0
    go_simp
    try with_reducible rfl
  simp only [List.getElem_toArray, List.getElem_cons_zero, List.getElem_cons_succ, Act.put, List.setIfInBounds_toArray, List.set_cons_zero, List.set_cons_succ]
  refine wpAnyH_take (i := 10) (v := ?_) rfl (by kernel_rfl) (by kernel_rfl) (by kernel_rfl) (fun _ _ _ h => hQp _ _ _ _ h rfl) (Or.inl ⟨rfl, ?_⟩) hHeld ?_
  rotate_left
  · intro w0 hS0
    try dsimp only at hS0
    go_simp
    try with_reducible rfl
  simp only [List.getElem_toArray, List.getElem_cons_zero, List.getElem_cons_succ, Act.put, List.setIfInBounds_toArray, List.set_cons_zero, List.set_cons_succ]
  refine wpAnyH_take (i := 11) (v := ?_) rfl (by kernel_rfl) (by kernel_rfl) (by kernel_rfl) (fun _ _ _ h => hQp _ _ _ _ h rfl) (Or.inl ⟨rfl, ?_⟩) hHeld ?_
  rotate_left
  · intro w0 hS0
    try dsimp only at hS0
    go_simp
    try with_reducible rfl
  simp only [List.getElem_toArray, List.getElem_cons_zero, List.getElem_cons_succ, Act.put, List.setIfInBounds_toArray, List.set_cons_zero, List.set_cons_succ]
  refine wpAnyH_take (i := 12) (v := ?_) rfl (by kernel_rfl) (by kernel_rfl) (by kernel_rfl) (fun _ _ _ h => hQp _ _ _ _ h rfl) (Or.inl ⟨rfl, ?_⟩) hHeld ?_
  rotate_left
  · intro w0 hS0
    try dsimp only at hS0
    go_simp
    try with_reducible rfl
  simp only [List.getElem_toArray, List.getElem_cons_zero, List.getElem_cons_succ, Act.put, List.setIfInBounds_toArray, List.set_cons_zero, List.set_cons_succ]
  refine wpAnyH_take (i := 13) (v := ?_) rfl (by kernel_rfl) (by kernel_rfl) (by kernel_rfl) (fun _ _ _ h => hQp _ _ _ _ h rfl) (Or.inl ⟨rfl, ?_⟩) hHeld ?_
  rotate_left
  · intro w0 hS0
    try dsimp only at hS0
    go_simp
    try with_reducible rfl
  simp only [List.getElem_toArray, List.getElem_cons_zero, List.getElem_cons_succ, Act.put, List.setIfInBounds_toArray, List.set_cons_zero, List.set_cons_succ]
  refine wpAnyH_take (i := 14) (v := ?_) rfl (by kernel_rfl) (by kernel_rfl) (by kernel_rfl) (fun _ _ _ h => hQp _ _ _ _ h rfl) (Or.inl ⟨rfl, ?_⟩) hHeld ?_
  rotate_left
  · intro w0 hS0
    try dsimp only at hS0
    go_simp
    try with_reducible rfl
  simp only [List.getElem_toArray, List.getElem_cons_zero, List.getElem_cons_succ, Act.put, List.setIfInBounds_toArray, List.set_cons_zero, List.set_cons_succ]
  refine wpAnyH_take (i := 15) (v := ?_) rfl (by kernel_rfl) (by kernel_rfl) (by kernel_rfl) (fun _ _ _ h => hQp _ _ _ _ h rfl) (Or.inl ⟨rfl, ?_⟩) hHeld ?_
  rotate_left
  · intro w0 hS0
    try dsimp only at hS0
    go_simp
    try with_reducible rfl
  simp only [List.getElem_toArray, List.getElem_cons_zero, List.getElem_cons_succ, Act.put, List.setIfInBounds_toArray, List.set_cons_zero, List.set_cons_succ]
  refine wpAnyH_take (i := 16) (v := ?_) rfl (by kernel_rfl) (by kernel_rfl) (by kernel_rfl) (fun _ _ _ h => hQp _ _ _ _ h rfl) (Or.inl ⟨rfl, ?_⟩) hHeld ?_
  rotate_left
  · intro w0 hS0
    try dsimp only at hS0
    go_simp
    try with_reducible rfl
  simp only [List.getElem_toArray, List.getElem_cons_zero, List.getElem_cons_succ, Act.put, List.setIfInBounds_toArray, List.set_cons_zero, List.set_cons_succ]
  refine wpAnyH_take (i := 17) (v := ?_) rfl (by kernel_rfl) (by kernel_rfl) (by kernel_rfl) (fun _ _ _ h => hQp _ _ _ _ h rfl) (Or.inl ⟨rfl, ?_⟩) hHeld ?_
  rotate_left
  · intro w0 hS0
    try dsimp only at hS0
    go_simp
    try with_reducible rfl
  simp only [List.getElem_toArray, List.getElem_cons_zero, List.getElem_cons_succ, Act.put, List.setIfInBounds_toArray, List.set_cons_zero, List.set_cons_succ]
  refine wpAnyH_take (i := 18) (v := ?_) rfl (by kernel_rfl) (by kernel_rfl) (by kernel_rfl) (fun _ _ _ h => hQp _ _ _ _ h rfl) (Or.inl ⟨rfl, ?_⟩) hHeld ?_
  rotate_left
  · intro w0 hS0
    try dsimp only at hS0
    go_simp
    try with_reducible rfl
  simp only [List.getElem_toArray, List.getElem_cons_zero, List.getElem_cons_succ, Act.put, List.setIfInBounds_toArray, List.set_cons_zero, List.set_cons_succ]
  refine wpAnyH_take (i := 19) (v := ?_) rfl (by kernel_rfl) (by kernel_rfl) (by kernel_rfl) (fun _ _ _ h => hQp _ _ _ _ h rfl) (Or.inl ⟨rfl, ?_⟩) hHeld ?_
  rotate_left
  · intro w0 hS0
    try dsimp only at hS0
    go_simp
    try with_reducible rfl
  simp only [List.getElem_toArray, List.getElem_cons_zero, List.getElem_cons_succ, Act.put, List.setIfInBounds_toArray, List.set_cons_zero, List.set_cons_succ]
  refine wpAnyH_take (i := 20) (v := ?_) rfl (by kernel_rfl) (by kernel_rfl) (by kernel_rfl) (fun _ _ _ h => hQp _ _ _ _ h rfl) (Or.inl ⟨rfl, ?_⟩) hHeld ?_
  rotate_left
  · intro w0 hS0
    try dsimp only at hS0
    go_simp
    try with_reducible rfl
  simp only [List.getElem_toArray, List.getElem_cons_zero, List.getElem_cons_succ, Act.put, List.setIfInBounds_toArray, List.set_cons_zero, List.set_cons_succ]
  refine wpAnyH_take (i := 22) (v := ?_) rfl (by kernel_rfl) (by kernel_rfl) (by kernel_rfl) (fun _ _ _ h => hQp _ _ _ _ h rfl) (Or.inl ⟨rfl, ?_⟩) hHeld ?_
  rotate_left
  · intro w0 hS0
    try dsimp only at hS0
    go_simp
    try with_reducible rfl
  simp only [List.getElem_toArray, List.getElem_cons_zero, List.getElem_cons_succ, Act.put, List.setIfInBounds_toArray, List.set_cons_zero, List.set_cons_succ]
  refine wpAnyH_ready (rs := [21]) (by kernel_rfl) (by simp) ?_
  refine AllReadyH.cons rfl (fun K hK => ?_) AllReadyH.nil
  rw [if_pos (by rfl)]
  go_simp
  go_at_call 13
  refine (HTO.out _ (Below.refl _ _).drew).mono ?_
  rintro e v3 ⟨b1, b2, b3, d1, d2, d3, rfl, ht1, hk, -⟩
  have HC3 : Hid (Below w.heap.size w v3) := Lib.hid ((Below.refl _ _).drew.trans hk)
  have hcs3 := HC3.out.size
  have HT1 := Lib.hid ht1
  have HW3 := Lib.hid (HW.out.below HC3.out)
  clear hk ht1
  refine hK.out _ _ (HSX.out _ HC3.out) (fun hHeld => ?_)
  refine wpAnyH_ready (rs := [23]) (by kernel_rfl) (by simp) ?_
  refine AllReadyH.cons rfl (fun K hK => ?_) AllReadyH.nil
  rw [if_pos (by rfl)]
  go_simp
  go_at_call 16
  refine (same18_any y.l (resumeO y.o) y.came y.o.wait.length b1 b2 b3 a1 a2 a3 d1 d2 d3 c1 c2 c3 v3 HT1.out.subs HW3.out.told.subs HT1.out.res HW3.out.told.res HT1.out.opn HW3.out.told.opn HRS.out (Nat.le_trans hlS (by decide)) (Nat.le_trans hrS (by decide)) (Nat.le_trans hoS (by decide))).mono ?_
  rintro e v5 ⟨rfl, hk⟩
  have HC5 : Hid (Below w.heap.size w v5) := Lib.hid (HC3.out.trans (hk.mono hcs3))
  clear hk
  refine hK.out _ _ (HSX.out _ HC5.out) (fun hHeld => ?_)
  refine wpAnyH_take (i := 24) (v := ?_) rfl (by kernel_rfl) (by kernel_rfl) (by kernel_rfl) (fun _ _ _ h => hQp _ _ _ _ h rfl) (Or.inl ⟨rfl, ?_⟩) hHeld ?_
  rotate_left
  · intro w0 hS0
    try dsimp only at hS0
    go_simp
    try with_reducible rfl
  simp only [List.getElem_toArray, List.getElem_cons_zero, List.getElem_cons_succ, Act.put, List.setIfInBounds_toArray, List.set_cons_zero, List.set_cons_succ]
  refine wpAnyH_take (i := 25) (v := ?_) rfl (by kernel_rfl) (by kernel_rfl) (by kernel_rfl) (fun _ _ _ h => hQp _ _ _ _ h rfl) (Or.inl ⟨rfl, ?_⟩) hHeld ?_
  rotate_left
  · intro w0 hS0
    try dsimp only at hS0
    go_simp
    try with_reducible rfl
  simp only [List.getElem_toArray, List.getElem_cons_zero, List.getElem_cons_succ, Act.put, List.setIfInBounds_toArray, List.set_cons_zero, List.set_cons_succ]
  refine wpAnyH_done (by kernel_rfl) ?_ _
  exact HQ.out v5 (HW.out.below HC5.out)
end
section
open Go Go.RowKit

noncomputable def stFrom (k : Nat) : Code := (Tryz.f4.body.bind (fromRegion k)).getD .skip
theorem told_size (x : SS) (a1 a2 a3 : Option Addr) (c1 c2 c3 : Nat) : (Tryz.prog.info? 48).map (·.size) = some (toldC x a1 a2 a3 c1 c2 c3).size := show _ = some 4 by kernel_rfl
theorem told_one (x : SS) (a1 a2 a3 : Option Addr) (c1 c2 c3 : Nat) : (toldC x a1 a2 a3 c1 c2 c3).all (·.oneCell') = true := by
  simp [toldC, Value.oneCell']
set_option maxRecDepth 100000 in
set_option maxHeartbeats 8000000 in
theorem st_r28 (W : World) (s : Nat) (win most : Int) (y : SS) (F : List Nat) (bb nb : Nat) (a1 a2 a3 b1 b2 b3 av : Option Addr) (c1 c2 c3 d1 d2 d3 cv : Nat) (conn : Int) (clean : Bool) (w : World) (hw : Was W w s win most (⟨y.client, conn, clean, Msg.none, false, [], OT.new, []⟩ : SS) y F bb a1 a2 a3 c1 c2 c3) (hn : w.heap[nb]? = some (.cells (toldC (⟨y.client, conn, clean, Msg.none, false, [], OT.new, []⟩ : SS) b1 b2 b3 d1 d2 d3) 48 (0, 0))) (ht : ToldAt w (⟨y.client, conn, clean, Msg.none, false, [], OT.new, []⟩ : SS) b1 b2 b3) (hv : Row w av (namesV (namesE y.l))) (hll : y.l.length ≤ 16)
    {f0 f1 f4 f5 f6 f7 f8 f9 f10 f12 f13 f15 f16 f17 f21 f22 f23 f24 f25 f26 f27 f28 f29 f30 f31 f32 f33 f34 f35 f36 f37 f38 f39 f40 f41 f42 f43 f44 f45 f46 f47 f48 f49 f50 f51 f52 f53 f54 f55 f56 f57 f58 f59 f60 f61 f62 f63 f64 f65 f66 f67 f68 f69 f70 f71 f72 f73 f74 f75 f76 f77 f78 f79 f80 f81 f82 f83 f84 f85 f86 f87 f88 f89 f90 f91 f92 f93 f94 f95 f96 f97 f98 f99 f100 f101 f102 f103 f104 f105 f106 f107 f108 f109 f110 f111 f112 f113 f114 f115 f116 f117 f118 f119 f120 f121 f122 f123 f124 f125 f126 f127 f128 f129 f130 f131 f132 f133 f134 f135 f136 f137 f138 f139 f140 f141 f142 f143 f144 f145 f146 f147 f148 f149 f150 f151 f152 f153 f154 f155 f156 f157 f158 f159 f160 f161 f162 f163 f164 f165 f167 f168 f169 f170 f171 f172 f173 f174 f175 f176 f177 f178 f179 f180 f181 f182 f183 f184 f185 f186 f187 f188 f189 f190 f191 f192 f193 f194 f195 f196 f197 f198 f199 f200 f201 f202 f203 f204 f205 f206 f207 f208 f209 f210 f211 f212 f213 f214 f215 f216 f217 f218 f219 f220 f221 f222 f223 f224 f225 f226 f227 : Value} {Q : Exit → Act → World → Prop}
    (hQ : ∀ ⦃d10 d21 d171 d172 d173 d174 d175 d176 d177 d178 d179 d180 d181 d182 d183 d184 d185 d186 d187 d188 d189 d190 d191 d192 d193 d194 d195 d196 d197 d198 d199 d200 d201 d202 d203 d204 d205 d206 d207 d208 d209 d210 d211 d212 d213 d214 d215 d216 d217 d218 d219 d220 d221 d222 d223 d224 d225 d226 : Value⦄ (w' : World), Below w.heap.size w w' → Q .normal ⟨#[f0, f1, .int .i64 conn, .bool clean, f4, f5, f6, f7, f8, f9, d10, .pointer (some ⟨s, 0, none⟩), f12, f13, .pointer (some ⟨bb, 0, none⟩), f15, f16, f17, .bool false, .slice av y.l.length cv, .pointer (some ⟨nb, 0, none⟩), d21, f22, f23, f24, f25, f26, f27, f28, f29, f30, f31, f32, f33, f34, f35, f36, f37, f38, f39, f40, f41, f42, f43, f44, f45, f46, f47, f48, f49, f50, f51, f52, f53, f54, f55, f56, f57, f58, f59, f60, f61, f62, f63, f64, f65, f66, f67, f68, f69, f70, f71, f72, f73, f74, f75, f76, f77, f78, f79, f80, f81, f82, f83, f84, f85, f86, f87, f88, f89, f90, f91, f92, f93, f94, f95, f96, f97, f98, f99, f100, f101, f102, f103, f104, f105, f106, f107, f108, f109, f110, f111, f112, f113, f114, f115, f116, f117, f118, f119, f120, f121, f122, f123, f124, f125, f126, f127, f128, f129, f130, f131, f132, f133, f134, f135, f136, f137, f138, f139, f140, f141, f142, f143, f144, f145, f146, f147, f148, f149, f150, f151, f152, f153, f154, f155, f156, f157, f158, f159, f160, f161, f162, f163, f164, f165, .bool true, f167, f168, f169, f170, d171, d172, d173, d174, d175, d176, d177, d178, d179, d180, d181, d182, d183, d184, d185, d186, d187, d188, d189, d190, d191, d192, d193, d194, d195, d196, d197, d198, d199, d200, d201, d202, d203, d204, d205, d206, d207, d208, d209, d210, d211, d212, d213, d214, d215, d216, d217, d218, d219, d220, d221, d222, d223, d224, d225, d226, f227], []⟩ w') :
    Code.wp Tryz.prog (stFrom 28) Q ⟨#[f0, f1, .int .i64 conn, .bool clean, f4, f5, f6, f7, f8, f9, f10, .pointer (some ⟨s, 0, none⟩), f12, f13, .pointer (some ⟨bb, 0, none⟩), f15, f16, f17, .bool false, .slice av y.l.length cv, .pointer (some ⟨nb, 0, none⟩), f21, f22, f23, f24, f25, f26, f27, f28, f29, f30, f31, f32, f33, f34, f35, f36, f37, f38, f39, f40, f41, f42, f43, f44, f45, f46, f47, f48, f49, f50, f51, f52, f53, f54, f55, f56, f57, f58, f59, f60, f61, f62, f63, f64, f65, f66, f67, f68, f69, f70, f71, f72, f73, f74, f75, f76, f77, f78, f79, f80, f81, f82, f83, f84, f85, f86, f87, f88, f89, f90, f91, f92, f93, f94, f95, f96, f97, f98, f99, f100, f101, f102, f103, f104, f105, f106, f107, f108, f109, f110, f111, f112, f113, f114, f115, f116, f117, f118, f119, f120, f121, f122, f123, f124, f125, f126, f127, f128, f129, f130, f131, f132, f133, f134, f135, f136, f137, f138, f139, f140, f141, f142, f143, f144, f145, f146, f147, f148, f149, f150, f151, f152, f153, f154, f155, f156, f157, f158, f159, f160, f161, f162, f163, f164, f165, .bool true, f167, f168, f169, f170, f171, f172, f173, f174, f175, f176, f177, f178, f179, f180, f181, f182, f183, f184, f185, f186, f187, f188, f189, f190, f191, f192, f193, f194, f195, f196, f197, f198, f199, f200, f201, f202, f203, f204, f205, f206, f207, f208, f209, f210, f211, f212, f213, f214, f215, f216, f217, f218, f219, f220, f221, f222, f223, f224, f225, f226, f227], []⟩ w := by
  dsimp only at hQ ⊢
  conv => arg 2; whnf
  have HW := Lib.hid hw
  have HQ := Lib.hid hQ
  have HV := Lib.hid hv
  have HT := Lib.hid ht
  have HLL := Lib.hid hll
  have HTS : Hid (∀ x ∈ ([] : List Pkt), x.subs = []) := Lib.hid (by simp)
  obtain ⟨p0, p1, p2, p3⟩ := cells4 hw.box
  obtain ⟨q0, q1, q2, q3⟩ := cells4 hn
  replace q0 : w.cell? ⟨nb, 0, none⟩ = some (.slice b1 0 d1) := q0
  replace q1 : w.cell? ⟨nb, 1, none⟩ = some (.slice b2 0 d2) := q1
  replace q2 : w.cell? ⟨nb, 2, none⟩ = some (.slice b3 0 d3) := q2
  replace q3 : w.cell? ⟨nb, 3, none⟩ = some (.int .i64 0) := q3
  obtain ⟨lb, tb, cb, FL, FO, FC, hp, hF⟩ := hw.se.rep
  have HFL := Lib.hid (fun X (hX : Below w.heap.size w X) => flight_any tb win most OT.new FO X (hp.below hX).out)
  have HHD : Hid (∀ X, Below w.heap.size w X → X.cell? ⟨s, 1, none⟩ = some (.int .i64 conn) ∧ X.cell? ⟨s, 2, none⟩ = some (.bool clean) ∧ X.cell? ⟨s, 9, none⟩ = some (.pointer (some ⟨tb, 0, none⟩))) := Lib.hid (fun X hX => by
    obtain ⟨k1, k2, -, -, -, -, -, k9⟩ := (hp.below hX).head
    exact ⟨k1, k2, k9⟩)
  clear hw hQ hv ht hn hp hF hll
  go_wp2_with fail
  refine (same18_any [] [] [] 0 b1 b2 b3 none none none d1 d2 d3 0 0 0 w HT.out.subs (.inl rfl) HT.out.res (.inl rfl) HT.out.opn (.inl rfl) HTS.out (by decide) (by decide) (by decide)).mono ?_
  rintro e w6 ⟨rfl, hk⟩
  have HB6 := Lib.hid hk
  obtain ⟨k1, k2, k9⟩ := HHD.out _ hk
  clear hk p0 p1 p2 p3 q0 q1 q2 q3
  go_wp2_with fail
  refine (HFL.out _ HB6.out).mono ?_
  rintro e w7 ⟨rfl, rfl⟩
  have hr0 : ((OT.new.row.length : Nat) : Int) = 0 := rfl
  go_wp2_with fail
  clear k1 k2 k9 hr0
  go_loopw [21] (fun i wr => ∃ k : Nat, i = .int .i64 k ∧ k ≤ y.l.length ∧ Below w.heap.size w wr) (fun i _ => (y.l.length - intOf i).toNat)
  case atStart => exact ⟨0, rfl, by omega, HB6.out⟩
  case round =>
    obtain ⟨k, rfl, hk, hbr⟩ := hrel
    have hl16 := HLL.out
    by_cases hlt : k < y.l.length
    · have hk0 : (0 : Int) ≤ k := by omega
      have hkl : (k : Int) < y.l.length := by omega
      have hw1 : IntKind.i64.wrap ((k : Int) + 1) = (k : Int) + 1 := w_i64 _ (by omega) (by omega)
      have HB2 := Lib.hid (HW.out.below hbr)
      obtain ⟨p0, p1, p2, p3⟩ := cells4 HB2.out.box
      obtain ⟨x1, o1, rfl, e0, -⟩ := subs_row HB2.out.told.subs hlt
      obtain ⟨x2, o2, rfl, f0⟩ := names_row (HV.out.below hbr (Nat.le_refl _)) (k := k) (by simpa [namesE] using hlt)
      rw [show (namesE y.l)[k]'(by simpa [namesE] using hlt) = y.l[k].1 by simp [namesE]] at f0
      have HBR := Lib.hid hbr
      generalize y.l[k].1 = x at *
      clear hbr p1 p2 p3 hl16
      go_wp2_with fail
      go_quiet (fail)
      go_wp2_with fail
      go_roundw
      case rel => exact ⟨k + 1, by go_num, by omega, HBR.out.trans (below_draws _)⟩
      case measure => simp [intOf]; omega
    · have hkl : ¬ (k : Int) < y.l.length := by omega
      have HBR := Lib.hid hbr
      clear hbr hl16
      go_wp2_with fail
      exact HQ.out _ HBR.out
set_option maxRecDepth 100000 in
set_option maxHeartbeats 8000000 in
theorem st_rest (W : World) (s : Nat) (win most : Int) (y : SS) (F : List Nat) (bb : Nat) (a1 a2 a3 : Option Addr) (c1 c2 c3 : Nat) (conn : Int) (clean yc : Bool) (hyc : y.clean = yc) (w : World) (hw : Was W w s win most (leaveS y) y F bb a1 a2 a3 c1 c2 c3)
    {f0 f1 f4 f5 f6 f7 f8 f9 f10 f12 f13 f16 f17 f18 f19 f20 f21 f22 f23 f24 f25 f26 f27 f28 f29 f30 f31 f32 f33 f34 f35 f36 f37 f38 f39 f40 f41 f42 f43 f44 f45 f46 f47 f48 f49 f50 f51 f52 f53 f54 f55 f56 f57 f58 f59 f60 f61 f62 f63 f64 f65 f66 f67 f68 f69 f70 f71 f72 f73 f74 f75 f76 f77 f78 f79 f80 f81 f82 f83 f84 f85 f86 f87 f88 f89 f90 f91 f92 f93 f94 f95 f96 f97 f98 f99 f100 f101 f102 f103 f104 f105 f106 f107 f108 f109 f110 f111 f112 f113 f114 f115 f116 f117 f118 f119 f120 f121 f122 f123 f124 f125 f126 f127 f128 f129 f130 f131 f132 f133 f134 f135 f136 f137 f138 f139 f140 f141 f142 f143 f144 f145 f146 f147 f148 f149 f150 f151 f152 f153 f154 f155 f156 f157 f158 f159 f160 f161 f162 f163 f164 f165 f166 f167 f168 f169 f170 f171 f172 f173 f174 f175 f176 f177 f178 f179 f180 f181 f182 f183 f184 f185 f186 f187 f188 f189 f190 f191 f192 f193 f194 f195 f196 f197 f198 f199 f200 f201 f202 f203 f204 f205 f206 f207 f208 f209 f210 f211 f212 f213 f214 f215 f216 f217 f218 f219 f220 f221 f222 f223 f224 f225 f226 f227 : Value} {Q : Exit → Act → World → Prop} (hQp : QuietP Q)
    (hQ : ∀ ⦃d10 d16 d17 d18 d19 d20 d21 d62 d63 d64 d65 d66 d67 d68 d69 d70 d71 d72 d73 d74 d75 d76 d77 d78 d79 d80 d81 d82 d83 d84 d85 d86 d87 d88 d89 d90 d91 d92 d93 d94 d95 d96 d97 d98 d99 d100 d101 d102 d103 d104 d105 d106 d107 d108 d109 d110 d111 d112 d113 d114 d115 d116 d117 d118 d119 d120 d121 d122 d123 d124 d125 d126 d127 d128 d129 d130 d131 d132 d133 d134 d135 d136 d137 d138 d139 d140 d141 d142 d143 d144 d145 d146 d147 d148 d149 d150 d151 d152 d153 d154 d155 d156 d157 d158 d159 d160 d161 d162 d163 d164 d165 d166 d167 d168 d169 d170 d171 d172 d173 d174 d175 d176 d177 d178 d179 d180 d181 d182 d183 d184 d185 d186 d187 d188 d189 d190 d191 d192 d193 d194 d195 d196 d197 d198 d199 d200 d201 d202 d203 d204 d205 d206 d207 d208 d209 d210 d211 d212 d213 d214 d215 d216 d217 d218 d219 d220 d221 d222 d223 d224 d225 d226 : Value⦄ (z : SS) (F' : List Nat) (w' : World), Se W w' s win most z F' → Q .normal ⟨#[f0, f1, .int .i64 conn, .bool clean, f4, f5, f6, f7, f8, f9, d10, .pointer (some ⟨s, 0, none⟩), f12, f13, .pointer (some ⟨bb, 0, none⟩), .bool yc, d16, d17, d18, d19, d20, d21, f22, f23, f24, f25, f26, f27, f28, f29, f30, f31, f32, f33, f34, f35, f36, f37, f38, f39, f40, f41, f42, f43, f44, f45, f46, f47, f48, f49, f50, f51, f52, f53, f54, f55, f56, f57, f58, f59, f60, f61, d62, d63, d64, d65, d66, d67, d68, d69, d70, d71, d72, d73, d74, d75, d76, d77, d78, d79, d80, d81, d82, d83, d84, d85, d86, d87, d88, d89, d90, d91, d92, d93, d94, d95, d96, d97, d98, d99, d100, d101, d102, d103, d104, d105, d106, d107, d108, d109, d110, d111, d112, d113, d114, d115, d116, d117, d118, d119, d120, d121, d122, d123, d124, d125, d126, d127, d128, d129, d130, d131, d132, d133, d134, d135, d136, d137, d138, d139, d140, d141, d142, d143, d144, d145, d146, d147, d148, d149, d150, d151, d152, d153, d154, d155, d156, d157, d158, d159, d160, d161, d162, d163, d164, d165, d166, d167, d168, d169, d170, d171, d172, d173, d174, d175, d176, d177, d178, d179, d180, d181, d182, d183, d184, d185, d186, d187, d188, d189, d190, d191, d192, d193, d194, d195, d196, d197, d198, d199, d200, d201, d202, d203, d204, d205, d206, d207, d208, d209, d210, d211, d212, d213, d214, d215, d216, d217, d218, d219, d220, d221, d222, d223, d224, d225, d226, f227], []⟩ w') :
    Code.wp Tryz.prog (stFrom 17) Q ⟨#[f0, f1, .int .i64 conn, .bool clean, f4, f5, f6, f7, f8, f9, f10, .pointer (some ⟨s, 0, none⟩), f12, f13, .pointer (some ⟨bb, 0, none⟩), .bool yc, f16, f17, f18, f19, f20, f21, f22, f23, f24, f25, f26, f27, f28, f29, f30, f31, f32, f33, f34, f35, f36, f37, f38, f39, f40, f41, f42, f43, f44, f45, f46, f47, f48, f49, f50, f51, f52, f53, f54, f55, f56, f57, f58, f59, f60, f61, f62, f63, f64, f65, f66, f67, f68, f69, f70, f71, f72, f73, f74, f75, f76, f77, f78, f79, f80, f81, f82, f83, f84, f85, f86, f87, f88, f89, f90, f91, f92, f93, f94, f95, f96, f97, f98, f99, f100, f101, f102, f103, f104, f105, f106, f107, f108, f109, f110, f111, f112, f113, f114, f115, f116, f117, f118, f119, f120, f121, f122, f123, f124, f125, f126, f127, f128, f129, f130, f131, f132, f133, f134, f135, f136, f137, f138, f139, f140, f141, f142, f143, f144, f145, f146, f147, f148, f149, f150, f151, f152, f153, f154, f155, f156, f157, f158, f159, f160, f161, f162, f163, f164, f165, f166, f167, f168, f169, f170, f171, f172, f173, f174, f175, f176, f177, f178, f179, f180, f181, f182, f183, f184, f185, f186, f187, f188, f189, f190, f191, f192, f193, f194, f195, f196, f197, f198, f199, f200, f201, f202, f203, f204, f205, f206, f207, f208, f209, f210, f211, f212, f213, f214, f215, f216, f217, f218, f219, f220, f221, f222, f223, f224, f225, f226, f227], []⟩ w := by
  dsimp only at hQ ⊢
  conv => arg 2; whnf
  have HW := Lib.hid hw
  have HQ := Lib.hid hQ
  obtain ⟨hlS, hrS, hoS, -⟩ := hw.se.rep.lens
  replace hlS : y.l.length ≤ 16 := hlS
  have HRS := Lib.hid (resume_subs y.o)
  clear hw hQ
  go_upto_region 17 with fail
  refine st_r17 W s win most y F bb a1 a2 a3 c1 c2 c3 yc hyc w HW.out (fun x a a' w h e => hQp x a a' w h e) ?_
  intro d62 d63 d64 d65 d66 d67 d68 d69 d70 d71 d72 d73 d74 d75 d76 d77 d78 d79 d80 d81 d82 d83 d84 d85 d86 w1 hw1
  dsimp only
  obtain ⟨lb, tb, cb, FL, FO, FC, hp, hF⟩ := hw1.se.rep
  obtain ⟨k1, k2, -⟩ := hp.head
  replace k1 : w1.cell? ⟨s, 1, none⟩ = some (.int .i64 0) := k1
  replace k2 : w1.cell? ⟨s, 2, none⟩ = some (.bool yc) := by rw [← hyc]; exact k2
  have HW1 := Lib.hid hw1
  clear hw1 hp hF
  go_wp2_with fail
  go_quiet (fail)
  go_wp2_with fail
  refine (connect_any clean _).mono ?_
  rintro e w2 ⟨rfl, hk2⟩
  have HW2 := Lib.hid (HW1.out.below ((below_draws _).trans hk2))
  clear hk2 k1 k2
  go_wp2_with fail
  obtain ⟨⟨pb, nl⟩, hA⟩ : ∃ q, beginA conn (conK clean) (leaveS y) = q := ⟨_, rfl⟩
  obtain ⟨z, hz⟩ : ∃ q, beginS conn (conK clean) (leaveS y) = q := ⟨_, rfl⟩
  refine (begin_any s (leaveS y) win most F conn (conK clean) w2 HW2.out.se.rep).mono ?_
  rintro e w3 ⟨v, F3, rfl, ho3, hr3, hu3, -⟩
  rw [hA] at ho3 ⊢
  rw [hz] at hr3
  dsimp only at ho3
  have HW3 := Lib.hid (HW2.out.upd hr3 hu3)
  obtain ⟨av, cv, rfl, hrv, -, -⟩ := ownsRow_row ho3
  have HRV := Lib.hid hrv
  have HA := Lib.hid hA
  have HZ := Lib.hid hz
  clear hr3 hu3 ho3 hrv hA hz
  go_wp2_with fail
  refine (told_any s z win most F3 w3 HW3.out.se.rep).mono ?_
  rintro e w4 ⟨b1, b2, b3, d1, d2, d3, rfl, ht4, hk4, -⟩
  have hxn := heap_alloc_new w4 (.cells (toldC z b1 b2 b3 d1 d2 d3) 48)
  have hbn := low_alloc w4 (.cells (toldC z b1 b2 b3 d1 d2 d3) 48)
  have HW5 := Lib.hid ((HW3.out.below hk4).below hbn)
  have HRV5 := Lib.hid ((HRV.out.below hk4 (Nat.le_refl _)).below hbn (Nat.le_refl _))
  have HTN := Lib.hid (ht4.below hbn)
  have HNB := Lib.hid hxn
  have HLS := Lib.hid (told_size z b1 b2 b3 d1 d2 d3)
  have HL1 := Lib.hid (told_one z b1 b2 b3 d1 d2 d3)
  have HL4 : Hid ((4 : Nat) = (toldC z b1 b2 b3 d1 d2 d3).size) := Lib.hid rfl
  clear hk4 ht4 hxn hbn HW1 HW2 HW3 HRV
  generalize hTC : toldC z b1 b2 b3 d1 d2 d3 = TC at *
  replace hTC := Lib.hid hTC
  go_upto_region 24 with (first
    | (refine wpList_store_newTo rfl 48 _ _ rfl rfl w4.heap.size rfl TC _ rfl rfl HLS.out HL4.out HL1.out ?_)
    | fail)
  generalize w4.alloc (.cells TC 48) = w5 at *
  rw [← hTC.out] at HNB
  clear HLS HL1 HL4 hTC
  have hA := HA.out
  have hz := HZ.out
  clear HA HZ
  by_cases hcn : conn < 1
  · obtain ⟨e1, e2⟩ := begin_may (x := leaveS y) (p := conK clean) (conn := conn) (by unfold mayB; rw [decide_eq_false (by omega)]; rfl)
    rw [e2] at hA
    rw [e1] at hz
    cases hA
    subst hz
    clear e1 e2
    obtain ⟨p0, p1, p2, p3⟩ := cells4 HW5.out.box
    obtain ⟨q0, q1, q2, q3⟩ := cells4 HNB.out
    go_wp2_with fail
    refine (same18_any y.l (resumeO y.o) y.came y.o.wait.length b1 b2 b3 a1 a2 a3 d1 d2 d3 c1 c2 c3 w5 HTN.out.subs HW5.out.told.subs HTN.out.res HW5.out.told.res HTN.out.opn HW5.out.told.opn HRS.out (Nat.le_trans hlS (by decide)) (Nat.le_trans hrS (by decide)) (Nat.le_trans hoS (by decide))).mono ?_
    rintro e w6 ⟨rfl, hk⟩
    have HB6 := Lib.hid hk
    have HW6 := Lib.hid (HW5.out.below hk)
    obtain ⟨lb, tb, cb, FL, FO, FC, hp, hF⟩ := HW6.out.se.rep
    obtain ⟨k1, k2, -⟩ := hp.head
    replace k1 : w6.cell? ⟨s, 1, none⟩ = some (.int .i64 0) := k1
    replace k2 : w6.cell? ⟨s, 2, none⟩ = some (.bool yc) := by rw [← hyc]; exact k2
    clear hk hp hF p0 p1 p2 p3 q0 q1 q2 q3
    go_wp2_with fail
    exact HQ.out _ _ w6 HW6.out.se
  · have HM : Hid (mayB conn (conK clean) = true) := Lib.hid (by unfold mayB; rw [decide_eq_true (by omega)]; rfl)
    have HYC := Lib.hid hyc
    clear hyc
    cases yc with
    | true =>
      have HFR : Hid (freshB (conK clean) (leaveS y) = true) := Lib.hid (by simp [freshB, leaveS, conK, HYC.out])
      rw [(begunS_fresh HM.out HFR.out).2] at hA
      rw [(begunS_fresh HM.out HFR.out).1] at hz
      cases hA
      subst hz
      have hnl : (namesE (leaveS y).l).length = y.l.length := by simp [namesE, leaveS]
      rw [hnl]
      clear hnl
      go_upto_if 166 with fail
      refine st_r28 W s win most y F3 bb w4.heap.size a1 a2 a3 b1 b2 b3 av c1 c2 c3 d1 d2 d3 cv conn clean w5 HW5.out HNB.out HTN.out HRV5.out hlS ?_
      intro d10 d21 d171 d172 d173 d174 d175 d176 d177 d178 d179 d180 d181 d182 d183 d184 d185 d186 d187 d188 d189 d190 d191 d192 d193 d194 d195 d196 d197 d198 d199 d200 d201 d202 d203 d204 d205 d206 d207 d208 d209 d210 d211 d212 d213 d214 d215 d216 d217 d218 d219 d220 d221 d222 d223 d224 d225 d226 w6 hb6
      dsimp only
      exact HQ.out _ _ w6 (HW5.out.se.below hb6)
    | false =>
      cases clean with
      | true =>
        have HFR : Hid (freshB (conK true) (leaveS y) = true) := Lib.hid (by simp [freshB, leaveS, conK, HYC.out])
        rw [(begunS_fresh HM.out HFR.out).2] at hA
        rw [(begunS_fresh HM.out HFR.out).1] at hz
        cases hA
        subst hz
        have hnl : (namesE (leaveS y).l).length = y.l.length := by simp [namesE, leaveS]
        rw [hnl]
        clear hnl
        go_upto_if 166 with fail
        refine st_r28 W s win most y F3 bb w4.heap.size a1 a2 a3 b1 b2 b3 av c1 c2 c3 d1 d2 d3 cv conn true w5 HW5.out HNB.out HTN.out HRV5.out hlS ?_
        intro d10 d21 d171 d172 d173 d174 d175 d176 d177 d178 d179 d180 d181 d182 d183 d184 d185 d186 d187 d188 d189 d190 d191 d192 d193 d194 d195 d196 d197 d198 d199 d200 d201 d202 d203 d204 d205 d206 d207 d208 d209 d210 d211 d212 d213 d214 d215 d216 d217 d218 d219 d220 d221 d222 d223 d224 d225 d226 w6 hb6
        dsimp only
        exact HQ.out _ _ w6 (HW5.out.se.below hb6)
      | false =>
        have HFR : Hid (freshB (conK false) (leaveS y) = false) := Lib.hid (by simp [freshB, leaveS, conK, HYC.out])
        rw [(begunS_eq HM.out HFR.out).2] at hA
        rw [(begunS_eq HM.out HFR.out).1] at hz
        cases hA
        subst hz
        obtain ⟨p0, p1, p2, p3⟩ := cells4 HW5.out.box
        obtain ⟨q0, q1, q2, q3⟩ := cells4 HNB.out
        go_wp2_with fail
        refine (same18_any y.l (resumeO y.o) y.came y.o.wait.length b1 b2 b3 a1 a2 a3 d1 d2 d3 c1 c2 c3 w5 HTN.out.subs HW5.out.told.subs HTN.out.res HW5.out.told.res HTN.out.opn HW5.out.told.opn HRS.out (Nat.le_trans hlS (by decide)) (Nat.le_trans hrS (by decide)) (Nat.le_trans hoS (by decide))).mono ?_
        rintro e w6 ⟨rfl, hk⟩
        have HB6 := Lib.hid hk
        have HW6 := Lib.hid (HW5.out.below hk)
        obtain ⟨lb, tb, cb, FL, FO, FC, hp, hF⟩ := HW6.out.se.rep
        obtain ⟨k1, k2, -⟩ := hp.head
        replace k1 : w6.cell? ⟨s, 1, none⟩ = some (.int .i64 conn) := k1
        replace k2 : w6.cell? ⟨s, 2, none⟩ = some (.bool false) := k2
        clear hk hp hF p0 p1 p2 p3 q0 q1 q2 q3
        go_wp2_with fail
        exact HQ.out _ _ w6 HW6.out.se
end
section
open Go Go.RowKit

set_option maxRecDepth 100000 in
set_option maxHeartbeats 8000000 in
theorem stays_any (W : World) (hT : Tabs W) (hB : Bru W) (a1 a2 a3 most win : Int) (a : Option Addr) (c : Nat) (l : List ActS) (hl : Row W a (actsV l)) (hll : l.length ≤ maxLen) (hlp : ∀ x ∈ l, ActPre W x) (conn : Int) (clean : Bool) (turns : Int) (ht0 : 0 ≤ turns) (ht1 : turns ≤ 255) :
    Calls Tryz.prog 4 #[.agg #[.int .i64 a1, .int .i64 a2, .int .i64 a3, .int .i64 most, .int .i64 win], .slice a l.length c, .int .i64 conn, .bool clean, .int .u8 turns] W fun e w' => e = .returned (.bool true) ∧ Below W.heap.size W w' := by
  obtain ⟨V, hV⟩ : ∃ V, W.alloc (.cells #[.int .i64 a1, .int .i64 a2, .int .i64 a3, .int .i64 most, .int .i64 win] 23) = V := ⟨_, rfl⟩
  have hbv : Below W.heap.size W V := by rw [← hV]; exact low_alloc _ _
  have hxv : V.heap[W.heap.size]? = some (.cells #[.int .i64 a1, .int .i64 a2, .int .i64 a3, .int .i64 most, .int .i64 win] 23 (0, 0)) := by rw [← hV]; exact heap_alloc_new _ _
  have HBV := Lib.hid hbv
  have HT := Lib.hid hT
  have HB := Lib.hid hB
  have HL : Hid (∀ X, Below W.heap.size W X → Row X a (actsV l)) := Lib.hid (fun X hX => hl.below hX (Nat.le_refl _))
  have HLP := Lib.hid hlp
  have HGL := Lib.hid (great18_any a c l V (hl.below hbv (Nat.le_refl _)) hll (fun x hx => ⟨(hlp x hx).k0, (hlp x hx).k1, (hlp x hx).q0, (hlp x hx).q1, (hlp x hx).mq, (hlp x hx).i0, (hlp x hx).i1, (hlp x hx).ms, (hlp x hx).row.below hbv (Nat.le_refl _), (hlp x hx).rl⟩))
  have HAW := Lib.hid (fun X (hX : Below W.heap.size W X) => awake_any X (hT.below hX))
  have HXV : Hid (∀ X, Below V.heap.size V X → X.cell? ⟨W.heap.size, 0, none⟩ = some (.int .i64 a1) ∧ X.cell? ⟨W.heap.size, 1, none⟩ = some (.int .i64 a2) ∧ X.cell? ⟨W.heap.size, 2, none⟩ = some (.int .i64 a3) ∧ X.cell? ⟨W.heap.size, 3, none⟩ = some (.int .i64 most) ∧ X.cell? ⟨W.heap.size, 4, none⟩ = some (.int .i64 win)) := Lib.hid (fun X hX => by
    have h := (hX.block W.heap.size (Array.getElem?_eq_some_iff.1 hxv).1).trans hxv
    exact ⟨cell_of_row _ _ 0 _ _ _ h, cell_of_row _ _ 1 _ _ _ h, cell_of_row _ _ 2 _ _ _ h, cell_of_row _ _ 3 _ _ _ h, cell_of_row _ _ 4 _ _ _ h⟩)
  clear hl hlp hbv hxv hT hB
  go_enter Tryz.func4, Tryz.ntmps4
  go_wp2_with fail
  refine HGL.out.mono ?_
  rintro e w1 ⟨he, hk1⟩
  have HB1 := Lib.hid (bnext HBV.out (Nat.le_refl _) hk1)
  have HV1 := Lib.hid hk1
  clear hk1
  rcases he with rfl | ⟨rfl, hl200, hsl⟩
  · go_wp2_with fail
    refine (HAW.out _ HB1.out).mono ?_
    rintro e w2 ⟨rfl, hk2⟩
    have HF := Lib.hid (bnext HB1.out (Nat.le_refl _) hk2)
    clear hk2
    go_wp2_with fail
    go_ret
    exact ⟨rfl, HF.out⟩
  · have HLO : Hid (∀ x ∈ l, ActOk x) := Lib.hid (fun x hx => (HLP.out x hx).ok (hsl x hx).1 (hsl x hx).2)
    clear hsl
    obtain ⟨g0, g1, g2, g3, g4⟩ := HXV.out w1 HV1.out
    go_wp2_with fail
    by_cases hcfg : (1 ≤ most ∧ most ≤ 1024) ∧ 1 ≤ win ∧ win ≤ 1024
    · refine (sesnew_any ⟨#[99]⟩ a1 a2 a3 most win _ hcfg.1 hcfg.2).mono ?_
      rintro e w3 ⟨s, F, rfl, hr3, hu3⟩
      have hs3 : Se W w3 s win most (SS.new ⟨#[99]⟩) F := Se.new HB1.out hr3 hu3
      have HS3 := Lib.hid hs3
      clear hr3 hu3 hs3 hcfg g0 g1 g2 g3 g4
      go_wp2_with fail
      go_loopw [12] (fun i wr => ∃ (k : Nat) (F' : List Nat), i = .int .i64 k ∧ k ≤ l.length ∧ Se W wr s win most (doAll win most (l.take k) (SS.new ⟨#[99]⟩)) F') (fun i _ => (l.length - intOf i).toNat)
      case atStart => exact ⟨0, F, rfl, by omega, HS3.out⟩
      case round =>
        obtain ⟨k, F', rfl, hk, hse⟩ := hrel
        have HSE := Lib.hid hse
        by_cases hlt : k < l.length
        · have hk0 : (0 : Int) ≤ k := by omega
          have hkl : (k : Int) < l.length := by omega
          have hw1 : IntKind.i64.wrap ((k : Int) + 1) = (k : Int) + 1 := w_i64 _ (by omega) (by omega)
          obtain ⟨ab, ao, rfl, hra⟩ := acts_at (HL.out _ hse.bel) hlt
          have HRA := Lib.hid hra
          have HOK := Lib.hid (HLO.out _ (List.getElem_mem hlt))
          have HSN := Lib.hid (doAll_snoc (win := win) (most := most) (x := SS.new ⟨#[99]⟩) hlt)
          generalize l[k] = x at *
          generalize doAll win most (l.take k) (SS.new ⟨#[99]⟩) = z at *
          have HDO := Lib.hid (do_x W s z win most F' x wr HSE.out HOK.out HT.out HB.out)
          have HAS := Lib.hid (act_size x)
          generalize actC x = AC at *
          clear hse hra
          go_wp2_with (first
            | (refine wpList_loadMid rfl 41 _ rfl ab (ao + k * 32) rfl AC _ HRA.out Tryz.underlying41 rfl HAS.out _ rfl ?_)
            | fail)
          refine HDO.out.mono ?_
          rintro e w5 ⟨rfl, F5, hr5, hu5⟩
          have HS5 := Lib.hid (HSE.out.upd hr5 hu5)
          clear hr5 hu5
          go_wp2_with fail
          go_roundw
          case rel => exact ⟨k + 1, F5, by go_num, by omega, by rw [HSN.out]; exact HS5.out⟩
          case measure => simp [intOf]; omega
        · have hkl : ¬ (k : Int) < l.length := by omega
          generalize doAll win most (l.take k) (SS.new ⟨#[99]⟩) = z at *
          clear hse hlt hk
          go_wp2_with fail
          go_loopw [13] (fun i wr => ∃ (t : Nat) (z : SS) (F' : List Nat), i = .int .i64 t ∧ (t : Int) ≤ turns % 5 ∧ Se W wr s win most z F') (fun i _ => (turns % 5 - intOf i).toNat)
          case atStart => exact ⟨0, z, F', rfl, by omega, HSE.out⟩
          case round =>
            obtain ⟨t, y, F2, rfl, ht, hse⟩ := hrel
            have HSE := Lib.hid hse
            clear hse
            by_cases hlt : (t : Int) < turns % 5
            · have ht0' : (0 : Int) ≤ t := by omega
              have hw1 : IntKind.i64.wrap ((t : Int) + 1) = (t : Int) + 1 := w_i64 _ (by omega) (by omega)
              go_upto_block 3 with fail
              refine wp_block ?_
              refine wp_seq_k (fun K hK => ?_)
              replace hK := Lib.hid hK
              refine st_r13 W s win most y F2 wr HSE.out (by repeat' (first | exact quiet_body | refine quiet_then ?_ | refine quiet_block ?_)) ?_
              intro d49 d50 d51 d52 d53 d54 bb a1 a2 a3 c1 c2 c3 x9 hws
              dsimp only
              have HWS := Lib.hid hws
              clear hws
              refine hK.out _ _ ?_
              refine wp_seq_k (fun K2 hK2 => ?_)
              replace hK2 := Lib.hid hK2
              by_cases hpar : (t : Int) % 2 = 0
              · have hpb : ((t : Int) % 2 == 0) = true := by simp [hpar]
                go_wp2_with fail
                refine (lose_any s y win most F2 x9 HWS.out.se.rep).mono ?_
                rintro e v2 ⟨rfl, hr, hu⟩
                have HW2 := Lib.hid (HWS.out.upd hr hu)
                clear hr hu
                go_wp2_with fail
                refine hK2.out _ _ ?_
                refine st_rest W s win most y F2 bb a1 a2 a3 c1 c2 c3 conn clean y.clean rfl v2 HW2.out (by repeat' (first | exact quiet_body | refine quiet_then ?_ | refine quiet_block ?_)) ?_
                intro d10 d16 d17 d18 d19 d20 d21 d62 d63 d64 d65 d66 d67 d68 d69 d70 d71 d72 d73 d74 d75 d76 d77 d78 d79 d80 d81 d82 d83 d84 d85 d86 d87 d88 d89 d90 d91 d92 d93 d94 d95 d96 d97 d98 d99 d100 d101 d102 d103 d104 d105 d106 d107 d108 d109 d110 d111 d112 d113 d114 d115 d116 d117 d118 d119 d120 d121 d122 d123 d124 d125 d126 d127 d128 d129 d130 d131 d132 d133 d134 d135 d136 d137 d138 d139 d140 d141 d142 d143 d144 d145 d146 d147 d148 d149 d150 d151 d152 d153 d154 d155 d156 d157 d158 d159 d160 d161 d162 d163 d164 d165 d166 d167 d168 d169 d170 d171 d172 d173 d174 d175 d176 d177 d178 d179 d180 d181 d182 d183 d184 d185 d186 d187 d188 d189 d190 d191 d192 d193 d194 d195 d196 d197 d198 d199 d200 d201 d202 d203 d204 d205 d206 d207 d208 d209 d210 d211 d212 d213 d214 d215 d216 d217 d218 d219 d220 d221 d222 d223 d224 d225 d226 z9 F9 v9 h9
                dsimp only
                have HS9 := Lib.hid h9
                clear h9
                go_wp2_with fail
                go_roundw
                case rel => exact ⟨t + 1, z9, F9, by go_num, by omega, HS9.out⟩
                case measure => simp [intOf]; omega
              · have hpb : ((t : Int) % 2 == 0) = false := by rw [beq_eq_false_iff_ne]; exact hpar
                go_wp2_with fail
                refine (leave_any s y win most F2 x9 HWS.out.se.rep).mono ?_
                rintro e v2 ⟨rfl, hr, hu⟩
                have HW2 := Lib.hid (HWS.out.upd hr hu)
                clear hr hu
                go_wp2_with fail
                refine hK2.out _ _ ?_
                refine st_rest W s win most y F2 bb a1 a2 a3 c1 c2 c3 conn clean y.clean rfl v2 HW2.out (by repeat' (first | exact quiet_body | refine quiet_then ?_ | refine quiet_block ?_)) ?_
                intro d10 d16 d17 d18 d19 d20 d21 d62 d63 d64 d65 d66 d67 d68 d69 d70 d71 d72 d73 d74 d75 d76 d77 d78 d79 d80 d81 d82 d83 d84 d85 d86 d87 d88 d89 d90 d91 d92 d93 d94 d95 d96 d97 d98 d99 d100 d101 d102 d103 d104 d105 d106 d107 d108 d109 d110 d111 d112 d113 d114 d115 d116 d117 d118 d119 d120 d121 d122 d123 d124 d125 d126 d127 d128 d129 d130 d131 d132 d133 d134 d135 d136 d137 d138 d139 d140 d141 d142 d143 d144 d145 d146 d147 d148 d149 d150 d151 d152 d153 d154 d155 d156 d157 d158 d159 d160 d161 d162 d163 d164 d165 d166 d167 d168 d169 d170 d171 d172 d173 d174 d175 d176 d177 d178 d179 d180 d181 d182 d183 d184 d185 d186 d187 d188 d189 d190 d191 d192 d193 d194 d195 d196 d197 d198 d199 d200 d201 d202 d203 d204 d205 d206 d207 d208 d209 d210 d211 d212 d213 d214 d215 d216 d217 d218 d219 d220 d221 d222 d223 d224 d225 d226 z9 F9 v9 h9
                dsimp only
                have HS9 := Lib.hid h9
                clear h9
                go_wp2_with fail
                go_roundw
                case rel => exact ⟨t + 1, z9, F9, by go_num, by omega, HS9.out⟩
                case measure => simp [intOf]; omega
            · go_wp2_with fail
              refine (HAW.out _ HSE.out.bel).mono ?_
              rintro e w4 ⟨rfl, hk4⟩
              have HF := Lib.hid (bnext HSE.out.bel (Nat.le_refl _) hk4)
              clear hk4
              go_wp2_with fail
              go_ret
              exact ⟨rfl, HF.out⟩
    · have hbad : most < 1 ∨ 1024 < most ∨ win < 1 ∨ 1024 < win := by omega
      refine (sesnew_bad ⟨#[99]⟩ a1 a2 a3 most win _ hbad).mono ?_
      rintro e w3 ⟨rfl, hk3⟩
      have HB3 : Hid (Below W.heap.size W w3) := Lib.hid (bnext HB1.out (Nat.le_refl _) hk3)
      clear hk3 hcfg hbad g0 g1 g2 g3 g4
      go_wp2_with fail
      refine (HAW.out _ HB3.out).mono ?_
      rintro e w5 ⟨rfl, hk5⟩
      have HF := Lib.hid (bnext HB3.out (Nat.le_refl _) hk5)
      clear hk5
      go_wp2_with fail
      go_ret
      exact ⟨rfl, HF.out⟩
end
end Go.Proofs.YtmkhagmjpbfieaaGreatDoor
