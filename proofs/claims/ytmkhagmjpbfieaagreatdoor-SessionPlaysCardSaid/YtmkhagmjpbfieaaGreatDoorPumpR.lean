/- Messages under way: pieces of Pump. (Printed by gen_pump.py.) -/
import Derived.Test.YtmkhagmjpbfieaaGreatDoorPkY
namespace Go.Proofs.YtmkhagmjpbfieaaGreatDoor
open Go Go.RowKit

theorem built_sent (x : Sent) : Tryz.prog.built 119 [(0, .agg (pubK x.m x.id false).cells.toArray), (1, .int .u8 x.due)] = some (sentC x).toArray := by
  obtain ⟨⟨t, p, q, r⟩, id, due⟩ := x
  kernel_rfl
theorem build_sent (x : Sent) : Build1 Tryz.prog 97 119 (sentC x) := by
  intro o a w K Q y ho hx h
  obtain ⟨i, hi, hz0, hz1, hz2⟩ := info_parts T_sent.hi
  refine wp_buildSlice 97 119 1 _ ho (sentC x).toArray i _ Tryz.underlying97 hi hz0 (by rw [hz1]; decide) (by rw [hz1]; decide) ?_ h
  rw [hz1]
  simp only [List.map_toArray, List.map_cons, List.map_nil, hx]
  clear hx h ho hi hz0 hz1 hz2
  obtain ⟨⟨t, p, q, r⟩, id, due⟩ := x
  kernel_rfl
theorem build_pk (x : Pkt) : Build1 Tryz.prog 45 37 x.cells := by
  intro o a w K Q y ho hx h
  obtain ⟨i, hi, hz0, hz1, hz2⟩ := info_parts T_pkt.hi
  refine wp_buildSlice 45 37 1 _ ho x.cells.toArray i _ Tryz.underlying45 hi hz0 (by rw [hz1]; decide) (by rw [hz1]; decide) ?_ h
  rw [hz1]
  simp only [List.map_toArray, List.map_cons, List.map_nil, hx]
  clear hx h ho hi hz0 hz1 hz2
  obtain ⟨p0, p1, p2, p3, p4, p5, p6, p7, p8, p9, p10, p11, ⟨m0, m1, m2, m3⟩, p13, p14, p15, p16, p17, p18, p19, p20, p21, p22⟩ := x
  kernel_rfl
noncomputable def pumpReg (k : Nat) : Code := (Tryz.f41.body.bind (regionOf k)).getD .skip
set_option maxRecDepth 100000 in
set_option maxHeartbeats 4000000 in
theorem pump_r14 (t q p pb : Nat) (v : Value) (win most : Int) (wait : List Msg) (ids : List Nat) (row : List Sent) (FQ FP : List Nat) (x : Sent) (w : World) (hp : OParts w t q p v win most wait ids row FQ FP) (hl : row.length ≤ 1024) (hX : w.heap[pb]? = some (.cells (pubK x.m x.id false).cells.toArray 37 (0, 0))) (hpb : pb ∉ oFoot t v FQ FP)
    {c1 c2 c3 c4 c5 c8 c9 c10 c11 c12 c13 c14 c15 c16 c17 c18 c19 c20 c21 c22 c23 c24 c25 c26 c27 c28 c29 c30 c31 c32 c33 c34 c35 c36 c37 c38 c39 c40 c41 c42 c43 c44 c45 c46 c47 c48 c49 c50 c51 c52 c53 c54 c55 c56 c57 c58 c59 c60 c61 c62 c63 c64 c65 c66 c67 c68 c69 c70 c71 c72 c73 c74 c75 : Value} {Q : Exit → Act → World → Prop} (hQp : QuietP Q)
    (hQ : ∀ ⦃d60 d61 d62 d63 d64 d65 d66 d67 d68 d69 d70 d71 : Value⦄ (w' : World) (v' : Value), OParts w' t q p v' win most wait ids (row ++ [x]) FQ FP → Upd (oFoot t v FQ FP) (oFoot t v' FQ FP) w w' → w'.heap[pb]? = w.heap[pb]? → Q .normal ⟨#[.pointer (some ⟨t, 0, none⟩), c1, c2, c3, c4, c5, .pointer (some ⟨pb, 0, none⟩), .int .u8 x.due, c8, c9, c10, c11, c12, c13, c14, c15, c16, c17, c18, c19, c20, c21, c22, c23, c24, c25, c26, c27, c28, c29, c30, c31, c32, c33, c34, c35, c36, c37, c38, c39, c40, c41, c42, c43, c44, c45, c46, c47, c48, c49, c50, c51, c52, c53, c54, c55, c56, c57, c58, c59, d60, d61, d62, d63, d64, d65, d66, d67, d68, d69, d70, d71, c72, c73, c74, c75], []⟩ w') :
    Code.wp Tryz.prog (pumpReg 14) Q ⟨#[.pointer (some ⟨t, 0, none⟩), c1, c2, c3, c4, c5, .pointer (some ⟨pb, 0, none⟩), .int .u8 x.due, c8, c9, c10, c11, c12, c13, c14, c15, c16, c17, c18, c19, c20, c21, c22, c23, c24, c25, c26, c27, c28, c29, c30, c31, c32, c33, c34, c35, c36, c37, c38, c39, c40, c41, c42, c43, c44, c45, c46, c47, c48, c49, c50, c51, c52, c53, c54, c55, c56, c57, c58, c59, c60, c61, c62, c63, c64, c65, c66, c67, c68, c69, c70, c71, c72, c73, c74, c75], []⟩ w := by
  dsimp only at hQ ⊢
  conv => arg 2; whnf
  obtain ⟨-, -, -, c3⟩ := hp.cells
  obtain ⟨a, cp, rfl, -, -, -⟩ := ownsRow_row hp.own
  have htl := hp.ltt
  have hxl : pb < w.heap.size := (Array.getElem?_eq_some_iff.1 hX).1
  have hpt : pb ≠ t := fun e => hpb (mem_oFoot.2 (.inl e))
  have hpv : pb ∉ (Value.slice a row.length cp).ownBlock.toList := fun e => hpb (mem_oFoot.2 (.inr (.inr (.inr e))))
  have HP := Lib.hid hp
  have HS : Hid (∀ X : World, X.heap[t]? = w.heap[t]? → X.heap[pb]? = w.heap[pb]? → X.cell? ⟨t, 3, none⟩ = some (.slice a row.length cp) ∧ X.rangeAt pb 0 (pubK x.m x.id false).cells) := Lib.hid (fun X h1 h2 => ⟨cell_of_row X t 3 _ _ _ (h1.trans hp.hd), range_blk (h2.trans hX)⟩)
  have HNE : Hid (∀ j, (Value.slice a row.length cp).ownBlock = some j → j ≠ t ∧ j ≠ pb ∧ j < w.heap.size) := Lib.hid (fun j hj => ⟨fun e => hp.tv (by rw [hj, e]; simp), fun e => hpv (by rw [hj, e]; simp), hp.ltv j (by rw [hj]; simp)⟩)
  have HOWN := Lib.hid hp.own
  have HBU := Lib.hid (fun (_ : Unit) => built_sent x)
  have HBS := Lib.hid (build_sent x)
  have HLS := Lib.hid (pk_size' (pubK x.m x.id false))
  have H25 : Hid ((sentC x).toArray.size = 1 * 25) := Lib.hid rfl
  have H1 : Hid (∀ u ∈ (sentC x).toArray.toList, u.oneCell' = true) := Lib.hid (by simpa using sentC_one x)
  have HKC : Hid (sentV row ++ (sentC x).toArray.toList = sentV (row ++ [x])) := Lib.hid (by rw [← sentV_append]; simp [sentV])
  have HQ := Lib.hid hQ
  generalize (pubK x.m x.id false).cells = NL at *
  generalize sentC x = SL at *
  clear hp hQ hX hpb hpv
  refine wp_region_tail (S := fun X => X.cell? ⟨t, 3, none⟩ = some (.slice a row.length cp) ∧ X.rangeAt pb 0 NL) 12 (by kernel_rfl) (HS.out _ rfl rfl) (fun hHeld => ?_)
  refine ttk 0 (v := ?_) ?_ hHeld ?_ (hQ := fun _ _ _ h => hQp _ _ _ _ h rfl); rotate_left; · (intro w0 hS0; (try dsimp only at hS0); go_simp; try with_reducible rfl)
  simp only [tks]
  refine ttk 1 (v := ?_) ?_ hHeld ?_ (hQ := fun _ _ _ h => hQp _ _ _ _ h rfl); rotate_left; · (intro w0 hS0; (try dsimp only at hS0); go_simp; try with_reducible rfl)
  simp only [tks]
  refine ttk 2 (v := ?_) ?_ hHeld ?_ (hQ := fun _ _ _ h => hQp _ _ _ _ h rfl); rotate_left; · (intro w0 hS0; (try dsimp only at hS0); go_simp; try with_reducible rfl)
  simp only [tks]
  refine ttk 3 (v := ?_) ?_ hHeld ?_ (hQ := fun _ _ _ h => hQp _ _ _ _ h rfl); rotate_left; · (intro w0 hS0; (try dsimp only at hS0); go_simp; try with_reducible rfl)
  simp only [tks]
  refine ttk 4 (v := ?_) ?_ hHeld ?_ (hQ := fun _ _ _ h => hQp _ _ _ _ h rfl); rotate_left; · (intro w0 hS0; (try dsimp only at hS0); go_simp; try with_reducible rfl)
  simp only [tks]
  refine wpTail.take (i := 5) (v := .agg NL.toArray) rfl (by kernel_rfl) (by kernel_rfl) (by kernel_rfl) (by kernel_rfl) (by kernel_rfl) (fun _ _ _ h => hQp _ _ _ _ h rfl) (Or.inl ⟨rfl, ?_⟩) hHeld ?_
  · intro w0 hS0
    exact exec_load_row rfl rfl hS0.2 Tryz.underlying37 rfl HLS.out
  simp only [List.getElem_toArray, List.getElem_cons_zero, List.getElem_cons_succ, Act.put, List.setIfInBounds_toArray, List.set_cons_zero, List.set_cons_succ]
  refine ttk 6 (v := ?_) ?_ hHeld ?_ (hQ := fun _ _ _ h => hQp _ _ _ _ h rfl); rotate_left; · (intro w0 hS0; (try dsimp only at hS0); go_simp; try with_reducible rfl)
  simp only [tks]
  refine wpTail.take (i := 7) (v := .agg SL.toArray) rfl (by kernel_rfl) (by kernel_rfl) (by kernel_rfl) (by kernel_rfl) (by kernel_rfl) (fun _ _ _ h => hQp _ _ _ _ h rfl) (Or.inl ⟨rfl, ?_⟩) hHeld ?_
  · intro w0 hS0
    exact exec_build 119 _ rfl SL.toArray [(0, .agg NL.toArray), (1, .int .u8 x.due)] (by kernel_rfl) (HBU.out ())
  simp only [List.getElem_toArray, List.getElem_cons_zero, List.getElem_cons_succ, Act.put, List.setIfInBounds_toArray, List.set_cons_zero, List.set_cons_succ]
  refine wpTail.ready (rs := [8]) (by kernel_rfl) (by simp) ?_
  refine AllTail.cons rfl (fun K hK => ?_) AllTail.nil
  rw [if_pos (by rfl)]
  refine HBS.out _ _ _ _ _ _ rfl rfl ?_
  have HB4 : Hid (Below w.heap.size w (w.drew.alloc (.cells SL.toArray 119))) := Lib.hid ((Below.refl _ _).drew.alloc (Nat.le_refl _) _)
  refine hK.out _ _ (fun _ => HS.out _ (HB4.out.block t htl) (HB4.out.block pb hxl)) (fun hHeld => ?_)
  replace hHeld := hHeld (by decide)
  have hsw : w.drew.heap.size = w.heap.size := rfl
  refine wpTail.ready (rs := [9]) (by kernel_rfl) (by simp) ?_
  refine AllTail.cons rfl (fun K hK => ?_) AllTail.nil
  refine step_app (m := 1) T_sent ((ownsRow_local (w' := w.drew) HOWN.out fun _ _ => rfl).alloc _) (heap_alloc_new w.drew _) rfl rfl rfl rfl H25.out (by omega) H1.out ?_ ?_ ?_ ?_
  · omega
  · omega
  · exact Nat.zero_le _
  intro g cap w6 hown6 hgr6 hg6 hgl6
  have hm6 : Mod (t :: (Value.slice a row.length cp).ownBlock.toList) w w6 := (Mod.of_below HB4.out _).grown hgr6 (fun j hj => .inl (List.mem_cons_of_mem _ (Option.mem_toList.2 hj)))
  have hks : ∀ j, j < w.heap.size → (j = t ∨ j = pb) → w6.heap[j]? = w.heap[j]? := fun j hj hor => by
    rw [hgr6.block j (by simp; omega) (fun e => by
      obtain ⟨e1, e2, e3⟩ := HNE.out j e.symm
      rcases hor with h | h
      · exact e1 h
      · exact e2 h)]
    exact HB4.out.block j hj
  have h6t := hks t htl (.inl rfl)
  have h6p := hks pb hxl (.inr rfl)
  refine hK.out _ _ (fun _ => HS.out _ h6t h6p) (fun hHeld => ?_)
  replace hHeld := hHeld (by decide)
  have h6g := h6t.trans HP.out.hd
  have fz6 := frozen_of_row _ _ 3 _ _ h6g
  have h7 := heap_setCell_same w6 t 3 _ _ (.slice (some ⟨g, 0, none⟩) (row.length + 1) cap) h6g
  have h7c := cell_of_row _ _ 3 _ _ _ h7
  have hgn : g ≠ t := fun e => by
    rcases hg6 with h | h
    · exact (HNE.out g h).1 e
    · simp at h; omega
  rw [HKC.out] at hown6
  obtain ⟨hF, hU⟩ := HP.out.turnR (row' := row ++ [x]) (v' := .slice (some ⟨g, 0, none⟩) (row.length + 1) cap) (hm6.setCell (p := ⟨t, 3, none⟩) (.inl (by simp)) _) (by simpa using h7) (by
    rw [List.length_append]
    exact ownsRow_local hown6 fun j hj => heap_setCell_other w6 _ _ _ (by
      obtain rfl : g = j := by simpa [Value.ownBlock] using hj
      exact hgn)) (fun j hj => by
    simp only [Value.ownBlock, Option.toList_some, List.mem_singleton] at hj
    subst hj
    rcases hg6 with h | h
    · exact .inl (Option.mem_toList.2 h)
    · right; simp at h; omega)
  have HF := Lib.hid hF
  have HU := Lib.hid hU
  have HPB : Hid ((w6.setCell ⟨t, 3, none⟩ (.slice (some ⟨g, 0, none⟩) (row.length + 1) cap)).heap[pb]? = w.heap[pb]?) := Lib.hid ((heap_setCell_other w6 _ _ _ hpt).trans h6p)
  clear hown6 hgr6 hg6 hgl6 hm6 hks h6t h6p h7 hgn hF hU
  refine ttk 10 (v := ?_) ?_ hHeld ?_ (hQ := fun _ _ _ h => hQp _ _ _ _ h rfl); rotate_left; · (intro w0 hS0; (try dsimp only at hS0); go_simp; try with_reducible rfl)
  simp only [tks]
  refine ttk 11 (v := ?_) ?_ hHeld ?_ (hQ := fun _ _ _ h => hQp _ _ _ _ h rfl); rotate_left; · (intro w0 hS0; (try dsimp only at hS0); go_simp; try with_reducible rfl)
  simp only [tks]
  refine wpTail.ready (rs := [12]) (by kernel_rfl) (by simp) ?_
  refine AllTail.cons rfl (fun K hK => ?_) AllTail.nil
  rw [if_pos (by rfl)]
  go_simp
  refine hK.out _ _ (fun h => absurd rfl h) (fun _ => ?_)
  refine wpTail.done (by kernel_rfl) ?_ _
  exact HQ.out _ _ HF.out HU.out HPB.out
set_option maxRecDepth 100000 in
set_option maxHeartbeats 4000000 in
theorem pump_r15 (pb : Nat) (v : Value) (B : Nat) (ps : List Pkt) (x : Pkt) (F : List Nat) (w : World) (ho : w.ownsRow B 37 24 v ps.length (pksV ps)) (hB : B ≤ w.heap.size) (hF : ∀ k ∈ F, k < w.heap.size) (hv : Off F v.ownBlock.toList) (hl : ps.length ≤ 4096) (hX : w.heap[pb]? = some (.cells x.cells.toArray 37 (0, 0)))
    {c0 c1 c2 c4 c5 c7 c8 c9 c10 c11 c12 c13 c14 c15 c16 c17 c18 c19 c20 c21 c22 c23 c24 c25 c26 c27 c28 c29 c30 c31 c32 c33 c34 c35 c36 c37 c38 c39 c40 c41 c42 c43 c44 c45 c46 c47 c48 c49 c50 c51 c52 c53 c54 c55 c56 c57 c58 c59 c60 c61 c62 c63 c64 c65 c66 c67 c68 c69 c70 c71 c72 c73 c74 c75 : Value} {Q : Exit → Act → World → Prop}
    (hQ : ∀ ⦃d72 d73 d74 d75 : Value⦄ (w' : World) (v' : Value), w'.ownsRow B 37 24 v' (ps ++ [x]).length (pksV (ps ++ [x])) → Off F v'.ownBlock.toList → Mod v.ownBlock.toList w w' → Q .normal ⟨#[c0, c1, c2, v', c4, c5, .pointer (some ⟨pb, 0, none⟩), c7, c8, c9, c10, c11, c12, c13, c14, c15, c16, c17, c18, c19, c20, c21, c22, c23, c24, c25, c26, c27, c28, c29, c30, c31, c32, c33, c34, c35, c36, c37, c38, c39, c40, c41, c42, c43, c44, c45, c46, c47, c48, c49, c50, c51, c52, c53, c54, c55, c56, c57, c58, c59, c60, c61, c62, c63, c64, c65, c66, c67, c68, c69, c70, c71, d72, d73, d74, d75], []⟩ w') :
    Code.wp Tryz.prog (pumpReg 15) Q ⟨#[c0, c1, c2, v, c4, c5, .pointer (some ⟨pb, 0, none⟩), c7, c8, c9, c10, c11, c12, c13, c14, c15, c16, c17, c18, c19, c20, c21, c22, c23, c24, c25, c26, c27, c28, c29, c30, c31, c32, c33, c34, c35, c36, c37, c38, c39, c40, c41, c42, c43, c44, c45, c46, c47, c48, c49, c50, c51, c52, c53, c54, c55, c56, c57, c58, c59, c60, c61, c62, c63, c64, c65, c66, c67, c68, c69, c70, c71, c72, c73, c74, c75], []⟩ w := by
  dsimp only at hQ ⊢
  conv => arg 2; whnf
  obtain ⟨a, cp, rfl, -, -, -⟩ := ownsRow_row ho
  have HOWN := Lib.hid ho
  have HX := Lib.hid hX
  have HBS := Lib.hid (build_pk x)
  have HLS := Lib.hid (pk_size x)
  have H24 : Hid (x.cells.toArray.size = 1 * 24) := Lib.hid rfl
  have H1 : Hid (∀ u ∈ x.cells.toArray.toList, u.oneCell' = true) := Lib.hid (by simpa [pksV] using pks_one [x])
  have HKC : Hid (pksV ps ++ x.cells.toArray.toList = pksV (ps ++ [x])) := Lib.hid (by rw [← pksV_append]; simp [pksV])
  have HQ := Lib.hid hQ
  have HV := Lib.hid hv
  have HFF := Lib.hid hF
  generalize x.cells = XL at *
  clear ho hX hQ hv hF
  go_wp2_with (first
    | (refine wpList_load_row rfl 37 _ rfl pb rfl 37 XL.toArray _ _ HX.out Tryz.underlying37 rfl HLS.out ?_)
    | (refine wpList_build1 HBS.out rfl _ rfl rfl _ rfl w.heap.size rfl ?_)
    | (at_builtin; refine wpList_appR T_pkt (HOWN.out.alloc (.cells XL.toArray 37)) (row_new w XL 37) (m := 1) rfl rfl rfl rfl _ rfl (by simpa using H24.out) (by omega) (by simpa using H1.out) (by omega) (by omega) (by simp; omega) ?_; intro g cap w6 hown6 hgr6 hg6 hgl6; have HO6 := Lib.hid hown6; have HG6 := Lib.hid hgr6; have HI6 := Lib.hid hg6; clear hown6 hgr6 hg6 hgl6; go_frame)
    | fail)
  have hvl : ∀ k ∈ (Value.slice a ps.length cp).ownBlock.toList, k < w.heap.size := fun k hk => (HOWN.out.lt k (Option.mem_toList.1 hk)).2
  refine HQ.out _ _ (by
    rw [List.length_append, ← HKC.out]
    exact HO6.out) (fun k hk hk' => ?_) ((Mod.of_below (low_alloc w _) _).grown HG6.out fun j hj => .inl (Option.mem_toList.2 hj))
  simp only [Value.ownBlock, Option.toList_some, List.mem_singleton] at hk'
  subst hk'
  rcases HI6.out with h | h
  · exact HV.out _ hk (Option.mem_toList.2 h)
  · have := HFF.out _ hk
    simp at h
    omega
end Go.Proofs.YtmkhagmjpbfieaaGreatDoor
