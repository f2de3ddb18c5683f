/- The document's hub: what is left of one, behind what it keeps. (Printed by gen_done3.py.) The document's hub: one, an item that is routed. (Printed by gen_droute.py.) The document's hub: one at any item; Do walked. -/
import Derived.Test.YthfdcphecggjeaaGreatDoorDY
import Derived.Test.YthfdcphecggjeaaGreatDoorQZ
namespace Go.Proofs.YthfdcphecggjeaaGreatDoor
section
open Go Go.RowKit

noncomputable def oneRest : Code := (Tryz.f54.body.bind (fromRegion 16)).getD .skip
set_option maxRecDepth 100000 in
set_option maxHeartbeats 8000000 in
theorem one_rest (w0 : World) (h n k : Nat) (s : HubS) (lv : Nat) (ns : List NoteK) (F : List Nat) (x : Item) (xb yb : Nat) (w : World) (hp : Db w0 w h n k s lv ns F) (hx : SmallI x) (hk : k ≤ 399) (h1 : 1 ≤ n) (h2 : n ≤ 64) (hX : w.heap[xb]? = some (.cells x.cells.toArray 36 (0, 0))) (hxF : xb ∉ F)
    (hY : w.heap[yb]? = some (.cells (itemOf (backM x 0 [] 0) none 0 none 0).cells.toArray 36 (0, 0))) (hyx : xb ≠ yb)
    {c1 c2 c3 c4 c6 c8 c9 c10 c11 c12 c13 c14 c15 c16 c17 c18 c19 c20 c21 c22 c23 c24 c25 c26 c27 c28 c29 c30 c31 c32 c33 c34 c35 c36 c37 c38 c39 c40 c41 c42 c43 c44 c45 c46 c47 c48 c49 c50 c51 c52 c53 c54 c55 c56 c57 c58 c59 c60 c61 c62 c63 c64 c65 c66 c67 c68 c69 c70 c71 c72 c73 c74 c75 c76 c77 c78 c79 c80 c81 c82 c83 c84 c85 c86 c87 c88 c89 c90 c91 c92 c93 c94 c95 c96 c97 c98 c99 c100 c101 c102 c103 c104 c105 c106 c107 c108 c109 c110 c111 c112 c113 c114 c115 c116 c117 c118 c119 c120 c121 c122 c123 c124 c125 c126 c127 c128 c129 c130 c131 c132 c133 c134 c135 c136 c137 c138 c139 c140 c141 c142 c143 c144 c145 c146 c147 c148 c149 c150 c151 c152 c153 c154 : Value} {Q : Exit → Act → World → Prop} (hQp : QuietP Q)
    (hQ : ∀ ⦃d8 d9 d10 d11 d12 d86 d87 d88 d89 d90 d91 d92 d93 d94 d95 d96 d97 d98 d99 d100 d101 d102 d103 d104 d105 d106 d107 d108 d109 d110 d111 d112 d113 d114 d115 d116 d117 d118 d119 d120 d121 d122 d123 d124 d125 d126 d127 d128 d129 d130 d131 d132 d133 d134 d135 d136 d137 d138 d139 d140 d141 d142 d143 d144 d145 d146 d147 d148 d149 d150 d151 d152 d153 d154 : Value⦄ (v : Value) (L : List Mail) (w' : World), Mod [yb] w w' → (∀ G : List Nat, (∀ j ∈ G, j < w.heap.size) → OutM w' G w.heap.size v L (routeM n x s)) → Q .ret ⟨#[.pointer (some ⟨h, 0, none⟩), c1, c2, c3, c4, .pointer (some ⟨xb, 0, none⟩), v, .pointer (some ⟨yb, 0, none⟩), d8, d9, d10, d11, d12, c13, c14, c15, c16, c17, c18, c19, c20, c21, c22, c23, c24, c25, c26, c27, c28, c29, c30, c31, c32, c33, c34, c35, c36, c37, c38, c39, c40, c41, c42, c43, c44, c45, c46, c47, c48, c49, c50, c51, c52, c53, c54, c55, c56, c57, c58, c59, c60, c61, c62, c63, c64, c65, c66, c67, c68, c69, c70, c71, c72, c73, c74, c75, c76, c77, c78, c79, c80, c81, c82, c83, c84, c85, d86, d87, d88, d89, d90, d91, d92, d93, d94, d95, d96, d97, d98, d99, d100, d101, d102, d103, d104, d105, d106, d107, d108, d109, d110, d111, d112, d113, d114, d115, d116, d117, d118, d119, d120, d121, d122, d123, d124, d125, d126, d127, d128, d129, d130, d131, d132, d133, d134, d135, d136, d137, d138, d139, d140, d141, d142, d143, d144, d145, d146, d147, d148, d149, d150, d151, d152, d153, d154], []⟩ w') :
    Code.wp Tryz.prog oneRest Q ⟨#[.pointer (some ⟨h, 0, none⟩), c1, c2, c3, c4, .pointer (some ⟨xb, 0, none⟩), c6, .pointer (some ⟨yb, 0, none⟩), c8, c9, c10, c11, c12, c13, c14, c15, c16, c17, c18, c19, c20, c21, c22, c23, c24, c25, c26, c27, c28, c29, c30, c31, c32, c33, c34, c35, c36, c37, c38, c39, c40, c41, c42, c43, c44, c45, c46, c47, c48, c49, c50, c51, c52, c53, c54, c55, c56, c57, c58, c59, c60, c61, c62, c63, c64, c65, c66, c67, c68, c69, c70, c71, c72, c73, c74, c75, c76, c77, c78, c79, c80, c81, c82, c83, c84, c85, c86, c87, c88, c89, c90, c91, c92, c93, c94, c95, c96, c97, c98, c99, c100, c101, c102, c103, c104, c105, c106, c107, c108, c109, c110, c111, c112, c113, c114, c115, c116, c117, c118, c119, c120, c121, c122, c123, c124, c125, c126, c127, c128, c129, c130, c131, c132, c133, c134, c135, c136, c137, c138, c139, c140, c141, c142, c143, c144, c145, c146, c147, c148, c149, c150, c151, c152, c153, c154], []⟩ w := by
  dsimp only at hQ ⊢
  conv => arg 2; whnf
  have HP := Lib.hid hp
  have HX := Lib.hid hx
  have HXB := Lib.hid hX
  have HYB := Lib.hid hY
  have HQ := Lib.hid hQ
  have hcl := hp.cl
  have tn := hp.num
  have htl : (toldG s.gs x.msg.k).length ≤ 400 := by
    obtain ⟨t, N, Ft, -, hr, -⟩ := hp.lensT
    have := toldG_len s.gs x.msg.k
    have := hr.2.2.2
    omega
  have htc : ∀ c ∈ toldG s.gs x.msg.k, c.length ≤ 300 := fun c hc => by
    obtain ⟨g, hg, -, rfl⟩ := mem_toldG.1 hc
    exact hcl g hg
  clear hp hx hX hY hQ
  go_upto_region 16 with fail
  refine one_r16 w0 h n k s lv ns F x xb w HP.out HX.out (by omega) HXB.out hxF (fun x a a' w h e => hQp x a a' w h e) ?_
  intro d86 d87 d88 d89 d90 d91 d92 d93 w1 a cp hrow hb1
  dsimp only
  have tn1 := (World.cell?_of_block (w := w) (hb1.block h (World.block_lt_of_cell? _ _ tn))).trans tn
  have HXB1 := Lib.hid ((hb1.block xb (Array.getElem?_eq_some_iff.1 HXB.out).1).trans HXB.out)
  have HYB1 := Lib.hid ((hb1.block yb (Array.getElem?_eq_some_iff.1 HYB.out).1).trans HYB.out)
  have HB1 := Lib.hid hb1
  have HCT := Lib.hid htc
  have HLT := Lib.hid htl
  clear hb1 tn htc htl
  go_wp2_with fail
  refine one_outer h n (toldG s.gs x.msg.k) a cp x xb w1 tn1 hrow HXB1.out HCT.out HLT.out h1 h2 (fun x a a' w h e => hQp x a a' w h e) ?_
  intro d10 d11 d12 d94 d95 d96 d97 d98 d99 d100 d101 d102 d103 d104 d105 d106 d107 d108 d109 d110 d111 d112 d113 d114 d115 d116 d117 d118 d119 d120 d121 d122 d123 d124 d125 d126 d127 d128 d129 d130 d131 d132 d133 d134 d135 d136 d137 d138 d139 d140 d141 d142 d143 v M w2 hM hb2
  dsimp only
  obtain ⟨va, vc, rfl, -, -, -⟩ := ownsRow_row (hM [] (by simp)).own
  have HML := Lib.hid (hM [] (by simp)).ms.len
  have HM := Lib.hid hM
  have HB2 := Lib.hid hb2
  have HXB2 := Lib.hid ((hb2.block xb (Array.getElem?_eq_some_iff.1 HXB1.out).1).trans HXB1.out)
  have HYB2 := Lib.hid ((hb2.block yb (Array.getElem?_eq_some_iff.1 HYB1.out).1).trans HYB1.out)
  have y0 : w2.cell? ⟨yb, 0, none⟩ = some (.int .u8 0) := cell_of_row _ _ 0 _ _ _ HYB2.out
  have g0 := frozen_of_row w2 yb 0 _ _ HYB2.out
  have h3 := heap_setCell_same w2 yb 0 _ _ (.int .u8 10) HYB2.out
  have y37 : (w2.setCell ⟨yb, 0, none⟩ (.int .u8 10)).cell? ⟨yb, 37, none⟩ = some (.int .i64 0) := cell_of_row _ _ 37 _ _ _ h3
  have g37 := frozen_of_row (w2.setCell ⟨yb, 0, none⟩ (.int .u8 10)) yb 37 _ _ h3
  have H4 := Lib.hid (heap_setCell_same (w2.setCell ⟨yb, 0, none⟩ (.int .u8 10)) yb 37 _ _ (.int .i64 M.length) h3)
  clear hM hb2 h3
  go_upto_region 31 with fail
  have hyl : yb < w.heap.size := (Array.getElem?_eq_some_iff.1 HYB.out).1
  have hm5 : Mod [yb] w2 ((w2.setCell ⟨yb, 0, none⟩ (.int .u8 10)).setCell ⟨yb, 37, none⟩ (.int .i64 M.length)) := ((Mod.refl _ _).setCell (.inl (by simp)) _).setCell (.inl (by simp)) _
  clear y0 g0 y37 g37
  generalize (w2.setCell ⟨yb, 0, none⟩ (.int .u8 10)).setCell ⟨yb, 37, none⟩ (.int .i64 M.length) = w5 at *
  have hs2 : w.heap.size ≤ w2.heap.size := by have := HB1.out.size; have := HB2.out.size; omega
  have hs5 : w2.heap.size ≤ w5.heap.size := hm5.size
  have HXB5 := Lib.hid ((hm5.block xb (Array.getElem?_eq_some_iff.1 HXB2.out).1 (by simpa using hyx)).trans HXB2.out)
  obtain ⟨-, -, -, -, -, -, -, -, c36⟩ := item_cells HXB5.out
  have HZ5 : Hid (w5.heap[yb]? = some (.cells (itemOf (backM x 10 [] (M.length : Int)) none 0 none 0).cells.toArray 36 (0, 0))) := Lib.hid H4.out
  have HO5 : Hid (∀ G : List Nat, (∀ j ∈ G, j < w.heap.size) → OutM w5 G w1.heap.size (.slice va M.length vc) M (sendM n x (toldG s.gs x.msg.k) n)) := Lib.hid (fun G hG =>
    ((HM.out (yb :: G) (fun j hj => by
      have := HB1.out.size
      rcases List.mem_cons.1 hj with rfl | hj
      · omega
      · have := hG j hj; omega)).upd (F' := yb :: G) ⟨hm5.mono (by simp), fun _ h => .inl h⟩).sub fun j hj => List.mem_cons_of_mem _ hj)
  have HOW := Lib.hid (HO5.out [] (by simp)).own
  have HMW : Hid (Mod [yb] w w5) := Lib.hid ((Mod.of_below (HB1.out) [yb]).next HB2.out |>.trans hm5 (fun k hk => .inl hk))
  have HZS := Lib.hid (item_size (itemOf (backM x 10 [] (M.length : Int)) none 0 none 0))
  have HBM := Lib.hid (fun (_ : Unit) => built_mail x.frm (itemOf (backM x 10 [] (M.length : Int)) none 0 none 0))
  have HBD := Lib.hid (build_mail ⟨x.frm, itemOf (backM x 10 [] (M.length : Int)) none 0 none 0⟩)
  have HMC : Hid ((Mail.cells ⟨x.frm, itemOf (backM x 10 [] (M.length : Int)) none 0 none 0⟩).toArray.size = 1 * 40) := Lib.hid rfl
  have hmv : mailsV [(⟨x.frm, itemOf (backM x 10 [] (M.length : Int)) none 0 none 0⟩ : Mail)] = Mail.cells ⟨x.frm, itemOf (backM x 10 [] (M.length : Int)) none 0 none 0⟩ := by simp [mailsV]
  have HM1 := Lib.hid (mails_one [⟨x.frm, itemOf (backM x 10 [] (M.length : Int)) none 0 none 0⟩])
  have HMV := Lib.hid hmv
  rw [hmv] at HM1
  have HMA : Hid (∀ W G, MailAt W G ⟨x.frm, itemOf (backM x 10 [] (M.length : Int)) none 0 none 0⟩ (backM x 10 [] (M.length : Int))) := Lib.hid (fun W G => ⟨none, 0, none, 0, rfl, .inl rfl, .inl rfl⟩)
  have hMl : M.length ≤ 64 := by
    rw [HML.out]
    unfold sendM
    rw [List.length_map]
    exact Nat.le_trans (List.length_filter_le _ _) (by simp; omega)
  have hs1 := HB1.out.size
  have hs12 := HB2.out.size
  clear hmv hm5 H4
  generalize hmlx : (⟨x.frm, itemOf (backM x 10 [] (M.length : Int)) none 0 none 0⟩ : Mail) = ML at *
  clear hmlx
  generalize hmc : ML.cells = MC at *
  clear hmc
  generalize (itemOf (backM x 10 [] (M.length : Int)) none 0 none 0).cells.toArray = ZC at *
  go_wp2_with (first
    | (refine wpList_load_row rfl 36 _ rfl yb rfl 36 ZC _ _ HZ5.out Tryz.underlying36 rfl HZS.out ?_)
    | (refine wpList_buildBy rfl 43 _ rfl _ rfl MC.toArray [(0, .int .i64 x.frm), (1, .int .i64 5), (2, .agg ZC)] (by kernel_rfl) (HBM.out ()) ?_)
    | (refine wpList_build1 HBD.out rfl _ rfl rfl _ rfl w5.heap.size rfl ?_)
    | (at_builtin; refine wpList_appS (m := 1) T_mail HOW.out rfl rfl rfl rfl rfl _ rfl HMC.out (by decide) (by simpa using HM1.out) (by omega) (by omega) (by omega) ?_; intro ng cap w8 hown8 hg8 hb8 hlt8; have H8 := Lib.hid (And.intro hown8 (And.intro hg8 hb8)); clear hown8 hg8 hb8 hlt8)
    | fail)
  obtain ⟨hown8, hg8, hb8⟩ := H8.out
  have hrm : routeM n x s = sendM n x (toldG s.gs x.msg.k) n ++ [backM x 10 [] (M.length : Int)] := by
    unfold routeM
    rw [sendM_more h1 x _ h2, HML.out]
  refine HQ.out _ (M ++ [ML]) _ ((HMW.out.alloc _).grown hg8 fun k hk => .inr (Nat.le_trans hs1 (HOW.out.lt k hk).1)) (fun G hG => ?_)
  rw [hrm]
  obtain ⟨o4, -⟩ := OutM.grow (M2 := [ML]) (H2 := [backM x 10 [] (M.length : Int)]) (HO5.out G hG) (fun j hj => by have := hG j hj; omega) (low_alloc w5 _) (by rw [HMV.out]; simpa using hown8) hg8 (fun b hb => by
    obtain rfl : ng = b := by simpa [Value.ownBlock] using hb
    exact hb8) ⟨HMA.out _ _, trivial⟩
  exact ⟨⟨o4.own.1, o4.own.2.imp id fun ⟨g, c, cu, e, hb, hh⟩ => ⟨g, c, cu, e, Nat.le_trans hs1 hb, hh⟩⟩, o4.off, o4.ms⟩
end
section
open Go Go.RowKit

theorem droute_end {w0 w W w' : World} {h n k : Nat} {s : HubS} {lg : Nat} {ns1 ns2 : List NoteK} {F F1 : List Nat} {x : Item} {kp : List Msg} (hp : Db w0 W h n (k + 1) ⟨s.gs, kp⟩ lg ns1 F1) (hu : Upd F F1 w W) (hk : kp = routeK x s.kp) (hn : ns1 = ns2) (hw : w0.heap.size ≤ w.heap.size)
    {yb : Nat} (hy : w.heap.size ≤ yb) (hyF : yb ∉ F1) {v : Value} {L : List Mail} (hm : Mod [yb] W w') (ho : ∀ G : List Nat, (∀ j ∈ G, j < W.heap.size) → OutM w' G W.heap.size v L (routeM n x s)) :
    ∃ v' L F', Ending.returned v = .returned v' ∧ Db w0 w' h n (k + 1) ⟨s.gs, routeK x s.kp⟩ lg ns2 F' ∧ Upd F F' w w' ∧ ∀ G : List Nat, (∀ j ∈ G, j < w.heap.size) → OutM w' (F' ++ G) w.heap.size v' L (routeM n x s) := by
  subst hk hn
  have hs := hu.1.size
  refine ⟨v, L, F1, rfl, hp.mod (S' := []) ⟨hm, by simp⟩ (fun j hj hj' => by rw [List.mem_singleton.1 hj'] at hj; exact hyF hj) (fun j hj => by rw [List.mem_singleton.1 hj]; omega), ⟨hu.1.trans hm (fun j hj => .inr (by rw [List.mem_singleton.1 hj]; omega)), hu.2⟩, fun G hG => ?_⟩
  have o := ho (F1 ++ G) (fun j hj => by
    rcases List.mem_append.1 hj with hj | hj
    · exact hp.lt j hj
    · have := hG j hj; omega)
  exact ⟨⟨o.own.1, o.own.2.imp id fun ⟨g, c, cu, e, hb, hh⟩ => ⟨g, c, cu, e, Nat.le_trans hs hb, hh⟩⟩, o.off, o.ms⟩
set_option maxRecDepth 100000 in
set_option maxHeartbeats 8000000 in
theorem done_route_no (w0 : World) (h n k : Nat) (s : HubS) (lg : Nat) (ns : List NoteK) (F : List Nat) (x : Item) (w : World) (hp : Db w0 w h n k s lg ns F) (hx : SmallI x) (hk : k ≤ 398) (h7 : x.kind = 7) (h1 : 1 ≤ n) (h2 : n ≤ 64) (hr : x.msg.r = false) :
    Calls Tryz.prog 54 #[.pointer (some ⟨h, 0, none⟩), .pointer (some ⟨lg, 0, none⟩), .agg x.cells.toArray] w fun e w' => ∃ v L F', e = .returned v ∧ Db w0 w' h n (k + 1) ⟨s.gs, routeK x s.kp⟩ lg (ns ++ if keeps x then [noteOf x] else []) F' ∧ Upd F F' w w' ∧ ∀ G : List Nat, (∀ j ∈ G, j < w.heap.size) → OutM w' (F' ++ G) w.heap.size v L (routeM n x s) := by
  have hb1 := low_alloc w (.cells x.cells.toArray 36)
  have hX1 := heap_alloc_new w (.cells x.cells.toArray 36)
  have HIS := Lib.hid (item_size (itemOf (backM x 0 [] 0) none 0 none 0))
  have HI38 : Hid ((38 : Nat) = (itemOf (backM x 0 [] 0) none 0 none 0).cells.toArray.size) := Lib.hid rfl
  have HIO := Lib.hid (item_one (itemOf (backM x 0 [] 0) none 0 none 0))
  have HBI := Lib.hid (fun (_ : Unit) => built_back x.frm x.op x.client)
  have e0 : (itemOf ⟨x.frm, 0, x.op, x.client, Msg.zero, [], [], 0, 0⟩ none 0 none 0) = itemOf (backM x 0 [] 0) none 0 none 0 := rfl
  rw [e0] at HBI
  clear e0
  generalize hYC : (itemOf (backM x 0 [] 0) none 0 none 0).cells.toArray = YC at *
  have hsX : (w.alloc (.cells x.cells.toArray 36)).heap.size = w.heap.size + 1 := by simp
  have hbz := low_alloc (w.alloc (.cells x.cells.toArray 36)) (.cells YC 36)
  have hYb := heap_alloc_new (w.alloc (.cells x.cells.toArray 36)) (.cells YC 36)
  rw [hsX] at hbz hYb
  have HP := Lib.hid ((hp.below hb1).below (by rw [hsX]; exact hbz))
  have HX := Lib.hid hx
  have HXB := Lib.hid ((hbz.block w.heap.size (by omega)).trans hX1)
  have HYB := Lib.hid hYb
  have HFL := Lib.hid hp.lt
  have hw0 := hp.bel.size
  have HBW := Lib.hid (bnext hb1 (Nat.le_refl _) (by rw [hsX]; exact hbz))
  obtain ⟨c0, c1, c3, -⟩ := item_cells hX1
  obtain ⟨k0, -⟩ := item_cells HXB.out
  clear hp hx hb1 hX1 hbz hYb
  go_enter Tryz.func54, Tryz.ntmps54
  refine wp_seq_k (fun K0 hK0 => ?_)
  replace hK0 := Lib.hid hK0
  go_wp2_with (first
    | (refine wpList_buildBy rfl 36 _ rfl _ rfl YC [(1, .int .i64 x.op), (3, .string x.client)] (by kernel_rfl) (HBI.out ()) ?_)
    | (refine wpList_store_newTo rfl 36 _ _ rfl rfl (w.heap.size + 1) (by simp) YC _ rfl rfl HIS.out HI38.out HIO.out ?_)
    | fail)
  refine hK0.out _ _ ?_
  refine wp_seq_k (fun K1 hK1 => ?_)
  replace hK1 := Lib.hid hK1
  go_wp2_with (first
    | (refine wpList_buildBy rfl 36 _ rfl _ rfl YC [(1, .int .i64 x.op), (3, .string x.client)] (by kernel_rfl) (HBI.out ()) ?_)
    | (refine wpList_store_newTo rfl 36 _ _ rfl rfl (w.heap.size + 1) (by simp) YC _ rfl rfl HIS.out HI38.out HIO.out ?_)
    | fail)
  refine hK1.out _ _ ?_
  refine wp_seq_k (fun K2 hK2 => ?_)
  replace hK2 := Lib.hid hK2
  go_wp2_with (first
    | (refine wpList_buildBy rfl 36 _ rfl _ rfl YC [(1, .int .i64 x.op), (3, .string x.client)] (by kernel_rfl) (HBI.out ()) ?_)
    | (refine wpList_store_newTo rfl 36 _ _ rfl rfl (w.heap.size + 1) (by simp) YC _ rfl rfl HIS.out HI38.out HIO.out ?_)
    | fail)
  refine hK2.out _ _ ?_
  refine wp_seq_k (fun K3 hK3 => ?_)
  replace hK3 := Lib.hid hK3
  go_wp2_with (first
    | (refine wpList_buildBy rfl 36 _ rfl _ rfl YC [(1, .int .i64 x.op), (3, .string x.client)] (by kernel_rfl) (HBI.out ()) ?_)
    | (refine wpList_store_newTo rfl 36 _ _ rfl rfl (w.heap.size + 1) (by simp) YC _ rfl rfl HIS.out HI38.out HIO.out ?_)
    | fail)
  refine hK3.out _ _ ?_
  refine wp_seq_k (fun K4 hK4 => ?_)
  replace hK4 := Lib.hid hK4
  go_wp2_with (first
    | (refine wpList_buildBy rfl 36 _ rfl _ rfl YC [(1, .int .i64 x.op), (3, .string x.client)] (by kernel_rfl) (HBI.out ()) ?_)
    | (refine wpList_store_newTo rfl 36 _ _ rfl rfl (w.heap.size + 1) (by simp) YC _ rfl rfl HIS.out HI38.out HIO.out ?_)
    | fail)
  have hs2 : ((w.alloc (.cells x.cells.toArray 36)).alloc (.cells YC 36)).heap.size = w.heap.size + 2 := by simp
  generalize (w.alloc (.cells x.cells.toArray 36)).alloc (.cells YC 36) = w2 at *
  have HXF : Hid (w.heap.size ∉ F) := Lib.hid (fun hm => by have := HFL.out _ hm; omega)
  have HYF : Hid (w.heap.size + 1 ∉ F) := Lib.hid (fun hm => by have := HFL.out _ hm; omega)
  clear c0 c1 c3 k0
  refine one_r14n w0 h n k s lg ns F x w.heap.size w2 HP.out HX.out (by omega) HXB.out HXF.out hr (quiet_then (quiet_then quiet_body)) ?_
  intro d65 d66 d67 d68 d69 d70 d71 d72 d73 d74 d75 w3 hb3
  dsimp only
  have HPZ := Lib.hid ((HP.out.below hb3).more (Nat.le_succ k))
  have HUZ : Hid (Upd F F w w3) := Lib.hid ⟨Mod.of_below (bnext HBW.out (Nat.le_refl _) hb3) F, fun _ h => .inl h⟩
  have HXZ := Lib.hid ((hb3.block _ (by omega)).trans HXB.out)
  have HYZ := Lib.hid ((hb3.block _ (by omega)).trans HYB.out)
  have HXFZ := HXF
  have HYFZ := HYF
  have hs3 := hb3.size
  clear hb3
  go_wp2_with fail

  refine hK4.out _ _ ?_
  refine one_rest w0 h n (k + 1) _ lg _ F x w.heap.size (w.heap.size + 1) w3 HPZ.out HX.out (by omega) h1 h2 HXZ.out HXFZ.out (by rw [hYC]; exact HYZ.out) (by omega) quiet_body ?_
  intro d8 d9 d10 d11 d12 d86 d87 d88 d89 d90 d91 d92 d93 d94 d95 d96 d97 d98 d99 d100 d101 d102 d103 d104 d105 d106 d107 d108 d109 d110 d111 d112 d113 d114 d115 d116 d117 d118 d119 d120 d121 d122 d123 d124 d125 d126 d127 d128 d129 d130 d131 d132 d133 d134 d135 d136 d137 d138 d139 d140 d141 d142 d143 d144 d145 d146 d147 d148 d149 d150 d151 d152 d153 d154 v L w' hm ho
  dsimp only
  go_ret
  exact droute_end HPZ.out HUZ.out (by unfold routeK; rw [hr]; rfl) (by rw [keeps_no (.inl hr)]; simp) hw0 (by omega) HYFZ.out hm ho
set_option maxRecDepth 100000 in
set_option maxHeartbeats 8000000 in
theorem done_route_nk (w0 : World) (h n k : Nat) (s : HubS) (lg : Nat) (ns : List NoteK) (F : List Nat) (x : Item) (w : World) (hp : Db w0 w h n k s lg ns F) (hx : SmallI x) (hk : k ≤ 398) (h7 : x.kind = 7) (h1 : 1 ≤ n) (h2 : n ≤ 64) (hr : x.msg.r = true) (hbm : mayB x.msg = false) :
    Calls Tryz.prog 54 #[.pointer (some ⟨h, 0, none⟩), .pointer (some ⟨lg, 0, none⟩), .agg x.cells.toArray] w fun e w' => ∃ v L F', e = .returned v ∧ Db w0 w' h n (k + 1) ⟨s.gs, routeK x s.kp⟩ lg (ns ++ if keeps x then [noteOf x] else []) F' ∧ Upd F F' w w' ∧ ∀ G : List Nat, (∀ j ∈ G, j < w.heap.size) → OutM w' (F' ++ G) w.heap.size v L (routeM n x s) := by
  have hb1 := low_alloc w (.cells x.cells.toArray 36)
  have hX1 := heap_alloc_new w (.cells x.cells.toArray 36)
  have HIS := Lib.hid (item_size (itemOf (backM x 0 [] 0) none 0 none 0))
  have HI38 : Hid ((38 : Nat) = (itemOf (backM x 0 [] 0) none 0 none 0).cells.toArray.size) := Lib.hid rfl
  have HIO := Lib.hid (item_one (itemOf (backM x 0 [] 0) none 0 none 0))
  have HBI := Lib.hid (fun (_ : Unit) => built_back x.frm x.op x.client)
  have e0 : (itemOf ⟨x.frm, 0, x.op, x.client, Msg.zero, [], [], 0, 0⟩ none 0 none 0) = itemOf (backM x 0 [] 0) none 0 none 0 := rfl
  rw [e0] at HBI
  clear e0
  generalize hYC : (itemOf (backM x 0 [] 0) none 0 none 0).cells.toArray = YC at *
  have hsX : (w.alloc (.cells x.cells.toArray 36)).heap.size = w.heap.size + 1 := by simp
  have hbz := low_alloc (w.alloc (.cells x.cells.toArray 36)) (.cells YC 36)
  have hYb := heap_alloc_new (w.alloc (.cells x.cells.toArray 36)) (.cells YC 36)
  rw [hsX] at hbz hYb
  have HP := Lib.hid ((hp.below hb1).below (by rw [hsX]; exact hbz))
  have HX := Lib.hid hx
  have HXB := Lib.hid ((hbz.block w.heap.size (by omega)).trans hX1)
  have HYB := Lib.hid hYb
  have HFL := Lib.hid hp.lt
  have hw0 := hp.bel.size
  have HBW := Lib.hid (bnext hb1 (Nat.le_refl _) (by rw [hsX]; exact hbz))
  obtain ⟨c0, c1, c3, -⟩ := item_cells hX1
  obtain ⟨k0, -⟩ := item_cells HXB.out
  clear hp hx hb1 hX1 hbz hYb
  go_enter Tryz.func54, Tryz.ntmps54
  refine wp_seq_k (fun K0 hK0 => ?_)
  replace hK0 := Lib.hid hK0
  go_wp2_with (first
    | (refine wpList_buildBy rfl 36 _ rfl _ rfl YC [(1, .int .i64 x.op), (3, .string x.client)] (by kernel_rfl) (HBI.out ()) ?_)
    | (refine wpList_store_newTo rfl 36 _ _ rfl rfl (w.heap.size + 1) (by simp) YC _ rfl rfl HIS.out HI38.out HIO.out ?_)
    | fail)
  refine hK0.out _ _ ?_
  refine wp_seq_k (fun K1 hK1 => ?_)
  replace hK1 := Lib.hid hK1
  go_wp2_with (first
    | (refine wpList_buildBy rfl 36 _ rfl _ rfl YC [(1, .int .i64 x.op), (3, .string x.client)] (by kernel_rfl) (HBI.out ()) ?_)
    | (refine wpList_store_newTo rfl 36 _ _ rfl rfl (w.heap.size + 1) (by simp) YC _ rfl rfl HIS.out HI38.out HIO.out ?_)
    | fail)
  refine hK1.out _ _ ?_
  refine wp_seq_k (fun K2 hK2 => ?_)
  replace hK2 := Lib.hid hK2
  go_wp2_with (first
    | (refine wpList_buildBy rfl 36 _ rfl _ rfl YC [(1, .int .i64 x.op), (3, .string x.client)] (by kernel_rfl) (HBI.out ()) ?_)
    | (refine wpList_store_newTo rfl 36 _ _ rfl rfl (w.heap.size + 1) (by simp) YC _ rfl rfl HIS.out HI38.out HIO.out ?_)
    | fail)
  refine hK2.out _ _ ?_
  refine wp_seq_k (fun K3 hK3 => ?_)
  replace hK3 := Lib.hid hK3
  go_wp2_with (first
    | (refine wpList_buildBy rfl 36 _ rfl _ rfl YC [(1, .int .i64 x.op), (3, .string x.client)] (by kernel_rfl) (HBI.out ()) ?_)
    | (refine wpList_store_newTo rfl 36 _ _ rfl rfl (w.heap.size + 1) (by simp) YC _ rfl rfl HIS.out HI38.out HIO.out ?_)
    | fail)
  refine hK3.out _ _ ?_
  refine wp_seq_k (fun K4 hK4 => ?_)
  replace hK4 := Lib.hid hK4
  go_wp2_with (first
    | (refine wpList_buildBy rfl 36 _ rfl _ rfl YC [(1, .int .i64 x.op), (3, .string x.client)] (by kernel_rfl) (HBI.out ()) ?_)
    | (refine wpList_store_newTo rfl 36 _ _ rfl rfl (w.heap.size + 1) (by simp) YC _ rfl rfl HIS.out HI38.out HIO.out ?_)
    | fail)
  have hs2 : ((w.alloc (.cells x.cells.toArray 36)).alloc (.cells YC 36)).heap.size = w.heap.size + 2 := by simp
  generalize (w.alloc (.cells x.cells.toArray 36)).alloc (.cells YC 36) = w2 at *
  have HXF : Hid (w.heap.size ∉ F) := Lib.hid (fun hm => by have := HFL.out _ hm; omega)
  have HYF : Hid (w.heap.size + 1 ∉ F) := Lib.hid (fun hm => by have := HFL.out _ hm; omega)
  clear c0 c1 c3 k0
  refine one_r14y w0 h n k s lg ns F x w.heap.size w2 HP.out HX.out (by omega) HXB.out HXF.out hr (quiet_then (quiet_then quiet_body)) ?_
  intro d65 d66 d67 d68 d69 d70 d71 d72 d73 d74 d75 w4 F1 hp4 hu4
  dsimp only
  have HP4 := Lib.hid hp4
  have HU4 : Hid (Upd F F1 w w4) := Lib.hid ⟨(Mod.of_below HBW.out F).trans hu4.1 (fun j hj => .inl hj), fun j hj => (hu4.2 j hj).imp id fun h => by omega⟩
  have HX4 := Lib.hid ((hu4.1.block _ (by omega) HXF.out).trans HXB.out)
  have HY4 := Lib.hid ((hu4.1.block _ (by omega) HYF.out).trans HYB.out)
  have HXF4 := Lib.hid (fresh_not (w := w2) (by omega) HXF.out hu4.2)
  have HYF4 := Lib.hid (fresh_not (w := w2) (by omega) HYF.out hu4.2)
  have hs4 := hu4.1.size
  clear hp4 hu4

  rw [hbm]
  go_wp2_with fail
  refine hK4.out _ _ ?_
  refine one_rest w0 h n (k + 1) _ lg _ F1 x w.heap.size (w.heap.size + 1) w4 HP4.out HX.out (by omega) h1 h2 HX4.out HXF4.out (by rw [hYC]; exact HY4.out) (by omega) quiet_body ?_
  intro d8 d9 d10 d11 d12 d86 d87 d88 d89 d90 d91 d92 d93 d94 d95 d96 d97 d98 d99 d100 d101 d102 d103 d104 d105 d106 d107 d108 d109 d110 d111 d112 d113 d114 d115 d116 d117 d118 d119 d120 d121 d122 d123 d124 d125 d126 d127 d128 d129 d130 d131 d132 d133 d134 d135 d136 d137 d138 d139 d140 d141 d142 d143 d144 d145 d146 d147 d148 d149 d150 d151 d152 d153 d154 v L w' hm ho
  dsimp only
  go_ret
  exact droute_end HP4.out HU4.out (by unfold routeK; rw [hr]; rfl) (by rw [keeps_no (.inr hbm)]; simp) hw0 (by omega) HYF4.out hm ho
set_option maxRecDepth 100000 in
set_option maxHeartbeats 8000000 in
theorem done_route_k (w0 : World) (h n k : Nat) (s : HubS) (lg : Nat) (ns : List NoteK) (F : List Nat) (x : Item) (w : World) (hp : Db w0 w h n k s lg ns F) (hx : SmallI x) (hk : k ≤ 398) (h7 : x.kind = 7) (h1 : 1 ≤ n) (h2 : n ≤ 64) (hr : x.msg.r = true) (hbm : mayB x.msg = true) :
    Calls Tryz.prog 54 #[.pointer (some ⟨h, 0, none⟩), .pointer (some ⟨lg, 0, none⟩), .agg x.cells.toArray] w fun e w' => ∃ v L F', e = .returned v ∧ Db w0 w' h n (k + 1) ⟨s.gs, routeK x s.kp⟩ lg (ns ++ if keeps x then [noteOf x] else []) F' ∧ Upd F F' w w' ∧ ∀ G : List Nat, (∀ j ∈ G, j < w.heap.size) → OutM w' (F' ++ G) w.heap.size v L (routeM n x s) := by
  have hb1 := low_alloc w (.cells x.cells.toArray 36)
  have hX1 := heap_alloc_new w (.cells x.cells.toArray 36)
  have HIS := Lib.hid (item_size (itemOf (backM x 0 [] 0) none 0 none 0))
  have HI38 : Hid ((38 : Nat) = (itemOf (backM x 0 [] 0) none 0 none 0).cells.toArray.size) := Lib.hid rfl
  have HIO := Lib.hid (item_one (itemOf (backM x 0 [] 0) none 0 none 0))
  have HBI := Lib.hid (fun (_ : Unit) => built_back x.frm x.op x.client)
  have e0 : (itemOf ⟨x.frm, 0, x.op, x.client, Msg.zero, [], [], 0, 0⟩ none 0 none 0) = itemOf (backM x 0 [] 0) none 0 none 0 := rfl
  rw [e0] at HBI
  clear e0
  generalize hYC : (itemOf (backM x 0 [] 0) none 0 none 0).cells.toArray = YC at *
  have hsX : (w.alloc (.cells x.cells.toArray 36)).heap.size = w.heap.size + 1 := by simp
  have hbz := low_alloc (w.alloc (.cells x.cells.toArray 36)) (.cells YC 36)
  have hYb := heap_alloc_new (w.alloc (.cells x.cells.toArray 36)) (.cells YC 36)
  rw [hsX] at hbz hYb
  have HP := Lib.hid ((hp.below hb1).below (by rw [hsX]; exact hbz))
  have HX := Lib.hid hx
  have HXB := Lib.hid ((hbz.block w.heap.size (by omega)).trans hX1)
  have HYB := Lib.hid hYb
  have HFL := Lib.hid hp.lt
  have hw0 := hp.bel.size
  have HBW := Lib.hid (bnext hb1 (Nat.le_refl _) (by rw [hsX]; exact hbz))
  obtain ⟨c0, c1, c3, -⟩ := item_cells hX1
  obtain ⟨k0, -⟩ := item_cells HXB.out
  clear hp hx hb1 hX1 hbz hYb
  go_enter Tryz.func54, Tryz.ntmps54
  refine wp_seq_k (fun K0 hK0 => ?_)
  replace hK0 := Lib.hid hK0
  go_wp2_with (first
    | (refine wpList_buildBy rfl 36 _ rfl _ rfl YC [(1, .int .i64 x.op), (3, .string x.client)] (by kernel_rfl) (HBI.out ()) ?_)
    | (refine wpList_store_newTo rfl 36 _ _ rfl rfl (w.heap.size + 1) (by simp) YC _ rfl rfl HIS.out HI38.out HIO.out ?_)
    | fail)
  refine hK0.out _ _ ?_
  refine wp_seq_k (fun K1 hK1 => ?_)
  replace hK1 := Lib.hid hK1
  go_wp2_with (first
    | (refine wpList_buildBy rfl 36 _ rfl _ rfl YC [(1, .int .i64 x.op), (3, .string x.client)] (by kernel_rfl) (HBI.out ()) ?_)
    | (refine wpList_store_newTo rfl 36 _ _ rfl rfl (w.heap.size + 1) (by simp) YC _ rfl rfl HIS.out HI38.out HIO.out ?_)
    | fail)
  refine hK1.out _ _ ?_
  refine wp_seq_k (fun K2 hK2 => ?_)
  replace hK2 := Lib.hid hK2
  go_wp2_with (first
    | (refine wpList_buildBy rfl 36 _ rfl _ rfl YC [(1, .int .i64 x.op), (3, .string x.client)] (by kernel_rfl) (HBI.out ()) ?_)
    | (refine wpList_store_newTo rfl 36 _ _ rfl rfl (w.heap.size + 1) (by simp) YC _ rfl rfl HIS.out HI38.out HIO.out ?_)
    | fail)
  refine hK2.out _ _ ?_
  refine wp_seq_k (fun K3 hK3 => ?_)
  replace hK3 := Lib.hid hK3
  go_wp2_with (first
    | (refine wpList_buildBy rfl 36 _ rfl _ rfl YC [(1, .int .i64 x.op), (3, .string x.client)] (by kernel_rfl) (HBI.out ()) ?_)
    | (refine wpList_store_newTo rfl 36 _ _ rfl rfl (w.heap.size + 1) (by simp) YC _ rfl rfl HIS.out HI38.out HIO.out ?_)
    | fail)
  refine hK3.out _ _ ?_
  refine wp_seq_k (fun K4 hK4 => ?_)
  replace hK4 := Lib.hid hK4
  go_wp2_with (first
    | (refine wpList_buildBy rfl 36 _ rfl _ rfl YC [(1, .int .i64 x.op), (3, .string x.client)] (by kernel_rfl) (HBI.out ()) ?_)
    | (refine wpList_store_newTo rfl 36 _ _ rfl rfl (w.heap.size + 1) (by simp) YC _ rfl rfl HIS.out HI38.out HIO.out ?_)
    | fail)
  have hs2 : ((w.alloc (.cells x.cells.toArray 36)).alloc (.cells YC 36)).heap.size = w.heap.size + 2 := by simp
  generalize (w.alloc (.cells x.cells.toArray 36)).alloc (.cells YC 36) = w2 at *
  have HXF : Hid (w.heap.size ∉ F) := Lib.hid (fun hm => by have := HFL.out _ hm; omega)
  have HYF : Hid (w.heap.size + 1 ∉ F) := Lib.hid (fun hm => by have := HFL.out _ hm; omega)
  clear c0 c1 c3 k0
  refine one_r14y w0 h n k s lg ns F x w.heap.size w2 HP.out HX.out (by omega) HXB.out HXF.out hr (quiet_then (quiet_then quiet_body)) ?_
  intro d65 d66 d67 d68 d69 d70 d71 d72 d73 d74 d75 w4 F1 hp4 hu4
  dsimp only
  have HP4 := Lib.hid hp4
  have HU4 : Hid (Upd F F1 w w4) := Lib.hid ⟨(Mod.of_below HBW.out F).trans hu4.1 (fun j hj => .inl hj), fun j hj => (hu4.2 j hj).imp id fun h => by omega⟩
  have HX4 := Lib.hid ((hu4.1.block _ (by omega) HXF.out).trans HXB.out)
  have HY4 := Lib.hid ((hu4.1.block _ (by omega) HYF.out).trans HYB.out)
  have HXF4 := Lib.hid (fresh_not (w := w2) (by omega) HXF.out hu4.2)
  have HYF4 := Lib.hid (fresh_not (w := w2) (by omega) HYF.out hu4.2)
  have hs4 := hu4.1.size
  clear hp4 hu4

  rw [hbm]
  obtain ⟨-, x1, x3, -, x29, x30, x31, x32, -⟩ := item_cells HX4.out
  obtain ⟨G, hlg, hupL⟩ := HP4.out.lensL
  have HLA := Lib.hid (dlog_add ⟨x.op, x.client, x.msg⟩ lg ns G w4 hlg (by have := HP4.out.nl; omega))
  have hbu := built_keeps x.op x.client x.msg
  rw [hr] at hbu
  have HBU := Lib.hid (fun (_ : Unit) => hbu)
  clear hbu
  have HUL := Lib.hid hupL
  clear hlg hupL
  generalize (NoteK.note ⟨x.op, x.client, x.msg⟩).cells.toArray = NA at *
  go_wp2_with (first
    | (refine wpList_buildBy rfl 88 _ rfl _ rfl NA [(0, .int .u8 5), (1, .int .i64 x.op), (3, .string x.client), (5, .agg #[.string x.msg.t, .string x.msg.p, .int .u8 x.msg.q, .bool true])] (by kernel_rfl) (HBU.out ()) ?_)
    | fail)
  refine HLA.out.mono ?_
  rintro e w3 ⟨rfl, G', hl3, hu3⟩
  obtain ⟨FZ, hp3, hu3⟩ := HUL.out w4 w3 (Below.refl _ _) _ (k + 1) G' hl3 hu3 (Nat.le_refl _) (by rw [List.length_append]; have := HP.out.nl; simp; omega)
  have HPZ := Lib.hid hp3
  have HUZ : Hid (Upd F FZ w w3) := Lib.hid ⟨HU4.out.1.trans hu3.1 HU4.out.2, fun j hj => (hu3.2 j hj).elim (HU4.out.2 j) fun h => .inr (Nat.le_trans HU4.out.1.size h)⟩
  have HXZ := Lib.hid ((hu3.1.block _ (by omega) HXF4.out).trans HX4.out)
  have HYZ := Lib.hid ((hu3.1.block _ (by omega) HYF4.out).trans HY4.out)
  have HXFZ := Lib.hid (fresh_not (w := w4) (by omega) HXF4.out hu3.2)
  have HYFZ := Lib.hid (fresh_not (w := w4) (by omega) HYF4.out hu3.2)
  have hs3 := hu3.1.size
  clear hl3 hp3 hu3 x1 x3 x29 x30 x31 x32
  go_wp2_with fail
  refine hK4.out _ _ ?_
  refine one_rest w0 h n (k + 1) _ lg _ FZ x w.heap.size (w.heap.size + 1) w3 HPZ.out HX.out (by omega) h1 h2 HXZ.out HXFZ.out (by rw [hYC]; exact HYZ.out) (by omega) quiet_body ?_
  intro d8 d9 d10 d11 d12 d86 d87 d88 d89 d90 d91 d92 d93 d94 d95 d96 d97 d98 d99 d100 d101 d102 d103 d104 d105 d106 d107 d108 d109 d110 d111 d112 d113 d114 d115 d116 d117 d118 d119 d120 d121 d122 d123 d124 d125 d126 d127 d128 d129 d130 d131 d132 d133 d134 d135 d136 d137 d138 d139 d140 d141 d142 d143 d144 d145 d146 d147 d148 d149 d150 d151 d152 d153 d154 v L w' hm ho
  dsimp only
  go_ret
  exact droute_end HPZ.out HUZ.out (by unfold routeK; rw [hr]; rfl) (by rw [keeps_yes hr hbm]; rfl) hw0 (by omega) HYFZ.out hm ho
theorem done_route (w0 : World) (h n k : Nat) (s : HubS) (lg : Nat) (ns : List NoteK) (F : List Nat) (x : Item) (w : World) (hp : Db w0 w h n k s lg ns F) (hx : SmallI x) (hk : k ≤ 398) (h7 : x.kind = 7) (h1 : 1 ≤ n) (h2 : n ≤ 64) :
    Calls Tryz.prog 54 #[.pointer (some ⟨h, 0, none⟩), .pointer (some ⟨lg, 0, none⟩), .agg x.cells.toArray] w fun e w' => ∃ v L F', e = .returned v ∧ Db w0 w' h n (k + 1) ⟨s.gs, routeK x s.kp⟩ lg (ns ++ if keeps x then [noteOf x] else []) F' ∧ Upd F F' w w' ∧ ∀ G : List Nat, (∀ j ∈ G, j < w.heap.size) → OutM w' (F' ++ G) w.heap.size v L (routeM n x s) := by
  cases hr : x.msg.r with
  | false => exact done_route_no w0 h n k s lg ns F x w hp hx hk h7 h1 h2 hr
  | true =>
    cases hbm : mayB x.msg with
    | false => exact done_route_nk w0 h n k s lg ns F x w hp hx hk h7 h1 h2 hr hbm
    | true => exact done_route_k w0 h n k s lg ns F x w hp hx hk h7 h1 h2 hr hbm
end
section
open Go Go.RowKit

theorem done_any (w0 : World) (h n k : Nat) (s : HubS) (lg : Nat) (ns : List NoteK) (F : List Nat) (x : Item) (w : World) (hp : Db w0 w h n k s lg ns F) (hx : SmallI x) (hk : k ≤ 398) (h1 : 1 ≤ n) (h2 : n ≤ 64) (hf : fits n x = true) :
    Calls Tryz.prog 54 #[.pointer (some ⟨h, 0, none⟩), .pointer (some ⟨lg, 0, none⟩), .agg x.cells.toArray] w fun e w' => ∃ v L F', e = .returned v ∧ Db w0 w' h n (k + 1) (oneM n x s).2 lg (ns ++ if noted n x then [noteOf x] else []) F' ∧ Upd F F' w w' ∧ ∀ G : List Nat, (∀ j ∈ G, j < w.heap.size) → OutM w' (F' ++ G) w.heap.size v L (oneM n x s).1 := by
  by_cases k5 : x.kind = 5
  · rw [one_add hf s k5, noted_no (.inl (by omega))]
    refine (done_add w0 h n k s lg ns F x w hp hx hk k5).mono ?_
    rintro e w' ⟨v, L, F', rfl, hp', hu, ho⟩
    exact ⟨v, L, F', rfl, by simpa using hp', hu, ho⟩
  · by_cases k6 : x.kind = 6
    · rw [one_rem hf s k6, noted_no (.inl (by omega))]
      refine (done_rem w0 h n k s lg ns F x w hp hx hk k6).mono ?_
      rintro e w' ⟨v, L, F', rfl, hp', hu, ho⟩
      exact ⟨v, L, F', rfl, by simpa using hp'.more (Nat.le_succ k), hu, ho⟩
    · by_cases k7 : x.kind = 7
      · rw [one_route hf s k7, noted_yes hf k7]
        exact done_route w0 h n k s lg ns F x w hp hx hk k7 h1 h2
      · rw [one_none s (.inr ⟨k5, k6, k7⟩), noted_no (.inl k7)]
        refine (done_none w0 h n k s lg ns F x w hp k5 k6 k7).mono ?_
        rintro e w' ⟨rfl, hp', hb⟩
        exact ⟨_, [], F, rfl, by simpa using hp'.more (Nat.le_succ k), ⟨Mod.of_below hb _, fun _ h => .inl h⟩, fun G _ => OutM.nil _ _ _⟩
theorem item_frm {w : World} {b o : Nat} {x : Item} (h : w.rangeAt b o x.cells) : w.cell? ⟨b, o + 36, none⟩ = some (.int .i64 x.frm) := h 36 _ rfl
set_option maxRecDepth 100000 in
set_option maxHeartbeats 8000000 in
theorem ddo_any (w0 : World) (h n k : Nat) (s : HubS) (lg : Nat) (ns : List NoteK) (F : List Nat) (L : List Item) (a : Option Addr) (c : Nat) (w : World) (hp : Db w0 w h n k s lg ns F) (hL : ∀ x ∈ L, SmallI x) (hk : k + L.length ≤ 398) (h1 : 1 ≤ n) (h2 : n ≤ 64) (hr : Beside w F a (itemsV L)) (G : List Nat) (hG : ∀ j ∈ G, j < w.heap.size) :
    Calls Tryz.prog 22 #[.pointer (some ⟨h, 0, none⟩), .pointer (some ⟨lg, 0, none⟩), .slice a L.length c] w fun e w' => ∃ v M F', e = .returned v ∧ Db w0 w' h n (k + L.length) (doH n L s).2 lg (ns ++ notesOf n L) F' ∧ Upd F F' w w' ∧ OutM w' (F' ++ G) w.heap.size v M (doH n L s).1 := by
  have HP := Lib.hid hp
  have HR := Lib.hid hr
  have HL := Lib.hid hL
  have hw0 := hp.bel.size
  clear hp hr hL
  go_enter Tryz.func22, Tryz.ntmps22
  go_wp2_with fail
  go_loopw [7, 8] (fun v i wr => ∃ (j : Nat) (M : List Mail) (F' : List Nat), i = .int .i64 j ∧ j ≤ L.length ∧ Db w0 wr h n (k + j) (doH n (L.take j) s).2 lg (ns ++ notesOf n (L.take j)) F' ∧ Upd F F' w wr ∧ OutM wr (F' ++ G) w.heap.size v M (doH n (L.take j) s).1 ∧ M.length ≤ 65 * j) (fun _ i _ => (L.length - intOf i).toNat)
  case atStart => exact ⟨0, [], F, rfl, by omega, by simpa [doH, notesOf] using HP.out, ⟨Mod.refl _ _, fun _ h => .inl h⟩, OutM.nil _ _ _, by simp⟩
  case round =>
    obtain ⟨j, M, F', rfl, hj, hpj, huj, hoj, hMj⟩ := hrel
    obtain ⟨a2, c2, rfl, -, -, -⟩ := ownsRow_row hoj.own
    have HPJ := Lib.hid hpj
    have HUJ := Lib.hid huj
    have HOJ := Lib.hid hoj
    have hwr := huj.1.size
    clear hpj huj hoj
    by_cases hlt : j < L.length
    · have hj0 : (0 : Int) ≤ j := by omega
      have hjl : (j : Int) < L.length := by omega
      obtain ⟨b, o, rfl, hra⟩ := row_mid (mk := Item.cells) (m := 38) item_width (HR.out.upd HUJ.out).row hlt (by decide)
      have HRA := Lib.hid hra
      have HD := Lib.hid (doH_snoc n (L.take j) L[j] s)
      have HN := Lib.hid (notesOf_snoc n (L.take j) L[j])
      have htk := List.take_succ_eq_append_getElem hlt
      rw [← htk] at HD HN
      clear htk
      have HXS := Lib.hid (HL.out _ (List.getElem_mem hlt))
      have HIL : Hid ((Tryz.prog.info? 36).map (·.size) = some L[j].cells.length) := Lib.hid ((item_size L[j]).trans (by simp))
      have c36 := item_frm hra
      have HOL := Lib.hid (oneM_len n L[j] (doH n (L.take j) s).2)
      generalize L[j] = x at *
      have cn := HPJ.out.num
      clear hra
      generalize hXC : x.cells = XC at *
      by_cases hf : fits n x = true
      · have hfa : 0 ≤ x.frm ∧ x.frm < n := by simpa [fits] using hf
        have hd1 : decide ((0 : Int) ≤ x.frm) = true := by simp; omega
        have hd2 : decide (x.frm < (n : Int)) = true := by simp; omega
        have HF := Lib.hid hf
        clear hf hfa
        go_wp2_with fail
        go_quiet (fail)
        have HBD : Hid (Below wr.heap.size wr (wr.drewN nq)) := Lib.hid (drewN_below _ nq)
        have HP2 := Lib.hid (HPJ.out.below HBD.out)
        have HO2 := Lib.hid (HOJ.out.below HBD.out)
        have hra2 := range_below19 HRA.out HBD.out
        have HRB := Lib.hid hra2
        have hs2 : wr.heap.size ≤ (wr.drewN nq).heap.size := HBD.out.size
        have HU2 := Lib.hid (upd_trans_h HUJ.out (upd_b HBD.out))
        clear c36 cn HBD hra2
        generalize wr.drewN nq = W at *
        have HDA := Lib.hid (done_any w0 h n (k + j) (doH n (L.take j) s).2 lg (ns ++ notesOf n (L.take j)) F' x W HP2.out HXS.out (by omega) h1 h2 HF.out)
        rw [hXC] at HDA
        go_wp2_with (first
          | (refine wpList_loadMid rfl 36 _ rfl b (o + j * 38) rfl XC _ HRB.out Tryz.underlying36 rfl HIL.out _ rfl ?_)
          | fail)
        refine HDA.out.mono ?_
        rintro e W3 ⟨v3, M3, F3, rfl, hp3, hu3, ho3⟩
        obtain ⟨a3, c3, rfl, hr3, -, -⟩ := ownsRow_row (ho3 [] (by simp)).own
        have HP3 := Lib.hid hp3
        have HU3 := Lib.hid hu3
        have HO3 := Lib.hid (ho3 (G ++ (Value.slice a2 M.length c2).ownBlock.toList) (fun k hk => by
          rcases List.mem_append.1 hk with hk | hk
          · have := hG k hk; omega
          · exact (HO2.out.lt k hk).2))
        have HR3 := Lib.hid hr3
        have HO4 := Lib.hid (HO2.out.updG hu3)
        have HU4 := Lib.hid (upd_trans_h HU2.out hu3)
        have hs3 := hu3.1.size
        have hml := (ho3 [] (by simp)).ms.len
        have hol := HOL.out
        have hol2 : M3.length ≤ 65 := by omega
        clear hp3 hu3 ho3 hr3 HDA HOL
        by_cases h0 : M3.length = 0
        · obtain rfl : M3 = [] := List.length_eq_zero_iff.1 h0
          have he : (oneM n x (doH n (L.take j) s).2).1 = [] := List.length_eq_zero_iff.1 (by rw [← hml]; rfl)
          have HO5 : Hid (OutM W3 (F3 ++ G) w.heap.size (.slice a2 M.length c2) M (doH n (L.take (j + 1)) s).1) := Lib.hid (by
            rw [HD.out]; show OutM _ _ _ _ _ (_ ++ _); rw [he, List.append_nil]; exact HO4.out)
          have HP5 : Hid (Db w0 W3 h n (k + (j + 1)) (doH n (L.take (j + 1)) s).2 lg (ns ++ notesOf n (L.take (j + 1))) F3) := Lib.hid (by rw [HD.out, HN.out, ← List.append_assoc]; exact HP3.out)
          simp only [List.length_nil]
          clear he h0 hml hol hol2
          go_wp2_with (first
            | (at_builtin; refine wpList_app0 T_mail HO4.out.own rfl rfl rfl rfl _ rfl ?_)
            | fail)
          go_roundw
          case rel => exact ⟨j + 1, M, F3, by go_num, by omega, HP5.out, HU4.out, HO5.out, by omega⟩
          case measure => simp [intOf]; omega
        · have hpos : 0 < M3.length := by omega
          have HLC := Lib.hid (mailsV_length M3)
          have HM1 := Lib.hid (mails_one M3)
          clear h0 hml hol
          go_wp2_with (first
            | (at_builtin; refine wpList_appR (m := M3.length) T_mail HO4.out.own HR3.out rfl rfl rfl rfl _ rfl HLC.out hpos HM1.out (by omega) (by omega) (by omega) ?_; intro ng cap w7 hown7 hg7 hb7 hl7; have H7 := Lib.hid (And.intro hown7 (And.intro hg7 hb7)); clear hown7 hg7 hb7 hl7)
            | fail)
          obtain ⟨hown7, hg7, hb7⟩ := H7.out
          obtain ⟨ho7, hu7⟩ := OutM.grow (v' := .slice (some ⟨ng, 0, none⟩) (M.length + M3.length) cap) (M2 := M3) (H2 := (oneM n x (doH n (L.take j) s).2).1) HO4.out (fun k hk => by
            rcases List.mem_append.1 hk with hk | hk
            · exact HP3.out.lt k hk
            · have := hG k hk; omega) (Below.refl _ _) hown7 hg7 (fun b' hb' => by
            obtain rfl : ng = b' := by simpa [Value.ownBlock] using hb'
            exact hb7) (HO3.out.ms.sub fun k hk => by
            simp only [List.mem_append] at hk ⊢
            rcases hk with (hk | hk) | hk
            · exact .inl (.inl hk)
            · exact .inl (.inr (.inl hk))
            · exact .inl (.inr (.inr hk)))
          have hb2W : ∀ k ∈ (Value.slice a2 M.length c2).ownBlock.toList, w0.heap.size ≤ k := fun k hk => Nat.le_trans hw0 (HO4.out.lt k hk).1
          have hb2off : ∀ k ∈ F3 ++ G, k ∉ (Value.slice a2 M.length c2).ownBlock.toList := fun k hk hk' => HO4.out.off k (Option.mem_toList.1 hk') hk
          have HP5 : Hid (Db w0 w7 h n (k + (j + 1)) (doH n (L.take (j + 1)) s).2 lg (ns ++ notesOf n (L.take (j + 1))) F3) := Lib.hid (by
            rw [HD.out, HN.out, ← List.append_assoc]; exact HP3.out.mod hu7 (fun k hk => hb2off k (List.mem_append_left _ hk)) hb2W)
          have HU5 : Hid (Upd F F3 w w7) := Lib.hid ⟨HU4.out.1.trans hu7.1 (fun k hk => .inr (HO4.out.lt k hk).1), HU4.out.2⟩
          have HO5 : Hid (OutM w7 (F3 ++ G) w.heap.size (.slice (some ⟨ng, 0, none⟩) (M.length + M3.length) cap) (M ++ M3) (doH n (L.take (j + 1)) s).1) := Lib.hid (by rw [HD.out]; exact ho7)
          have hln : (M ++ M3).length ≤ 65 * (j + 1) := by rw [List.length_append]; omega
          clear hown7 hg7 hb7 ho7 hu7 hb2W hb2off
          go_roundw
          case rel => exact ⟨j + 1, M ++ M3, F3, by go_num, by omega, HP5.out, HU5.out, HO5.out, hln⟩
          case measure => simp [intOf]; omega
      · have HE := Lib.hid (one_none (n := n) (x := x) (doH n (L.take j) s).2 (.inl (by simpa using hf)))
        have HNN := Lib.hid (noted_no (n := n) (x := x) (.inr (by simpa using hf)))
        have HB5 : Hid (∀ q, Db w0 (wr.drewN q) h n (k + (j + 1)) (doH n (L.take (j + 1)) s).2 lg (ns ++ notesOf n (L.take (j + 1))) F') := Lib.hid (fun q => by
          rw [HD.out, HN.out, HNN.out, HE.out]
          simpa [Nat.add_assoc] using (HPJ.out.below (drewN_below _ q)).more (Nat.le_succ _))
        have HO5 : Hid (∀ q, OutM (wr.drewN q) (F' ++ G) w.heap.size (.slice a2 M.length c2) M (doH n (L.take (j + 1)) s).1) := Lib.hid (fun q => by
          rw [HD.out, HE.out]
          simpa using HOJ.out.below (drewN_below _ q))
        have HU5 : Hid (∀ q, Upd F F' w (wr.drewN q)) := Lib.hid (fun q => upd_trans_h HUJ.out (upd_b (drewN_below _ q)))
        have hfa : x.frm < 0 ∨ (n : Int) ≤ x.frm := by
          simp [fits] at hf
          omega
        by_cases hd : x.frm < 0
        · have hd1 : decide ((0 : Int) ≤ x.frm) = false := by simp; omega
          clear hf hfa hd
          go_wp2_with fail
          go_quiet (fail)
          go_wp2_with fail
          go_roundw
          case rel => exact ⟨j + 1, M, F', by go_num, by omega, HB5.out _, HU5.out _, HO5.out _, by omega⟩
          case measure => simp [intOf]; omega
        · have hd1 : decide ((0 : Int) ≤ x.frm) = true := by simp; omega
          have hd2 : decide (x.frm < (n : Int)) = false := by simp; omega
          clear hf hfa hd
          go_wp2_with fail
          go_quiet (fail)
          go_wp2_with fail
          go_roundw
          case rel => exact ⟨j + 1, M, F', by go_num, by omega, HB5.out _, HU5.out _, HO5.out _, by omega⟩
          case measure => simp [intOf]; omega
    · have hjl : ¬ (j : Int) < L.length := by omega
      obtain rfl : j = L.length := by omega
      rw [List.take_length] at HPJ HOJ
      clear HR HL
      go_wp2_with fail
      go_ret
      exact ⟨_, rfl, M, F', HPJ.out, HUJ.out, HOJ.out⟩
end
end Go.Proofs.YthfdcphecggjeaaGreatDoor
