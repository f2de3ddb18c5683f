/- Packets of messages: packet.bare, Rest, Right at them. Packets of messages: packet.Rest, Right at them. A message's packet: out.publish walked. -/
import Derived.Test.YtmkhagmjpbfieaaGreatDoorOutRX
namespace Go.Proofs.YtmkhagmjpbfieaaGreatDoor
section
open Go Go.RowKit

theorem pk_size' (x : Pkt) : (Tryz.prog.info? 37).map (·.size) = some x.cells.length := show _ = some 24 by kernel_rfl
theorem built_pub (m : Msg) (id : Int) (d : Bool) : Tryz.prog.built 37 [(1, .bool d), (2, .int .u8 m.q), (3, .bool m.r), (4, .int .u16 id), (5, .string m.t), (6, .string m.p)] = some ({ pubK m id d with ty := 0 } : Pkt).cells.toArray := by
  obtain ⟨t, p, q, r⟩ := m
  kernel_rfl
theorem pub_ty (m : Msg) (id : Int) (d : Bool) : ({ pubK m id d with ty := 0 } : Pkt).cells.set 0 (.int .u8 3) = (pubK m id d).cells := rfl
set_option maxRecDepth 100000 in
set_option maxHeartbeats 2000000 in
theorem bare_pub (m : Msg) (id : Int) (d : Bool) (w : World) : Calls Tryz.prog 126 #[.agg (pubK m id d).cells.toArray] w fun e w' => e = .returned (.bool true) ∧ Below w.heap.size w w' := by
  have hX := heap_alloc_new w (.cells (pubK m id d).cells.toArray 37)
  have hb1 := low_alloc w (.cells (pubK m id d).cells.toArray 37)
  have HXO := Lib.hid (fun o => ((low_alloc (w.alloc (.cells (pubK m id d).cells.toArray 37)) o).block w.heap.size (by simp)).trans hX)
  have HS : Hid (∀ X, Below (w.heap.size + 2) ((w.alloc (.cells (pubK m id d).cells.toArray 37)).alloc (.cells (pubK m id d).cells.toArray 37)) X → X.rangeAt w.heap.size 0 (pubK m id d).cells ∧ X.rangeAt (w.heap.size + 1) 0 (pubK m id d).cells) := Lib.hid (fun X hX2 => by
    refine ⟨range_blk ((hX2.block _ (by omega)).trans (HXO.out _)), range_blk (T := 37) (fr := (0, 0)) ((hX2.block _ (by omega)).trans ?_)⟩
    have h9 := heap_alloc_new (w.alloc (.cells (pubK m id d).cells.toArray 37)) (.cells (pubK m id d).cells.toArray 37)
    rwa [World.size_alloc] at h9)
  have HBB : Hid (Below w.heap.size w ((w.alloc (.cells (pubK m id d).cells.toArray 37)).alloc (.cells (pubK m id d).cells.toArray 37))) := Lib.hid (hb1.alloc (by simp) _)
  have HBU := Lib.hid (fun (_ : Unit) => built_pub m id d)
  have HTY := Lib.hid (pub_ty m id d)
  have hsz : (w.alloc (.cells (pubK m id d).cells.toArray 37)).heap.size = w.heap.size + 1 := by simp
  have HPL := Lib.hid (plain_any (pubK m id d))
  have HEQ := Lib.hid (flat_eql (pubK m id d))
  have HLS := Lib.hid (pk_size' (pubK m id d))
  have H24 : Hid ((24 : Nat) = ({ pubK m id d with ty := 0 } : Pkt).cells.toArray.size) := Lib.hid rfl
  have HFS := Lib.hid (pk_size ({ pubK m id d with ty := 0 } : Pkt))
  have HF1 := Lib.hid (pk_one ({ pubK m id d with ty := 0 } : Pkt))
  obtain ⟨x0, x1, x2, x3, x4, x5, x6⟩ := pk_cells hX
  obtain ⟨-, -, -, -, -, -, -, -, -, -, -, -, -, -, -, x22, -⟩ := pk_cells2 hX
  have y0 := fun o => (pk_cells (HXO.out o)).1
  have y1 := fun o => (pk_cells (HXO.out o)).2.1
  have y2 := fun o => (pk_cells (HXO.out o)).2.2.1
  have y3 := fun o => (pk_cells (HXO.out o)).2.2.2.1
  have y4 := fun o => (pk_cells (HXO.out o)).2.2.2.2.1
  have y5 := fun o => (pk_cells (HXO.out o)).2.2.2.2.2.1
  have y6 := fun o => (pk_cells (HXO.out o)).2.2.2.2.2.2
  have hzz := heap_alloc_new (w.alloc (.cells (pubK m id d).cells.toArray 37)) (.cells ({ pubK m id d with ty := 0 } : Pkt).cells.toArray 37)
  rw [hsz] at hzz
  have fz := frozen_of_row _ _ 0 _ _ hzz
  have cz : ((w.alloc (.cells (pubK m id d).cells.toArray 37)).alloc (.cells ({ pubK m id d with ty := 0 } : Pkt).cells.toArray 37)).cell? ⟨w.heap.size + 1, 0, none⟩ = some (.int .u8 0) := cell_of_row _ _ 0 _ _ _ hzz
  replace x22 : (w.alloc (.cells (pubK m id d).cells.toArray 37)).cell? ⟨w.heap.size, 22, none⟩ = some (.slice none 0 0) := x22
  generalize (pubK m id d).cells = XL at *
  generalize ({ pubK m id d with ty := 0 } : Pkt).cells = YL at *
  generalize (flatC (pubK m id d)).toArray = FC at *
  dsimp only [pubK] at x0 x1 x2 x3 x4 x5 x6 y0 y1 y2 y3 y4 y5 y6
  have HZ : Hid (pkZ.cells.toArray.size = 24) := Lib.hid rfl
  clear hX hb1 HXO hsz hzz
  go_enter Tryz.func126, Tryz.ntmps126
  go_upto_region 18 with (first
    | (refine wpList_buildBy rfl 37 _ rfl _ rfl YL.toArray [(1, .bool d), (2, .int .u8 m.q), (3, .bool m.r), (4, .int .u16 id), (5, .string m.t), (6, .string m.p)] (by kernel_rfl) (HBU.out ()) ?_)
    | (refine wpList_store_newTo rfl 37 _ _ rfl rfl (w.heap.size + 1) (by simp) YL.toArray _ rfl rfl HFS.out H24.out HF1.out ?_)
    | fail)
  rw [HTY.out]
  obtain ⟨W, hW⟩ : ∃ W, (w.alloc (.cells XL.toArray 37)).alloc (.cells XL.toArray 37) = W := ⟨_, rfl⟩
  have hWs : W.heap.size = w.heap.size + 2 := by rw [← hW]; simp
  rw [hW] at HS HBB ⊢
  clear hW x0 x1 x2 x3 x4 x5 x6 x22 y0 y1 y2 y3 y4 y5 y6 fz cz
  refine wp_region_held_drew (S := fun X => X.rangeAt w.heap.size 0 XL ∧ X.rangeAt (w.heap.size + 1) 0 XL) (by kernel_rfl) (HS.out W (Below.refl _ _)) (fun hHeld => ?_)
  refine wpAnyH_take (i := 0) (v := .agg XL.toArray) rfl (by kernel_rfl) (by kernel_rfl) (by kernel_rfl) (fun _ _ _ h => h) (Or.inl ⟨rfl, ?_⟩) hHeld ?_
  · intro w0 hS0
    exact exec_load_row rfl rfl hS0.1 Tryz.underlying37 rfl HLS.out
  simp only [List.getElem_toArray, List.getElem_cons_zero, Act.put, List.setIfInBounds_toArray, List.set_cons_zero, List.set_cons_succ]
  refine wpAnyH_take (i := 2) (v := .agg XL.toArray) rfl (by kernel_rfl) (by kernel_rfl) (by kernel_rfl) (fun _ _ _ h => h) (Or.inl ⟨rfl, ?_⟩) hHeld ?_
  · intro w0 hS0
    exact exec_load_row rfl rfl hS0.2 Tryz.underlying37 rfl HLS.out
  simp only [List.getElem_toArray, List.getElem_cons_zero, List.getElem_cons_succ, Act.put, List.setIfInBounds_toArray, List.set_cons_zero, List.set_cons_succ]
  refine wpAnyH_ready (rs := [1]) (by kernel_rfl) (by simp) ?_
  refine AllReadyH.cons rfl (fun K hK => ?_) AllReadyH.nil
  rw [if_pos (by rfl)]
  go_simp
  go_at_call 90
  refine (HPL.out _).mono ?_
  rintro e w1 ⟨rfl, hk⟩
  have hb1 : Below (w.heap.size + 2) W w1 := by rw [← hWs]; exact ((Below.refl _ _).drew).trans hk
  have HB1 := Lib.hid hb1
  clear hk hb1 hHeld
  refine hK.out _ _ (HS.out _ HB1.out) (fun hHeld => ?_)
  have hs1 := HB1.out.size
  refine wpAnyH_ready (rs := [3]) (by kernel_rfl) (by simp) ?_
  refine AllReadyH.cons rfl (fun K hK => ?_) AllReadyH.nil
  rw [if_pos (by rfl)]
  go_simp
  go_at_call 90
  refine (HPL.out _).mono ?_
  rintro e w2 ⟨rfl, hk⟩
  have hb2 : Below (w.heap.size + 2) W w2 := HB1.out.trans (hk.mono (by omega))
  have HB2 := Lib.hid hb2
  clear hk hb2 hHeld
  refine hK.out _ _ (HS.out _ HB2.out) (fun hHeld => ?_)
  have hcmp := fun w => HEQ.out w
  refine tk 4 (v := ?_) ?_ hHeld ?_; rotate_left; · (intro w0 hS0; (try dsimp only at hS0); go_simp; try with_reducible rfl)
  simp only [tks]
  refine tk 5 (v := ?_) ?_ hHeld ?_; rotate_left; · (intro w0 hS0; (try dsimp only at hS0); go_simp; try with_reducible rfl)
  simp only [tks]
  refine wpAnyH_done (by kernel_rfl) ?_ _
  clear hHeld hcmp
  go_wp2_with fail
  go_ret
  exact ⟨rfl, HBB.out.trans (HB2.out.mono (by omega))⟩
end
section
open Go Go.RowKit

set_option maxRecDepth 100000 in
set_option maxHeartbeats 2000000 in
theorem rest_pub (m : Msg) (w : World) (hT : Tabs w) (hs : m.t.size + m.p.size ≤ 200000000) (hq0 : 0 ≤ m.q) :
    Calls Tryz.prog 98 #[.agg (pubK m (idOf m) false).cells.toArray] w fun e w' => e = .returned (.int .i64 (restP m)) ∧ Below w.heap.size w w' := by
  have hb := low_alloc w (.cells (pubK m (idOf m) false).cells.toArray 37)
  have hX := heap_alloc_new w (.cells (pubK m (idOf m) false).cells.toArray 37)
  have HPP := Lib.hid (ppub_any m _ (hT.below hb) hs hq0)
  have HBP := Lib.hid (bare_pub m (idOf m) false)
  have hRS : restP m = -1 ∨ (0 ≤ restP m ∧ restP m ≤ 268435455) := by
    unfold restP
    split
    · right; split <;> omega
    · exact .inl rfl
  obtain ⟨W, hW⟩ : ∃ W, w.alloc (.cells (pubK m (idOf m) false).cells.toArray 37) = W := ⟨_, rfl⟩
  have hWs : W.heap.size = w.heap.size + 1 := by rw [← hW]; simp
  obtain ⟨x0, -⟩ := pk_cells hX
  have HLS := Lib.hid (pk_size (pubK m (idOf m) false))
  have HX := Lib.hid hX
  have HB := Lib.hid hb
  rw [hW] at HPP HX HB x0
  have HRG := Lib.hid (fun X h => range_blk (w := X) (b := w.heap.size) (cs := (pubK m (idOf m) false).cells) (T := 37) (fr := (0, 0)) h)
  generalize (pubK m (idOf m) false).cells = XL at *
  replace x0 : W.cell? ⟨w.heap.size, 0, none⟩ = some (.int .u8 3) := x0
  obtain ⟨n, hn⟩ : ∃ n, restP m = n := ⟨_, rfl⟩
  rw [hn] at HPP hRS ⊢
  clear hX hb hn
  go_enter Tryz.func98, Tryz.ntmps98
  go_wp2_with (first
    | (refine wpList_load_row rfl 37 _ rfl w.heap.size rfl 37 XL.toArray _ _ HX.out Tryz.underlying37 rfl HLS.out ?_)
    | fail)
  refine HPP.out.mono ?_
  rintro e w1 ⟨rfl, hk⟩
  have hb1 := bnext HB.out (Nat.le_refl _) hk
  have h1 := (hk.block w.heap.size (by omega)).trans HX.out
  have H1 := Lib.hid h1
  have HB1 := Lib.hid hb1
  clear h1 hb1 hk
  rcases hRS with rfl | ⟨hn1, hn2⟩
  · go_wp2_with fail
    go_ret
    exact ⟨rfl, HB1.out⟩
  · have hn3 : decide (n < 0) = false := decide_eq_false (by omega)
    have hn4 : decide (268435455 < n) = false := decide_eq_false (by omega)
    clear hn1 hn2
    go_wp2_with (first
      | (refine wpList_loadG (by kernel_rfl) 37 _ rfl w.heap.size rfl 37 XL.toArray _ _ H1.out Tryz.underlying37 rfl HLS.out ?_)
      | fail)
    refine (HBP.out _).mono ?_
    rintro e w2 ⟨rfl, hk⟩
    have HB2 := Lib.hid (bnext HB1.out (Nat.le_refl _) hk)
    clear hk
    go_wp2_with fail
    go_ret
    exact ⟨rfl, HB2.out⟩
set_option maxRecDepth 100000 in
set_option maxHeartbeats 2000000 in
theorem right_pub (m : Msg) (w : World) (hT : Tabs w) (hs : m.t.size + m.p.size ≤ 200000000) (hq0 : 0 ≤ m.q) :
    Calls Tryz.prog 62 #[.agg (pubK m (idOf m) false).cells.toArray] w fun e w' => e = .returned (.bool (mayP m)) ∧ Below w.heap.size w w' := by
  have hb := low_alloc w (.cells (pubK m (idOf m) false).cells.toArray 37)
  have hX := heap_alloc_new w (.cells (pubK m (idOf m) false).cells.toArray 37)
  have HRR := Lib.hid (rest_pub m _ (hT.below hb) hs hq0)
  have HRS : Hid (decide (0 ≤ restP m) = mayP m) := Lib.hid (by
    unfold restP
    split
    · rename_i h
      rw [h]
      split <;> (rw [decide_eq_true]; omega)
    · rename_i h
      simp at h
      rw [h]; rfl)
  have HLS := Lib.hid (pk_size (pubK m (idOf m) false))
  have HX := Lib.hid hX
  have HB := Lib.hid hb
  generalize (pubK m (idOf m) false).cells = XL at *
  generalize restP m = n at *
  clear hX hb
  go_enter Tryz.func62, Tryz.ntmps62
  go_wp2_with (first
    | (refine wpList_load_row rfl 37 _ rfl w.heap.size rfl 37 XL.toArray _ _ HX.out Tryz.underlying37 rfl HLS.out ?_)
    | fail)
  refine HRR.out.mono ?_
  rintro e w1 ⟨rfl, hk⟩
  have HB1 := Lib.hid (bnext HB.out (Nat.le_refl _) hk)
  clear hk
  go_wp2_with fail
  go_ret
  exact ⟨ret_bool (by rw [← HRS.out]), HB1.out⟩
end
section
open Go Go.RowKit

theorem setRow_low {w0 w : World} {g : Nat} (hb : Below w0.heap.size w0 w) (h : w0.heap.size ≤ g) (cs : Array Value) : Below w0.heap.size w0 (w.setRow g cs) :=
  hb.trans ((mod_setRow (Mod.refl [g] w) (.inl (by simp)) cs).below hb.size (by simpa using h))
def pidOf (m : Msg) (id : Int) : Int := if 0 < m.q then id else 0
theorem built_msg (m : Msg) : Tryz.prog.built 37 [(0, .int .u8 3), (5, .string m.t), (6, .string m.p), (2, .int .u8 m.q), (3, .bool m.r)] = some (pubK m 0 false).cells.toArray := by
  obtain ⟨t, p, q, r⟩ := m
  kernel_rfl
theorem pub_id (m : Msg) (id : Int) : (pubK m 0 false).cells.set 4 (.int .u16 id) = (pubK m id false).cells := rfl
set_option maxRecDepth 100000 in
set_option maxHeartbeats 2000000 in
theorem opub_any (m : Msg) (id : Int) (w : World) : Calls Tryz.prog 63 #[m.val, .int .u16 id] w fun e w' => e = .returned (.agg (pubK m (pidOf m id) false).cells.toArray) ∧ Below w.heap.size w w' := by
  have hW := low_alloc w (.cells m.cells.toArray 34)
  have hm := heap_alloc_new w (.cells m.cells.toArray 34)
  obtain ⟨W, hWe⟩ : ∃ W, w.alloc (.cells m.cells.toArray 34) = W := ⟨_, rfl⟩
  have hsz : W.heap.size = w.heap.size + 1 := by rw [← hWe]; simp
  rw [hWe] at hW hm
  have HW := Lib.hid hW
  have HM := Lib.hid hm
  have HBU := Lib.hid (fun (_ : Unit) => built_msg m)
  have hid4 := pub_id m id
  have HFS := Lib.hid (pk_size (pubK m 0 false))
  have HF1 := Lib.hid (pk_one (pubK m 0 false))
  have HFS' := Lib.hid (pk_size (pubK m id false))
  have HF1' := Lib.hid (pk_one (pubK m id false))
  have HY4 : Hid ((pubK m 0 false).cells.toArray[4]? = some (.int .u16 0)) := Lib.hid rfl
  have H24 : Hid ((24 : Nat) = (pubK m 0 false).cells.toArray.size) := Lib.hid rfl
  have H24' : Hid ((24 : Nat) = (pubK m id false).cells.toArray.size) := Lib.hid rfl
  have HP0 : Hid (¬ 0 < m.q → (pubK m (pidOf m id) false).cells.toArray = (pubK m 0 false).cells.toArray) := Lib.hid (fun h => by unfold pidOf; rw [if_neg h])
  have HP1 : Hid (0 < m.q → (pubK m (pidOf m id) false).cells.toArray = (pubK m id false).cells.toArray) := Lib.hid (fun h => by unfold pidOf; rw [if_pos h])
  have g0 := fun o => ((low_alloc W o).cell (p := ⟨w.heap.size, 0, none⟩) (by show w.heap.size < W.heap.size; omega)).trans (cell_of_row _ _ 0 _ _ _ hm)
  have g1 := fun o => ((low_alloc W o).cell (p := ⟨w.heap.size, 1, none⟩) (by show w.heap.size < W.heap.size; omega)).trans (cell_of_row _ _ 1 _ _ _ hm)
  have g2 := fun o => ((low_alloc W o).cell (p := ⟨w.heap.size, 2, none⟩) (by show w.heap.size < W.heap.size; omega)).trans (cell_of_row _ _ 2 _ _ _ hm)
  have g3 := fun o => ((low_alloc W o).cell (p := ⟨w.heap.size, 3, none⟩) (by show w.heap.size < W.heap.size; omega)).trans (cell_of_row _ _ 3 _ _ _ hm)
  have g2' := fun o o' => ((bnext (low_alloc W o) (Nat.le_refl _) (low_alloc _ o')).cell (p := ⟨w.heap.size, 2, none⟩) (by show w.heap.size < W.heap.size; omega)).trans (cell_of_row _ _ 2 _ _ _ hm)
  simp only [Msg.cells, List.getElem?_toArray, List.getElem?_cons_zero, List.getElem?_cons_succ] at g0 g1 g2 g3 g2' hWe
  have hWW : (w.alloc (.cells #[.string m.t, .string m.p, .int .u8 m.q, .bool m.r] 34)) = W := hWe
  have HNW := Lib.hid (fun o cs => (by
    have h9 := heap_alloc_new (W.alloc o) (.cells cs 37)
    rwa [World.size_alloc] at h9 : ((W.alloc o).alloc (.cells cs 37)).heap[W.heap.size + 1]? = some (.cells cs 37 (0, 0))))
  have HOL := Lib.hid (fun cs o => (Below.heap_alloc (W.alloc (.cells cs 37)) o W.heap.size (by simp)).trans (heap_alloc_new W (.cells cs 37)))
  have HBE := Lib.hid (fun o o' => bnext hW (Nat.le_refl _) (bnext (low_alloc W o) (Nat.le_refl _) (low_alloc _ o')))
  generalize (pubK m 0 false).cells = YL at *
  generalize (pubK m id false).cells = ZL at *
  generalize (pubK m (pidOf m id) false).cells = RL at *
  have fz := fun o => frozen_of_row _ _ 4 _ _ (HNW.out o YL.toArray)
  have cz : ∀ o, ((W.alloc o).alloc (.cells YL.toArray 37)).cell? ⟨W.heap.size + 1, 4, none⟩ = some (.int .u16 0) := fun o => (cell_of_row _ _ 4 _ _ _ (HNW.out o YL.toArray)).trans HY4.out
  have HSZ := Lib.hid hsz
  clear hW hm hWe hsz
  unfold Msg.val
  by_cases h0 : 0 < m.q
  · skip
    go_enter Tryz.func63, Tryz.ntmps63
    go_wp2_with (first
      | (refine wpList_buildBy rfl 37 _ rfl _ rfl YL.toArray [(0, .int .u8 3), (5, .string m.t), (6, .string m.p), (2, .int .u8 m.q), (3, .bool m.r)] (by kernel_rfl) (HBU.out ()) ?_)
      | (refine wpList_store_newTo rfl 37 _ _ rfl rfl (W.heap.size + 1) (by simp) YL.toArray _ rfl rfl HFS.out H24.out HF1.out ?_)
      | (refine wpList_load_row rfl 37 _ rfl (W.heap.size + 1) rfl 37 ZL.toArray _ _ (HNW.out _ _) Tryz.underlying37 rfl HFS'.out ?_)
      | (refine wpList_store_rowTo rfl 37 _ _ rfl rfl W.heap.size ZL.toArray rfl rfl 37 _ (HOL.out _ _) HFS'.out H24'.out HF1'.out ?_)
      | fail)
    refine bodyPost_ret (results_cell_row rfl _ _ W.heap.size 37 ZL.toArray (0, 0) _ rfl (setRow_heap _ _ _ _ _ _ (HOL.out _ _)) Tryz.underlying37 rfl HFS'.out) rfl ⟨by rw [HP1.out h0], ?_⟩
    exact setRow_low (HBE.out _ _) (by rw [HSZ.out]; omega) _
  · skip
    go_enter Tryz.func63, Tryz.ntmps63
    go_wp2_with (first
      | (refine wpList_buildBy rfl 37 _ rfl _ rfl YL.toArray [(0, .int .u8 3), (5, .string m.t), (6, .string m.p), (2, .int .u8 m.q), (3, .bool m.r)] (by kernel_rfl) (HBU.out ()) ?_)
      | (refine wpList_store_newTo rfl 37 _ _ rfl rfl (W.heap.size + 1) (by simp) YL.toArray _ rfl rfl HFS.out H24.out HF1.out ?_)
      | (refine wpList_load_row rfl 37 _ rfl (W.heap.size + 1) rfl 37 YL.toArray _ _ (HNW.out _ _) Tryz.underlying37 rfl HFS.out ?_)
      | (refine wpList_store_rowTo rfl 37 _ _ rfl rfl W.heap.size YL.toArray rfl rfl 37 _ (HOL.out _ _) HFS.out H24.out HF1.out ?_)
      | fail)
    refine bodyPost_ret (results_cell_row rfl _ _ W.heap.size 37 YL.toArray (0, 0) _ rfl (setRow_heap _ _ _ _ _ _ (HOL.out _ _)) Tryz.underlying37 rfl HFS.out) rfl ⟨by rw [HP0.out h0], ?_⟩
    exact setRow_low (HBE.out _ _) (by rw [HSZ.out]; omega) _
theorem opub_zero (m : Msg) (w : World) : Calls Tryz.prog 63 #[m.val, .int .u16 0] w fun e w' => e = .returned (.agg (pubK m 0 false).cells.toArray) ∧ Below w.heap.size w w' := by
  have h := opub_any m 0 w
  rwa [show pidOf m 0 = 0 by unfold pidOf; split <;> rfl] at h
end
end Go.Proofs.YtmkhagmjpbfieaaGreatDoor
