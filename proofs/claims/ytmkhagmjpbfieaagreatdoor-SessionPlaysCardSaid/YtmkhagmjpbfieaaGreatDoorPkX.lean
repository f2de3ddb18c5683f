/- Packets of messages: packet.publish at them. Wide structs that are built, and laid into a block that was just made. No program in sight. Packets without their lists: packet.plain. Packets without their lists: two that are the same. -/
import Derived.Test.YtmkhagmjpbfieaaGreatDoorKTopX
import Derived.Test.YtmkhagmjpbfieaaGreatDoorOutP
import Derived.Test.YtmkhagmjpbfieaaGreatDoorSteps
import Derived.Great.Walk
import Derived.Great.BuildSlice
namespace Go.Proofs.YtmkhagmjpbfieaaGreatDoor
section
open Go Go.RowKit

theorem pk_cells {w : World} {b : Nat} {x : Pkt} (h : w.heap[b]? = some (.cells x.cells.toArray 37 (0, 0))) :
    w.cell? ⟨b, 0, none⟩ = some (.int .u8 x.ty) ∧ w.cell? ⟨b, 1, none⟩ = some (.bool x.dup) ∧ w.cell? ⟨b, 2, none⟩ = some (.int .u8 x.qos) ∧ w.cell? ⟨b, 3, none⟩ = some (.bool x.retain) ∧ w.cell? ⟨b, 4, none⟩ = some (.int .u16 x.id) ∧
      w.cell? ⟨b, 5, none⟩ = some (.string x.topic) ∧ w.cell? ⟨b, 6, none⟩ = some (.string x.payload) :=
  ⟨cell_of_row w b 0 _ _ _ h, cell_of_row w b 1 _ _ _ h, cell_of_row w b 2 _ _ _ h, cell_of_row w b 3 _ _ _ h, cell_of_row w b 4 _ _ _ h, cell_of_row w b 5 _ _ _ h, cell_of_row w b 6 _ _ _ h⟩
def idOf (m : Msg) : Int := if 0 < m.q then 1 else 0
def restP (m : Msg) : Int := if mayP m then 2 + m.t.size + m.p.size + (if 0 < m.q then 2 else 0) else -1
theorem restP_no {m : Msg} (h : nameB m.t.data.toList = false ∨ 2 < m.q) : restP m = -1 := by
  unfold restP mayP
  rcases h with h | h
  · rw [h]; rfl
  · rw [decide_eq_false (by omega), Bool.and_false]; rfl
theorem restP_yes {m : Msg} (h : nameB m.t.data.toList = true) (h2 : m.q ≤ 2) : restP m = 2 + m.t.size + m.p.size + (if 0 < m.q then 2 else 0) := by
  unfold restP mayP
  rw [h, decide_eq_true h2]; rfl
set_option maxRecDepth 100000 in
set_option maxHeartbeats 2000000 in
theorem ppub_any (m : Msg) (w : World) (hT : Tabs w) (hs : m.t.size + m.p.size ≤ 200000000) (hq0 : 0 ≤ m.q) :
    Calls Tryz.prog 122 #[.agg (pubK m (idOf m) false).cells.toArray] w fun e w' => e = .returned (.int .i64 (restP m)) ∧ Below w.heap.size w w' := by
  have hb := low_alloc w (.cells (pubK m (idOf m) false).cells.toArray 37)
  have hX := heap_alloc_new w (.cells (pubK m (idOf m) false).cells.toArray 37)
  obtain ⟨-, x1, x2, -, x4, x5, x6⟩ := pk_cells hX
  generalize (pubK m (idOf m) false).cells.toArray = PC at *
  dsimp only [pubK] at x1 x2 x4 x5 x6
  have HNM := Lib.hid (pname_any m.t _ (hT.below hb) (by omega))
  have HB := Lib.hid hb
  have hl : w.heap.size < (w.alloc (.cells PC 37)).heap.size := by simp
  obtain ⟨bn, hbn⟩ : ∃ bn, nameB m.t.data.toList = bn := ⟨_, rfl⟩
  have HBN := Lib.hid hbn
  rw [hbn] at HNM
  clear hb hT hbn hX
  go_enter Tryz.func122, Tryz.ntmps122
  go_wp2_with fail
  refine HNM.out.mono ?_
  rintro e w1 ⟨rfl, hk⟩
  have hsw : ∀ j v, (w.alloc (.cells PC 37)).cell? ⟨w.heap.size, j, none⟩ = some v → w1.cell? ⟨w.heap.size, j, none⟩ = some v := fun j v h => (hk.cell (p := ⟨w.heap.size, j, none⟩) hl).trans h
  replace x1 := hsw _ _ x1
  replace x2 := hsw _ _ x2
  replace x4 := hsw _ _ x4
  replace x5 := hsw _ _ x5
  replace x6 := hsw _ _ x6
  have HB1 := Lib.hid (bnext HB.out (Nat.le_refl _) hk)
  clear hk hsw hl
  cases bn with
  | false =>
    go_wp2_with fail
    go_ret
    exact ⟨by rw [restP_no (.inl HBN.out)]; rfl, HB1.out⟩
  | true =>
    by_cases h2 : 2 < m.q
    · go_wp2_with fail
      go_ret
      exact ⟨by rw [restP_no (.inr h2)]; rfl, HB1.out⟩
    · have HR := Lib.hid (restP_yes HBN.out (by omega))
      by_cases h0 : 0 < m.q
      · have hid : idOf m = 1 := by unfold idOf; rw [if_pos h0]
        rw [hid] at x4
        go_wp2_with fail
        go_ret
        exact ⟨by rw [HR.out, if_pos h0]; rfl, HB1.out⟩
      · have hid : idOf m = 0 := by unfold idOf; rw [if_neg h0]
        rw [hid] at x4
        go_wp2_with fail
        go_ret
        exact ⟨by rw [HR.out, if_neg (by omega), Int.add_zero]; rfl, HB1.out⟩
end
section
open Go Go.RowKit

theorem setRow_new (w : World) (cs cs' : Array Value) (T : TypeId) : (w.alloc (.cells cs T)).setRow w.heap.size cs' = w.alloc (.cells cs' T) := by
  unfold World.setRow World.alloc
  congr 1
  apply Array.ext
  · simp
  · intro i h1 h2
    simp only [Array.getElem_modify, Array.getElem_push]
    simp only [Array.size_modify, Array.size_push] at h1
    by_cases e : w.heap.size = i
    · subst e; simp
    · rw [if_neg e]
      have : i < w.heap.size := by omega
      simp [this]
theorem wpList_store_newTo {P : Program} {ops : Array Oper} {rest : List Oper} {o : Oper} {a : Act} {w0 : World} {Q : Exit → Act → World → Prop} (hgd : o.guard = none) (ty : TypeId) (x y : Operand) (ho : o.op = .store ty x y)
    (hd : o.dst = none) (g : Nat) (hg : g = w0.heap.size) (cells old : Array Value) (hx : a.eval x = .pointer (some ⟨g, 0, none⟩)) (hy : a.eval y = .agg cells)
    (hi : (P.info? ty).map (·.size) = some cells.size) (hold : old.size = cells.size) (h1 : cells.all (·.oneCell') = true)
    (h : wpList P ops Q rest a (w0.alloc (.cells cells ty))) : wpList P ops Q (o :: rest) a (w0.alloc (.cells old ty)) := by
  subst hg
  refine wpList_store_rowTo hgd ty x y ho hd w0.heap.size cells hx hy ty old (heap_alloc_new w0 _) hi hold h1 ?_
  rw [setRow_new]
  exact h
theorem wpList_buildBy {P : Program} {ops : Array Oper} {rest : List Oper} {o : Oper} {a : Act} {w : World} {Q : Exit → Act → World → Prop} (hg : o.guard = none) (t : TypeId) (parts : Array (Nat × Operand)) (ho : o.op = .build t parts)
    (d : Option Tmp) (hd : o.dst = d) (cells : Array Value) (ps : List (Nat × Value)) (hps : (parts.map fun (i, x) => (i, a.eval x)).toList = ps) (hf : P.built t ps = some cells)
    (h : wpList P ops Q rest (a.put d (.agg cells)) w) : wpList P ops Q (o :: rest) a w :=
  wpList_buildTo hg t parts ho d hd cells (by rw [hps]; exact hf) h
/-- an operation that is wanted, guarded or not -/
theorem wpList_ask {P : Program} {ops : Array Oper} {rest : List Oper} {o : Oper} {a : Act} {w : World} {Q : Exit → Act → World → Prop} (hw : Region.wanted o (yielded ops a.tmps) = true)
    (h : ∀ K : Act → World → Prop, (∀ a w, wpList P ops Q rest a w → K a w) → o.wp P a w K Q) : wpList P ops Q (o :: rest) a w :=
  wpList_step fun K hK => by rw [if_pos hw]; exact h K hK
theorem wpList_buildG {P : Program} {ops : Array Oper} {rest : List Oper} {o : Oper} {a : Act} {w : World} {Q : Exit → Act → World → Prop} (hw : Region.wanted o (yielded ops a.tmps) = true) (t : TypeId) (parts : Array (Nat × Operand)) (ho : o.op = .build t parts)
    (d : Option Tmp) (hd : o.dst = d) (cells : Array Value) (ps : List (Nat × Value)) (hps : (parts.map fun (i, x) => (i, a.eval x)).toList = ps) (hf : P.built t ps = some cells)
    (h : wpList P ops Q rest (a.put d (.agg cells)) w) : wpList P ops Q (o :: rest) a w := by
  subst hd hps
  refine wpList_ask hw fun K hK => wp_build t parts ho (by rw [hf]; rfl) (hK _ _ ?_)
  rw [hf]
  exact h
theorem wpList_loadG {P : Program} {ops : Array Oper} {rest : List Oper} {o : Oper} {a : Act} {w : World} {Q : Exit → Act → World → Prop} (hw : Region.wanted o (yielded ops a.tmps) = true) (ty : TypeId) (x : Operand) (ho : o.op = .load ty x)
    (g : Nat) (hx : a.eval x = .pointer (some ⟨g, 0, none⟩)) (t : TypeId) (cs : Array Value) (fr : Nat × Nat) (d : TypeDesc) (hg : w.heap[g]? = some (.cells cs t fr))
    (hu : P.underlying ty = some d) (hd : (match d with | .struct _ | .array _ _ => true | _ => false) = true) (hi : (P.info? ty).map (·.size) = some cs.size)
    (h : wpList P ops Q rest (a.put o.dst (.agg cs)) w) : wpList P ops Q (o :: rest) a w :=
  wpList_ask hw fun _ hK => wp_load_row ty x ho g hx t cs fr d hg hu hd hi (hK _ _ h)
end
section
open Go Go.RowKit

def flatC (x : Pkt) : List Value := [.int .u8 x.ty, .int .u8 x.qos, .int .u8 x.level, .int .u8 x.code, .bool x.dup, .bool x.retain, .bool x.clean, .bool x.hasWill, .bool x.hasUser, .bool x.hasPass, .bool x.present, .int .u16 x.id, .int .u16 x.keep, .string x.topic, .string x.payload, .string x.client, .string x.user, .string x.pass, .string x.codes, .string x.will.t, .string x.will.p, .int .u8 x.will.q, .bool x.will.r]
theorem pk_cells2 {w : World} {b : Nat} {x : Pkt} (h : w.heap[b]? = some (.cells x.cells.toArray 37 (0, 0))) :
    w.cell? ⟨b, 7, none⟩ = some (.int .u8 x.level) ∧ w.cell? ⟨b, 8, none⟩ = some (.bool x.clean) ∧ w.cell? ⟨b, 9, none⟩ = some (.int .u16 x.keep) ∧ w.cell? ⟨b, 10, none⟩ = some (.string x.client) ∧ w.cell? ⟨b, 11, none⟩ = some (.bool x.hasWill) ∧
      w.cell? ⟨b, 12, none⟩ = some (.string x.will.t) ∧ w.cell? ⟨b, 13, none⟩ = some (.string x.will.p) ∧ w.cell? ⟨b, 14, none⟩ = some (.int .u8 x.will.q) ∧ w.cell? ⟨b, 15, none⟩ = some (.bool x.will.r) ∧ w.cell? ⟨b, 16, none⟩ = some (.bool x.hasUser) ∧ w.cell? ⟨b, 17, none⟩ = some (.bool x.hasPass) ∧
      w.cell? ⟨b, 18, none⟩ = some (.string x.user) ∧ w.cell? ⟨b, 19, none⟩ = some (.string x.pass) ∧ w.cell? ⟨b, 20, none⟩ = some (.bool x.present) ∧ w.cell? ⟨b, 21, none⟩ = some (.int .u8 x.code) ∧ w.cell? ⟨b, 22, none⟩ = some (.slice x.subsA x.subs.length x.subsC) ∧ w.cell? ⟨b, 23, none⟩ = some (.string x.codes) :=
  ⟨cell_of_row w b 7 _ _ _ h, cell_of_row w b 8 _ _ _ h, cell_of_row w b 9 _ _ _ h, cell_of_row w b 10 _ _ _ h, cell_of_row w b 11 _ _ _ h, cell_of_row w b 12 _ _ _ h, cell_of_row w b 13 _ _ _ h, cell_of_row w b 14 _ _ _ h, cell_of_row w b 15 _ _ _ h, cell_of_row w b 16 _ _ _ h, cell_of_row w b 17 _ _ _ h, cell_of_row w b 18 _ _ _ h, cell_of_row w b 19 _ _ _ h, cell_of_row w b 20 _ _ _ h, cell_of_row w b 21 _ _ _ h, cell_of_row w b 22 _ _ _ h, cell_of_row w b 23 _ _ _ h⟩
def flatPs (x : Pkt) : List (Nat × Value) := [(0, .int .u8 x.ty), (1, .int .u8 x.qos), (2, .int .u8 x.level), (3, .int .u8 x.code), (4, .bool x.dup), (5, .bool x.retain), (6, .bool x.clean), (7, .bool x.hasWill), (8, .bool x.hasUser), (9, .bool x.hasPass), (10, .bool x.present), (11, .int .u16 x.id), (12, .int .u16 x.keep), (13, .string x.topic), (14, .string x.payload), (15, .string x.client), (16, .string x.user), (17, .string x.pass), (18, .string x.codes), (19, .agg #[.string x.will.t, .string x.will.p, .int .u8 x.will.q, .bool x.will.r])]
theorem built_flat (x : Pkt) : Tryz.prog.built 133 (flatPs x) = some (flatC x).toArray := by
  obtain ⟨p0, p1, p2, p3, p4, p5, p6, p7, p8, p9, p10, p11, ⟨m0, m1, m2, m3⟩, p13, p14, p15, p16, p17, p18, p19, p20, p21, p22⟩ := x
  kernel_rfl
theorem flat_size (x : Pkt) : (Tryz.prog.info? 133).map (·.size) = some (flatC x).toArray.size := show _ = some 23 by kernel_rfl
theorem flat_one (x : Pkt) : (flatC x).toArray.all (·.oneCell') = true := by simp [flatC, Value.oneCell']
set_option maxRecDepth 100000 in
set_option maxHeartbeats 2000000 in
theorem plain_any (x : Pkt) (w : World) : Calls Tryz.prog 90 #[.agg x.cells.toArray] w fun e w' => e = .returned (.agg (flatC x).toArray) ∧ Below w.heap.size w w' := by
  have hX := heap_alloc_new w (.cells x.cells.toArray 37)
  have hb1 := low_alloc w (.cells x.cells.toArray 37)
  have hs1 : (w.alloc (.cells x.cells.toArray 37)).heap.size = w.heap.size + 1 := by simp
  have HXO := Lib.hid (fun o => ((low_alloc (w.alloc (.cells x.cells.toArray 37)) o).block w.heap.size (by omega)).trans hX)
  have HBU := Lib.hid (fun (_ : Unit) => built_flat x)
  have HFS := Lib.hid (flat_size x)
  have HF1 := Lib.hid (flat_one x)
  have HF23 : Hid ((23 : Nat) = (flatC x).toArray.size) := Lib.hid rfl
  have HB1 := Lib.hid hb1
  have hX2 := HXO.out (.cells #[.int .u8 0, .int .u8 0, .int .u8 0, .int .u8 0, .bool false, .bool false, .bool false, .bool false, .bool false, .bool false, .bool false, .int .u16 0, .int .u16 0, .string ⟨#[]⟩, .string ⟨#[]⟩, .string ⟨#[]⟩, .string ⟨#[]⟩, .string ⟨#[]⟩, .string ⟨#[]⟩, .string ⟨#[]⟩, .string ⟨#[]⟩, .int .u8 0, .bool false] 133)
  obtain ⟨y0, y1, y2, y3, y4, y5, y6⟩ := pk_cells hX2
  obtain ⟨y7, y8, y9, y10, y11, y12, y13, y14, y15, y16, y17, y18, y19, y20, y21, y22, y23⟩ := pk_cells2 hX2
  clear hX hX2 HXO hb1 hs1 y22
  generalize hFC : (flatC x).toArray = FC at *
  go_enter Tryz.func90, Tryz.ntmps90
  go_wp2_with (first
    | (refine wpList_buildBy rfl 133 _ rfl _ rfl FC [(0, .int .u8 x.ty), (1, .int .u8 x.qos), (2, .int .u8 x.level), (3, .int .u8 x.code), (4, .bool x.dup), (5, .bool x.retain), (6, .bool x.clean), (7, .bool x.hasWill), (8, .bool x.hasUser), (9, .bool x.hasPass), (10, .bool x.present), (11, .int .u16 x.id), (12, .int .u16 x.keep), (13, .string x.topic), (14, .string x.payload), (15, .string x.client), (16, .string x.user), (17, .string x.pass), (18, .string x.codes), (19, .agg #[.string x.will.t, .string x.will.p, .int .u8 x.will.q, .bool x.will.r])] (by kernel_rfl) (HBU.out ()) ?_)
    | (refine wpList_store_newTo rfl 133 _ _ rfl rfl (w.heap.size + 1) (by simp) FC _ rfl rfl HFS.out HF23.out HF1.out ?_)
    | fail)
  refine bodyPost_ret (results_cell_row rfl _ _ (w.heap.size + 1) 133 FC (0, 0) _ rfl ?_ Tryz.underlying133 rfl HFS.out) rfl ⟨rfl, bnext HB1.out (Nat.le_refl _) (low_alloc _ _)⟩
  have h9 := heap_alloc_new (w.alloc (.cells x.cells.toArray 37)) (.cells FC 133)
  rwa [World.size_alloc] at h9
end
section
open Go Go.RowKit

set_option maxRecDepth 100000 in
set_option maxHeartbeats 2000000 in
theorem flat_eql (x : Pkt) (w : World) : (binOp .eql 133 (.agg (flatC x).toArray) (.agg (flatC x).toArray)).run Tryz.prog w = .ok (.bool true) w := by
  have hst : Tryz.prog.stoodInHeld 133 = false := by kernel_rfl
  have hgd : Tryz.prog.eqGuardType Tryz.prog.depth 133 = false := by kernel_rfl
  unfold flatC
  go_simp
theorem pk_size (x : Pkt) : (Tryz.prog.info? 37).map (·.size) = some x.cells.toArray.size := show _ = some 24 by kernel_rfl
theorem pk_one (x : Pkt) : x.cells.toArray.all (·.oneCell') = true := by simp [Pkt.cells, Msg.cells, Value.oneCell']
end
end Go.Proofs.YtmkhagmjpbfieaaGreatDoor
