/- The log: New, Add, Len, All walked. The log: Len, All walked. -/
import Derived.Test.YthfdcphecggjeaaGreatDoorQT
import Derived.Deep.MidRow
import Derived.Test.YthfdcphecggjeaaGreatDoorQD
namespace Go.Proofs.YthfdcphecggjeaaGreatDoor
section
open Go Go.RowKit

def noteZ : Note := ⟨0, 0, 0, ⟨#[]⟩, pkZ, Msg.zero, ⟨#[]⟩, false, 0⟩
theorem T_note : ElemT Tryz.prog 58 88 (.agg noteZ.cells.toArray) 35 304 := ⟨Tryz.underlying58, by kernel_rfl, by kernel_rfl, by decide⟩
theorem range_blk {w : World} {b : Nat} {cs : List Value} {T : TypeId} {fr : Nat × Nat} (h : w.heap[b]? = some (.cells cs.toArray T fr)) : w.rangeAt b 0 cs := fun j v hj => by rw [Nat.zero_add, cell_of_row _ _ _ _ _ _ h]; simpa using hj
/-- a struct is loaded whole, in a region that draws its order -/
theorem exec_load_row {P : Program} {ev : Operand → Value} {o : Oper} {w : World} {ty : TypeId} {x : Operand} {b i : Nat} {cs : List Value} {d : TypeDesc} (ho : o.op = .load ty x) (hx : ev x = .pointer (some ⟨b, i, none⟩)) (hc : w.rangeAt b i cs)
    (hu : P.underlying ty = some d) (hd : d.isRow = true) (hi : (P.info? ty).map (·.size) = some cs.length) : (execOp ev o).run P w = .ok (Next.value (.agg cs.toArray)) w := by
  unfold execOp
  simp only [ho, hx, Instr.loadAt, Instr.sureAddr, Sem.run_bind, Sem.run_pure, Result.andThen_ok, run_loadVar_mid w b i ty cs d hc hu hd hi]
/-- a row of one struct is built, whatever the struct has -/
def Build1 (P : Program) (T e : TypeId) (NL : List Value) : Prop := ∀ (o : Oper) (a : Act) (w : World) (K : Act → World → Prop) (Q : Exit → Act → World → Prop) (x : Operand), o.op = .buildSlice T 1 #[(0, x)] → a.eval x = .agg NL.toArray →
  K (a.put o.dst (.slice (some ⟨w.heap.size, 0, none⟩) 1 1)) (w.alloc (.cells NL.toArray e)) → o.wp P a w K Q
theorem build_note (n : Note) : Build1 Tryz.prog 58 88 n.cells := by
  intro o a w K Q x ho hx h
  obtain ⟨i, hi, hz0, hz1, hz2⟩ := info_parts T_note.hi
  refine wp_buildSlice 58 88 1 _ ho n.cells.toArray i _ Tryz.underlying58 hi hz0 (by rw [hz1]; decide) (by rw [hz1]; decide) ?_ h
  rw [hz1]
  simp only [List.map_toArray, List.map_cons, List.map_nil, hx]
  clear hx h ho hi hz0 hz1 hz2
  obtain ⟨ki, op, co, cl, ⟨p0, p1, p2, p3, p4, p5, p6, p7, p8, p9, p10, p11, ⟨m0, m1, m2, m3⟩, p13, p14, p15, p16, p17, p18, p19, p20, p21, p22⟩, ⟨n0, n1, n2, n3⟩, cs, pr, qo⟩ := n
  kernel_rfl
set_option maxRecDepth 100000 in
set_option maxHeartbeats 4000000 in
theorem log_add (k : NoteK) (lv : Value) (ns : List NoteK) (G : List Nat) (w : World) (h : LogAt w lv ns G) (hl : ns.length ≤ 10000) :
    Calls Tryz.prog 74 #[lv, .agg k.note.cells.toArray] w fun e w' => ∃ i : Int, e = .returned (.int .i64 i) ∧ ∃ G', LogAt w' lv (ns ++ [k]) G' ∧ Upd G G' w w' := by
  rcases h with ⟨rfl, rfl⟩ | ⟨lg, v, rfl, hlg, hown, hne, rfl⟩
  · generalize k.note.cells.toArray = NC
    go_enter Tryz.func74, Tryz.ntmps74
    go_wp2_with fail
    go_ret
    exact ⟨_, rfl, [], .inl ⟨rfl, rfl⟩, Mod.of_below ((Below.refl _ _).alloc (Nat.le_refl _) _) _, by simp⟩
  · obtain ⟨a, cp, rfl, -, -, -⟩ := ownsRow_row hown
    have hbw := low_alloc w (.cells k.note.cells.toArray 88)
    have hnb := heap_alloc_new w (.cells k.note.cells.toArray 88)
    have hlg1 := (hbw.block lg (Array.getElem?_eq_some_iff.1 hlg).1).trans hlg
    have hown1 := hown.alloc (.cells k.note.cells.toArray 88)
    have HOW := Lib.hid (fun W => own_any k.note W rfl rfl rfl)
    have HLS : Hid ((Tryz.prog.info? 88).map (·.size) = some k.note.cells.length) := Lib.hid (by kernel_rfl)
    have HNC : Hid (notesK ns ++ k.note.cells = notesK (ns ++ [k])) := Lib.hid (by simp [notesK])
    have HNL : Hid (k.note.cells.toArray.toList = k.note.cells) := Lib.hid (by simp)
    have H35 : Hid (k.note.cells.toArray.size = 1 * 35) := Lib.hid rfl
    have H1 : Hid (∀ u ∈ k.note.cells.toArray.toList, u.oneCell' = true) := Lib.hid (by
      have := note_one k.note
      rw [Array.all_eq_true_iff_forall_mem] at this
      exact fun u hu => this u (by simpa using hu))
    have HBS := Lib.hid (build_note k.note)
    have HKC : Hid ((notesK ns ++ k.note.cells.toArray.toList) = notesK (ns ++ [k])) := Lib.hid (by rw [HNL.out, HNC.out])
    generalize k.note.cells = NL at *
    have HS : Hid (∀ X : World, X.heap[lg]? = w.heap[lg]? → X.heap[w.heap.size]? = some (.cells NL.toArray 88 (0, 0)) → X.cell? ⟨lg, 0, none⟩ = some (.slice a ns.length cp) ∧ X.rangeAt w.heap.size 0 NL) := Lib.hid (fun X h1 h2 => ⟨cell_of_row X lg 0 _ _ _ (h1.trans hlg), range_blk h2⟩)
    have HNE : Hid (∀ j, (Value.slice a ns.length cp).ownBlock = some j → j ≠ lg ∧ j < w.heap.size) := Lib.hid (fun j hj => ⟨fun e => hne (by rw [hj, e]), (hown.lt j hj).2⟩)
    have hlgl := (Array.getElem?_eq_some_iff.1 hlg).1
    have HLG := Lib.hid hlg
    have HW1 := Lib.hid hbw
    have HOWN := Lib.hid hown
    have HNB := Lib.hid hnb
    have HLG1 := Lib.hid hlg1
    clear hlg hown hown1 hnb hlg1 HNC HNL hbw hne
    go_enter Tryz.func74, Tryz.ntmps74
    go_wp2_with fail
    obtain ⟨w1, hw1⟩ : ∃ w1, w.alloc (.cells NL.toArray 88) = w1 := ⟨_, rfl⟩
    rw [hw1] at HNB HLG1 HW1 ⊢
    have hsz1 : w1.heap.size = w.heap.size + 1 := by rw [← hw1]; simp
    clear hw1
    refine wp_region_tail (S := fun X => X.cell? ⟨lg, 0, none⟩ = some (.slice a ns.length cp) ∧ X.rangeAt w.heap.size 0 NL) 11 (by kernel_rfl) (HS.out _ (HLG1.out.trans HLG.out.symm) HNB.out) (fun hHeld => ?_)
    refine wpTail.take (i := 0) (v := ?_) rfl (by kernel_rfl) (by kernel_rfl) (by kernel_rfl) (by kernel_rfl) (by kernel_rfl) (fun _ _ _ h => h) (Or.inl ⟨rfl, ?_⟩) hHeld ?_
    rotate_left
    · intro w0 hS0
      try dsimp only at hS0
      go_simp
      try with_reducible rfl
    simp only [List.getElem_toArray, List.getElem_cons_zero, Act.put, List.setIfInBounds_toArray, List.set_cons_zero, List.set_cons_succ]
    refine wpTail.take (i := 1) (v := ?_) rfl (by kernel_rfl) (by kernel_rfl) (by kernel_rfl) (by kernel_rfl) (by kernel_rfl) (fun _ _ _ h => h) (Or.inl ⟨rfl, ?_⟩) hHeld ?_
    rotate_left
    · intro w0 hS0
      try dsimp only at hS0
      go_simp
      try with_reducible rfl
    simp only [List.getElem_toArray, List.getElem_cons_zero, List.getElem_cons_succ, Act.put, List.setIfInBounds_toArray, List.set_cons_zero, List.set_cons_succ]
    refine wpTail.take (i := 2) (v := ?_) rfl (by kernel_rfl) (by kernel_rfl) (by kernel_rfl) (by kernel_rfl) (by kernel_rfl) (fun _ _ _ h => h) (Or.inl ⟨rfl, ?_⟩) hHeld ?_
    rotate_left
    · intro w0 hS0
      try dsimp only at hS0
      go_simp
      try with_reducible rfl
    simp only [List.getElem_toArray, List.getElem_cons_zero, List.getElem_cons_succ, Act.put, List.setIfInBounds_toArray, List.set_cons_zero, List.set_cons_succ]
    refine wpTail.take (i := 3) (v := ?_) rfl (by kernel_rfl) (by kernel_rfl) (by kernel_rfl) (by kernel_rfl) (by kernel_rfl) (fun _ _ _ h => h) (Or.inl ⟨rfl, ?_⟩) hHeld ?_
    rotate_left
    · intro w0 hS0
      try dsimp only at hS0
      go_simp
      try with_reducible rfl
    simp only [List.getElem_toArray, List.getElem_cons_zero, List.getElem_cons_succ, Act.put, List.setIfInBounds_toArray, List.set_cons_zero, List.set_cons_succ]
    refine wpTail.take (i := 4) (v := ?_) rfl (by kernel_rfl) (by kernel_rfl) (by kernel_rfl) (by kernel_rfl) (by kernel_rfl) (fun _ _ _ h => h) (Or.inl ⟨rfl, ?_⟩) hHeld ?_
    rotate_left
    · intro w0 hS0
      try dsimp only at hS0
      go_simp
      try with_reducible rfl
    simp only [List.getElem_toArray, List.getElem_cons_zero, List.getElem_cons_succ, Act.put, List.setIfInBounds_toArray, List.set_cons_zero, List.set_cons_succ]
    refine wpTail.take (i := 5) (v := .agg NL.toArray) rfl (by kernel_rfl) (by kernel_rfl) (by kernel_rfl) (by kernel_rfl) (by kernel_rfl) (fun _ _ _ h => h) (Or.inl ⟨rfl, ?_⟩) hHeld ?_
    · intro w0 hS0
      exact exec_load_row rfl rfl hS0.2 Tryz.underlying88 rfl HLS.out
    simp only [List.getElem_toArray, List.getElem_cons_zero, List.getElem_cons_succ, Act.put, List.setIfInBounds_toArray, List.set_cons_zero, List.set_cons_succ]
    refine wpTail.ready (rs := [6]) (by kernel_rfl) (by simp) ?_
    refine AllTail.cons rfl (fun K hK => ?_) AllTail.nil
    rw [if_pos (by rfl)]
    go_simp
    go_at_call 72
    refine (HOW.out _).mono ?_
    rintro e w3 ⟨rfl, hk3⟩
    have hb3 : Below w1.heap.size w1 w3 := (Below.refl w1.heap.size w1).drew.trans hk3
    refine hK.out _ _ (fun _ => HS.out _ ((hb3.block lg (by omega)).trans (HLG1.out.trans HLG.out.symm)) ((hb3.block w.heap.size (by omega)).trans HNB.out)) (fun hHeld => ?_)
    replace hHeld := hHeld (by decide)
    have hs3 := hb3.size
    have HB3 := Lib.hid hb3
    clear hk3 hb3
    refine wpTail.ready (rs := [7]) (by kernel_rfl) (by simp) ?_
    refine AllTail.cons rfl (fun K hK => ?_) AllTail.nil
    rw [if_pos (by rfl)]
    refine HBS.out _ _ _ _ _ _ rfl rfl ?_
    have HB4 : Hid (Below w1.heap.size w1 (w3.alloc (.cells NL.toArray 88))) := Lib.hid (HB3.out.alloc hs3 _)
    refine hK.out _ _ (fun _ => HS.out _ ((HB4.out.block lg (by omega)).trans (HLG1.out.trans HLG.out.symm)) ((HB4.out.block w.heap.size (by omega)).trans HNB.out)) (fun hHeld => ?_)
    replace hHeld := hHeld (by decide)
    have HO3 := Lib.hid (ownsRow_local (w' := w3) HOWN.out fun j hj => (HB3.out.block j (by have := (HNE.out j hj).2; omega)).trans (HW1.out.block j (HNE.out j hj).2))
    refine wpTail.ready (rs := [8]) (by kernel_rfl) (by simp) ?_
    refine AllTail.cons rfl (fun K hK => ?_) AllTail.nil
    refine step_app (m := 1) T_note (HO3.out.alloc _) (heap_alloc_new w3 _) rfl rfl rfl rfl H35.out (by omega) H1.out ?_ ?_ ?_ ?_
    · omega
    · omega
    · exact Nat.zero_le _
    intro g cap w6 hown6 hgr6 hg6 hgl6
    have hm6 : Mod (lg :: (Value.slice a ns.length cp).ownBlock.toList) w w6 := ((((Mod.of_below HW1.out _).trans (Mod.of_below HB3.out (lg :: (Value.slice a ns.length cp).ownBlock.toList)) (fun k hk => .inl hk)).alloc _).grown hgr6 (fun j hj => .inl (List.mem_cons_of_mem _ (Option.mem_toList.2 hj))))
    have hks : ∀ j, j < w3.heap.size → (j = lg ∨ j = w.heap.size) → w6.heap[j]? = w3.heap[j]? := fun j hj hor => by
      rw [hgr6.block j (by simp; omega) (fun e => by
        obtain ⟨e1, e2⟩ := HNE.out j e.symm
        rcases hor with h | h
        · exact e1 h
        · omega)]
      exact Below.heap_alloc _ _ _ hj
    have h6l : w6.heap[lg]? = w.heap[lg]? := (hks lg (by omega) (.inl rfl)).trans ((HB3.out.block lg (by omega)).trans (HLG1.out.trans HLG.out.symm))
    refine hK.out _ _ (fun _ => HS.out _ h6l ((hks w.heap.size (by omega) (.inr rfl)).trans ((HB3.out.block w.heap.size (by omega)).trans HNB.out))) (fun hHeld => ?_)
    replace hHeld := hHeld (by decide)
    have h6g := h6l.trans HLG.out
    have fz6 := frozen_of_row _ _ 0 _ _ h6g
    have h7 := heap_setCell_same w6 lg 0 _ _ (.slice (some ⟨g, 0, none⟩) (ns.length + 1) cap) h6g
    have h7c := cell_of_row _ _ 0 _ _ _ h7
    have hgn : g ≠ lg := fun e => by
      rcases hg6 with h | h
      · exact (HNE.out g h).1 e
      · simp at h; omega
    rw [HKC.out] at hown6
    have HQ : Hid (∃ G', LogAt (w6.setCell ⟨lg, 0, none⟩ (.slice (some ⟨g, 0, none⟩) (ns.length + 1) cap)) (.pointer (some ⟨lg, 0, none⟩)) (ns ++ [k]) G' ∧ Upd (lg :: (Value.slice a ns.length cp).ownBlock.toList) G' w (w6.setCell ⟨lg, 0, none⟩ (.slice (some ⟨g, 0, none⟩) (ns.length + 1) cap))) := Lib.hid
      ⟨[lg, g], .inr ⟨lg, .slice (some ⟨g, 0, none⟩) (ns.length + 1) cap, rfl, h7, by
        rw [List.length_append]
        exact ownsRow_local hown6 fun j hj => heap_setCell_other w6 _ _ _ (by
          obtain rfl : g = j := by simpa [Value.ownBlock] using hj
          exact hgn), by simp [Value.ownBlock, hgn], rfl⟩, hm6.setCell (.inl (by simp)) _, fun j hj => by
        simp only [List.mem_cons, List.not_mem_nil, or_false] at hj
        rcases hj with rfl | rfl
        · exact .inl (by simp)
        · rcases hg6 with h | h
          · exact .inl (List.mem_cons_of_mem _ (Option.mem_toList.2 h))
          · right; simp at h; omega⟩
    clear hown6 hgr6 hg6 hgl6 hm6 hks h6l h7 hgn
    refine wpTail.take (i := 9) (v := ?_) rfl (by kernel_rfl) (by kernel_rfl) (by kernel_rfl) (by kernel_rfl) (by kernel_rfl) (fun _ _ _ h => h) (Or.inl ⟨rfl, ?_⟩) hHeld ?_
    rotate_left
    · intro w0 hS0
      try dsimp only at hS0
      go_simp
      try with_reducible rfl
    simp only [List.getElem_toArray, List.getElem_cons_zero, List.getElem_cons_succ, Act.put, List.setIfInBounds_toArray, List.set_cons_zero, List.set_cons_succ]
    refine wpTail.take (i := 10) (v := ?_) rfl (by kernel_rfl) (by kernel_rfl) (by kernel_rfl) (by kernel_rfl) (by kernel_rfl) (fun _ _ _ h => h) (Or.inl ⟨rfl, ?_⟩) hHeld ?_
    rotate_left
    · intro w0 hS0
      try dsimp only at hS0
      go_simp
      try with_reducible rfl
    simp only [List.getElem_toArray, List.getElem_cons_zero, List.getElem_cons_succ, Act.put, List.setIfInBounds_toArray, List.set_cons_zero, List.set_cons_succ]
    refine wpTail.ready (rs := [11]) (by kernel_rfl) (by simp) ?_
    refine AllTail.cons rfl (fun K hK => ?_) AllTail.nil
    rw [if_pos (by rfl)]
    go_simp
    refine hK.out _ _ (fun h => absurd rfl h) (fun _ => ?_)
    refine wpTail.done (by kernel_rfl) ?_ _
    go_wp2_with fail
    go_ret
    exact ⟨_, rfl, HQ.out⟩
end
section
open Go Go.RowKit

/-- the k-th of a row of structs -/
theorem row_mid {α : Type} {mk : α → List Value} {m : Nat} (hm : ∀ a, (mk a).length = m) {w : World} {a : Option Addr} {l : List α} (h : Row w a (l.flatMap mk)) {k : Nat} (hk : k < l.length) (hpos : 0 < m) : ∃ b o, a = some ⟨b, o, none⟩ ∧ w.rangeAt b (o + k * m) (mk l[k]) := by
  have hat : ∀ j, j < m → (l.flatMap mk)[k * m + j]? = (mk l[k])[j]? := fun j hj => by
    rw [flatMap_at hm l k j hj, List.getElem?_eq_getElem hk]; rfl
  rcases h with h | ⟨b, o, rfl, hc⟩
  · have h1 := hat 0 hpos
    rw [h, List.getElem?_eq_getElem (l := mk l[k]) (by rw [hm]; exact hpos)] at h1
    simp at h1
  · refine ⟨b, o, rfl, fun j v hj => ?_⟩
    have hjm : j < m := by have := (List.getElem?_eq_some_iff.1 hj).1; rw [hm] at this; exact this
    have := hc (k * m + j) v (by rw [hat j hjm]; exact hj)
    rwa [← Nat.add_assoc] at this
theorem wpList_build1 {P : Program} {T e : TypeId} {NL : List Value} (hB : Build1 P T e NL) {ops : Array Oper} {rest : List Oper} {o : Oper} {a : Act} {w : World} {Q : Exit → Act → World → Prop} (hg : o.guard = none) (x : Operand) (ho : o.op = .buildSlice T 1 #[(0, x)]) (hx : a.eval x = .agg NL.toArray)
    (d : Option Tmp) (hd : o.dst = d) (nb : Nat) (hnb : w.heap.size = nb) (h : wpList P ops Q rest (a.put d (.slice (some ⟨nb, 0, none⟩) 1 1)) (w.alloc (.cells NL.toArray e))) : wpList P ops Q (o :: rest) a w := by
  subst hd hnb
  exact wpList_plain hg fun K hK => hB o a w K Q x ho hx (hK _ _ h)
theorem wpList_loadMid {P : Program} {ops : Array Oper} {rest : List Oper} {op : Oper} {a : Act} {w : World} {Q : Exit → Act → World → Prop} (hgd : op.guard = none) (ty : TypeId) (x : Operand) (ho : op.op = .load ty x)
    (b o : Nat) (hx : a.eval x = .pointer (some ⟨b, o, none⟩)) (cs : List Value) (d : TypeDesc) (hc : w.rangeAt b o cs)
    (hu : P.underlying ty = some d) (hd : d.isRow = true) (hi : (P.info? ty).map (·.size) = some cs.length) (t : Option Tmp) (ht : op.dst = t)
    (h : wpList P ops Q rest (a.put t (.agg cs.toArray)) w) : wpList P ops Q (op :: rest) a w := by
  subst ht
  exact wpList_load_mid hgd ty x ho b o hx cs d hc hu hd hi h
theorem log_len (lg : Nat) (ns : List NoteK) (G : List Nat) (w : World) (h : LogAt w (.pointer (some ⟨lg, 0, none⟩)) ns G) :
    Calls Tryz.prog 71 #[.pointer (some ⟨lg, 0, none⟩)] w fun e w' => e = .returned (.int .i64 ns.length) ∧ w = w' := by
  rcases h with ⟨h, -⟩ | ⟨lg', v, e, hlg, hown, -, -⟩
  · cases h
  · cases e
    obtain ⟨a, cp, rfl, -, -, -⟩ := ownsRow_row hown
    have c0 := cell_of_row w lg 0 _ _ _ hlg
    simp only [List.getElem?_toArray, List.getElem?_cons_zero] at c0
    clear hlg hown
    go_enter Tryz.func71, Tryz.ntmps71
    go_wp2_with fail
    go_ret
    exact ⟨rfl, rfl⟩
set_option maxRecDepth 100000 in
set_option maxHeartbeats 4000000 in
theorem log_all (lg : Nat) (ns : List NoteK) (G : List Nat) (w : World) (h : LogAt w (.pointer (some ⟨lg, 0, none⟩)) ns G) (hl : ns.length ≤ 10000) :
    Calls Tryz.prog 42 #[.pointer (some ⟨lg, 0, none⟩)] w fun e w' => ∃ v, e = .returned v ∧ w'.ownsRow w.heap.size 88 35 v ns.length (notesK ns) ∧ Below w.heap.size w w' := by
  have HLEN := Lib.hid (log_len lg ns G w h)
  rcases h with ⟨h, -⟩ | ⟨lg', v, e, hlg, hown, -, -⟩
  · cases h
  · cases e
    obtain ⟨a, cp, rfl, -, -, -⟩ := ownsRow_row hown
    have HH : Hid (∀ X, Below w.heap.size w X → X.cell? ⟨lg, 0, none⟩ = some (.slice a ns.length cp) ∧ Row X a (notesK ns)) := Lib.hid (fun X hX => by
      have h1 := (hX.block lg (Array.getElem?_eq_some_iff.1 hlg).1).trans hlg
      obtain ⟨a', c', e, hr, -, -⟩ := ownsRow_row (ownsRow_local hown fun k hk => hX.block k (hown.lt k hk).2)
      cases e
      exact ⟨cell_of_row X lg 0 _ _ _ h1, hr⟩)
    clear hlg hown
    go_enter Tryz.func42, Tryz.ntmps42
    go_wp2_with fail
    refine HLEN.out.mono ?_
    rintro e w1 ⟨rfl, rfl⟩
    go_wp2_with fail
    go_loopw [3, 4, 7] (fun v _ i wr => ∃ k : Nat, i = .int .i64 k ∧ k ≤ ns.length ∧ Below w.heap.size w wr ∧ wr.ownsRow w.heap.size 88 35 v k (notesK (ns.take k))) (fun _ _ i _ => (ns.length - intOf i).toNat)
    case atStart => exact ⟨0, rfl, by omega, Below.refl _ _, by simpa [notesK] using World.ownsRow_nil _ _ _ _⟩
    case round =>
      obtain ⟨k, rfl, hk, hbr, hown⟩ := hrel
      by_cases hlt : k < ns.length
      · have hk0 : (0 : Int) ≤ k := by omega
        have hkl : (k : Int) < ns.length := by omega
        obtain ⟨c0, hrow⟩ := HH.out _ hbr
        obtain ⟨b, o, rfl, hra⟩ := row_mid (mk := fun k : NoteK => k.note.cells) (m := 35) (fun _ => rfl) hrow hlt (by decide)
        have HRA := Lib.hid hra
        have HTK : Hid (notesK (ns.take (k + 1)) = notesK (ns.take k) ++ ns[k].note.cells.toArray.toList) := Lib.hid (by rw [List.take_succ_eq_append_getElem hlt, ← notesK_append]; simp [notesK])
        have HOW := Lib.hid (fun W => own_any ns[k].note W rfl rfl rfl)
        have HBS := Lib.hid (build_note ns[k].note)
        have HLS : Hid ((Tryz.prog.info? 88).map (·.size) = some ns[k].note.cells.length) := Lib.hid (by kernel_rfl)
        have H35 : Hid (ns[k].note.cells.toArray.size = 1 * 35) := Lib.hid rfl
        have H1 : Hid (∀ u ∈ ns[k].note.cells.toArray.toList, u.oneCell' = true) := Lib.hid (by
          have := note_one ns[k].note
          rw [Array.all_eq_true_iff_forall_mem] at this
          exact fun u hu => this u (by simpa using hu))
        generalize ns[k].note.cells = NL at *
        generalize notesK (ns.take k) = V at *
        have HBR := Lib.hid hbr
        have HOWN := Lib.hid hown
        clear hra hrow hbr hown
        go_wp2_with (first
          | (refine wpList_loadMid rfl 88 _ rfl b (o + k * 35) rfl NL _ HRA.out Tryz.underlying88 rfl HLS.out _ rfl ?_)
          | fail)
        refine (HOW.out _).mono ?_
        rintro e w2 ⟨rfl, hk2⟩
        have hb2 := bnext HBR.out (Nat.le_refl _) hk2
        have ho2 := ownsRow_local (w' := w2) HOWN.out fun j hj => hk2.block j (HOWN.out.lt j hj).2
        have hs2 := hb2.size
        clear hk2 HOWN
        go_wp2_with (first
          | (refine wpList_build1 HBS.out rfl _ rfl rfl _ rfl w2.heap.size rfl ?_)
          | (at_builtin; refine wpList_app (m := 1) T_note ho2 hb2 hs2 rfl rfl rfl rfl H35.out H1.out (by omega) (by omega) ?_; intro v' w8 hown' hbel3 hsz3 hlt3; have HOW8 := Lib.hid hown'; have HBL8 := Lib.hid hbel3; clear hown' hbel3 hsz3 hlt3 ho2 hb2 hs2; go_frame)
          | fail)
        go_roundw
        case rel => exact ⟨k + 1, by go_num, by omega, HBL8.out, by rw [HTK.out]; exact HOW8.out⟩
        case measure => simp [intOf]; omega
      · have hkl : ¬ (k : Int) < ns.length := by omega
        obtain rfl : k = ns.length := by omega
        rw [List.take_length] at hown
        have HOWN := Lib.hid hown
        have HBR := Lib.hid hbr
        clear hown hbr
        go_wp2_with fail
        go_ret
        exact ⟨_, rfl, HOWN.out, HBR.out⟩
end
end Go.Proofs.YthfdcphecggjeaaGreatDoor
