/- The model: Apply walked, one text for each kind of note. The model: Apply walked, of a session. The model: Apply walked, of a session's own connection. -/
import Derived.Test.YthfeckndkmhieaaGreatDoorMConn
namespace Go.Proofs.YthfeckndkmhieaaGreatDoor
section
open Go Go.RowKit Go.Maps

theorem lie_below {F F' : List Nat} {w w1 w2 : World} {B : Nat} (hb : Below B w w1) (hB : B ≤ w.heap.size) (hF : ∀ k ∈ F, B ≤ k) (hu : Upd F F' w1 w2) : Below B w w2 ∧ ∀ k ∈ F', B ≤ k :=
  ⟨hb.trans (hu.1.below (Nat.le_trans hB hb.size) hF), fun k hk => by
    rcases hu.2 k hk with h | h
    · exact hF k h
    · have := hb.size; omega⟩
/-- what Apply answers, and leaves -/
def ApplyQ (m N : Nat) (s : MS) (F : List Nat) (n : Note) (w : World) (e : Ending) (w' : World) : Prop :=
  e = .returned (.tuple #[.string ⟨(applyM n s).1.1.toArray⟩, .bool (applyM n s).1.2.1, .bool (applyM n s).1.2.2]) ∧ ∃ F', MRep w' m (N + 1) (applyM n s).2 F' ∧ Upd F F' w w'
theorem setB_no {x : Msg} {l : List Msg} (h : mayB x = false) : setB x l = l := by unfold setB; rw [h]; rfl
theorem setB_yes {x : Msg} {l : List Msg} (h : mayB x = true) : setB x l = setM x l := by unfold setB; rw [h]; rfl
theorem eqmap (w : World) (r : Option Nat) : (binOp .eql 42 (.map r) (.map none)).run Tryz.prog w = .ok (.bool r.isNone) w := run_eql_map_nil w _ _ _ r Tryz.underlying42
set_option maxRecDepth 100000 in
set_option maxHeartbeats 2000000 in
theorem mapply_keeps (m N : Nat) (s : MS) (F : List Nat) (n : Note) (w : World) (h : MRep w m N s F) (hT : Tabs w) (hn : NoteOk n) (hk : n.kind = 5) (hl : s.kept.length < 1000000) :
    Calls Tryz.prog 19 #[.pointer (some ⟨m, 0, none⟩), .agg n.cells.toArray] w (ApplyQ m N s F n w) := by
  have HE : Hid (applyM n s = (([], false, mayB n.msg), ⟨s.seats, setB n.msg s.kept⟩)) := Lib.hid (by unfold applyM; rw [if_pos hk])
  obtain ⟨sb, kg, KF, bl, h, rfl⟩ := h
  have hnew := heap_alloc_new w (.cells n.cells.toArray 32)
  have hba := (Below.refl w.heap.size w).alloc (Nat.le_refl _) (.cells n.cells.toArray 32)
  have h1 := h.mod (Mod.of_below hba []) (by simp)
  obtain ⟨n0, -, -, -, -, -, n28, n29, n30, n31⟩ := note_cell hnew
  have c0 := cell_of_row _ m 0 _ _ _ h1.top
  have c1 := cell_of_row _ m 1 _ _ _ h1.top
  simp only [List.getElem?_toArray, List.getElem?_cons_zero, List.getElem?_cons_succ] at c0 c1
  have HB := Lib.hid hba
  have HZ := Lib.hid (show w.heap.size < (w.alloc (.cells n.cells.toArray 32)).heap.size by simp)
  have eqn := eqmap
  clear hnew
  go_enter Tryz.func19, Tryz.ntmps19
  go_wp2_with fail
  generalize w.alloc (.cells n.cells.toArray 32) = w1 at *
  have HS : Hid (Calls Tryz.prog 40 #[.pointer (some ⟨kg, 0, none⟩), .agg #[.string n.msg.t, .string n.msg.p, .int .u8 n.msg.q, .bool n.msg.r]] w1.drew fun e w' => e = .returned (.bool (mayB n.msg)) ∧ ∃ KF', KRep w' kg (setB n.msg s.kept) KF' ∧ Upd KF KF' w1.drew w') := Lib.hid (by
    have hT1 : Tabs w1.drew := hT.below hba.drew
    cases hm : mayB n.msg with
    | false =>
      refine (kset_no kg n.msg _ hT1 hn.topic hn.q0 hn.q1 hm).mono ?_
      rintro e w' ⟨rfl, hk⟩
      exact ⟨rfl, KF, by rw [setB_no hm]; exact (h1.kept.drewN 1).below hk, Mod.of_below hk _, fun k hk => .inl hk⟩
    | true =>
      refine (kset_yes kg n.msg _ KF _ (h1.kept.drewN 1) hT1 hn.topic hn.q0 hn.q1 hm hl).mono ?_
      rintro e w' ⟨rfl, hr, hu⟩
      exact ⟨rfl, KF, by rw [setB_yes hm]; exact hr, hu⟩)
  have HP := Lib.hid h1
  clear h h1 hba hn hT
  go_still_tail 6, (by kernel_rfl)
  change wpList _ _ _ _ _ w1.drew
  go_wp2_with fail
  refine HS.out.mono ?_
  rintro e w2 ⟨rfl, KF', hr, hu⟩
  have HG := Lib.hid (HP.out.keepT (w' := w2) hr ⟨⟨hu.1.os, hu.1.tape, hu.1.output, hu.1.size, hu.1.block⟩, hu.2⟩)
  clear hr hu
  go_wp2_with fail
  go_ret3
  unfold ApplyQ
  rw [HE.out]
  obtain ⟨F1, g1, g2⟩ := HG.out
  exact ⟨rfl, F1, g1.monoN (Nat.le_succ _), upd_pre HB.out g2⟩
set_option maxRecDepth 100000 in
set_option maxHeartbeats 2000000 in
theorem mapply_else (m N : Nat) (s : MS) (F : List Nat) (n : Note) (w : World) (h : MRep w m N s F) (hk : n.kind ≠ 5) (hk2 : n.kind ≠ 2) :
    Calls Tryz.prog 19 #[.pointer (some ⟨m, 0, none⟩), .agg n.cells.toArray] w (ApplyQ m N s F n w) := by
  have HE : Hid (applyM n s = (([], false, true), s)) := Lib.hid (by unfold applyM; rw [if_neg hk, if_pos hk2])
  obtain ⟨sb, kg, KF, bl, h, rfl⟩ := h
  have hnew := heap_alloc_new w (.cells n.cells.toArray 32)
  have hba := (Below.refl w.heap.size w).alloc (Nat.le_refl _) (.cells n.cells.toArray 32)
  have h1 := h.mod (Mod.of_below hba []) (by simp)
  obtain ⟨n0, -⟩ := note_cell hnew
  have c0 := cell_of_row _ m 0 _ _ _ h1.top
  simp only [List.getElem?_toArray, List.getElem?_cons_zero] at c0
  have HB := Lib.hid hba
  have HP := Lib.hid h1
  have eqn := eqmap
  clear hnew h h1 hba
  go_enter Tryz.func19, Tryz.ntmps19
  go_wp2_with fail
  go_ret3
  unfold ApplyQ
  rw [HE.out]
  exact ⟨rfl, _, ⟨sb, kg, KF, bl, HP.out.monoN (Nat.le_succ _), rfl⟩, upd_pre HB.out (upd_refl _ _)⟩
set_option maxRecDepth 100000 in
set_option maxHeartbeats 2000000 in
theorem mapply_connect (m N : Nat) (s : MS) (F : List Nat) (n : Note) (w : World) (h : MRep w m N s F) (hN : N < 10000) (hc : n.client.size ≤ maxLen) (hk : n.kind = 2) (ht : n.pk.ty = 1) :
    Calls Tryz.prog 19 #[.pointer (some ⟨m, 0, none⟩), .agg n.cells.toArray] w (ApplyQ m N s F n w) := by
  have HE : Hid (applyM n s = (([], (connM n s).1.1, (connM n s).1.2), (connM n s).2)) := Lib.hid (by
    unfold applyM connM
    rw [if_neg (by omega), if_neg (by omega), if_pos ht]
    split <;> rfl)
  obtain ⟨sb, kg, KF, bl, h, rfl⟩ := h
  have hnew := heap_alloc_new w (.cells n.cells.toArray 32)
  have hba := (Below.refl w.heap.size w).alloc (Nat.le_refl _) (.cells n.cells.toArray 32)
  have h1 := h.mod (Mod.of_below hba []) (by simp)
  obtain ⟨n0, -, -, n4, -⟩ := note_cell hnew
  have HNB := Lib.hid hnew
  have c0 := cell_of_row _ m 0 _ _ _ h1.top
  simp only [List.getElem?_toArray, List.getElem?_cons_zero] at c0
  have HB := Lib.hid hba
  have HC := Lib.hid (mconnect_any m N s _ n _ ⟨sb, kg, KF, bl, h1, rfl⟩ hN hc)
  have eqn := eqmap
  clear hnew h h1 hba
  go_enter Tryz.func19, Tryz.ntmps19
  go_wp2_with (first | (refine wpList_load_row rfl 32 _ rfl w.heap.size rfl 32 n.cells.toArray _ _ HNB.out Tryz.underlying32 rfl (by kernel_rfl) ?_) | fail)
  refine HC.out.mono ?_
  rintro e w2 ⟨rfl, F1, hr, hu⟩
  have HG := Lib.hid (And.intro hr hu)
  clear hr hu
  go_wp2_with fail
  go_ret3
  unfold ApplyQ
  rw [HE.out]
  exact ⟨rfl, F1, HG.out.1, upd_pre HB.out HG.out.2⟩
end
section
open Go Go.RowKit Go.Maps

set_option maxRecDepth 100000 in
set_option maxHeartbeats 2000000 in
theorem mapply_no (m N : Nat) (s : MS) (F : List Nat) (n : Note) (w : World) (h : MRep w m N s F) (hc : n.client.size ≤ maxLen) (hk : n.kind = 2) (ht : n.pk.ty ≠ 1) (hno : ∀ x, lookS n.client.data.toList s.seats = some x → n.conn < 1 ∨ x.conn ≠ n.conn) :
    Calls Tryz.prog 19 #[.pointer (some ⟨m, 0, none⟩), .agg n.cells.toArray] w (ApplyQ m N s F n w) := by
  have HE : Hid (applyM n s = (([], false, false), s)) := Lib.hid (by
    unfold applyM
    rw [if_neg (by omega), if_neg (by omega), if_neg ht]
    cases ho : lookS n.client.data.toList s.seats with
    | none => rfl
    | some x => simp only; rw [if_pos (hno x ho)])
  obtain ⟨sb, kg, KF, bl, h, rfl⟩ := h
  have hnew := heap_alloc_new w (.cells n.cells.toArray 32)
  have hba := (Below.refl w.heap.size w).alloc (Nat.le_refl _) (.cells n.cells.toArray 32)
  have h1 := h.mod (Mod.of_below hba []) (by simp)
  obtain ⟨n0, n2, n3, n4, -, n26, -⟩ := note_cell hnew
  have c0 := cell_of_row _ m 0 _ _ _ h1.top
  simp only [List.getElem?_toArray, List.getElem?_cons_zero] at c0
  have HB := Lib.hid hba
  have HP := Lib.hid h1
  have HC := Lib.hid (mseat_any m N sb kg KF bl s n.client.data.toList _ h1 (by show n.client.data.toList.length ≤ _; simpa using hc))
  rw [str_mk] at HC
  have eqn := eqmap
  clear hnew h h1 hba
  cases ho : lookS n.client.data.toList s.seats with
  | none =>
    rw [seatB_none ho] at HC
    simp only [ptrV] at HC
    clear ho hno
    go_enter Tryz.func19, Tryz.ntmps19
    go_wp2_with fail
    refine HC.out.mono ?_
    rintro e w' ⟨rfl, rfl⟩
    go_wp2_with fail
    go_quiet (fail)
    go_wp2_with fail
    go_ret3
    unfold ApplyQ
    rw [HE.out]
    exact ⟨rfl, _, ⟨sb, kg, KF, bl, (HP.out.mod (Mod.of_below (below_drewN (Below.refl _ _) _) []) (by simp)).monoN (Nat.le_succ _), rfl⟩, upd_pre HB.out (upd_below (below_drewN (Below.refl _ _) _))⟩
  | some x =>
    rw [seatB_some ho] at HC
    simp only [ptrV] at HC
    have hno := hno x ho
    obtain ⟨lb, G, d0, d1, d2, -⟩ := (HP.out.fam.rep _ x ho).cells
    clear ho
    by_cases hc1 : n.conn < 1
    · clear hno
      go_enter Tryz.func19, Tryz.ntmps19
      go_wp2_with fail
      refine HC.out.mono ?_
      rintro e w' ⟨rfl, rfl⟩
      go_wp2_with fail
      go_quiet (fail)
      go_wp2_with fail
      go_ret3
      unfold ApplyQ
      rw [HE.out]
      exact ⟨rfl, _, ⟨sb, kg, KF, bl, (HP.out.mod (Mod.of_below (below_drewN (Below.refl _ _) _) []) (by simp)).monoN (Nat.le_succ _), rfl⟩, upd_pre HB.out (upd_below (below_drewN (Below.refl _ _) _))⟩
    · have hc2 : (x.conn != n.conn) = true := by rcases hno with h | h; exact absurd h hc1; exact bne_iff_ne.2 h
      clear hno
      go_enter Tryz.func19, Tryz.ntmps19
      go_wp2_with fail
      refine HC.out.mono ?_
      rintro e w' ⟨rfl, rfl⟩
      go_wp2_with fail
      go_quiet (fail)
      go_wp2_with fail
      go_ret3
      unfold ApplyQ
      rw [HE.out]
      exact ⟨rfl, _, ⟨sb, kg, KF, bl, (HP.out.mod (Mod.of_below (below_drewN (Below.refl _ _) _) []) (by simp)).monoN (Nat.le_succ _), rfl⟩, upd_pre HB.out (upd_below (below_drewN (Below.refl _ _) _))⟩
end
section
open Go Go.RowKit Go.Maps

theorem T_u8 : ElemT Tryz.prog 70 5 (.int .u8 0) 1 1 := ⟨Tryz.underlying70, by kernel_rfl, rfl, by decide⟩
theorem str_own {w : World} {B : Nat} {v : Value} {n : Nat} {l : List UInt8} (hown : w.ownsRow B 5 1 v n (u8s l)) : (convert 70 9 v).run Tryz.prog w = .ok (.string ⟨l.toArray⟩) w :=
  run_string_own Tryz.underlying70 Tryz.underlying5 Tryz.underlying9 hown
/-- 's.conn = 0' -/
theorem MParts.off0 {W : World} {m N sb kg : Nat} {KF : List Nat} {bl : Str → Nat × List Nat} {s : MS} (h : MParts W m N sb kg KF bl s) {c : Str} {x : Seat} (hx : lookS c s.seats = some x) :
    (bl c).1 ≠ m ∧ (bl c).1 ≠ sb ∧ ∃ lb, W.heap[(bl c).1]? = some (.cells #[.pointer (some ⟨lb, 0, none⟩), .int .i64 x.conn, .bool x.clean] 77 (0, 0)) ∧ (W.setCell ⟨(bl c).1, 1, none⟩ (.int .i64 0)).heap[(bl c).1]? = some (.cells #[.pointer (some ⟨lb, 0, none⟩), .int .i64 0, .bool x.clean] 77 (0, 0)) ∧
      (∀ st', (∀ d, lookS d st' = if d = c then some { x with conn := 0 } else lookS d s.seats) → ∃ F1, MRep (W.setCell ⟨(bl c).1, 1, none⟩ (.int .i64 0)) m (N + 1) ⟨st', s.kept⟩ F1 ∧ Upd (footM m sb KF bl s.seats) F1 W (W.setCell ⟨(bl c).1, 1, none⟩ (.int .i64 0))) ∧
      ∀ (D : DataW Unit) (X W4 : World) (nn : Nat), X = (W.setCell ⟨(bl c).1, 1, none⟩ (.int .i64 0)) → X.ownsMap Tryz.prog 9 ptrElem sb (Maps.size D) D → Maps.size D ≤ N → (∀ x, Maps.has D (.string x) = (seatB bl s.seats x).isSome ∧ ∀ b, seatB bl s.seats x = some b → ∀ z, D.atKey (.string x) z = ptrDat b) →
        W4.ownsMap Tryz.prog 9 ptrElem sb nn (D.del (.string c)) → X.drew.grownBy W4 (some sb) → ∃ F1, MRep W4 m (N + 1) ⟨dropS c s.seats, s.kept⟩ F1 ∧ Upd (footM m sb KF bl s.seats) F1 W W4 := by
  obtain ⟨lb, G, hb, hr, hn, hF⟩ := h.fam.rep c x hx
  have hbin : (bl c).1 ∈ (bl c).2 := by rw [hF]; simp
  have e4 := heap_setCell_same W (bl c).1 1 _ _ (.int .i64 0) hb
  have hsbne := (h.off c x hx _ hbin).2.1
  have hm : Mod (bl c).2 W (W.setCell ⟨(bl c).1, 1, none⟩ (.int .i64 0)) := (Mod.refl _ W).setCell (p := ⟨(bl c).1, 1, none⟩) (.inl hbin) _
  have hk : ∀ k, k ≠ (bl c).1 → (W.setCell ⟨(bl c).1, 1, none⟩ (.int .i64 0)).heap[k]? = W.heap[k]? := fun k hne => Below.heap_setCell _ _ _ _ (by show k ≠ (bl c).1; exact hne)
  refine ⟨(h.off c x hx _ hbin).1, hsbne, lb, hb, e4, fun st' hst => ?_, fun D X W4 nn hX hD1 hD2 hD3 hown hg => ?_⟩
  · refine h.set c (x' := { x with conn := 0 }) (b' := (bl c).1) (F' := (bl c).2) hm (fun k hk => .inr ⟨x, hx, hk⟩) ⟨lb, G, e4, srep_local.keep hr fun k hkG => hk k (fun e => hn (e ▸ hkG)), hn, hF⟩ (fun k hk => .inl ⟨x, hx, hk⟩) (h.map.of (hk sb hsbne.symm) (Nat.le_succ _) fun d => ?_) hst rfl
    rw [seatB_set hx]
  · subst hX
    have hm2 : Mod (sb :: (bl c).2) W W4 := ((hm.mono (fun k hk => List.mem_cons_of_mem _ hk)).drew).grown hg (fun k hk => by cases hk; left; simp)
    refine h.drop c hm2 (fun k hk => ?_) ((PMap.del hD1 hD2 hD3 hown).of rfl (Nat.le_succ _) fun _ => rfl) (fun d => lookS_drop c _ d) rfl
    rcases List.mem_cons.1 hk with rfl | hk
    · exact .inl rfl
    · exact .inr ⟨x, hx, hk⟩
set_option maxRecDepth 100000 in
set_option maxHeartbeats 2000000 in
theorem mapply_odd (m N : Nat) (s : MS) (F : List Nat) (n : Note) (w : World) (h : MRep w m N s F) (hc : n.client.size ≤ maxLen) (hk : n.kind = 2) (x : Seat) (ho : lookS n.client.data.toList s.seats = some x) (hc1 : ¬ n.conn < 1) (hc2 : x.conn = n.conn) (ht : n.pk.ty ≠ 1) (h8 : n.pk.ty ≠ 8) (h10 : n.pk.ty ≠ 10) (h14 : n.pk.ty ≠ 14) (h0 : n.pk.ty ≠ 0) :
    Calls Tryz.prog 19 #[.pointer (some ⟨m, 0, none⟩), .agg n.cells.toArray] w (ApplyQ m N s F n w) := by
  have HE : Hid (applyM n s = ((does1 n n.client.data.toList x s.seats).1, ⟨(does1 n n.client.data.toList x s.seats).2, s.kept⟩)) := Lib.hid (by
    unfold applyM
    rw [if_neg (by omega), if_neg (by omega), if_neg (by omega), ho]
    simp only
    rw [if_neg (by rintro (h | h); exact hc1 h; exact h hc2)])
  have HE2 : Hid (does1 n n.client.data.toList x s.seats = (([], false, false), s.seats)) := Lib.hid (by
    unfold does1
    rw [if_neg h8, if_neg h10, if_neg (by omega)])
  obtain ⟨sb, kg, KF, bl, h, rfl⟩ := h
  have hnew := heap_alloc_new w (.cells n.cells.toArray 32)
  have hba := (Below.refl w.heap.size w).alloc (Nat.le_refl _) (.cells n.cells.toArray 32)
  have h1 := h.mod (Mod.of_below hba []) (by simp)
  obtain ⟨n0, n2, n3, n4, -, n26, -⟩ := note_cell hnew
  have c0 := cell_of_row _ m 0 _ _ _ h1.top
  simp only [List.getElem?_toArray, List.getElem?_cons_zero] at c0
  have HB := Lib.hid hba
  have HP := Lib.hid h1
  have HC := Lib.hid (mseat_any m N sb kg KF bl s n.client.data.toList _ h1 (by show n.client.data.toList.length ≤ _; simpa using hc))
  rw [str_mk] at HC
  have eqn := eqmap
  have HBB := Lib.hid (show (bl n.client.data.toList).1 < w.heap.size from h.fam.lt seat_local ho _ (by obtain ⟨lb, G, -, -, -, hF⟩ := h.fam.rep _ x ho; rw [hF]; simp))
  have HNB := Lib.hid hnew
  rw [seatB_some ho] at HC
  simp only [ptrV] at HC
  obtain ⟨lb, G, d0, d1, d2, -⟩ := (HP.out.fam.rep _ x ho).cells
  clear hnew h h1 hba
  rw [hc2] at d1
  clear hc2
  go_enter Tryz.func19, Tryz.ntmps19
  go_wp2_with fail
  refine HC.out.mono ?_
  rintro e w' ⟨rfl, rfl⟩
  go_wp2_with fail
  go_quiet (fail)
  have HB2 : Hid (Below w.heap.size w ((w.alloc (.cells n.cells.toArray 32)).drewN nq)) := Lib.hid (below_drewN HB.out nq)
  have HP2 := Lib.hid (HP.out.mod (Mod.of_below (below_drewN (Below.refl _ _) nq) []) (by simp))
  go_wp2_with fail
  go_ret3
  unfold ApplyQ
  rw [HE.out, HE2.out]
  exact ⟨rfl, _, ⟨sb, kg, KF, bl, HP2.out.monoN (Nat.le_succ _), rfl⟩, upd_below HB2.out⟩
set_option maxRecDepth 100000 in
set_option maxHeartbeats 2000000 in
theorem mapply_end (m N : Nat) (s : MS) (F : List Nat) (n : Note) (w : World) (h : MRep w m N s F) (hc : n.client.size ≤ maxLen) (hk : n.kind = 2) (x : Seat) (ho : lookS n.client.data.toList s.seats = some x) (hc1 : ¬ n.conn < 1) (hc2 : x.conn = n.conn) (ht : n.pk.ty = 14 ∨ n.pk.ty = 0) :
    Calls Tryz.prog 19 #[.pointer (some ⟨m, 0, none⟩), .agg n.cells.toArray] w (ApplyQ m N s F n w) := by
  have HE : Hid (applyM n s = ((does1 n n.client.data.toList x s.seats).1, ⟨(does1 n n.client.data.toList x s.seats).2, s.kept⟩)) := Lib.hid (by
    unfold applyM
    rw [if_neg (by omega), if_neg (by omega), if_neg (by omega), ho]
    simp only
    rw [if_neg (by rintro (h | h); exact hc1 h; exact h hc2)])
  have HE2 : Hid (does1 n n.client.data.toList x s.seats = (([], false, true), if x.clean then dropS n.client.data.toList s.seats else turnS n.client.data.toList { x with conn := 0 } s.seats)) := Lib.hid (by
    unfold does1
    rw [if_neg (by omega), if_neg (by omega), if_pos ht])
  obtain ⟨sb, kg, KF, bl, h, rfl⟩ := h
  have hnew := heap_alloc_new w (.cells n.cells.toArray 32)
  have hba := (Below.refl w.heap.size w).alloc (Nat.le_refl _) (.cells n.cells.toArray 32)
  have h1 := h.mod (Mod.of_below hba []) (by simp)
  obtain ⟨n0, n2, n3, n4, -, n26, -⟩ := note_cell hnew
  have c0 := cell_of_row _ m 0 _ _ _ h1.top
  simp only [List.getElem?_toArray, List.getElem?_cons_zero] at c0
  have HB := Lib.hid hba
  have HP := Lib.hid h1
  have HC := Lib.hid (mseat_any m N sb kg KF bl s n.client.data.toList _ h1 (by show n.client.data.toList.length ≤ _; simpa using hc))
  rw [str_mk] at HC
  have eqn := eqmap
  have HBB := Lib.hid (show (bl n.client.data.toList).1 < w.heap.size from h.fam.lt seat_local ho _ (by obtain ⟨lb, G, -, -, -, hF⟩ := h.fam.rep _ x ho; rw [hF]; simp))
  have HNB := Lib.hid hnew
  rw [seatB_some ho] at HC
  simp only [ptrV] at HC
  obtain ⟨lb, G, d0, d1, d2, -⟩ := (HP.out.fam.rep _ x ho).cells
  clear hnew h h1 hba
  rw [hc2] at d1
  clear hc2
  rcases ht with ht | ht
  · skip
    go_enter Tryz.func19, Tryz.ntmps19
    go_wp2_with fail
    refine HC.out.mono ?_
    rintro e w' ⟨rfl, rfl⟩
    go_wp2_with fail
    go_quiet (fail)
    have HB2 : Hid (Below w.heap.size w ((w.alloc (.cells n.cells.toArray 32)).drewN nq)) := Lib.hid (below_drewN HB.out nq)
    have HP2 := Lib.hid (HP.out.mod (Mod.of_below (below_drewN (Below.refl _ _) nq) []) (by simp))
    obtain ⟨hbm, hbs, lb', hb, hb4, HOFF, HDEL⟩ := HP2.out.off0 ho
    obtain ⟨D, hD1, hD2, hD3⟩ := HP2.out.map
    have c0w : ((w.alloc (.cells n.cells.toArray 32)).drewN nq).cell? ⟨m, 0, none⟩ = some (.map (some sb)) := c0
    have n4w : ((w.alloc (.cells n.cells.toArray 32)).drewN nq).cell? ⟨w.heap.size, 4, none⟩ = some (.int .u8 n.pk.ty) := n4
    have HTRN := Lib.hid (HOFF _ fun d => lookS_turn' (x := { x with conn := 0 }) ho d)
    have hD1' := hD1.setCell (a := ⟨(bl n.client.data.toList).1, 1, none⟩) (by show sb ≠ (bl n.client.data.toList).1; exact hbs.symm) (.int .i64 0)
    have HDL := Lib.hid (fun W4 nn => HDEL D _ W4 nn rfl hD1' hD2 hD3)
    have u1 := frozen_of_row _ _ 1 _ _ hb
    obtain ⟨-, -, t2⟩ := cells3 hb4
    obtain ⟨-, q1, -⟩ := cells3 hb
    have HBBo := HBB.out
    have c0z : (((w.alloc (.cells n.cells.toArray 32)).drewN nq).setCell ⟨(bl n.client.data.toList).1, 1, none⟩ (.int .i64 0)).cell? ⟨m, 0, none⟩ = some (.map (some sb)) := by
      have h1 := (Below.heap_setCell ((w.alloc (.cells n.cells.toArray 32)).drewN nq) ⟨(bl n.client.data.toList).1, 1, none⟩ (.int .i64 0) m (by show m ≠ (bl n.client.data.toList).1; exact hbm.symm)).trans HP2.out.top
      exact cell_of_row _ m 0 _ _ _ h1
    have n3z : (((w.alloc (.cells n.cells.toArray 32)).drewN nq).setCell ⟨(bl n.client.data.toList).1, 1, none⟩ (.int .i64 0)).cell? ⟨w.heap.size, 3, none⟩ = some (.string n.client) := by
      have h1 := (Below.heap_setCell ((w.alloc (.cells n.cells.toArray 32)).drewN nq) ⟨(bl n.client.data.toList).1, 1, none⟩ (.int .i64 0) w.heap.size (by show w.heap.size ≠ (bl n.client.data.toList).1; omega)).trans (show ((w.alloc (.cells n.cells.toArray 32)).drewN nq).heap[w.heap.size]? = _ from HNB.out)
      exact (note_cell h1).2.2.1
    clear hb hb4 HOFF HDEL hD2 hD3 hD1 c0 n3 n0 n2 n4 n26 d0 d1 d2 HB HP HC HNB hbm hbs c0w HBB HBBo
    generalize ((w.alloc (.cells n.cells.toArray 32)).drewN nq) = w1 at *
    cases hx : x.clean with
    | false =>
      rw [hx] at t2 HE2
      simp only [Bool.false_eq_true, if_false] at HE2
      go_wp2_with fail
      go_ret3
      unfold ApplyQ
      rw [HE.out, HE2.out]
      obtain ⟨F1, g1, g2⟩ := HTRN.out
      exact ⟨rfl, F1, by rw [hx] at g1; exact g1, upd_pre HB2.out g2⟩
    | true =>
      rw [hx] at t2 HE2
      simp only [if_true] at HE2
      have HTF := Lib.hid hx
      go_wp2_with fail
      clear hx
      have hkey := skey (s := n.client) hc
      generalize w1.setCell ⟨(bl n.client.data.toList).1, 1, none⟩ (.int .i64 0) = w2 at *
      go_still_tail 6, (by kernel_rfl)
      change wpList _ _ _ _ _ w2.drew
      have hown3 := hD1'.drew
      go_wp2_with (first | (at_delete; refine wpList_delete_own _ rfl _ _ 42 9 rfl 73 kS Tryz.underlying42 _ sb _ _ rfl hown3 _ _ rfl hkey ?_; intro w4 hown4 hturn4) | fail)
      go_ret3
      unfold ApplyQ
      rw [HE.out, HE2.out]
      obtain ⟨F1, g1, g2⟩ := HDL.out w4 _ hown4 hturn4.grown
      exact ⟨rfl, F1, g1, upd_pre HB2.out g2⟩
  · skip
    go_enter Tryz.func19, Tryz.ntmps19
    go_wp2_with fail
    refine HC.out.mono ?_
    rintro e w' ⟨rfl, rfl⟩
    go_wp2_with fail
    go_quiet (fail)
    have HB2 : Hid (Below w.heap.size w ((w.alloc (.cells n.cells.toArray 32)).drewN nq)) := Lib.hid (below_drewN HB.out nq)
    have HP2 := Lib.hid (HP.out.mod (Mod.of_below (below_drewN (Below.refl _ _) nq) []) (by simp))
    obtain ⟨hbm, hbs, lb', hb, hb4, HOFF, HDEL⟩ := HP2.out.off0 ho
    obtain ⟨D, hD1, hD2, hD3⟩ := HP2.out.map
    have c0w : ((w.alloc (.cells n.cells.toArray 32)).drewN nq).cell? ⟨m, 0, none⟩ = some (.map (some sb)) := c0
    have n4w : ((w.alloc (.cells n.cells.toArray 32)).drewN nq).cell? ⟨w.heap.size, 4, none⟩ = some (.int .u8 n.pk.ty) := n4
    have HTRN := Lib.hid (HOFF _ fun d => lookS_turn' (x := { x with conn := 0 }) ho d)
    have hD1' := hD1.setCell (a := ⟨(bl n.client.data.toList).1, 1, none⟩) (by show sb ≠ (bl n.client.data.toList).1; exact hbs.symm) (.int .i64 0)
    have HDL := Lib.hid (fun W4 nn => HDEL D _ W4 nn rfl hD1' hD2 hD3)
    have u1 := frozen_of_row _ _ 1 _ _ hb
    obtain ⟨-, -, t2⟩ := cells3 hb4
    obtain ⟨-, q1, -⟩ := cells3 hb
    have HBBo := HBB.out
    have c0z : (((w.alloc (.cells n.cells.toArray 32)).drewN nq).setCell ⟨(bl n.client.data.toList).1, 1, none⟩ (.int .i64 0)).cell? ⟨m, 0, none⟩ = some (.map (some sb)) := by
      have h1 := (Below.heap_setCell ((w.alloc (.cells n.cells.toArray 32)).drewN nq) ⟨(bl n.client.data.toList).1, 1, none⟩ (.int .i64 0) m (by show m ≠ (bl n.client.data.toList).1; exact hbm.symm)).trans HP2.out.top
      exact cell_of_row _ m 0 _ _ _ h1
    have n3z : (((w.alloc (.cells n.cells.toArray 32)).drewN nq).setCell ⟨(bl n.client.data.toList).1, 1, none⟩ (.int .i64 0)).cell? ⟨w.heap.size, 3, none⟩ = some (.string n.client) := by
      have h1 := (Below.heap_setCell ((w.alloc (.cells n.cells.toArray 32)).drewN nq) ⟨(bl n.client.data.toList).1, 1, none⟩ (.int .i64 0) w.heap.size (by show w.heap.size ≠ (bl n.client.data.toList).1; omega)).trans (show ((w.alloc (.cells n.cells.toArray 32)).drewN nq).heap[w.heap.size]? = _ from HNB.out)
      exact (note_cell h1).2.2.1
    clear hb hb4 HOFF HDEL hD2 hD3 hD1 c0 n3 n0 n2 n4 n26 d0 d1 d2 HB HP HC HNB hbm hbs c0w HBB HBBo
    generalize ((w.alloc (.cells n.cells.toArray 32)).drewN nq) = w1 at *
    cases hx : x.clean with
    | false =>
      rw [hx] at t2 HE2
      simp only [Bool.false_eq_true, if_false] at HE2
      go_wp2_with fail
      go_ret3
      unfold ApplyQ
      rw [HE.out, HE2.out]
      obtain ⟨F1, g1, g2⟩ := HTRN.out
      exact ⟨rfl, F1, by rw [hx] at g1; exact g1, upd_pre HB2.out g2⟩
    | true =>
      rw [hx] at t2 HE2
      simp only [if_true] at HE2
      have HTF := Lib.hid hx
      go_wp2_with fail
      clear hx
      have hkey := skey (s := n.client) hc
      generalize w1.setCell ⟨(bl n.client.data.toList).1, 1, none⟩ (.int .i64 0) = w2 at *
      go_still_tail 6, (by kernel_rfl)
      change wpList _ _ _ _ _ w2.drew
      have hown3 := hD1'.drew
      go_wp2_with (first | (at_delete; refine wpList_delete_own _ rfl _ _ 42 9 rfl 73 kS Tryz.underlying42 _ sb _ _ rfl hown3 _ _ rfl hkey ?_; intro w4 hown4 hturn4) | fail)
      go_ret3
      unfold ApplyQ
      rw [HE.out, HE2.out]
      obtain ⟨F1, g1, g2⟩ := HDL.out w4 _ hown4 hturn4.grown
      exact ⟨rfl, F1, g1, upd_pre HB2.out g2⟩
end
end Go.Proofs.YthfeckndkmhieaaGreatDoor
