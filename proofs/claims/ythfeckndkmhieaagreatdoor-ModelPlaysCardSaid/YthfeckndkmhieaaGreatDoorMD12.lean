/- The document's model: Apply of a CONNECT. -/
import Derived.Test.YthfeckndkmhieaaGreatDoorDE
namespace Go.Proofs.YthfeckndkmhieaaGreatDoor
open Go Go.RowKit Go.Maps

theorem dconn_no (n : Note) (s : MS) (hk : n.kind = 2) (ht : n.pk.ty = 1) (h : connBad (lookS n.client.data.toList s.seats) n = true) : applyM n s = (([], false, false), s) := by
  unfold applyM
  rw [if_neg (by omega), if_neg (by omega), if_pos ht, if_pos h]
theorem dconn_yes (n : Note) (s : MS) (hk : n.kind = 2) (ht : n.pk.ty = 1) (h : connBad (lookS n.client.data.toList s.seats) n = false) (p : Bool) (L : List SubE) (hp : connP (lookS n.client.data.toList s.seats) n = p) (hL : (connS (lookS n.client.data.toList s.seats) n).l = L) :
    applyM n s = (([], p, true), ⟨dropS n.client.data.toList s.seats ++ [(n.client.data.toList, ⟨L, n.conn, n.pk.clean⟩)], s.kept⟩) := by
  unfold applyM
  rw [if_neg (by omega), if_neg (by omega), if_pos ht, h, if_neg (by simp), hp, ← hL]
  rfl
theorem drep_new (w : World) : DRep (w.alloc (.cells #[.slice none 0 0] 93)) w.heap.size [] [w.heap.size] :=
  ⟨none, 0, [], heap_alloc_new _ _, .inl ⟨rfl, rfl, rfl⟩, by simp, by simp [maxLen], by simp, List.Pairwise.nil, by simp, rfl⟩
set_option maxRecDepth 100000 in
set_option maxHeartbeats 4000000 in
theorem dapply_conn_none (r kg : Nat) (v : Value) (KF : List Nat) (bl : Str → Nat × List Nat) (s : MS) (n : Note) (w : World) (h : DParts w r kg v KF bl s) (hl : s.seats.length < 1000000) (hk : n.kind = 2) (ht : n.pk.ty = 1) (ho : lookS n.client.data.toList s.seats = none) :
    Calls Tryz.prog 20 #[.pointer (some ⟨r, 0, none⟩), .agg n.cells.toArray] w (DApplyQ r kg v KF bl s n w) := by
  have hnew := heap_alloc_new w (.cells n.cells.toArray 32)
  have hba := (Below.refl w.heap.size w).alloc (Nat.le_refl _) (.cells n.cells.toArray 32)
  have h1 := h.below hba
  obtain ⟨n0, n2, n3, n4, n12, -⟩ := note_cell hnew
  obtain ⟨a, cp, -, c0, -, hrow⟩ := h1.held
  have HB := Lib.hid hba
  have HP := Lib.hid h1
  have HF := Lib.hid (dfind_any r n.client.data.toList s.seats bl a cp _ c0 hrow hl)
  rw [str_mk] at HF
  rw [findI_none (posS_none.2 ho)] at HF
  have HLT := Lib.hid h.lt
  have HNW := Lib.hid hnew
  clear hnew h h1 hba hrow
  by_cases hc1 : n.conn < 1
  · have HE := Lib.hid (dconn_no n s hk ht (by unfold connBad; simp [hc1]))
    go_enter Tryz.func20, Tryz.ntmps20
    go_wp2_with fail
    refine HF.out.mono ?_
    rintro e w' ⟨rfl, rfl⟩
    go_wp2_with fail
    go_ret3
    unfold DApplyQ
    rw [HE.out]
    exact ⟨rfl, v, KF, bl, HP.out, Mod.of_below HB.out _, fun k hk => .inl hk⟩
  · have HE := Lib.hid (dconn_yes n s hk ht (by rw [ho]; unfold connBad; simp [hc1]) false [] (by rw [ho]; rfl) (by rw [ho]; rfl))
    rw [dropS_none ho] at HE
    have HN3 := Lib.hid ho
    clear ho
    go_enter Tryz.func20, Tryz.ntmps20
    go_wp2_with fail
    refine HF.out.mono ?_
    rintro e w' ⟨rfl, rfl⟩
    generalize hw1 : w.alloc (.cells n.cells.toArray 32) = w1 at *
    have hsz1 : w1.heap.size = w.heap.size + 1 := by rw [← hw1]; simp
    have hbl := (Below.refl w1.heap.size w1).alloc (Nat.le_refl _) (.cells #[.slice none 0 0] 93)
    have hbx := hbl.alloc hbl.size (.cells #[.string n.client, .int .i64 n.conn, .bool n.pk.clean, .pointer (some ⟨w1.heap.size, 0, none⟩)] 91)
    have HP3 : Hid (DParts _ r kg v KF bl ⟨s.seats, s.kept⟩) := Lib.hid (HP.out.below hbx)
    have HDL := Lib.hid ((drep_new w1).below (low_alloc _ (.cells #[.string n.client, .int .i64 n.conn, .bool n.pk.clean, .pointer (some ⟨w1.heap.size, 0, none⟩)] 91)))
    have HXB := Lib.hid (heap_alloc_new (w1.alloc (.cells #[.slice none 0 0] 93)) (.cells #[.string n.client, .int .i64 n.conn, .bool n.pk.clean, .pointer (some ⟨w1.heap.size, 0, none⟩)] 91))
    have HLF : Hid (∀ k ∈ [w1.heap.size], k ∉ footD r v KF bl s.seats) := Lib.hid (fun k hk hin => by
      have := HLT.out k hin
      rw [List.mem_singleton.1 hk] at this
      omega)
    obtain ⟨xb, hxb⟩ : ∃ xb, (w1.alloc (.cells #[.slice none 0 0] 93)).heap.size = xb := ⟨_, rfl⟩
    have hxb2 : xb = w1.heap.size + 1 := by rw [← hxb]; simp
    rw [hxb] at HXB
    have HXN : Hid (xb ∉ footD r v KF bl s.seats) := Lib.hid (fun hin => by have := HLT.out xb hin; omega)
    have HBX := Lib.hid (HB.out.trans (hbx.mono (by omega)))
    have HLEN := Lib.hid hl
    obtain ⟨W, hW⟩ : ∃ W, (w1.alloc (.cells #[.slice none 0 0] 93)).alloc (.cells #[.string n.client, .int .i64 n.conn, .bool n.pk.clean, .pointer (some ⟨w1.heap.size, 0, none⟩)] 91) = W := ⟨_, rfl⟩
    rw [hW] at HP3 HDL HXB HBX
    have HFIN : Hid (∀ v' X, Mod (footD r v KF bl s.seats) W X → (∀ k ∈ footD r v' KF (updF bl n.client.data.toList (w1.heap.size, [w1.heap.size])) (s.seats ++ [(n.client.data.toList, ⟨[], n.conn, n.pk.clean⟩)]), k ∈ footD r v KF bl s.seats ∨ k ∈ [w1.heap.size] ∨ W.heap.size ≤ k) →
        Upd (footD r v KF bl s.seats) (footD r v' KF (updF bl n.client.data.toList (w1.heap.size, [w1.heap.size])) (s.seats ++ [(n.client.data.toList, ⟨[], n.conn, n.pk.clean⟩)])) w X) := Lib.hid (fun v' X hm hf => ⟨(Mod.of_below HBX.out _).trans hm (fun k hk => .inl hk), fun k hk => by
      have hbs := HBX.out.size
      rcases hf k hk with h1 | h1 | h1
      · exact .inl h1
      · right; rw [List.mem_singleton.1 h1]; omega
      · right; omega⟩)
    clear hbl hbx hsz1 hxb2 HP HB HF
    go_wp2_with fail
    try rw [hW]
    generalize hlb : w1.heap.size = lb at *
    clear hxb hW c0 n0 n2 n3 n4 n12 hlb
    generalize hst3 : s.seats = st3 at *
    have HST := Lib.hid hst3
    clear hst3
    generalize ([] : List SubE) = L at *
    obtain ⟨a3, cp3, hv3, -, -, -⟩ := HP3.out.held
    have hrow3 := HP3.out.row
    rw [hv3] at hrow3
    have HOW : Hid (W.ownsRow 0 91 4 (.slice a3 st3.length cp3) st3.length (seatsV bl st3)) := Lib.hid hrow3
    have HV3 := Lib.hid hv3
    have HS : Hid (∀ X : World, X.heap[r]? = W.heap[r]? → X.heap[xb]? = W.heap[xb]? → X.cell? ⟨r, 0, none⟩ = some (.slice a3 st3.length cp3) ∧ X.cell? ⟨xb, 0, none⟩ = some (.string n.client) ∧ X.cell? ⟨xb, 1, none⟩ = some (.int .i64 n.conn) ∧ X.cell? ⟨xb, 2, none⟩ = some (.bool n.pk.clean) ∧ X.cell? ⟨xb, 3, none⟩ = some (.pointer (some ⟨lb, 0, none⟩))) := Lib.hid (fun X hX1 hX2 => by
      have ht := hX1.trans HP3.out.top
      rw [hv3] at ht
      have hx := hX2.trans HXB.out
      exact ⟨cell_of_row X r 0 _ _ _ ht, cell_of_row X xb 0 _ _ _ hx, cell_of_row X xb 1 _ _ _ hx, cell_of_row X xb 2 _ _ _ hx, cell_of_row X xb 3 _ _ _ hx⟩)
    have HNE : Hid (∀ j, (Value.slice a3 st3.length cp3).ownBlock = some j → j ≠ r ∧ j ≠ xb) := Lib.hid (fun j hj => ⟨fun e => HP3.out.vr (by rw [hv3, hj, e]), fun e => HXN.out (mem_footD.2 (.inr (.inl (by rw [hv3, hj, e]))))⟩)
    have HRL := Lib.hid (Array.getElem?_eq_some_iff.1 HP3.out.top).1
    have HXL := Lib.hid (Array.getElem?_eq_some_iff.1 HXB.out).1
    have HSN := Lib.hid (fun X v' => HP3.out.snoc (X := X) (v' := v') n.client.data.toList ⟨L, n.conn, n.pk.clean⟩ HN3.out HDL.out HLF.out)
    rw [str_mk] at HSN
    have hlen3 := HLEN.out
    clear hrow3 hv3
    refine wp_region_tail (S := fun X => X.cell? ⟨r, 0, none⟩ = some (.slice a3 st3.length cp3) ∧ X.cell? ⟨xb, 0, none⟩ = some (.string n.client) ∧ X.cell? ⟨xb, 1, none⟩ = some (.int .i64 n.conn) ∧ X.cell? ⟨xb, 2, none⟩ = some (.bool n.pk.clean) ∧ X.cell? ⟨xb, 3, none⟩ = some (.pointer (some ⟨lb, 0, none⟩))) 10 (by kernel_rfl) (HS.out _ rfl rfl) (fun hHeld => ?_)
    refine wpTail.take (i := 0) (v := ?_) rfl (by kernel_rfl) (by kernel_rfl) (by kernel_rfl) (by kernel_rfl) (by kernel_rfl) (fun _ _ _ h => h) (Or.inl ⟨rfl, ?_⟩) hHeld ?_
    rotate_left
    · intro w0 hS0
      try dsimp only at hS0
      go_simp
      try with_reducible rfl
    simp only [List.getElem_toArray, List.getElem_cons_zero, Act.put, List.setIfInBounds_toArray, List.set_cons_zero, List.set_cons_succ]
    refine wpTail.take (i := 1) (v := ?_) rfl (by kernel_rfl) (by kernel_rfl) (by kernel_rfl) (by kernel_rfl) (by kernel_rfl) (fun _ _ _ h => h) (Or.inl ⟨rfl, ?_⟩) hHeld ?_
    rotate_left
    · intro w0 hS0
      try dsimp only at hS0
      go_simp
      try with_reducible rfl
    simp only [List.getElem_toArray, List.getElem_cons_zero, List.getElem_cons_succ, Act.put, List.setIfInBounds_toArray, List.set_cons_zero, List.set_cons_succ]
    refine wpTail.take (i := 2) (v := ?_) rfl (by kernel_rfl) (by kernel_rfl) (by kernel_rfl) (by kernel_rfl) (by kernel_rfl) (fun _ _ _ h => h) (Or.inl ⟨rfl, ?_⟩) hHeld ?_
    rotate_left
    · intro w0 hS0
      try dsimp only at hS0
      go_simp
      try with_reducible rfl
    simp only [List.getElem_toArray, List.getElem_cons_zero, List.getElem_cons_succ, Act.put, List.setIfInBounds_toArray, List.set_cons_zero, List.set_cons_succ]
    refine wpTail.take (i := 3) (v := ?_) rfl (by kernel_rfl) (by kernel_rfl) (by kernel_rfl) (by kernel_rfl) (by kernel_rfl) (fun _ _ _ h => h) (Or.inl ⟨rfl, ?_⟩) hHeld ?_
    rotate_left
    · intro w0 hS0
      try dsimp only at hS0
      go_simp
      try with_reducible rfl
    simp only [List.getElem_toArray, List.getElem_cons_zero, List.getElem_cons_succ, Act.put, List.setIfInBounds_toArray, List.set_cons_zero, List.set_cons_succ]
    refine wpTail.take (i := 4) (v := ?_) rfl (by kernel_rfl) (by kernel_rfl) (by kernel_rfl) (by kernel_rfl) (by kernel_rfl) (fun _ _ _ h => h) (Or.inl ⟨rfl, ?_⟩) hHeld ?_
    rotate_left
    · intro w0 hS0
      try dsimp only at hS0
      go_simp
      try with_reducible rfl
    simp only [List.getElem_toArray, List.getElem_cons_zero, List.getElem_cons_succ, Act.put, List.setIfInBounds_toArray, List.set_cons_zero, List.set_cons_succ]
    refine wpTail.take (i := 5) (v := ?_) rfl (by kernel_rfl) (by kernel_rfl) (by kernel_rfl) (by kernel_rfl) (by kernel_rfl) (fun _ _ _ h => h) (Or.inl ⟨rfl, ?_⟩) hHeld ?_
    rotate_left
    · intro w0 hS0
      try dsimp only at hS0
      go_simp
      try with_reducible rfl
    simp only [List.getElem_toArray, List.getElem_cons_zero, List.getElem_cons_succ, Act.put, List.setIfInBounds_toArray, List.set_cons_zero, List.set_cons_succ]
    refine wpTail.ready (rs := [6]) (by kernel_rfl) (by simp) ?_
    refine AllTail.cons rfl (fun K hK => ?_) AllTail.nil
    rw [if_pos (by rfl)]
    go_simp
    refine hK.out _ _ (fun _ => HS.out _ (Below.heap_alloc _ _ _ HRL.out) (Below.heap_alloc _ _ _ HXL.out)) (fun hHeld => ?_)
    replace hHeld := hHeld (by decide)
    refine wpTail.ready (rs := [7]) (by kernel_rfl) (by simp) ?_
    refine AllTail.cons rfl (fun K hK => ?_) AllTail.nil
    refine step_app (m := 1) T_dseat (HOW.out.drew.alloc _) (heap_alloc_new W.drew _) rfl rfl rfl rfl rfl (by omega) (by simp [Value.oneCell']) ?_ ?_ ?_ ?_
    · omega
    · omega
    · exact Nat.zero_le _
    intro g cap w6 hown6 hgr6 hg6 hgl6
    have hks : ∀ j, j < W.heap.size → j = r ∨ j = xb → w6.heap[j]? = W.heap[j]? := fun j hj hor => by
      rw [hgr6.block j (by simp; omega) (fun e => by
        obtain ⟨e1, e2⟩ := HNE.out j e.symm
        exact hor.elim e1 e2)]
      exact Below.heap_alloc _ _ _ hj
    refine hK.out _ _ (fun _ => HS.out _ (hks r HRL.out (.inl rfl)) (hks xb HXL.out (.inr rfl))) (fun hHeld => ?_)
    replace hHeld := hHeld (by decide)
    have hm6 : Mod (Value.slice a3 st3.length cp3).ownBlock.toList W w6 := (((Mod.refl _ W).drew).alloc _).grown hgr6 (fun k hk => .inl (Option.mem_toList.2 hk))
    have hsn := HSN.out w6 _ (by rw [HV3.out]; exact hm6) hown6 (fun j hj => by
      obtain rfl : g = j := by simpa [Value.ownBlock] using hj
      rw [HV3.out]
      exact hg6.imp id (fun e => by rw [e]; simp))
    obtain ⟨fz6, hP6, hM6, hF6⟩ := hsn
    have HP6 := Lib.hid hP6
    have HM6 := Lib.hid hM6
    have HF6 := Lib.hid hF6
    clear hP6 hM6 hF6 hm6 hown6 hgr6 hg6 hks
    refine wpTail.take (i := 8) (v := ?_) rfl (by kernel_rfl) (by kernel_rfl) (by kernel_rfl) (by kernel_rfl) (by kernel_rfl) (fun _ _ _ h => h) (Or.inl ⟨rfl, ?_⟩) hHeld ?_
    rotate_left
    · intro w0 hS0
      try dsimp only at hS0
      go_simp
      try with_reducible rfl
    simp only [List.getElem_toArray, List.getElem_cons_zero, List.getElem_cons_succ, Act.put, List.setIfInBounds_toArray, List.set_cons_zero, List.set_cons_succ]
    refine wpTail.take (i := 9) (v := ?_) rfl (by kernel_rfl) (by kernel_rfl) (by kernel_rfl) (by kernel_rfl) (by kernel_rfl) (fun _ _ _ h => h) (Or.inl ⟨rfl, ?_⟩) hHeld ?_
    rotate_left
    · intro w0 hS0
      try dsimp only at hS0
      go_simp
      try with_reducible rfl
    simp only [List.getElem_toArray, List.getElem_cons_zero, List.getElem_cons_succ, Act.put, List.setIfInBounds_toArray, List.set_cons_zero, List.set_cons_succ]
    refine wpTail.ready (rs := [10]) (by kernel_rfl) (by simp) ?_
    refine AllTail.cons rfl (fun K hK => ?_) AllTail.nil
    rw [if_pos (by rfl)]
    go_simp
    refine hK.out _ _ (fun h => absurd rfl h) (fun _ => ?_)
    refine wpTail.done (by kernel_rfl) ?_ _
    go_wp2_with fail
    go_ret3
    unfold DApplyQ
    rw [HE.out, HST.out]
    exact ⟨rfl, _, KF, _, HP6.out, HFIN.out _ _ HM6.out HF6.out⟩
set_option maxRecDepth 100000 in
set_option maxHeartbeats 8000000 in
theorem dapply_conn_some (r kg : Nat) (v : Value) (KF : List Nat) (bl : Str → Nat × List Nat) (s : MS) (n : Note) (w : World) (h : DParts w r kg v KF bl s) (hl : s.seats.length < 1000000) (hO : MOk s) (hk : n.kind = 2) (ht : n.pk.ty = 1) (x : Seat) (ho : lookS n.client.data.toList s.seats = some x) :
    Calls Tryz.prog 20 #[.pointer (some ⟨r, 0, none⟩), .agg n.cells.toArray] w (DApplyQ r kg v KF bl s n w) := by
  have hnew := heap_alloc_new w (.cells n.cells.toArray 32)
  have hba := (Below.refl w.heap.size w).alloc (Nat.le_refl _) (.cells n.cells.toArray 32)
  have h1 := h.below hba
  obtain ⟨n0, n2, n3, n4, n12, -⟩ := note_cell hnew
  obtain ⟨a, cp, -, c0, -, hrow⟩ := h1.held
  have HB := Lib.hid hba
  have HP := Lib.hid h1
  have HF := Lib.hid (dfind_any r n.client.data.toList s.seats bl a cp _ c0 hrow hl)
  rw [str_mk] at HF
  obtain ⟨k, hp⟩ : ∃ k, posS n.client.data.toList s.seats = some k := by
    cases hp : posS n.client.data.toList s.seats with
    | none => rw [posS_none.1 hp] at ho; cases ho
    | some k => exact ⟨k, rfl⟩
  rw [findI_some hp] at HF
  obtain ⟨y, hy, hyc, hlk⟩ := posS_some hp
  have hyx : y.2 = x := by rw [hlk] at ho; exact Option.some.inj ho
  obtain ⟨b1, o1, rfl, d0, d1, d2, d3⟩ := seats_row hrow hy
  rw [hyx] at d1 d2
  rw [hyc] at d3
  have hkl : k < s.seats.length := (List.getElem?_eq_some_iff.1 hy).1
  have hk0 : (0 : Int) ≤ k := by omega
  have hk1 : (k : Int) < s.seats.length := by omega
  have hk2 : ¬ (k : Int) < 0 := by omega
  have hxo := (hO.look ho).1
  have HO := Lib.hid ho
  have HK := Lib.hid hk
  have HT := Lib.hid ht
  have HLT := Lib.hid h.lt
  have HH := Lib.hid h
  have HNW := Lib.hid hnew
  have HDP := Lib.hid (dropS_pos hO.key hp)
  have HLL := Lib.hid hl
  clear hnew h1 hba hrow hp hy hyc hlk hyx d0 h hl
  by_cases hc1 : n.conn < 1
  · have HE := Lib.hid (dconn_no n s hk ht (by unfold connBad; simp [hc1]))
    clear ho
    go_enter Tryz.func20, Tryz.ntmps20
    go_wp2_with fail
    refine HF.out.mono ?_
    rintro e w' ⟨rfl, rfl⟩
    go_wp2_with fail
    go_ret3
    unfold DApplyQ
    rw [HE.out]
    exact ⟨rfl, v, KF, bl, HP.out, Mod.of_below HB.out _, fun k hk => .inl hk⟩
  have hcd : decide (n.conn < 1) = false := decide_eq_false hc1
  by_cases hc2 : x.conn = 0
  · rw [hc2] at d1
    have HBAD : Hid (connBad (lookS n.client.data.toList s.seats) n = false) := Lib.hid (by rw [ho]; unfold connBad; simp [hc1, hc2])
    clear ho hxo hc2
    cases hx : x.clean with
    | true =>
      rw [hx] at d2
      have HPP : Hid (connP (lookS n.client.data.toList s.seats) n = false) := Lib.hid (by rw [HO.out]; unfold connP; simp [hx])
      clear hx
      have HE := Lib.hid (dconn_yes n s HK.out HT.out HBAD.out false ([]) HPP.out (by rw [HO.out] at HPP ⊢; unfold connS; rw [HPP.out]; rfl))
      go_enter Tryz.func20, Tryz.ntmps20
      go_wp2_with fail
      refine HF.out.mono ?_
      rintro e w' ⟨rfl, rfl⟩
      generalize hw1 : w.alloc (.cells n.cells.toArray 32) = w1 at *
      have hsz1 : w1.heap.size = w.heap.size + 1 := by rw [← hw1]; simp
      have hbl := (Below.refl w1.heap.size w1).alloc (Nat.le_refl _) (.cells #[.slice none 0 0] 93)
      have hbx := hbl.alloc hbl.size (.cells #[.string n.client, .int .i64 n.conn, .bool n.pk.clean, .pointer (some ⟨w1.heap.size, 0, none⟩)] 91)
      have HXB0 := Lib.hid (heap_alloc_new (w1.alloc (.cells #[.slice none 0 0] 93)) (.cells #[.string n.client, .int .i64 n.conn, .bool n.pk.clean, .pointer (some ⟨w1.heap.size, 0, none⟩)] 91))
      obtain ⟨xb, hxb⟩ : ∃ xb, (w1.alloc (.cells #[.slice none 0 0] 93)).heap.size = xb := ⟨_, rfl⟩
      have hxb2 : xb = w1.heap.size + 1 := by rw [← hxb]; simp
      rw [hxb] at HXB0
      have hbs := hbx
      have HXB1 := HXB0
      obtain ⟨W2, hW2⟩ : ∃ W2, ((w1.alloc (.cells #[.slice none 0 0] 93)).alloc (.cells #[.string n.client, .int .i64 n.conn, .bool n.pk.clean, .pointer (some ⟨w1.heap.size, 0, none⟩)] 91)) = W2 := ⟨_, rfl⟩
      have hs2 : w1.heap.size + 2 ≤ W2.heap.size := by rw [← hW2]; simp
      rw [hW2] at HXB1 hbs
      have HP2 := Lib.hid (HP.out.below hbs)
      have HB2 := Lib.hid (HB.out.trans (hbs.mono (by omega)))
      have HG := Lib.hid (dgone_any r kg v KF bl s k W2 HP2.out HLL.out hkl (fun d z hd => by
        rw [HDP.out, lookS_drop] at hd
        split at hd
        · cases hd
        · exact hd))
      rw [HDP.out] at HG
      have HDL0 : Hid (DRep W2 w1.heap.size [] [w1.heap.size]) := Lib.hid (by rw [← hW2]; exact (drep_new w1).below (low_alloc _ _))
      have HSZ := Lib.hid hsz1
      have HSX := Lib.hid hxb2
      have HS2 := Lib.hid hs2
      clear hbl hbx hbs HXB0 hsz1 hxb2 hs2
      go_wp2_with fail
      rw [hxb, hW2] at *
      refine HG.out.mono ?_
      rintro e W ⟨rfl, v3, hP3, hU3, hM3, hv3⟩
      have HN3 : Hid (lookS n.client.data.toList (dropS n.client.data.toList s.seats) = none) := Lib.hid (lookS_none_drop _ _)
      have HNEW : Hid (∀ j, w.heap.size ≤ j → j < W2.heap.size → j ∉ footD r v3 KF bl (dropS n.client.data.toList s.seats)) := Lib.hid (fun j hj1 hj2 hin => by
        rcases hU3.2 j hin with h1 | h1
        · have := HLT.out j h1; omega
        · omega)
      have HP3 : Hid (DParts W r kg v3 KF bl ⟨dropS n.client.data.toList s.seats, s.kept⟩) := Lib.hid hP3
      have hrl : r < w.heap.size := HLT.out r (mem_footD.2 (.inl rfl))
      have HXB := Lib.hid ((hM3.block xb (by have := HSX.out; have := HS2.out; omega) (fun hj => by have := HSX.out; have := HSZ.out; rw [List.mem_singleton.1 hj] at *; omega)).trans HXB1.out)
      have HXN : Hid (xb ∉ footD r v3 KF bl (dropS n.client.data.toList s.seats)) := Lib.hid (HNEW.out xb (by have := HSX.out; have := HSZ.out; omega) (by have := HSX.out; have := HS2.out; omega))
      have HDL := Lib.hid (HDL0.out.mod hM3 fun j hj hr => by rw [List.mem_singleton.1 hj] at hr; have := List.mem_singleton.1 hr; have := HSZ.out; omega)
      have HLF : Hid (∀ j ∈ [w1.heap.size], j ∉ footD r v3 KF bl (dropS n.client.data.toList s.seats)) := Lib.hid (fun j hj => by
        rw [List.mem_singleton.1 hj]
        exact HNEW.out _ (by have := HSZ.out; omega) (by have := HS2.out; omega))
      have HLEN : Hid ((dropS n.client.data.toList s.seats).length < 1000000) := Lib.hid (Nat.lt_of_le_of_lt (List.length_filter_le _ _) HLL.out)
      have HFIN : Hid (∀ v' X, Mod (footD r v3 KF bl (dropS n.client.data.toList s.seats)) W X → (∀ k ∈ footD r v' KF (updF bl n.client.data.toList (w1.heap.size, [w1.heap.size])) (dropS n.client.data.toList s.seats ++ [(n.client.data.toList, ⟨[], n.conn, n.pk.clean⟩)]), k ∈ footD r v3 KF bl (dropS n.client.data.toList s.seats) ∨ k ∈ [w1.heap.size] ∨ W.heap.size ≤ k) →
          Upd (footD r v KF bl s.seats) (footD r v' KF (updF bl n.client.data.toList (w1.heap.size, [w1.heap.size])) (dropS n.client.data.toList s.seats ++ [(n.client.data.toList, ⟨[], n.conn, n.pk.clean⟩)])) w X) := Lib.hid (fun v' X hm hf => by
        have hu := upd_pre HB2.out hU3
        refine ⟨hu.1.trans hm hu.2, fun k hk => ?_⟩
        rcases hf k hk with h1 | h1 | h1
        · exact hu.2 k h1
        · right; rw [List.mem_singleton.1 h1]; have := HSZ.out; omega
        · right; exact Nat.le_trans hu.1.size h1)
      clear hP3 hU3 hM3 hv3 hW2 hxb hrl HLT HH HNEW HDL0 HXB1 HG HP2 HB2 c0 n0 n2 n3 n4 n12 d1 d2 d3 HSX HS2 HSZ HP HB HF
      generalize dropS n.client.data.toList s.seats = st3 at *
      generalize hlb : w1.heap.size = lb at *
      clear hlb
      generalize ([] : List SubE) = L at *
      go_wp2_with fail
      obtain ⟨a3, cp3, hv3, -, -, -⟩ := HP3.out.held
      have hrow3 := HP3.out.row
      rw [hv3] at hrow3
      have HOW : Hid (W.ownsRow 0 91 4 (.slice a3 st3.length cp3) st3.length (seatsV bl st3)) := Lib.hid hrow3
      have HV3 := Lib.hid hv3
      have HS : Hid (∀ X : World, X.heap[r]? = W.heap[r]? → X.heap[xb]? = W.heap[xb]? → X.cell? ⟨r, 0, none⟩ = some (.slice a3 st3.length cp3) ∧ X.cell? ⟨xb, 0, none⟩ = some (.string n.client) ∧ X.cell? ⟨xb, 1, none⟩ = some (.int .i64 n.conn) ∧ X.cell? ⟨xb, 2, none⟩ = some (.bool n.pk.clean) ∧ X.cell? ⟨xb, 3, none⟩ = some (.pointer (some ⟨lb, 0, none⟩))) := Lib.hid (fun X hX1 hX2 => by
        have ht := hX1.trans HP3.out.top
        rw [hv3] at ht
        have hx := hX2.trans HXB.out
        exact ⟨cell_of_row X r 0 _ _ _ ht, cell_of_row X xb 0 _ _ _ hx, cell_of_row X xb 1 _ _ _ hx, cell_of_row X xb 2 _ _ _ hx, cell_of_row X xb 3 _ _ _ hx⟩)
      have HNE : Hid (∀ j, (Value.slice a3 st3.length cp3).ownBlock = some j → j ≠ r ∧ j ≠ xb) := Lib.hid (fun j hj => ⟨fun e => HP3.out.vr (by rw [hv3, hj, e]), fun e => HXN.out (mem_footD.2 (.inr (.inl (by rw [hv3, hj, e]))))⟩)
      have HRL := Lib.hid (Array.getElem?_eq_some_iff.1 HP3.out.top).1
      have HXL := Lib.hid (Array.getElem?_eq_some_iff.1 HXB.out).1
      have HSN := Lib.hid (fun X v' => HP3.out.snoc (X := X) (v' := v') n.client.data.toList ⟨L, n.conn, n.pk.clean⟩ HN3.out HDL.out HLF.out)
      rw [str_mk] at HSN
      have hlen3 := HLEN.out
      clear hrow3 hv3
      refine wp_region_tail (S := fun X => X.cell? ⟨r, 0, none⟩ = some (.slice a3 st3.length cp3) ∧ X.cell? ⟨xb, 0, none⟩ = some (.string n.client) ∧ X.cell? ⟨xb, 1, none⟩ = some (.int .i64 n.conn) ∧ X.cell? ⟨xb, 2, none⟩ = some (.bool n.pk.clean) ∧ X.cell? ⟨xb, 3, none⟩ = some (.pointer (some ⟨lb, 0, none⟩))) 10 (by kernel_rfl) (HS.out _ rfl rfl) (fun hHeld => ?_)
      refine wpTail.take (i := 0) (v := ?_) rfl (by kernel_rfl) (by kernel_rfl) (by kernel_rfl) (by kernel_rfl) (by kernel_rfl) (fun _ _ _ h => h) (Or.inl ⟨rfl, ?_⟩) hHeld ?_
      rotate_left
      · intro w0 hS0
        try dsimp only at hS0
        go_simp
        try with_reducible rfl
      simp only [List.getElem_toArray, List.getElem_cons_zero, Act.put, List.setIfInBounds_toArray, List.set_cons_zero, List.set_cons_succ]
      refine wpTail.take (i := 1) (v := ?_) rfl (by kernel_rfl) (by kernel_rfl) (by kernel_rfl) (by kernel_rfl) (by kernel_rfl) (fun _ _ _ h => h) (Or.inl ⟨rfl, ?_⟩) hHeld ?_
      rotate_left
      · intro w0 hS0
        try dsimp only at hS0
        go_simp
        try with_reducible rfl
      simp only [List.getElem_toArray, List.getElem_cons_zero, List.getElem_cons_succ, Act.put, List.setIfInBounds_toArray, List.set_cons_zero, List.set_cons_succ]
      refine wpTail.take (i := 2) (v := ?_) rfl (by kernel_rfl) (by kernel_rfl) (by kernel_rfl) (by kernel_rfl) (by kernel_rfl) (fun _ _ _ h => h) (Or.inl ⟨rfl, ?_⟩) hHeld ?_
      rotate_left
      · intro w0 hS0
        try dsimp only at hS0
        go_simp
        try with_reducible rfl
      simp only [List.getElem_toArray, List.getElem_cons_zero, List.getElem_cons_succ, Act.put, List.setIfInBounds_toArray, List.set_cons_zero, List.set_cons_succ]
      refine wpTail.take (i := 3) (v := ?_) rfl (by kernel_rfl) (by kernel_rfl) (by kernel_rfl) (by kernel_rfl) (by kernel_rfl) (fun _ _ _ h => h) (Or.inl ⟨rfl, ?_⟩) hHeld ?_
      rotate_left
      · intro w0 hS0
        try dsimp only at hS0
        go_simp
        try with_reducible rfl
      simp only [List.getElem_toArray, List.getElem_cons_zero, List.getElem_cons_succ, Act.put, List.setIfInBounds_toArray, List.set_cons_zero, List.set_cons_succ]
      refine wpTail.take (i := 4) (v := ?_) rfl (by kernel_rfl) (by kernel_rfl) (by kernel_rfl) (by kernel_rfl) (by kernel_rfl) (fun _ _ _ h => h) (Or.inl ⟨rfl, ?_⟩) hHeld ?_
      rotate_left
      · intro w0 hS0
        try dsimp only at hS0
        go_simp
        try with_reducible rfl
      simp only [List.getElem_toArray, List.getElem_cons_zero, List.getElem_cons_succ, Act.put, List.setIfInBounds_toArray, List.set_cons_zero, List.set_cons_succ]
      refine wpTail.take (i := 5) (v := ?_) rfl (by kernel_rfl) (by kernel_rfl) (by kernel_rfl) (by kernel_rfl) (by kernel_rfl) (fun _ _ _ h => h) (Or.inl ⟨rfl, ?_⟩) hHeld ?_
      rotate_left
      · intro w0 hS0
        try dsimp only at hS0
        go_simp
        try with_reducible rfl
      simp only [List.getElem_toArray, List.getElem_cons_zero, List.getElem_cons_succ, Act.put, List.setIfInBounds_toArray, List.set_cons_zero, List.set_cons_succ]
      refine wpTail.ready (rs := [6]) (by kernel_rfl) (by simp) ?_
      refine AllTail.cons rfl (fun K hK => ?_) AllTail.nil
      rw [if_pos (by rfl)]
      go_simp
      refine hK.out _ _ (fun _ => HS.out _ (Below.heap_alloc _ _ _ HRL.out) (Below.heap_alloc _ _ _ HXL.out)) (fun hHeld => ?_)
      replace hHeld := hHeld (by decide)
      refine wpTail.ready (rs := [7]) (by kernel_rfl) (by simp) ?_
      refine AllTail.cons rfl (fun K hK => ?_) AllTail.nil
      refine step_app (m := 1) T_dseat (HOW.out.drew.alloc _) (heap_alloc_new W.drew _) rfl rfl rfl rfl rfl (by omega) (by simp [Value.oneCell']) ?_ ?_ ?_ ?_
      · omega
      · omega
      · exact Nat.zero_le _
      intro g cap w6 hown6 hgr6 hg6 hgl6
      have hks : ∀ j, j < W.heap.size → j = r ∨ j = xb → w6.heap[j]? = W.heap[j]? := fun j hj hor => by
        rw [hgr6.block j (by simp; omega) (fun e => by
          obtain ⟨e1, e2⟩ := HNE.out j e.symm
          exact hor.elim e1 e2)]
        exact Below.heap_alloc _ _ _ hj
      refine hK.out _ _ (fun _ => HS.out _ (hks r HRL.out (.inl rfl)) (hks xb HXL.out (.inr rfl))) (fun hHeld => ?_)
      replace hHeld := hHeld (by decide)
      have hm6 : Mod (Value.slice a3 st3.length cp3).ownBlock.toList W w6 := (((Mod.refl _ W).drew).alloc _).grown hgr6 (fun k hk => .inl (Option.mem_toList.2 hk))
      have hsn := HSN.out w6 _ (by rw [HV3.out]; exact hm6) hown6 (fun j hj => by
        obtain rfl : g = j := by simpa [Value.ownBlock] using hj
        rw [HV3.out]
        exact hg6.imp id (fun e => by rw [e]; simp))
      obtain ⟨fz6, hP6, hM6, hF6⟩ := hsn
      have HP6 := Lib.hid hP6
      have HM6 := Lib.hid hM6
      have HF6 := Lib.hid hF6
      clear hP6 hM6 hF6 hm6 hown6 hgr6 hg6 hks
      refine wpTail.take (i := 8) (v := ?_) rfl (by kernel_rfl) (by kernel_rfl) (by kernel_rfl) (by kernel_rfl) (by kernel_rfl) (fun _ _ _ h => h) (Or.inl ⟨rfl, ?_⟩) hHeld ?_
      rotate_left
      · intro w0 hS0
        try dsimp only at hS0
        go_simp
        try with_reducible rfl
      simp only [List.getElem_toArray, List.getElem_cons_zero, List.getElem_cons_succ, Act.put, List.setIfInBounds_toArray, List.set_cons_zero, List.set_cons_succ]
      refine wpTail.take (i := 9) (v := ?_) rfl (by kernel_rfl) (by kernel_rfl) (by kernel_rfl) (by kernel_rfl) (by kernel_rfl) (fun _ _ _ h => h) (Or.inl ⟨rfl, ?_⟩) hHeld ?_
      rotate_left
      · intro w0 hS0
        try dsimp only at hS0
        go_simp
        try with_reducible rfl
      simp only [List.getElem_toArray, List.getElem_cons_zero, List.getElem_cons_succ, Act.put, List.setIfInBounds_toArray, List.set_cons_zero, List.set_cons_succ]
      refine wpTail.ready (rs := [10]) (by kernel_rfl) (by simp) ?_
      refine AllTail.cons rfl (fun K hK => ?_) AllTail.nil
      rw [if_pos (by rfl)]
      go_simp
      refine hK.out _ _ (fun h => absurd rfl h) (fun _ => ?_)
      refine wpTail.done (by kernel_rfl) ?_ _
      go_wp2_with fail
      go_ret3
      unfold DApplyQ
      rw [HE.out]
      exact ⟨rfl, _, KF, _, HP6.out, HFIN.out _ _ HM6.out HF6.out⟩
    | false =>
      rw [hx] at d2
      have HXC := Lib.hid hx
      clear hx
      cases hn : n.pk.clean with
      | true =>
        rw [hn] at n12
        have HPP : Hid (connP (lookS n.client.data.toList s.seats) n = false) := Lib.hid (by rw [HO.out]; unfold connP; simp [hn])
        have HCL := Lib.hid hn
        clear hn
        have HE := Lib.hid (dconn_yes n s HK.out HT.out HBAD.out false ([]) HPP.out (by rw [HO.out] at HPP ⊢; unfold connS; rw [HPP.out]; rfl))
        rw [HCL.out] at HE
        go_enter Tryz.func20, Tryz.ntmps20
        go_wp2_with fail
        refine HF.out.mono ?_
        rintro e w' ⟨rfl, rfl⟩
        generalize hw1 : w.alloc (.cells n.cells.toArray 32) = w1 at *
        have hsz1 : w1.heap.size = w.heap.size + 1 := by rw [← hw1]; simp
        have hbl := (Below.refl w1.heap.size w1).alloc (Nat.le_refl _) (.cells #[.slice none 0 0] 93)
        have hbx := hbl.alloc hbl.size (.cells #[.string n.client, .int .i64 n.conn, .bool true, .pointer (some ⟨w1.heap.size, 0, none⟩)] 91)
        have HXB0 := Lib.hid (heap_alloc_new (w1.alloc (.cells #[.slice none 0 0] 93)) (.cells #[.string n.client, .int .i64 n.conn, .bool true, .pointer (some ⟨w1.heap.size, 0, none⟩)] 91))
        obtain ⟨xb, hxb⟩ : ∃ xb, (w1.alloc (.cells #[.slice none 0 0] 93)).heap.size = xb := ⟨_, rfl⟩
        have hxb2 : xb = w1.heap.size + 1 := by rw [← hxb]; simp
        rw [hxb] at HXB0
        have hbs := hbx
        have HXB1 := HXB0
        obtain ⟨W2, hW2⟩ : ∃ W2, ((w1.alloc (.cells #[.slice none 0 0] 93)).alloc (.cells #[.string n.client, .int .i64 n.conn, .bool true, .pointer (some ⟨w1.heap.size, 0, none⟩)] 91)) = W2 := ⟨_, rfl⟩
        have hs2 : w1.heap.size + 2 ≤ W2.heap.size := by rw [← hW2]; simp
        rw [hW2] at HXB1 hbs
        have HP2 := Lib.hid (HP.out.below hbs)
        have HB2 := Lib.hid (HB.out.trans (hbs.mono (by omega)))
        have HG := Lib.hid (dgone_any r kg v KF bl s k W2 HP2.out HLL.out hkl (fun d z hd => by
          rw [HDP.out, lookS_drop] at hd
          split at hd
          · cases hd
          · exact hd))
        rw [HDP.out] at HG
        have HDL0 : Hid (DRep W2 w1.heap.size [] [w1.heap.size]) := Lib.hid (by rw [← hW2]; exact (drep_new w1).below (low_alloc _ _))
        have HSZ := Lib.hid hsz1
        have HSX := Lib.hid hxb2
        have HS2 := Lib.hid hs2
        clear hbl hbx hbs HXB0 hsz1 hxb2 hs2
        go_wp2_with fail
        rw [hxb, hW2] at *
        refine HG.out.mono ?_
        rintro e W ⟨rfl, v3, hP3, hU3, hM3, hv3⟩
        have HN3 : Hid (lookS n.client.data.toList (dropS n.client.data.toList s.seats) = none) := Lib.hid (lookS_none_drop _ _)
        have HNEW : Hid (∀ j, w.heap.size ≤ j → j < W2.heap.size → j ∉ footD r v3 KF bl (dropS n.client.data.toList s.seats)) := Lib.hid (fun j hj1 hj2 hin => by
          rcases hU3.2 j hin with h1 | h1
          · have := HLT.out j h1; omega
          · omega)
        have HP3 : Hid (DParts W r kg v3 KF bl ⟨dropS n.client.data.toList s.seats, s.kept⟩) := Lib.hid hP3
        have hrl : r < w.heap.size := HLT.out r (mem_footD.2 (.inl rfl))
        have HXB := Lib.hid ((hM3.block xb (by have := HSX.out; have := HS2.out; omega) (fun hj => by have := HSX.out; have := HSZ.out; rw [List.mem_singleton.1 hj] at *; omega)).trans HXB1.out)
        have HXN : Hid (xb ∉ footD r v3 KF bl (dropS n.client.data.toList s.seats)) := Lib.hid (HNEW.out xb (by have := HSX.out; have := HSZ.out; omega) (by have := HSX.out; have := HS2.out; omega))
        have HDL := Lib.hid (HDL0.out.mod hM3 fun j hj hr => by rw [List.mem_singleton.1 hj] at hr; have := List.mem_singleton.1 hr; have := HSZ.out; omega)
        have HLF : Hid (∀ j ∈ [w1.heap.size], j ∉ footD r v3 KF bl (dropS n.client.data.toList s.seats)) := Lib.hid (fun j hj => by
          rw [List.mem_singleton.1 hj]
          exact HNEW.out _ (by have := HSZ.out; omega) (by have := HS2.out; omega))
        have HLEN : Hid ((dropS n.client.data.toList s.seats).length < 1000000) := Lib.hid (Nat.lt_of_le_of_lt (List.length_filter_le _ _) HLL.out)
        have HFIN : Hid (∀ v' X, Mod (footD r v3 KF bl (dropS n.client.data.toList s.seats)) W X → (∀ k ∈ footD r v' KF (updF bl n.client.data.toList (w1.heap.size, [w1.heap.size])) (dropS n.client.data.toList s.seats ++ [(n.client.data.toList, ⟨[], n.conn, true⟩)]), k ∈ footD r v3 KF bl (dropS n.client.data.toList s.seats) ∨ k ∈ [w1.heap.size] ∨ W.heap.size ≤ k) →
            Upd (footD r v KF bl s.seats) (footD r v' KF (updF bl n.client.data.toList (w1.heap.size, [w1.heap.size])) (dropS n.client.data.toList s.seats ++ [(n.client.data.toList, ⟨[], n.conn, true⟩)])) w X) := Lib.hid (fun v' X hm hf => by
          have hu := upd_pre HB2.out hU3
          refine ⟨hu.1.trans hm hu.2, fun k hk => ?_⟩
          rcases hf k hk with h1 | h1 | h1
          · exact hu.2 k h1
          · right; rw [List.mem_singleton.1 h1]; have := HSZ.out; omega
          · right; exact Nat.le_trans hu.1.size h1)
        clear hP3 hU3 hM3 hv3 hW2 hxb hrl HLT HH HNEW HDL0 HXB1 HG HP2 HB2 c0 n0 n2 n3 n4 n12 d1 d2 d3 HSX HS2 HSZ HP HB HF
        generalize dropS n.client.data.toList s.seats = st3 at *
        generalize hlb : w1.heap.size = lb at *
        clear hlb
        generalize ([] : List SubE) = L at *
        go_wp2_with fail
        obtain ⟨a3, cp3, hv3, -, -, -⟩ := HP3.out.held
        have hrow3 := HP3.out.row
        rw [hv3] at hrow3
        have HOW : Hid (W.ownsRow 0 91 4 (.slice a3 st3.length cp3) st3.length (seatsV bl st3)) := Lib.hid hrow3
        have HV3 := Lib.hid hv3
        have HS : Hid (∀ X : World, X.heap[r]? = W.heap[r]? → X.heap[xb]? = W.heap[xb]? → X.cell? ⟨r, 0, none⟩ = some (.slice a3 st3.length cp3) ∧ X.cell? ⟨xb, 0, none⟩ = some (.string n.client) ∧ X.cell? ⟨xb, 1, none⟩ = some (.int .i64 n.conn) ∧ X.cell? ⟨xb, 2, none⟩ = some (.bool true) ∧ X.cell? ⟨xb, 3, none⟩ = some (.pointer (some ⟨lb, 0, none⟩))) := Lib.hid (fun X hX1 hX2 => by
          have ht := hX1.trans HP3.out.top
          rw [hv3] at ht
          have hx := hX2.trans HXB.out
          exact ⟨cell_of_row X r 0 _ _ _ ht, cell_of_row X xb 0 _ _ _ hx, cell_of_row X xb 1 _ _ _ hx, cell_of_row X xb 2 _ _ _ hx, cell_of_row X xb 3 _ _ _ hx⟩)
        have HNE : Hid (∀ j, (Value.slice a3 st3.length cp3).ownBlock = some j → j ≠ r ∧ j ≠ xb) := Lib.hid (fun j hj => ⟨fun e => HP3.out.vr (by rw [hv3, hj, e]), fun e => HXN.out (mem_footD.2 (.inr (.inl (by rw [hv3, hj, e]))))⟩)
        have HRL := Lib.hid (Array.getElem?_eq_some_iff.1 HP3.out.top).1
        have HXL := Lib.hid (Array.getElem?_eq_some_iff.1 HXB.out).1
        have HSN := Lib.hid (fun X v' => HP3.out.snoc (X := X) (v' := v') n.client.data.toList ⟨L, n.conn, true⟩ HN3.out HDL.out HLF.out)
        rw [str_mk] at HSN
        have hlen3 := HLEN.out
        clear hrow3 hv3
        refine wp_region_tail (S := fun X => X.cell? ⟨r, 0, none⟩ = some (.slice a3 st3.length cp3) ∧ X.cell? ⟨xb, 0, none⟩ = some (.string n.client) ∧ X.cell? ⟨xb, 1, none⟩ = some (.int .i64 n.conn) ∧ X.cell? ⟨xb, 2, none⟩ = some (.bool true) ∧ X.cell? ⟨xb, 3, none⟩ = some (.pointer (some ⟨lb, 0, none⟩))) 10 (by kernel_rfl) (HS.out _ rfl rfl) (fun hHeld => ?_)
        refine wpTail.take (i := 0) (v := ?_) rfl (by kernel_rfl) (by kernel_rfl) (by kernel_rfl) (by kernel_rfl) (by kernel_rfl) (fun _ _ _ h => h) (Or.inl ⟨rfl, ?_⟩) hHeld ?_
        rotate_left
        · intro w0 hS0
          try dsimp only at hS0
          go_simp
          try with_reducible rfl
        simp only [List.getElem_toArray, List.getElem_cons_zero, Act.put, List.setIfInBounds_toArray, List.set_cons_zero, List.set_cons_succ]
        refine wpTail.take (i := 1) (v := ?_) rfl (by kernel_rfl) (by kernel_rfl) (by kernel_rfl) (by kernel_rfl) (by kernel_rfl) (fun _ _ _ h => h) (Or.inl ⟨rfl, ?_⟩) hHeld ?_
        rotate_left
        · intro w0 hS0
          try dsimp only at hS0
          go_simp
          try with_reducible rfl
        simp only [List.getElem_toArray, List.getElem_cons_zero, List.getElem_cons_succ, Act.put, List.setIfInBounds_toArray, List.set_cons_zero, List.set_cons_succ]
        refine wpTail.take (i := 2) (v := ?_) rfl (by kernel_rfl) (by kernel_rfl) (by kernel_rfl) (by kernel_rfl) (by kernel_rfl) (fun _ _ _ h => h) (Or.inl ⟨rfl, ?_⟩) hHeld ?_
        rotate_left
        · intro w0 hS0
          try dsimp only at hS0
          go_simp
          try with_reducible rfl
        simp only [List.getElem_toArray, List.getElem_cons_zero, List.getElem_cons_succ, Act.put, List.setIfInBounds_toArray, List.set_cons_zero, List.set_cons_succ]
        refine wpTail.take (i := 3) (v := ?_) rfl (by kernel_rfl) (by kernel_rfl) (by kernel_rfl) (by kernel_rfl) (by kernel_rfl) (fun _ _ _ h => h) (Or.inl ⟨rfl, ?_⟩) hHeld ?_
        rotate_left
        · intro w0 hS0
          try dsimp only at hS0
          go_simp
          try with_reducible rfl
        simp only [List.getElem_toArray, List.getElem_cons_zero, List.getElem_cons_succ, Act.put, List.setIfInBounds_toArray, List.set_cons_zero, List.set_cons_succ]
        refine wpTail.take (i := 4) (v := ?_) rfl (by kernel_rfl) (by kernel_rfl) (by kernel_rfl) (by kernel_rfl) (by kernel_rfl) (fun _ _ _ h => h) (Or.inl ⟨rfl, ?_⟩) hHeld ?_
        rotate_left
        · intro w0 hS0
          try dsimp only at hS0
          go_simp
          try with_reducible rfl
        simp only [List.getElem_toArray, List.getElem_cons_zero, List.getElem_cons_succ, Act.put, List.setIfInBounds_toArray, List.set_cons_zero, List.set_cons_succ]
        refine wpTail.take (i := 5) (v := ?_) rfl (by kernel_rfl) (by kernel_rfl) (by kernel_rfl) (by kernel_rfl) (by kernel_rfl) (fun _ _ _ h => h) (Or.inl ⟨rfl, ?_⟩) hHeld ?_
        rotate_left
        · intro w0 hS0
          try dsimp only at hS0
          go_simp
          try with_reducible rfl
        simp only [List.getElem_toArray, List.getElem_cons_zero, List.getElem_cons_succ, Act.put, List.setIfInBounds_toArray, List.set_cons_zero, List.set_cons_succ]
        refine wpTail.ready (rs := [6]) (by kernel_rfl) (by simp) ?_
        refine AllTail.cons rfl (fun K hK => ?_) AllTail.nil
        rw [if_pos (by rfl)]
        go_simp
        refine hK.out _ _ (fun _ => HS.out _ (Below.heap_alloc _ _ _ HRL.out) (Below.heap_alloc _ _ _ HXL.out)) (fun hHeld => ?_)
        replace hHeld := hHeld (by decide)
        refine wpTail.ready (rs := [7]) (by kernel_rfl) (by simp) ?_
        refine AllTail.cons rfl (fun K hK => ?_) AllTail.nil
        refine step_app (m := 1) T_dseat (HOW.out.drew.alloc _) (heap_alloc_new W.drew _) rfl rfl rfl rfl rfl (by omega) (by simp [Value.oneCell']) ?_ ?_ ?_ ?_
        · omega
        · omega
        · exact Nat.zero_le _
        intro g cap w6 hown6 hgr6 hg6 hgl6
        have hks : ∀ j, j < W.heap.size → j = r ∨ j = xb → w6.heap[j]? = W.heap[j]? := fun j hj hor => by
          rw [hgr6.block j (by simp; omega) (fun e => by
            obtain ⟨e1, e2⟩ := HNE.out j e.symm
            exact hor.elim e1 e2)]
          exact Below.heap_alloc _ _ _ hj
        refine hK.out _ _ (fun _ => HS.out _ (hks r HRL.out (.inl rfl)) (hks xb HXL.out (.inr rfl))) (fun hHeld => ?_)
        replace hHeld := hHeld (by decide)
        have hm6 : Mod (Value.slice a3 st3.length cp3).ownBlock.toList W w6 := (((Mod.refl _ W).drew).alloc _).grown hgr6 (fun k hk => .inl (Option.mem_toList.2 hk))
        have hsn := HSN.out w6 _ (by rw [HV3.out]; exact hm6) hown6 (fun j hj => by
          obtain rfl : g = j := by simpa [Value.ownBlock] using hj
          rw [HV3.out]
          exact hg6.imp id (fun e => by rw [e]; simp))
        obtain ⟨fz6, hP6, hM6, hF6⟩ := hsn
        have HP6 := Lib.hid hP6
        have HM6 := Lib.hid hM6
        have HF6 := Lib.hid hF6
        clear hP6 hM6 hF6 hm6 hown6 hgr6 hg6 hks
        refine wpTail.take (i := 8) (v := ?_) rfl (by kernel_rfl) (by kernel_rfl) (by kernel_rfl) (by kernel_rfl) (by kernel_rfl) (fun _ _ _ h => h) (Or.inl ⟨rfl, ?_⟩) hHeld ?_
        rotate_left
        · intro w0 hS0
          try dsimp only at hS0
          go_simp
          try with_reducible rfl
        simp only [List.getElem_toArray, List.getElem_cons_zero, List.getElem_cons_succ, Act.put, List.setIfInBounds_toArray, List.set_cons_zero, List.set_cons_succ]
        refine wpTail.take (i := 9) (v := ?_) rfl (by kernel_rfl) (by kernel_rfl) (by kernel_rfl) (by kernel_rfl) (by kernel_rfl) (fun _ _ _ h => h) (Or.inl ⟨rfl, ?_⟩) hHeld ?_
        rotate_left
        · intro w0 hS0
          try dsimp only at hS0
          go_simp
          try with_reducible rfl
        simp only [List.getElem_toArray, List.getElem_cons_zero, List.getElem_cons_succ, Act.put, List.setIfInBounds_toArray, List.set_cons_zero, List.set_cons_succ]
        refine wpTail.ready (rs := [10]) (by kernel_rfl) (by simp) ?_
        refine AllTail.cons rfl (fun K hK => ?_) AllTail.nil
        rw [if_pos (by rfl)]
        go_simp
        refine hK.out _ _ (fun h => absurd rfl h) (fun _ => ?_)
        refine wpTail.done (by kernel_rfl) ?_ _
        go_wp2_with fail
        go_ret3
        unfold DApplyQ
        rw [HE.out]
        exact ⟨rfl, _, KF, _, HP6.out, HFIN.out _ _ HM6.out HF6.out⟩
      | false =>
        rw [hn] at n12
        have HPP : Hid (connP (lookS n.client.data.toList s.seats) n = true) := Lib.hid (by rw [HO.out]; unfold connP; simp [HXC.out, hn])
        have HCL := Lib.hid hn
        clear hn
        have HE := Lib.hid (dconn_yes n s HK.out HT.out HBAD.out true (x.l) HPP.out (by rw [HO.out] at HPP ⊢; unfold connS; rw [HPP.out]; rfl))
        rw [HCL.out] at HE
        go_enter Tryz.func20, Tryz.ntmps20
        go_wp2_with fail
        refine HF.out.mono ?_
        rintro e w' ⟨rfl, rfl⟩
        generalize hw1 : w.alloc (.cells n.cells.toArray 32) = w1 at *
        have hsz1 : w1.heap.size = w.heap.size + 1 := by rw [← hw1]; simp
        have hbl := (Below.refl w1.heap.size w1).alloc (Nat.le_refl _) (.cells #[.slice none 0 0] 93)
        have hbx := hbl.alloc hbl.size (.cells #[.string n.client, .int .i64 n.conn, .bool false, .pointer (some ⟨w1.heap.size, 0, none⟩)] 91)
        have HXB0 := Lib.hid (heap_alloc_new (w1.alloc (.cells #[.slice none 0 0] 93)) (.cells #[.string n.client, .int .i64 n.conn, .bool false, .pointer (some ⟨w1.heap.size, 0, none⟩)] 91))
        obtain ⟨xb, hxb⟩ : ∃ xb, (w1.alloc (.cells #[.slice none 0 0] 93)).heap.size = xb := ⟨_, rfl⟩
        have hxb2 : xb = w1.heap.size + 1 := by rw [← hxb]; simp
        rw [hxb] at HXB0
        have hbs := hbx.setCell (p := ⟨xb, 3, none⟩) (by show w1.heap.size ≤ xb; omega) (.pointer (some ⟨(bl n.client.data.toList).1, 0, none⟩))
        have HXB1 := Lib.hid (heap_setCell_same _ xb 3 _ _ (.pointer (some ⟨(bl n.client.data.toList).1, 0, none⟩)) HXB0.out)
        have c0x := (hbx.cell (World.block_lt_of_cell? _ _ c0)).trans c0
        have d3x := (hbx.cell (World.block_lt_of_cell? _ _ d3)).trans d3
        have fzx : (((w1.alloc (.cells #[.slice none 0 0] 93)).alloc (.cells #[.string n.client, .int .i64 n.conn, .bool false, .pointer (some ⟨w1.heap.size, 0, none⟩)] 91))).frozen? ⟨xb, 3, none⟩ = false := frozen_of_row _ _ _ _ _ HXB0.out
        obtain ⟨W2, hW2⟩ : ∃ W2, (((w1.alloc (.cells #[.slice none 0 0] 93)).alloc (.cells #[.string n.client, .int .i64 n.conn, .bool false, .pointer (some ⟨w1.heap.size, 0, none⟩)] 91))).setCell ⟨xb, 3, none⟩ (.pointer (some ⟨(bl n.client.data.toList).1, 0, none⟩)) = W2 := ⟨_, rfl⟩
        have hs2 : w1.heap.size + 2 ≤ W2.heap.size := by rw [← hW2]; simp [World.setCell]
        rw [hW2] at HXB1 hbs
        have HP2 := Lib.hid (HP.out.below hbs)
        have HB2 := Lib.hid (HB.out.trans (hbs.mono (by omega)))
        have HG := Lib.hid (dgone_any r kg v KF bl s k W2 HP2.out HLL.out hkl (fun d z hd => by
          rw [HDP.out, lookS_drop] at hd
          split at hd
          · cases hd
          · exact hd))
        rw [HDP.out] at HG
        have HDL0 : Hid (DRep W2 (bl n.client.data.toList).1 x.l (bl n.client.data.toList).2) := Lib.hid (HP2.out.fam.rep _ _ HO.out)
        have HSZ := Lib.hid hsz1
        have HSX := Lib.hid hxb2
        have HS2 := Lib.hid hs2
        clear hbl hbx hbs HXB0 hsz1 hxb2 hs2
        go_wp2_with fail
        rw [hxb, hW2] at *
        refine HG.out.mono ?_
        rintro e W ⟨rfl, v3, hP3, hU3, hM3, hv3⟩
        have HN3 : Hid (lookS n.client.data.toList (dropS n.client.data.toList s.seats) = none) := Lib.hid (lookS_none_drop _ _)
        have HNEW : Hid (∀ j, w.heap.size ≤ j → j < W2.heap.size → j ∉ footD r v3 KF bl (dropS n.client.data.toList s.seats)) := Lib.hid (fun j hj1 hj2 hin => by
          rcases hU3.2 j hin with h1 | h1
          · have := HLT.out j h1; omega
          · omega)
        have HP3 : Hid (DParts W r kg v3 KF bl ⟨dropS n.client.data.toList s.seats, s.kept⟩) := Lib.hid hP3
        have hrl : r < w.heap.size := HLT.out r (mem_footD.2 (.inl rfl))
        have HXB := Lib.hid ((hM3.block xb (by have := HSX.out; have := HS2.out; omega) (fun hj => by have := HSX.out; have := HSZ.out; rw [List.mem_singleton.1 hj] at *; omega)).trans HXB1.out)
        have HXN : Hid (xb ∉ footD r v3 KF bl (dropS n.client.data.toList s.seats)) := Lib.hid (HNEW.out xb (by have := HSX.out; have := HSZ.out; omega) (by have := HSX.out; have := HS2.out; omega))
        have HDL := Lib.hid (HDL0.out.mod hM3 fun j hj hr => (HH.out.off _ _ HO.out j hj).1 (List.mem_singleton.1 hr))
        have HLF : Hid (∀ j ∈ (bl n.client.data.toList).2, j ∉ footD r v3 KF bl (dropS n.client.data.toList s.seats)) := Lib.hid (fun j hj hin => by
          obtain ⟨g1, g2, g3⟩ := HH.out.off _ _ HO.out j hj
          have hjl := HH.out.fam.lt dseat_local HO.out j hj
          rcases mem_footD.1 hin with g | g | g | ⟨d, z, hd, g⟩
          · exact g1 g
          · have := hv3 j g; have := HB2.out.size; omega
          · exact g3 g
          · rw [lookS_drop] at hd
            split at hd
            · cases hd
            · rename_i hdc
              exact hdc (HH.out.fam.inj d z _ x hd HO.out j g hj))
        have HLEN : Hid ((dropS n.client.data.toList s.seats).length < 1000000) := Lib.hid (Nat.lt_of_le_of_lt (List.length_filter_le _ _) HLL.out)
        have HFIN : Hid (∀ v' X, Mod (footD r v3 KF bl (dropS n.client.data.toList s.seats)) W X → (∀ k ∈ footD r v' KF (updF bl n.client.data.toList ((bl n.client.data.toList).1, (bl n.client.data.toList).2)) (dropS n.client.data.toList s.seats ++ [(n.client.data.toList, ⟨x.l, n.conn, false⟩)]), k ∈ footD r v3 KF bl (dropS n.client.data.toList s.seats) ∨ k ∈ (bl n.client.data.toList).2 ∨ W.heap.size ≤ k) →
            Upd (footD r v KF bl s.seats) (footD r v' KF (updF bl n.client.data.toList ((bl n.client.data.toList).1, (bl n.client.data.toList).2)) (dropS n.client.data.toList s.seats ++ [(n.client.data.toList, ⟨x.l, n.conn, false⟩)])) w X) := Lib.hid (fun v' X hm hf => by
          have hu := upd_pre HB2.out hU3
          refine ⟨hu.1.trans hm hu.2, fun k hk => ?_⟩
          rcases hf k hk with h1 | h1 | h1
          · exact hu.2 k h1
          · exact .inl (mem_footD.2 (.inr (.inr (.inr ⟨_, x, HO.out, h1⟩))))
          · right; exact Nat.le_trans hu.1.size h1)
        clear hP3 hU3 hM3 hv3 hW2 hxb hrl HLT HH HNEW HDL0 HXB1 HG HP2 HB2 c0 n0 n2 n3 n4 n12 d1 d2 d3 HSX HS2 HSZ HP HB HF
        generalize dropS n.client.data.toList s.seats = st3 at *
        generalize hlb : (bl n.client.data.toList).1 = lb at *
        generalize hL : x.l = L at *
        clear hlb hL
        go_wp2_with fail
        obtain ⟨a3, cp3, hv3, -, -, -⟩ := HP3.out.held
        have hrow3 := HP3.out.row
        rw [hv3] at hrow3
        have HOW : Hid (W.ownsRow 0 91 4 (.slice a3 st3.length cp3) st3.length (seatsV bl st3)) := Lib.hid hrow3
        have HV3 := Lib.hid hv3
        have HS : Hid (∀ X : World, X.heap[r]? = W.heap[r]? → X.heap[xb]? = W.heap[xb]? → X.cell? ⟨r, 0, none⟩ = some (.slice a3 st3.length cp3) ∧ X.cell? ⟨xb, 0, none⟩ = some (.string n.client) ∧ X.cell? ⟨xb, 1, none⟩ = some (.int .i64 n.conn) ∧ X.cell? ⟨xb, 2, none⟩ = some (.bool false) ∧ X.cell? ⟨xb, 3, none⟩ = some (.pointer (some ⟨lb, 0, none⟩))) := Lib.hid (fun X hX1 hX2 => by
          have ht := hX1.trans HP3.out.top
          rw [hv3] at ht
          have hx := hX2.trans HXB.out
          exact ⟨cell_of_row X r 0 _ _ _ ht, cell_of_row X xb 0 _ _ _ hx, cell_of_row X xb 1 _ _ _ hx, cell_of_row X xb 2 _ _ _ hx, cell_of_row X xb 3 _ _ _ hx⟩)
        have HNE : Hid (∀ j, (Value.slice a3 st3.length cp3).ownBlock = some j → j ≠ r ∧ j ≠ xb) := Lib.hid (fun j hj => ⟨fun e => HP3.out.vr (by rw [hv3, hj, e]), fun e => HXN.out (mem_footD.2 (.inr (.inl (by rw [hv3, hj, e]))))⟩)
        have HRL := Lib.hid (Array.getElem?_eq_some_iff.1 HP3.out.top).1
        have HXL := Lib.hid (Array.getElem?_eq_some_iff.1 HXB.out).1
        have HSN := Lib.hid (fun X v' => HP3.out.snoc (X := X) (v' := v') n.client.data.toList ⟨L, n.conn, false⟩ HN3.out HDL.out HLF.out)
        rw [str_mk] at HSN
        have hlen3 := HLEN.out
        clear hrow3 hv3
        refine wp_region_tail (S := fun X => X.cell? ⟨r, 0, none⟩ = some (.slice a3 st3.length cp3) ∧ X.cell? ⟨xb, 0, none⟩ = some (.string n.client) ∧ X.cell? ⟨xb, 1, none⟩ = some (.int .i64 n.conn) ∧ X.cell? ⟨xb, 2, none⟩ = some (.bool false) ∧ X.cell? ⟨xb, 3, none⟩ = some (.pointer (some ⟨lb, 0, none⟩))) 10 (by kernel_rfl) (HS.out _ rfl rfl) (fun hHeld => ?_)
        refine wpTail.take (i := 0) (v := ?_) rfl (by kernel_rfl) (by kernel_rfl) (by kernel_rfl) (by kernel_rfl) (by kernel_rfl) (fun _ _ _ h => h) (Or.inl ⟨rfl, ?_⟩) hHeld ?_
        rotate_left
        · intro w0 hS0
          try dsimp only at hS0
          go_simp
          try with_reducible rfl
        simp only [List.getElem_toArray, List.getElem_cons_zero, Act.put, List.setIfInBounds_toArray, List.set_cons_zero, List.set_cons_succ]
        refine wpTail.take (i := 1) (v := ?_) rfl (by kernel_rfl) (by kernel_rfl) (by kernel_rfl) (by kernel_rfl) (by kernel_rfl) (fun _ _ _ h => h) (Or.inl ⟨rfl, ?_⟩) hHeld ?_
        rotate_left
        · intro w0 hS0
          try dsimp only at hS0
          go_simp
          try with_reducible rfl
        simp only [List.getElem_toArray, List.getElem_cons_zero, List.getElem_cons_succ, Act.put, List.setIfInBounds_toArray, List.set_cons_zero, List.set_cons_succ]
        refine wpTail.take (i := 2) (v := ?_) rfl (by kernel_rfl) (by kernel_rfl) (by kernel_rfl) (by kernel_rfl) (by kernel_rfl) (fun _ _ _ h => h) (Or.inl ⟨rfl, ?_⟩) hHeld ?_
        rotate_left
        · intro w0 hS0
          try dsimp only at hS0
          go_simp
          try with_reducible rfl
        simp only [List.getElem_toArray, List.getElem_cons_zero, List.getElem_cons_succ, Act.put, List.setIfInBounds_toArray, List.set_cons_zero, List.set_cons_succ]
        refine wpTail.take (i := 3) (v := ?_) rfl (by kernel_rfl) (by kernel_rfl) (by kernel_rfl) (by kernel_rfl) (by kernel_rfl) (fun _ _ _ h => h) (Or.inl ⟨rfl, ?_⟩) hHeld ?_
        rotate_left
        · intro w0 hS0
          try dsimp only at hS0
          go_simp
          try with_reducible rfl
        simp only [List.getElem_toArray, List.getElem_cons_zero, List.getElem_cons_succ, Act.put, List.setIfInBounds_toArray, List.set_cons_zero, List.set_cons_succ]
        refine wpTail.take (i := 4) (v := ?_) rfl (by kernel_rfl) (by kernel_rfl) (by kernel_rfl) (by kernel_rfl) (by kernel_rfl) (fun _ _ _ h => h) (Or.inl ⟨rfl, ?_⟩) hHeld ?_
        rotate_left
        · intro w0 hS0
          try dsimp only at hS0
          go_simp
          try with_reducible rfl
        simp only [List.getElem_toArray, List.getElem_cons_zero, List.getElem_cons_succ, Act.put, List.setIfInBounds_toArray, List.set_cons_zero, List.set_cons_succ]
        refine wpTail.take (i := 5) (v := ?_) rfl (by kernel_rfl) (by kernel_rfl) (by kernel_rfl) (by kernel_rfl) (by kernel_rfl) (fun _ _ _ h => h) (Or.inl ⟨rfl, ?_⟩) hHeld ?_
        rotate_left
        · intro w0 hS0
          try dsimp only at hS0
          go_simp
          try with_reducible rfl
        simp only [List.getElem_toArray, List.getElem_cons_zero, List.getElem_cons_succ, Act.put, List.setIfInBounds_toArray, List.set_cons_zero, List.set_cons_succ]
        refine wpTail.ready (rs := [6]) (by kernel_rfl) (by simp) ?_
        refine AllTail.cons rfl (fun K hK => ?_) AllTail.nil
        rw [if_pos (by rfl)]
        go_simp
        refine hK.out _ _ (fun _ => HS.out _ (Below.heap_alloc _ _ _ HRL.out) (Below.heap_alloc _ _ _ HXL.out)) (fun hHeld => ?_)
        replace hHeld := hHeld (by decide)
        refine wpTail.ready (rs := [7]) (by kernel_rfl) (by simp) ?_
        refine AllTail.cons rfl (fun K hK => ?_) AllTail.nil
        refine step_app (m := 1) T_dseat (HOW.out.drew.alloc _) (heap_alloc_new W.drew _) rfl rfl rfl rfl rfl (by omega) (by simp [Value.oneCell']) ?_ ?_ ?_ ?_
        · omega
        · omega
        · exact Nat.zero_le _
        intro g cap w6 hown6 hgr6 hg6 hgl6
        have hks : ∀ j, j < W.heap.size → j = r ∨ j = xb → w6.heap[j]? = W.heap[j]? := fun j hj hor => by
          rw [hgr6.block j (by simp; omega) (fun e => by
            obtain ⟨e1, e2⟩ := HNE.out j e.symm
            exact hor.elim e1 e2)]
          exact Below.heap_alloc _ _ _ hj
        refine hK.out _ _ (fun _ => HS.out _ (hks r HRL.out (.inl rfl)) (hks xb HXL.out (.inr rfl))) (fun hHeld => ?_)
        replace hHeld := hHeld (by decide)
        have hm6 : Mod (Value.slice a3 st3.length cp3).ownBlock.toList W w6 := (((Mod.refl _ W).drew).alloc _).grown hgr6 (fun k hk => .inl (Option.mem_toList.2 hk))
        have hsn := HSN.out w6 _ (by rw [HV3.out]; exact hm6) hown6 (fun j hj => by
          obtain rfl : g = j := by simpa [Value.ownBlock] using hj
          rw [HV3.out]
          exact hg6.imp id (fun e => by rw [e]; simp))
        obtain ⟨fz6, hP6, hM6, hF6⟩ := hsn
        have HP6 := Lib.hid hP6
        have HM6 := Lib.hid hM6
        have HF6 := Lib.hid hF6
        clear hP6 hM6 hF6 hm6 hown6 hgr6 hg6 hks
        refine wpTail.take (i := 8) (v := ?_) rfl (by kernel_rfl) (by kernel_rfl) (by kernel_rfl) (by kernel_rfl) (by kernel_rfl) (fun _ _ _ h => h) (Or.inl ⟨rfl, ?_⟩) hHeld ?_
        rotate_left
        · intro w0 hS0
          try dsimp only at hS0
          go_simp
          try with_reducible rfl
        simp only [List.getElem_toArray, List.getElem_cons_zero, List.getElem_cons_succ, Act.put, List.setIfInBounds_toArray, List.set_cons_zero, List.set_cons_succ]
        refine wpTail.take (i := 9) (v := ?_) rfl (by kernel_rfl) (by kernel_rfl) (by kernel_rfl) (by kernel_rfl) (by kernel_rfl) (fun _ _ _ h => h) (Or.inl ⟨rfl, ?_⟩) hHeld ?_
        rotate_left
        · intro w0 hS0
          try dsimp only at hS0
          go_simp
          try with_reducible rfl
        simp only [List.getElem_toArray, List.getElem_cons_zero, List.getElem_cons_succ, Act.put, List.setIfInBounds_toArray, List.set_cons_zero, List.set_cons_succ]
        refine wpTail.ready (rs := [10]) (by kernel_rfl) (by simp) ?_
        refine AllTail.cons rfl (fun K hK => ?_) AllTail.nil
        rw [if_pos (by rfl)]
        go_simp
        refine hK.out _ _ (fun h => absurd rfl h) (fun _ => ?_)
        refine wpTail.done (by kernel_rfl) ?_ _
        go_wp2_with fail
        go_ret3
        unfold DApplyQ
        rw [HE.out]
        exact ⟨rfl, _, KF, _, HP6.out, HFIN.out _ _ HM6.out HF6.out⟩
  · have HE := Lib.hid (dconn_no n s hk ht (by rw [ho]; unfold connBad; simp; omega))
    have hq : (x.conn != 0) = true := bne_iff_ne.2 hc2
    clear ho hxo hc2
    go_enter Tryz.func20, Tryz.ntmps20
    go_wp2_with fail
    refine HF.out.mono ?_
    rintro e w' ⟨rfl, rfl⟩
    go_wp2_with fail
    go_ret3
    unfold DApplyQ
    rw [HE.out]
    exact ⟨rfl, v, KF, bl, HP.out, Mod.of_below HB.out _, fun k hk => .inl hk⟩
end Go.Proofs.YthfeckndkmhieaaGreatDoor
