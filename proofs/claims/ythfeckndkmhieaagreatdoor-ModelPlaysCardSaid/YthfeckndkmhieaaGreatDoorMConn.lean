/- The model: a connection begins (walked). -/
import Derived.Test.YthfeckndkmhieaaGreatDoorQL
namespace Go.Proofs.YthfeckndkmhieaaGreatDoor
open Go Go.RowKit Go.Maps

def connM (n : Note) (s : MS) : (Bool × Bool) × MS :=
  if connBad (lookS n.client.data.toList s.seats) n then ((false, false), s)
  else ((connP (lookS n.client.data.toList s.seats) n, true), ⟨dropS n.client.data.toList s.seats ++ [(n.client.data.toList, connS (lookS n.client.data.toList s.seats) n)], s.kept⟩)
theorem note_cell {w : World} {b : Nat} {n : Note} {T : TypeId} {fr : Nat × Nat} (h : w.heap[b]? = some (.cells n.cells.toArray T fr)) :
    w.cell? ⟨b, 0, none⟩ = some (.int .u8 n.kind) ∧ w.cell? ⟨b, 2, none⟩ = some (.int .i64 n.conn) ∧ w.cell? ⟨b, 3, none⟩ = some (.string n.client) ∧ w.cell? ⟨b, 4, none⟩ = some (.int .u8 n.pk.ty) ∧ w.cell? ⟨b, 12, none⟩ = some (.bool n.pk.clean) ∧ w.cell? ⟨b, 26, none⟩ = some (.slice n.pk.subsA n.pk.subs.length n.pk.subsC) ∧
    w.cell? ⟨b, 28, none⟩ = some (.string n.msg.t) ∧ w.cell? ⟨b, 29, none⟩ = some (.string n.msg.p) ∧ w.cell? ⟨b, 30, none⟩ = some (.int .u8 n.msg.q) ∧ w.cell? ⟨b, 31, none⟩ = some (.bool n.msg.r) :=
  ⟨cell_of_row w b 0 _ _ _ h, cell_of_row w b 2 _ _ _ h, cell_of_row w b 3 _ _ _ h, cell_of_row w b 4 _ _ _ h, cell_of_row w b 12 _ _ _ h, cell_of_row w b 26 _ _ _ h, cell_of_row w b 28 _ _ _ h, cell_of_row w b 29 _ _ _ h, cell_of_row w b 30 _ _ _ h, cell_of_row w b 31 _ _ _ h⟩
theorem str_mk (s : ByteArray) : (⟨s.data.toList.toArray⟩ : ByteArray) = s := by simp
set_option maxRecDepth 100000 in
set_option maxHeartbeats 2000000 in
theorem mconnect_any (m N : Nat) (s : MS) (F : List Nat) (n : Note) (w : World) (h : MRep w m N s F) (hN : N < 10000) (hc : n.client.size ≤ maxLen) :
    Calls Tryz.prog 41 #[.pointer (some ⟨m, 0, none⟩), .agg n.cells.toArray] w fun e w' => e = .returned (.tuple #[.bool (connM n s).1.1, .bool (connM n s).1.2]) ∧ ∃ F', MRep w' m (N + 1) (connM n s).2 F' ∧ Upd F F' w w' := by
  obtain ⟨sb, kg, KF, bl, h, rfl⟩ := h
  have hnew := heap_alloc_new w (.cells n.cells.toArray 32)
  have hba := (Below.refl w.heap.size w).alloc (Nat.le_refl _) (.cells n.cells.toArray 32)
  have h1 := h.mod (Mod.of_below hba []) (by simp)
  obtain ⟨-, n2, n3, -, n12, -⟩ := note_cell hnew
  have HB := Lib.hid hba
  have HC := Lib.hid (mseat_any m N sb kg KF bl s n.client.data.toList _ h1 (by show n.client.data.toList.length ≤ _; simpa using hc))
  rw [str_mk] at HC
  have HR := Lib.hid h1
  have HNB := Lib.hid hnew
  have HMB := Lib.hid (h.lt m (mem_footM.2 (.inl rfl)))
  have HSB := Lib.hid (h.lt sb (mem_footM.2 (.inr (.inl rfl))))
  have HBB : Hid (∀ c x, lookS c s.seats = some x → (bl c).1 < w.heap.size) := Lib.hid fun c x hx => h.fam.lt seat_local hx _ (by obtain ⟨lb, G, -, -, -, hF⟩ := h.fam.rep c x hx; rw [hF]; simp)
  clear hnew h h1 hba
  obtain ⟨c, hce⟩ : ∃ c, n.client.data.toList = c := ⟨_, rfl⟩
  have HCE := Lib.hid hce
  have HM : Hid (connM n s = if connBad (lookS c s.seats) n then ((false, false), s) else ((connP (lookS c s.seats) n, true), ⟨dropS c s.seats ++ [(c, connS (lookS c s.seats) n)], s.kept⟩)) := Lib.hid (by rw [← hce]; rfl)
  rw [hce] at HC
  clear hce
  cases ho : lookS c s.seats with
  | none =>
    rw [seatB_none ho] at HC
    simp only [ptrV] at HC
    rw [ho] at HM
    have HO := Lib.hid ho
    clear ho
    by_cases hc1 : n.conn < 1
    · have HM1 := Lib.hid (show connM n s = ((false, false), s) by rw [HM.out]; unfold connBad; simp [hc1])
      go_enter Tryz.func41, Tryz.ntmps41
      go_wp2_with fail
      refine HC.out.mono ?_
      rintro e w' ⟨rfl, rfl⟩
      go_wp2_with fail
      go_ret2
      rw [HM1.out]
      exact ⟨rfl, _, ⟨sb, kg, KF, bl, HR.out.monoN (Nat.le_succ _), rfl⟩, Mod.of_below HB.out _, fun k hk => .inl hk⟩
    · have HM1 := Lib.hid (show connM n s = ((false, true), ⟨dropS c s.seats ++ [(c, ⟨[], n.conn, n.pk.clean⟩)], s.kept⟩) by rw [HM.out]; unfold connBad connP connS; simp [hc1])
      have c0 := cell_of_row _ m 0 _ _ _ HR.out.top
      simp only [List.getElem?_toArray, List.getElem?_cons_zero] at c0
      obtain ⟨D, hD1, hD2, hD3⟩ := HR.out.map
      have hsz : Maps.size D < maxLen := by unfold maxLen; omega
      have HFR := Lib.hid (HR.out.fresh c n.conn n.pk.clean hD1 hD2 hD3 (lb := w.heap.size + 1) (tb := w.heap.size + 1 + 1) (by simp) (by simp) (nb := w.heap.size) (by have := HSB.out; omega) HNB.out)
      have hmb : m < w.heap.size := HMB.out
      have hkey := skey (s := n.client) hc
      rw [HCE.out] at hkey
      clear HM hD2 hD3
      go_enter Tryz.func41, Tryz.ntmps41
      go_wp2_with fail
      refine HC.out.mono ?_
      rintro e w' ⟨rfl, rfl⟩
      go_wp2_with fail
      refine (snew _).mono ?_
      rintro e w2 ⟨rfl, -, rfl⟩
      go_wp2_with fail
      have hown2 := ((hD1.alloc (.cells #[.slice none 0 0] 106)).alloc (.cells #[.pointer (some ⟨w.heap.size + 1, 0, none⟩), .int .i64 0, .bool false] 77)).drew
      have HBZ : Hid (Below w.heap.size w (((w.alloc (.cells n.cells.toArray 32)).alloc (.cells #[.slice none 0 0] 106)).alloc (.cells #[.pointer (some ⟨w.heap.size + 1, 0, none⟩), .int .i64 0, .bool false] 77))) := Lib.hid ((HB.out.alloc HB.out.size _).alloc (HB.out.alloc HB.out.size _).size _)
      have hbl3 : Below (w.alloc (.cells n.cells.toArray 32)).heap.size (w.alloc (.cells n.cells.toArray 32)) (((w.alloc (.cells n.cells.toArray 32)).alloc (.cells #[.slice none 0 0] 106)).alloc (.cells #[.pointer (some ⟨w.heap.size + 1, 0, none⟩), .int .i64 0, .bool false] 77)) := ((Below.refl _ _).alloc (Nat.le_refl _) _).alloc (by simp) _
      have c0z := (hbl3.cell (p := ⟨m, 0, none⟩) (World.block_lt_of_cell? _ _ c0)).trans c0
      have n3z := (hbl3.cell (p := ⟨w.heap.size, 3, none⟩) (World.block_lt_of_cell? _ _ n3)).trans n3
      clear hbl3 c0 n2 n3 n12
      generalize (((w.alloc (.cells n.cells.toArray 32)).alloc (.cells #[.slice none 0 0] 106)).alloc (.cells #[.pointer (some ⟨w.heap.size + 1, 0, none⟩), .int .i64 0, .bool false] 77)) = w3 at *
      go_still_tail 7, (by kernel_rfl)
      change wpList _ _ _ _ _ w3.drew
      go_wp2_with (first | (at_mapUpdate; refine wpList_mapUpdate_own _ rfl _ _ _ 42 rfl 9 73 kS Tryz.underlying42 _ sb _ _ rfl hown2 hsz _ _ _ rfl rfl hkey _ [] (ptrElem_mk _) ?_; intro w4 hown4 hgrow4; obtain ⟨e1, e2, e3, e4, HF⟩ := HFR.out w4 _ hown4 hgrow4; obtain ⟨-, q2, -⟩ := note_cell e1; obtain ⟨-, -, -, -, q12, -⟩ := note_cell e3; obtain ⟨-, t1, -⟩ := cells3 e2; obtain ⟨-, -, t2⟩ := cells3 e4; have u1 := frozen_of_row _ _ 1 _ _ e2; have u2 := frozen_of_row _ _ 2 _ _ e4; clear hown4 hgrow4 hown2 e1 e2 e3 e4) | fail)
      go_ret2
      rw [HM1.out]
      obtain ⟨F1, g1, g2⟩ := HF.out
      exact ⟨rfl, F1, g1, upd_pre HB.out g2⟩
  | some x =>
    rw [seatB_some ho] at HC
    simp only [ptrV] at HC
    rw [ho] at HM
    have HO := Lib.hid ho
    obtain ⟨lb, G, d0, d1, d2, -⟩ := (HR.out.fam.rep c x ho).cells
    clear ho
    by_cases hc1 : n.conn < 1
    · have HM1 := Lib.hid (show connM n s = ((false, false), s) by rw [HM.out]; unfold connBad; simp [hc1])
      clear HM
      go_enter Tryz.func41, Tryz.ntmps41
      go_wp2_with fail
      refine HC.out.mono ?_
      rintro e w' ⟨rfl, rfl⟩
      go_wp2_with fail
      go_ret2
      rw [HM1.out]
      exact ⟨rfl, _, ⟨sb, kg, KF, bl, HR.out.monoN (Nat.le_succ _), rfl⟩, Mod.of_below HB.out _, fun k hk => .inl hk⟩
    · by_cases hc2 : 0 < x.conn
      · have HM1 := Lib.hid (show connM n s = ((false, false), s) by rw [HM.out]; unfold connBad; simp [hc2])
        clear HM
        go_enter Tryz.func41, Tryz.ntmps41
        go_wp2_with fail
        refine HC.out.mono ?_
        rintro e w' ⟨rfl, rfl⟩
        go_wp2_with fail
        go_ret2
        rw [HM1.out]
        exact ⟨rfl, _, ⟨sb, kg, KF, bl, HR.out.monoN (Nat.le_succ _), rfl⟩, Mod.of_below HB.out _, fun k hk => .inl hk⟩
      · have HXE : Hid (connM n s = ((!x.clean && !n.pk.clean, true), ⟨dropS c s.seats ++ [(c, ⟨if !x.clean && !n.pk.clean then x.l else [], n.conn, n.pk.clean⟩)], s.kept⟩)) := Lib.hid (by rw [HM.out]; unfold connBad connP connS; simp [hc1, hc2, connP])
        clear HM
        cases hx : x.clean with
        | true =>
          rw [hx] at HXE d2
          have HM1 := Lib.hid (show connM n s = ((false, true), ⟨dropS c s.seats ++ [(c, ⟨[], n.conn, n.pk.clean⟩)], s.kept⟩) by rw [HXE.out]; simp)
          clear HXE
          have c0 := cell_of_row _ m 0 _ _ _ HR.out.top
          simp only [List.getElem?_toArray, List.getElem?_cons_zero] at c0
          obtain ⟨D, hD1, hD2, hD3⟩ := HR.out.map
          have hsz : Maps.size D < maxLen := by unfold maxLen; omega
          have HFR := Lib.hid (HR.out.fresh c n.conn n.pk.clean hD1 hD2 hD3 (lb := w.heap.size + 1) (tb := w.heap.size + 1 + 1) (by simp) (by simp) (nb := w.heap.size) (by have := HSB.out; omega) HNB.out)
          have hmb : m < w.heap.size := HMB.out
          have hkey := skey (s := n.client) hc
          rw [HCE.out] at hkey
          clear hD2 hD3
          go_enter Tryz.func41, Tryz.ntmps41
          go_wp2_with fail
          refine HC.out.mono ?_
          rintro e w' ⟨rfl, rfl⟩
          go_wp2_with fail
          refine (snew _).mono ?_
          rintro e w2 ⟨rfl, -, rfl⟩
          go_wp2_with fail
          have hown2 := ((hD1.alloc (.cells #[.slice none 0 0] 106)).alloc (.cells #[.pointer (some ⟨w.heap.size + 1, 0, none⟩), .int .i64 0, .bool false] 77)).drew
          have HBZ : Hid (Below w.heap.size w (((w.alloc (.cells n.cells.toArray 32)).alloc (.cells #[.slice none 0 0] 106)).alloc (.cells #[.pointer (some ⟨w.heap.size + 1, 0, none⟩), .int .i64 0, .bool false] 77))) := Lib.hid ((HB.out.alloc HB.out.size _).alloc (HB.out.alloc HB.out.size _).size _)
          have hbl3 : Below (w.alloc (.cells n.cells.toArray 32)).heap.size (w.alloc (.cells n.cells.toArray 32)) (((w.alloc (.cells n.cells.toArray 32)).alloc (.cells #[.slice none 0 0] 106)).alloc (.cells #[.pointer (some ⟨w.heap.size + 1, 0, none⟩), .int .i64 0, .bool false] 77)) := ((Below.refl _ _).alloc (Nat.le_refl _) _).alloc (by simp) _
          have c0z := (hbl3.cell (p := ⟨m, 0, none⟩) (World.block_lt_of_cell? _ _ c0)).trans c0
          have n3z := (hbl3.cell (p := ⟨w.heap.size, 3, none⟩) (World.block_lt_of_cell? _ _ n3)).trans n3
          clear hbl3 c0 n2 n3 n12
          generalize (((w.alloc (.cells n.cells.toArray 32)).alloc (.cells #[.slice none 0 0] 106)).alloc (.cells #[.pointer (some ⟨w.heap.size + 1, 0, none⟩), .int .i64 0, .bool false] 77)) = w3 at *
          go_still_tail 7, (by kernel_rfl)
          change wpList _ _ _ _ _ w3.drew
          go_wp2_with (first | (at_mapUpdate; refine wpList_mapUpdate_own _ rfl _ _ _ 42 rfl 9 73 kS Tryz.underlying42 _ sb _ _ rfl hown2 hsz _ _ _ rfl rfl hkey _ [] (ptrElem_mk _) ?_; intro w4 hown4 hgrow4; obtain ⟨e1, e2, e3, e4, HF⟩ := HFR.out w4 _ hown4 hgrow4; obtain ⟨-, q2, -⟩ := note_cell e1; obtain ⟨-, -, -, -, q12, -⟩ := note_cell e3; obtain ⟨-, t1, -⟩ := cells3 e2; obtain ⟨-, -, t2⟩ := cells3 e4; have u1 := frozen_of_row _ _ 1 _ _ e2; have u2 := frozen_of_row _ _ 2 _ _ e4; clear hown4 hgrow4 hown2 e1 e2 e3 e4) | fail)
          go_ret2
          rw [HM1.out]
          obtain ⟨F1, g1, g2⟩ := HF.out
          exact ⟨rfl, F1, g1, upd_pre HB.out g2⟩
        | false =>
          cases hn : n.pk.clean with
          | true =>
            rw [hx, hn] at HXE
            rw [hx] at d2
            rw [hn] at n12
            have HM1 := Lib.hid (show connM n s = ((false, true), ⟨dropS c s.seats ++ [(c, ⟨[], n.conn, n.pk.clean⟩)], s.kept⟩) by rw [HXE.out, hn]; simp)
            clear HXE
            have c0 := cell_of_row _ m 0 _ _ _ HR.out.top
            simp only [List.getElem?_toArray, List.getElem?_cons_zero] at c0
            obtain ⟨D, hD1, hD2, hD3⟩ := HR.out.map
            have hsz : Maps.size D < maxLen := by unfold maxLen; omega
            have HFR := Lib.hid (HR.out.fresh c n.conn n.pk.clean hD1 hD2 hD3 (lb := w.heap.size + 1) (tb := w.heap.size + 1 + 1) (by simp) (by simp) (nb := w.heap.size) (by have := HSB.out; omega) HNB.out)
            have hmb : m < w.heap.size := HMB.out
            have hkey := skey (s := n.client) hc
            rw [HCE.out] at hkey
            clear hD2 hD3
            go_enter Tryz.func41, Tryz.ntmps41
            go_wp2_with fail
            refine HC.out.mono ?_
            rintro e w' ⟨rfl, rfl⟩
            go_wp2_with fail
            refine (snew _).mono ?_
            rintro e w2 ⟨rfl, -, rfl⟩
            go_wp2_with fail
            have hown2 := ((hD1.alloc (.cells #[.slice none 0 0] 106)).alloc (.cells #[.pointer (some ⟨w.heap.size + 1, 0, none⟩), .int .i64 0, .bool false] 77)).drew
            have HBZ : Hid (Below w.heap.size w (((w.alloc (.cells n.cells.toArray 32)).alloc (.cells #[.slice none 0 0] 106)).alloc (.cells #[.pointer (some ⟨w.heap.size + 1, 0, none⟩), .int .i64 0, .bool false] 77))) := Lib.hid ((HB.out.alloc HB.out.size _).alloc (HB.out.alloc HB.out.size _).size _)
            have hbl3 : Below (w.alloc (.cells n.cells.toArray 32)).heap.size (w.alloc (.cells n.cells.toArray 32)) (((w.alloc (.cells n.cells.toArray 32)).alloc (.cells #[.slice none 0 0] 106)).alloc (.cells #[.pointer (some ⟨w.heap.size + 1, 0, none⟩), .int .i64 0, .bool false] 77)) := ((Below.refl _ _).alloc (Nat.le_refl _) _).alloc (by simp) _
            have c0z := (hbl3.cell (p := ⟨m, 0, none⟩) (World.block_lt_of_cell? _ _ c0)).trans c0
            have n3z := (hbl3.cell (p := ⟨w.heap.size, 3, none⟩) (World.block_lt_of_cell? _ _ n3)).trans n3
            clear hbl3 c0 n2 n3 n12
            generalize (((w.alloc (.cells n.cells.toArray 32)).alloc (.cells #[.slice none 0 0] 106)).alloc (.cells #[.pointer (some ⟨w.heap.size + 1, 0, none⟩), .int .i64 0, .bool false] 77)) = w3 at *
            go_still_tail 7, (by kernel_rfl)
            change wpList _ _ _ _ _ w3.drew
            go_wp2_with (first | (at_mapUpdate; refine wpList_mapUpdate_own _ rfl _ _ _ 42 rfl 9 73 kS Tryz.underlying42 _ sb _ _ rfl hown2 hsz _ _ _ rfl rfl hkey _ [] (ptrElem_mk _) ?_; intro w4 hown4 hgrow4; obtain ⟨e1, e2, e3, e4, HF⟩ := HFR.out w4 _ hown4 hgrow4; obtain ⟨-, q2, -⟩ := note_cell e1; obtain ⟨-, -, -, -, q12, -⟩ := note_cell e3; obtain ⟨-, t1, -⟩ := cells3 e2; obtain ⟨-, -, t2⟩ := cells3 e4; have u1 := frozen_of_row _ _ 1 _ _ e2; have u2 := frozen_of_row _ _ 2 _ _ e4; clear hown4 hgrow4 hown2 e1 e2 e3 e4) | fail)
            go_ret2
            rw [HM1.out, hn]
            obtain ⟨F1, g1, g2⟩ := HF.out
            rw [hn] at g1 g2
            exact ⟨rfl, F1, g1, upd_pre HB.out g2⟩
          | false =>
            rw [hx, hn] at HXE
            have HM1 := Lib.hid (show connM n s = ((true, true), ⟨dropS c s.seats ++ [(c, ⟨x.l, n.conn, n.pk.clean⟩)], s.kept⟩) by rw [HXE.out, hn]; simp)
            obtain ⟨lb', hb, hb2, HG⟩ := HR.out.again HO.out n.conn n.pk.clean
            have HG2 := Lib.hid (HG _ fun d => lookS_fresh c ⟨x.l, n.conn, n.pk.clean⟩ s.seats d)
            have hne : (bl c).1 ≠ w.heap.size := fun e => by have := HBB.out c x HO.out; omega
            have u1 := frozen_of_row _ _ 1 _ _ hb
            have u2 := frozen_of_row _ _ 2 _ _ hb2
            obtain ⟨-, -, t2⟩ := cells3 hb2
            obtain ⟨-, -, -, -, n12z, -⟩ := note_cell ((Below.heap_setCell _ ⟨(bl c).1, 1, none⟩ (.int .i64 n.conn) w.heap.size (by show w.heap.size ≠ (bl c).1; omega)).trans HNB.out)
            clear HXE HG hb hb2
            go_enter Tryz.func41, Tryz.ntmps41
            go_wp2_with fail
            refine HC.out.mono ?_
            rintro e w' ⟨rfl, rfl⟩
            go_wp2_with fail
            go_ret2
            rw [HM1.out, hn]
            obtain ⟨F1, g1, g2⟩ := HG2.out
            rw [hn] at g1 g2
            exact ⟨rfl, F1, g1, upd_pre HB.out g2⟩
end Go.Proofs.YthfeckndkmhieaaGreatDoor
