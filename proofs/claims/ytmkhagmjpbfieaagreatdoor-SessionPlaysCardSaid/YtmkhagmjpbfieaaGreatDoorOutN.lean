/- Messages that wait, and messages under way: none, publish, Flight, Waits, New, Reset walked. -/
import Derived.Test.YtmkhagmjpbfieaaGreatDoorOutRX
namespace Go.Proofs.YtmkhagmjpbfieaaGreatDoor
open Go Go.RowKit

theorem onone_any (t : Nat) (win most : Int) (o : OT) (F : List Nat) (w : World) (h : OutRep w t win most o F) : Calls Tryz.prog 59 #[.pointer (some ⟨t, 0, none⟩)] w fun e w' => e = .returned (.bool false) ∧ w = w' := by
  obtain ⟨q, p, v, FQ, FP, h, -⟩ := h
  obtain ⟨c0, -⟩ := h.cells
  clear h
  go_enter Tryz.func59, Tryz.ntmps59
  go_wp2_with fail
  go_ret
  exact ⟨rfl, rfl⟩
theorem flight_any (t : Nat) (win most : Int) (o : OT) (F : List Nat) (w : World) (h : OutRep w t win most o F) : Calls Tryz.prog 19 #[.pointer (some ⟨t, 0, none⟩)] w fun e w' => e = .returned (.int .i64 o.row.length) ∧ w = w' := by
  have HN := Lib.hid (onone_any t win most o F w h)
  obtain ⟨q, p, v, FQ, FP, h, -⟩ := h
  obtain ⟨-, -, -, c3⟩ := h.cells
  obtain ⟨a, cap, rfl, -, -, -⟩ := ownsRow_row h.own
  clear h
  go_enter Tryz.func19, Tryz.ntmps19
  go_wp2_with fail
  refine HN.out.mono ?_
  rintro e w1 ⟨rfl, rfl⟩
  go_wp2_with fail
  go_ret
  exact ⟨rfl, rfl⟩
theorem waits_any (t : Nat) (win most : Int) (o : OT) (F : List Nat) (w : World) (h : OutRep w t win most o F) : Calls Tryz.prog 25 #[.pointer (some ⟨t, 0, none⟩)] w fun e w' => e = .returned (.int .i64 o.wait.length) ∧ Below w.heap.size w w' := by
  have HN := Lib.hid (onone_any t win most o F w h)
  obtain ⟨q, p, v, FQ, FP, h, -⟩ := h
  obtain ⟨c0, -⟩ := h.cells
  have HQ := Lib.hid (qlen_any q o.wait most FQ w h.queue)
  clear h
  go_enter Tryz.func25, Tryz.ntmps25
  go_wp2_with fail
  refine HN.out.mono ?_
  rintro e w1 ⟨rfl, rfl⟩
  go_wp2_with fail
  refine HQ.out.mono ?_
  rintro e w1 ⟨rfl, n, rfl⟩
  go_wp2_with fail
  go_ret
  exact ⟨rfl, below_draws n⟩
/-- a table's row, and its pool, are made anew -/
theorem oreset_any (t : Nat) (win most : Int) (o : OT) (F : List Nat) (w : World) (h : OutRep w t win most o F) : Calls Tryz.prog 57 #[.pointer (some ⟨t, 0, none⟩)] w fun e w' => e = .returned (.tuple #[]) ∧ ∃ F', OutRep w' t win most OT.new F' ∧ Upd F F' w w' := by
  have HN := Lib.hid (onone_any t win most o F w h)
  obtain ⟨q, p, v, FQ, FP, h, hr, hw1, hw2, hwk, rfl⟩ := h
  obtain ⟨c0, -, -, c3⟩ := h.cells
  have H := Lib.hid h
  have HWN := Lib.hid hw1
  clear h hr hwk
  go_enter Tryz.func57, Tryz.ntmps57
  go_wp2_with fail
  refine HN.out.mono ?_
  rintro e w1 ⟨rfl, rfl⟩
  go_wp2_with fail
  refine (qclear_any q o.wait most FQ w H.out.queue).mono ?_
  rintro e w1 ⟨rfl, hq, hu⟩
  obtain ⟨h1, hu1⟩ := H.out.turnQ hq hu
  obtain ⟨-, -, -, c3⟩ := h1.cells
  have f3 := frozen_of_row _ t 3 _ _ h1.hd
  have H1 := Lib.hid h1
  have HU1 := Lib.hid hu1
  clear h1 hu1 hq hu c0
  go_wp2_with fail
  have s1 := heap_setCell_same w1 t 3 _ _ (.slice none 0 0) H1.out.hd
  have hm1 : Mod (t :: v.ownBlock.toList) w1 (w1.setCell ⟨t, 3, none⟩ (.slice none 0 0)) := (Mod.refl _ _).setCell (.inl (by simp)) _
  obtain ⟨h2, hu2⟩ := H1.out.turnR (row' := []) (v' := .slice none 0 0) hm1 (by simpa using s1) (World.ownsRow_nil _ _ _ _) (by simp [Value.ownBlock])
  have HU2 := Lib.hid (HU1.out.trans' hu2)
  have H2 := Lib.hid h2
  clear h2 hu2 s1 hm1 H1 HU1 c3 f3
  generalize w1.setCell ⟨t, 3, none⟩ (.slice none 0 0) = w2 at *
  refine (pool_new w2).mono ?_
  rintro e w3 ⟨p', FP', rfl, hp, hu3⟩
  have hne : ∀ k ∈ FP', w2.heap.size ≤ k := fun k hk => (hu3.2 k hk).elim (by simp) id
  have hb3 : Below w2.heap.size w2 w3 := hu3.1.below (Nat.le_refl _) (by simp)
  have h3 := H2.out.below hb3
  obtain ⟨-, c1, -, -⟩ := h3.cells
  have f1 := frozen_of_row _ t 1 _ _ h3.hd
  have H3 := Lib.hid h3
  have HP := Lib.hid hp
  have HB3 := Lib.hid hb3
  clear h3 hp hb3 hu3
  go_wp2_with fail
  go_end0
  have s3 := heap_setCell_same w3 t 1 _ _ (.pointer (some ⟨p', 0, none⟩)) H3.out.hd
  have hm3 : Mod [t] w3 (w3.setCell ⟨t, 1, none⟩ (.pointer (some ⟨p', 0, none⟩))) := (Mod.refl _ _).setCell (.inl (by simp)) _
  have ht2 := H2.out.lt
  refine ⟨rfl, oFoot t (.slice none 0 0) [q] FP', ⟨q, p', .slice none 0 0, [q], FP', ⟨by simpa using s3, H3.out.queue.mod hm3 fun k hk hk' => H3.out.tq (List.mem_singleton.1 hk' ▸ hk), HP.out.mod hm3 fun k hk hk' => ?_, World.ownsRow_nil _ _ _ _, H3.out.tq, fun hk => ?_, by simp [Value.ownBlock], fun k hk hk' => ?_, fun k hk => by simp [Value.ownBlock], fun k hk => by simp [Value.ownBlock]⟩,
    RowOk.nil (by omega), HWN.out, hw2, by simp [WaitOk, OT.new], rfl⟩, ?_⟩
  · have := hne k hk
    have := ht2 t (mem_oFoot.2 (.inl rfl))
    rw [List.mem_singleton.1 hk'] at *
    omega
  · have := hne _ hk
    have := ht2 t (mem_oFoot.2 (.inl rfl))
    omega
  · have := hne k hk'
    have := ht2 k (mem_oFoot.2 (.inr (.inl hk)))
    omega
  · refine ⟨((HU2.out.1.next HB3.out).trans (hm3.mono (S' := oFoot t v FQ FP) fun k hk => mem_oFoot.2 (.inl (List.mem_singleton.1 hk))) fun k hk => .inl hk), fun k hk => ?_⟩
    rcases mem_oFoot.1 hk with h | h | h | h
    · exact .inl (mem_oFoot.2 (.inl h))
    · exact HU2.out.2 k (mem_oFoot.2 (.inr (.inl h)))
    · exact .inr (Nat.le_trans HU2.out.1.size (hne k h))
    · simp [Value.ownBlock] at h
theorem onew_bad (win most : Int) (w : World) (h : most < 1 ∨ 1024 < most ∨ win < 1 ∨ 1024 < win) : Calls Tryz.prog 27 #[.int .i64 win, .int .i64 most] w fun e w' => e = .returned (.pointer none) ∧ Below w.heap.size w w' := by
  by_cases hm : 1 ≤ most ∧ most ≤ 1024
  · have h' : win < 1 ∨ 1024 < win := by omega
    by_cases h1 : win < 1
    · skip
      go_enter Tryz.func27, Tryz.ntmps27
      go_wp2_with fail
      refine (qnew_any most w hm).mono ?_
      rintro e w1 ⟨g, rfl, -, hu⟩
      have hb : Below w.heap.size w w1 := hu.1.below (Nat.le_refl _) (by simp)
      clear hu
      go_wp2_with fail
      go_ret
      exact ⟨rfl, hb⟩
    · skip
      go_enter Tryz.func27, Tryz.ntmps27
      go_wp2_with fail
      refine (qnew_any most w hm).mono ?_
      rintro e w1 ⟨g, rfl, -, hu⟩
      have hb : Below w.heap.size w w1 := hu.1.below (Nat.le_refl _) (by simp)
      clear hu
      have h2 : 1024 < win := by omega
      go_wp2_with fail
      go_ret
      exact ⟨rfl, hb⟩
  · skip
    go_enter Tryz.func27, Tryz.ntmps27
    go_wp2_with fail
    refine (qnew_out most w (by omega)).mono ?_
    rintro e w1 ⟨rfl, rfl⟩
    go_wp2_with fail
    go_ret
    exact ⟨rfl, Below.refl _ _⟩
theorem onew_any (win most : Int) (w : World) (hm : 1 ≤ most ∧ most ≤ 1024) (hw : 1 ≤ win ∧ win ≤ 1024) : Calls Tryz.prog 27 #[.int .i64 win, .int .i64 most] w fun e w' => ∃ t F, e = .returned (.pointer (some ⟨t, 0, none⟩)) ∧ OutRep w' t win most OT.new F ∧ Upd [] F w w' := by
  obtain ⟨hw1, hw2⟩ := hw
  go_enter Tryz.func27, Tryz.ntmps27
  go_wp2_with fail
  refine (qnew_any most w hm).mono ?_
  rintro e w1 ⟨g, rfl, hq, hu⟩
  have HQ := Lib.hid hq
  have HU := Lib.hid hu
  clear hq hu
  go_wp2_with fail
  refine (pool_new w1).mono ?_
  rintro e w2 ⟨p, FP, rfl, hp, hu2⟩
  have hne : ∀ k ∈ FP, w1.heap.size ≤ k := fun k hk => (hu2.2 k hk).elim (by simp) id
  have hb2 : Below w1.heap.size w1 w2 := hu2.1.below (Nat.le_refl _) (by simp)
  have HP := Lib.hid hp
  have HB2 := Lib.hid hb2
  clear hp hu2 hb2
  go_wp2_with fail
  go_ret
  have hg := HQ.out.lt g (by simp)
  have hs := HB2.out.size
  have hg0 : w.heap.size ≤ g := (HU.out.2 g (by simp)).elim (by simp) id
  have hb3 := low_alloc w2 (.cells #[.pointer (some ⟨g, 0, none⟩), .pointer (some ⟨p, 0, none⟩), .int .i64 win, .slice none 0 0] 99)
  refine ⟨_, oFoot w2.heap.size (.slice none 0 0) [g] FP, rfl, ⟨g, p, .slice none 0 0, [g], FP, ⟨heap_alloc_new w2 _, (HQ.out.below HB2.out).below hb3, HP.out.below hb3, World.ownsRow_nil _ _ _ _, ?_, ?_, by simp [Value.ownBlock], ?_, fun k hk => by simp [Value.ownBlock], fun k hk => by simp [Value.ownBlock]⟩, RowOk.nil (by omega), hw1, hw2, by simp [WaitOk, OT.new], rfl⟩, ?_⟩
  · simp; omega
  · intro hk; have := HP.out.lt _ hk; omega
  · intro k hk hk'; have := hne k hk'; simp at hk; omega
  · refine ⟨(HU.out.1.next HB2.out).next hb3, fun k hk => ?_⟩
    have := HU.out.1.size
    rcases mem_oFoot.1 hk with h | h | h | h
    · right; omega
    · simp at h; right; omega
    · have := hne k h; right; omega
    · simp [Value.ownBlock] at h
end Go.Proofs.YtmkhagmjpbfieaaGreatDoor
