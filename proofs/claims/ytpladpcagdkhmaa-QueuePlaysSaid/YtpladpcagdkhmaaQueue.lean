import Derived.Test.YtpladpcagdkhmaaRows
import Derived.Test.YtpladpcagdkhmaaMem
namespace Go.Proofs.Ytpladpcagdkhmaa
open Go Go.RowKit

theorem T_msg : ElemT Try.prog 30 28 (.agg #[.string ⟨#[]⟩, .string ⟨#[]⟩, .int .u8 0, .bool false]) 4 40 := ⟨Try.underlying30, by kernel_rfl, rfl, by decide⟩

/-- A queue lies at block g: it has the messages l, and the limit most; its blocks are F. -/
def QRep (w : World) (g : Nat) (l : List Msg) (most : Int) (F : List Nat) : Prop :=
  ∃ (v : Value) (junk : List Msg), w.heap[g]? = some (.cells #[v, .int .i64 (junk.length : Int), .int .i64 most] 35 (0, 0)) ∧
    w.ownsRow 0 28 4 v (junk.length + l.length) (msgs (junk ++ l)) ∧ junk.length ≤ l.length ∧ (l.length : Int) ≤ most ∧ 0 ≤ most ∧ most ≤ 1024 ∧ v.ownBlock ≠ some g ∧ F = g :: v.ownBlock.toList

theorem QRep.lt {w : World} {g : Nat} {l : List Msg} {most : Int} {F : List Nat} (h : QRep w g l most F) : ∀ k ∈ F, k < w.heap.size := by
  obtain ⟨v, junk, hg, hown, _, _, _, _, _, rfl⟩ := h
  intro k hk
  simp only [List.mem_cons, Option.mem_toList] at hk
  rcases hk with rfl | hk
  · exact (Array.getElem?_eq_some_iff.1 hg).1
  · exact (hown.lt k hk).2
theorem QRep.local {w w' : World} {g : Nat} {l : List Msg} {most : Int} {F : List Nat} (h : QRep w g l most F) (hF : ∀ k ∈ F, w'.heap[k]? = w.heap[k]?) : QRep w' g l most F := by
  obtain ⟨v, junk, hg, hown, h1, h2, h3, h4, h5, rfl⟩ := h
  refine ⟨v, junk, by rw [hF g (by simp)]; exact hg, ⟨hown.1, ?_⟩, h1, h2, h3, h4, h5, rfl⟩
  rcases hown.2 with hn | ⟨b, cap, cur, rfl, hb, hgg, rest⟩
  · exact .inl hn
  · exact .inr ⟨b, cap, cur, rfl, hb, by rw [hF b (by simp [Value.ownBlock])]; exact hgg, rest⟩
theorem QRep.mod {S : List Nat} {w w' : World} {g : Nat} {l : List Msg} {most : Int} {F : List Nat} (h : QRep w g l most F) (hm : Mod S w w') (hS : ∀ k ∈ F, k ∉ S) : QRep w' g l most F :=
  h.local fun k hk => hm.block k (h.lt k hk) (hS k hk)
theorem QRep.drewN {w : World} {g : Nat} {l : List Msg} {most : Int} {F : List Nat} (h : QRep w g l most F) (n : Nat) : QRep (w.drewN n) g l most F := h

theorem qlen_any (g : Nat) (l : List Msg) (most : Int) (F : List Nat) (w : World) (h : QRep w g l most F) :
    Calls Try.prog 10 #[.pointer (some ⟨g, 0, none⟩)] w fun e w' => e = .returned (.int .i64 l.length) ∧ ∃ m, w' = w.drewN m := by
  obtain ⟨v, junk, hg, hown, h1, h2, h3, h4, h5, rfl⟩ := h
  obtain ⟨a, cap, rfl, hrow, -, -⟩ := ownsRow_row hown
  have c0 := cell_of_row w g 0 _ _ _ hg
  have c1 := cell_of_row w g 1 _ _ _ hg
  simp only [List.getElem?_toArray, List.getElem?_cons_zero, List.getElem?_cons_succ] at c0 c1
  clear hown hrow h5 hg
  go_enter Try.func10, Try.ntmps10
  go_wp2_with fail
  go_quiet (fail)
  go_wp2_with fail
  go_ret
  exact ⟨ret_int (by omega), _, rfl⟩

theorem qlen_of (n : Int) (g : Nat) (l : List Msg) (most : Int) (F : List Nat) (w : World) (h : QRep w g l most F) (hn : (l.length : Int) = n) :
    Calls Try.prog 10 #[.pointer (some ⟨g, 0, none⟩)] w fun e w' => e = .returned (.int .i64 n) ∧ ∃ m, w' = w.drewN m := by
  subst hn; exact qlen_any g l most F w h
theorem qlen_nil (w : World) : Calls Try.prog 10 #[.pointer none] w fun e w' => e = .returned (.int .i64 0) ∧ w = w' := by
  go_enter Try.func10, Try.ntmps10
  go_wp2_with fail
  go_ret
  exact ⟨rfl, rfl⟩
theorem qroom_nil (w : World) : Calls Try.prog 9 #[.pointer none] w fun e w' => e = .returned (.int .i64 0) ∧ w = w' := by
  go_enter Try.func9, Try.ntmps9
  go_wp2_with fail
  go_ret
  exact ⟨rfl, rfl⟩

theorem qroom_any (g : Nat) (l : List Msg) (most : Int) (F : List Nat) (w : World) (h : QRep w g l most F) :
    Calls Try.prog 9 #[.pointer (some ⟨g, 0, none⟩)] w fun e w' => e = .returned (.int .i64 (most - l.length)) ∧ ∃ m, w' = w.drewN m := by
  have H := Lib.hid h
  obtain ⟨v, junk, hg, hown, h1, h2, h3, h4, h5, -⟩ := h
  have c2 := cell_of_row w g 2 _ _ _ hg
  simp only [List.getElem?_toArray, List.getElem?_cons_zero, List.getElem?_cons_succ] at c2
  clear hown h5 hg
  go_enter Try.func9, Try.ntmps9
  go_wp2_with fail
  go_quiet ((go_at_call 10; exact Calls.quiet_of (qlen_any g l most F _ (H.out.drewN _))))
  go_wp2_with fail
  go_ret
  exact ⟨rfl, _, rfl⟩

theorem qnew_any (most : Int) (w : World) (hm : 1 ≤ most ∧ most ≤ 1024) :
    Calls Try.prog 8 #[.int .i64 most] w fun e w' => ∃ g, e = .returned (.pointer (some ⟨g, 0, none⟩)) ∧ QRep w' g [] most [g] ∧ Upd [] [g] w w' := by
  obtain ⟨h1, h2⟩ := hm
  go_enter Try.func8, Try.ntmps8
  go_wp2_with fail
  go_ret
  refine ⟨_, rfl, ?_, (Mod.refl _ _).alloc _, by simp⟩
  refine ⟨.slice none 0 0, [], heap_alloc_new _ _, World.ownsRow_nil _ _ _ _, by simp, by simp; omega, by omega, h2, by simp [Value.ownBlock], rfl⟩
theorem qnew_out (most : Int) (w : World) (hm : most < 1 ∨ 1024 < most) :
    Calls Try.prog 8 #[.int .i64 most] w fun e w' => e = .returned (.pointer none) ∧ w = w' := by
  rcases hm with hm | hm
  · skip
    go_enter Try.func8, Try.ntmps8
    go_wp2_with fail
    go_ret
    exact ⟨rfl, rfl⟩
  · have : ¬ most < 1 := by omega
    go_enter Try.func8, Try.ntmps8
    go_wp2_with fail
    go_ret
    exact ⟨rfl, rfl⟩

theorem qpush_full (g : Nat) (l : List Msg) (most : Int) (F : List Nat) (m : Msg) (w : World) (h : QRep w g l most F) (hl : (l.length : Int) = most) :
    Calls Try.prog 11 #[.pointer (some ⟨g, 0, none⟩), m.val] w fun e w' => e = .returned (.bool false) ∧ QRep w' g l most F ∧ Upd F F w w' := by
  have H := Lib.hid (h.mod ((Mod.refl [] w).alloc (.cells m.cells.toArray 28)) (by simp))
  have hz : (most - (l.length : Int) == 0) = true := by simp; omega
  have HM := Lib.hid ((Mod.refl F w).alloc (.cells m.cells.toArray 28))
  clear h hl
  obtain ⟨mt, mp, mq, mr⟩ := m
  unfold Msg.val
  go_enter Try.func11, Try.ntmps11
  go_wp2_with fail
  refine (qroom_any g l most F _ H.out).mono ?_
  rintro e w1 ⟨rfl, n, rfl⟩
  go_wp2_with fail
  go_ret
  exact ⟨rfl, H.out.drewN _, HM.out.drewN _, fun k hk => .inl hk⟩

theorem qpush_fin {w W1 w2 : World} {o : Obj} {g g' cap : Nat} {v : Value} {junk l : List Msg} {m : Msg} {most : Int} (hg : W1.heap[g]? = some (.cells #[v, .int .i64 (junk.length : Int), .int .i64 most] 35 (0, 0)))
    (hgr : (W1.alloc o).grownBy w2 v.ownBlock) (hg2 : w2.heap[g]? = some (.cells #[v, .int .i64 (junk.length : Int), .int .i64 most] 35 (0, 0)))
    (hown : w2.ownsRow 0 28 4 (.slice (some ⟨g', 0, none⟩) (junk.length + l.length + 1) cap) (junk.length + l.length + 1) (msgs (junk ++ l) ++ m.cells)) (hat : v.ownBlock = some g' ∨ g' = (W1.alloc o).heap.size)
    (hM : Mod (g :: v.ownBlock.toList) w W1) (h1 : junk.length ≤ l.length) (h2 : (l.length : Int) < most) (h3 : 0 ≤ most) (h4 : most ≤ 1024) (h5 : v.ownBlock ≠ some g) :
    ∃ F', QRep (w2.setCell ⟨g, 0, none⟩ (.slice (some ⟨g', 0, none⟩) (junk.length + l.length + 1) cap)) g (l ++ [m]) most F' ∧ Upd (g :: v.ownBlock.toList) F' w (w2.setCell ⟨g, 0, none⟩ (.slice (some ⟨g', 0, none⟩) (junk.length + l.length + 1) cap)) := by
  have hgl : g < W1.heap.size := (Array.getElem?_eq_some_iff.1 hg).1
  have hne : g' ≠ g := by
    rcases hat with h | h
    · rintro rfl; exact h5 h
    · simp at h; omega
  refine ⟨[g, g'], ⟨.slice (some ⟨g', 0, none⟩) (junk.length + l.length + 1) cap, junk, ?_, ?_, by simp; omega, by simp; omega, h3, h4, ?_, rfl⟩, ?_, ?_⟩
  · rw [heap_setCell_same w2 g 0 _ _ _ hg2]; rfl
  · have e : msgs (junk ++ (l ++ [m])) = msgs (junk ++ l) ++ m.cells := by simp [msgs]
    rw [e, List.length_append, List.length_singleton, ← Nat.add_assoc]
    exact ownsRow_local hown fun k hk => by
      simp only [Value.ownBlock, Option.some.injEq] at hk
      subst hk
      exact heap_setCell_other w2 _ _ _ hne
  · simp only [Value.ownBlock]; intro h; exact hne (Option.some.inj h)
  · refine ((hM.alloc o).grown hgr ?_).setCell (.inl (by simp)) _
    intro k hk; left; simp [hk]
  · intro k hk
    simp only [List.mem_cons, List.not_mem_nil, or_false] at hk
    rcases hk with rfl | rfl
    · left; simp
    · rcases hat with h | h
      · left; simp [h]
      · right; have := hM.size; simp at h; omega

set_option maxHeartbeats 1000000 in
theorem qpush_room (g : Nat) (l : List Msg) (most : Int) (F : List Nat) (m : Msg) (w : World) (h : QRep w g l most F) (hl : (l.length : Int) < most) :
    Calls Try.prog 11 #[.pointer (some ⟨g, 0, none⟩), m.val] w fun e w' => e = .returned (.bool true) ∧ ∃ F', QRep w' g (l ++ [m]) most F' ∧ Upd F F' w w' := by
  have H := Lib.hid (h.mod ((Mod.refl [] w).alloc (.cells m.cells.toArray 28)) (by simp))
  have hz : (most - (l.length : Int) == 0) = false := by simp; omega
  have HM := Lib.hid ((Mod.refl F w).alloc (.cells m.cells.toArray 28))
  clear h
  obtain ⟨mt, mp, mq, mr⟩ := m
  unfold Msg.val
  go_enter Try.func11, Try.ntmps11
  go_wp2_with fail
  refine (qroom_any g l most F _ H.out).mono ?_
  rintro e w1 ⟨rfl, n, rfl⟩
  have hbox : ((w.alloc (.cells (Msg.cells ⟨mt, mp, mq, mr⟩).toArray 28)).drewN n).heap[w.heap.size]? = some (.cells #[.string mt, .string mp, .int .u8 mq, .bool mr] 28 (0, 0)) := heap_alloc_new w _
  have hQ := H.out.drewN n
  have hM := HM.out.drewN n
  clear H HM
  generalize (w.alloc (.cells (Msg.cells ⟨mt, mp, mq, mr⟩).toArray 28)).drewN n = W1 at *
  have k0 := cell_of_row W1 w.heap.size 0 _ _ _ hbox
  have k1 := cell_of_row W1 w.heap.size 1 _ _ _ hbox
  have k2 := cell_of_row W1 w.heap.size 2 _ _ _ hbox
  have k3 := cell_of_row W1 w.heap.size 3 _ _ _ hbox
  simp only [List.getElem?_toArray, List.getElem?_cons_zero, List.getElem?_cons_succ] at k0 k1 k2 k3
  obtain ⟨v, junk, hg, hown, h1, h2, h3, h4, h5, rfl⟩ := hQ
  have c0 := cell_of_row W1 g 0 _ _ _ hg
  have f0 := frozen_of_row W1 g 0 _ _ hg
  simp only [List.getElem?_toArray, List.getElem?_cons_zero] at c0
  have hgl : g < W1.heap.size := (Array.getElem?_eq_some_iff.1 hg).1
  have HG := Lib.hid hg
  have H5 := Lib.hid h5
  clear hg hbox h5
  go_wp2_with fail
  go_region_law ((
    refine step_app T_msg (by exact (hown.alloc _).drew) (by exact heap_alloc_new W1 _) rfl rfl rfl rfl rfl (by decide) (by simp [Value.oneCell']) (by omega) (by omega) (by omega) ?_
    intro g' cap' w2 hown2 hgrow hat hlt
    have hg2 := Lib.hid (grown_keep (W1 := W1.drew) hgrow HG.out H5.out)
    have c2 := cell_of_row w2 g 0 _ _ _ hg2.out
    have f2 := frozen_of_row w2 g 0 _ _ hg2.out
    simp only [List.getElem?_toArray, List.getElem?_cons_zero] at c2))
  all_goals
    clear c0 f0 k0 k1 k2 k3 c2 f2
    go_wp2_with fail
    go_ret
    exact ⟨rfl, qpush_fin (W1 := W1.drew) (m := ⟨mt, mp, mq, mr⟩) HG.out hgrow hg2.out hown2 hat hM.drew h1 hl h3 h4 H5.out⟩
end Go.Proofs.Ytpladpcagdkhmaa
