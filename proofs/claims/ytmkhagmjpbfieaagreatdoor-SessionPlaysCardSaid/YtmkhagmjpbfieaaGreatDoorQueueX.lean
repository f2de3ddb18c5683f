/-      The queue's calls, and the reference's, each in one contract for whatever the queue has; what lies apart. -/
import Derived.Test.YtmkhagmjpbfieaaGreatDoorRows
import Derived.Test.YtmkhagmjpbfieaaGreatDoorMemX
namespace Go.Proofs.YtmkhagmjpbfieaaGreatDoor
section
open Go Go.RowKit

theorem T_msg : ElemT Tryz.prog 120 34 (.agg #[.string ⟨#[]⟩, .string ⟨#[]⟩, .int .u8 0, .bool false]) 4 40 := ⟨Tryz.underlying120, by kernel_rfl, rfl, by decide⟩

/-- A queue lies at block g: it has the messages l, and the limit most; its blocks are F. -/
def QRep (w : World) (g : Nat) (l : List Msg) (most : Int) (F : List Nat) : Prop :=
  ∃ (v : Value) (junk : List Msg), w.heap[g]? = some (.cells #[v, .int .i64 (junk.length : Int), .int .i64 most] 142 (0, 0)) ∧
    w.ownsRow 0 34 4 v (junk.length + l.length) (msgs (junk ++ l)) ∧ junk.length ≤ l.length ∧ (l.length : Int) ≤ most ∧ 0 ≤ most ∧ most ≤ 1024 ∧ v.ownBlock ≠ some g ∧ F = g :: v.ownBlock.toList

theorem QRep.lt {w : World} {g : Nat} {l : List Msg} {most : Int} {F : List Nat} (h : QRep w g l most F) : ∀ k ∈ F, k < w.heap.size := by
  obtain ⟨v, junk, hg, hown, _, _, _, _, _, rfl⟩ := h
  intro k hk
  simp only [List.mem_cons, Option.mem_toList] at hk
  rcases hk with rfl | hk
  · exact (Array.getElem?_eq_some_iff.1 hg).1
  · exact (hown.lt k hk).2
theorem QRep.local {w w' : World} {g : Nat} {l : List Msg} {most : Int} {F : List Nat} (h : QRep w g l most F) (hF : ∀ k ∈ F, w'.heap[k]? = w.heap[k]?) : QRep w' g l most F := by
  obtain ⟨v, junk, hg, hown, h1, h2, h3, h4, h5, rfl⟩ := h
  refine ⟨v, junk, by rw [hF g (by simp)]; exact hg, ⟨hown.1, ?_⟩, h1, h2, h3, h4, h5, rfl⟩
  rcases hown.2 with hn | ⟨b, cap, cur, rfl, hb, hgg, rest⟩
  · exact .inl hn
  · exact .inr ⟨b, cap, cur, rfl, hb, by rw [hF b (by simp [Value.ownBlock])]; exact hgg, rest⟩
theorem QRep.mod {S : List Nat} {w w' : World} {g : Nat} {l : List Msg} {most : Int} {F : List Nat} (h : QRep w g l most F) (hm : Mod S w w') (hS : ∀ k ∈ F, k ∉ S) : QRep w' g l most F :=
  h.local fun k hk => hm.block k (h.lt k hk) (hS k hk)
theorem QRep.drewN {w : World} {g : Nat} {l : List Msg} {most : Int} {F : List Nat} (h : QRep w g l most F) (n : Nat) : QRep (w.drewN n) g l most F := h

theorem qlen_any (g : Nat) (l : List Msg) (most : Int) (F : List Nat) (w : World) (h : QRep w g l most F) :
    Calls Tryz.prog 65 #[.pointer (some ⟨g, 0, none⟩)] w fun e w' => e = .returned (.int .i64 l.length) ∧ ∃ m, w' = w.drewN m := by
  obtain ⟨v, junk, hg, hown, h1, h2, h3, h4, h5, rfl⟩ := h
  obtain ⟨a, cap, rfl, hrow, -, -⟩ := ownsRow_row hown
  have c0 := cell_of_row w g 0 _ _ _ hg
  have c1 := cell_of_row w g 1 _ _ _ hg
  simp only [List.getElem?_toArray, List.getElem?_cons_zero, List.getElem?_cons_succ] at c0 c1
  clear hown hrow h5 hg
  go_enter Tryz.func65, Tryz.ntmps65
  go_wp2_with fail
  go_quiet (fail)
  go_wp2_with fail
  go_ret
  exact ⟨ret_int (by omega), _, rfl⟩

theorem qlen_of (n : Int) (g : Nat) (l : List Msg) (most : Int) (F : List Nat) (w : World) (h : QRep w g l most F) (hn : (l.length : Int) = n) :
    Calls Tryz.prog 65 #[.pointer (some ⟨g, 0, none⟩)] w fun e w' => e = .returned (.int .i64 n) ∧ ∃ m, w' = w.drewN m := by
  subst hn; exact qlen_any g l most F w h
theorem qroom_any (g : Nat) (l : List Msg) (most : Int) (F : List Nat) (w : World) (h : QRep w g l most F) :
    Calls Tryz.prog 99 #[.pointer (some ⟨g, 0, none⟩)] w fun e w' => e = .returned (.int .i64 (most - l.length)) ∧ ∃ m, w' = w.drewN m := by
  have H := Lib.hid h
  obtain ⟨v, junk, hg, hown, h1, h2, h3, h4, h5, -⟩ := h
  have c2 := cell_of_row w g 2 _ _ _ hg
  simp only [List.getElem?_toArray, List.getElem?_cons_zero, List.getElem?_cons_succ] at c2
  clear hown h5 hg
  go_enter Tryz.func99, Tryz.ntmps99
  go_wp2_with fail
  go_quiet ((go_at_call 65; exact Calls.quiet_of (qlen_any g l most F _ (H.out.drewN _))))
  go_wp2_with fail
  go_ret
  exact ⟨rfl, _, rfl⟩

theorem qnew_any (most : Int) (w : World) (hm : 1 ≤ most ∧ most ≤ 1024) :
    Calls Tryz.prog 66 #[.int .i64 most] w fun e w' => ∃ g, e = .returned (.pointer (some ⟨g, 0, none⟩)) ∧ QRep w' g [] most [g] ∧ Upd [] [g] w w' := by
  obtain ⟨h1, h2⟩ := hm
  go_enter Tryz.func66, Tryz.ntmps66
  go_wp2_with fail
  go_ret
  refine ⟨_, rfl, ?_, (Mod.refl _ _).alloc _, by simp⟩
  refine ⟨.slice none 0 0, [], heap_alloc_new _ _, World.ownsRow_nil _ _ _ _, by simp, by simp; omega, by omega, h2, by simp [Value.ownBlock], rfl⟩
theorem qnew_out (most : Int) (w : World) (hm : most < 1 ∨ 1024 < most) :
    Calls Tryz.prog 66 #[.int .i64 most] w fun e w' => e = .returned (.pointer none) ∧ w = w' := by
  rcases hm with hm | hm
  · skip
    go_enter Tryz.func66, Tryz.ntmps66
    go_wp2_with fail
    go_ret
    exact ⟨rfl, rfl⟩
  · have : ¬ most < 1 := by omega
    go_enter Tryz.func66, Tryz.ntmps66
    go_wp2_with fail
    go_ret
    exact ⟨rfl, rfl⟩

theorem qpush_full (g : Nat) (l : List Msg) (most : Int) (F : List Nat) (m : Msg) (w : World) (h : QRep w g l most F) (hl : (l.length : Int) = most) :
    Calls Tryz.prog 64 #[.pointer (some ⟨g, 0, none⟩), m.val] w fun e w' => e = .returned (.bool false) ∧ QRep w' g l most F ∧ Upd F F w w' := by
  have H := Lib.hid (h.mod ((Mod.refl [] w).alloc (.cells m.cells.toArray 34)) (by simp))
  have hz : (most - (l.length : Int) == 0) = true := by simp; omega
  have HM := Lib.hid ((Mod.refl F w).alloc (.cells m.cells.toArray 34))
  clear h hl
  obtain ⟨mt, mp, mq, mr⟩ := m
  unfold Msg.val
  go_enter Tryz.func64, Tryz.ntmps64
  go_wp2_with fail
  refine (qroom_any g l most F _ H.out).mono ?_
  rintro e w1 ⟨rfl, n, rfl⟩
  go_wp2_with fail
  go_ret
  exact ⟨rfl, H.out.drewN _, HM.out.drewN _, fun k hk => .inl hk⟩

theorem qpush_fin {w W1 w2 : World} {o : Obj} {g g' cap : Nat} {v : Value} {junk l : List Msg} {m : Msg} {most : Int} (hg : W1.heap[g]? = some (.cells #[v, .int .i64 (junk.length : Int), .int .i64 most] 142 (0, 0)))
    (hgr : (W1.alloc o).grownBy w2 v.ownBlock) (hg2 : w2.heap[g]? = some (.cells #[v, .int .i64 (junk.length : Int), .int .i64 most] 142 (0, 0)))
    (hown : w2.ownsRow 0 34 4 (.slice (some ⟨g', 0, none⟩) (junk.length + l.length + 1) cap) (junk.length + l.length + 1) (msgs (junk ++ l) ++ m.cells)) (hat : v.ownBlock = some g' ∨ g' = (W1.alloc o).heap.size)
    (hM : Mod (g :: v.ownBlock.toList) w W1) (h1 : junk.length ≤ l.length) (h2 : (l.length : Int) < most) (h3 : 0 ≤ most) (h4 : most ≤ 1024) (h5 : v.ownBlock ≠ some g) :
    ∃ F', QRep (w2.setCell ⟨g, 0, none⟩ (.slice (some ⟨g', 0, none⟩) (junk.length + l.length + 1) cap)) g (l ++ [m]) most F' ∧ Upd (g :: v.ownBlock.toList) F' w (w2.setCell ⟨g, 0, none⟩ (.slice (some ⟨g', 0, none⟩) (junk.length + l.length + 1) cap)) := by
  have hgl : g < W1.heap.size := (Array.getElem?_eq_some_iff.1 hg).1
  have hne : g' ≠ g := by
    rcases hat with h | h
    · rintro rfl; exact h5 h
    · simp at h; omega
  refine ⟨[g, g'], ⟨.slice (some ⟨g', 0, none⟩) (junk.length + l.length + 1) cap, junk, ?_, ?_, by simp; omega, by simp; omega, h3, h4, ?_, rfl⟩, ?_, ?_⟩
  · rw [heap_setCell_same w2 g 0 _ _ _ hg2]; rfl
  · have e : msgs (junk ++ (l ++ [m])) = msgs (junk ++ l) ++ m.cells := by simp [msgs]
    rw [e, List.length_append, List.length_singleton, ← Nat.add_assoc]
    exact ownsRow_local hown fun k hk => by
      simp only [Value.ownBlock, Option.some.injEq] at hk
      subst hk
      exact heap_setCell_other w2 _ _ _ hne
  · simp only [Value.ownBlock]; intro h; exact hne (Option.some.inj h)
  · refine ((hM.alloc o).grown hgr ?_).setCell (.inl (by simp)) _
    intro k hk; left; simp [hk]
  · intro k hk
    simp only [List.mem_cons, List.not_mem_nil, or_false] at hk
    rcases hk with rfl | rfl
    · left; simp
    · rcases hat with h | h
      · left; simp [h]
      · right; have := hM.size; simp at h; omega

set_option maxHeartbeats 1000000 in
theorem qpush_room (g : Nat) (l : List Msg) (most : Int) (F : List Nat) (m : Msg) (w : World) (h : QRep w g l most F) (hl : (l.length : Int) < most) :
    Calls Tryz.prog 64 #[.pointer (some ⟨g, 0, none⟩), m.val] w fun e w' => e = .returned (.bool true) ∧ ∃ F', QRep w' g (l ++ [m]) most F' ∧ Upd F F' w w' := by
  have H := Lib.hid (h.mod ((Mod.refl [] w).alloc (.cells m.cells.toArray 34)) (by simp))
  have hz : (most - (l.length : Int) == 0) = false := by simp; omega
  have HM := Lib.hid ((Mod.refl F w).alloc (.cells m.cells.toArray 34))
  clear h
  obtain ⟨mt, mp, mq, mr⟩ := m
  unfold Msg.val
  go_enter Tryz.func64, Tryz.ntmps64
  go_wp2_with fail
  refine (qroom_any g l most F _ H.out).mono ?_
  rintro e w1 ⟨rfl, n, rfl⟩
  have hbox : ((w.alloc (.cells (Msg.cells ⟨mt, mp, mq, mr⟩).toArray 34)).drewN n).heap[w.heap.size]? = some (.cells #[.string mt, .string mp, .int .u8 mq, .bool mr] 34 (0, 0)) := heap_alloc_new w _
  have hQ := H.out.drewN n
  have hM := HM.out.drewN n
  clear H HM
  generalize (w.alloc (.cells (Msg.cells ⟨mt, mp, mq, mr⟩).toArray 34)).drewN n = W1 at *
  have k0 := cell_of_row W1 w.heap.size 0 _ _ _ hbox
  have k1 := cell_of_row W1 w.heap.size 1 _ _ _ hbox
  have k2 := cell_of_row W1 w.heap.size 2 _ _ _ hbox
  have k3 := cell_of_row W1 w.heap.size 3 _ _ _ hbox
  simp only [List.getElem?_toArray, List.getElem?_cons_zero, List.getElem?_cons_succ] at k0 k1 k2 k3
  obtain ⟨v, junk, hg, hown, h1, h2, h3, h4, h5, rfl⟩ := hQ
  have c0 := cell_of_row W1 g 0 _ _ _ hg
  have f0 := frozen_of_row W1 g 0 _ _ hg
  simp only [List.getElem?_toArray, List.getElem?_cons_zero] at c0
  have hgl : g < W1.heap.size := (Array.getElem?_eq_some_iff.1 hg).1
  have HG := Lib.hid hg
  have H5 := Lib.hid h5
  clear hg hbox h5
  go_wp2_with fail
  go_region_law ((
    refine step_app T_msg (by exact (hown.alloc _).drew) (by exact heap_alloc_new W1 _) rfl rfl rfl rfl rfl (by decide) (by simp [Value.oneCell']) (by omega) (by omega) (by omega) ?_
    intro g' cap' w2 hown2 hgrow hat hlt
    have hg2 := Lib.hid (grown_keep (W1 := W1.drew) hgrow HG.out H5.out)
    have c2 := cell_of_row w2 g 0 _ _ _ hg2.out
    have f2 := frozen_of_row w2 g 0 _ _ hg2.out
    simp only [List.getElem?_toArray, List.getElem?_cons_zero] at c2))
  all_goals
    clear c0 f0 k0 k1 k2 k3 c2 f2
    go_wp2_with fail
    go_ret
    exact ⟨rfl, qpush_fin (W1 := W1.drew) (m := ⟨mt, mp, mq, mr⟩) HG.out hgrow hg2.out hown2 hat hM.drew h1 hl h3 h4 H5.out⟩
end
section
open Go Go.RowKit

theorem msg_size : (Tryz.prog.info? 34).map (·.size) = some 4 := by kernel_rfl

theorem qpeek_empty (g : Nat) (most : Int) (F : List Nat) (w : World) (h : QRep w g [] most F) :
    Calls Tryz.prog 78 #[.pointer (some ⟨g, 0, none⟩)] w fun e w' => e = .returned (.tuple #[Msg.none.val, .bool false]) ∧ Below w.heap.size w w' := by
  have H := Lib.hid (h.mod ((Mod.refl [] w).alloc (.cells #[.string ⟨#[]⟩, .string ⟨#[]⟩, .int .u8 0, .bool false] 34)) (by simp))
  clear h
  go_enter Tryz.func78, Tryz.ntmps78
  go_wp2_with fail
  refine (qlen_of 0 g [] most F _ H.out rfl).mono ?_
  rintro e w1 ⟨rfl, n, rfl⟩
  go_wp2_with fail
  have hr : ((w.alloc (.cells #[.string ⟨#[]⟩, .string ⟨#[]⟩, .int .u8 0, .bool false] 34)).drewN n).heap[w.heap.size]? = some (.cells #[.string ⟨#[]⟩, .string ⟨#[]⟩, .int .u8 0, .bool false] 34 (0, 0)) := heap_alloc_new w _
  obtain ⟨s1, s2⟩ := set4 (x := .string ⟨#[]⟩) (y := .string ⟨#[]⟩) (z := .int .u8 0) (u := .bool false) hr
  exact bodyPost_ret (results_row_tmp rfl rfl s1 Tryz.underlying34 rfl msg_size) rfl ⟨rfl, ((((Mod.refl [w.heap.size] w).alloc _).drewN n).trans s2 (by simp)).below (Nat.le_refl _) (by simp)⟩

set_option maxHeartbeats 1000000 in
theorem qpeek_some (g : Nat) (m : Msg) (l : List Msg) (most : Int) (F : List Nat) (w : World) (h : QRep w g (m :: l) most F) :
    Calls Tryz.prog 78 #[.pointer (some ⟨g, 0, none⟩)] w fun e w' => e = .returned (.tuple #[m.val, .bool true]) ∧ Below w.heap.size w w' := by
  have H := Lib.hid (h.mod ((Mod.refl [] w).alloc (.cells #[.string ⟨#[]⟩, .string ⟨#[]⟩, .int .u8 0, .bool false] 34)) (by simp))
  clear h
  have hz : ((l.length : Int) + 1 == 0) = false := by simp; omega
  go_enter Tryz.func78, Tryz.ntmps78
  go_wp2_with fail
  refine (qlen_of ((l.length : Int) + 1) g (m :: l) most F _ H.out (by simp)).mono ?_
  rintro e w1 ⟨rfl, n, rfl⟩
  have hQ := H.out.drewN n
  have hr : ((w.alloc (.cells #[.string ⟨#[]⟩, .string ⟨#[]⟩, .int .u8 0, .bool false] 34)).drewN n).heap[w.heap.size]? = some (.cells #[.string ⟨#[]⟩, .string ⟨#[]⟩, .int .u8 0, .bool false] 34 (0, 0)) := heap_alloc_new w _
  have hM := ((Mod.refl [w.heap.size] w).alloc (.cells #[.string ⟨#[]⟩, .string ⟨#[]⟩, .int .u8 0, .bool false] 34)).drewN n
  clear H
  generalize (w.alloc (.cells #[.string ⟨#[]⟩, .string ⟨#[]⟩, .int .u8 0, .bool false] 34)).drewN n = W1 at *
  obtain ⟨v, junk, hg, hown, h1, h2, h3, h4, h5, -⟩ := hQ
  obtain ⟨a, cap, rfl, hrow, hc1, hc2⟩ := ownsRow_row hown
  obtain ⟨b, off, rfl, k0, k1, k2, k3⟩ := msgs_row hrow (k := junk.length) (m := m) (by simp)
  obtain ⟨mt, mp, mq, mr⟩ := m
  obtain ⟨c0, c1, -⟩ := cells3 hg
  obtain ⟨r0, r1, r2, r3⟩ := cells4 hr
  obtain ⟨f0, f1, f2, f3⟩ := free4 hr
  simp only [List.length_cons] at c0
  have hj0 : (0 : Int) ≤ junk.length := by omega
  have hj1 : (junk.length : Int) < (junk.length : Int) + ((l.length : Int) + 1) := by omega
  have HR := Lib.hid hr
  clear hrow hown hg h5 hr
  go_wp2_with fail
  go_region_with ((fail))
  all_goals
    clear c0 c1 r0 r1 r2 r3 f0 f1 f2 f3 k0 k1 k2 k3
    go_wp2_with fail
    obtain ⟨s1, s2⟩ := set4 (x := .string mt) (y := .string mp) (z := .int .u8 mq) (u := .bool mr) HR.out
    exact bodyPost_ret (results_row_tmp (cs := #[.string mt, .string mp, .int .u8 mq, .bool mr]) rfl rfl (by exact s1) Tryz.underlying34 rfl msg_size) rfl ⟨rfl, ((hM.trans s2 (by simp)).drew).below (Nat.le_refl _) (by simp)⟩

theorem set4at {w : World} {g : Nat} {x y z u : Value} {T : TypeId} {cur : Array Value} (o : Nat) (h : w.heap[g]? = some (.cells cur T (0, 0))) :
    ((((w.setCell ⟨g, o, none⟩ x).setCell ⟨g, o + 1, none⟩ y).setCell ⟨g, o + 2, none⟩ z).setCell ⟨g, o + 3, none⟩ u).heap[g]? = some (.cells ((((cur.setIfInBounds o x).setIfInBounds (o + 1) y).setIfInBounds (o + 2) z).setIfInBounds (o + 3) u) T (0, 0)) ∧
    Mod [g] w ((((w.setCell ⟨g, o, none⟩ x).setCell ⟨g, o + 1, none⟩ y).setCell ⟨g, o + 2, none⟩ z).setCell ⟨g, o + 3, none⟩ u) := by
  constructor
  · have h1 := heap_setCell_same w g o _ _ x h
    have h2 := heap_setCell_same _ g (o + 1) _ _ y h1
    have h3 := heap_setCell_same _ g (o + 2) _ _ z h2
    have h4 := heap_setCell_same _ g (o + 3) _ _ u h3
    exact h4
  · exact ((((Mod.refl [g] w).setCell (.inl (by simp)) _).setCell (.inl (by simp)) _).setCell (.inl (by simp)) _).setCell (.inl (by simp)) _
theorem msgs_set (A : List Msg) (m m' : Msg) (B : List Msg) (L : List Value) (n : Nat) (h : L.take n = msgs (A ++ m :: B)) :
    ((((L.set (A.length * 4) (.string m'.t)).set (A.length * 4 + 1) (.string m'.p)).set (A.length * 4 + 2) (.int .u8 m'.q)).set (A.length * 4 + 3) (.bool m'.r)).take n = msgs (A ++ m' :: B) := by
  rw [List.take_set, List.take_set, List.take_set, List.take_set, h]
  have e : ∀ x : Msg, msgs (A ++ x :: B) = msgs A ++ (x.cells ++ msgs B) := fun x => by simp [msgs]
  have hl := msgs_length A
  rw [e, e, List.set_append_right _ _ (by omega), List.set_append_right _ _ (by omega), List.set_append_right _ _ (by omega), List.set_append_right _ _ (by omega)]
  have h0 : A.length * 4 - (msgs A).length = 0 := by omega
  have h1 : A.length * 4 + 1 - (msgs A).length = 1 := by omega
  have h2 : A.length * 4 + 2 - (msgs A).length = 2 := by omega
  have h3 : A.length * 4 + 3 - (msgs A).length = 3 := by omega
  rw [h0, h1, h2, h3]
  rfl

theorem qpop_empty (g : Nat) (most : Int) (F : List Nat) (w : World) (h : QRep w g [] most F) :
    Calls Tryz.prog 79 #[.pointer (some ⟨g, 0, none⟩)] w fun e w' => e = .returned (.tuple #[Msg.none.val, .bool false]) ∧ Below w.heap.size w w' := by
  have H := Lib.hid (h.mod ((Mod.refl [] w).alloc (.cells #[.string ⟨#[]⟩, .string ⟨#[]⟩, .int .u8 0, .bool false] 34)) (by simp))
  clear h
  go_enter Tryz.func79, Tryz.ntmps79
  go_wp2_with fail
  refine (qpeek_empty g most F _ H.out).mono ?_
  rintro e W1 ⟨rfl, hk⟩
  have hr : W1.heap[w.heap.size]? = some (.cells #[.string ⟨#[]⟩, .string ⟨#[]⟩, .int .u8 0, .bool false] 34 (0, 0)) := by
    rw [hk.block w.heap.size (by simp)]; exact heap_alloc_new w _
  have hb := bnext ((Below.refl w.heap.size w).alloc (Nat.le_refl _) (.cells #[.string ⟨#[]⟩, .string ⟨#[]⟩, .int .u8 0, .bool false] 34)) (Nat.le_refl _) hk
  clear hk H
  obtain ⟨r0, r1, r2, r3⟩ := cells4 hr
  obtain ⟨f0, f1, f2, f3⟩ := free4 hr
  have hlt := (Array.getElem?_eq_some_iff.1 hr).1
  have HR := Lib.hid hr
  clear hr
  unfold Msg.val Msg.none
  go_wp2_with fail
  obtain ⟨s1, s2⟩ := set4 (x := .string ⟨#[]⟩) (y := .string ⟨#[]⟩) (z := .int .u8 0) (u := .bool false) HR.out
  exact bodyPost_ret (results_row_tmp (cs := #[.string ⟨#[]⟩, .string ⟨#[]⟩, .int .u8 0, .bool false]) rfl rfl ((Below.heap_alloc _ _ _ (Array.getElem?_eq_some_iff.1 s1).1).trans s1) Tryz.underlying34 rfl msg_size) rfl ⟨rfl, (((Mod.refl [w.heap.size] w).next hb).trans s2 (by simp)).alloc _ |>.below (Nat.le_refl _) (by simp)⟩
end
section
open Go Go.RowKit

/-- What Pop knows of its memory: the queue's block, the row's, the result's, the message's. -/
structure PopF (g b r s : Nat) (v a : Value) (cap : Nat) (most : Int) (m : Msg) (k : Nat) (L : List Msg) (W : World) : Prop where
  hg : W.heap[g]? = some (.cells #[v, a, .int .i64 most] 142 (0, 0))
  hb : ∃ cur, W.heap[b]? = some (.cells cur 34 (0, 0)) ∧ cur.size = cap * 4 ∧ cur.toList.take k = msgs L
  hr : W.heap[r]? = some (.cells #[.string ⟨#[]⟩, .string ⟨#[]⟩, .int .u8 0, .bool false] 34 (0, 0))
  hs : W.heap[s]? = some (.cells m.cells.toArray 34 (0, 0))
theorem PopF.row {g b r s : Nat} {v a : Value} {cap : Nat} {most : Int} {m : Msg} {k : Nat} {L L' : List Msg} {W W' : World} {cur' : Array Value} {k' : Nat} (h : PopF g b r s v a cap most m k L W) (hM : Mod [b] W W') (h1 : g ≠ b) (h2 : r ≠ b) (h3 : s ≠ b)
    (hb : W'.heap[b]? = some (.cells cur' 34 (0, 0))) (hc : cur'.size = cap * 4) (ht : cur'.toList.take k' = msgs L') : PopF g b r s v a cap most m k' L' W' :=
  ⟨by rw [hM.block g (Array.getElem?_eq_some_iff.1 h.hg).1 (by simpa using h1)]; exact h.hg, ⟨cur', hb, hc, ht⟩,
    by rw [hM.block r (Array.getElem?_eq_some_iff.1 h.hr).1 (by simpa using h2)]; exact h.hr, by rw [hM.block s (Array.getElem?_eq_some_iff.1 h.hs).1 (by simpa using h3)]; exact h.hs⟩
theorem PopF.head {g b r s : Nat} {v a v' a' : Value} {cap : Nat} {most : Int} {m : Msg} {k : Nat} {L : List Msg} {W W' : World} (h : PopF g b r s v a cap most m k L W) (hM : Mod [g] W W') (h1 : b ≠ g) (h2 : r ≠ g) (h3 : s ≠ g)
    (hg : W'.heap[g]? = some (.cells #[v', a', .int .i64 most] 142 (0, 0))) : PopF g b r s v' a' cap most m k L W' := by
  obtain ⟨cur, c1, c2, c3⟩ := h.hb
  exact ⟨hg, ⟨cur, by rw [hM.block b (Array.getElem?_eq_some_iff.1 c1).1 (by simpa using h1)]; exact c1, c2, c3⟩,
    by rw [hM.block r (Array.getElem?_eq_some_iff.1 h.hr).1 (by simpa using h2)]; exact h.hr, by rw [hM.block s (Array.getElem?_eq_some_iff.1 h.hs).1 (by simpa using h3)]; exact h.hs⟩
theorem PopF.drew {g b r s : Nat} {v a : Value} {cap : Nat} {most : Int} {m : Msg} {k : Nat} {L : List Msg} {W : World} (h : PopF g b r s v a cap most m k L W) : PopF g b r s v a cap most m k L W.drew := ⟨h.hg, h.hb, h.hr, h.hs⟩
theorem PopF.drewN {g b r s : Nat} {v a : Value} {cap : Nat} {most : Int} {m : Msg} {k : Nat} {L : List Msg} {W : World} (h : PopF g b r s v a cap most m k L W) (n : Nat) : PopF g b r s v a cap most m k L (W.drewN n) := ⟨h.hg, h.hb, h.hr, h.hs⟩
theorem PopF.row4 {g b r s : Nat} {v a : Value} {cap : Nat} {most : Int} {m x : Msg} {k : Nat} {L : List Msg} {W : World} (h : PopF g b r s v a cap most m k L W) {j : Nat} (hj : L[j]? = some x) :
    W.cell? ⟨b, j * 4, none⟩ = some (.string x.t) ∧ W.cell? ⟨b, j * 4 + 1, none⟩ = some (.string x.p) ∧ W.cell? ⟨b, j * 4 + 2, none⟩ = some (.int .u8 x.q) ∧ W.cell? ⟨b, j * 4 + 3, none⟩ = some (.bool x.r) ∧
    W.frozen? ⟨b, j * 4, none⟩ = false ∧ W.frozen? ⟨b, j * 4 + 1, none⟩ = false ∧ W.frozen? ⟨b, j * 4 + 2, none⟩ = false ∧ W.frozen? ⟨b, j * 4 + 3, none⟩ = false := by
  obtain ⟨cur, c1, c2, c3⟩ := h.hb
  obtain ⟨m0, m1, m2, m3⟩ := msgs_at L j x hj
  have e : ∀ i u, (msgs L)[i]? = some u → W.cell? ⟨b, i, none⟩ = some u := fun i u hi => by
    rw [cell_of_row W b i _ _ _ c1, ← Array.getElem?_toList]
    rw [← c3, List.getElem?_take] at hi
    split at hi
    · exact hi
    · cases hi
  exact ⟨e _ _ m0, e _ _ m1, e _ _ m2, e _ _ m3, frozen_of_row W b _ _ _ c1, frozen_of_row W b _ _ _ c1, frozen_of_row W b _ _ _ c1, frozen_of_row W b _ _ _ c1⟩

theorem tail_cells {W : World} {b : Nat} {cur : Array Value} {T : TypeId} {fr : Nat × Nat} {n : Nat} {A l : List Msg} {x : Msg} (h : W.heap[b]? = some (.cells cur T fr)) (ht : cur.toList.take n = msgs (A ++ x :: l)) :
    ∀ j v, (msgs l)[j]? = some v → W.cell? ((⟨b, (A.length + 1) * 4, none⟩ : Addr).add j) = some v := by
  intro j v hv
  have e1 : (⟨b, (A.length + 1) * 4, none⟩ : Addr).add j = ⟨b, (A.length + 1) * 4 + j, none⟩ := by unfold Addr.add; split <;> simp_all
  have e2 : msgs (A ++ x :: l) = msgs (A ++ [x]) ++ msgs l := by simp [msgs]
  have e3 : (msgs (A ++ [x])).length = (A.length + 1) * 4 := by rw [msgs_length]; simp
  have h1 : (cur.toList.take n)[(A.length + 1) * 4 + j]? = some v := by
    rw [ht, e2, List.getElem?_append_right (by omega), e3, Nat.add_sub_cancel_left]; exact hv
  rw [e1, cell_of_row W b _ _ _ _ h, ← Array.getElem?_toList]
  rw [List.getElem?_take] at h1
  split at h1
  · exact h1
  · cases h1
theorem pop_fin {g b r s n cap : Nat} {most : Int} {m : Msg} {junk l : List Msg} {W : World} (hP : PopF g b r s (.slice (some ⟨b, 0, none⟩) n cap) (.int .i64 (junk.length : Int)) cap most m (n * 4) (junk ++ l) W)
    (hn : n = junk.length + l.length) (hncap : n ≤ cap) (hcm : cap ≤ maxLen) (h1 : junk.length ≤ l.length) (h2 : (l.length : Int) ≤ most) (h3 : 0 ≤ most) (h4 : most ≤ 1024) (hgb : g ≠ b) : QRep W g l most [g, b] := by
  subst hn
  obtain ⟨cur, c1, c2, c3⟩ := hP.hb
  exact ⟨_, junk, hP.hg, ⟨by rw [msgs_length, List.length_append], .inr ⟨b, cap, cur, rfl, Nat.zero_le _, c1, hncap, hcm, c2, c3⟩⟩, h1, h2, h3, h4, by simp [Value.ownBlock]; exact Ne.symm hgb, rfl⟩

set_option maxRecDepth 100000 in
set_option maxHeartbeats 4000000 in
theorem qpop_some (g : Nat) (m : Msg) (l : List Msg) (most : Int) (F : List Nat) (w : World) (h : QRep w g (m :: l) most F) :
    Calls Tryz.prog 79 #[.pointer (some ⟨g, 0, none⟩)] w fun e w' => e = .returned (.tuple #[m.val, .bool true]) ∧ ∃ F', QRep w' g l most F' ∧ Upd F F' w w' := by
  have H := Lib.hid (h.mod ((Mod.refl [] w).alloc (.cells #[.string ⟨#[]⟩, .string ⟨#[]⟩, .int .u8 0, .bool false] 34)) (by simp))
  go_enter Tryz.func79, Tryz.ntmps79
  go_wp2_with fail
  refine (qpeek_some g m l most F _ H.out).mono ?_
  rintro e W1 ⟨rfl, hk⟩
  have hr : W1.heap[w.heap.size]? = some (.cells #[.string ⟨#[]⟩, .string ⟨#[]⟩, .int .u8 0, .bool false] 34 (0, 0)) := by
    rw [hk.block w.heap.size (by simp)]; exact heap_alloc_new w _
  have hb := bnext ((Below.refl w.heap.size w).alloc (Nat.le_refl _) (.cells #[.string ⟨#[]⟩, .string ⟨#[]⟩, .int .u8 0, .bool false] 34)) (Nat.le_refl _) hk
  have hlt : w.heap.size < W1.heap.size := (Array.getElem?_eq_some_iff.1 hr).1
  obtain ⟨v, junk, hg, hown, h1, h2, h3, h4, h5, rfl⟩ := h
  have hgl : g < w.heap.size := (Array.getElem?_eq_some_iff.1 hg).1
  rcases hown.2 with ⟨-, hn0⟩ | ⟨b, cap, cur, rfl, -, hbb, hnc, hcm, hcs, htk⟩
  · simp at hn0
  have hbl : b < w.heap.size := (Array.getElem?_eq_some_iff.1 hbb).1
  have hgb : g ≠ b := fun e => h5 (by rw [e]; rfl)
  have HP := Lib.hid (show PopF g b w.heap.size W1.heap.size (.slice (some ⟨b, 0, none⟩) (junk.length + (l.length + 1)) cap) (.int .i64 (junk.length : Int)) cap most m ((junk.length + (l.length + 1)) * 4) (junk ++ m :: l) (W1.alloc (.cells m.cells.toArray 34)) from
    ⟨(Below.heap_alloc W1 _ g (by omega)).trans ((hb.block g hgl).trans hg), ⟨cur, (Below.heap_alloc W1 _ b (by omega)).trans ((hb.block b hbl).trans hbb), hcs, htk⟩, (Below.heap_alloc W1 _ _ hlt).trans hr, heap_alloc_new W1 _⟩)
  have HM := Lib.hid (((Mod.of_below hb [g, b])).alloc (.cells m.cells.toArray 34))
  simp only [List.length_cons] at h1 h2 hnc
  clear hk hb hr hg hown h5 hbb hcs htk H
  obtain ⟨mt, mp, mq, mr⟩ := m
  unfold Msg.val
  go_wp2_with fail
  refine (?_ : ∀ W : World, PopF g b w.heap.size W1.heap.size (.slice (some ⟨b, 0, none⟩) (junk.length + (l.length + 1)) cap) (.int .i64 (junk.length : Int)) cap most ⟨mt, mp, mq, mr⟩ ((junk.length + (l.length + 1)) * 4) (junk ++ ⟨mt, mp, mq, mr⟩ :: l) W → Mod [g, b] w W → Code.wp _ _ _ _ W) _ HP.out HM.out
  clear HP HM
  intro W2 hP hM
  obtain ⟨c0, c1, -⟩ := cells3 hP.hg
  obtain ⟨k0, k1, k2, k3, f0, f1, f2, f3⟩ := hP.row4 (j := junk.length) (x := ⟨mt, mp, mq, mr⟩) (by simp)
  have HP := Lib.hid hP
  have hj0 : (0 : Int) ≤ junk.length := by omega
  have hj1 : (junk.length : Int) < (junk.length : Int) + ((l.length : Int) + 1) := by omega
  clear hP
  go_region_with ((fail))
  all_goals
    have T4 := set4at (x := .string ⟨#[]⟩) (y := .string ⟨#[]⟩) (z := .int .u8 0) (u := .bool false) (junk.length * 4) (HP.out.hb.choose_spec.1)
    obtain ⟨s1, s2⟩ := T4
    obtain ⟨c1', c2', c3'⟩ := HP.out.hb.choose_spec
    have hP3 := HP.out.row s2 hgb (by omega) (by omega) s1 (by simpa using c2') (by
      have e := msgs_set junk ⟨mt, mp, mq, mr⟩ Msg.none l _ _ c3'
      simp only [Array.toList_setIfInBounds]
      exact e)
    have hM3 := hM.trans s2 (by simp)
    clear c1' c2' c3' s1 s2 c0 c1 k0 k1 k2 k3 f0 f1 f2 f3
    refine (?_ : ∀ W : World, PopF g b w.heap.size W1.heap.size (.slice (some ⟨b, 0, none⟩) (junk.length + (l.length + 1)) cap) (.int .i64 (junk.length : Int)) cap most ⟨mt, mp, mq, mr⟩ ((junk.length + (l.length + 1)) * 4) (junk ++ Msg.none :: l) W → Mod [g, b] w W → Exit.then _ _ Exit.normal _ W) _ hP3.drew hM3.drew
    clear hP3 hM3 HP hM W2
    intro W3 hP hM
    obtain ⟨c0, c1, c2⟩ := cells3 hP.hg
    obtain ⟨f0, f1, -, -⟩ := free4 hP.hg
    have HP := Lib.hid hP
    clear hP
    go_wp2_with fail
    have hP4 := HP.out.head (v' := .slice (some ⟨b, 0, none⟩) (junk.length + (l.length + 1)) cap) (a' := .int .i64 ((junk.length : Int) + 1)) ((Mod.refl [g] W3).setCell (p := ⟨g, 1, none⟩) (.inl (by simp)) (.int .i64 ((junk.length : Int) + 1))) (Ne.symm hgb) (by omega) (by omega) (heap_setCell_same W3 g 1 _ _ (.int .i64 ((junk.length : Int) + 1)) HP.out.hg)
    have hM4 := hM.setCell (p := ⟨g, 1, none⟩) (.inl (by simp)) (.int .i64 ((junk.length : Int) + 1))
    refine (?_ : ∀ W : World, PopF g b w.heap.size W1.heap.size (.slice (some ⟨b, 0, none⟩) (junk.length + (l.length + 1)) cap) (.int .i64 ((junk.length : Int) + 1)) cap most ⟨mt, mp, mq, mr⟩ ((junk.length + (l.length + 1)) * 4) (junk ++ Msg.none :: l) W → Mod [g, b] w W → Code.wp _ _ _ _ W) _ hP4 hM4
    clear hP4 hM4 HP hM c0 c1 c2 f0 f1 W3
    intro W4 hP hM
    obtain ⟨c0, c1, c2⟩ := cells3 hP.hg
    obtain ⟨r0, r1, r2, r3⟩ := cells4 hP.hr
    obtain ⟨s0, s1, s2, s3⟩ := cells4 (a := .string mt) (b := .string mp) (c := .int .u8 mq) (d := .bool mr) hP.hs
    obtain ⟨f0, f1, f2, f3⟩ := free4 hP.hr
    have HP := Lib.hid hP
    clear hP
    by_cases hc : (l.length : Int) ≤ (junk.length : Int) + 1
    · go_quiet (fail)
      rename_i nq
      have HP := Lib.hid (HP.out.drewN nq)
      have hM := hM.drewN nq
      have hncap : (junk.length : Int) + ((l.length : Int) + 1) ≤ cap := by omega
      have hj2 : (junk.length : Int) + 1 ≤ (junk.length : Int) + ((l.length : Int) + 1) := by omega
      have hj3 : (0 : Int) ≤ (junk.length : Int) + 1 := by omega
      by_cases hcap : cap = junk.length + 1
      · subst hcap
        have hl0 : l.length = 0 := by omega
        have HL0 := Lib.hid hl0
        have hl0' : l.length ≤ 0 := by omega
        clear hl0
        go_wp2_with fail
        obtain ⟨cur, b1, b2, b3⟩ := HP.out.hb
        have g2 : (msgs l).length = l.length * 4 := msgs_length l
        go_region_law ((
          refine step_copy T_msg (cs := msgs l) rfl rfl rfl rfl b1 ?_ ?_ ?_ ?_ (msgs_one l) ?_
          · rw [g2]; omega
          · omega
          · exact fun j v hj => by rw [List.eq_nil_of_length_eq_zero HL0.out] at hj; simp [msgs] at hj
          · omega
          intro W6 cur6 d1 d2 d3 d4))
        all_goals
          have hP6 := HP.out.drew.row d4 hgb (by omega) (by omega) d1 (d2.trans b2) (d3.trans rfl)
          have hM6 := hM.drew.trans d4 (by simp)
          obtain ⟨c0, c1, c2⟩ := cells3 hP6.hg
          have HP := Lib.hid hP6
          clear hP6
          have hcl : ¬ junk.length + 1 = l.length := by omega
          have hnl : (l.length : Int) ≤ (junk.length : Int) + ((l.length : Int) + 1) := by omega
          obtain ⟨cur2, e1, e2, e3⟩ := HP.out.hb
          have g3 : 0 + (junk.length + (l.length + 1)) * 4 ≤ cur2.size := by omega
          have E2 := Lib.hid e2
          have E3 := Lib.hid e3
          clear e2 e3
          go_wp2_with (refine wpList_clear T_msg (off := 0) (by decide) rfl rfl rfl (fun _ => rfl) e1 g3 ?_)
          intro W7 cur7 m1 m2 m4
          have hP7 := HP.out.row (k' := 0) (L' := []) m4 hgb (by omega) (by omega) m1 (m2.trans E2.out) (by simp [msgs])
          have hM7 := hM6.trans m4 (by simp)
          clear HP hM6 c0 c1 c2 e1 E2 E3 g3 m1 m2 m4 d1 d2 d3 d4
          obtain ⟨c0, c1, c2⟩ := cells3 hP7.hg
          obtain ⟨f0, f1, -, -⟩ := free4 hP7.hg
          obtain ⟨r0, r1, r2, r3⟩ := cells4 hP7.hr
          obtain ⟨s0, s1, s2, s3⟩ := cells4 (a := .string mt) (b := .string mp) (c := .int .u8 mq) (d := .bool mr) hP7.hs
          obtain ⟨j0, j1, j2, j3⟩ := free4 hP7.hr
          have HP := Lib.hid hP7
          clear hP7
          have hgr : ¬ g = w.heap.size := by omega
          have hgs : ¬ g = W1.heap.size := by omega
          go_wp2_with fail
          have hP8 := HP.out.head (v' := .slice (some ⟨b, 0, none⟩) 0 (junk.length + 1)) (a' := .int .i64 ((junk.length : Int) + 1)) ((Mod.refl [g] W7).setCell (p := ⟨g, 0, none⟩) (.inl (by simp)) _) (Ne.symm hgb) (by omega) (by omega) (heap_setCell_same W7 g 0 _ _ _ HP.out.hg)
          have hP9 := hP8.head (v' := .slice (some ⟨b, 0, none⟩) 0 (junk.length + 1)) (a' := .int .i64 0) ((Mod.refl [g] _).setCell (p := ⟨g, 1, none⟩) (.inl (by simp)) _) (Ne.symm hgb) (by omega) (by omega) (heap_setCell_same _ g 1 _ _ _ hP8.hg)
          have hM9 := (hM7.setCell (p := ⟨g, 0, none⟩) (.inl (by simp)) (.slice (some ⟨b, 0, none⟩) 0 (junk.length + 1))).setCell (p := ⟨g, 1, none⟩) (.inl (by simp)) (.int .i64 0)
          obtain ⟨t1, t2⟩ := set4 (x := .string mt) (y := .string mp) (z := .int .u8 mq) (u := .bool mr) hP9.hr
          refine bodyPost_ret (results_row_tmp (cs := #[.string mt, .string mp, .int .u8 mq, .bool mr]) rfl rfl (by exact t1) Tryz.underlying34 rfl msg_size) rfl ⟨rfl, [g, b], ?_, (hM9.trans t2 (by simp)), fun k hk => .inl (by simpa [Value.ownBlock] using hk)⟩
          obtain rfl := List.eq_nil_of_length_eq_zero HL0.out
          exact (pop_fin (junk := []) (l := []) (by simpa using hP9) (by simp) (by omega) hcm (by simp) (by omega) h3 h4 hgb).mod t2 (by simp; omega)
      · go_wp2_with fail
        obtain ⟨cur, b1, b2, b3⟩ := HP.out.hb
        have g1 := tail_cells b1 b3
        have g2 : (msgs l).length = l.length * 4 := msgs_length l
        go_region_law ((
          refine step_copy T_msg (cs := msgs l) rfl rfl rfl rfl b1 ?_ ?_ ?_ ?_ (msgs_one l) ?_
          · rw [g2]; omega
          · omega
          · exact g1
          · omega
          intro W6 cur6 d1 d2 d3 d4))
        all_goals
          have hP6 := HP.out.drew.row d4 hgb (by omega) (by omega) d1 (d2.trans b2) (d3.trans rfl)
          have hM6 := hM.drew.trans d4 (by simp)
          obtain ⟨c0, c1, c2⟩ := cells3 hP6.hg
          have HP := Lib.hid hP6
          clear hP6
          have hcl : ¬ cap = l.length := by omega
          have hnl : (l.length : Int) ≤ (junk.length : Int) + ((l.length : Int) + 1) := by omega
          simp only [show junk.length + (l.length + 1) - (junk.length + 1) = l.length by omega]
          obtain ⟨cur2, e1, e2, e3⟩ := HP.out.hb
          have g3 : l.length * 4 + (junk.length + (l.length + 1) - l.length) * 4 ≤ cur2.size := by omega
          have E2 := Lib.hid e2
          have E3 := Lib.hid e3
          clear e2 e3
          go_wp2_with (refine wpList_clear T_msg (off := l.length * 4) (by decide) rfl rfl rfl (fun _ => rfl) e1 g3 ?_)
          intro W7 cur7 m1 m2 m3 m4
          have hP7 := HP.out.row m4 hgb (by omega) (by omega) m1 (m2.trans E2.out) (m3.trans (by rw [← g2]; exact E3.out))
          have hM7 := hM6.trans m4 (by simp)
          clear HP hM6 c0 c1 c2 e1 E2 E3 g3 m1 m2 m3 m4 d1 d2 d3 d4
          obtain ⟨c0, c1, c2⟩ := cells3 hP7.hg
          obtain ⟨f0, f1, -, -⟩ := free4 hP7.hg
          obtain ⟨r0, r1, r2, r3⟩ := cells4 hP7.hr
          obtain ⟨s0, s1, s2, s3⟩ := cells4 (a := .string mt) (b := .string mp) (c := .int .u8 mq) (d := .bool mr) hP7.hs
          obtain ⟨j0, j1, j2, j3⟩ := free4 hP7.hr
          have HP := Lib.hid hP7
          clear hP7
          have hc0 : ¬ cap = 0 := by omega
          have hgr : ¬ g = w.heap.size := by omega
          have hgs : ¬ g = W1.heap.size := by omega
          go_wp2_with fail
          have hP8 := HP.out.head (v' := .slice (some ⟨b, 0, none⟩) l.length cap) (a' := .int .i64 ((junk.length : Int) + 1)) ((Mod.refl [g] W7).setCell (p := ⟨g, 0, none⟩) (.inl (by simp)) _) (Ne.symm hgb) (by omega) (by omega) (heap_setCell_same W7 g 0 _ _ _ HP.out.hg)
          have hP9 := hP8.head (v' := .slice (some ⟨b, 0, none⟩) l.length cap) (a' := .int .i64 0) ((Mod.refl [g] _).setCell (p := ⟨g, 1, none⟩) (.inl (by simp)) _) (Ne.symm hgb) (by omega) (by omega) (heap_setCell_same _ g 1 _ _ _ hP8.hg)
          have hM9 := (hM7.setCell (p := ⟨g, 0, none⟩) (.inl (by simp)) (.slice (some ⟨b, 0, none⟩) l.length cap)).setCell (p := ⟨g, 1, none⟩) (.inl (by simp)) (.int .i64 0)
          obtain ⟨t1, t2⟩ := set4 (x := .string mt) (y := .string mp) (z := .int .u8 mq) (u := .bool mr) hP9.hr
          refine bodyPost_ret (results_row_tmp (cs := #[.string mt, .string mp, .int .u8 mq, .bool mr]) rfl rfl (by exact t1) Tryz.underlying34 rfl msg_size) rfl ⟨rfl, [g, b], ?_, (hM9.trans t2 (by simp)), fun k hk => .inl (by simpa [Value.ownBlock] using hk)⟩
          exact (pop_fin (junk := []) (l := l) (by simpa using hP9) (by simp) (by omega) hcm (by simp) (by omega) h3 h4 hgb).mod t2 (by simp; omega)
    · go_quiet (fail)
      rename_i nq
      have HP := Lib.hid (HP.out.drewN nq)
      have hM := hM.drewN nq
      go_wp2_with fail
      obtain ⟨t1, t2⟩ := set4 (x := .string mt) (y := .string mp) (z := .int .u8 mq) (u := .bool mr) HP.out.hr
      refine bodyPost_ret (results_row_tmp (cs := #[.string mt, .string mp, .int .u8 mq, .bool mr]) rfl rfl (by exact t1) Tryz.underlying34 rfl msg_size) rfl ⟨rfl, [g, b], ?_, (hM.trans t2 (by simp)), fun k hk => .inl (by simpa [Value.ownBlock] using hk)⟩
      exact (pop_fin (junk := junk ++ [Msg.none]) (l := l) (by simpa using HP.out) (by simp; omega) (by omega) hcm (by simp; omega) (by omega) h3 h4 hgb).mod t2 (by simp; omega)
end
section
open Go Go.RowKit

theorem qclear_any (g : Nat) (l : List Msg) (most : Int) (F : List Nat) (w : World) (h : QRep w g l most F) :
    Calls Tryz.prog 91 #[.pointer (some ⟨g, 0, none⟩)] w fun e w' => e = .returned (.tuple #[]) ∧ QRep w' g [] most [g] ∧ Upd F [g] w w' := by
  obtain ⟨v, junk, hg, hown, h1, h2, h3, h4, h5, rfl⟩ := h
  have s1 := heap_setCell_same w g 0 _ _ (.slice none 0 0) hg
  have s2 := heap_setCell_same _ g 1 _ _ (.int .i64 0) s1
  have S2 := Lib.hid s2
  obtain ⟨c0, c1, c2⟩ := cells3 hg
  obtain ⟨f0, f1, -, -⟩ := free4 hg
  clear hown hg s1 s2
  go_enter Tryz.func91, Tryz.ntmps91
  go_wp2_with fail
  go_end0
  refine ⟨rfl, ⟨.slice none 0 0, [], S2.out, World.ownsRow_nil _ _ _ _, by simp, by simp; omega, h3, h4, by simp [Value.ownBlock], rfl⟩, ((Mod.refl _ w).setCell (.inl (by simp)) _).setCell (.inl (by simp)) _, by simp⟩
end
section
open Go Go.RowKit

theorem ownsRow_mono {w : World} {B B' : Nat} {e : TypeId} {size n : Nat} {v : Value} {xs : List Value} (h : w.ownsRow B e size v n xs) (hB : B' ≤ B) : w.ownsRow B' e size v n xs := by
  refine ⟨h.1, ?_⟩
  rcases h.2 with hn | ⟨b, cap, cur, hv, hb, r⟩
  · exact .inl hn
  · exact .inr ⟨b, cap, cur, hv, Nat.le_trans hB hb, r⟩

/-- The reference's queue lies at block g. -/
def RRep (w : World) (g : Nat) (l : List Msg) (most : Int) (F : List Nat) : Prop :=
  ∃ v, w.heap[g]? = some (.cells #[v, .int .i64 most] 122 (0, 0)) ∧ w.ownsRow 0 34 4 v l.length (msgs l) ∧ (l.length : Int) ≤ most ∧ 1 ≤ most ∧ most ≤ 1024 ∧ v.ownBlock ≠ some g ∧ F = g :: v.ownBlock.toList
theorem RRep.lt {w : World} {g : Nat} {l : List Msg} {most : Int} {F : List Nat} (h : RRep w g l most F) : ∀ k ∈ F, k < w.heap.size := by
  obtain ⟨v, hg, hown, _, _, _, _, rfl⟩ := h
  intro k hk
  simp only [List.mem_cons, Option.mem_toList] at hk
  rcases hk with rfl | hk
  · exact (Array.getElem?_eq_some_iff.1 hg).1
  · exact (hown.lt k hk).2
theorem RRep.mod {S : List Nat} {w w' : World} {g : Nat} {l : List Msg} {most : Int} {F : List Nat} (h : RRep w g l most F) (hm : Mod S w w') (hS : ∀ k ∈ F, k ∉ S) : RRep w' g l most F := by
  have hlt := h.lt
  obtain ⟨v, hg, hown, h1, h2, h3, h4, rfl⟩ := h
  have hF : ∀ k ∈ g :: v.ownBlock.toList, w'.heap[k]? = w.heap[k]? := fun k hk => hm.block k (hlt k hk) (hS k hk)
  exact ⟨v, by rw [hF g (by simp)]; exact hg, ownsRow_local hown fun k hk => hF k (by simp [hk]), h1, h2, h3, h4, rfl⟩
theorem RRep.drewN {w : World} {g : Nat} {l : List Msg} {most : Int} {F : List Nat} (h : RRep w g l most F) (n : Nat) : RRep (w.drewN n) g l most F := h
theorem cells2 {w : World} {g : Nat} {a b : Value} {T : TypeId} {fr : Nat × Nat} (h : w.heap[g]? = some (.cells #[a, b] T fr)) :
    w.cell? ⟨g, 0, none⟩ = some a ∧ w.cell? ⟨g, 1, none⟩ = some b := ⟨cell_of_row w g 0 _ _ _ h, cell_of_row w g 1 _ _ _ h⟩

theorem rnew_any (most : Int) (w : World) (hm : 1 ≤ most ∧ most ≤ 1024) :
    Calls Tryz.prog 68 #[.int .i64 most] w fun e w' => ∃ g, e = .returned (.pointer (some ⟨g, 0, none⟩)) ∧ RRep w' g [] most [g] ∧ Upd [] [g] w w' := by
  obtain ⟨h1, h2⟩ := hm
  go_enter Tryz.func68, Tryz.ntmps68
  go_wp2_with fail
  go_ret
  refine ⟨_, rfl, ?_, (Mod.refl _ _).alloc _, by simp⟩
  exact ⟨.slice none 0 0, heap_alloc_new _ _, World.ownsRow_nil _ _ _ _, by simp; omega, h1, h2, by simp [Value.ownBlock], rfl⟩
theorem rnew_out (most : Int) (w : World) (hm : most < 1 ∨ 1024 < most) :
    Calls Tryz.prog 68 #[.int .i64 most] w fun e w' => e = .returned (.pointer none) ∧ w = w' := by
  rcases hm with hm | hm
  · skip
    go_enter Tryz.func68, Tryz.ntmps68
    go_wp2_with fail
    go_ret
    exact ⟨rfl, rfl⟩
  · have : ¬ most < 1 := by omega
    go_enter Tryz.func68, Tryz.ntmps68
    go_wp2_with fail
    go_ret
    exact ⟨rfl, rfl⟩

theorem rpush_full (g : Nat) (l : List Msg) (most : Int) (F : List Nat) (m : Msg) (w : World) (h : RRep w g l most F) (hl : (l.length : Int) = most) :
    Calls Tryz.prog 76 #[.pointer (some ⟨g, 0, none⟩), m.val] w fun e w' => e = .returned (.bool false) ∧ RRep w' g l most F ∧ Upd F F w w' := by
  have hM := (Mod.refl F w).alloc (.cells m.cells.toArray 34)
  have H := Lib.hid (h.mod ((Mod.refl [] w).alloc (.cells m.cells.toArray 34)) (by simp))
  obtain ⟨v, hg, hown, h1, h2, h3, h4, -⟩ := h
  obtain ⟨a, cap, rfl, -, -, -⟩ := ownsRow_row hown
  have hg' := (Below.heap_alloc w (.cells m.cells.toArray 34) g (Array.getElem?_eq_some_iff.1 hg).1).trans hg
  obtain ⟨mt, mp, mq, mr⟩ := m
  obtain ⟨c0, c1⟩ := cells2 (w := w.alloc (.cells #[.string mt, .string mp, .int .u8 mq, .bool mr] 34)) hg'
  have HM := Lib.hid hM
  clear hg hown h4 hg' hM
  unfold Msg.val
  go_enter Tryz.func76, Tryz.ntmps76
  go_wp2_with fail
  go_quiet (fail)
  go_wp2_with fail
  go_ret
  exact ⟨rfl, H.out.drewN _, HM.out.drewN _, fun k hk => .inl hk⟩

/-- The reference's queue behind a store of its new row. -/
theorem rset_fin {w W1 W3 : World} {g : Nat} {v0 v : Value} {l : List Msg} {most : Int} {F : List Nat} (hg : W1.heap[g]? = some (.cells #[v0, .int .i64 most] 122 (0, 0)))
    (hb : Below W1.heap.size W1 W3) (hown : W3.ownsRow W1.heap.size 34 4 v l.length (msgs l)) (hM : Mod F w W1) (hgF : g ∈ F) (h1 : (l.length : Int) ≤ most) (h2 : 1 ≤ most) (h3 : most ≤ 1024) :
    RRep (W3.setCell ⟨g, 0, none⟩ v) g l most (g :: v.ownBlock.toList) ∧ Upd F (g :: v.ownBlock.toList) w (W3.setCell ⟨g, 0, none⟩ v) := by
  have hgl : g < W1.heap.size := (Array.getElem?_eq_some_iff.1 hg).1
  have hlt := hown.lt
  have hg3 : W3.heap[g]? = some (.cells #[v0, .int .i64 most] 122 (0, 0)) := (hb.block g hgl).trans hg
  have hne : ∀ k, v.ownBlock = some k → k ≠ g := fun k hk => by have := (hlt k hk).1; omega
  refine ⟨⟨v, ?_, ?_, h1, h2, h3, ?_, rfl⟩, (hM.next hb).setCell (.inl hgF) v, ?_⟩
  · rw [heap_setCell_same W3 g 0 _ _ v hg3]; rfl
  · exact ownsRow_local (ownsRow_mono hown (Nat.zero_le _)) fun k hk => heap_setCell_other W3 _ _ _ (hne k hk)
  · intro hk; exact hne g hk rfl
  · intro k hk
    simp only [List.mem_cons, Option.mem_toList] at hk
    rcases hk with rfl | hk
    · exact .inl hgF
    · right; have := (hlt k hk).1; have := hM.size; omega

set_option maxRecDepth 100000 in
set_option maxHeartbeats 2000000 in
theorem rpush_room (g : Nat) (l : List Msg) (most : Int) (F : List Nat) (m : Msg) (w : World) (h : RRep w g l most F) (hl : (l.length : Int) < most) :
    Calls Tryz.prog 76 #[.pointer (some ⟨g, 0, none⟩), m.val] w fun e w' => e = .returned (.bool true) ∧ ∃ F', RRep w' g (l ++ [m]) most F' ∧ Upd F F' w w' := by
  have hM := (Mod.refl F w).alloc (.cells m.cells.toArray 34)
  obtain ⟨v, hg, hown, h1, h2, h3, h4, rfl⟩ := h
  obtain ⟨a, cap, rfl, hrow, -, -⟩ := ownsRow_row hown
  have hg' := (Below.heap_alloc w (.cells m.cells.toArray 34) g (Array.getElem?_eq_some_iff.1 hg).1).trans hg
  have hrow' := hrow.below ((Below.refl w.heap.size w).alloc (Nat.le_refl _) (.cells m.cells.toArray 34)) (Nat.le_refl _)
  have hbox := heap_alloc_new w (.cells m.cells.toArray 34)
  obtain ⟨mt, mp, mq, mr⟩ := m
  obtain ⟨c0, c1⟩ := cells2 (w := w.alloc (.cells #[.string mt, .string mp, .int .u8 mq, .bool mr] 34)) hg'
  have hdec : decide (most ≤ (l.length : Int)) = false := by simp; omega
  have HM := Lib.hid hM
  have HG := Lib.hid hg'
  have HB := Lib.hid hbox
  have HR := Lib.hid hrow'
  clear hg hown h4 hg' hM hrow hrow' hbox
  unfold Msg.val
  go_enter Tryz.func76, Tryz.ntmps76
  go_wp2_with fail
  go_quiet (fail)
  rename_i nq
  replace HM := Lib.hid (HM.out.drewN nq)
  replace HG : Hid (((w.alloc (.cells #[.string mt, .string mp, .int .u8 mq, .bool mr] 34)).drewN nq).heap[g]? = some (.cells #[.slice a l.length cap, .int .i64 most] 122 (0, 0))) := HG.out
  replace HB : Hid (((w.alloc (.cells #[.string mt, .string mp, .int .u8 mq, .bool mr] 34)).drewN nq).heap[w.heap.size]? = some (.cells #[.string mt, .string mp, .int .u8 mq, .bool mr] 34 (0, 0))) := HB.out
  replace HR : Hid (Row ((w.alloc (.cells #[.string mt, .string mp, .int .u8 mq, .bool mr] 34)).drewN nq) a (msgs l)) := HR.out
  change Mod _ w ((w.alloc (.cells #[.string mt, .string mp, .int .u8 mq, .bool mr] 34)).drewN nq) at HM
  refine (?_ : ∀ W1 : World, Mod _ w W1 → W1.heap[g]? = some (.cells #[.slice a l.length cap, .int .i64 most] 122 (0, 0)) → W1.heap[w.heap.size]? = some (.cells #[.string mt, .string mp, .int .u8 mq, .bool mr] 34 (0, 0)) → Row W1 a (msgs l) → Exit.then _ _ Exit.normal _ W1) _ HM HG.out HB.out HR.out
  clear HM HG HB HR c0 c1
  intro W1 hM hg hbox hrow
  obtain ⟨c0, c1⟩ := cells2 hg
  have f0 := frozen_of_row W1 g 0 _ _ hg
  obtain ⟨k0, k1, k2, k3⟩ := cells4 hbox
  have hgl : g < W1.heap.size := (Array.getElem?_eq_some_iff.1 hg).1
  have hxl : w.heap.size < W1.heap.size := (Array.getElem?_eq_some_iff.1 hbox).1
  have HG := Lib.hid hg
  have HB := Lib.hid hbox
  clear hg hbox
  go_wp2_with (at_builtin; refine wpList_appRow T_msg (World.ownsRow_nil W1 W1.heap.size _ _) (Below.refl _ _) (Nat.le_refl _) hrow rfl rfl rfl rfl (msgs_length l) (msgs_one l) (by omega) (by omega) ?_)
  intro v2 W2 hown2 hb2 hB2
  obtain ⟨a2, cap2, rfl, -, -, -⟩ := ownsRow_row hown2
  have HG2 := Lib.hid ((hb2.block g hgl).trans HG.out)
  have HB2 := Lib.hid ((hb2.block _ hxl).trans HB.out)
  clear c0 c1 f0 k0 k1 k2 k3 hrow
  obtain ⟨c0, c1⟩ := cells2 HG2.out
  have f0 := frozen_of_row W2 g 0 _ _ HG2.out
  obtain ⟨k0, k1, k2, k3⟩ := cells4 HB2.out
  go_wp2_with (at_builtin; refine wpList_app T_msg hown2 hb2 hB2 rfl rfl rfl rfl rfl (by simp [Value.oneCell']) (by omega) (by omega) ?_)
  intro v3 W3 hown3 hb3 hB3 hlt3
  obtain ⟨a3, cap3, rfl, -, -, -⟩ := ownsRow_row hown3
  have hown3' : W3.ownsRow W1.heap.size 34 4 (.slice a3 (l.length + 1) cap3) (l ++ [(⟨mt, mp, mq, mr⟩ : Msg)]).length (msgs (l ++ [(⟨mt, mp, mq, mr⟩ : Msg)])) := by
    rw [← msgs_append]; simpa [msgs, Msg.cells] using hown3
  clear hown3
  have HG3 := Lib.hid ((hb3.block g hgl).trans HG.out)
  clear c0 c1 f0 k0 k1 k2 k3
  obtain ⟨c0, c1⟩ := cells2 HG3.out
  have f0 := frozen_of_row W3 g 0 _ _ HG3.out
  go_wp2_with fail
  go_ret
  obtain ⟨z1, z2⟩ := rset_fin HG.out hb3 hown3' hM List.mem_cons_self (by simp; omega) h2 h3
  exact ⟨rfl, _, z1, z2⟩

/-- 'l[1:]'. -/
theorem run_slice_l1 {P : Program} {t e : TypeId} (ht : P.underlying t = some (.slice e)) (hsz : (P.info? e).map (·.size) = some 4) (b off n cap : Nat) (w : World) :
    (Instr.slice t (.slice (some ⟨b, off, none⟩) (n + 1) cap) (some (.int .i64 1)) none none).run P w = .ok (.slice (if cap = 1 then some ⟨b, off, none⟩ else some ⟨b, off + 4, none⟩) n (cap - 1)) w := by
  cases hq : P.info? e with
  | none => simp [hq] at hsz
  | some i =>
    have hs : i.size = 4 := by simpa [hq] using hsz
    have h1 : (0 : Int) ≤ 1 ∧ (1 : Int) ≤ ((n + 1 : Nat) : Int) := by omega
    simp [Instr.slice, run_underlying ht, Instr.sliceBounds, Instr.sliceBound, asIntOf, sizeOf, typeInfo, hq, hs, Addr.add]
    intro h
    omega
theorem row_rest {w : World} {b off : Nat} {m : Msg} {l : List Msg} (h : Row w (some ⟨b, off, none⟩) (msgs (m :: l))) : Row w (some ⟨b, off + 4, none⟩) (msgs l) := by
  have ht := row_tail (A := [m]) h (by simp)
  simp only [List.length_singleton, Nat.one_mul] at ht
  refine .inr ⟨b, off + 4, rfl, fun j u hj => ?_⟩
  have h1 := ht j u hj
  have e1 : (⟨b, off + 4, none⟩ : Addr).add j = ⟨b, off + 4 + j, none⟩ := by unfold Addr.add; split <;> simp_all
  rwa [e1] at h1

set_option maxRecDepth 100000 in
set_option maxHeartbeats 2000000 in
theorem rpop_some (g : Nat) (m : Msg) (l : List Msg) (most : Int) (F : List Nat) (w : World) (h : RRep w g (m :: l) most F) :
    Calls Tryz.prog 81 #[.pointer (some ⟨g, 0, none⟩)] w fun e w' => e = .returned (.tuple #[m.val, .bool true]) ∧ ∃ F', RRep w' g l most F' ∧ Upd F F' w w' := by
  have hM := (Mod.refl F w).alloc (.cells #[.string ⟨#[]⟩, .string ⟨#[]⟩, .int .u8 0, .bool false] 34)
  obtain ⟨v, hg, hown, h1, h2, h3, h4, rfl⟩ := h
  obtain ⟨a, cap, rfl, hrow, hnc, -⟩ := ownsRow_row hown
  simp only [List.length_cons] at hg h1 hnc hM hown
  have hgl : g < w.heap.size := (Array.getElem?_eq_some_iff.1 hg).1
  have hg' := (Below.heap_alloc w (.cells #[.string ⟨#[]⟩, .string ⟨#[]⟩, .int .u8 0, .bool false] 34) g hgl).trans hg
  have hrow' := hrow.below ((Below.refl w.heap.size w).alloc (Nat.le_refl _) (.cells #[.string ⟨#[]⟩, .string ⟨#[]⟩, .int .u8 0, .bool false] 34)) (Nat.le_refl _)
  obtain ⟨b, off, rfl, k0, k1, k2, k3⟩ := msgs_row hrow' (k := 0) (m := m) (by simp)
  simp only [Nat.zero_mul, Nat.add_zero] at k0 k1 k2 k3
  have HW := Lib.hid (row_rest hrow')
  obtain ⟨mt, mp, mq, mr⟩ := m
  obtain ⟨c0, c1⟩ := cells2 hg'
  have HM := Lib.hid hM
  have HG := Lib.hid hg'
  clear hg hown h4 hg' hM hrow hrow'
  have hz : ((l.length : Int) + 1 == 0) = false := by simp; omega
  have hl1 : (1 : Int) ≤ (l.length : Int) + 1 := by omega
  have hl0 : 0 < l.length + 1 := by omega
  unfold Msg.val
  have hgr : ¬ g = w.heap.size := by omega
  have hgs : ¬ g = w.heap.size + 1 := by omega
  have hgr' : ¬ w.heap.size = g := by omega
  have hgs' : ¬ w.heap.size + 1 = g := by omega
  have key : ∀ (ad : Option Addr), Row ((w.alloc (.cells #[.string ⟨#[]⟩, .string ⟨#[]⟩, .int .u8 0, .bool false] 34)).alloc (.cells #[.string mt, .string mp, .int .u8 mq, .bool mr] 34)) ad (msgs l) → (if cap = 1 then some (⟨b, off, none⟩ : Addr) else some ⟨b, off + 4, none⟩) = ad →
      Calls Tryz.prog 81 #[.pointer (some ⟨g, 0, none⟩)] w fun e w' => e = .returned (.tuple #[.agg #[.string mt, .string mp, .int .u8 mq, .bool mr], .bool true]) ∧ ∃ F', RRep w' g l most F' ∧ Upd (g :: (Value.slice (some ⟨b, off, none⟩) (l.length + 1) cap).ownBlock.toList) F' w w' := by
    intro ad hrow had
    have HR := Lib.hid hrow
    have hsl : ∀ w, (Instr.slice 120 (.slice (some ⟨b, off, none⟩) (l.length + 1) cap) (some (.int .i64 1)) none none).run Tryz.prog w = .ok (.slice ad l.length (cap - 1)) w := by
      intro w
      have h := run_slice_l1 (P := Tryz.prog) Tryz.underlying120 (by kernel_rfl) b off l.length cap w
      rw [h, ← had]
    clear hrow
    go_enter Tryz.func81, Tryz.ntmps81
    go_wp2_with (at_builtin; refine wpList_appRow T_msg (World.ownsRow_nil _ _ _ _) (Below.refl _ _) (Nat.le_refl _) HR.out rfl rfl rfl rfl (msgs_length l) (msgs_one l) (by omega) (by omega) ?_)
    intro v2 W2 hown2 hb2 hB2
    obtain ⟨a2, cap2, rfl, -, -, -⟩ := ownsRow_row hown2
    have HG1 := Lib.hid ((Below.heap_alloc _ (.cells #[.string mt, .string mp, .int .u8 mq, .bool mr] 34) g (by simp; omega)).trans HG.out)
    have HG2 := Lib.hid ((hb2.block g (by omega)).trans HG1.out)
    have HR2 := Lib.hid ((hb2.block w.heap.size (by omega)).trans ((Below.heap_alloc _ (.cells #[.string mt, .string mp, .int .u8 mq, .bool mr] 34) w.heap.size (by simp)).trans (heap_alloc_new w _)))
    have HS2 := Lib.hid ((hb2.block (w.heap.size + 1) (by omega)).trans (by
      have h := heap_alloc_new (w.alloc (.cells #[.string ⟨#[]⟩, .string ⟨#[]⟩, .int .u8 0, .bool false] 34)) (.cells #[.string mt, .string mp, .int .u8 mq, .bool mr] 34)
      simp only [World.size_alloc] at h
      exact h))
    have HM2 := Lib.hid (HM.out.alloc (.cells #[.string mt, .string mp, .int .u8 mq, .bool mr] 34))
    clear c0 c1 k0 k1 k2 k3 hsl
    obtain ⟨c0, c1⟩ := cells2 HG2.out
    have fg := frozen_of_row W2 g 0 _ _ HG2.out
    obtain ⟨k0, k1, k2, k3⟩ := cells4 HS2.out
    obtain ⟨r0, r1, r2, r3⟩ := cells4 HR2.out
    obtain ⟨f0, f1, f2, f3⟩ := free4 HR2.out
    go_wp2_with fail
    have hb2' : Below ((w.alloc (.cells #[.string ⟨#[]⟩, .string ⟨#[]⟩, .int .u8 0, .bool false] 34)).alloc (.cells #[.string mt, .string mp, .int .u8 mq, .bool mr] 34)).heap.size ((w.alloc (.cells #[.string ⟨#[]⟩, .string ⟨#[]⟩, .int .u8 0, .bool false] 34)).alloc (.cells #[.string mt, .string mp, .int .u8 mq, .bool mr] 34)) W2 := hb2.mono (by simp)
    have hown2' : W2.ownsRow ((w.alloc (.cells #[.string ⟨#[]⟩, .string ⟨#[]⟩, .int .u8 0, .bool false] 34)).alloc (.cells #[.string mt, .string mp, .int .u8 mq, .bool mr] 34)).heap.size 34 4 (.slice a2 l.length cap2) l.length (msgs l) := ownsRow_mono hown2 (by simp)
    obtain ⟨z1, z2⟩ := rset_fin HG1.out hb2' hown2' HM2.out List.mem_cons_self (by omega) h2 h3
    have hr3 := (heap_setCell_other W2 ⟨g, 0, none⟩ w.heap.size (.slice a2 l.length cap2) hgr').trans HR2.out
    obtain ⟨t1, t2⟩ := set4 (x := .string mt) (y := .string mp) (z := .int .u8 mq) (u := .bool mr) hr3
    have hnb : ∀ k ∈ g :: (Value.slice a2 l.length cap2).ownBlock.toList, k ∉ [w.heap.size] := by
      intro k hk hk'
      simp only [List.mem_singleton] at hk'
      simp only [List.mem_cons, Option.mem_toList] at hk
      rcases hk with hk | hk
      · omega
      · have := (hown2.lt k hk).1; omega
    exact bodyPost_ret (results_row_tmp (cs := #[.string mt, .string mp, .int .u8 mq, .bool mr]) rfl rfl (by exact t1) Tryz.underlying34 rfl msg_size) rfl ⟨rfl, _, z1.mod t2 hnb, z2.1.trans t2 (by simp), z2.2⟩
  by_cases hcap : cap = 1
  · refine key _ (.inl ?_) rfl
    have : l.length = 0 := by omega
    rw [List.eq_nil_of_length_eq_zero this]; rfl
  · exact key (some ⟨b, off + 4, none⟩) (HW.out.below ((Below.refl _ _).alloc (Nat.le_refl _) _) (Nat.le_refl _)) (if_neg hcap)
end
section
open Go Go.RowKit

def pushL (most : Int) (l : List Msg) (m : Msg) : List Msg := if (l.length : Int) < most then l ++ [m] else l
theorem qbelow_upd {F : List Nat} {w w' : World} (h : Below w.heap.size w w') : Upd F F w w' := ⟨Mod.of_below h F, fun _ hk => .inl hk⟩
theorem QRep.le {w : World} {g : Nat} {l : List Msg} {most : Int} {F : List Nat} (h : QRep w g l most F) : (l.length : Int) ≤ most ∧ most ≤ 1024 := by
  obtain ⟨_, _, _, _, _, h, _, h', _, _⟩ := h; exact ⟨h, h'⟩
theorem RRep.le {w : World} {g : Nat} {l : List Msg} {most : Int} {F : List Nat} (h : RRep w g l most F) : (l.length : Int) ≤ most ∧ most ≤ 1024 := by
  obtain ⟨_, _, _, h, _, h', _⟩ := h; exact ⟨h, h'⟩
theorem QRep.hd {w : World} {g : Nat} {l : List Msg} {most : Int} {F : List Nat} (h : QRep w g l most F) : g ∈ F := by
  obtain ⟨_, _, _, _, _, _, _, _, _, rfl⟩ := h; simp

theorem qpush_u (b : Bool) (g : Nat) (l : List Msg) (most : Int) (F : List Nat) (m : Msg) (w : World) (h : QRep w g l most F) (hb : decide ((l.length : Int) < most) = b) :
    Calls Tryz.prog 64 #[.pointer (some ⟨g, 0, none⟩), m.val] w fun e w' => e = .returned (.bool b) ∧ ∃ F', QRep w' g (pushL most l m) most F' ∧ Upd F F' w w' := by
  subst hb
  have hle := h.le.1
  by_cases hl : (l.length : Int) < most
  · refine (qpush_room g l most F m w h hl).mono ?_
    rintro e w' ⟨rfl, F', h1, h2⟩
    exact ⟨by simp [hl], F', by rw [pushL, if_pos hl]; exact h1, h2⟩
  · refine (qpush_full g l most F m w h (by omega)).mono ?_
    rintro e w' ⟨rfl, h1, h2⟩
    exact ⟨by simp [hl], F, by rw [pushL, if_neg hl]; exact h1, h2⟩
theorem rpush_u (b : Bool) (g : Nat) (l : List Msg) (most : Int) (F : List Nat) (m : Msg) (w : World) (h : RRep w g l most F) (hb : decide ((l.length : Int) < most) = b) :
    Calls Tryz.prog 76 #[.pointer (some ⟨g, 0, none⟩), m.val] w fun e w' => e = .returned (.bool b) ∧ ∃ F', RRep w' g (pushL most l m) most F' ∧ Upd F F' w w' := by
  subst hb
  have hle := h.le.1
  by_cases hl : (l.length : Int) < most
  · refine (rpush_room g l most F m w h hl).mono ?_
    rintro e w' ⟨rfl, F', h1, h2⟩
    exact ⟨by simp [hl], F', by rw [pushL, if_pos hl]; exact h1, h2⟩
  · refine (rpush_full g l most F m w h (by omega)).mono ?_
    rintro e w' ⟨rfl, h1, h2⟩
    exact ⟨by simp [hl], F, by rw [pushL, if_neg hl]; exact h1, h2⟩
theorem qpop_u (m : Msg) (b : Bool) (l' : List Msg) (g : Nat) (l : List Msg) (most : Int) (F : List Nat) (w : World) (h : QRep w g l most F) (hm : l.headD Msg.none = m) (hb : (!l.isEmpty) = b) (hl : l.tail = l') :
    Calls Tryz.prog 79 #[.pointer (some ⟨g, 0, none⟩)] w fun e w' => e = .returned (.tuple #[m.val, .bool b]) ∧ ∃ F', QRep w' g l' most F' ∧ Upd F F' w w' := by
  subst hm hb hl
  cases l with
  | nil =>
    refine (qpop_empty g most F w h).mono ?_
    rintro e w' ⟨rfl, h1⟩
    exact ⟨rfl, F, h.mod (Mod.of_below h1 []) (by simp), qbelow_upd h1⟩
  | cons x l =>
    exact qpop_some g x l most F w h
theorem qpeek_u (m : Msg) (b : Bool) (g : Nat) (l : List Msg) (most : Int) (F : List Nat) (w : World) (h : QRep w g l most F) (hm : l.headD Msg.none = m) (hb : (!l.isEmpty) = b) :
    Calls Tryz.prog 78 #[.pointer (some ⟨g, 0, none⟩)] w fun e w' => e = .returned (.tuple #[m.val, .bool b]) ∧ Below w.heap.size w w' := by
  subst hm hb
  cases l with
  | nil => exact qpeek_empty g most F w h
  | cons x l => exact qpeek_some g x l most F w h
/-- Two footprints have no block in common. -/
def Far (F G : List Nat) : Prop := ∀ k ∈ F, k ∉ G
theorem Far.symm {F G : List Nat} (h : Far F G) : Far G F := fun k hk hf => h k hf hk
theorem Far.upd {F F' G : List Nat} {w w' : World} (h : Far F G) (hu : Upd F F' w w') (hG : ∀ k ∈ G, k < w.heap.size) : Far F' G := fun k hk hg => by
  rcases hu.2 k hk with h1 | h1
  · exact h k h1 hg
  · have := hG k hg; omega
theorem QRep.upd {F F' G : List Nat} {w w' : World} {g : Nat} {l : List Msg} {most : Int} (h : QRep w g l most G) (hu : Upd F F' w w') (hf : Far F G) : QRep w' g l most G := h.mod hu.1 fun k hk => hf.symm k hk
theorem RRep.upd {F F' G : List Nat} {w w' : World} {g : Nat} {l : List Msg} {most : Int} (h : RRep w g l most G) (hu : Upd F F' w w') (hf : Far F G) : RRep w' g l most G := h.mod hu.1 fun k hk => hf.symm k hk
theorem QRep.below {w w' : World} {g : Nat} {l : List Msg} {most : Int} {F : List Nat} (h : QRep w g l most F) (hk : Below w.heap.size w w') : QRep w' g l most F := h.mod (Mod.of_below hk []) (by simp)
theorem RRep.below {w w' : World} {g : Nat} {l : List Msg} {most : Int} {F : List Nat} (h : RRep w g l most F) (hk : Below w.heap.size w w') : RRep w' g l most F := h.mod (Mod.of_below hk []) (by simp)
end
end Go.Proofs.YtmkhagmjpbfieaaGreatDoor
