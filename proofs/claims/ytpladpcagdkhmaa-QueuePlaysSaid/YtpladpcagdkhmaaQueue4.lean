import Derived.Test.YtpladpcagdkhmaaQueue3
import Derived.Test.YtpladpcagdkhmaaMem2
namespace Go.Proofs.Ytpladpcagdkhmaa
open Go Go.RowKit

theorem qall_empty (g : Nat) (most : Int) (F : List Nat) (w : World) (h : QRep w g [] most F) :
    Calls Try.prog 13 #[.pointer (some ⟨g, 0, none⟩)] w fun e w' => ∃ v, e = .returned v ∧ w'.ownsRow w.heap.size 28 4 v 0 [] ∧ Below w.heap.size w w' := by
  have H := Lib.hid h
  clear h
  go_enter Try.func13, Try.ntmps13
  go_wp2_with fail
  refine (qlen_of 0 g [] most F _ H.out rfl).mono ?_
  rintro e w1 ⟨rfl, n, rfl⟩
  go_wp2_with fail
  go_ret
  exact ⟨_, rfl, World.ownsRow_nil _ _ _ _, below_draws _⟩

set_option maxHeartbeats 2000000 in
theorem qall_some (g : Nat) (m : Msg) (l : List Msg) (most : Int) (F : List Nat) (w : World) (h : QRep w g (m :: l) most F) :
    Calls Try.prog 13 #[.pointer (some ⟨g, 0, none⟩)] w fun e w' => ∃ v, e = .returned v ∧ w'.ownsRow w.heap.size 28 4 v (m :: l).length (msgs (m :: l)) ∧ Below w.heap.size w w' := by
  have H := Lib.hid h
  have hz : ((l.length : Int) + 1 == 0) = false := by simp; omega
  obtain ⟨v, junk, hg, hown, h1, h2, h3, h4, h5, -⟩ := h
  rcases hown.2 with ⟨-, hn0⟩ | ⟨b, cap, cur, rfl, -, hbb, hnc, hcm, hcs, htk⟩
  · simp at hn0
  obtain ⟨a, cap', e1, hrow, -, -⟩ := ownsRow_row hown
  obtain ⟨rfl, rfl⟩ : some (⟨b, 0, none⟩ : Addr) = a ∧ cap = cap' := by simpa using e1
  have hcell := row_tail hrow (by simp)
  rw [Nat.zero_add] at hcell
  simp only [List.length_cons] at h1 h2 hnc hg
  obtain ⟨c0, c1, c2⟩ := cells3 hg
  have hj0 : (0 : Int) ≤ junk.length := by omega
  have hj1 : (junk.length : Int) ≤ (junk.length : Int) + ((l.length : Int) + 1) := by omega
  have hcap : ¬ cap = junk.length := by omega
  have hml := msgs_length (m :: l)
  have HC := Lib.hid hcell
  clear hown h5 hbb hcs htk hg hrow e1 hcell
  go_enter Try.func13, Try.ntmps13
  go_wp2_with fail
  refine (qlen_of ((l.length : Int) + 1) g (m :: l) most F _ H.out (by simp)).mono ?_
  rintro e w1 ⟨rfl, n, rfl⟩
  go_wp2_with fail
  go_region_law ((
    refine step_appRow T_msg (World.ownsRow_nil _ w.heap.size _ _) (news := msgs (m :: l)) rfl rfl rfl rfl ?_ ?_ ?_ (msgs_one _) ?_ ?_ ?_ ?_
    · rw [hml, List.length_cons]
    · exact HC.out
    · omega
    · omega
    · omega
    · exact Nat.le_refl _
    intro g' cap' w2 hown2 hgrow hat hlt))
  all_goals
    clear c0 c1 c2
    go_wp2_with fail
    go_ret
    refine ⟨_, rfl, ?_, bnext (below_draws _) (Nat.le_refl _) (grown_below hgrow)⟩
    have hfin : w2.ownsRow w.heap.size 28 4 (.slice (some ⟨g', 0, none⟩) (l.length + 1) cap') (m :: l).length (msgs (m :: l)) := by simpa using hown2
    exact hfin

theorem qclear_any (g : Nat) (l : List Msg) (most : Int) (F : List Nat) (w : World) (h : QRep w g l most F) :
    Calls Try.prog 16 #[.pointer (some ⟨g, 0, none⟩)] w fun e w' => e = .returned (.tuple #[]) ∧ QRep w' g [] most [g] ∧ Upd F [g] w w' := by
  obtain ⟨v, junk, hg, hown, h1, h2, h3, h4, h5, rfl⟩ := h
  have s1 := heap_setCell_same w g 0 _ _ (.slice none 0 0) hg
  have s2 := heap_setCell_same _ g 1 _ _ (.int .i64 0) s1
  have S2 := Lib.hid s2
  obtain ⟨c0, c1, c2⟩ := cells3 hg
  obtain ⟨f0, f1, -, -⟩ := free4 hg
  clear hown hg s1 s2
  go_enter Try.func16, Try.ntmps16
  go_wp2_with fail
  go_end0
  refine ⟨rfl, ⟨.slice none 0 0, [], S2.out, World.ownsRow_nil _ _ _ _, by simp, by simp; omega, h3, h4, by simp [Value.ownBlock], rfl⟩, ((Mod.refl _ w).setCell (.inl (by simp)) _).setCell (.inl (by simp)) _, by simp⟩

/-- No queue: nil. -/
theorem qnil_push (m : Msg) (w : World) : Calls Try.prog 11 #[.pointer none, m.val] w fun e w' => e = .returned (.bool false) ∧ Below w.heap.size w w' := by
  obtain ⟨mt, mp, mq, mr⟩ := m
  unfold Msg.val
  go_enter Try.func11, Try.ntmps11
  go_wp2_with fail
  refine (qroom_nil _).mono ?_
  rintro e w1 ⟨rfl, rfl⟩
  go_wp2_with fail
  go_ret
  exact ⟨rfl, (Below.refl _ _).alloc (Nat.le_refl _) _⟩

theorem message_any (s : ByteArray) (w : World) : Calls Try.prog 12 #[.string s] w fun e w' => e = .returned (Msg.val ⟨s, ⟨#[]⟩, 0, false⟩) ∧ Below w.heap.size w w' := by
  go_enter Try.func12, Try.ntmps12
  go_wp2_with fail
  exact bodyPost_ret (results_cell_row (cs := #[.string s, .string ⟨#[]⟩, .int .u8 0, .bool false]) rfl _ _ _ _ _ _ rfl (heap_alloc_new w _) Try.underlying28 rfl msg_size) rfl ⟨rfl, (Below.refl _ _).alloc (Nat.le_refl _) _⟩
end Go.Proofs.Ytpladpcagdkhmaa
