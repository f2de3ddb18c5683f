import Derived.Test.YtpladpcagdkhmaaQAwake
namespace Go.Proofs.Ytpladpcagdkhmaa
open Go Go.RowKit

theorem qlen_nil' (w : World) : Calls Try.prog 10 #[.pointer none] w fun e w' => e = .returned (.int .i64 0) ∧ ∃ m, w' = w.drewN m :=
  (qlen_nil w).mono fun _ _ ⟨h1, h2⟩ => ⟨h1, 0, h2.symm⟩
theorem qnil_peek (w : World) : Calls Try.prog 15 #[.pointer none] w fun e w' => e = .returned (.tuple #[Msg.none.val, .bool false]) ∧ Below w.heap.size w w' := by
  go_enter Try.func15, Try.ntmps15
  go_wp2_with fail
  refine (qlen_nil' _).mono ?_
  rintro e w1 ⟨rfl, n, rfl⟩
  go_wp2_with fail
  have hr : ((w.alloc (.cells #[.string ⟨#[]⟩, .string ⟨#[]⟩, .int .u8 0, .bool false] 28)).drewN n).heap[w.heap.size]? = some (.cells #[.string ⟨#[]⟩, .string ⟨#[]⟩, .int .u8 0, .bool false] 28 (0, 0)) := heap_alloc_new w _
  obtain ⟨s1, s2⟩ := set4 (x := .string ⟨#[]⟩) (y := .string ⟨#[]⟩) (z := .int .u8 0) (u := .bool false) hr
  exact bodyPost_ret (results_row_tmp rfl rfl s1 Try.underlying28 rfl msg_size) rfl ⟨rfl, ((((Mod.refl [w.heap.size] w).alloc _).drewN n).trans s2 (by simp)).below (Nat.le_refl _) (by simp)⟩
theorem qnil_pop (w : World) :
    Calls Try.prog 14 #[.pointer none] w fun e w' => e = .returned (.tuple #[Msg.none.val, .bool false]) ∧ Below w.heap.size w w' := by
  go_enter Try.func14, Try.ntmps14
  go_wp2_with fail
  refine (qnil_peek _).mono ?_
  rintro e W1 ⟨rfl, hk⟩
  have hr : W1.heap[w.heap.size]? = some (.cells #[.string ⟨#[]⟩, .string ⟨#[]⟩, .int .u8 0, .bool false] 28 (0, 0)) := by
    rw [hk.block w.heap.size (by simp)]; exact heap_alloc_new w _
  have hb := bnext ((Below.refl w.heap.size w).alloc (Nat.le_refl _) (.cells #[.string ⟨#[]⟩, .string ⟨#[]⟩, .int .u8 0, .bool false] 28)) (Nat.le_refl _) hk
  clear hk
  obtain ⟨r0, r1, r2, r3⟩ := cells4 hr
  obtain ⟨f0, f1, f2, f3⟩ := free4 hr
  have hlt := (Array.getElem?_eq_some_iff.1 hr).1
  have HR := Lib.hid hr
  clear hr
  unfold Msg.val Msg.none
  go_wp2_with fail
  obtain ⟨s1, s2⟩ := set4 (x := .string ⟨#[]⟩) (y := .string ⟨#[]⟩) (z := .int .u8 0) (u := .bool false) HR.out
  exact bodyPost_ret (results_row_tmp (cs := #[.string ⟨#[]⟩, .string ⟨#[]⟩, .int .u8 0, .bool false]) rfl rfl ((Below.heap_alloc _ _ _ (Array.getElem?_eq_some_iff.1 s1).1).trans s1) Try.underlying28 rfl msg_size) rfl ⟨rfl, (((Mod.refl [w.heap.size] w).next hb).trans s2 (by simp)).alloc _ |>.below (Nat.le_refl _) (by simp)⟩
theorem qnil_all (w : World) : Calls Try.prog 13 #[.pointer none] w fun e w' => e = .returned (.slice none 0 0) ∧ w = w' := by
  go_enter Try.func13, Try.ntmps13
  go_wp2_with fail
  refine (qlen_nil _).mono ?_
  rintro e w' ⟨rfl, rfl⟩
  go_wp2_with fail
  go_ret
  exact ⟨rfl, rfl⟩
theorem qnil_clear (w : World) : Calls Try.prog 16 #[.pointer none] w fun e w' => e = .returned (.tuple #[]) ∧ w = w' := by
  go_enter Try.func16, Try.ntmps16
  go_wp2_with fail
  go_end0
  exact ⟨rfl, rfl⟩
end Go.Proofs.Ytpladpcagdkhmaa
