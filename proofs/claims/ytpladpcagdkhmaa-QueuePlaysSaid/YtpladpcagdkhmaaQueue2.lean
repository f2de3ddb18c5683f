import Derived.Test.YtpladpcagdkhmaaQueue
namespace Go.Proofs.Ytpladpcagdkhmaa
open Go Go.RowKit

theorem msg_size : (Try.prog.info? 28).map (·.size) = some 4 := by kernel_rfl

theorem qpeek_empty (g : Nat) (most : Int) (F : List Nat) (w : World) (h : QRep w g [] most F) :
    Calls Try.prog 15 #[.pointer (some ⟨g, 0, none⟩)] w fun e w' => e = .returned (.tuple #[Msg.none.val, .bool false]) ∧ Below w.heap.size w w' := by
  have H := Lib.hid (h.mod ((Mod.refl [] w).alloc (.cells #[.string ⟨#[]⟩, .string ⟨#[]⟩, .int .u8 0, .bool false] 28)) (by simp))
  clear h
  go_enter Try.func15, Try.ntmps15
  go_wp2_with fail
  refine (qlen_of 0 g [] most F _ H.out rfl).mono ?_
  rintro e w1 ⟨rfl, n, rfl⟩
  go_wp2_with fail
  have hr : ((w.alloc (.cells #[.string ⟨#[]⟩, .string ⟨#[]⟩, .int .u8 0, .bool false] 28)).drewN n).heap[w.heap.size]? = some (.cells #[.string ⟨#[]⟩, .string ⟨#[]⟩, .int .u8 0, .bool false] 28 (0, 0)) := heap_alloc_new w _
  obtain ⟨s1, s2⟩ := set4 (x := .string ⟨#[]⟩) (y := .string ⟨#[]⟩) (z := .int .u8 0) (u := .bool false) hr
  exact bodyPost_ret (results_row_tmp rfl rfl s1 Try.underlying28 rfl msg_size) rfl ⟨rfl, ((((Mod.refl [w.heap.size] w).alloc _).drewN n).trans s2 (by simp)).below (Nat.le_refl _) (by simp)⟩

set_option maxHeartbeats 1000000 in
theorem qpeek_some (g : Nat) (m : Msg) (l : List Msg) (most : Int) (F : List Nat) (w : World) (h : QRep w g (m :: l) most F) :
    Calls Try.prog 15 #[.pointer (some ⟨g, 0, none⟩)] w fun e w' => e = .returned (.tuple #[m.val, .bool true]) ∧ Below w.heap.size w w' := by
  have H := Lib.hid (h.mod ((Mod.refl [] w).alloc (.cells #[.string ⟨#[]⟩, .string ⟨#[]⟩, .int .u8 0, .bool false] 28)) (by simp))
  clear h
  have hz : ((l.length : Int) + 1 == 0) = false := by simp; omega
  go_enter Try.func15, Try.ntmps15
  go_wp2_with fail
  refine (qlen_of ((l.length : Int) + 1) g (m :: l) most F _ H.out (by simp)).mono ?_
  rintro e w1 ⟨rfl, n, rfl⟩
  have hQ := H.out.drewN n
  have hr : ((w.alloc (.cells #[.string ⟨#[]⟩, .string ⟨#[]⟩, .int .u8 0, .bool false] 28)).drewN n).heap[w.heap.size]? = some (.cells #[.string ⟨#[]⟩, .string ⟨#[]⟩, .int .u8 0, .bool false] 28 (0, 0)) := heap_alloc_new w _
  have hM := ((Mod.refl [w.heap.size] w).alloc (.cells #[.string ⟨#[]⟩, .string ⟨#[]⟩, .int .u8 0, .bool false] 28)).drewN n
  clear H
  generalize (w.alloc (.cells #[.string ⟨#[]⟩, .string ⟨#[]⟩, .int .u8 0, .bool false] 28)).drewN n = W1 at *
  obtain ⟨v, junk, hg, hown, h1, h2, h3, h4, h5, -⟩ := hQ
  obtain ⟨a, cap, rfl, hrow, hc1, hc2⟩ := ownsRow_row hown
  obtain ⟨b, off, rfl, k0, k1, k2, k3⟩ := msgs_row hrow (k := junk.length) (m := m) (by simp)
  obtain ⟨mt, mp, mq, mr⟩ := m
  obtain ⟨c0, c1, -⟩ := cells3 hg
  obtain ⟨r0, r1, r2, r3⟩ := cells4 hr
  obtain ⟨f0, f1, f2, f3⟩ := free4 hr
  simp only [List.length_cons] at c0
  have hj0 : (0 : Int) ≤ junk.length := by omega
  have hj1 : (junk.length : Int) < (junk.length : Int) + ((l.length : Int) + 1) := by omega
  have HR := Lib.hid hr
  clear hrow hown hg h5 hr
  go_wp2_with fail
  go_region_with ((fail))
  all_goals
    clear c0 c1 r0 r1 r2 r3 f0 f1 f2 f3 k0 k1 k2 k3
    go_wp2_with fail
    obtain ⟨s1, s2⟩ := set4 (x := .string mt) (y := .string mp) (z := .int .u8 mq) (u := .bool mr) HR.out
    exact bodyPost_ret (results_row_tmp (cs := #[.string mt, .string mp, .int .u8 mq, .bool mr]) rfl rfl (by exact s1) Try.underlying28 rfl msg_size) rfl ⟨rfl, ((hM.trans s2 (by simp)).drew).below (Nat.le_refl _) (by simp)⟩

theorem set4at {w : World} {g : Nat} {x y z u : Value} {T : TypeId} {cur : Array Value} (o : Nat) (h : w.heap[g]? = some (.cells cur T (0, 0))) :
    ((((w.setCell ⟨g, o, none⟩ x).setCell ⟨g, o + 1, none⟩ y).setCell ⟨g, o + 2, none⟩ z).setCell ⟨g, o + 3, none⟩ u).heap[g]? = some (.cells ((((cur.setIfInBounds o x).setIfInBounds (o + 1) y).setIfInBounds (o + 2) z).setIfInBounds (o + 3) u) T (0, 0)) ∧
    Mod [g] w ((((w.setCell ⟨g, o, none⟩ x).setCell ⟨g, o + 1, none⟩ y).setCell ⟨g, o + 2, none⟩ z).setCell ⟨g, o + 3, none⟩ u) := by
  constructor
  · have h1 := heap_setCell_same w g o _ _ x h
    have h2 := heap_setCell_same _ g (o + 1) _ _ y h1
    have h3 := heap_setCell_same _ g (o + 2) _ _ z h2
    have h4 := heap_setCell_same _ g (o + 3) _ _ u h3
    exact h4
  · exact ((((Mod.refl [g] w).setCell (.inl (by simp)) _).setCell (.inl (by simp)) _).setCell (.inl (by simp)) _).setCell (.inl (by simp)) _
theorem msgs_set (A : List Msg) (m m' : Msg) (B : List Msg) (L : List Value) (n : Nat) (h : L.take n = msgs (A ++ m :: B)) :
    ((((L.set (A.length * 4) (.string m'.t)).set (A.length * 4 + 1) (.string m'.p)).set (A.length * 4 + 2) (.int .u8 m'.q)).set (A.length * 4 + 3) (.bool m'.r)).take n = msgs (A ++ m' :: B) := by
  rw [List.take_set, List.take_set, List.take_set, List.take_set, h]
  have e : ∀ x : Msg, msgs (A ++ x :: B) = msgs A ++ (x.cells ++ msgs B) := fun x => by simp [msgs]
  have hl := msgs_length A
  rw [e, e, List.set_append_right _ _ (by omega), List.set_append_right _ _ (by omega), List.set_append_right _ _ (by omega), List.set_append_right _ _ (by omega)]
  have h0 : A.length * 4 - (msgs A).length = 0 := by omega
  have h1 : A.length * 4 + 1 - (msgs A).length = 1 := by omega
  have h2 : A.length * 4 + 2 - (msgs A).length = 2 := by omega
  have h3 : A.length * 4 + 3 - (msgs A).length = 3 := by omega
  rw [h0, h1, h2, h3]
  rfl

theorem qpop_empty (g : Nat) (most : Int) (F : List Nat) (w : World) (h : QRep w g [] most F) :
    Calls Try.prog 14 #[.pointer (some ⟨g, 0, none⟩)] w fun e w' => e = .returned (.tuple #[Msg.none.val, .bool false]) ∧ Below w.heap.size w w' := by
  have H := Lib.hid (h.mod ((Mod.refl [] w).alloc (.cells #[.string ⟨#[]⟩, .string ⟨#[]⟩, .int .u8 0, .bool false] 28)) (by simp))
  clear h
  go_enter Try.func14, Try.ntmps14
  go_wp2_with fail
  refine (qpeek_empty g most F _ H.out).mono ?_
  rintro e W1 ⟨rfl, hk⟩
  have hr : W1.heap[w.heap.size]? = some (.cells #[.string ⟨#[]⟩, .string ⟨#[]⟩, .int .u8 0, .bool false] 28 (0, 0)) := by
    rw [hk.block w.heap.size (by simp)]; exact heap_alloc_new w _
  have hb := bnext ((Below.refl w.heap.size w).alloc (Nat.le_refl _) (.cells #[.string ⟨#[]⟩, .string ⟨#[]⟩, .int .u8 0, .bool false] 28)) (Nat.le_refl _) hk
  clear hk H
  obtain ⟨r0, r1, r2, r3⟩ := cells4 hr
  obtain ⟨f0, f1, f2, f3⟩ := free4 hr
  have hlt := (Array.getElem?_eq_some_iff.1 hr).1
  have HR := Lib.hid hr
  clear hr
  unfold Msg.val Msg.none
  go_wp2_with fail
  obtain ⟨s1, s2⟩ := set4 (x := .string ⟨#[]⟩) (y := .string ⟨#[]⟩) (z := .int .u8 0) (u := .bool false) HR.out
  exact bodyPost_ret (results_row_tmp (cs := #[.string ⟨#[]⟩, .string ⟨#[]⟩, .int .u8 0, .bool false]) rfl rfl ((Below.heap_alloc _ _ _ (Array.getElem?_eq_some_iff.1 s1).1).trans s1) Try.underlying28 rfl msg_size) rfl ⟨rfl, (((Mod.refl [w.heap.size] w).next hb).trans s2 (by simp)).alloc _ |>.below (Nat.le_refl _) (by simp)⟩
end Go.Proofs.Ytpladpcagdkhmaa
