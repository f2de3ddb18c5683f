/- As the text of this name, but for a seat that lacks the functions of the document (TrieKnown). -/
import Derived.Test.YtcnjgenacpkdbaaDoorRSmall
namespace Go.Proofs.YtcnjgenacpkdbaaDoor
open Go Go.RowKit
theorem of_x (t N n : Nat) (c : ByteArray) (L : List Str) (Gs : List Hint) (w0 : World) (F : List Nat) (w : World) (h : Tr w0 w n t Gs N F) (hn : n ≤ 1000) (hL : ofL c.data.toList Gs = L) :
    Calls Tryd.prog 7 #[.pointer (some ⟨t, 0, none⟩), .string c] w fun e w' => ∃ a c, e = .returned (.slice a L.length c) ∧ Row w' a (strs L) ∧ Below w.heap.size w w' := by
  subst hL
  exact (hof n t N c Gs F w h.c hn).mono fun e w' ⟨v, he, hown, hb⟩ => by
    obtain ⟨a, c, rfl, hr, -, -⟩ := ownsRow_row hown
    exact ⟨a, c, he, hr, hb⟩
theorem len_x (t N n m : Nat) (Gs : List Hint) (w0 : World) (F : List Nat) (w : World) (h : Tr w0 w n t Gs N F) (hm : Gs.length = m) :
    Calls Tryd.prog 11 #[.pointer (some ⟨t, 0, none⟩)] w fun e w' => e = .returned (.int .i64 m) ∧ w = w' := by
  subst hm
  exact hlen n t N Gs F w h.c
set_option maxRecDepth 100000 in
set_option maxHeartbeats 2000000 in
theorem awake_true (w : World) (hT : Tabs w) : Calls Tryd.prog 14 #[] w fun e w' => e = .returned (.bool true) ∧ Below w.heap.size w w' := by
  have HT := Lib.hid hT
  have HSM := Lib.hid (small_any w hT)
  clear hT
  go_enter Tryd.func14, Tryd.ntmps14
  go_wp2_with fail
  refine HSM.out.mono ?_
  rintro e w1 ⟨t, N, F, rfl, hO⟩
  have HO := Lib.hid hO
  clear hO
  go_wp2_with fail
  refine (match_x t N 4 ⟨#[97, 47, 98]⟩ [[120], [121], [122]] _ w F _ HO.out HT.out (by decide) (by omega) told_s).mono ?_
  rintro e w2 ⟨a, c, rfl, hr, hk⟩
  replace HO := Lib.hid (HO.out.below hk)
  have HR := Lib.hid hr
  clear hk hr
  go_wp2_with fail
  have hb3 : Below w2.heap.size w2 (w2.alloc (.cells (strs [[120], [121], [122]]).toArray 9)) := (Below.refl _ _).alloc (Nat.le_refl _) _
  refine (sameT_any true a (some ⟨w2.heap.size, 0, none⟩) c 3 [[120], [121], [122]] [[120], [121], [122]] (w2.alloc (.cells (strs [[120], [121], [122]]).toArray 9)) (HR.out.below hb3 (Nat.le_refl _)) (row_new w2 (strs [[120], [121], [122]]) 9) (by decide) (by decide)).mono ?_
  rintro e w3 ⟨rfl, nd, rfl⟩
  replace HO := Lib.hid ((HO.out.below hb3).drewN nd)
  clear hb3
  generalize (w2.alloc (.cells (strs [[120], [121], [122]]).toArray 9)).drewN nd = W at *
  go_wp2_with fail
  refine (len_x t N 4 4 smallG w F W HO.out rfl).mono ?_
  rintro e w4 ⟨rfl, rfl⟩
  go_wp2_with fail
  refine (nodes_x t N 4 5 smallG w F W HO.out nodes_s).mono ?_
  rintro e w5 ⟨rfl, rfl⟩
  go_wp2_with fail
  go_ret
  exact ⟨rfl, HO.out.bel⟩
end Go.Proofs.YtcnjgenacpkdbaaDoor
