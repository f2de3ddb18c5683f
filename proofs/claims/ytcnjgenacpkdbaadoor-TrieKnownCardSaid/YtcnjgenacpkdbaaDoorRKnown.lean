/- TrieKnown walked: a nil trie's calls, and the chapter's examples. -/
import Derived.Test.YtcnjgenacpkdbaaDoorRLaw1
namespace Go.Proofs.YtcnjgenacpkdbaaDoor
open Go Go.RowKit

theorem nadd (s c : ByteArray) (w : World) : Calls Tryd.prog 8 #[.pointer none, .string s, .string c] w fun e w' => e = .returned (.bool false) ∧ Below w.heap.size w w' := by
  go_enter Tryd.func8, Tryd.ntmps8
  go_wp2_with fail
  go_ret
  exact ⟨rfl, by first | exact Below.refl _ _ | exact (Below.refl _ _).alloc (Nat.le_refl _) _ | exact ((Below.refl _ _).alloc (Nat.le_refl _) _).alloc (by simp) _ | exact (((Below.refl _ _).alloc (Nat.le_refl _) _).alloc (by simp) _).alloc (by simp; omega) _⟩
theorem nrem (s c : ByteArray) (w : World) : Calls Tryd.prog 9 #[.pointer none, .string s, .string c] w fun e w' => e = .returned (.bool false) ∧ Below w.heap.size w w' := by
  go_enter Tryd.func9, Tryd.ntmps9
  go_wp2_with fail
  go_ret
  exact ⟨rfl, by first | exact Below.refl _ _ | exact (Below.refl _ _).alloc (Nat.le_refl _) _ | exact ((Below.refl _ _).alloc (Nat.le_refl _) _).alloc (by simp) _ | exact (((Below.refl _ _).alloc (Nat.le_refl _) _).alloc (by simp) _).alloc (by simp; omega) _⟩
theorem nmatch (s : ByteArray) (w : World) : Calls Tryd.prog 6 #[.pointer none, .string s] w fun e w' => e = .returned (.slice none 0 0) ∧ Below w.heap.size w w' := by
  go_enter Tryd.func6, Tryd.ntmps6
  go_wp2_with fail
  go_ret
  exact ⟨rfl, by first | exact Below.refl _ _ | exact (Below.refl _ _).alloc (Nat.le_refl _) _ | exact ((Below.refl _ _).alloc (Nat.le_refl _) _).alloc (by simp) _ | exact (((Below.refl _ _).alloc (Nat.le_refl _) _).alloc (by simp) _).alloc (by simp; omega) _⟩
theorem nall (w : World) : Calls Tryd.prog 12 #[.pointer none] w fun e w' => e = .returned (.slice none 0 0) ∧ Below w.heap.size w w' := by
  go_enter Tryd.func12, Tryd.ntmps12
  go_wp2_with fail
  go_ret
  exact ⟨rfl, by first | exact Below.refl _ _ | exact (Below.refl _ _).alloc (Nat.le_refl _) _ | exact ((Below.refl _ _).alloc (Nat.le_refl _) _).alloc (by simp) _ | exact (((Below.refl _ _).alloc (Nat.le_refl _) _).alloc (by simp) _).alloc (by simp; omega) _⟩
theorem nlen (w : World) : Calls Tryd.prog 11 #[.pointer none] w fun e w' => e = .returned (.int .i64 0) ∧ Below w.heap.size w w' := by
  go_enter Tryd.func11, Tryd.ntmps11
  go_wp2_with fail
  go_ret
  exact ⟨rfl, by first | exact Below.refl _ _ | exact (Below.refl _ _).alloc (Nat.le_refl _) _ | exact ((Below.refl _ _).alloc (Nat.le_refl _) _).alloc (by simp) _ | exact (((Below.refl _ _).alloc (Nat.le_refl _) _).alloc (by simp) _).alloc (by simp; omega) _⟩
theorem nnodes (w : World) : Calls Tryd.prog 10 #[.pointer none] w fun e w' => e = .returned (.int .i64 0) ∧ Below w.heap.size w w' := by
  go_enter Tryd.func10, Tryd.ntmps10
  go_wp2_with fail
  go_ret
  exact ⟨rfl, by first | exact Below.refl _ _ | exact (Below.refl _ _).alloc (Nat.le_refl _) _ | exact ((Below.refl _ _).alloc (Nat.le_refl _) _).alloc (by simp) _ | exact (((Below.refl _ _).alloc (Nat.le_refl _) _).alloc (by simp) _).alloc (by simp; omega) _⟩
theorem nof (c : ByteArray) (w : World) : Calls Tryd.prog 7 #[.pointer none, .string c] w fun e w' => e = .returned (.slice none 0 0) ∧ Below w.heap.size w w' := by
  go_enter Tryd.func7, Tryd.ntmps7
  go_wp2_with fail
  refine (nall _).mono ?_
  rintro e w1 ⟨rfl, hk⟩
  have HK := Lib.hid hk
  clear hk
  go_wp2_with fail
  go_loopw [5, 11] (fun u i wr => u = .slice none 0 0 ∧ i = .int .i64 0 ∧ w1 = wr) (fun _ _ _ => 0)
  case atStart => exact ⟨rfl, rfl, rfl⟩
  case round =>
    obtain ⟨rfl, rfl, rfl⟩ := hrel
    go_wp2_with fail
    go_ret
    exact ⟨rfl, HK.out⟩
theorem k_t1 : toldG smallG [97] = [[120], [121], [122]] := by decide +kernel
theorem k_t2 : toldG smallG [36, 115] = [] := by decide +kernel
theorem k_t3 : toldG smallG [97, 47, 43] = [] := by decide +kernel
theorem k_of : ofL [120] smallG = [[97, 47, 35], [97, 47, 43]] := by decide +kernel
theorem k_a1 : addB smallG [97, 47, 43] [120] = false ∧ addG smallG [97, 47, 43] [120] = smallG := by decide +kernel
theorem k_a2 : addB smallG [97, 43] [120] = false ∧ addG smallG [97, 43] [120] = smallG := by decide +kernel
def lessG : List Hint := [([35], [122]), ([97, 47, 35], [120]), ([97, 47, 35], [121])]
theorem k_r1 : decide ((([97, 47, 43], [121]) : Hint) ∈ smallG) = false ∧ smallG.erase ([97, 47, 43], [121]) = smallG := by decide +kernel
theorem k_r2 : decide ((([97, 47, 43], [120]) : Hint) ∈ smallG) = true ∧ smallG.erase ([97, 47, 43], [120]) = lessG := by decide +kernel
theorem k_n : nodesOf lessG = 4 ∧ nodesOf [] = 1 := by decide +kernel
theorem same_t (l : List Str) : decide (l = l) = true := by simp

set_option maxRecDepth 100000 in
set_option maxHeartbeats 8000000 in
theorem known_true (w : World) (hT : Tabs w) : Calls Tryd.prog 3 #[] w fun e w' => e = .returned (.bool true) ∧ Below w.heap.size w w' := by
  have HT := Lib.hid hT
  have HSM := Lib.hid (small_any w hT)
  clear hT
  go_enter Tryd.func3, Tryd.ntmps3
  go_wp2_with fail
  refine HSM.out.mono ?_
  rintro e w1 ⟨t, N, F, rfl, hO⟩
  have HO := Lib.hid hO
  clear hO
  go_wp2_with fail
  refine (match_x t N 4 ⟨#[97]⟩ [[120], [121], [122]] _ w F _ HO.out HT.out (by decide) (by omega) k_t1).mono ?_
  rintro e w2 ⟨a, c, rfl, hr, hk⟩
  replace HO := Lib.hid (HO.out.below hk)
  have HR := Lib.hid hr
  clear hk hr
  go_wp2_with fail
  have hb3 : Below w2.heap.size w2 (w2.alloc (.cells (strs [[120], [121], [122]]).toArray 9)) := (Below.refl _ _).alloc (Nat.le_refl _) _
  refine (sameT_any true a (some ⟨w2.heap.size, 0, none⟩) c 3 [[120], [121], [122]] [[120], [121], [122]] (w2.alloc (.cells (strs [[120], [121], [122]]).toArray 9)) (HR.out.below hb3 (Nat.le_refl _)) (row_new w2 (strs [[120], [121], [122]]) 9) (by decide) (by decide)).mono ?_
  rintro e w3 ⟨rfl, nd, rfl⟩
  replace HO := Lib.hid ((HO.out.below hb3).drewN nd)
  clear hb3 HR
  generalize (w2.alloc (.cells (strs [[120], [121], [122]]).toArray 9)).drewN nd = W at *
  go_wp2_with fail
  refine (match_x t N 4 ⟨#[36, 115]⟩ [] _ w F W HO.out HT.out (by decide) (by omega) k_t2).mono ?_
  rintro e w4 ⟨a4, c4, rfl, -, hk⟩
  replace HO := Lib.hid (HO.out.below hk)
  clear hk
  go_wp2_with fail
  refine (match_x t N 4 ⟨#[97, 47, 43]⟩ [] _ w F w4 HO.out HT.out (by decide) (by omega) k_t3).mono ?_
  rintro e w5 ⟨a5, c5, rfl, -, hk⟩
  replace HO := Lib.hid (HO.out.below hk)
  clear hk
  go_wp2_with fail
  refine (of_x t N 4 ⟨#[120]⟩ [[97, 47, 35], [97, 47, 43]] _ w F w5 HO.out (by omega) k_of).mono ?_
  rintro e w6 ⟨a6, c6, rfl, hr, hk⟩
  replace HO := Lib.hid (HO.out.below hk)
  have HR := Lib.hid hr
  clear hk hr
  go_wp2_with fail
  have hb3 : Below w6.heap.size w6 (w6.alloc (.cells (strs [[97, 47, 35], [97, 47, 43]]).toArray 9)) := (Below.refl _ _).alloc (Nat.le_refl _) _
  refine (sameT_any true a6 (some ⟨w6.heap.size, 0, none⟩) c6 2 [[97, 47, 35], [97, 47, 43]] [[97, 47, 35], [97, 47, 43]] (w6.alloc (.cells (strs [[97, 47, 35], [97, 47, 43]]).toArray 9)) (HR.out.below hb3 (Nat.le_refl _)) (row_new w6 (strs [[97, 47, 35], [97, 47, 43]]) 9) (by decide) (by decide)).mono ?_
  rintro e w7 ⟨rfl, nd, rfl⟩
  replace HO := Lib.hid ((HO.out.below hb3).drewN nd)
  clear hb3 HR
  generalize (w6.alloc (.cells (strs [[97, 47, 35], [97, 47, 43]]).toArray 9)).drewN nd = W7 at *
  go_wp2_with fail
  refine (add_x t _ _ ⟨#[97, 47, 43]⟩ ⟨#[120]⟩ false _ smallG w F _ HO.out HT.out (by decide) (by decide) (by omega) k_a1.1 k_a1.2).mono ?_
  rintro e w8 ⟨rfl, N8, F8, hq, -⟩
  replace HO := Lib.hid hq
  clear hq
  go_wp2_with fail
  refine (add_x t _ _ ⟨#[97, 43]⟩ ⟨#[120]⟩ false _ smallG w F8 _ HO.out HT.out (by decide) (by decide) (by omega) k_a2.1 k_a2.2).mono ?_
  rintro e w9 ⟨rfl, N9, F9, hq, -⟩
  replace HO := Lib.hid hq
  clear hq
  go_wp2_with fail
  refine (rem_x t _ _ ⟨#[97, 47, 43]⟩ ⟨#[121]⟩ false _ smallG w F9 _ HO.out HT.out (by decide) (by decide) (by omega) k_r1.1 k_r1.2).mono ?_
  rintro e w10 ⟨rfl, N10, F10, hq, -⟩
  replace HO := Lib.hid hq
  clear hq
  go_wp2_with fail
  refine (rem_x t _ _ ⟨#[97, 47, 43]⟩ ⟨#[120]⟩ true _ lessG w F10 _ HO.out HT.out (by decide) (by decide) (by omega) k_r2.1 k_r2.2).mono ?_
  rintro e w11 ⟨rfl, N11, F11, hq, -⟩
  replace HO := Lib.hid hq
  clear hq
  go_wp2_with fail
  refine (nodes_x t _ _ 4 lessG w F11 _ HO.out k_n.1).mono ?_
  rintro e w12 ⟨rfl, rfl⟩
  go_wp2_with fail
  refine (len_x t _ _ 3 lessG w F11 _ HO.out rfl).mono ?_
  rintro e w12 ⟨rfl, rfl⟩
  have HB := Lib.hid HO.out.bel
  clear HO
  go_wp2_with fail
  refine (nadd ⟨#[97]⟩ ⟨#[120]⟩ _).mono ?_
  rintro e wq ⟨rfl, hk⟩
  replace HB := Lib.hid (bnext HB.out (Nat.le_refl _) hk)
  clear hk
  go_wp2_with fail
  refine (nrem ⟨#[97]⟩ ⟨#[120]⟩ _).mono ?_
  rintro e wq ⟨rfl, hk⟩
  replace HB := Lib.hid (bnext HB.out (Nat.le_refl _) hk)
  clear hk
  go_wp2_with fail
  refine (nmatch ⟨#[97]⟩ _).mono ?_
  rintro e wq ⟨rfl, hk⟩
  replace HB := Lib.hid (bnext HB.out (Nat.le_refl _) hk)
  clear hk
  go_wp2_with fail
  refine (nof ⟨#[120]⟩ _).mono ?_
  rintro e wq ⟨rfl, hk⟩
  replace HB := Lib.hid (bnext HB.out (Nat.le_refl _) hk)
  clear hk
  go_wp2_with fail
  refine (nall _).mono ?_
  rintro e wq ⟨rfl, hk⟩
  replace HB := Lib.hid (bnext HB.out (Nat.le_refl _) hk)
  clear hk
  go_wp2_with fail
  refine (nlen _).mono ?_
  rintro e wq ⟨rfl, hk⟩
  replace HB := Lib.hid (bnext HB.out (Nat.le_refl _) hk)
  clear hk
  go_wp2_with fail
  refine (nnodes _).mono ?_
  rintro e wq ⟨rfl, hk⟩
  replace HB := Lib.hid (bnext HB.out (Nat.le_refl _) hk)
  clear hk
  go_wp2_with fail
  refine (hnew _).mono ?_
  rintro e wn ⟨t2, F12, rfl, hq, hu⟩
  have HO2 := Lib.hid (Tr.start (w0 := w) HB.out hq hu)
  clear hq hu
  go_wp2_with fail
  refine (nodes_x t2 _ _ 1 [] w F12 _ HO2.out k_n.2).mono ?_
  rintro e wm ⟨rfl, rfl⟩
  go_wp2_with fail
  refine (awake_true _ (HO2.out.tabs HT.out)).mono ?_
  rintro e wz ⟨rfl, hk⟩
  replace HO2 := Lib.hid (HO2.out.below hk)
  clear hk
  go_wp2_with fail
  go_ret
  exact ⟨rfl, HO2.out.bel⟩
end Go.Proofs.YtcnjgenacpkdbaaDoor
