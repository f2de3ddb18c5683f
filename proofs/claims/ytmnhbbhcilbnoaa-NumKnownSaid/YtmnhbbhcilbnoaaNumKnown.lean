import Derived.Test.YtmnhbbhcilbnoaaNumAwake
namespace Go.Proofs.Ytmnhbbhcilbnoaa
open Go Go.RowKit

set_option maxRecDepth 100000 in
set_option maxHeartbeats 4000000 in
theorem known_true (w : World) :
    Calls Try.prog 3 #[] w fun e w' => e = .returned (.bool true) ∧ Below w.heap.size w w' := by
  have hb := Below.refl w.heap.size w
  go_enter Try.func3, Try.ntmps3
  go_wp2_with fail
  refine (writes_true 0 [0] 0 (by decide) (by decide) _).mono ?_
  rintro e w1 ⟨rfl, hk⟩
  replace hb := bnext hb (Nat.le_refl _) hk
  clear hk
  go_wp2_with fail
  refine (writes_true 127 [127] 0 (by decide) (by decide) _).mono ?_
  rintro e w2 ⟨rfl, hk⟩
  replace hb := bnext hb (Nat.le_refl _) hk
  clear hk
  go_wp2_with fail
  refine (writes_true 16383 [255, 127] 0 (by decide) (by decide) _).mono ?_
  rintro e w3 ⟨rfl, hk⟩
  replace hb := bnext hb (Nat.le_refl _) hk
  clear hk
  go_wp2_with fail
  refine (writes_true 16384 [128, 128, 1] 0 (by decide) (by decide) _).mono ?_
  rintro e w4 ⟨rfl, hk⟩
  replace hb := bnext hb (Nat.le_refl _) hk
  clear hk
  go_wp2_with fail
  refine (writes_true 2097151 [255, 255, 127] 0 (by decide) (by decide) _).mono ?_
  rintro e w5 ⟨rfl, hk⟩
  replace hb := bnext hb (Nat.le_refl _) hk
  clear hk
  go_wp2_with fail
  refine (writes_true 2097152 [128, 128, 128, 1] 0 (by decide) (by decide) _).mono ?_
  rintro e w6 ⟨rfl, hk⟩
  replace hb := bnext hb (Nat.le_refl _) hk
  clear hk
  go_wp2_with fail
  refine (writes_true 268435455 [255, 255, 255, 127] 0 (by decide) (by decide) _).mono ?_
  rintro e w7 ⟨rfl, hk⟩
  replace hb := bnext hb (Nat.le_refl _) hk
  clear hk
  go_wp2_with fail
  refine (writes_true 268435456 [] 1 (by decide) (by decide) _).mono ?_
  rintro e w8 ⟨rfl, hk⟩
  replace hb := bnext hb (Nat.le_refl _) hk
  clear hk
  go_wp2_with fail
  refine (writes_true (-9223372036854775808) [] 1 (by decide) (by decide) _).mono ?_
  rintro e w9 ⟨rfl, hk⟩
  replace hb := bnext hb (Nat.le_refl _) hk
  clear hk
  go_wp2_with fail
  refine (writes_true 9223372036854775807 [] 1 (by decide) (by decide) _).mono ?_
  rintro e w10 ⟨rfl, hk⟩
  replace hb := bnext hb (Nat.le_refl _) hk
  clear hk
  go_wp2_with fail
  refine (reads_true _ [128, 128, 0] 0 3 0 rfl (by decide) (by decide) _).mono ?_
  rintro e w11 ⟨rfl, hk⟩
  replace hb := bnext hb (Nat.le_refl _) hk
  clear hk
  go_wp2_with fail
  refine (reads_true _ [] 0 0 2 rfl (by decide) (by decide) _).mono ?_
  rintro e w12 ⟨rfl, hk⟩
  replace hb := bnext hb (Nat.le_refl _) hk
  clear hk
  go_wp2_with fail
  refine (reads_true _ [128, 128, 128] 0 0 2 rfl (by decide) (by decide) _).mono ?_
  rintro e w13 ⟨rfl, hk⟩
  replace hb := bnext hb (Nat.le_refl _) hk
  clear hk
  go_wp2_with fail
  refine (reads_true _ [128, 128, 128, 128] 0 0 4 rfl (by decide) (by decide) _).mono ?_
  rintro e w14 ⟨rfl, hk⟩
  replace hb := bnext hb (Nat.le_refl _) hk
  clear hk
  go_wp2_with fail
  refine (reads_true _ [128, 128, 128, 128, 0] 0 0 4 rfl (by decide) (by decide) _).mono ?_
  rintro e w15 ⟨rfl, hk⟩
  replace hb := bnext hb (Nat.le_refl _) hk
  clear hk
  go_wp2_with fail
  refine (reads_true _ [255, 255, 255, 127, 1] 268435455 4 0 rfl (by decide) (by decide) _).mono ?_
  rintro e w16 ⟨rfl, hk⟩
  replace hb := bnext hb (Nat.le_refl _) hk
  clear hk
  go_wp2_with fail
  refine (reads_true _ [5] 5 1 0 rfl (by decide) (by decide) _).mono ?_
  rintro e w17 ⟨rfl, hk⟩
  replace hb := bnext hb (Nat.le_refl _) hk
  clear hk
  go_wp2_with fail
  refine (words_of none 0 [] [] 0 _ (.inl rfl) (by simp) (by decide) (by decide)).mono ?_
  rintro e v1 ⟨rfl, hk⟩
  replace hb := bnext hb (Nat.le_refl _) hk
  clear hk
  go_wp2_with fail
  refine (words_of _ 1 [65536] [] 1 _ (row_new _ _ _) (by simp) (by decide) (by decide)).mono ?_
  rintro e v2 ⟨rfl, hk⟩
  replace hb := bnext (hb.alloc hb.size _) (Nat.le_refl _) hk
  clear hk
  go_wp2_with fail
  refine (words_of _ 2 [7, -1] [] 1 _ (row_new _ _ _) (by simp) (by decide) (by decide)).mono ?_
  rintro e v3 ⟨rfl, hk⟩
  replace hb := bnext (hb.alloc hb.size _) (Nat.le_refl _) hk
  clear hk
  go_wp2_with fail
  refine (words_of _ 1 [0] [0, 0] 0 _ (row_new _ _ _) (by simp) (by decide) (by decide)).mono ?_
  rintro e v4 ⟨rfl, hk⟩
  replace hb := bnext (hb.alloc hb.size _) (Nat.le_refl _) hk
  clear hk
  go_wp2_with fail
  refine (readWord_of _ [1] 0 0 2 _ rfl (by decide) (by decide)).mono ?_
  rintro e v5 ⟨rfl, hk⟩
  replace hb := bnext hb (Nat.le_refl _) hk
  clear hk
  go_wp2_with fail
  refine (readWord_of _ [255, 254] 65534 2 0 _ rfl (by decide) (by decide)).mono ?_
  rintro e v6 ⟨rfl, hk⟩
  replace hb := bnext hb (Nat.le_refl _) hk
  clear hk
  go_wp2_with fail
  refine (awake_true _).mono ?_
  rintro e v7 ⟨rfl, hk⟩
  replace hb := bnext hb (Nat.le_refl _) hk
  clear hk
  go_wp2_with fail
  go_ret
  exact ⟨rfl, hb⟩
end Go.Proofs.Ytmnhbbhcilbnoaa
