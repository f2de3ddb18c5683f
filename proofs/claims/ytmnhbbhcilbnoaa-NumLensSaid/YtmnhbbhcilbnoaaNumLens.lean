import Derived.Test.YtmnhbbhcilbnoaaNumAwake
namespace Go.Proofs.Ytmnhbbhcilbnoaa
open Go Go.RowKit

set_option maxHeartbeats 1000000 in
theorem lens_true (n : Int) (s : ByteArray) (hbig : s.size ≤ 9223372036854775807) (h0 : -9223372036854775808 ≤ n) (h1 : n ≤ 9223372036854775807) (w : World) :
    Calls Try.prog 4 #[.int .i64 n, .string s] w fun e w' => e = .returned (.bool true) ∧ Below w.heap.size w w' := by
  by_cases hg : (2000 : Int) < s.size
  · have hg' : decide ((2000 : Int) < s.size) = true := by simpa using hg
    go_enter Try.func4, Try.ntmps4
    go_wp2_with fail
    refine (great_any _ _).mono ?_
    rintro e w1 ⟨rfl, rfl⟩
    rw [hg']
    go_wp2_with fail
    refine (awake_true _).mono ?_
    rintro e w1 ⟨rfl, hb⟩
    go_wp2_with fail
    go_ret
    exact ⟨rfl, hb⟩
  · have hg' : decide ((2000 : Int) < s.size) = false := by simpa using hg
    go_enter Try.func4, Try.ntmps4
    go_wp2_with fail
    refine (great_any _ _).mono ?_
    rintro e w1 ⟨rfl, rfl⟩
    rw [hg']
    clear hg'
    go_wp2_with fail
    refine (len_any _ _).mono ?_
    rintro e w1 ⟨rfl, hb⟩
    go_wp2_with fail
    refine (rlen_any _ _ h0 h1).mono ?_
    rintro e w2 ⟨rfl, hk⟩
    replace hb := bnext hb (Nat.le_refl _) hk
    clear hk
    go_wp2_with fail
    refine (readLen_any _ _ hbig).mono ?_
    rintro e w3 ⟨rfl, rfl⟩
    simp only [int3]
    go_wp2_with fail
    refine (rreadLen_any _ _ hbig).mono ?_
    rintro e w4 ⟨rfl, hk⟩
    replace hb := bnext hb (Nat.le_refl _) hk
    clear hk
    generalize readLenM s.data.toList = r
    obtain ⟨a, b, c⟩ := r
    simp only [int3]
    go_wp2_with fail
    refine (size_any _ _).mono ?_
    rintro e w5 ⟨rfl, rfl⟩
    go_wp2_with fail
    refine (rsize_any _ _).mono ?_
    rintro e w6 ⟨rfl, rfl⟩
    go_wp2_with fail
    refine (awake_true _).mono ?_
    rintro e w7 ⟨rfl, hk⟩
    replace hb := bnext hb (Nat.le_refl _) hk
    clear hk
    go_wp2_with fail
    go_ret
    exact ⟨rfl, hb⟩
end Go.Proofs.Ytmnhbbhcilbnoaa
