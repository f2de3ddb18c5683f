import Derived.Test.YtmnhbbhcilbnoaaNumPlain
namespace Go.Proofs.Ytmnhbbhcilbnoaa
open Go Go.RowKit

set_option maxRecDepth 100000 in
set_option maxHeartbeats 2000000 in
theorem back_true (a b : Int) (s : ByteArray) (c : Int) (w : World) (hbig : s.size ≤ 9223372036854775807) (hc0 : 0 ≤ c) (hc1 : c ≤ 255) :
    Calls Try.prog 6 #[.int .i64 a, .int .i64 b, .string s, .int .u8 c] w fun e w' => e = .returned (.bool true) ∧ Below w.heap.size w w' := by
  by_cases hg : (2000 : Int) < s.size
  · have hg' : decide ((2000 : Int) < s.size) = true := by simpa using hg
    go_enter Try.func6, Try.ntmps6
    go_wp2_with fail
    refine (great_any _ _).mono ?_
    rintro e w' ⟨rfl, rfl⟩
    rw [hg']
    go_wp2_with fail
    refine (awake_true _).mono ?_
    rintro e w1 ⟨rfl, hb⟩
    go_wp2_with fail
    go_ret
    exact ⟨rfl, hb⟩
  have hg' : decide ((2000 : Int) < s.size) = false := by simpa using hg
  by_cases ha : a < 0 ∨ 268435455 < a
  · obtain ⟨l1, l2, l3⟩ := lenM_out a ha
    go_enter Try.func6, Try.ntmps6
    go_wp2_with fail
    refine (great_any _ _).mono ?_
    rintro e w' ⟨rfl, rfl⟩
    rw [hg']
    clear hg'
    go_wp2_with fail
    refine (len_any _ _).mono ?_
    rintro e w1 ⟨rfl, hb⟩
    rw [l1, l2]
    clear l1 l2
    go_wp2_with fail
    refine (len_any _ _).mono ?_
    rintro e w2 ⟨rfl, hk⟩
    replace hb := bnext hb (Nat.le_refl _) hk
    clear hk
    by_cases ha0 : a < 0
    · clear ha
      go_wp2_with fail
      refine (size_any _ _).mono ?_
      rintro e w' ⟨rfl, rfl⟩
      rw [l3]
      clear l3
      go_wp2_with fail
      refine (awake_true _).mono ?_
      rintro e w3 ⟨rfl, hk⟩
      replace hb := bnext hb (Nat.le_refl _) hk
      clear hk
      go_wp2_with fail
      go_ret
      exact ⟨rfl, hb⟩
    · have ha1 : 268435455 < a := by omega
      clear ha
      go_wp2_with fail
      refine (size_any _ _).mono ?_
      rintro e w' ⟨rfl, rfl⟩
      rw [l3]
      clear l3
      go_wp2_with fail
      refine (awake_true _).mono ?_
      rintro e w3 ⟨rfl, hk⟩
      replace hb := bnext hb (Nat.le_refl _) hk
      clear hk
      go_wp2_with fail
      go_ret
      exact ⟨rfl, hb⟩
  have ha0 : 0 ≤ a := by omega
  have ha1 : a ≤ 268435455 := by omega
  clear ha
  obtain ⟨-, l2, l3, l4⟩ := lenM_in a ha0 ha1
  have L5 := Lib.hid (lenM_length a)
  have L2 := Lib.hid l2
  clear l2
  have hsz : (sizeM a != ((lenM a).length : Int)) = false := by rw [L5.out]; simp
  have R := Lib.hid (show int3 (readLenM ((⟨(lenM a).toArray⟩ : ByteArray) ++ s).data.toList) = .tuple #[.int .i64 a, .int .i64 ((lenM a).length : Int), .int .i64 0] by
    rw [append_data, readLen_back a ha0 ha1]; rfl)
  go_enter Try.func6, Try.ntmps6
  go_wp2_with fail
  refine (great_any _ _).mono ?_
  rintro e w' ⟨rfl, rfl⟩
  rw [hg']
  clear hg'
  go_wp2_with fail
  refine (len_any _ _).mono ?_
  rintro e w1 ⟨rfl, hb⟩
  rw [L2.out]
  go_wp2_with fail
  refine (len_any _ _).mono ?_
  rintro e w2 ⟨rfl, hk⟩
  replace hb := bnext hb (Nat.le_refl _) hk
  clear hk
  go_wp2_with fail
  refine (readLen_any _ _ (by rw [append_size]; omega)).mono ?_
  rintro e w' ⟨rfl, rfl⟩
  rw [R.out]
  clear R
  go_wp2_with fail
  refine (size_any _ _).mono ?_
  rintro e w' ⟨rfl, rfl⟩
  have hm0 : 0 ≤ c % ((lenM a).length : Int) := Int.emod_nonneg _ (by omega)
  have hm1 : c % ((lenM a).length : Int) < ((lenM a).length : Int) := Int.emod_lt_of_pos _ (by omega)
  have R2 := Lib.hid (show int3 (readLenM ((⟨(lenM a).toArray⟩ : ByteArray).extract 0 (c % ((lenM a).length : Int)).toNat).data.toList) = .tuple #[.int .i64 0, .int .i64 0, .int .i64 2] by
    rw [extract_to, readLen_cut a ha0 ha1 _ (by omega)]; rfl)
  have R3 : ((⟨(lenM a).toArray⟩ : ByteArray).extract 0 (c % ((lenM a).length : Int)).toNat).size ≤ 9223372036854775807 := by
    rw [ByteArray.size_extract]; show min _ (lenM a).length - 0 ≤ _; omega
  go_wp2_with fail
  refine (readLen_any _ _ R3).mono ?_
  rintro e w' ⟨rfl, rfl⟩
  rw [R2.out]
  clear R2 R3 hm0 hm1 hsz
  by_cases hbo : b < 0 ∨ 268435455 < b
  · rw [(lenM_out b hbo).2.1]
    go_wp2_with fail
    go_ret
    exact ⟨rfl, hb⟩
  · have hb0 : 0 ≤ b := by omega
    have hb1 : b ≤ 268435455 := by omega
    clear hbo
    rw [(lenM_in b hb0 hb1).2.1]
    by_cases hab : a = b
    · subst hab
      go_wp2_with fail
      refine (awake_true _).mono ?_
      rintro e w4 ⟨rfl, hk⟩
      replace hb := bnext hb (Nat.le_refl _) hk
      clear hk
      go_wp2_with fail
      go_ret
      exact ⟨rfl, hb⟩
    · have hne : ¬ lenM a = lenM b := fun h => hab (lenM_inj a b ha0 ha1 hb0 hb1 h)
      have hne' : (lenM a == lenM b) = false := by simp [hne]
      by_cases hlt : a < b
      · have hmono : ((lenM a).length : Int) ≤ (lenM b).length := by have := lenM_mono a b ha0 hb1 (by omega); omega
        have e1 : (a == b) = false := by simp [hab]
        clear hab
        go_wp2_with fail
        refine (awake_true _).mono ?_
        rintro e w4 ⟨rfl, hk⟩
        replace hb := bnext hb (Nat.le_refl _) hk
        clear hk
        go_wp2_with fail
        go_ret
        exact ⟨rfl, hb⟩
      · have hgt : b < a := by omega
        have e1 : (a == b) = false := by simp [hab]
        clear hab hlt
        go_wp2_with fail
        refine (awake_true _).mono ?_
        rintro e w4 ⟨rfl, hk⟩
        replace hb := bnext hb (Nat.le_refl _) hk
        clear hk
        go_wp2_with fail
        go_ret
        exact ⟨rfl, hb⟩
end Go.Proofs.Ytmnhbbhcilbnoaa
