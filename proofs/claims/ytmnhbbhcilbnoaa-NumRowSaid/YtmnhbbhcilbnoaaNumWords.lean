import Derived.Test.YtmnhbbhcilbnoaaNumAwake
namespace Go.Proofs.Ytmnhbbhcilbnoaa
open Go Go.RowKit

theorem T_int : ElemT Try.prog 38 3 (.int .i64 0) 1 8 := ⟨Try.underlying38, by kernel_rfl, rfl, by decide⟩
theorem ints_one (l : List Int) : ∀ u ∈ ints l, u.oneCell' = true := by intro u hu; simp only [ints, List.mem_map] at hu; obtain ⟨x, _, rfl⟩ := hu; rfl
theorem ints_length (l : List Int) : (ints l).length = l.length := by simp [ints]
theorem ints_at (l : List Int) (k : Nat) (h : k < l.length) : ∃ x, (ints l)[k]? = some (.int .i64 x) ∧ l[k]? = some x := ⟨l[k], by simp [ints, h], by simp [h]⟩

set_option maxRecDepth 100000 in
set_option maxHeartbeats 1000000 in
theorem nwords_true (a : Option Addr) (cap : Nat) (l : List Int) (s : ByteArray) (w : World) (hr : Row w a (ints l)) (hlen : l.length ≤ 9223372036854775807) (hbig : s.size ≤ 9223372036854775807) :
    Calls Try.prog 5 #[.slice a l.length cap, .string s] w fun e w' => e = .returned (.bool true) ∧ Below w.heap.size w w' := by
  by_cases h3 : 300 < l.length
  · have h3' : (300 : Int) < l.length := by omega
    go_enter Try.func5, Try.ntmps5
    go_wp2_with fail
    refine (awake_true _).mono ?_
    rintro e w1 ⟨rfl, hb⟩
    go_wp2_with fail
    go_ret
    exact ⟨rfl, hb⟩
  have h3' : ¬ (300 : Int) < l.length := by omega
  by_cases hg : (2000 : Int) < s.size
  · have hg' : decide ((2000 : Int) < s.size) = true := by simpa using hg
    go_enter Try.func5, Try.ntmps5
    go_wp2_with fail
    refine (great_any _ _).mono ?_
    rintro e w' ⟨rfl, rfl⟩
    rw [hg']
    go_wp2_with fail
    refine (awake_true _).mono ?_
    rintro e w1 ⟨rfl, hb⟩
    go_wp2_with fail
    go_ret
    exact ⟨rfl, hb⟩
  have hg' : decide ((2000 : Int) < s.size) = false := by simpa using hg
  go_enter Try.func5, Try.ntmps5
  go_wp2_with fail
  refine (great_any _ _).mono ?_
  rintro e w' ⟨rfl, rfl⟩
  rw [hg']
  clear hg'
  go_wp2_with (at_builtin; refine wpList_appRow T_int (World.ownsRow_nil w w.heap.size _ _) (Below.refl _ _) (Nat.le_refl _) hr rfl rfl rfl rfl (by rw [ints_length]; omega) (ints_one l) (by omega) (by omega) ?_)
  intro v1 w1 hown hb _
  obtain ⟨a1, cap1, rfl, hr1, -, -⟩ := ownsRow_row hown
  clear hown
  go_wp2_with fail
  refine (words_any _ _ l _ hr1 (by omega)).mono ?_
  rintro e w2 ⟨rfl, hk⟩
  have hr2 := hr1.below hk (Nat.le_refl _)
  replace hb := bnext hb (Nat.le_refl _) hk
  clear hk hr1
  go_wp2_with fail
  refine (rwords_any _ _ l _ (hr.below hb (Nat.le_refl _)) (by omega)).mono ?_
  rintro e w3 ⟨rfl, hk⟩
  have hr3 := hr2.below hk (Nat.le_refl _)
  replace hb := bnext hb (Nat.le_refl _) hk
  clear hk hr2
  have hrl := hr.below hb (Nat.le_refl _)
  clear hr
  generalize wordsM l = m
  generalize wordsE l = me
  go_wp2_with fail
  go_loopw [10] (fun i wr => ∃ k : Nat, i = .int .i64 k ∧ k ≤ l.length ∧ Below w3.heap.size w3 wr) (fun i _ => (l.length - intOf i).toNat)
  case atStart => exact ⟨0, rfl, by omega, Below.refl _ _⟩
  case round =>
    obtain ⟨k, rfl, hk, hbr⟩ := hrel
    by_cases hlt : k < l.length
    · obtain ⟨x, hx, -⟩ := ints_at l k hlt
      obtain ⟨b, off, rfl, hc1⟩ := (hrl.below hbr (Nat.le_refl _)).at hx
      obtain ⟨b', off', rfl, hc2⟩ := (hr3.below hbr (Nat.le_refl _)).at hx
      clear hx hrl hr3
      have hk0 : (0 : Int) ≤ k := by omega
      have hkl : (k : Int) < l.length := by omega
      go_wp2_with fail
      go_quiet (fail)
      go_wp2_with fail
      go_roundw
      case rel => exact ⟨k + 1, by go_num, by omega, below_drewN hbr _⟩
      case measure => simp [intOf]; omega
    · replace hb := bnext hb (Nat.le_refl _) hbr
      clear hbr hrl hr3
      have hkl : ¬ (k : Int) < l.length := by omega
      go_wp2_with fail
      refine (readWord_any _ _ hbig).mono ?_
      rintro e w4 ⟨rfl, hk⟩
      replace hb := bnext hb (Nat.le_refl _) hk
      clear hk
      simp only [int3]
      go_wp2_with fail
      refine (rreadWord_any _ _ hbig).mono ?_
      rintro e w5 ⟨rfl, hk⟩
      replace hb := bnext hb (Nat.le_refl _) hk
      clear hk
      simp only [int3]
      generalize readWordM s.data.toList = r
      obtain ⟨r1, r2, r3⟩ := r
      go_wp2_with fail
      refine (awake_true _).mono ?_
      rintro e w6 ⟨rfl, hk⟩
      replace hb := bnext hb (Nat.le_refl _) hk
      clear hk
      go_wp2_with fail
      go_ret
      exact ⟨rfl, hb⟩
end Go.Proofs.Ytmnhbbhcilbnoaa
