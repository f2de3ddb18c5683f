/- strings.IndexRune in "+#", at whatever a range over a string yields. -/
import Derived.Test.YtcnjgenacpkdbaaDoorKValid
import Derived.Test.YtcnjgenacpkdbaaDoorTopic
import Derived.Laws.Runes
import Derived.WalkMore
namespace Go.Proofs.YtcnjgenacpkdbaaDoor
open Go Go.RowKit Go.Lib

theorem validRune_any (r : Int) (w : World) (h : (0 ≤ r ∧ r < 55296) ∨ (57343 < r ∧ r ≤ 1114111)) : Calls Tryd.prog 84 #[.int .i32 r] w fun e w' => e = .returned (.bool true) ∧ w = w' := by
  rcases h with ⟨h1, h2⟩ | ⟨h1, h2⟩
  · skip
    go_enter Tryd.func84, Tryd.ntmps84
    go_wp2_with fail
    go_ret
    exact ⟨rfl, rfl⟩
  · have h3 : 0 ≤ r := by omega
    have h4 : decide (r < 55296) = false := by simp; omega
    go_enter Tryd.func84, Tryd.ntmps84
    go_wp2_with fail
    go_ret
    exact ⟨rfl, rfl⟩

def wilds : ByteArray := ⟨#[43, 35]⟩
theorem irune_ascii (r : Int) (w : World) (h0 : 0 ≤ r) (h1 : r < 128) : Calls Tryd.prog 59 #[.string wilds, .int .i32 r] w fun e w' => ∃ n : Int, e = .returned (.int .i64 n) ∧ (0 ≤ n ↔ (r = 43 ∨ r = 35)) ∧ Below w.heap.size w w' := by
  refine (Tryd.strings_IndexRune_ascii wilds r w h0 h1).mono ?_
  rintro e w' ⟨rfl, rfl⟩
  refine ⟨_, rfl, ?_, Below.refl _ _⟩
  obtain ⟨n, rfl⟩ := Int.eq_ofNat_of_zero_le h0
  have e1 : ((n : Int)).toNat.toUInt8.toNat = n := by simp; omega
  have e43 : (43 : UInt8) = ((n : Int)).toNat.toUInt8 ↔ n = 43 := ⟨fun h => by rw [← h] at e1; simpa using e1.symm, fun h => by subst h; rfl⟩
  have e35 : (35 : UInt8) = ((n : Int)).toNat.toUInt8 ↔ n = 35 := ⟨fun h => by rw [← h] at e1; simpa using e1.symm, fun h => by subst h; rfl⟩
  show 0 ≤ Lib.indexByte [43, 35] _ ↔ _
  unfold Lib.indexByte Lib.indexByte Lib.indexByte
  by_cases a : n = 43
  · subst a; simp
  · by_cases b : n = 35
    · subst b; decide
    · have a' : ¬ ((43 : UInt8) = ((n : Int)).toNat.toUInt8) := fun h => a (e43.1 h)
      have b' : ¬ ((35 : UInt8) = ((n : Int)).toNat.toUInt8) := fun h => b (e35.1 h)
      simp only [beq_iff_eq, a', b', if_false]
      simp
      omega

set_option maxRecDepth 100000 in
theorem irune_err (w : World) : Calls Tryd.prog 59 #[.string wilds, .int .i32 65533] w fun e w' => ∃ n : Int, e = .returned (.int .i64 n) ∧ (0 ≤ n ↔ ((65533 : Int) = 43 ∨ (65533 : Int) = 35)) ∧ Below w.heap.size w w' := by
  have h0 := fun ty => run_next_ascii (P := Tryd.prog) w wilds 0 ty (by decide) (by decide)
  have h1 := fun ty => run_next_ascii (P := Tryd.prog) w wilds 1 ty (by decide) (by decide)
  have h2 := fun ty => run_next_end (P := Tryd.prog) w wilds 2 ty (by decide)
  have e0 : (wilds[0]'(by decide)).toNat = 43 := by decide
  have e1 : (wilds[1]'(by decide)).toNat = 35 := by decide
  rw [e0] at h0
  rw [e1] at h1
  clear e0 e1
  go_enter Tryd.func59, Tryd.ntmps59
  go_wp2_with fail
  refine wp_loop_rounds 3 ?_
  rw [rounds_succ]
  go_wp2_with fail
  rw [rounds_succ]
  go_wp2_with fail
  rw [rounds_succ]
  go_wp2_with fail
  go_ret
  exact ⟨-1, rfl, by decide, (Below.refl _ _).alloc (Nat.le_refl _) _⟩

set_option maxRecDepth 100000 in
set_option maxHeartbeats 1000000 in
theorem irune_high (r : Int) (w : World) (h0 : 128 ≤ r) (h1 : r ≤ 55295 ∨ 57344 ≤ r) (h2 : r ≤ 1114111) (h3 : r ≠ 65533) : Calls Tryd.prog 59 #[.string wilds, .int .i32 r] w fun e w' => ∃ n : Int, e = .returned (.int .i64 n) ∧ (0 ≤ n ↔ (r = 43 ∨ r = 35)) ∧ Below w.heap.size w w' := by
  have hv : (0 ≤ r ∧ r < 55296) ∨ (57343 < r ∧ r ≤ 1114111) := by omega
  have hval : Utf8.valid r = true := by rw [validRune_eq, validRune]; exact decide_eq_true hv
  obtain ⟨e1, e2, e3⟩ := encode_facts r hval h0
  have HV := Lib.hid (fun w => validRune_any r w hv)
  have HF : Hid (∀ n : Int, n = -1 → (0 ≤ n ↔ (r = 43 ∨ r = 35))) := Lib.hid fun n hn => by omega
  have a1 : 0 ≤ r := by omega
  have a2 : decide (r < 128) = false := by simp; omega
  have a3 : (r == 65533) = false := by simpa using h3
  clear hv hval h1 h3
  generalize hT : Utf8.encode r = t at *
  unfold wilds
  rcases (show t.size = 2 ∨ t.size = 3 ∨ t.size = 4 by omega) with hs | hs | hs
  · have hb : 128 ≤ (t[1]'(by omega)).toNat := by have := e3 (by omega); simpa [hs] using this
    obtain ⟨c, hc⟩ : ∃ c : UInt8, t[1]'(by omega) = c := ⟨_, rfl⟩
    rw [hc] at hb
    have h35 : ((35 : Int) != (c.toNat : Int)) = true := by rw [bne_iff_ne]; omega
    have hcl : (c.toNat : Int) < 256 := byte_lt c
    have hw1 : ((⟨#[43, 35]⟩ : ByteArray)[1]'(by decide)).toNat = 35 := by decide
    have HI : Hid (∀ (e : ByteArray) (w : World), e.size = 0 → Calls Tryd.prog 83 #[.string e, .int .u8 c.toNat] w fun e w' => e = .returned (.int .i64 (-1)) ∧ w' = w) := Lib.hid fun e w he => by
      have h := Tryd.strings_IndexByte e c.toNat w
      have hn : e.data.toList = [] := List.length_eq_zero_iff.1 (by rw [← Lib.size_eq]; exact he)
      rw [hn] at h
      exact h
    go_enter Tryd.func59, Tryd.ntmps59
    go_wp2_with fail
    refine (HV.out _).mono ?_
    rintro e w' ⟨rfl, rfl⟩
    go_wp2_with fail
    go_step3
    go_wp2_with fail
    refine wp_loop_rounds 1 ?_
    rw [rounds_succ]
    go_wp2_with fail
    go_step3
    go_wp2_with fail
    go_quiet (fail)
    have hbq := below_draws (B := w.heap.size) (w := w) nq
    generalize w.drewN nq = W1 at *
    go_wp2_with fail
    go_quiet ((go_at_call 83; exact Calls.quiet_of_same (HI.out _ _ (by decide))))
    go_wp2_with fail
    rw [Exit.noGoto_ret]
    go_simp
    try rw [Exit.noGoto_ret]
    go_ret
    exact ⟨_, rfl, HF.out _ rfl, below_drewN hbq _⟩
  · clear e3 e1 e2
    go_enter Tryd.func59, Tryd.ntmps59
    go_wp2_with fail
    refine (HV.out _).mono ?_
    rintro e w' ⟨rfl, rfl⟩
    go_wp2_with fail
    go_step3
    go_wp2_with fail
    refine wp_loop_rounds 1 ?_
    rw [rounds_succ]
    go_wp2_with fail
    rw [Exit.noGoto_ret]
    go_ret
    exact ⟨_, rfl, HF.out _ rfl, Below.refl _ _⟩
  · clear e3 e1 e2
    go_enter Tryd.func59, Tryd.ntmps59
    go_wp2_with fail
    refine (HV.out _).mono ?_
    rintro e w' ⟨rfl, rfl⟩
    go_wp2_with fail
    go_step3
    go_wp2_with fail
    refine wp_loop_rounds 1 ?_
    rw [rounds_succ]
    go_wp2_with fail
    rw [Exit.noGoto_ret]
    go_ret
    exact ⟨_, rfl, HF.out _ rfl, Below.refl _ _⟩
end Go.Proofs.YtcnjgenacpkdbaaDoor
