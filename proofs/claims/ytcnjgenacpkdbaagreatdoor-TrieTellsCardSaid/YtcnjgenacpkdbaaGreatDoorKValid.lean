/- The fields of texts and of any bytes: the program's calls and the reference's, by plain functions. -/
import Derived.Test.YtcnjgenacpkdbaaGreatDoorKChar
namespace Go.Proofs.YtcnjgenacpkdbaaGreatDoor
open Go Go.RowKit

theorem str_bytes (s : ByteArray) : (⟨s.data.toList.toArray⟩ : ByteArray) = s := by cases s <;> rfl
theorem extract_mid (s : ByteArray) (a b : Nat) : s.extract a b = ⟨((s.data.toList.drop a).take (b - a)).toArray⟩ := by
  rw [← Lib.extract_data]
theorem size_len (s : ByteArray) : s.data.toList.length = s.size := rfl

set_option maxRecDepth 100000 in
set_option maxHeartbeats 4000000 in
theorem rcount_any (s : ByteArray) (w : World) (hbig : s.size ≤ 9223372036854775807) :
    Calls Tryz.prog 88 #[.string s] w fun e w' => e = .returned (.int .i64 (cntI s.data.toList)) ∧ Below w.heap.size w w' := by
  have hlen : s.data.toList.length = s.size := rfl
  by_cases hlong : 65535 < s.size
  · have HL := Lib.hid (cntI_long (l := s.data.toList) (by omega))
    have hl' : (65535 : Int) < s.size := by omega
    go_enter Tryz.func88, Tryz.ntmps88
    go_wp2_with fail
    go_ret
    exact ⟨by rw [HL.out]; rfl, Below.refl _ _⟩
  have hl' : ¬ (65535 : Int) < s.size := by omega
  have hl'' : decide ((65535 : Int) < s.size) = false := decide_eq_false hl'
  go_enter Tryz.func88, Tryz.ntmps88
  go_wp2_with fail
  go_loopw [3, 4] (fun n at_ wr => ∃ k p : Nat, n = .int .i64 k ∧ at_ = .int .i64 p ∧ k ≤ p ∧ p ≤ s.size ∧ Below w.heap.size w wr ∧ Hid (cnt s.data.toList = (cnt (s.data.toList.drop p)).map (· + k))) (fun _ at_ _ => (s.size - intOf at_).toNat)
  case atStart => exact ⟨0, 0, rfl, rfl, Nat.le_refl _, Nat.zero_le _, Below.refl _ _, by unfold Hid; rw [List.drop_zero]; cases cnt s.data.toList <;> rfl⟩
  case round =>
    obtain ⟨k, p, rfl, rfl, hkp, hp, hb, HN⟩ := hrel
    by_cases hlt : p < s.size
    · have hat := cnt_at HN.out (by omega)
      have hcl := cw_le (s.data.toList.drop p)
      rw [List.length_drop, hlen] at hcl
      have hp0 : (0 : Int) ≤ p := by omega
      have hps : (p : Int) ≤ s.size := by omega
      have hpl : (p : Int) < s.size := by omega
      have hext : (s.extract p s.size).data.toList = s.data.toList.drop p := by
        rw [Lib.extract_data, List.take_of_length_le (by rw [List.length_drop]; exact Nat.le_refl _)]
      have hch := character_any (s.extract p s.size)
      rw [hext] at hch
      have hch2 := fun w => hch w (by rw [Lib.tail_size]; omega) (by rw [Lib.tail_size]; omega)
      have HC := Lib.hid hch2
      clear hch hch2
      generalize cw (s.data.toList.drop p) = m at *
      by_cases hc : m = 0
      · have HF := Lib.hid (cntI_none (hat.1 hc))
        clear hat
        subst hc
        go_wp2_with fail
        refine (HC.out _).mono ?_
        rintro e w6 ⟨c, rfl, hk⟩
        have hb3 := bnext hb (Nat.le_refl _) hk
        go_wp2_with fail
        go_ret
        exact ⟨by rw [HF.out]; rfl, hb3⟩
      · have HF := Lib.hid (hat.2 hc)
        clear hat
        have hmb : ((m : Int) == 0) = false := by simp [hc]
        have hw1 : IntKind.i64.wrap ((p : Int) + m) = ((p + m : Nat) : Int) := by rw [w_i64] <;> omega
        generalize hpm : p + m = q at *
        go_wp2_with fail
        refine (HC.out _).mono ?_
        rintro e w6 ⟨c, rfl, hk⟩
        have hb3 := bnext hb (Nat.le_refl _) hk
        go_wp2_with fail
        go_roundw
        case rel => exact ⟨k + 1, q, by go_num, rfl, by omega, by omega, hb3, HF⟩
        case measure => simp [intOf]; omega
    · have HF := Lib.hid (cntI_some (l := s.data.toList) (n := k) (by omega) (by rw [HN.out, List.drop_eq_nil_of_le (by omega), cnt_nil]; simp))
      have hpl : ¬ (p : Int) < s.size := by omega
      go_wp2_with fail
      go_ret
      exact ⟨by rw [HF.out]; rfl, hb⟩
theorem rvalid_any (s : ByteArray) (w : World) (hbig : s.size ≤ 9223372036854775807) :
    Calls Tryz.prog 66 #[.string s] w fun e w' => e = .returned (.bool (validI s.data.toList)) ∧ Below w.heap.size w w' := by
  have HC := Lib.hid (rcount_any s w hbig)
  obtain ⟨n, hn⟩ : ∃ n, cntI s.data.toList = n := ⟨_, rfl⟩
  rw [validI]
  rw [hn] at HC ⊢
  go_enter Tryz.func66, Tryz.ntmps66
  go_wp2_with fail
  refine HC.out.mono ?_
  rintro e w' ⟨rfl, hb⟩
  go_wp2_with fail
  go_ret
  exact ⟨rfl, hb⟩

end Go.Proofs.YtcnjgenacpkdbaaGreatDoor
