/- The hub's laws: rows of texts compared (law 07's). (Printed by mktdh.py.) -/
import Derived.Test.YthfdcphecggjeaaGreatDoorDT
namespace Go.Proofs.YthfdcphecggjeaaGreatDoor
open Go Go.RowKit

theorem sameT_any (b : Bool) (a a' : Option Addr) (c c' : Nat) (l m : List Str) (w : World) (ha : Row w a (strs l)) (ha' : Row w a' (strs m)) (hl : (l.length : Int) < 4611686018427387904) (hb : decide (l = m) = b) :
    Calls Tryz.prog 25 #[.slice a l.length c, .slice a' m.length c'] w fun e w' => e = .returned (.bool b) ∧ ∃ n, w' = w.drewN n := by
  have HA := Lib.hid ha
  have HA' := Lib.hid ha'
  have HB := Lib.hid hb
  clear ha ha' hb
  by_cases hne : l.length = m.length
  · have HE := Lib.hid hne
    have hq : ((l.length : Int) != m.length) = false := by simp [hne]
    have hle : (m.length : Int) < 4611686018427387904 := by omega
    clear hne
    go_enter Tryz.func25, Tryz.ntmps25
    go_wp2_with fail
    go_loopw [5] (fun i wr => ∃ k : Nat, i = .int .i64 k ∧ k ≤ l.length ∧ l.take k = m.take k ∧ ∃ n, wr = w.drewN n) (fun i _ => (l.length - intOf i).toNat)
    case atStart => exact ⟨0, rfl, by omega, by simp, 0, rfl⟩
    case round =>
      obtain ⟨k, rfl, hk, ht, nd, rfl⟩ := hrel
      have HT := Lib.hid ht
      clear ht
      by_cases hlt : k < l.length
      · have hlt' : k < m.length := by rw [← HE.out]; exact hlt
        obtain ⟨b1, o1, rfl, k0⟩ := strs_cell HA.out hlt
        obtain ⟨b2, o2, rfl, k1⟩ := strs_cell HA'.out hlt'
        have hk0 : (0 : Int) ≤ k := by omega
        have hkl : (k : Int) < l.length := by omega
        have hkm : (k : Int) < m.length := by omega
        have HX := Lib.hid (show l[k]? = some l[k] by simp [hlt])
        have HY := Lib.hid (show m[k]? = some m[k] by simp [hlt'])
        generalize l[k] = x at *
        generalize m[k] = y at *
        by_cases hxy : x = y
        · subst hxy
          have hq2 : (x == x) = true := by simp
          go_wp2_with fail
          go_quiet (fail)
          go_wp2_with fail
          go_roundw
          case rel => exact ⟨k + 1, by go_num, by omega, by rw [List.take_add_one, List.take_add_one, HX.out, HY.out, HT.out], _, rfl⟩
          case measure => simp [intOf]; omega
        · have hq2 : (x == y) = false := by simpa using hxy
          have HF := Lib.hid (show false = b by
            rw [← HB.out]
            have : l ≠ m := by
              rintro rfl
              have h1 := HX.out; have h2 := HY.out
              rw [h1] at h2; exact hxy (by simpa using h2)
            simp [this])
          clear hxy
          go_wp2_with fail
          go_quiet (fail)
          go_wp2_with fail
          go_ret
          exact ⟨ret_bool HF.out, _, World.drewN_drewN _ _ _⟩
      · have hkl : ¬ (k : Int) < l.length := by omega
        have HF := Lib.hid (show true = b by
          rw [← HB.out]
          have h := HT.out
          have he := HE.out
          rw [List.take_of_length_le (by omega), List.take_of_length_le (by omega)] at h
          simp [h])
        go_wp2_with fail
        go_ret
        exact ⟨ret_bool HF.out, nd, rfl⟩
  · have hq : ((l.length : Int) != m.length) = true := by simp; omega
    have HF := Lib.hid (show false = b by rw [← HB.out]; have : l ≠ m := fun e => hne (by rw [e]); simp [this])
    clear hne
    go_enter Tryz.func25, Tryz.ntmps25
    go_wp2_with fail
    go_ret
    exact ⟨ret_bool HF.out, 0, rfl⟩

end Go.Proofs.YthfdcphecggjeaaGreatDoor
