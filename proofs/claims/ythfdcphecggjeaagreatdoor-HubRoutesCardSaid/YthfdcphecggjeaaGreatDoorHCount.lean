/- The hub's laws: count walked. -/
import Derived.Test.YthfdcphecggjeaaGreatDoorHOnce
namespace Go.Proofs.YthfdcphecggjeaaGreatDoor
open Go Go.RowKit

theorem strs_cellC {w : World} {a : Option Addr} {l : List Str} {k : Nat} (h : Row w a (strs l)) (hk : k < l.length) : ∃ b o, a = some ⟨b, o, none⟩ ∧ w.cell? ⟨b, o + k, none⟩ = some (.string ⟨l[k].toArray⟩) := by
  rcases h with h | ⟨b, o, rfl, hc⟩
  · have : l.length = 0 := by simpa [strs] using congrArg List.length h
    omega
  · exact ⟨b, o, rfl, hc _ _ (by simp [strs, hk])⟩
set_option maxRecDepth 100000 in
set_option maxHeartbeats 2000000 in
theorem count19 (a : Option Addr) (n : Nat) (l : List Str) (c : ByteArray) (w : World) (ha : Row w a (strs l)) (hl : l.length ≤ 1000000) :
    Calls Tryz.prog 16 #[.slice a l.length n, .string c] w fun e w' => e = .returned (.int .i64 (l.count c.data.toList)) ∧ w = w' := by
  have HA := Lib.hid ha
  clear ha
  go_enter Tryz.func16, Tryz.ntmps16
  go_wp2_with fail
  go_loopw [5, 6] (fun my i wr => ∃ k : Nat, i = .int .i64 k ∧ k ≤ l.length ∧ my = .int .i64 ((l.take k).count c.data.toList) ∧ (l.take k).count c.data.toList ≤ k ∧ w = wr) (fun _ i _ => (l.length - intOf i).toNat)
  case atStart => exact ⟨0, rfl, by omega, rfl, by simp, rfl⟩
  case round =>
    obtain ⟨k, rfl, hk, rfl, hle, rfl⟩ := hrel
    by_cases hlt : k < l.length
    · obtain ⟨b1, o1, rfl, k0⟩ := strs_cellC HA.out hlt
      have HT := Lib.hid (show (l.take (k + 1)).count c.data.toList = (l.take k).count c.data.toList + (if l[k] == c.data.toList then 1 else 0) by
        rw [List.take_succ_eq_append_getElem hlt, List.count_append, List.count_singleton])
      generalize l[k] = x at *
      generalize (l.take k).count c.data.toList = my at *
      have hk0 : (0 : Int) ≤ k := by omega
      have hkl : (k : Int) < l.length := by omega
      obtain ⟨b, hb⟩ : ∃ b, (x == c.data.toList) = b := ⟨_, rfl⟩
      have hq : (x == c.toList) = b := by rw [Lib.toList_data]; exact hb
      have HT2 := HT.out
      rw [hb] at HT2
      replace HT2 := Lib.hid HT2
      clear hb HT
      cases b with
      | true =>
        go_wp2_with fail
        go_roundw
        case rel => exact ⟨k + 1, by go_num, by omega, by rw [HT2.out]; simp, by rw [HT2.out]; simp; omega, by first | rfl | trivial⟩
        case measure => simp [intOf]; omega
      | false =>
        go_wp2_with fail
        go_roundw
        case rel => exact ⟨k + 1, by go_num, by omega, by rw [HT2.out]; rfl, by rw [HT2.out]; simp; omega, by first | rfl | trivial⟩
        case measure => simp [intOf]; omega
    · have hge : k = l.length := by omega
      subst hge
      rw [List.take_length]
      go_wp2_with fail
      go_ret
      exact ⟨rfl, rfl⟩
end Go.Proofs.YthfdcphecggjeaaGreatDoor
