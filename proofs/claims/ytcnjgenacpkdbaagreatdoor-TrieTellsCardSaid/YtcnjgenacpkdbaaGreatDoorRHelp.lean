/- The trie's laws: their own helpers walked: has. -/
import Derived.Test.YtcnjgenacpkdbaaGreatDoorRH
namespace Go.Proofs.YtcnjgenacpkdbaaGreatDoor
open Go Go.RowKit

theorem strs_cell {w : World} {a : Option Addr} {l : List Str} {k : Nat} (h : Row w a (strs l)) (hk : k < l.length) : ∃ b o, a = some ⟨b, o, none⟩ ∧ w.cell? ⟨b, o + k, none⟩ = some (.string ⟨l[k].toArray⟩) := by
  rcases h with h | ⟨b, o, rfl, hc⟩
  · have : l.length = 0 := by simpa [strs] using congrArg List.length h
    omega
  · exact ⟨b, o, rfl, hc _ _ (by simp [strs, hk])⟩
set_option maxRecDepth 100000 in
set_option maxHeartbeats 2000000 in
theorem has_any (a : Option Addr) (n : Nat) (l : List Str) (c : ByteArray) (w : World) (ha : Row w a (strs l)) (hl : l.length ≤ 1000000) :
    Calls Tryz.prog 23 #[.slice a l.length n, .string c] w fun e w' => e = .returned (.bool (decide (c.data.toList ∈ l))) ∧ w = w' := by
  have HA := Lib.hid ha
  obtain ⟨bb, hbb⟩ : ∃ b, decide (c.data.toList ∈ l) = b := ⟨_, rfl⟩
  rw [hbb]
  have HBB := Lib.hid hbb
  clear ha hbb
  go_enter Tryz.func23, Tryz.ntmps23
  go_wp2_with fail
  go_loopw [5] (fun i wr => ∃ k : Nat, i = .int .i64 k ∧ k ≤ l.length ∧ w = wr ∧ decide (c.data.toList ∈ l.drop k) = bb) (fun i _ => (l.length - intOf i).toNat)
  case atStart => exact ⟨0, rfl, by omega, rfl, by simpa using HBB.out⟩
  case round =>
    obtain ⟨k, rfl, hk, rfl, htk⟩ := hrel
    have HTK := Lib.hid htk
    clear htk
    by_cases hlt : k < l.length
    · obtain ⟨b1, o1, rfl, k0⟩ := strs_cell HA.out hlt
      have h1 := List.drop_eq_getElem_cons hlt
      have HE : Hid (l[k] ≠ c.data.toList → decide (c.data.toList ∈ l.drop (k + 1)) = bb) := Lib.hid (fun e => by
        rw [← HTK.out, h1]; congr 1; rw [List.mem_cons]; simp only [eq_iff_iff]; exact ⟨.inr, fun h => h.elim (fun h => absurd h.symm e) id⟩)
      have HN : Hid (l[k] = c.data.toList → true = bb) := Lib.hid (fun e => by rw [← HTK.out, h1, e]; simp)
      clear h1
      generalize l[k] = x at *
      have hk0 : (0 : Int) ≤ k := by omega
      have hkl : (k : Int) < l.length := by omega
      have hw1 : IntKind.i64.wrap ((k : Int) + 1) = (k : Int) + 1 := w_i64 _ (by omega) (by omega)
      obtain ⟨b, hb⟩ : ∃ b, (x == c.data.toList) = b := ⟨_, rfl⟩
      have hq : (x == c.toList) = b := by rw [Lib.toList_data]; exact hb
      cases b with
      | true =>
        have HN' := Lib.hid (HN.out (by simpa using hb))
        clear HE HN hb
        go_wp2_with fail
        go_ret
        exact ⟨ret_bool HN'.out, rfl⟩
      | false =>
        have HE' := Lib.hid (HE.out (by simpa using hb))
        clear HE HN hb
        go_wp2_with fail
        go_roundw
        case rel => exact ⟨k + 1, rfl, by omega, trivial, HE'.out⟩
        case measure => simp [intOf]; omega
    · have hge : k = l.length := by omega
      subst hge
      have hf : false = bb := by rw [← HTK.out]; simp
      have HF := Lib.hid hf
      clear hf
      go_wp2_with fail
      go_ret
      exact ⟨ret_bool HF.out, rfl⟩
end Go.Proofs.YtcnjgenacpkdbaaGreatDoor
