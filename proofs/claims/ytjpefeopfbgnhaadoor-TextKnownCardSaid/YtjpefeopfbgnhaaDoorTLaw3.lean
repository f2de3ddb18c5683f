/- Rows of one letter: as texts, put, got, cut. No program in sight. -/
import Derived.Test.YtjpefeopfbgnhaaDoorTNever
namespace Go.Proofs.YtjpefeopfbgnhaaDoor
open Go Go.RowKit

/-- n times the letter x -/
def xs (n : Nat) : List UInt8 := List.replicate n 120
theorem xs_len (n : Nat) : (xs n).length = n := List.length_replicate
theorem cnt_xs (n : Nat) : cnt (xs n) = some n := by
  induction n with
  | zero => rfl
  | succ n ih =>
    have e : xs (n + 1) = 120 :: xs n := rfl
    rw [e, cnt_one (by decide) (by decide), ih]; rfl
def xb (n : Nat) : ByteArray := ⟨(xs n).toArray⟩
theorem xb_list (n : Nat) : (xb n).data.toList = xs n := rfl
theorem xb_size (n : Nat) : (xb n).size = n := by rw [← size_len, xb_list, xs_len]
theorem xb_ok {n : Nat} (h : n ≤ 65535) : okT (xb n) = true ∧ cntI (xb n).data.toList = n := ok_some (by rw [xb_list]; exact cnt_xs n) (by rw [xb_size]; exact h)
theorem xb_long {n : Nat} (h : 65535 < n) : okT (xb n) = false := by
  unfold okT validI
  rw [cntI_long (by rw [xb_list, xs_len]; exact h)]; rfl
theorem xb_put {n : Nat} (h : n ≤ 65535) : putsM [xb n] = putM (xs n) ∧ putsE [xb n] = 0 ∧ putE (xs n) = 0 := by
  have hall : ([xb n].all okT) = true := by simp [(xb_ok h).1]
  refine ⟨by rw [putsM, if_pos hall]; simp [fieldOf, xb_list], by rw [putsE, if_pos hall], if_pos (by rw [xs_len]; exact h)⟩
theorem xb_put_long (a : ByteArray) {n : Nat} (h : 65535 < n) : putsM [a, xb n] = [] ∧ putsE [a, xb n] = 5 ∧ putM (xs n) = [] ∧ putE (xs n) = 3 := by
  have hall : ([a, xb n].all okT) = false := by simp [xb_long h]
  refine ⟨by rw [putsM, hall]; rfl, by rw [putsE, hall]; rfl, if_neg (by rw [xs_len]; omega), if_neg (by rw [xs_len]; omega)⟩
theorem xb_get {n : Nat} (h : n ≤ 65535) : txM (putM (xs n)) = xs n ∧ txU (putM (xs n)) = 2 + n ∧ txE (putM (xs n)) = 0 := by
  have hl : (xs n).length ≤ 65535 := by rw [xs_len]; exact h
  have := tx_put hl (show validI (xs n) = true from (xb_ok h).1) []
  rw [List.append_nil, xs_len] at this
  exact this
theorem xb_cut {n k : Nat} (h : n ≤ 65535) (hk : k < 2 + n) : txM ((putM (xs n)).take k) = [] ∧ txU ((putM (xs n)).take k) = 0 ∧ txE ((putM (xs n)).take k) = 2 := by
  have hl : (xs n).length ≤ 65535 := by rw [xs_len]; exact h
  obtain ⟨-, -, h3⟩ := get_cut hl (k := k) (by rw [xs_len]; exact hk)
  have hok : getOk ((putM (xs n)).take k) = false := by
    cases hg : getOk ((putM (xs n)).take k) with
    | false => rfl
    | true => rw [getE, hg] at h3; simp at h3
  exact ⟨by rw [txM, hok]; rfl, by rw [txU, hok]; rfl, by rw [txE, hok]; rfl⟩
end Go.Proofs.YtjpefeopfbgnhaaDoor
