/- What is put is got again. No program in sight. -/
import Derived.Test.YtjpefeopfbgnhaaDoorTPut2
namespace Go.Proofs.YtjpefeopfbgnhaaDoor
open Go Go.RowKit

theorem put_len {l : List UInt8} (h : l.length ≤ 65535) : (putM l).length = 2 + l.length := by
  rw [putM, if_pos h, List.length_append]; rfl
theorem put_field {l : List UInt8} (h : l.length ≤ 65535) (r : List UInt8) : fieldN (putM l ++ r) = l.length := by
  rw [putM, if_pos h]
  unfold fieldN at0 wordBytes
  simp only [Int.toNat_natCast, List.cons_append, List.nil_append, List.getD_cons_zero, List.getD_cons_succ, UInt8.toNat_ofNat']
  omega
theorem put_drop {l : List UInt8} (h : l.length ≤ 65535) (r : List UInt8) : (putM l ++ r).drop 2 = l ++ r := by
  rw [putM, if_pos h]; rfl
theorem get_put {l : List UInt8} (h : l.length ≤ 65535) (r : List UInt8) : getOk (putM l ++ r) = true ∧ getM (putM l ++ r) = l ∧ getU (putM l ++ r) = 2 + l.length ∧ getE (putM l ++ r) = 0 := by
  have hok : getOk (putM l ++ r) = true := by
    unfold getOk
    rw [put_field h, List.length_append, put_len h]
    exact decide_eq_true (by omega)
  refine ⟨hok, ?_, ?_, ?_⟩
  · rw [getM, hok, if_pos rfl, put_field h, put_drop h, List.take_left']; rfl
  · rw [getU, hok, if_pos rfl, put_field h]
  · rw [getE, hok, if_pos rfl]
theorem get_cut {l : List UInt8} (h : l.length ≤ 65535) {k : Nat} (hk : k < 2 + l.length) : getM ((putM l).take k) = [] ∧ getU ((putM l).take k) = 0 ∧ getE ((putM l).take k) = 2 := by
  have hok : getOk ((putM l).take k) = false := by
    unfold getOk
    rw [List.length_take, put_len h]
    rcases Nat.lt_or_ge k 2 with h2 | h2
    · exact decide_eq_false (by omega)
    · have hf : fieldN ((putM l).take k) = l.length := by
        have h0 := put_field h []
        rw [List.append_nil] at h0
        rw [← h0]
        unfold fieldN at0
        rw [List.getD_eq_getElem?_getD, List.getD_eq_getElem?_getD, List.getD_eq_getElem?_getD, List.getD_eq_getElem?_getD, List.getElem?_take, List.getElem?_take, if_pos (by omega), if_pos (by omega)]
      rw [hf]
      exact decide_eq_false (by omega)
  exact ⟨by rw [getM, hok]; rfl, by rw [getU, hok]; rfl, by rw [getE, hok]; rfl⟩
theorem tx_put {l : List UInt8} (h : l.length ≤ 65535) (hv : validI l = true) (r : List UInt8) : txM (putM l ++ r) = l ∧ txU (putM l ++ r) = 2 + l.length ∧ txE (putM l ++ r) = 0 := by
  obtain ⟨h1, h2, h3, -⟩ := get_put h r
  exact ⟨by rw [txM, h2, if_pos ⟨h1, hv⟩], by rw [txU, h2, if_pos ⟨h1, hv⟩, h3], by rw [txE, if_pos h1, h2, if_pos hv]⟩
end Go.Proofs.YtjpefeopfbgnhaaDoor
