/- As the text of this name, but for a seat that lacks the functions of the document (TrieKnown). -/
import Derived.Test.YtcnjgenacpkdbaaDoorKTopic
import Derived.Laws.EntriesVeiled
namespace Go.Proofs.YtcnjgenacpkdbaaDoor
open Go Go.RowKit
theorem first_row {w : World} {a : Option Addr} {l : List (List UInt8)} (h : Row w a (strs l)) {x : List UInt8} {t : List (List UInt8)} (hl : l = x :: t) : ∃ b off, a = some ⟨b, off, none⟩ ∧ w.cell? ⟨b, off, none⟩ = some (.string ⟨x.toArray⟩) := by
  obtain ⟨b, off, ha, hc⟩ := strs_row h (k := 0) (x := x) (by rw [hl]; rfl)
  exact ⟨b, off, ha, hc⟩
theorem coversL_nil (b : List (List UInt8)) : coversL [] b = b.isEmpty := by cases b <;> simp [coversL]
theorem coversL_nilr (x : List UInt8) (a : List (List UInt8)) : coversL (x :: a) [] = (x == [35]) := by simp [coversL]
theorem coversL_cc (x y : List UInt8) (a b : List (List UInt8)) : coversL (x :: a) (y :: b) = (x == [35] || (y != [35] && (x == [43] || x == y) && coversL a b)) := by simp [coversL]
end Go.Proofs.YtcnjgenacpkdbaaDoor
