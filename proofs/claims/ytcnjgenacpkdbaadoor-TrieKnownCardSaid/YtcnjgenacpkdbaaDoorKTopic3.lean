/- As the text of this name, but for a seat that lacks the functions of the document (TrieKnown). -/
import Derived.Test.YtcnjgenacpkdbaaDoorKTopic2
namespace Go.Proofs.YtcnjgenacpkdbaaDoor
open Go Go.RowKit
theorem coversB_no1 {a b : List UInt8} (h : filterB a = false) : coversB a b = false := by unfold coversB; rw [h]; rfl
theorem coversB_no2 {a b : List UInt8} (h : filterB b = false) : coversB a b = false := by unfold coversB; rw [h]; cases filterB a <;> rfl
theorem filterB_ne {b : List UInt8} (h : filterB b = true) : b ≠ [] := by rintro rfl; simp [filterB] at h
end Go.Proofs.YtcnjgenacpkdbaaDoor
