/- As the text of this name, but for a seat that lacks the functions of the document (TrieKnown). -/
import Derived.Test.YtcnjgenacpkdbaaDoorRH
namespace Go.Proofs.YtcnjgenacpkdbaaDoor
open Go Go.RowKit
theorem strs_cell {w : World} {a : Option Addr} {l : List Str} {k : Nat} (h : Row w a (strs l)) (hk : k < l.length) : ∃ b o, a = some ⟨b, o, none⟩ ∧ w.cell? ⟨b, o + k, none⟩ = some (.string ⟨l[k].toArray⟩) := by
  rcases h with h | ⟨b, o, rfl, hc⟩
  · have : l.length = 0 := by simpa [strs] using congrArg List.length h
    omega
  · exact ⟨b, o, rfl, hc _ _ (by simp [strs, hk])⟩
end Go.Proofs.YtcnjgenacpkdbaaDoor
