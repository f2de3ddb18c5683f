/- As the text of this name, but for a seat that lacks the functions of the document (TrieKnown). -/
import Derived.Test.YtcnjgenacpkdbaaDoorKChar
namespace Go.Proofs.YtcnjgenacpkdbaaDoor
open Go Go.RowKit
theorem str_bytes (s : ByteArray) : (⟨s.data.toList.toArray⟩ : ByteArray) = s := by cases s <;> rfl
theorem extract_mid (s : ByteArray) (a b : Nat) : s.extract a b = ⟨((s.data.toList.drop a).take (b - a)).toArray⟩ := by
  rw [← Lib.extract_data]
theorem size_len (s : ByteArray) : s.data.toList.length = s.size := rfl
end Go.Proofs.YtcnjgenacpkdbaaDoor
