/- As the text of this name, but for a seat that lacks the functions of the document (TrieKnown). -/
import Derived.Test.YtcnjgenacpkdbaaDoorKRef
namespace Go.Proofs.YtcnjgenacpkdbaaDoor
open Go Go.RowKit

end Go.Proofs.YtcnjgenacpkdbaaDoor
