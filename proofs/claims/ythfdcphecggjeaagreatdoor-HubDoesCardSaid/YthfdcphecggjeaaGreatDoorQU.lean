/- Filters in order, each with a QoS (layer 15): the plain law. No program in sight. Filters in order (layer 15): rows of them in memory; where one stands, or would: the library's search walked. -/
import Derived.Test.YthfdcphecggjeaaGreatDoorQA
import Derived.Test.YthfdcphecggjeaaGreatDoorQB
import Derived.Test.YthfdcphecggjeaaGreatDoorProg
namespace Go.Proofs.YthfdcphecggjeaaGreatDoor
section
open Go

abbrev SubE := List UInt8 × Int
def SUp (l : List SubE) : Prop := l.Pairwise (fun a b => a.1 < b.1)
theorem SUp.low {l : List SubE} (h : SUp l) {f : List UInt8} {m : Nat} (hm : m < l.length) (hl : l[m].1 < f) : ∀ y ∈ l.take (m + 1), y.1 < f := by
  intro y hy
  rw [List.take_succ_eq_append_getElem hm] at hy
  rcases List.mem_append.1 hy with hy | hy
  · obtain ⟨i, hi, rfl⟩ := List.getElem_of_mem hy
    rw [List.length_take] at hi
    rw [List.getElem_take]
    exact List.lt_trans (List.pairwise_iff_getElem.1 h i m (by omega) hm (by omega)) hl
  · rw [List.mem_singleton.1 hy]; exact hl
end
section
open Go Go.RowKit

def subCells (x : SubE) : List Value := [.string ⟨x.1.toArray⟩, .int .u8 x.2]
def subsV (l : List SubE) : List Value := l.flatMap subCells
end
end Go.Proofs.YthfdcphecggjeaaGreatDoor
