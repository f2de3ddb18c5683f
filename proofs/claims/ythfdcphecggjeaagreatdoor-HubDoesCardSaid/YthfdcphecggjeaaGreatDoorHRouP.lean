/- The hub's laws: who is told by a Route. No program in sight. -/
import Derived.Test.YthfdcphecggjeaaGreatDoorQX
namespace Go.Proofs.YthfdcphecggjeaaGreatDoor
open Go

theorem send_mem {n : Nat} {x : Item} {cs : List Str} {k : Nat} {h : HMail} (hm : h ∈ sendM n x cs k) : ∃ w, w < k ∧ at1 n cs w ≠ [] ∧ h = toM n x cs w := by
  unfold sendM at hm
  obtain ⟨w, hw, rfl⟩ := List.mem_map.1 hm
  obtain ⟨h1, h2⟩ := List.mem_filter.1 hw
  exact ⟨w, List.mem_range.1 h1, by simpa using h2, rfl⟩
end Go.Proofs.YthfdcphecggjeaaGreatDoor
