/- The hub's laws: HubAtOnce walked. -/
import Derived.Test.YthfdcphecggjeaaGreatDoorQZ
import Derived.Test.YthfdcphecggjeaaGreatDoorHRouP
namespace Go.Proofs.YthfdcphecggjeaaGreatDoor
open Go Go.RowKit

theorem small_of {l : List Item} (h : SmL l) (hq : ∀ x ∈ l, 0 ≤ x.msg.q ∧ x.msg.q < 256) : ∀ x ∈ l, SmallI x := fun x hx => by
  obtain ⟨h1, h2, h3, h4⟩ := h.2 x hx
  exact ⟨by omega, by omega, by omega, by omega, (hq x hx).1, (hq x hx).2⟩
theorem addG_len (gs : List Hint) (f c : Str) : (addG gs f c).length ≤ gs.length + 1 := by
  unfold addG
  split
  · rw [(perm_insH (f, c) gs).length_eq]; simp
  · omega
end Go.Proofs.YthfdcphecggjeaaGreatDoor
