/- The hub's laws: HubDoes walked. (Printed by gen_hdoes.py.) -/
import Derived.Test.YthfdcphecggjeaaGreatDoorDZ
import Derived.Test.YthfdcphecggjeaaGreatDoorHOnce
namespace Go.Proofs.YthfdcphecggjeaaGreatDoor
open Go Go.RowKit

theorem Db.keepBy {w0 w w' : World} {h n k : Nat} {s : HubS} {lv : Nat} {ns : List NoteK} {F S S' : List Nat} (p : Db w0 w h n k s lv ns F) (hd : ∀ j ∈ F, j ∉ S) (hS : ∀ j ∈ S, w0.heap.size ≤ j) (hu : Upd S S' w w') : Db w0 w' h n k s lv ns F ∧ ∀ j ∈ F, j ∉ S' :=
  ⟨p.mod hu hd hS, fun j hj hj' => fresh_not (p.lt j hj) (hd j hj) hu.2 hj'⟩
theorem Db.rowT {w0 w : World} {h n k : Nat} {s : HubS} {lv : Nat} {ns : List NoteK} {F : List Nat} (p : Db w0 w h n k s lv ns F) : ∃ t a c, w.cell? ⟨h, 0, none⟩ = some (.pointer (some ⟨t, 0, none⟩)) ∧ w.cell? ⟨t, 0, none⟩ = some (.slice a s.gs.length c) ∧ Row w a (hintsV s.gs) := by
  obtain ⟨t, N, Ft, t0, hr, -⟩ := p.lensT
  obtain ⟨a, c, h1, -, -, h2, -⟩ := hr.1
  exact ⟨t, a, c, t0, cell_of_row _ _ 0 _ _ _ h1, h2⟩
end Go.Proofs.YthfdcphecggjeaaGreatDoor
