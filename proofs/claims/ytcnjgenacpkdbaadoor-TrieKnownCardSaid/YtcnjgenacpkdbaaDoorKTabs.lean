/- What lies where Go's start laid it: utf8's two tables, bytealg's bound. -/
import Derived.Test.YtcnjgenacpkdbaaDoorRows
import Derived.Test.YtcnjgenacpkdbaaDoorLib
import Derived.Test.YtcnjgenacpkdbaaDoorShelf
namespace Go.Proofs.YtcnjgenacpkdbaaDoor
open Go Go.RowKit Go.Lib

/-- Go's two tables, and a number, lie where they lie. -/
def Tabs (w : World) : Prop := Lib.Utf8Tabs 1 2 w ∧ ∃ m : Int, w.cell? ⟨0, 0, none⟩ = some (.int .i64 m)
theorem Tabs.below {w w' : World} (h : Tabs w) (hb : Below w.heap.size w w') : Tabs w' := by
  refine ⟨Utf8Tabs_below h.1 hb, ?_⟩
  obtain ⟨m, hm⟩ := h.2
  exact ⟨m, by rw [hb.cell (p := ⟨0, 0, none⟩) (World.block_lt_of_cell? w _ hm)]; exact hm⟩
/-- bytes of a string -/
theorem drop_cons_get (s : ByteArray) (k : Nat) (h : k < s.size) : s.data.toList.drop k = s[k] :: s.data.toList.drop (k + 1) :=
  List.drop_eq_getElem_cons (by simpa using h)
theorem byte_lt (c : UInt8) : (c.toNat : Int) < 256 := by have := c.toNat_lt; omega
theorem bget (s : ByteArray) (k : Nat) (h : k < s.size) : s.data.toList[k]? = some s[k] := by
  rw [List.getElem?_eq_getElem (by simpa using h)]; rfl
end Go.Proofs.YtcnjgenacpkdbaaDoor
