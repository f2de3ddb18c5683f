/- A message that came in, opened. -/
import Derived.Test.YthfdcphecggjeaaGreatDoorHClose
namespace Go.Proofs.YthfdcphecggjeaaGreatDoor
open Go Go.ChangeShapes Go.WideShapes Go.ChangeAt Go.RowKit Go.WideMaps Go.WideElems Go.Joins

theorem open_msg {H : Type} {enc : TypeId × Value → H} {W : World} {base : Nat} {sp : Nat → Bool} {held : Bool} {v : Value} {d : DataW H} {ps : List MemPlace} (h : DataW.Trod enc Tryz.prog W base sp held 24 v d ps) :
    ∃ m : Msg, v = .agg #[.string m.t, .string m.p, .int .u8 m.q, .bool m.r] ∧ 0 ≤ m.q ∧ m.q < 256 := by
  obtain ⟨fuel, hf⟩ := h
  obtain ⟨m, hc, -, -, h3, h4⟩ := flat_msg W _ _ _ _ _ _ _ _ hf
  cases v <;> simp [Value.cells, Msg.cells] at hc
  rename_i cs
  refine ⟨m, ?_, h3, by omega⟩
  rw [show cs = #[.string m.t, .string m.p, .int .u8 m.q, .bool m.r] from Array.toList_inj.1 (by simpa using hc)]
end Go.Proofs.YthfdcphecggjeaaGreatDoor
