/- The document's answer for what is kept: Set of a message that may not be kept; both at once. -/
import Derived.Test.YthfeckndkmhieaaGreatDoorKRSet
namespace Go.Proofs.YthfeckndkmhieaaGreatDoor
open Go Go.RowKit Go.Maps

theorem rset_no (g : Nat) (m : Msg) (w : World) (hs : m.t.size ≤ 9223372036854775807) (hq : 0 ≤ m.q) (hq2 : m.q < 256) (hm : mayB m = false) :
    Calls Tryz.prog 44 #[.pointer (some ⟨g, 0, none⟩), .agg #[.string m.t, .string m.p, .int .u8 m.q, .bool m.r]] w fun e w' => e = .returned (.bool false) ∧ Below w.heap.size w w' := by
  have hb : Below w.heap.size w (w.alloc (.cells #[.string m.t, .string m.p, .int .u8 m.q, .bool m.r] 26)) := (Below.refl _ _).alloc (Nat.le_refl _) _
  have HBW := Lib.hid hb
  have HM := Lib.hid (fun W => rmay_any m W hs hq hq2)
  rw [hm] at HM
  clear hb
  obtain ⟨t, p, q, r⟩ := m
  dsimp only at *
  go_enter Tryz.func44, Tryz.ntmps44
  go_wp2_with fail
  refine (HM.out _).mono ?_
  rintro e w1 ⟨rfl, hk⟩
  have HK := Lib.hid (bnext HBW.out (by simp) hk)
  clear hk
  go_wp2_with fail
  go_ret
  exact ⟨rfl, HK.out⟩

theorem rset_u (b : Bool) (g : Nat) (m : Msg) (l : List Msg) (G : List Nat) (w : World) (h : RRep w g l G) (hU : Up l) (hs : m.t.size ≤ 9223372036854775807) (hq : 0 ≤ m.q) (hq2 : m.q < 256) (hl : l.length < 1000000) (hb : mayB m = b) :
    Calls Tryz.prog 44 #[.pointer (some ⟨g, 0, none⟩), .agg #[.string m.t, .string m.p, .int .u8 m.q, .bool m.r]] w fun e w' => e = .returned (.bool b) ∧ ∃ G', RRep w' g (setB m l) G' ∧ Upd G G' w w' := by
  cases b with
  | false =>
    refine (rset_no g m w hs hq hq2 hb).mono ?_
    rintro e w' ⟨rfl, hk⟩
    refine ⟨rfl, G, ?_, Mod.of_below hk _, fun k hk => .inl hk⟩
    have e : setB m l = l := by unfold setB; rw [hb]; rfl
    rw [e]; exact h.below hk
  | true =>
    have : setB m l = setM m l := by unfold setB; rw [hb]; rfl
    rw [this]
    exact rset_yes g m l G w h hU hs hq hq2 hb hl

end Go.Proofs.YthfeckndkmhieaaGreatDoor
