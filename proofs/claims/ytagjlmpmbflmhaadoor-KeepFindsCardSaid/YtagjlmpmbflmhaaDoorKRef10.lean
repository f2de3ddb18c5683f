/- The document's answer for what is kept: May walked. -/
import Derived.Test.YtagjlmpmbflmhaaDoorKHelp4
import Derived.Test.YtagjlmpmbflmhaaDoorKRef7b
namespace Go.Proofs.YtagjlmpmbflmhaaDoor
open Go Go.RowKit Go.Maps

set_option maxHeartbeats 1000000 in
theorem rmay_any (m : Msg) (w : World) (hs : m.t.size < 4294967281) (hq : 0 ≤ m.q) (hq2 : m.q < 256) :
    Calls Tryd.prog 24 #[.agg #[.string m.t, .string m.p, .int .u8 m.q, .bool m.r]] w fun e w' => e = .returned (.bool (mayB m)) ∧ Below w.heap.size w w' := by
  obtain ⟨t, p, q, r⟩ := m
  have HB : Hid (mayB ⟨t, p, q, r⟩ = (nameB t.data.toList && decide (q ≤ 2))) := Lib.hid rfl
  have hb : Below w.heap.size w (w.alloc (.cells #[.string t, .string p, .int .u8 q, .bool r] 33)) := (Below.refl _ _).alloc (Nat.le_refl _) _
  have HBW := Lib.hid hb
  have HN := Lib.hid (rname_any t (w.alloc (.cells #[.string t, .string p, .int .u8 q, .bool r] 33)) hs)
  have hr := heap_alloc_new w (.cells #[.string t, .string p, .int .u8 q, .bool r] 33)
  have HR := Lib.hid hr
  clear hb hr
  obtain ⟨b, hbn⟩ : ∃ b, nameB t.data.toList = b := ⟨_, rfl⟩
  rw [hbn] at HN HB
  clear hbn
  go_enter Tryd.func24, Tryd.ntmps24
  go_wp2_with fail
  refine HN.out.mono ?_
  rintro e w1 ⟨rfl, hk⟩
  have hr1 : w1.heap[w.heap.size]? = _ := (hk.block w.heap.size (by simp)).trans HR.out
  obtain ⟨r0, r1, r2, r3⟩ := cells4 hr1
  have HK := Lib.hid (bnext HBW.out (by simp) hk)
  clear hk hr1
  cases b with
  | true =>
    obtain ⟨c, hc⟩ : ∃ c, decide (q ≤ 2) = c := ⟨_, rfl⟩
    rw [hc] at HB
    go_wp2_with fail
    go_ret
    exact ⟨ret_bool HB.out.symm, HK.out⟩
  | false =>
    go_wp2_with fail
    go_ret
    exact ⟨ret_bool HB.out.symm, HK.out⟩

end Go.Proofs.YtagjlmpmbflmhaaDoor
