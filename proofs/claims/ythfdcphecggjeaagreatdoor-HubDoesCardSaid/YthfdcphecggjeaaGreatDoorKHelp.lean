/- The laws' own helpers, walked. -/
import Derived.Test.YthfdcphecggjeaaGreatDoorQR
namespace Go.Proofs.YthfdcphecggjeaaGreatDoor
open Go Go.RowKit Go.Maps

theorem msg_eq_iff (a b : Msg) : a = b ↔ a.t = b.t ∧ a.p = b.p ∧ a.q = b.q ∧ a.r = b.r := by
  obtain ⟨t, p, q, r⟩ := a
  obtain ⟨t', p', q', r'⟩ := b
  simp
instance : DecidableEq Msg := fun a b => decidable_of_iff (a.t = b.t ∧ a.p = b.p ∧ a.q = b.q ∧ a.r = b.r) (msg_eq_iff a b).symm
theorem ba_toList {a b : ByteArray} : a.toList = b.toList ↔ a = b := by
  rw [Lib.toList_data, Lib.toList_data]
  exact ⟨ba_ext, fun h => by rw [h]⟩
theorem msg_neq (b : Bool) (w : World) (t p t' p' : ByteArray) (q q' : Int) (r r' : Bool) (h : decide ((⟨t, p, q, r⟩ : Msg) = ⟨t', p', q', r'⟩) = b) :
    (binOp .neq 24 (.agg #[.string t, .string p, .int .u8 q, .bool r]) (.agg #[.string t', .string p', .int .u8 q', .bool r'])).run Tryz.prog w = .ok (.bool (!b)) w := by
  have hst : Tryz.prog.stoodInHeld 24 = false := by kernel_rfl
  have hgd : Tryz.prog.eqGuardType Tryz.prog.depth 24 = false := by kernel_rfl
  go_simp
  simp only [ba_toList]
  subst h
  by_cases h1 : t = t'
  · by_cases h2 : p = p'
    · by_cases h3 : q = q'
      · by_cases h4 : r = r' <;> simp [h1, h2, h3, h4]
      · simp [h1, h2, h3]
    · simp [h1, h2]
  · simp [h1]
theorem msg_eql (b : Bool) (w : World) (t p t' p' : ByteArray) (q q' : Int) (r r' : Bool) (h : decide ((⟨t, p, q, r⟩ : Msg) = ⟨t', p', q', r'⟩) = b) :
    (binOp .eql 24 (.agg #[.string t, .string p, .int .u8 q, .bool r]) (.agg #[.string t', .string p', .int .u8 q', .bool r'])).run Tryz.prog w = .ok (.bool b) w := by
  have hst : Tryz.prog.stoodInHeld 24 = false := by kernel_rfl
  have hgd : Tryz.prog.eqGuardType Tryz.prog.depth 24 = false := by kernel_rfl
  go_simp
  simp only [ba_toList]
  subst h
  by_cases h1 : t = t'
  · by_cases h2 : p = p'
    · by_cases h3 : q = q'
      · by_cases h4 : r = r' <;> simp [h1, h2, h3, h4]
      · simp [h1, h2, h3]
    · simp [h1, h2]
  · simp [h1]

set_option maxRecDepth 100000 in
set_option maxHeartbeats 2000000 in
theorem same_any (bb : Bool) (a b : Option Addr) (c d : Nat) (l m : List Msg) (w : World) (ha : Row w a (msgs l)) (hb : Row w b (msgs m)) (hl : l.length ≤ 100000) (hm : m.length ≤ 100000) (hbb : decide (l = m) = bb) :
    Calls Tryz.prog 30 #[.slice a l.length c, .slice b m.length d] w fun e w' => e = .returned (.bool bb) ∧ ∃ n, w' = w.drewN n := by
  have HBB := Lib.hid hbb
  have HA := Lib.hid ha
  have HB := Lib.hid hb
  clear ha hb hbb
  by_cases hlen : l.length = m.length
  · rw [hlen]
    go_enter Tryz.func30, Tryz.ntmps30
    go_wp2_with fail
    go_loopw [5] (fun i wr => ∃ k : Nat, i = .int .i64 k ∧ k ≤ m.length ∧ (∃ n, wr = w.drewN n) ∧ l.take k = m.take k) (fun i _ => (m.length - intOf i).toNat)
    case atStart => exact ⟨0, rfl, by omega, ⟨0, rfl⟩, by simp⟩
    case round =>
      obtain ⟨k, rfl, hk, ⟨n, rfl⟩, htk⟩ := hrel
      have HTK := Lib.hid htk
      clear htk
      by_cases hlt : k < m.length
      · have hlt' : k < l.length := by omega
        obtain ⟨b1, o1, rfl, k0, k1, k2, k3⟩ := msgs_row HA.out (k := k) (m := l[k]) (by simp [hlt'])
        obtain ⟨b2, o2, rfl, j0, j1, j2, j3⟩ := msgs_row HB.out (k := k) (m := m[k]) (by simp [hlt])
        have h1 : l.take (k + 1) = l.take k ++ [l[k]] := List.take_succ_eq_append_getElem hlt'
        have h2 : m.take (k + 1) = m.take k ++ [m[k]] := List.take_succ_eq_append_getElem hlt
        have HE : Hid (l[k] = m[k] → l.take (k + 1) = m.take (k + 1)) := Lib.hid (fun e => by rw [h1, h2, HTK.out, e])
        have HN : Hid (l[k] ≠ m[k] → false = bb) := Lib.hid (fun e => by rw [← HBB.out]; symm; simp only [decide_eq_false_iff_not]; rintro rfl; exact e rfl)
        clear h1 h2
        generalize l[k] = x at *
        generalize m[k] = y at *
        obtain ⟨xt, xp, xq, xr⟩ := x
        obtain ⟨yt, yp, yq, yr⟩ := y
        have hk0 : (0 : Int) ≤ k := by omega
        have hkl : (k : Int) < m.length := by omega
        simp only at k0 k1 k2 k3 j0 j1 j2 j3
        obtain ⟨b, hb⟩ : ∃ b, decide ((⟨xt, xp, xq, xr⟩ : Msg) = ⟨yt, yp, yq, yr⟩) = b := ⟨_, rfl⟩
        have hcmp := fun w => msg_neq b w xt xp yt yp xq yq xr yr hb
        cases b with
        | true =>
          have HE' := Lib.hid (HE.out (of_decide_eq_true hb))
          clear HE HN hb
          go_wp2_with fail
          go_quiet (fail)
          go_wp2_with fail
          go_roundw
          case rel => exact ⟨k + 1, by go_num, by omega, ⟨n + _, rfl⟩, HE'.out⟩
          case measure => simp [intOf]; omega
        | false =>
          have HN' := Lib.hid (HN.out (of_decide_eq_false hb))
          clear HE HN hb
          go_wp2_with fail
          go_quiet (fail)
          go_wp2_with fail
          go_ret
          exact ⟨ret_bool HN'.out, _, World.drewN_drewN _ _ _⟩
      · have hkl : ¬ (k : Int) < m.length := by omega
        have HBT : Hid (true = bb) := Lib.hid (by
          have := HTK.out
          rw [List.take_of_length_le (by omega), List.take_of_length_le (by omega)] at this
          rw [← HBB.out, this]; simp)
        go_wp2_with fail
        go_ret
        exact ⟨ret_bool HBT.out, n, rfl⟩
  · have hne : ((l.length : Int) == m.length) = false := by simp; omega
    have HN : Hid (false = bb) := Lib.hid (by rw [← HBB.out]; symm; simp only [decide_eq_false_iff_not]; rintro rfl; exact hlen rfl)
    go_enter Tryz.func30, Tryz.ntmps30
    go_wp2_with fail
    go_ret
    exact ⟨ret_bool HN.out, 0, rfl⟩
end Go.Proofs.YthfdcphecggjeaaGreatDoor
