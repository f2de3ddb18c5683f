/- The laws' own helpers, walked. -/
import Derived.Test.YtagjlmpmbflmhaaDoorKFind2
namespace Go.Proofs.YtagjlmpmbflmhaaDoor
open Go Go.RowKit Go.Maps

theorem msg_eq_iff (a b : Msg) : a = b ↔ a.t = b.t ∧ a.p = b.p ∧ a.q = b.q ∧ a.r = b.r := by
  obtain ⟨t, p, q, r⟩ := a
  obtain ⟨t', p', q', r'⟩ := b
  simp
instance : DecidableEq Msg := fun a b => decidable_of_iff (a.t = b.t ∧ a.p = b.p ∧ a.q = b.q ∧ a.r = b.r) (msg_eq_iff a b).symm
theorem ba_toList {a b : ByteArray} : a.toList = b.toList ↔ a = b := by
  rw [Lib.toList_data, Lib.toList_data]
  exact ⟨ba_ext, fun h => by rw [h]⟩
theorem msg_neq (b : Bool) (w : World) (t p t' p' : ByteArray) (q q' : Int) (r r' : Bool) (h : decide ((⟨t, p, q, r⟩ : Msg) = ⟨t', p', q', r'⟩) = b) :
    (binOp .neq 33 (.agg #[.string t, .string p, .int .u8 q, .bool r]) (.agg #[.string t', .string p', .int .u8 q', .bool r'])).run Tryd.prog w = .ok (.bool (!b)) w := by
  have hst : Tryd.prog.stoodInHeld 33 = false := by kernel_rfl
  have hgd : Tryd.prog.eqGuardType Tryd.prog.depth 33 = false := by kernel_rfl
  go_simp
  simp only [ba_toList]
  subst h
  by_cases h1 : t = t'
  · by_cases h2 : p = p'
    · by_cases h3 : q = q'
      · by_cases h4 : r = r' <;> simp [h1, h2, h3, h4]
      · simp [h1, h2, h3]
    · simp [h1, h2]
  · simp [h1]
theorem msg_eql (b : Bool) (w : World) (t p t' p' : ByteArray) (q q' : Int) (r r' : Bool) (h : decide ((⟨t, p, q, r⟩ : Msg) = ⟨t', p', q', r'⟩) = b) :
    (binOp .eql 33 (.agg #[.string t, .string p, .int .u8 q, .bool r]) (.agg #[.string t', .string p', .int .u8 q', .bool r'])).run Tryd.prog w = .ok (.bool b) w := by
  have hst : Tryd.prog.stoodInHeld 33 = false := by kernel_rfl
  have hgd : Tryd.prog.eqGuardType Tryd.prog.depth 33 = false := by kernel_rfl
  go_simp
  simp only [ba_toList]
  subst h
  by_cases h1 : t = t'
  · by_cases h2 : p = p'
    · by_cases h3 : q = q'
      · by_cases h4 : r = r' <;> simp [h1, h2, h3, h4]
      · simp [h1, h2, h3]
    · simp [h1, h2]
  · simp [h1]

set_option maxRecDepth 100000 in
set_option maxHeartbeats 2000000 in
theorem same_any (bb : Bool) (a b : Option Addr) (c d : Nat) (l m : List Msg) (w : World) (ha : Row w a (msgs l)) (hb : Row w b (msgs m)) (hl : l.length ≤ 100000) (hm : m.length ≤ 100000) (hbb : decide (l = m) = bb) :
    Calls Tryd.prog 15 #[.slice a l.length c, .slice b m.length d] w fun e w' => e = .returned (.bool bb) ∧ ∃ n, w' = w.drewN n := by
  have HBB := Lib.hid hbb
  have HA := Lib.hid ha
  have HB := Lib.hid hb
  clear ha hb hbb
  by_cases hlen : l.length = m.length
  · rw [hlen]
    go_enter Tryd.func15, Tryd.ntmps15
    go_wp2_with fail
    go_loopw [5] (fun i wr => ∃ k : Nat, i = .int .i64 k ∧ k ≤ m.length ∧ (∃ n, wr = w.drewN n) ∧ l.take k = m.take k) (fun i _ => (m.length - intOf i).toNat)
    case atStart => exact ⟨0, rfl, by omega, ⟨0, rfl⟩, by simp⟩
    case round =>
      obtain ⟨k, rfl, hk, ⟨n, rfl⟩, htk⟩ := hrel
      have HTK := Lib.hid htk
      clear htk
      by_cases hlt : k < m.length
      · have hlt' : k < l.length := by omega
        obtain ⟨b1, o1, rfl, k0, k1, k2, k3⟩ := msgs_row HA.out (k := k) (m := l[k]) (by simp [hlt'])
        obtain ⟨b2, o2, rfl, j0, j1, j2, j3⟩ := msgs_row HB.out (k := k) (m := m[k]) (by simp [hlt])
        have h1 : l.take (k + 1) = l.take k ++ [l[k]] := List.take_succ_eq_append_getElem hlt'
        have h2 : m.take (k + 1) = m.take k ++ [m[k]] := List.take_succ_eq_append_getElem hlt
        have HE : Hid (l[k] = m[k] → l.take (k + 1) = m.take (k + 1)) := Lib.hid (fun e => by rw [h1, h2, HTK.out, e])
        have HN : Hid (l[k] ≠ m[k] → false = bb) := Lib.hid (fun e => by rw [← HBB.out]; symm; simp only [decide_eq_false_iff_not]; rintro rfl; exact e rfl)
        clear h1 h2
        generalize l[k] = x at *
        generalize m[k] = y at *
        obtain ⟨xt, xp, xq, xr⟩ := x
        obtain ⟨yt, yp, yq, yr⟩ := y
        have hk0 : (0 : Int) ≤ k := by omega
        have hkl : (k : Int) < m.length := by omega
        simp only at k0 k1 k2 k3 j0 j1 j2 j3
        obtain ⟨b, hb⟩ : ∃ b, decide ((⟨xt, xp, xq, xr⟩ : Msg) = ⟨yt, yp, yq, yr⟩) = b := ⟨_, rfl⟩
        have hcmp := fun w => msg_neq b w xt xp yt yp xq yq xr yr hb
        cases b with
        | true =>
          have HE' := Lib.hid (HE.out (of_decide_eq_true hb))
          clear HE HN hb
          go_wp2_with fail
          go_quiet (fail)
          go_wp2_with fail
          go_roundw
          case rel => exact ⟨k + 1, by go_num, by omega, ⟨n + _, rfl⟩, HE'.out⟩
          case measure => simp [intOf]; omega
        | false =>
          have HN' := Lib.hid (HN.out (of_decide_eq_false hb))
          clear HE HN hb
          go_wp2_with fail
          go_quiet (fail)
          go_wp2_with fail
          go_ret
          exact ⟨ret_bool HN'.out, _, World.drewN_drewN _ _ _⟩
      · have hkl : ¬ (k : Int) < m.length := by omega
        have HBT : Hid (true = bb) := Lib.hid (by
          have := HTK.out
          rw [List.take_of_length_le (by omega), List.take_of_length_le (by omega)] at this
          rw [← HBB.out, this]; simp)
        go_wp2_with fail
        go_ret
        exact ⟨ret_bool HBT.out, n, rfl⟩
  · have hne : ((l.length : Int) == m.length) = false := by simp; omega
    have HN : Hid (false = bb) := Lib.hid (by rw [← HBB.out]; symm; simp only [decide_eq_false_iff_not]; rintro rfl; exact hlen rfl)
    go_enter Tryd.func15, Tryd.ntmps15
    go_wp2_with fail
    go_ret
    exact ⟨ret_bool HN.out, 0, rfl⟩

set_option maxRecDepth 100000 in
set_option maxHeartbeats 2000000 in
theorem has_any (bb : Bool) (a : Option Addr) (c : Nat) (l : List Msg) (x : Msg) (w : World) (ha : Row w a (msgs l)) (hl : l.length ≤ 100000) (hbb : decide (x ∈ l) = bb) :
    Calls Tryd.prog 20 #[.slice a l.length c, .agg #[.string x.t, .string x.p, .int .u8 x.q, .bool x.r]] w fun e w' => e = .returned (.bool bb) ∧ Below w.heap.size w w' := by
  obtain ⟨yt, yp, yq, yr⟩ := x
  have HBB := Lib.hid hbb
  have hb0 : Below w.heap.size w (w.alloc (.cells #[.string yt, .string yp, .int .u8 yq, .bool yr] 33)) := (Below.refl _ _).alloc (Nat.le_refl _) _
  have HA := Lib.hid (ha.below hb0 (Nat.le_refl _))
  have HR := Lib.hid (heap_alloc_new w (.cells #[.string yt, .string yp, .int .u8 yq, .bool yr] 33))
  have HB := Lib.hid hb0
  clear ha hbb hb0
  go_enter Tryd.func20, Tryd.ntmps20
  go_wp2_with fail
  generalize w.alloc (.cells #[.string yt, .string yp, .int .u8 yq, .bool yr] 33) = W at *
  obtain ⟨j0, j1, j2, j3⟩ := cells4 HR.out
  go_loopw [5] (fun i wr => ∃ k : Nat, i = .int .i64 k ∧ k ≤ l.length ∧ (∃ n, wr = W.drewN n) ∧ decide ((⟨yt, yp, yq, yr⟩ : Msg) ∈ l.drop k) = bb) (fun i _ => (l.length - intOf i).toNat)
  case atStart => exact ⟨0, rfl, by omega, ⟨0, rfl⟩, by simpa using HBB.out⟩
  case round =>
    obtain ⟨k, rfl, hk, ⟨n, rfl⟩, htk⟩ := hrel
    have HTK := Lib.hid htk
    clear htk
    by_cases hlt : k < l.length
    · obtain ⟨b1, o1, rfl, k0, k1, k2, k3⟩ := msgs_row HA.out (k := k) (m := l[k]) (by simp [hlt])
      have h1 := List.drop_eq_getElem_cons hlt
      have HE : Hid (l[k] ≠ ⟨yt, yp, yq, yr⟩ → decide ((⟨yt, yp, yq, yr⟩ : Msg) ∈ l.drop (k + 1)) = bb) := Lib.hid (fun e => by
        rw [← HTK.out, h1]; congr 1; rw [List.mem_cons]; simp only [eq_iff_iff]; exact ⟨.inr, fun h => h.elim (fun h => absurd h.symm e) id⟩)
      have HN : Hid (l[k] = ⟨yt, yp, yq, yr⟩ → true = bb) := Lib.hid (fun e => by rw [← HTK.out, h1, e]; simp)
      clear h1
      generalize l[k] = x at *
      obtain ⟨xt, xp, xq, xr⟩ := x
      have hk0 : (0 : Int) ≤ k := by omega
      have hkl : (k : Int) < l.length := by omega
      simp only at k0 k1 k2 k3
      obtain ⟨b, hb⟩ : ∃ b, decide ((⟨xt, xp, xq, xr⟩ : Msg) = ⟨yt, yp, yq, yr⟩) = b := ⟨_, rfl⟩
      have hcmp := fun w => msg_eql b w xt xp yt yp xq yq xr yr hb
      cases b with
      | true =>
        have HN' := Lib.hid (HN.out (of_decide_eq_true hb))
        clear HE HN hb
        go_wp2_with fail
        go_quiet (fail)
        go_wp2_with fail
        go_ret
        exact ⟨ret_bool HN'.out, below_drewN (below_drewN HB.out n) _⟩
      | false =>
        have HE' := Lib.hid (HE.out (of_decide_eq_false hb))
        clear HE HN hb
        go_wp2_with fail
        go_quiet (fail)
        go_wp2_with fail
        go_roundw
        case rel => exact ⟨k + 1, by go_num, by omega, ⟨n + _, rfl⟩, HE'.out⟩
        case measure => simp [intOf]; omega
    · have hkl : ¬ (k : Int) < l.length := by omega
      have HBT : Hid (false = bb) := Lib.hid (by rw [← HTK.out, List.drop_eq_nil_of_le (by omega)]; simp)
      go_wp2_with fail
      go_ret
      exact ⟨ret_bool HBT.out, below_drewN HB.out n⟩

def bigM (m : Msg) : Bool := decide (300 < m.t.size) || decide (300 < m.p.size)
def greatB (l : List Msg) : Bool := l.any bigM || decide (60 < l.length)
set_option maxRecDepth 100000 in
set_option maxHeartbeats 2000000 in
theorem great_any (a : Option Addr) (c : Nat) (l : List Msg) (w : World) (ha : Row w a (msgs l)) (hl : l.length ≤ maxLen) :
    Calls Tryd.prog 9 #[.slice a l.length c] w fun e w' => e = .returned (.bool (greatB l)) ∧ w' = w := by
  have HA := Lib.hid ha
  clear ha
  have hl2 : (l.length : Int) ≤ 9223372036854775807 := by unfold maxLen at hl; omega
  clear hl
  go_enter Tryd.func9, Tryd.ntmps9
  go_wp2_with fail
  go_loopw [3] (fun i wr => ∃ k : Nat, i = .int .i64 k ∧ k ≤ l.length ∧ wr = w ∧ l.any bigM = (l.drop k).any bigM) (fun i _ => (l.length - intOf i).toNat)
  case atStart => exact ⟨0, rfl, by omega, rfl, by simp⟩
  case round =>
    obtain ⟨k, rfl, hk, rfl, htk⟩ := hrel
    have HTK := Lib.hid htk
    clear htk
    by_cases hlt : k < l.length
    · obtain ⟨b1, o1, rfl, k0, k1, k2, k3⟩ := msgs_row HA.out (k := k) (m := l[k]) (by simp [hlt])
      have h1 := List.drop_eq_getElem_cons hlt
      have HE : Hid (bigM l[k] = false → l.any bigM = (l.drop (k + 1)).any bigM) := Lib.hid (fun e => by rw [HTK.out, h1, List.any_cons, e]; rfl)
      have HN : Hid (bigM l[k] = true → true = greatB l) := Lib.hid (fun e => by unfold greatB; rw [HTK.out, h1, List.any_cons, e]; rfl)
      clear h1
      generalize l[k] = x at *
      obtain ⟨xt, xp, xq, xr⟩ := x
      have hk0 : (0 : Int) ≤ k := by omega
      have hkl : (k : Int) < l.length := by omega
      simp only at k0 k1 k2 k3
      by_cases c1 : (300 : Int) < xt.size
      · have HN' := Lib.hid (HN.out (by unfold bigM; simp; omega))
        clear HE HN
        go_wp2_with fail
        go_ret
        exact ⟨ret_bool HN'.out, rfl⟩
      · by_cases c2 : (300 : Int) < xp.size
        · have HN' := Lib.hid (HN.out (by unfold bigM; simp; omega))
          clear HE HN
          go_wp2_with fail
          go_ret
          exact ⟨ret_bool HN'.out, rfl⟩
        · have HE' := Lib.hid (HE.out (by unfold bigM; simp; omega))
          clear HE HN
          go_wp2_with fail
          go_roundw
          case rel => exact ⟨k + 1, by go_num, by omega, trivial, HE'.out⟩
          case measure => simp [intOf]; omega
    · have hkl : ¬ (k : Int) < l.length := by omega
      have HBT : Hid (decide (60 < (l.length : Int)) = greatB l) := Lib.hid (by
        unfold greatB; rw [HTK.out, List.drop_eq_nil_of_le (by omega), Bool.eq_iff_iff]; simp; omega)
      go_wp2_with fail
      go_ret
      exact ⟨ret_bool HBT.out, rfl⟩
end Go.Proofs.YtagjlmpmbflmhaaDoor
