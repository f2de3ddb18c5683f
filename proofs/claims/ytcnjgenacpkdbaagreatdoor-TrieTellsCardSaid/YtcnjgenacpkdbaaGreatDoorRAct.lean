/- The trie's laws: acts, hints compared, too great acts. -/
import Derived.Test.YtcnjgenacpkdbaaGreatDoorRSame
namespace Go.Proofs.YtcnjgenacpkdbaaGreatDoor
open Go Go.RowKit

structure Act where
  d : Int
  f : ByteArray
  c : ByteArray
  m : ByteArray
def Act.cells (x : Act) : List Value := [.int .u8 x.d, .string x.f, .string x.c, .string x.m]
def actsV (l : List Act) : List Value := l.flatMap Act.cells
theorem acts_at (l : List Act) : ∀ (k : Nat) (x : Act), l[k]? = some x →
    (actsV l)[k * 4]? = some (.int .u8 x.d) ∧ (actsV l)[k * 4 + 1]? = some (.string x.f) ∧ (actsV l)[k * 4 + 2]? = some (.string x.c) ∧ (actsV l)[k * 4 + 3]? = some (.string x.m) := by
  induction l with
  | nil => intro k x h; simp at h
  | cons y l ih =>
    intro k x h
    cases k with
    | zero =>
      simp at h
      subst h
      simp [actsV, Act.cells]
    | succ k =>
      have h1 := ih k x (by simpa using h)
      have e : actsV (y :: l) = [.int .u8 y.d, .string y.f, .string y.c, .string y.m] ++ actsV l := rfl
      have e4 : ∀ j, (actsV (y :: l))[(k + 1) * 4 + j]? = (actsV l)[k * 4 + j]? := fun j => by
        rw [e, show (k + 1) * 4 + j = k * 4 + j + 4 by omega]; simp
      have e0 := e4 0
      simp only [Nat.add_zero] at e0
      rw [e0, e4, e4, e4]
      exact h1
theorem acts_row {w : World} {a : Option Addr} {l : List Act} (h : Row w a (actsV l)) {k : Nat} (hk : k < l.length) :
    ∃ b off, a = some ⟨b, off, none⟩ ∧ w.cell? ⟨b, off + k * 4, none⟩ = some (.int .u8 l[k].d) ∧ w.cell? ⟨b, off + k * 4 + 1, none⟩ = some (.string l[k].f) ∧ w.cell? ⟨b, off + k * 4 + 2, none⟩ = some (.string l[k].c) ∧ w.cell? ⟨b, off + k * 4 + 3, none⟩ = some (.string l[k].m) := by
  obtain ⟨m0, m1, m2, m3⟩ := acts_at l k l[k] (by simp [hk])
  rcases h with h | ⟨b, off, ha, hc⟩
  · rw [h] at m0; simp at m0
  · exact ⟨b, off, ha, hc _ _ m0, by rw [Nat.add_assoc]; exact hc _ _ m1, by rw [Nat.add_assoc]; exact hc _ _ m2, by rw [Nat.add_assoc]; exact hc _ _ m3⟩
theorem ba_ext {a b : ByteArray} (h : a.data.toList = b.data.toList) : a = b := ByteArray.ext (Array.toList_inj.1 h)
theorem ba_toList {a b : ByteArray} : a.toList = b.toList ↔ a = b := by
  rw [Lib.toList_data, Lib.toList_data]
  exact ⟨ba_ext, fun h => by rw [h]⟩
theorem mk_inj {a b : Str} : (⟨a.toArray⟩ : ByteArray) = ⟨b.toArray⟩ ↔ a = b := by
  constructor
  · intro h
    have := congrArg (fun x : ByteArray => x.data.toList) h
    simpa using this
  · rintro rfl; rfl
theorem hint_neq (b : Bool) (w : World) (f c f' c' : Str) (h : decide (((f, c) : Hint) = (f', c')) = b) :
    (binOp .neq 39 (.agg #[.string ⟨f.toArray⟩, .string ⟨c.toArray⟩]) (.agg #[.string ⟨f'.toArray⟩, .string ⟨c'.toArray⟩])).run Tryz.prog w = .ok (.bool (!b)) w := by
  have hst : Tryz.prog.stoodInHeld 39 = false := by kernel_rfl
  have hgd : Tryz.prog.eqGuardType Tryz.prog.depth 39 = false := by kernel_rfl
  go_simp
  try simp only [ba_toList, mk_inj]
  subst h
  by_cases h1 : f = f'
  · by_cases h2 : c = c' <;> simp [h1, h2]
  · simp [h1]
theorem hint_eql (b : Bool) (w : World) (f c f' c' : Str) (h : decide (((f, c) : Hint) = (f', c')) = b) :
    (binOp .eql 39 (.agg #[.string ⟨f.toArray⟩, .string ⟨c.toArray⟩]) (.agg #[.string ⟨f'.toArray⟩, .string ⟨c'.toArray⟩])).run Tryz.prog w = .ok (.bool b) w := by
  have hst : Tryz.prog.stoodInHeld 39 = false := by kernel_rfl
  have hgd : Tryz.prog.eqGuardType Tryz.prog.depth 39 = false := by kernel_rfl
  go_simp
  try simp only [ba_toList, mk_inj]
  subst h
  by_cases h1 : f = f'
  · by_cases h2 : c = c' <;> simp [h1, h2]
  · simp [h1]

set_option maxRecDepth 100000 in
set_option maxHeartbeats 2000000 in
theorem sameH_any (bb : Bool) (a b : Option Addr) (c d : Nat) (l m : List Hint) (w : World) (ha : Row w a (hintsV l)) (hb : Row w b (hintsV m)) (hm : m.length ≤ 100000) (hbb : decide (l = m) = bb) :
    Calls Tryz.prog 12 #[.slice a l.length c, .slice b m.length d] w fun e w' => e = .returned (.bool bb) ∧ ∃ n, w' = w.drewN n := by
  have HBB := Lib.hid hbb
  have HA := Lib.hid ha
  have HB := Lib.hid hb
  clear ha hb hbb
  by_cases hlen : l.length = m.length
  · have HL := Lib.hid hlen
    rw [hlen]
    have hl' : m.length ≤ 100000 := hm
    clear hlen
    go_enter Tryz.func12, Tryz.ntmps12
    go_wp2_with fail
    go_loopw [5] (fun i wr => ∃ k : Nat, i = .int .i64 k ∧ k ≤ m.length ∧ (∃ n, wr = w.drewN n) ∧ l.take k = m.take k) (fun i _ => (m.length - intOf i).toNat)
    case atStart => exact ⟨0, rfl, by omega, ⟨0, rfl⟩, by simp⟩
    case round =>
      obtain ⟨k, rfl, hk, ⟨n, rfl⟩, htk⟩ := hrel
      have HTK := Lib.hid htk
      clear htk
      by_cases hlt : k < m.length
      · have hlt' : k < l.length := by rw [HL.out]; exact hlt
        obtain ⟨b1, o1, rfl, k0, k1⟩ := hints_row HA.out hlt'
        obtain ⟨b2, o2, rfl, j0, j1⟩ := hints_row HB.out hlt
        have h1 : l.take (k + 1) = l.take k ++ [l[k]] := List.take_succ_eq_append_getElem hlt'
        have h2 : m.take (k + 1) = m.take k ++ [m[k]] := List.take_succ_eq_append_getElem hlt
        have HE : Hid (l[k] = m[k] → l.take (k + 1) = m.take (k + 1)) := Lib.hid (fun e => by rw [h1, h2, HTK.out, e])
        have HN : Hid (l[k] ≠ m[k] → false = bb) := Lib.hid (fun e => by rw [← HBB.out]; symm; simp only [decide_eq_false_iff_not]; rintro rfl; exact e rfl)
        clear h1 h2
        generalize l[k] = x at *
        generalize m[k] = y at *
        obtain ⟨xf, xc⟩ := x
        obtain ⟨yf, yc⟩ := y
        have hk0 : (0 : Int) ≤ k := by omega
        have hkl : (k : Int) < m.length := by omega
        simp only at k0 k1 j0 j1
        obtain ⟨b, hb⟩ : ∃ b, decide (((xf, xc) : Hint) = (yf, yc)) = b := ⟨_, rfl⟩
        have hcmp := fun w => hint_neq b w xf xc yf yc hb
        cases b with
        | true =>
          have HE' := Lib.hid (HE.out (of_decide_eq_true hb))
          clear HE HN hb
          go_wp2_with fail
          go_quiet (fail)
          go_wp2_with fail
          go_roundw
          case rel => exact ⟨k + 1, by go_num, by omega, ⟨n + _, rfl⟩, HE'.out⟩
          case measure => simp [intOf]; omega
        | false =>
          have HN' := Lib.hid (HN.out (of_decide_eq_false hb))
          clear HE HN hb
          go_wp2_with fail
          go_quiet (fail)
          go_wp2_with fail
          go_ret
          exact ⟨ret_bool HN'.out, _, World.drewN_drewN _ _ _⟩
      · have hkl : ¬ (k : Int) < m.length := by omega
        have HBT : Hid (true = bb) := Lib.hid (by
          have := HTK.out
          have hL := HL.out
          rw [List.take_of_length_le (by omega), List.take_of_length_le (by omega)] at this
          rw [← HBB.out, this]; simp)
        go_wp2_with fail
        go_ret
        exact ⟨ret_bool HBT.out, n, rfl⟩
  · have hne : ((l.length : Int) == m.length) = false := by simp; omega
    have HN : Hid (false = bb) := Lib.hid (by rw [← HBB.out]; symm; simp only [decide_eq_false_iff_not]; rintro rfl; exact hlen rfl)
    clear hlen
    go_enter Tryz.func12, Tryz.ntmps12
    go_wp2_with fail
    go_ret
    exact ⟨ret_bool HN.out, 0, rfl⟩

def bigA (x : Act) : Bool := decide (300 < x.f.size) || (decide (300 < x.c.size) || decide (300 < x.m.size))
def greatB (l : List Act) : Bool := l.any bigA || decide (60 < l.length)
set_option maxRecDepth 100000 in
set_option maxHeartbeats 2000000 in
theorem great_any (a : Option Addr) (c : Nat) (l : List Act) (w : World) (ha : Row w a (actsV l)) (hl : l.length ≤ maxLen) :
    Calls Tryz.prog 8 #[.slice a l.length c] w fun e w' => e = .returned (.bool (greatB l)) ∧ w' = w := by
  have HA := Lib.hid ha
  clear ha
  have hl2 : (l.length : Int) ≤ 9223372036854775807 := by unfold maxLen at hl; omega
  clear hl
  go_enter Tryz.func8, Tryz.ntmps8
  go_wp2_with fail
  go_loopw [3] (fun i wr => ∃ k : Nat, i = .int .i64 k ∧ k ≤ l.length ∧ wr = w ∧ l.any bigA = (l.drop k).any bigA) (fun i _ => (l.length - intOf i).toNat)
  case atStart => exact ⟨0, rfl, by omega, rfl, by simp⟩
  case round =>
    obtain ⟨k, rfl, hk, rfl, htk⟩ := hrel
    have HTK := Lib.hid htk
    clear htk
    by_cases hlt : k < l.length
    · obtain ⟨b1, o1, rfl, k0, k1, k2, k3⟩ := acts_row HA.out hlt
      have h1 := List.drop_eq_getElem_cons hlt
      have HE : Hid (bigA l[k] = false → l.any bigA = (l.drop (k + 1)).any bigA) := Lib.hid (fun e => by rw [HTK.out, h1, List.any_cons, e]; rfl)
      have HN : Hid (bigA l[k] = true → true = greatB l) := Lib.hid (fun e => by unfold greatB; rw [HTK.out, h1, List.any_cons, e]; rfl)
      clear h1
      generalize l[k] = x at *
      obtain ⟨xd, xt, xp, xm⟩ := x
      have hk0 : (0 : Int) ≤ k := by omega
      have hkl : (k : Int) < l.length := by omega
      simp only at k0 k1 k2 k3
      by_cases c1 : (300 : Int) < xt.size
      · have HN' := Lib.hid (HN.out (by unfold bigA; simp; omega))
        clear HE HN
        go_wp2_with fail
        go_ret
        exact ⟨ret_bool HN'.out, rfl⟩
      · by_cases c2 : (300 : Int) < xp.size
        · have HN' := Lib.hid (HN.out (by unfold bigA; simp; omega))
          clear HE HN
          go_wp2_with fail
          go_ret
          exact ⟨ret_bool HN'.out, rfl⟩
        · by_cases c3 : (300 : Int) < xm.size
          · have HN' := Lib.hid (HN.out (by unfold bigA; simp; omega))
            clear HE HN
            go_wp2_with fail
            go_ret
            exact ⟨ret_bool HN'.out, rfl⟩
          · have HE' := Lib.hid (HE.out (by unfold bigA; simp; omega))
            clear HE HN
            go_wp2_with fail
            go_roundw
            case rel => exact ⟨k + 1, by go_num, by omega, trivial, HE'.out⟩
            case measure => simp [intOf]; omega
    · have hkl : ¬ (k : Int) < l.length := by omega
      have HBT : Hid (decide (60 < (l.length : Int)) = greatB l) := Lib.hid (by
        unfold greatB; rw [HTK.out, List.drop_eq_nil_of_le (by omega), Bool.eq_iff_iff]; simp; omega)
      go_wp2_with fail
      go_ret
      exact ⟨ret_bool HBT.out, rfl⟩
end Go.Proofs.YtcnjgenacpkdbaaGreatDoor
