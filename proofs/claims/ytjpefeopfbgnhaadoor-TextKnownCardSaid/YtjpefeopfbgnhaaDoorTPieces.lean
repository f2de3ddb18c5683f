/- TextPieces' walk. -/
import Derived.Test.YtjpefeopfbgnhaaDoorTBack
import Derived.Test.YtjpefeopfbgnhaaDoorTLaw2
namespace Go.Proofs.YtjpefeopfbgnhaaDoor
open Go Go.RowKit

theorem ok_none {s : ByteArray} (h : cnt s.data.toList = none) : okT s = false ∧ cntI s.data.toList = -1 := by
  have h1 := cntI_none h
  exact ⟨by unfold okT validI; rw [h1]; rfl, h1⟩
theorem ok_some {s : ByteArray} {n : Nat} (h : cnt s.data.toList = some n) (hs : s.size ≤ 65535) : okT s = true ∧ cntI s.data.toList = n := by
  have h1 := cntI_some (l := s.data.toList) (by rw [size_len]; omega) h
  exact ⟨by unfold okT validI; rw [h1]; exact decide_eq_true (by omega), h1⟩
theorem ba_take (s : ByteArray) (k : Nat) : (s.extract 0 k).data.toList = s.data.toList.take k := by rw [Lib.extract_data, List.drop_zero, Nat.sub_zero]
theorem ba_drop (s : ByteArray) (k : Nat) : (s.extract k s.size).data.toList = s.data.toList.drop k := by
  rw [Lib.extract_data, List.take_of_length_le (by rw [List.length_drop]; exact Nat.le_refl _)]

set_option maxRecDepth 100000 in
set_option maxHeartbeats 4000000 in
theorem pieces_true (a b : ByteArray) (at_ : Int) (w : World) (hT : Tabs w) (hat0 : 0 ≤ at_) (hat1 : at_ ≤ 65535) :
    Calls Tryd.prog 7 #[.string a, .string b, .int .u16 at_] w fun e w' => e = .returned (.bool true) ∧ Below w.heap.size w w' := by
  have HT := Lib.hid hT
  clear hT
  have hb : Below w.heap.size w w := Below.refl _ _
  by_cases ga : 3000 < a.size
  · skip
    go_enter Tryd.func7, Tryd.ntmps7
    go_wp2_with fail
    refine (great_of true a w (decide_eq_true ga)).mono ?_
    rintro e w' ⟨rfl, rfl⟩
    go_wp2_with fail
    refine (awake_true _ HT.out).mono ?_
    rintro e w1 ⟨rfl, hk⟩
    replace hb := bnext hb (Nat.le_refl _) hk
    clear hk
    go_wp2_with fail
    go_ret
    exact ⟨rfl, hb⟩
  by_cases gb : 3000 < b.size
  · skip
    go_enter Tryd.func7, Tryd.ntmps7
    go_wp2_with fail
    refine (great_of false a w (decide_eq_false ga)).mono ?_
    rintro e w' ⟨rfl, rfl⟩
    go_wp2_with fail
    refine (great_of true b w (decide_eq_true gb)).mono ?_
    rintro e w' ⟨rfl, rfl⟩
    go_wp2_with fail
    refine (awake_true _ HT.out).mono ?_
    rintro e w1 ⟨rfl, hk⟩
    replace hb := bnext hb (Nat.le_refl _) hk
    clear hk
    go_wp2_with fail
    go_ret
    exact ⟨rfl, hb⟩
  obtain ⟨cb, hcb⟩ : ∃ c, cntI b.data.toList = c := ⟨_, rfl⟩
  cases ha : cnt a.data.toList with
  | none =>
    obtain ⟨h1, h2⟩ := ok_none ha
    have H1 := Lib.hid h1
    have H2 := Lib.hid h2
    have H3 := Lib.hid hcb
    have hla : ¬ (a.size : Int) < -1 := by omega
    clear h1 h2 hcb ha
    go_enter Tryd.func7, Tryd.ntmps7
    go_wp2_with fail
    refine (great_of false a w (decide_eq_false ga)).mono ?_
    rintro e w' ⟨rfl, rfl⟩
    go_wp2_with fail
    refine (great_of false b w (decide_eq_false gb)).mono ?_
    rintro e w' ⟨rfl, rfl⟩
    go_wp2_with fail
    refine (count_s (-1) a _ (HT.out.below hb) (by omega) H2.out).mono ?_
    rintro e w1 ⟨rfl, hk⟩
    replace hb := bnext hb (Nat.le_refl _) hk
    clear hk
    go_wp2_with fail
    refine (count_s cb b _ (HT.out.below hb) (by omega) H3.out).mono ?_
    rintro e w2 ⟨rfl, hk⟩
    replace hb := bnext hb (Nat.le_refl _) hk
    clear hk
    go_wp2_with fail
    refine (valid_s false a _ (HT.out.below hb) (by omega) H1.out).mono ?_
    rintro e w3 ⟨rfl, hk⟩
    replace hb := bnext hb (Nat.le_refl _) hk
    clear hk
    go_wp2_with fail
    refine (awake_true _ (HT.out.below hb)).mono ?_
    rintro e w4 ⟨rfl, hk⟩
    replace hb := bnext hb (Nat.le_refl _) hk
    clear hk
    go_wp2_with fail
    go_ret
    exact ⟨rfl, hb⟩
  | some x =>
    obtain ⟨h1, h2⟩ := ok_some ha (by omega)
    have hxl := cnt_le _ _ _ (Nat.le_refl _) ha
    rw [size_len] at hxl
    obtain ⟨k, hk⟩ : ∃ k : Nat, at_ % ((a.size : Int) + 1) = k := Int.eq_ofNat_of_zero_le (Int.emod_nonneg _ (by omega))
    have hkl : k ≤ a.size := by have := Int.emod_lt_of_pos at_ (show (0 : Int) < (a.size : Int) + 1 by omega); omega
    obtain ⟨ap, aq, hap, haq, sap, saq, hcut⟩ : ∃ ap aq, a.extract 0 k = ap ∧ a.extract k a.size = aq ∧ ap.size ≤ 3000 ∧ aq.size ≤ 3000 ∧
        ((∃ x1 x2 : Nat, cntI ap.data.toList = x1 ∧ cntI aq.data.toList = x2 ∧ x1 + x2 = x ∧ (0 < k ∨ x1 = 0)) ∨ (cntI ap.data.toList = -1 ∧ cntI aq.data.toList = -1 ∧ 0 < k)) := by
      have s1 : (a.extract 0 k).size ≤ 3000 := by rw [← size_len, ba_take, List.length_take, size_len]; omega
      have s2 : (a.extract k a.size).size ≤ 3000 := by rw [Lib.tail_size]; omega
      refine ⟨_, _, rfl, rfl, s1, s2, ?_⟩
      rcases cnt_cut _ a.data.toList x k (Nat.le_refl _) (by rw [size_len]; exact hkl) ha with ⟨x1, x2, e1, e2, e3⟩ | ⟨e1, e2, e3, -⟩
      · left
        have f1 := (ok_some (s := a.extract 0 k) (n := x1) (by rw [ba_take]; exact e1) (by omega)).2
        have f2 := (ok_some (s := a.extract k a.size) (n := x2) (by rw [ba_drop]; exact e2) (by omega)).2
        refine ⟨x1, x2, f1, f2, e3, ?_⟩
        rcases Nat.eq_zero_or_pos k with rfl | h
        · right
          rw [List.take_zero, cnt_nil] at e1
          exact (Option.some.inj e1).symm
        · exact .inl h
      · right
        exact ⟨(ok_none (by rw [ba_take]; exact e1)).2, (ok_none (by rw [ba_drop]; exact e2)).2, e3⟩
    obtain ⟨q, hq, hqs, hqc⟩ : ∃ q, a ++ b = q ∧ q.size ≤ 6000 ∧ ∀ y, cnt b.data.toList = some y → cntI q.data.toList = ((x + y : Nat) : Int) := by
      have s1 : (a ++ b).size ≤ 6000 := by rw [ba_size_app]; omega
      exact ⟨_, rfl, s1, fun y hy => (ok_some (s := a ++ b) (by rw [ba_app]; exact cnt_app _ _ _ _ _ (Nat.le_refl _) ha hy) (by omega)).2⟩
    have hmod : at_.tmod ((a.size : Int) + 1) = k := by rw [Int.tmod_eq_emod_of_nonneg hat0, hk]
    have hwk : IntKind.i64.wrap (k : Int) = k := w_i64 _ (by omega) (by omega)
    have hwat : IntKind.i64.wrap at_ = at_ := w_i64 _ (by omega) (by omega)
    have hwa : IntKind.i64.wrap ((a.size : Int) + 1) = (a.size : Int) + 1 := w_i64 _ (by omega) (by omega)
    have hk0 : (0 : Int) ≤ k := by omega
    have hka : (k : Int) ≤ a.size := by omega
    have hdz : ((a.size : Int) + 1 == 0) = false := beq_eq_false_iff_ne.2 (by omega)
    have hdz' : ¬ (a.size : Int) + 1 = 0 := by omega
    have hx0 : (0 : Int) ≤ x := by omega
    have hxa : ¬ (a.size : Int) < x := by omega
    have hx1 : ¬ (x : Int) < -1 := by omega
    have hx2 : ¬ (x : Int) < 0 := by omega
    have hx2d : decide ((x : Int) < 0) = false := decide_eq_false hx2
    have hxad : decide ((a.size : Int) < x) = false := decide_eq_false hxa
    have hx1d : decide ((x : Int) < -1) = false := decide_eq_false hx1
    have hx0d : decide ((0 : Int) ≤ x) = true := decide_eq_true hx0
    have hcat : ¬ 9223372036854775807 < a.size + b.size := by omega
    have H1 := Lib.hid h1
    have H2 := Lib.hid h2
    have H3 := Lib.hid hcb
    have HQ := Lib.hid hqc
    have HC := Lib.hid hcut
    clear h1 h2 hcut hqc
    cases hbc : cnt b.data.toList with
    | none =>
      obtain rfl : cb = -1 := hcb.symm.trans (ok_none hbc).2
      clear hbc hcb HQ ha
      go_enter Tryd.func7, Tryd.ntmps7
      go_wp2_with fail
      refine (great_of false a w (decide_eq_false ga)).mono ?_
      rintro e w' ⟨rfl, rfl⟩
      go_wp2_with fail
      refine (great_of false b w (decide_eq_false gb)).mono ?_
      rintro e w' ⟨rfl, rfl⟩
      go_wp2_with fail
      refine (count_s x a _ (HT.out.below hb) (by omega) H2.out).mono ?_
      rintro e w1 ⟨rfl, hk⟩
      replace hb := bnext hb (Nat.le_refl _) hk
      clear hk
      go_wp2_with fail
      refine (count_s (-1) b _ (HT.out.below hb) (by omega) H3.out).mono ?_
      rintro e w2 ⟨rfl, hk⟩
      replace hb := bnext hb (Nat.le_refl _) hk
      clear hk
      go_wp2_with fail
      refine (valid_s true a _ (HT.out.below hb) (by omega) H1.out).mono ?_
      rintro e w3 ⟨rfl, hk⟩
      replace hb := bnext hb (Nat.le_refl _) hk
      clear hk
      go_wp2_with fail
      rcases HC.out with ⟨x1, x2, e1, e2, hsum, hor⟩ | ⟨e1, e2, hkp⟩
      · have p1 : ¬ (x1 : Int) < 0 := by omega
        have p2 : ¬ (x2 : Int) < 0 := by omega
        have p3 : decide ((x1 : Int) < 0) = false := decide_eq_false p1
        have p4 : decide ((x2 : Int) < 0) = false := decide_eq_false p2
        have p5 : IntKind.i64.wrap ((x1 : Int) + x2) = (x : Int) := by rw [w_i64] <;> omega
        have p6 : (decide ((0 : Int) < k) = true ∧ decide (0 < k) = true ∧ 0 < k) ∨ (decide ((0 : Int) < k) = false ∧ decide (0 < k) = false ∧ x1 = 0 ∧ x2 = x) := by
          rcases Nat.eq_zero_or_pos k with h | h
          · right; exact ⟨decide_eq_false (by omega), decide_eq_false (by omega), by omega, by omega⟩
          · left; exact ⟨decide_eq_true (by omega), decide_eq_true (by omega), h⟩
        have p9 : IntKind.i64.wrap (x2 : Int) = x2 := w_i64 _ (by omega) (by omega)
        clear hsum hor
        rcases p6 with ⟨p6, p7, p8⟩ | ⟨p6, p7, rfl, rfl⟩
        · go_region_held3 (fun _ => True) (trivial) (first
            | (go_at_call 10; refine (count_any _ _ ?_ ?_).mono ?_; exact HT.out.below (by first | exact hb5 | exact hb5.drew | exact below_drewN hb5 _ | exact hb | exact hb.drew | exact below_drewN hb _); omega; rintro e w5 ⟨rfl, hk5⟩; have hb5 := bnext (by first | exact hb5 | exact hb5.drew | exact below_drewN hb5 _ | exact hb | exact hb.drew | exact below_drewN hb _) (Nat.le_refl _) hk5))
          clear hb
          have hb := hb5
          clear hb5
          go_wp2_with fail
          refine (awake_true _ (HT.out.below (by first | exact hb | exact hb.drew | exact below_drewN hb _))).mono ?_
          rintro e w9 ⟨rfl, hk⟩
          replace hb := bnext hb (Nat.le_refl _) hk
          clear hk
          go_wp2_with fail
          go_ret
          exact ⟨rfl, by first | exact hb | exact hb.drew⟩
        · go_region_held3 (fun _ => True) (trivial) (first
            | (go_at_call 10; refine (count_any _ _ ?_ ?_).mono ?_; exact HT.out.below (by first | exact hb5 | exact hb5.drew | exact below_drewN hb5 _ | exact hb | exact hb.drew | exact below_drewN hb _); omega; rintro e w5 ⟨rfl, hk5⟩; have hb5 := bnext (by first | exact hb5 | exact hb5.drew | exact below_drewN hb5 _ | exact hb | exact hb.drew | exact below_drewN hb _) (Nat.le_refl _) hk5))
          clear hb
          have hb := hb5
          clear hb5
          go_wp2_with fail
          refine (awake_true _ (HT.out.below (by first | exact hb | exact hb.drew | exact below_drewN hb _))).mono ?_
          rintro e w9 ⟨rfl, hk⟩
          replace hb := bnext hb (Nat.le_refl _) hk
          clear hk
          go_wp2_with fail
          go_ret
          exact ⟨rfl, by first | exact hb | exact hb.drew⟩
      · have p6 : decide ((0 : Int) < k) = true := decide_eq_true (by omega)
        have p7 : decide (0 < k) = true := decide_eq_true (by omega)
        go_region_held3 (fun _ => True) (trivial) (first
          | (go_at_call 10; refine (count_any _ _ ?_ ?_).mono ?_; exact HT.out.below (by first | exact hb5 | exact hb5.drew | exact below_drewN hb5 _ | exact hb | exact hb.drew | exact below_drewN hb _); omega; rintro e w5 ⟨rfl, hk5⟩; have hb5 := bnext (by first | exact hb5 | exact hb5.drew | exact below_drewN hb5 _ | exact hb | exact hb.drew | exact below_drewN hb _) (Nat.le_refl _) hk5))
        clear hb
        have hb := hb5
        clear hb5
        go_wp2_with fail
        refine (awake_true _ (HT.out.below (by first | exact hb | exact hb.drew | exact below_drewN hb _))).mono ?_
        rintro e w9 ⟨rfl, hk⟩
        replace hb := bnext hb (Nat.le_refl _) hk
        clear hk
        go_wp2_with fail
        go_ret
        exact ⟨rfl, by first | exact hb | exact hb.drew⟩
    | some y =>
      obtain rfl : cb = y := hcb.symm.trans (ok_some hbc (by omega)).2
      have HQ2 := Lib.hid (HQ.out y hbc)
      have hy0 : (0 : Int) ≤ y := by omega
      have hyl := cnt_le _ _ _ (Nat.le_refl _) hbc
      rw [size_len] at hyl
      have hwxy : IntKind.i64.wrap ((x : Int) + y) = ((x + y : Nat) : Int) := by rw [w_i64] <;> omega
      generalize x + y = z at hwxy HQ2
      clear hbc hcb HQ ha
      go_enter Tryd.func7, Tryd.ntmps7
      go_wp2_with fail
      refine (great_of false a w (decide_eq_false ga)).mono ?_
      rintro e w' ⟨rfl, rfl⟩
      go_wp2_with fail
      refine (great_of false b w (decide_eq_false gb)).mono ?_
      rintro e w' ⟨rfl, rfl⟩
      go_wp2_with fail
      refine (count_s x a _ (HT.out.below hb) (by omega) H2.out).mono ?_
      rintro e w1 ⟨rfl, hk⟩
      replace hb := bnext hb (Nat.le_refl _) hk
      clear hk
      go_wp2_with fail
      refine (count_s y b _ (HT.out.below hb) (by omega) H3.out).mono ?_
      rintro e w2 ⟨rfl, hk⟩
      replace hb := bnext hb (Nat.le_refl _) hk
      clear hk
      go_wp2_with fail
      refine (count_s z q _ (HT.out.below hb) (by omega) HQ2.out).mono ?_
      rintro e w3 ⟨rfl, hk⟩
      replace hb := bnext hb (Nat.le_refl _) hk
      clear hk
      go_wp2_with fail
      refine (valid_s true a _ (HT.out.below hb) (by omega) H1.out).mono ?_
      rintro e w4 ⟨rfl, hk⟩
      replace hb := bnext hb (Nat.le_refl _) hk
      clear hk
      go_wp2_with fail
      rcases HC.out with ⟨x1, x2, e1, e2, hsum, hor⟩ | ⟨e1, e2, hkp⟩
      · have p1 : ¬ (x1 : Int) < 0 := by omega
        have p2 : ¬ (x2 : Int) < 0 := by omega
        have p3 : decide ((x1 : Int) < 0) = false := decide_eq_false p1
        have p4 : decide ((x2 : Int) < 0) = false := decide_eq_false p2
        have p5 : IntKind.i64.wrap ((x1 : Int) + x2) = (x : Int) := by rw [w_i64] <;> omega
        have p6 : (decide ((0 : Int) < k) = true ∧ decide (0 < k) = true ∧ 0 < k) ∨ (decide ((0 : Int) < k) = false ∧ decide (0 < k) = false ∧ x1 = 0 ∧ x2 = x) := by
          rcases Nat.eq_zero_or_pos k with h | h
          · right; exact ⟨decide_eq_false (by omega), decide_eq_false (by omega), by omega, by omega⟩
          · left; exact ⟨decide_eq_true (by omega), decide_eq_true (by omega), h⟩
        have p9 : IntKind.i64.wrap (x2 : Int) = x2 := w_i64 _ (by omega) (by omega)
        clear hsum hor
        rcases p6 with ⟨p6, p7, p8⟩ | ⟨p6, p7, rfl, rfl⟩
        · go_region_held3 (fun _ => True) (trivial) (first
            | (go_at_call 10; refine (count_any _ _ ?_ ?_).mono ?_; exact HT.out.below (by first | exact hb5 | exact hb5.drew | exact below_drewN hb5 _ | exact hb | exact hb.drew | exact below_drewN hb _); omega; rintro e w5 ⟨rfl, hk5⟩; have hb5 := bnext (by first | exact hb5 | exact hb5.drew | exact below_drewN hb5 _ | exact hb | exact hb.drew | exact below_drewN hb _) (Nat.le_refl _) hk5))
          clear hb
          have hb := hb5
          clear hb5
          go_wp2_with fail
          refine (awake_true _ (HT.out.below (by first | exact hb | exact hb.drew | exact below_drewN hb _))).mono ?_
          rintro e w9 ⟨rfl, hk⟩
          replace hb := bnext hb (Nat.le_refl _) hk
          clear hk
          go_wp2_with fail
          go_ret
          exact ⟨rfl, by first | exact hb | exact hb.drew⟩
        · go_region_held3 (fun _ => True) (trivial) (first
            | (go_at_call 10; refine (count_any _ _ ?_ ?_).mono ?_; exact HT.out.below (by first | exact hb5 | exact hb5.drew | exact below_drewN hb5 _ | exact hb | exact hb.drew | exact below_drewN hb _); omega; rintro e w5 ⟨rfl, hk5⟩; have hb5 := bnext (by first | exact hb5 | exact hb5.drew | exact below_drewN hb5 _ | exact hb | exact hb.drew | exact below_drewN hb _) (Nat.le_refl _) hk5))
          clear hb
          have hb := hb5
          clear hb5
          go_wp2_with fail
          refine (awake_true _ (HT.out.below (by first | exact hb | exact hb.drew | exact below_drewN hb _))).mono ?_
          rintro e w9 ⟨rfl, hk⟩
          replace hb := bnext hb (Nat.le_refl _) hk
          clear hk
          go_wp2_with fail
          go_ret
          exact ⟨rfl, by first | exact hb | exact hb.drew⟩
      · have p6 : decide ((0 : Int) < k) = true := decide_eq_true (by omega)
        have p7 : decide (0 < k) = true := decide_eq_true (by omega)
        go_region_held3 (fun _ => True) (trivial) (first
          | (go_at_call 10; refine (count_any _ _ ?_ ?_).mono ?_; exact HT.out.below (by first | exact hb5 | exact hb5.drew | exact below_drewN hb5 _ | exact hb | exact hb.drew | exact below_drewN hb _); omega; rintro e w5 ⟨rfl, hk5⟩; have hb5 := bnext (by first | exact hb5 | exact hb5.drew | exact below_drewN hb5 _ | exact hb | exact hb.drew | exact below_drewN hb _) (Nat.le_refl _) hk5))
        clear hb
        have hb := hb5
        clear hb5
        go_wp2_with fail
        refine (awake_true _ (HT.out.below (by first | exact hb | exact hb.drew | exact below_drewN hb _))).mono ?_
        rintro e w9 ⟨rfl, hk⟩
        replace hb := bnext hb (Nat.le_refl _) hk
        clear hk
        go_wp2_with fail
        go_ret
        exact ⟨rfl, by first | exact hb | exact hb.drew⟩
end Go.Proofs.YtjpefeopfbgnhaaDoor
