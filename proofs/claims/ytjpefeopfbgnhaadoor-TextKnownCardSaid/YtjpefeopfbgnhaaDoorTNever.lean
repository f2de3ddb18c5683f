/- TextNever's walk. -/
import Derived.Test.YtjpefeopfbgnhaaDoorTPieces
namespace Go.Proofs.YtjpefeopfbgnhaaDoor
open Go Go.RowKit

/-- a byte put in at k -/
def put1at (l : List UInt8) (k : Nat) (c : UInt8) : List UInt8 := l.take k ++ (c :: l.drop k)
theorem never_bad {l : List UInt8} {k : Nat} {c : UInt8} (hk : k ≤ l.length) (hc : c.toNat = 0 ∨ c.toNat = 192 ∨ c.toNat = 193 ∨ 245 ≤ c.toNat) : cnt (put1at l k c) = none := by
  cases h : cnt (put1at l k c) with
  | none => rfl
  | some n =>
    have hlen : (l.take k).length = k := by rw [List.length_take]; omega
    have hb := cnt_bytes _ _ n k (Nat.le_refl _) (by rw [put1at, List.length_append, hlen, List.length_cons]; omega) h
    rw [put1at, at0_app_right (by omega), hlen, Nat.sub_self] at hb
    rw [show at0 (c :: l.drop k) 0 = c.toNat from rfl] at hb
    omega
theorem cnt_one {c : UInt8} {t : List UInt8} (h0 : 1 ≤ c.toNat) (h1 : c.toNat < 128) : cnt (c :: t) = (cnt t).map (· + 1) := by
  have h := cnt_letter (t := t) h0 h1
  rw [cnt_some (by rw [h]; omega), h]; rfl
theorem never_letter {l : List UInt8} {k x y : Nat} {c : UInt8} (h0 : 1 ≤ c.toNat) (h1 : c.toNat < 128) (hx : cnt (l.take k) = some x) (hy : cnt (l.drop k) = some y) :
    cnt (put1at l k c) = some (x + y + 1) ∧ cnt l = some (x + y) := by
  constructor
  · rw [put1at, cnt_app _ _ _ x (y + 1) (Nat.le_refl _) hx (by rw [cnt_one h0 h1, hy]; rfl), Nat.add_assoc]
  · have := cnt_app _ _ _ x y (Nat.le_refl _) hx hy
    rwa [List.take_append_drop] at this
theorem never_not {l : List UInt8} {k : Nat} {c : UInt8} (hk : k ≤ l.length) (h0 : 1 ≤ c.toNat) (h1 : c.toNat < 128) (h : cnt (l.take k) = none ∨ cnt (l.drop k) = none) : cnt (put1at l k c) = none := by
  cases hn : cnt (put1at l k c) with
  | none => rfl
  | some n =>
    exfalso
    have hlen : (l.take k).length = k := by rw [List.length_take]; omega
    have e1 : (put1at l k c).take k = l.take k := by
      unfold put1at
      rw [List.take_append_of_le_length (by omega), List.take_of_length_le (by omega)]
    have e2 : (put1at l k c).drop k = c :: l.drop k := by
      unfold put1at
      rw [List.drop_append_of_le_length (by omega), List.drop_of_length_le (by omega), List.nil_append]
    rcases cnt_cut _ _ n k (Nat.le_refl _) (by rw [put1at, List.length_append, hlen]; omega) hn with ⟨x, y, hx, hy, -⟩ | ⟨-, -, -, -, h3, -⟩
    · rw [e1] at hx
      rw [e2, cnt_one h0 h1] at hy
      rcases h with h | h
      · rw [h] at hx; cases hx
      · rw [h] at hy; cases hy
    · rw [put1at, at0_app_right (by omega), hlen, Nat.sub_self] at h3
      rw [show at0 (c :: l.drop k) 0 = c.toNat from rfl] at h3
      omega
theorem never_cont {l : List UInt8} {c : UInt8} (h0 : 128 ≤ c.toNat) (h1 : c.toNat < 192) : cnt (put1at l 0 c) = none := by
  unfold put1at
  rw [List.take_zero, List.nil_append]
  exact cnt_none (by simp) (cw_cont ⟨h0, h1⟩)
theorem put1at_len {l : List UInt8} {k : Nat} {c : UInt8} (hk : k ≤ l.length) : (put1at l k c).length = l.length + 1 := by
  rw [put1at, List.length_append, List.length_take, List.length_cons, List.length_drop]; omega

set_option maxRecDepth 100000 in
set_option maxHeartbeats 4000000 in
theorem never_true (s : ByteArray) (at_ c : Int) (w : World) (hT : Tabs w) (hat0 : 0 ≤ at_) (hat1 : at_ ≤ 65535) (hc0 : 0 ≤ c) (hc1 : c ≤ 255) :
    Calls Tryd.prog 8 #[.string s, .int .u16 at_, .int .u8 c] w fun e w' => e = .returned (.bool true) ∧ Below w.heap.size w w' := by
  have HT := Lib.hid hT
  clear hT
  have hb : Below w.heap.size w w := Below.refl _ _
  by_cases ga : 3000 < s.size
  · skip
    go_enter Tryd.func8, Tryd.ntmps8
    go_wp2_with fail
    refine (great_of true s w (decide_eq_true ga)).mono ?_
    rintro e w' ⟨rfl, rfl⟩
    go_wp2_with fail
    refine (awake_true _ HT.out).mono ?_
    rintro e w1 ⟨rfl, hk⟩
    replace hb := bnext hb (Nat.le_refl _) hk
    clear hk
    go_wp2_with fail
    go_ret
    exact ⟨rfl, hb⟩
  obtain ⟨k, hk⟩ : ∃ k : Nat, at_ % ((s.size : Int) + 1) = k := Int.eq_ofNat_of_zero_le (Int.emod_nonneg _ (by omega))
  have hkl : k ≤ s.size := by have := Int.emod_lt_of_pos at_ (show (0 : Int) < (s.size : Int) + 1 by omega); omega
  have hmod : at_.tmod ((s.size : Int) + 1) = k := by rw [Int.tmod_eq_emod_of_nonneg hat0, hk]
  have hwk : IntKind.i64.wrap (k : Int) = k := w_i64 _ (by omega) (by omega)
  have hwat : IntKind.i64.wrap at_ = at_ := w_i64 _ (by omega) (by omega)
  have hwa : IntKind.i64.wrap ((s.size : Int) + 1) = (s.size : Int) + 1 := w_i64 _ (by omega) (by omega)
  have hk0 : (0 : Int) ≤ k := by omega
  have hka : (k : Int) ≤ s.size := by omega
  have hdz : ((s.size : Int) + 1 == 0) = false := beq_eq_false_iff_ne.2 (by omega)
  have hdz' : ¬ (s.size : Int) + 1 = 0 := by omega
  obtain ⟨u, hu, huc⟩ : ∃ u : UInt8, UInt8.ofNat c.toNat = u ∧ (u.toNat : Int) = c := ⟨_, rfl, by simp; omega⟩
  obtain ⟨sp, sq, t, hsp, hsq, ht, ssp, ssq, st, HP, HQ, HTT⟩ : ∃ sp sq t : ByteArray, s.extract 0 k = sp ∧ s.extract k s.size = sq ∧ sp ++ (⟨#[u]⟩ : ByteArray) ++ sq = t ∧ sp.size ≤ 3000 ∧ sq.size ≤ 3000 ∧ t.size ≤ 3001 ∧
      Hid (sp.data.toList = s.data.toList.take k) ∧ Hid (sq.data.toList = s.data.toList.drop k) ∧ Hid (t.data.toList = put1at s.data.toList k u) := by
    have e1 := ba_take s k
    have e2 := ba_drop s k
    have s1 : (s.extract 0 k).size ≤ 3000 := by rw [← size_len, ba_take, List.length_take, size_len]; omega
    have s2 : (s.extract k s.size).size ≤ 3000 := by rw [Lib.tail_size]; omega
    have e3 : (s.extract 0 k ++ (⟨#[u]⟩ : ByteArray) ++ s.extract k s.size).data.toList = put1at s.data.toList k u := by
      rw [ba_app, ba_app, e1, e2, put1at, List.append_assoc]; rfl
    refine ⟨_, _, _, rfl, rfl, rfl, s1, s2, ?_, e1, e2, e3⟩
    rw [← size_len, e3, put1at_len (by rw [size_len]; exact hkl), size_len]; omega
  have hconv : ∀ (w : World) (x : Int), (convert 26 9 (.slice (some ⟨w.heap.size, 0, none⟩) 1 1)).run Tryd.prog (w.alloc (.cells #[.int .u8 x] 5)).drew = .ok (.string ⟨#[UInt8.ofNat x.toNat]⟩) (w.alloc (.cells #[.int .u8 x] 5)).drew := fun w x => str_new1 w.drew x
  have hcat1 : ¬ 9223372036854775807 < sp.size + 1 := by omega
  have hcat2 : ¬ 9223372036854775807 < sp.size + 1 + sq.size := by omega
  go_enter Tryd.func8, Tryd.ntmps8
  go_wp2_with fail
  refine (great_of false s w (decide_eq_false ga)).mono ?_
  rintro e w' ⟨rfl, rfl⟩
  go_wp2_with fail
  go_region_with ((fail))
  all_goals
    clear hconv hcat1 hcat2 hmod hk hwk hwat hwa hdz hdz'
    replace hb := (hb.alloc hb.size (.cells #[.int .u8 c] 5)).drew
    generalize (w.alloc (.cells #[.int .u8 c] 5)).drew = W1 at *
    have hkl2 : k ≤ s.data.toList.length := by rw [size_len]; exact hkl
    by_cases hbad : c = 0 ∨ c = 192 ∨ c = 193 ∨ 245 ≤ c
    · have hn := ok_none (s := t) (by rw [HTT.out]; exact never_bad hkl2 (by omega))
      have N1 := Lib.hid hn.1
      have N2 := Lib.hid hn.2
      have hq : c = 0 ∨ c = 192 ∨ c = 193 ∨ (245 ≤ c ∧ (c == 0) = false ∧ (c == 192) = false ∧ (c == 193) = false) := by
        rcases hbad with h | h | h | h
        · exact .inl h
        · exact .inr (.inl h)
        · exact .inr (.inr (.inl h))
        · exact .inr (.inr (.inr ⟨h, beq_eq_false_iff_ne.2 (by omega), beq_eq_false_iff_ne.2 (by omega), beq_eq_false_iff_ne.2 (by omega)⟩))
      clear hn hbad
      rcases hq with rfl | rfl | rfl | ⟨g1, g2, g3, g4⟩
      all_goals
        go_wp2_with fail
        refine (valid_s false t _ (HT.out.below hb) (by omega) N1.out).mono ?_
        rintro e w2 ⟨rfl, hk⟩
        replace hb := bnext hb (Nat.le_refl _) hk
        clear hk
        go_wp2_with fail
        refine (count_s (-1) t _ (HT.out.below hb) (by omega) N2.out).mono ?_
        rintro e w3 ⟨rfl, hk⟩
        replace hb := bnext hb (Nat.le_refl _) hk
        clear hk
        go_wp2_with fail
        refine (awake_true _ (HT.out.below hb)).mono ?_
        rintro e w4 ⟨rfl, hk⟩
        replace hb := bnext hb (Nat.le_refl _) hk
        clear hk
        go_wp2_with fail
        go_ret
        exact ⟨rfl, hb⟩
    · have g2 : (c == 0) = false := beq_eq_false_iff_ne.2 (by omega)
      have g3 : (c == 192) = false := beq_eq_false_iff_ne.2 (by omega)
      have g4 : (c == 193) = false := beq_eq_false_iff_ne.2 (by omega)
      have g5 : ¬ 245 ≤ c := by omega
      by_cases hlet : c < 128
      · have hl0 : 1 ≤ u.toNat := by omega
        have hl1 : u.toNat < 128 := by omega
        have g6 : ¬ 128 ≤ c := by omega
        cases hx : cnt sp.data.toList with
        | none =>
          have V1 := Lib.hid (ok_none hx).1
          have N1 := Lib.hid (ok_none (s := t) (by rw [HTT.out]; exact never_not hkl2 hl0 hl1 (.inl (by rw [← HP.out]; exact hx)))).1
          clear hx hbad
          go_wp2_with fail
          refine (valid_s false sp _ (HT.out.below hb) (by omega) V1.out).mono ?_
          rintro e w2 ⟨rfl, hk⟩
          replace hb := bnext hb (Nat.le_refl _) hk
          clear hk
          go_wp2_with fail
          refine (valid_s false t _ (HT.out.below hb) (by omega) N1.out).mono ?_
          rintro e w3 ⟨rfl, hk⟩
          replace hb := bnext hb (Nat.le_refl _) hk
          clear hk
          go_wp2_with fail
          refine (awake_true _ (HT.out.below hb)).mono ?_
          rintro e w4 ⟨rfl, hk⟩
          replace hb := bnext hb (Nat.le_refl _) hk
          clear hk
          go_wp2_with fail
          go_ret
          exact ⟨rfl, hb⟩
        | some x =>
          have V1 := Lib.hid (ok_some hx (by omega)).1
          cases hy : cnt sq.data.toList with
          | none =>
            have V2 := Lib.hid (ok_none hy).1
            have N1 := Lib.hid (ok_none (s := t) (by rw [HTT.out]; exact never_not hkl2 hl0 hl1 (.inr (by rw [← HQ.out]; exact hy)))).1
            clear hx hy hbad
            go_wp2_with fail
            refine (valid_s true sp _ (HT.out.below hb) (by omega) V1.out).mono ?_
            rintro e w2 ⟨rfl, hk⟩
            replace hb := bnext hb (Nat.le_refl _) hk
            clear hk
            go_wp2_with fail
            refine (valid_s false sq _ (HT.out.below hb) (by omega) V2.out).mono ?_
            rintro e w3 ⟨rfl, hk⟩
            replace hb := bnext hb (Nat.le_refl _) hk
            clear hk
            go_wp2_with fail
            refine (valid_s false t _ (HT.out.below hb) (by omega) N1.out).mono ?_
            rintro e w4 ⟨rfl, hk⟩
            replace hb := bnext hb (Nat.le_refl _) hk
            clear hk
            go_wp2_with fail
            refine (awake_true _ (HT.out.below hb)).mono ?_
            rintro e w5 ⟨rfl, hk⟩
            replace hb := bnext hb (Nat.le_refl _) hk
            clear hk
            go_wp2_with fail
            go_ret
            exact ⟨rfl, hb⟩
          | some y =>
            have V2 := Lib.hid (ok_some hy (by omega)).1
            have hlet2 := never_letter (l := s.data.toList) (k := k) hl0 hl1 (by rw [← HP.out]; exact hx) (by rw [← HQ.out]; exact hy)
            have N1 := Lib.hid (ok_some (s := t) (n := x + y + 1) (by rw [HTT.out]; exact hlet2.1) (by omega)).2
            have N2 := Lib.hid (ok_some (s := s) (n := x + y) hlet2.2 (by omega)).2
            have hxy := cnt_le _ _ _ (Nat.le_refl _) hlet2.2
            rw [size_len] at hxy
            obtain ⟨m, hm⟩ : ∃ m : Int, ((x + y + 1 : Nat) : Int) = m := ⟨_, rfl⟩
            obtain ⟨z, hz⟩ : ∃ z : Int, ((x + y : Nat) : Int) = z := ⟨_, rfl⟩
            rw [hm] at N1
            rw [hz] at N2
            have hwz : IntKind.i64.wrap (z + 1) = m := by rw [w_i64] <;> omega
            clear hx hy hlet2 hbad hm hz hxy
            go_wp2_with fail
            refine (valid_s true sp _ (HT.out.below hb) (by omega) V1.out).mono ?_
            rintro e w2 ⟨rfl, hk⟩
            replace hb := bnext hb (Nat.le_refl _) hk
            clear hk
            go_wp2_with fail
            refine (valid_s true sq _ (HT.out.below hb) (by omega) V2.out).mono ?_
            rintro e w3 ⟨rfl, hk⟩
            replace hb := bnext hb (Nat.le_refl _) hk
            clear hk
            go_wp2_with fail
            refine (count_s m t _ (HT.out.below hb) (by omega) N1.out).mono ?_
            rintro e w4 ⟨rfl, hk⟩
            replace hb := bnext hb (Nat.le_refl _) hk
            clear hk
            go_wp2_with fail
            refine (count_s z s _ (HT.out.below hb) (by omega) N2.out).mono ?_
            rintro e w5 ⟨rfl, hk⟩
            replace hb := bnext hb (Nat.le_refl _) hk
            clear hk
            go_wp2_with fail
            refine (awake_true _ (HT.out.below hb)).mono ?_
            rintro e w6 ⟨rfl, hk⟩
            replace hb := bnext hb (Nat.le_refl _) hk
            clear hk
            go_wp2_with fail
            go_ret
            exact ⟨rfl, hb⟩
      · have g6 : 128 ≤ c := by omega
        have g6' : decide (128 ≤ c) = true := decide_eq_true g6
        by_cases hco : 191 < c
        · have g7 : decide (191 < c) = true := decide_eq_true hco
          clear hbad
          go_wp2_with fail
          refine (awake_true _ (HT.out.below hb)).mono ?_
          rintro e w6 ⟨rfl, hk⟩
          replace hb := bnext hb (Nat.le_refl _) hk
          clear hk
          go_wp2_with fail
          go_ret
          exact ⟨rfl, hb⟩
        · have g7 : decide (191 < c) = false := decide_eq_false hco
          rcases Nat.eq_zero_or_pos k with rfl | hkp
          · have N1 := Lib.hid (ok_none (s := t) (by rw [HTT.out]; exact never_cont (by omega) (by omega))).1
            have g8 : decide ((0 : Int) < ((0 : Nat) : Int)) = false := rfl
            clear hbad
            go_wp2_with fail
            refine (valid_s false t _ (HT.out.below hb) (by omega) N1.out).mono ?_
            rintro e w3 ⟨rfl, hk⟩
            replace hb := bnext hb (Nat.le_refl _) hk
            clear hk
            go_wp2_with fail
            refine (awake_true _ (HT.out.below hb)).mono ?_
            rintro e w6 ⟨rfl, hk⟩
            replace hb := bnext hb (Nat.le_refl _) hk
            clear hk
            go_wp2_with fail
            go_ret
            exact ⟨rfl, hb⟩
          · have g8 : decide ((0 : Int) < k) = true := decide_eq_true (by omega)
            have g9 : decide (0 < k) = true := decide_eq_true hkp
            clear hbad
            go_wp2_with fail
            refine (awake_true _ (HT.out.below hb)).mono ?_
            rintro e w6 ⟨rfl, hk⟩
            replace hb := bnext hb (Nat.le_refl _) hk
            clear hk
            go_wp2_with fail
            go_ret
            exact ⟨rfl, hb⟩
end Go.Proofs.YtjpefeopfbgnhaaDoor
