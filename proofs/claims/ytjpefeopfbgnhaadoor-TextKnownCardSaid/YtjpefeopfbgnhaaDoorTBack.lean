/- TextBack's walk. -/
import Derived.Test.YtjpefeopfbgnhaaDoorTFieldsW
import Derived.Test.YtjpefeopfbgnhaaDoorTLaw1
namespace Go.Proofs.YtjpefeopfbgnhaaDoor
open Go Go.RowKit

theorem ba_app (a b : ByteArray) : (a ++ b).data.toList = a.data.toList ++ b.data.toList := by
  cases a; cases b
  show ((⟨_⟩ : ByteArray) ++ ⟨_⟩).data.toList = _
  simp
theorem ba_size_app (a b : ByteArray) : (a ++ b).size = a.size + b.size := by
  rw [← size_len, ba_app, List.length_append]; rfl

set_option maxRecDepth 100000 in
set_option maxHeartbeats 4000000 in
theorem back_true (a b r : ByteArray) (at_ : Int) (w : World) (hT : Tabs w) (hat0 : 0 ≤ at_) (hat1 : at_ ≤ 65535) :
    Calls Tryd.prog 6 #[.string a, .string b, .string r, .int .u16 at_] w fun e w' => e = .returned (.bool true) ∧ Below w.heap.size w w' := by
  have HT := Lib.hid hT
  clear hT
  have hb : Below w.heap.size w w := Below.refl _ _
  by_cases ga : 3000 < a.size
  · skip
    go_enter Tryd.func6, Tryd.ntmps6
    go_wp2_with fail
    refine (great_of true a w (decide_eq_true ga)).mono ?_
    rintro e w' ⟨rfl, rfl⟩
    go_wp2_with fail
    refine (awake_true _ HT.out).mono ?_
    rintro e w1 ⟨rfl, hk⟩
    replace hb := bnext hb (Nat.le_refl _) hk
    clear hk
    go_wp2_with fail
    go_ret
    exact ⟨rfl, hb⟩
  by_cases gb : 3000 < b.size
  · skip
    go_enter Tryd.func6, Tryd.ntmps6
    go_wp2_with fail
    refine (great_of false a w (decide_eq_false ga)).mono ?_
    rintro e w' ⟨rfl, rfl⟩
    go_wp2_with fail
    refine (great_of true b w (decide_eq_true gb)).mono ?_
    rintro e w' ⟨rfl, rfl⟩
    go_wp2_with fail
    refine (awake_true _ HT.out).mono ?_
    rintro e w1 ⟨rfl, hk⟩
    replace hb := bnext hb (Nat.le_refl _) hk
    clear hk
    go_wp2_with fail
    go_ret
    exact ⟨rfl, hb⟩
  by_cases gr : 3000 < r.size
  · skip
    go_enter Tryd.func6, Tryd.ntmps6
    go_wp2_with fail
    refine (great_of false a w (decide_eq_false ga)).mono ?_
    rintro e w' ⟨rfl, rfl⟩
    go_wp2_with fail
    refine (great_of false b w (decide_eq_false gb)).mono ?_
    rintro e w' ⟨rfl, rfl⟩
    go_wp2_with fail
    refine (great_of true r w (decide_eq_true gr)).mono ?_
    rintro e w' ⟨rfl, rfl⟩
    go_wp2_with fail
    refine (awake_true _ HT.out).mono ?_
    rintro e w1 ⟨rfl, hk⟩
    replace hb := bnext hb (Nat.le_refl _) hk
    clear hk
    go_wp2_with fail
    go_ret
    exact ⟨rfl, hb⟩
  obtain ⟨d, dr, n, hdr, hn, hna, hnb, H1, H2, H3, HZ⟩ : ∃ (d dr : ByteArray) (n : Nat), d ++ r = dr ∧ d.size = n ∧ n ≤ 2 + a.size ∧ 2 + a.size ≤ n ∧
      Hid ((⟨(putM a.data.toList).toArray⟩ : ByteArray) = d ∧ putE a.data.toList = 0) ∧
      Hid ((⟨(getM dr.data.toList).toArray⟩ : ByteArray) = a ∧ getU dr.data.toList = (n : Int) ∧ getE dr.data.toList = 0) ∧
      Hid (∀ k, k < n → (⟨(getM (d.extract 0 k).data.toList).toArray⟩ : ByteArray) = ⟨#[]⟩ ∧ getU (d.extract 0 k).data.toList = 0 ∧ getE (d.extract 0 k).data.toList = 2 ∧ (d.extract 0 k).size ≤ 9223372036854775807) ∧
      Hid (d.data.toList = putM a.data.toList ∧ dr.size ≤ 9223372036854775807) := by
    have la : a.data.toList.length ≤ 65535 := by rw [size_len]; omega
    have hds : (⟨(putM a.data.toList).toArray⟩ : ByteArray).size = 2 + a.size := put_len la
    have hg := get_put la r.data.toList
    refine ⟨_, _, _, rfl, rfl, Nat.le_of_eq hds, Nat.le_of_eq hds.symm, ⟨rfl, if_pos la⟩, ?_, ?_, rfl, ?_⟩
    · unfold Hid
      rw [ba_app]
      simp only [hg.2.1, hg.2.2.1, hg.2.2.2]
      exact ⟨by first | trivial | exact str_bytes a, by rw [hds, size_len]; omega, trivial⟩
    · intro k hk
      rw [hds] at hk
      have hc := get_cut la (k := k) hk
      rw [Lib.extract_data, List.drop_zero, Nat.sub_zero]
      simp only [hc.1, hc.2.1, hc.2.2]
      refine ⟨trivial, trivial, trivial, ?_⟩
      rw [← size_len, Lib.extract_data, List.length_take]; omega
    · rw [ba_size_app, hds]; omega
  obtain ⟨k, hk⟩ : ∃ k : Nat, at_ % (n : Int) = k := Int.eq_ofNat_of_zero_le (Int.emod_nonneg _ (by omega))
  have hkl : k < n := by have := Int.emod_lt_of_pos at_ (show (0 : Int) < n by omega); omega
  obtain ⟨dk, hdk⟩ : ∃ x, d.extract 0 k = x := ⟨_, rfl⟩
  have H4 := Lib.hid (H3.out k hkl)
  rw [hdk] at H4
  clear H3
  have hmod : at_.tmod (n : Int) = k := by rw [Int.tmod_eq_emod_of_nonneg hat0, hk]
  have hwk : IntKind.i64.wrap (k : Int) = k := w_i64 _ (by omega) (by omega)
  have hwat : IntKind.i64.wrap at_ = at_ := w_i64 _ (by omega) (by omega)
  have hk0 : (0 : Int) ≤ k := by omega
  have hkd : (k : Int) ≤ n := by omega
  have hdz : ((n : Int) == 0) = false := beq_eq_false_iff_ne.2 (by omega)
  have hdz' : ¬ (n : Int) = 0 := by omega
  have hdz2 : ¬ n = 0 := by omega
  have hwd : IntKind.i64.wrap (2 + (a.size : Int)) = (n : Int) := by rw [w_i64] <;> omega
  have hcat : ¬ 9223372036854775807 < n + r.size := by omega
  by_cases hv : okT a = true ∧ okT b = true
  · obtain ⟨s, q, qb, m, z, hq, hm, hqz, hqb, hma, hmb, hza, hzb, P1, P2, P3, PZ⟩ : ∃ (s q qb : ByteArray) (m z : Nat), s ++ r = q ∧ s.size = m ∧ q.size = z ∧ q.extract n z = qb ∧ m ≤ n + (2 + b.size) ∧ n + (2 + b.size) ≤ m ∧ z ≤ m + r.size ∧ m + r.size ≤ z ∧
        Hid ((⟨(putsM [a, b]).toArray⟩ : ByteArray) = s ∧ putsE [a, b] = 0) ∧
        Hid ((⟨(txM q.data.toList).toArray⟩ : ByteArray) = a ∧ txU q.data.toList = (n : Int) ∧ txE q.data.toList = 0) ∧
        Hid ((⟨(txM qb.data.toList).toArray⟩ : ByteArray) = b ∧ txU qb.data.toList = 2 + (b.size : Int) ∧ txE qb.data.toList = 0) ∧
        Hid (q.size ≤ 9223372036854775807 ∧ qb.size ≤ 9223372036854775807) := by
      obtain ⟨va, vb⟩ := hv
      have la : a.data.toList.length ≤ 65535 := by rw [size_len]; omega
      have lb : b.data.toList.length ≤ 65535 := by rw [size_len]; omega
      have hall : ([a, b].all okT) = true := by simp [va, vb]
      have hsl : putsM [a, b] = putM a.data.toList ++ putM b.data.toList := by
        rw [putsM, if_pos hall]; simp [fieldOf]
      have hss : (⟨(putsM [a, b]).toArray⟩ : ByteArray).size = n + (2 + b.size) := by
        show (putsM [a, b]).length = _
        rw [hsl, List.length_append, put_len la, put_len lb, size_len, size_len]; omega
      have ht := tx_put la va (putM b.data.toList ++ r.data.toList)
      have ht2 := tx_put lb vb r.data.toList
      have hqs := ba_size_app ⟨(putsM [a, b]).toArray⟩ r
      have hqd : ((⟨(putsM [a, b]).toArray⟩ : ByteArray) ++ r).data.toList = putM a.data.toList ++ (putM b.data.toList ++ r.data.toList) := by
        rw [ba_app, ← List.append_assoc, ← hsl]
      refine ⟨_, _, _, _, _, rfl, rfl, rfl, rfl, Nat.le_of_eq hss, Nat.le_of_eq hss.symm, Nat.le_of_eq hqs, Nat.le_of_eq hqs.symm, ⟨rfl, by rw [putsE, if_pos hall]⟩, ?_, ?_, ?_, ?_⟩
      · unfold Hid
        rw [hqd]
        simp only [ht.1, ht.2.1, ht.2.2]
        exact ⟨by first | trivial | exact str_bytes a, by rw [size_len]; omega, trivial⟩
      · unfold Hid
        have hext : (((⟨(putsM [a, b]).toArray⟩ : ByteArray) ++ r).extract n ((⟨(putsM [a, b]).toArray⟩ : ByteArray) ++ r).size).data.toList = putM b.data.toList ++ r.data.toList := by
          rw [Lib.extract_data, List.take_of_length_le (by rw [List.length_drop]; exact Nat.le_refl _), hqd, List.drop_left']
          rw [put_len la, size_len]; omega
        rw [hext]
        simp only [ht2.1, ht2.2.1, ht2.2.2]
        exact ⟨by first | trivial | exact str_bytes b, by rw [size_len], trivial⟩
      · rw [hqs, hss]; omega
      · rw [Lib.tail_size, hqs, hss]; omega
    obtain ⟨e, he⟩ : ∃ e : Int, (2 : Int) + b.size = e := ⟨_, rfl⟩
    rw [he] at P3
    have hwe : IntKind.i64.wrap (2 + (b.size : Int)) = e := by rw [w_i64] <;> omega
    have hwde : IntKind.i64.wrap ((n : Int) + e) = (m : Int) := by rw [w_i64] <;> omega
    have hcat2 : ¬ 9223372036854775807 < m + r.size := by omega
    have hd0 : (0 : Int) ≤ n := by omega
    have hdsr : (n : Int) ≤ z := by omega
    have VA := Lib.hid hv.1
    have VB := Lib.hid hv.2
    clear hv he hk
    go_enter Tryd.func6, Tryd.ntmps6
    go_wp2_with fail
    refine (great_of false a w (decide_eq_false ga)).mono ?_
    rintro e w' ⟨rfl, rfl⟩
    go_wp2_with fail
    refine (great_of false b w (decide_eq_false gb)).mono ?_
    rintro e w' ⟨rfl, rfl⟩
    go_wp2_with fail
    refine (great_of false r w (decide_eq_false gr)).mono ?_
    rintro e w' ⟨rfl, rfl⟩
    go_wp2_with fail
    refine (putData_of d 0 a _ (by omega) H1.out).mono ?_
    rintro e w1 ⟨rfl, hk⟩
    replace hb := bnext hb (Nat.le_refl _) hk
    clear hk
    go_wp2_with fail
    refine (getData_s a (n : Int) 0 dr _ HZ.out.2 H2.out).mono ?_
    rintro e w2 ⟨rfl, hk⟩
    replace hb := bnext hb (Nat.le_refl _) hk
    clear hk
    go_wp2_with fail
    refine (getData_s ⟨#[]⟩ 0 2 dk _ H4.out.2.2.2 ⟨H4.out.1, H4.out.2.1, H4.out.2.2.1⟩).mono ?_
    rintro e w3 ⟨rfl, hk⟩
    replace hb := bnext hb (Nat.le_refl _) hk
    clear hk
    go_wp2_with fail
    replace hb := hb.alloc hb.size (.cells #[.string a, .string b] 9)
    refine (put2 a b s 0 _ _ _ (HT.out.below hb) (row_new w3 [.string a, .string b] 9) (by omega) (by omega) P1.out).mono ?_
    rintro e' w4 ⟨rfl, hk⟩
    replace hb := bnext hb (Nat.le_refl _) hk
    clear hk
    go_wp2_with fail
    refine (valid_s true a _ (HT.out.below hb) (by omega) VA.out).mono ?_
    rintro e w5 ⟨rfl, hk⟩
    replace hb := bnext hb (Nat.le_refl _) hk
    clear hk
    go_wp2_with fail
    refine (valid_s true b _ (HT.out.below hb) (by omega) VB.out).mono ?_
    rintro e w6 ⟨rfl, hk⟩
    replace hb := bnext hb (Nat.le_refl _) hk
    clear hk
    go_wp2_with fail
    refine (get_s a (n : Int) 0 q _ (HT.out.below hb) PZ.out.1 P2.out).mono ?_
    rintro e w7 ⟨rfl, hk⟩
    replace hb := bnext hb (Nat.le_refl _) hk
    clear hk
    go_wp2_with fail
    refine (get_s b e 0 qb _ (HT.out.below hb) PZ.out.2 P3.out).mono ?_
    rintro e w8 ⟨rfl, hk⟩
    replace hb := bnext hb (Nat.le_refl _) hk
    clear hk
    go_wp2_with fail
    refine (awake_true _ (HT.out.below hb)).mono ?_
    rintro e w9 ⟨rfl, hk⟩
    replace hb := bnext hb (Nat.le_refl _) hk
    clear hk
    go_wp2_with fail
    go_ret
    exact ⟨rfl, hb⟩
  · have hall : ([a, b].all okT) = false := by
      cases h1 : okT a <;> cases h2 : okT b <;> simp_all
    have P1 := Lib.hid (show (⟨(putsM [a, b]).toArray⟩ : ByteArray) = ⟨#[]⟩ ∧ putsE [a, b] = 5 from ⟨by rw [putsM, hall]; rfl, by rw [putsE, hall]; rfl⟩)
    obtain ⟨va, hva⟩ : ∃ v, okT a = v := ⟨_, rfl⟩
    obtain ⟨vb, hvb⟩ : ∃ v, okT b = v := ⟨_, rfl⟩
    have hab : va = false ∨ (va = true ∧ vb = false) := by
      cases va <;> cases vb <;> simp_all
    have VA := Lib.hid hva
    have VB := Lib.hid hvb
    clear hall hv hva hvb hk
    rcases hab with rfl | ⟨rfl, rfl⟩
    · skip
      go_enter Tryd.func6, Tryd.ntmps6
      go_wp2_with fail
      refine (great_of false a w (decide_eq_false ga)).mono ?_
      rintro e w' ⟨rfl, rfl⟩
      go_wp2_with fail
      refine (great_of false b w (decide_eq_false gb)).mono ?_
      rintro e w' ⟨rfl, rfl⟩
      go_wp2_with fail
      refine (great_of false r w (decide_eq_false gr)).mono ?_
      rintro e w' ⟨rfl, rfl⟩
      go_wp2_with fail
      refine (putData_of d 0 a _ (by omega) H1.out).mono ?_
      rintro e w1 ⟨rfl, hk⟩
      replace hb := bnext hb (Nat.le_refl _) hk
      clear hk
      go_wp2_with fail
      refine (getData_s a (n : Int) 0 dr _ HZ.out.2 H2.out).mono ?_
      rintro e w2 ⟨rfl, hk⟩
      replace hb := bnext hb (Nat.le_refl _) hk
      clear hk
      go_wp2_with fail
      refine (getData_s ⟨#[]⟩ 0 2 dk _ H4.out.2.2.2 ⟨H4.out.1, H4.out.2.1, H4.out.2.2.1⟩).mono ?_
      rintro e w3 ⟨rfl, hk⟩
      replace hb := bnext hb (Nat.le_refl _) hk
      clear hk
      go_wp2_with fail
      replace hb := hb.alloc hb.size (.cells #[.string a, .string b] 9)
      refine (put2 a b ⟨#[]⟩ 5 _ _ _ (HT.out.below hb) (row_new w3 [.string a, .string b] 9) (by omega) (by omega) P1.out).mono ?_
      rintro e' w4 ⟨rfl, hk⟩
      replace hb := bnext hb (Nat.le_refl _) hk
      clear hk
      go_wp2_with fail
      refine (valid_s false a _ (HT.out.below hb) (by omega) VA.out).mono ?_
      rintro e w5 ⟨rfl, hk⟩
      replace hb := bnext hb (Nat.le_refl _) hk
      clear hk
      go_wp2_with fail
      refine (awake_true _ (HT.out.below hb)).mono ?_
      rintro e w9 ⟨rfl, hk⟩
      replace hb := bnext hb (Nat.le_refl _) hk
      clear hk
      go_wp2_with fail
      go_ret
      exact ⟨rfl, hb⟩
    · skip
      go_enter Tryd.func6, Tryd.ntmps6
      go_wp2_with fail
      refine (great_of false a w (decide_eq_false ga)).mono ?_
      rintro e w' ⟨rfl, rfl⟩
      go_wp2_with fail
      refine (great_of false b w (decide_eq_false gb)).mono ?_
      rintro e w' ⟨rfl, rfl⟩
      go_wp2_with fail
      refine (great_of false r w (decide_eq_false gr)).mono ?_
      rintro e w' ⟨rfl, rfl⟩
      go_wp2_with fail
      refine (putData_of d 0 a _ (by omega) H1.out).mono ?_
      rintro e w1 ⟨rfl, hk⟩
      replace hb := bnext hb (Nat.le_refl _) hk
      clear hk
      go_wp2_with fail
      refine (getData_s a (n : Int) 0 dr _ HZ.out.2 H2.out).mono ?_
      rintro e w2 ⟨rfl, hk⟩
      replace hb := bnext hb (Nat.le_refl _) hk
      clear hk
      go_wp2_with fail
      refine (getData_s ⟨#[]⟩ 0 2 dk _ H4.out.2.2.2 ⟨H4.out.1, H4.out.2.1, H4.out.2.2.1⟩).mono ?_
      rintro e w3 ⟨rfl, hk⟩
      replace hb := bnext hb (Nat.le_refl _) hk
      clear hk
      go_wp2_with fail
      replace hb := hb.alloc hb.size (.cells #[.string a, .string b] 9)
      refine (put2 a b ⟨#[]⟩ 5 _ _ _ (HT.out.below hb) (row_new w3 [.string a, .string b] 9) (by omega) (by omega) P1.out).mono ?_
      rintro e' w4 ⟨rfl, hk⟩
      replace hb := bnext hb (Nat.le_refl _) hk
      clear hk
      go_wp2_with fail
      refine (valid_s true a _ (HT.out.below hb) (by omega) VA.out).mono ?_
      rintro e w5 ⟨rfl, hk⟩
      replace hb := bnext hb (Nat.le_refl _) hk
      clear hk
      go_wp2_with fail
      refine (valid_s false b _ (HT.out.below hb) (by omega) VB.out).mono ?_
      rintro e w6 ⟨rfl, hk⟩
      replace hb := bnext hb (Nat.le_refl _) hk
      clear hk
      go_wp2_with fail
      refine (awake_true _ (HT.out.below hb)).mono ?_
      rintro e w9 ⟨rfl, hk⟩
      replace hb := bnext hb (Nat.le_refl _) hk
      clear hk
      go_wp2_with fail
      go_ret
      exact ⟨rfl, hb⟩
end Go.Proofs.YtjpefeopfbgnhaaDoor
