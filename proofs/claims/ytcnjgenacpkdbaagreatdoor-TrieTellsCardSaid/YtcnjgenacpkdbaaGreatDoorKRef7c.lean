/- The document's topics: Covers, Match. -/
import Derived.Test.YtcnjgenacpkdbaaGreatDoorKRef7b
import Derived.Test.YtcnjgenacpkdbaaGreatDoorKTopic3
namespace Go.Proofs.YtcnjgenacpkdbaaGreatDoor
open Go Go.RowKit

set_option maxRecDepth 100000 in
set_option maxHeartbeats 1000000 in
theorem rcovers_any (s t : ByteArray) (w : World) (hs : s.size < 4294967281) (ht : t.size < 4294967281) :
    Calls Tryz.prog 68 #[.string s, .string t] w fun e w' => e = .returned (.bool (coversB s.data.toList t.data.toList)) ∧ Below w.heap.size w w' := by
  obtain ⟨fa, hfa⟩ : ∃ b, filterB s.data.toList = b := ⟨_, rfl⟩
  obtain ⟨fb, hfb⟩ : ∃ b, filterB t.data.toList = b := ⟨_, rfl⟩
  have HFA := Lib.hid (fun w => rfilter_any s w hs)
  have HFB := Lib.hid (fun w => rfilter_any t w ht)
  rw [hfa] at HFA
  rw [hfb] at HFB
  cases fa with
  | false =>
    have HF := Lib.hid (coversB_no1 (b := t.data.toList) hfa)
    clear hfa hfb
    go_enter Tryz.func68, Tryz.ntmps68
    go_wp2_with fail
    refine (HFA.out _).mono ?_
    rintro e w1 ⟨rfl, hk⟩
    go_wp2_with fail
    go_ret
    exact ⟨ret_bool HF.out.symm, hk⟩
  | true =>
    cases fb with
    | false =>
      have HF := Lib.hid (coversB_no2 (a := s.data.toList) hfb)
      clear hfa hfb
      go_enter Tryz.func68, Tryz.ntmps68
      go_wp2_with fail
      refine (HFA.out _).mono ?_
      rintro e w1 ⟨rfl, hk⟩
      go_wp2_with fail
      refine (HFB.out _).mono ?_
      rintro e w2 ⟨rfl, hk2⟩
      replace hk := bnext hk (Nat.le_refl _) hk2
      go_wp2_with fail
      go_ret
      exact ⟨ret_bool HF.out.symm, hk⟩
    | true =>
      obtain ⟨wl, hwl⟩ : ∃ b, wildB s.data.toList = b := ⟨_, rfl⟩
      have HWL := Lib.hid (fun w => rwild_any s w hs)
      rw [hwl] at HWL
      obtain ⟨c, r, hc⟩ := List.exists_cons_of_ne_nil (filterB_ne hfb)
      have hts : 0 < t.size := by
        have : t.data.toList.length = t.size := rfl
        rw [hc] at this; simp at this; omega
      have hts' : (0 : Int) < t.size := by omega
      have hct : t[0]'hts = c := by
        have := bget t 0 hts
        rw [hc] at this; simpa using this.symm
      obtain ⟨d, hd⟩ : ∃ d, (c == 36) = d := ⟨_, rfl⟩
      have HF : Hid (coversB s.data.toList t.data.toList = (!(wl && d) && coversL (levels s.data.toList) (levels t.data.toList))) := Lib.hid (by
        unfold coversB; rw [hfa, hfb, hwl, ← hd, hc]; rfl)
      have hd' : ((c.toNat : Int) == 36) = d := by
        rw [← hd, Bool.eq_iff_iff]; simp only [beq_iff_eq]
        exact ⟨fun h => UInt8.toNat_inj.1 (by simp; omega), fun h => by subst h; rfl⟩
      have hcl := byte_lt c
      have HLA := Lib.hid (fun w => rlevels_any s w hs)
      have HLB := Lib.hid (fun w => rlevels_any t w ht)
      have HLL := Lib.hid (levels_len_le t.data.toList)
      have hsl : t.data.toList.length = t.size := rfl
      rw [hsl] at HLL
      clear hfa hfb hwl hc hd
      generalize levels s.data.toList = LA at *
      generalize levels t.data.toList = LB at *
      go_enter Tryz.func68, Tryz.ntmps68
      go_wp2_with fail
      refine (HFA.out _).mono ?_
      rintro e w1 ⟨rfl, hk⟩
      go_wp2_with fail
      refine (HFB.out _).mono ?_
      rintro e w2 ⟨rfl, hk2⟩
      replace hk := bnext hk (Nat.le_refl _) hk2
      clear hk2
      go_wp2_with fail
      refine (HWL.out _).mono ?_
      rintro e w3 ⟨rfl, hk2⟩
      replace hk := bnext hk (Nat.le_refl _) hk2
      clear hk2
      have HREST : (wl && d) = false → Hid (coversB s.data.toList t.data.toList = coversL LA LB) := fun hz => Lib.hid (by rw [HF.out, hz]; rfl)
      cases wl with
      | false =>
        have HR := HREST rfl
        clear HREST hd'
        go_wp2_with fail
        refine (HLA.out _).mono ?_
        rintro e w4 ⟨p, c1, rfl, hra, hk2⟩
        replace hk := bnext hk (Nat.le_refl _) hk2
        clear hk2
        have HA := Lib.hid hra
        clear hra
        go_wp2_with fail
        refine (HLB.out _).mono ?_
        rintro e w5 ⟨q, c2, rfl, hrb, hk2⟩
        replace hk := bnext hk (Nat.le_refl _) hk2
        have HA := Lib.hid (HA.out.below hk2 (Nat.le_refl _))
        have HB := Lib.hid hrb
        clear hrb hk2
        go_wp2_with fail
        have hLB : (LB.length : Int) < 4294967296 := by have := HLL.out; omega
        clear HFA HFB HLA HLB HF
        go_loopw [7] (fun i wr => ∃ k : Nat, i = .int .i64 k ∧ k ≤ LA.length ∧ k ≤ LB.length ∧ Row wr p (strs LA) ∧ Row wr q (strs LB) ∧ Below w.heap.size w wr ∧ coversL LA LB = coversL (LA.drop k) (LB.drop k)) (fun i _ => (LA.length - intOf i).toNat)
        case atStart => exact ⟨0, rfl, by omega, by omega, HA.out, HB.out, hk, by simp⟩
        case round =>
          obtain ⟨k, rfl, hkA, hkB, hrA, hrB, hbw, hD⟩ := hrel
          have HRA := Lib.hid hrA
          have HRB := Lib.hid hrB
          have HBW := Lib.hid hbw
          clear hrA hrB hbw HA HB hk
          have HD := Lib.hid hD
          clear hD
          by_cases hlt : k < LA.length
          · have hk0 : (0 : Int) ≤ k := by omega
            have hkL : (k : Int) < LA.length := by omega
            obtain ⟨b1, o1, rfl, k0⟩ := strs_row HRA.out (k := k) (x := LA[k]) (by simp [hlt])
            have HDA := Lib.hid (List.drop_eq_getElem_cons hlt)
            generalize LA[k] = x at *
            have ex := slt x
            by_cases hx : x = [35]
            · have HT := Lib.hid (show coversB s.data.toList t.data.toList = true by rw [HR.out, HD.out, HDA.out]; cases LB.drop k <;> simp [coversL, hx])
              have q1 : (⟨x.toArray⟩ : ByteArray).toList = [35] := ex.trans hx
              clear hx ex HD HDA HR
              generalize (⟨x.toArray⟩ : ByteArray) = X at *
              go_wp2_with fail
              go_ret
              exact ⟨ret_bool HT.out.symm, HBW.out⟩
            · have q1 : ¬ (⟨x.toArray⟩ : ByteArray).toList = [35] := fun h => hx (ex.symm.trans h)
              have q1b : ((⟨x.toArray⟩ : ByteArray).toList == [35]) = false := by simpa using q1
              by_cases hltB : k < LB.length
              · have hkM : (k : Int) < LB.length := by omega
                have hkMd : decide ((LB.length : Int) ≤ k) = false := decide_eq_false (by omega)
                have hkMn : decide (LB.length ≤ k) = false := decide_eq_false (by omega)
                obtain ⟨b2, o2, rfl, j0⟩ := strs_row HRB.out (k := k) (x := LB[k]) (by simp [hltB])
                have HDB := Lib.hid (List.drop_eq_getElem_cons hltB)
                generalize LB[k] = y at *
                have ey := slt y
                have HCC : Hid (coversL LA LB = (y != [35] && (x == [43] || x == y) && coversL (LA.drop (k + 1)) (LB.drop (k + 1)))) := Lib.hid (by
                  rw [HD.out, HDA.out, HDB.out, coversL_cc]; simp [hx])
                clear HD HDA HDB
                by_cases hy : y = [35]
                · have HT := Lib.hid (show coversB s.data.toList t.data.toList = false by rw [HR.out, HCC.out]; simp [hy])
                  have q2 : ((⟨y.toArray⟩ : ByteArray).toList == [35]) = true := by simpa using ey.trans hy
                  clear hx hy ex ey HCC HR
                  generalize (⟨x.toArray⟩ : ByteArray) = X at *
                  generalize (⟨y.toArray⟩ : ByteArray) = Y at *
                  go_wp2_with fail
                  go_quiet (fail)
                  go_wp2_with fail
                  go_ret
                  exact ⟨ret_bool HT.out.symm, below_drewN HBW.out _⟩
                · have q2 : ((⟨y.toArray⟩ : ByteArray).toList == [35]) = false := by simpa using fun h => hy (ey.symm.trans h)
                  by_cases hp : x = [43]
                  · have HT := Lib.hid (show coversL LA LB = coversL (LA.drop (k + 1)) (LB.drop (k + 1)) by rw [HCC.out]; simp [hy, hp])
                    have q3 : ((⟨x.toArray⟩ : ByteArray).toList == [43]) = true := by simpa using ex.trans hp
                    clear hx hy hp ex ey HCC
                    generalize (⟨x.toArray⟩ : ByteArray) = X at *
                    generalize (⟨y.toArray⟩ : ByteArray) = Y at *
                    go_wp2_with fail
                    go_quiet (fail)
                    go_wp2_with fail
                    go_roundw
                    case rel => exact ⟨k + 1, by go_num, by omega, by omega, HRA.out.below (below_drewN (Below.refl _ _) nq) (Nat.le_refl _), HRB.out.below (below_drewN (Below.refl _ _) nq) (Nat.le_refl _), below_drewN HBW.out nq, HT.out⟩
                    case measure => simp [intOf]; omega
                  · have q3 : ((⟨x.toArray⟩ : ByteArray).toList == [43]) = false := by simpa using fun h => hp (ex.symm.trans h)
                    by_cases he : x = y
                    · have HT := Lib.hid (show coversL LA LB = coversL (LA.drop (k + 1)) (LB.drop (k + 1)) by rw [HCC.out]; simp [hy, he])
                      have q4 : ((⟨x.toArray⟩ : ByteArray).toList == (⟨y.toArray⟩ : ByteArray).toList) = true := by rw [he]; simp
                      clear hx hy hp he ex ey HCC
                      generalize (⟨x.toArray⟩ : ByteArray) = X at *
                      generalize (⟨y.toArray⟩ : ByteArray) = Y at *
                      go_wp2_with fail
                      go_quiet (fail)
                      go_wp2_with fail
                      go_roundw
                      case rel => exact ⟨k + 1, by go_num, by omega, by omega, HRA.out.below (below_drewN (Below.refl _ _) nq) (Nat.le_refl _), HRB.out.below (below_drewN (Below.refl _ _) nq) (Nat.le_refl _), below_drewN HBW.out nq, HT.out⟩
                      case measure => simp [intOf]; omega
                    · have HT := Lib.hid (show coversB s.data.toList t.data.toList = false by rw [HR.out, HCC.out]; simp [hp, he])
                      have q4 : ((⟨x.toArray⟩ : ByteArray).toList == (⟨y.toArray⟩ : ByteArray).toList) = false := by rw [ex, ey]; simpa using he
                      clear hx hy hp he ex ey HCC HR
                      generalize (⟨x.toArray⟩ : ByteArray) = X at *
                      generalize (⟨y.toArray⟩ : ByteArray) = Y at *
                      go_wp2_with fail
                      go_quiet (fail)
                      go_wp2_with fail
                      go_ret
                      exact ⟨ret_bool HT.out.symm, below_drewN HBW.out _⟩
              · have hkM : (LB.length : Int) ≤ k := by omega
                have hkMd : decide ((LB.length : Int) ≤ k) = true := decide_eq_true hkM
                have hkMn : decide (LB.length ≤ k) = true := decide_eq_true (by omega)
                have HT := Lib.hid (show coversB s.data.toList t.data.toList = false by
                  rw [HR.out, HD.out, HDA.out, List.drop_eq_nil_of_le (by omega : LB.length ≤ k), coversL_nilr]; simpa using hx)
                clear hx ex HD HDA HR
                generalize (⟨x.toArray⟩ : ByteArray) = X at *
                go_wp2_with fail
                go_quiet (fail)
                go_wp2_with fail
                go_ret
                exact ⟨ret_bool HT.out.symm, below_drewN HBW.out _⟩
          · have hkL : ¬ (k : Int) < LA.length := by omega
            have HT := Lib.hid (show decide (((LA.length : Nat) : Int) = (LB.length : Nat)) = coversB s.data.toList t.data.toList by
              rw [HR.out, HD.out, List.drop_eq_nil_of_le (by omega : LA.length ≤ k), coversL_nil, Bool.eq_iff_iff]
              simp; omega)
            go_wp2_with fail
            go_ret
            exact ⟨ret_bool HT.out, HBW.out⟩
      | true =>
        cases d with
        | true =>
          have HFF := Lib.hid (show coversB s.data.toList t.data.toList = false by rw [HF.out]; rfl)
          clear HREST
          go_wp2_with fail
          go_ret
          exact ⟨ret_bool HFF.out.symm, hk⟩
        | false =>
          have HR := HREST rfl
          clear HREST
          go_wp2_with fail
          refine (HLA.out _).mono ?_
          rintro e w4 ⟨p, c1, rfl, hra, hk2⟩
          replace hk := bnext hk (Nat.le_refl _) hk2
          clear hk2
          have HA := Lib.hid hra
          clear hra
          go_wp2_with fail
          refine (HLB.out _).mono ?_
          rintro e w5 ⟨q, c2, rfl, hrb, hk2⟩
          replace hk := bnext hk (Nat.le_refl _) hk2
          have HA := Lib.hid (HA.out.below hk2 (Nat.le_refl _))
          have HB := Lib.hid hrb
          clear hrb hk2
          go_wp2_with fail
          have hLB : (LB.length : Int) < 4294967296 := by have := HLL.out; omega
          clear HFA HFB HLA HLB HF
          go_loopw [7] (fun i wr => ∃ k : Nat, i = .int .i64 k ∧ k ≤ LA.length ∧ k ≤ LB.length ∧ Row wr p (strs LA) ∧ Row wr q (strs LB) ∧ Below w.heap.size w wr ∧ coversL LA LB = coversL (LA.drop k) (LB.drop k)) (fun i _ => (LA.length - intOf i).toNat)
          case atStart => exact ⟨0, rfl, by omega, by omega, HA.out, HB.out, hk, by simp⟩
          case round =>
            obtain ⟨k, rfl, hkA, hkB, hrA, hrB, hbw, hD⟩ := hrel
            have HRA := Lib.hid hrA
            have HRB := Lib.hid hrB
            have HBW := Lib.hid hbw
            clear hrA hrB hbw HA HB hk
            have HD := Lib.hid hD
            clear hD
            by_cases hlt : k < LA.length
            · have hk0 : (0 : Int) ≤ k := by omega
              have hkL : (k : Int) < LA.length := by omega
              obtain ⟨b1, o1, rfl, k0⟩ := strs_row HRA.out (k := k) (x := LA[k]) (by simp [hlt])
              have HDA := Lib.hid (List.drop_eq_getElem_cons hlt)
              generalize LA[k] = x at *
              have ex := slt x
              by_cases hx : x = [35]
              · have HT := Lib.hid (show coversB s.data.toList t.data.toList = true by rw [HR.out, HD.out, HDA.out]; cases LB.drop k <;> simp [coversL, hx])
                have q1 : (⟨x.toArray⟩ : ByteArray).toList = [35] := ex.trans hx
                clear hx ex HD HDA HR
                generalize (⟨x.toArray⟩ : ByteArray) = X at *
                go_wp2_with fail
                go_ret
                exact ⟨ret_bool HT.out.symm, HBW.out⟩
              · have q1 : ¬ (⟨x.toArray⟩ : ByteArray).toList = [35] := fun h => hx (ex.symm.trans h)
                have q1b : ((⟨x.toArray⟩ : ByteArray).toList == [35]) = false := by simpa using q1
                by_cases hltB : k < LB.length
                · have hkM : (k : Int) < LB.length := by omega
                  have hkMd : decide ((LB.length : Int) ≤ k) = false := decide_eq_false (by omega)
                  have hkMn : decide (LB.length ≤ k) = false := decide_eq_false (by omega)
                  obtain ⟨b2, o2, rfl, j0⟩ := strs_row HRB.out (k := k) (x := LB[k]) (by simp [hltB])
                  have HDB := Lib.hid (List.drop_eq_getElem_cons hltB)
                  generalize LB[k] = y at *
                  have ey := slt y
                  have HCC : Hid (coversL LA LB = (y != [35] && (x == [43] || x == y) && coversL (LA.drop (k + 1)) (LB.drop (k + 1)))) := Lib.hid (by
                    rw [HD.out, HDA.out, HDB.out, coversL_cc]; simp [hx])
                  clear HD HDA HDB
                  by_cases hy : y = [35]
                  · have HT := Lib.hid (show coversB s.data.toList t.data.toList = false by rw [HR.out, HCC.out]; simp [hy])
                    have q2 : ((⟨y.toArray⟩ : ByteArray).toList == [35]) = true := by simpa using ey.trans hy
                    clear hx hy ex ey HCC HR
                    generalize (⟨x.toArray⟩ : ByteArray) = X at *
                    generalize (⟨y.toArray⟩ : ByteArray) = Y at *
                    go_wp2_with fail
                    go_quiet (fail)
                    go_wp2_with fail
                    go_ret
                    exact ⟨ret_bool HT.out.symm, below_drewN HBW.out _⟩
                  · have q2 : ((⟨y.toArray⟩ : ByteArray).toList == [35]) = false := by simpa using fun h => hy (ey.symm.trans h)
                    by_cases hp : x = [43]
                    · have HT := Lib.hid (show coversL LA LB = coversL (LA.drop (k + 1)) (LB.drop (k + 1)) by rw [HCC.out]; simp [hy, hp])
                      have q3 : ((⟨x.toArray⟩ : ByteArray).toList == [43]) = true := by simpa using ex.trans hp
                      clear hx hy hp ex ey HCC
                      generalize (⟨x.toArray⟩ : ByteArray) = X at *
                      generalize (⟨y.toArray⟩ : ByteArray) = Y at *
                      go_wp2_with fail
                      go_quiet (fail)
                      go_wp2_with fail
                      go_roundw
                      case rel => exact ⟨k + 1, by go_num, by omega, by omega, HRA.out.below (below_drewN (Below.refl _ _) nq) (Nat.le_refl _), HRB.out.below (below_drewN (Below.refl _ _) nq) (Nat.le_refl _), below_drewN HBW.out nq, HT.out⟩
                      case measure => simp [intOf]; omega
                    · have q3 : ((⟨x.toArray⟩ : ByteArray).toList == [43]) = false := by simpa using fun h => hp (ex.symm.trans h)
                      by_cases he : x = y
                      · have HT := Lib.hid (show coversL LA LB = coversL (LA.drop (k + 1)) (LB.drop (k + 1)) by rw [HCC.out]; simp [hy, he])
                        have q4 : ((⟨x.toArray⟩ : ByteArray).toList == (⟨y.toArray⟩ : ByteArray).toList) = true := by rw [he]; simp
                        clear hx hy hp he ex ey HCC
                        generalize (⟨x.toArray⟩ : ByteArray) = X at *
                        generalize (⟨y.toArray⟩ : ByteArray) = Y at *
                        go_wp2_with fail
                        go_quiet (fail)
                        go_wp2_with fail
                        go_roundw
                        case rel => exact ⟨k + 1, by go_num, by omega, by omega, HRA.out.below (below_drewN (Below.refl _ _) nq) (Nat.le_refl _), HRB.out.below (below_drewN (Below.refl _ _) nq) (Nat.le_refl _), below_drewN HBW.out nq, HT.out⟩
                        case measure => simp [intOf]; omega
                      · have HT := Lib.hid (show coversB s.data.toList t.data.toList = false by rw [HR.out, HCC.out]; simp [hp, he])
                        have q4 : ((⟨x.toArray⟩ : ByteArray).toList == (⟨y.toArray⟩ : ByteArray).toList) = false := by rw [ex, ey]; simpa using he
                        clear hx hy hp he ex ey HCC HR
                        generalize (⟨x.toArray⟩ : ByteArray) = X at *
                        generalize (⟨y.toArray⟩ : ByteArray) = Y at *
                        go_wp2_with fail
                        go_quiet (fail)
                        go_wp2_with fail
                        go_ret
                        exact ⟨ret_bool HT.out.symm, below_drewN HBW.out _⟩
                · have hkM : (LB.length : Int) ≤ k := by omega
                  have hkMd : decide ((LB.length : Int) ≤ k) = true := decide_eq_true hkM
                  have hkMn : decide (LB.length ≤ k) = true := decide_eq_true (by omega)
                  have HT := Lib.hid (show coversB s.data.toList t.data.toList = false by
                    rw [HR.out, HD.out, HDA.out, List.drop_eq_nil_of_le (by omega : LB.length ≤ k), coversL_nilr]; simpa using hx)
                  clear hx ex HD HDA HR
                  generalize (⟨x.toArray⟩ : ByteArray) = X at *
                  go_wp2_with fail
                  go_quiet (fail)
                  go_wp2_with fail
                  go_ret
                  exact ⟨ret_bool HT.out.symm, below_drewN HBW.out _⟩
            · have hkL : ¬ (k : Int) < LA.length := by omega
              have HT := Lib.hid (show decide (((LA.length : Nat) : Int) = (LB.length : Nat)) = coversB s.data.toList t.data.toList by
                rw [HR.out, HD.out, List.drop_eq_nil_of_le (by omega : LA.length ≤ k), coversL_nil, Bool.eq_iff_iff]
                simp; omega)
              go_wp2_with fail
              go_ret
              exact ⟨ret_bool HT.out, HBW.out⟩

theorem rmatch_any (s t : ByteArray) (w : World) (hs : s.size < 4294967281) (ht : t.size < 4294967281) :
    Calls Tryz.prog 50 #[.string s, .string t] w fun e w' => e = .returned (.bool (matchB s.data.toList t.data.toList)) ∧ Below w.heap.size w w' := by
  obtain ⟨n, hn⟩ : ∃ b, nameB t.data.toList = b := ⟨_, rfl⟩
  have HN := Lib.hid (rname_any t w ht)
  rw [hn] at HN
  have HF := Lib.hid (show matchB s.data.toList t.data.toList = (n && coversB s.data.toList t.data.toList) by unfold matchB; rw [hn])
  have HC := Lib.hid (fun w => rcovers_any s t w hs ht)
  clear hn
  cases n with
  | false =>
    go_enter Tryz.func50, Tryz.ntmps50
    go_wp2_with fail
    refine HN.out.mono ?_
    rintro e w1 ⟨rfl, hk⟩
    go_wp2_with fail
    go_ret
    exact ⟨ret_bool HF.out.symm, hk⟩
  | true =>
    go_enter Tryz.func50, Tryz.ntmps50
    go_wp2_with fail
    refine HN.out.mono ?_
    rintro e w1 ⟨rfl, hk⟩
    go_wp2_with fail
    refine (HC.out _).mono ?_
    rintro e w2 ⟨rfl, hk2⟩
    replace hk := bnext hk (Nat.le_refl _) hk2
    go_wp2_with fail
    go_ret
    exact ⟨ret_bool (by rw [HF.out]; rfl), hk⟩
end Go.Proofs.YtcnjgenacpkdbaaGreatDoor
