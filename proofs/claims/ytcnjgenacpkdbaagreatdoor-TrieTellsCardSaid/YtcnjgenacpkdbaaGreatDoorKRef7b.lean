/- The document's topics: filters. -/
import Derived.Test.YtcnjgenacpkdbaaGreatDoorKRef7
namespace Go.Proofs.YtcnjgenacpkdbaaGreatDoor
open Go Go.RowKit

set_option maxRecDepth 100000 in
set_option maxHeartbeats 2000000 in
theorem rfilter_any (s : ByteArray) (w : World) (hs : s.size < 4294967281) :
    Calls Tryz.prog 47 #[.string s] w fun e w' => e = .returned (.bool (filterB s.data.toList)) ∧ Below w.heap.size w w' := by
  have HLV := Lib.hid (rlevels_any s w hs)
  have HLS := Lib.hid (levels_sum s.data.toList)
  have HLL := Lib.hid (levels_len_le s.data.toList)
  have hsl : s.data.toList.length = s.size := rfl
  obtain ⟨v, hv⟩ : ∃ v, validI s.data.toList = v := ⟨_, rfl⟩
  have HV := Lib.hid (fun w => rvalid_any s w (by omega))
  rw [hv] at HV
  have HF := Lib.hid (show filterB s.data.toList = (!s.data.toList.isEmpty && v && levelsB (levels s.data.toList)) by rw [filterB, ← hv]; rfl)
  rw [hsl] at HLS HLL
  clear hv
  generalize levels s.data.toList = L at *
  have hLL : L.length ≤ s.size + 1 := HLL.out
  go_enter Tryz.func47, Tryz.ntmps47
  go_wp2_with fail
  refine HLV.out.mono ?_
  rintro e w1 ⟨a, c, rfl, hr, hk⟩
  have HR := Lib.hid hr
  have HK := Lib.hid hk
  clear hr hk
  go_wp2_with fail
  go_loopw [4] (fun i wr => ∃ k : Nat, i = .int .i64 k ∧ k ≤ L.length ∧ wr = w1 ∧ levelsB L = levelsB (L.drop k)) (fun i _ => (L.length - intOf i).toNat)
  case atStart => exact ⟨0, rfl, by omega, rfl, by simp⟩
  case round =>
    obtain ⟨k, rfl, hkl, rfl, hD⟩ := hrel
    have HD := Lib.hid hD
    clear hD
    by_cases hlt : k < L.length
    · have hk0 : (0 : Int) ≤ k := by omega
      have hkL : (k : Int) < L.length := by omega
      obtain ⟨b1, o1, rfl, k0⟩ := strs_row HR.out (k := k) (x := L[k]) (by simp [hlt])
      have hxl := HLS.out L[k] (List.getElem_mem hlt)
      have HN := Lib.hid (List.drop_eq_getElem_cons hlt)
      generalize L[k] = x at *
      obtain ⟨b, hbl⟩ : ∃ b, decide ((k : Int) < L.length - 1) = b := ⟨_, rfl⟩
      have HE := Lib.hid (show (L.drop (k + 1)).isEmpty = !b by
        rw [← hbl, Bool.eq_iff_iff]
        simp only [List.isEmpty_iff, List.drop_eq_nil_iff, Bool.not_eq_true', decide_eq_false_iff_not]; omega)
      have HP := Lib.hid (fun w => rplain_any ⟨x.toArray⟩ w (show x.length < _ by omega))
      have e1 := slt x
      have eP : (⟨x.toArray⟩ : ByteArray).data.toList = x := rfl
      rw [eP] at HP
      have HSTEP : Hid (levelsB L = (levelB x (!b) && levelsB (L.drop (k + 1)))) := Lib.hid (by rw [HD.out, HN.out, levelsB, HE.out])
      clear HD HN HE eP
      obtain ⟨p, hp⟩ : ∃ p, plainB x = p := ⟨_, rfl⟩
      rw [hp] at HP
      have goon : levelB x (!b) = true → Hid (levelsB L = levelsB (L.drop (k + 1))) := fun h => Lib.hid (by rw [HSTEP.out, h]; rfl)
      have stop : levelB x (!b) = false → Hid (false = filterB s.data.toList) := fun h => Lib.hid (by rw [HF.out, HSTEP.out, h]; simp)
      cases p with
      | true =>
        have HG := goon (by unfold levelB; rw [hp]; simp)
        clear goon stop hp e1 hbl
        go_wp2_with fail
        refine (HP.out _).mono ?_
        rintro e w3 ⟨rfl, rfl⟩
        go_wp2_with fail
        go_roundw
        case rel => exact ⟨k + 1, by go_num, by omega, trivial, HG.out⟩
        case measure => simp [intOf]; omega
      | false =>
        by_cases h1 : x = [43]
        · have q1 : (⟨x.toArray⟩ : ByteArray).toList = [43] := e1.trans h1
          have HG := goon (by unfold levelB; rw [h1]; rfl)
          clear goon stop hp e1 hbl h1 HSTEP
          generalize (⟨x.toArray⟩ : ByteArray) = X at *
          go_wp2_with fail
          refine (HP.out _).mono ?_
          rintro e w3 ⟨rfl, rfl⟩
          go_wp2_with fail
          go_roundw
          case rel => exact ⟨k + 1, by go_num, by omega, trivial, HG.out⟩
          case measure => simp [intOf]; omega
        · have q1 : ¬ (⟨x.toArray⟩ : ByteArray).toList = [43] := fun h => h1 (e1.symm.trans h)
          have q1b : ((⟨x.toArray⟩ : ByteArray).toList == [43]) = false := by simpa using q1
          by_cases h2 : x = [35]
          · have q2 : (⟨x.toArray⟩ : ByteArray).toList = [35] := e1.trans h2
            cases b with
            | true =>
              have HG := stop (by unfold levelB; rw [h2]; rfl)
              clear goon stop hp e1 h1 h2 HSTEP q1 q1b
              generalize (⟨x.toArray⟩ : ByteArray) = X at *
              go_wp2_with fail
              refine (HP.out _).mono ?_
              rintro e w3 ⟨rfl, rfl⟩
              go_wp2_with fail
              go_ret
              exact ⟨ret_bool HG.out, HK.out⟩
            | false =>
              have HG := goon (by unfold levelB; rw [h2]; rfl)
              clear goon stop hp e1 h1 h2 HSTEP q1 q1b
              generalize (⟨x.toArray⟩ : ByteArray) = X at *
              go_wp2_with fail
              refine (HP.out _).mono ?_
              rintro e w3 ⟨rfl, rfl⟩
              go_wp2_with fail
              go_roundw
              case rel => exact ⟨k + 1, by go_num, by omega, trivial, HG.out⟩
              case measure => simp [intOf]; omega
          · have q2 : ¬ (⟨x.toArray⟩ : ByteArray).toList = [35] := fun h => h2 (e1.symm.trans h)
            have q2b : ((⟨x.toArray⟩ : ByteArray).toList == [35]) = false := by simpa using q2
            have HG := stop (by unfold levelB; rw [hp]; simp [h1, h2])
            clear goon stop hp e1 h1 h2 HSTEP hbl
            generalize (⟨x.toArray⟩ : ByteArray) = X at *
            go_wp2_with fail
            refine (HP.out _).mono ?_
            rintro e w3 ⟨rfl, rfl⟩
            go_wp2_with fail
            go_ret
            exact ⟨ret_bool HG.out, HK.out⟩
    · have hkL : ¬ (k : Int) < L.length := by omega
      have HAL := Lib.hid (show levelsB L = true by rw [HD.out, List.drop_eq_nil_of_le (by omega)]; rfl)
      by_cases he : s.data.toList = []
      · have h1 : s.size = 0 := by rw [he] at hsl; simpa using hsl.symm
        have h2 : decide ((0 : Int) < s.size) = false := decide_eq_false (by omega)
        have h3 : ¬ 0 < s.size := by omega
        have HG := Lib.hid (show filterB s.data.toList = false by rw [HF.out, he]; rfl)
        clear he h1
        go_wp2_with fail
        go_ret
        exact ⟨ret_bool HG.out.symm, HK.out⟩
      · have h1 : 0 < s.size := by have := List.length_pos_iff.2 he; omega
        have h2 : (0 : Int) < s.size := by omega
        have HG := Lib.hid (show filterB s.data.toList = v by rw [HF.out, List.isEmpty_eq_false_iff.2 he, HAL.out]; simp)
        clear he
        go_wp2_with fail
        refine (HV.out _).mono ?_
        rintro e w3 ⟨rfl, hk⟩
        have hb := bnext HK.out (by have := HK.out.size; omega) hk
        go_wp2_with fail
        go_ret
        exact ⟨ret_bool HG.out.symm, hb⟩

theorem rwild_any (s : ByteArray) (w : World) (hs : s.size < 4294967281) :
    Calls Tryz.prog 89 #[.string s] w fun e w' => e = .returned (.bool (wildB s.data.toList)) ∧ Below w.heap.size w w' := by
  obtain ⟨x, t, hx⟩ := List.exists_cons_of_ne_nil (levels_ne s.data.toList)
  have HL := Lib.hid (rlevels_any s w hs)
  have HF := Lib.hid (show wildB s.data.toList = (x == [43] || x == [35]) by unfold wildB; rw [hx]; rfl)
  have HX := Lib.hid hx
  have hlp : 0 < (levels s.data.toList).length := by rw [hx]; simp
  generalize levels s.data.toList = L at *
  have hlp' : (0 : Int) < L.length := by omega
  clear hx
  go_enter Tryz.func89, Tryz.ntmps89
  go_wp2_with fail
  refine HL.out.mono ?_
  rintro e w1 ⟨a, c, rfl, hr, hk⟩
  obtain ⟨b1, o1, rfl, k0⟩ := first_row hr HX.out
  clear hr
  have e1 := slt x
  by_cases h1 : x = [43]
  · have q1 : (⟨x.toArray⟩ : ByteArray).toList = [43] := e1.trans h1
    have HB := Lib.hid (show wildB s.data.toList = true by rw [HF.out, h1]; rfl)
    clear h1 e1 HX
    generalize (⟨x.toArray⟩ : ByteArray) = X at *
    go_wp2_with fail
    go_ret
    exact ⟨ret_bool HB.out.symm, hk⟩
  · have q1 : ¬ (⟨x.toArray⟩ : ByteArray).toList = [43] := fun h => h1 (e1.symm.trans h)
    by_cases h2 : x = [35]
    · have q2 : (⟨x.toArray⟩ : ByteArray).toList = [35] := e1.trans h2
      have HB := Lib.hid (show wildB s.data.toList = true by rw [HF.out, h2]; rfl)
      clear h1 e1 HX h2 q1
      generalize (⟨x.toArray⟩ : ByteArray) = X at *
      go_wp2_with fail
      go_ret
      exact ⟨ret_bool HB.out.symm, hk⟩
    · have q2 : ¬ (⟨x.toArray⟩ : ByteArray).toList = [35] := fun h => h2 (e1.symm.trans h)
      have q1b : ((⟨x.toArray⟩ : ByteArray).toList == [43]) = false := by simpa using q1
      have q2b : ((⟨x.toArray⟩ : ByteArray).toList == [35]) = false := by simpa using q2
      have HB := Lib.hid (show wildB s.data.toList = false by rw [HF.out]; simp [h1, h2])
      clear h1 e1 HX h2
      generalize (⟨x.toArray⟩ : ByteArray) = X at *
      go_wp2_with fail
      go_ret
      exact ⟨ret_bool HB.out.symm, hk⟩
end Go.Proofs.YtcnjgenacpkdbaaGreatDoor
