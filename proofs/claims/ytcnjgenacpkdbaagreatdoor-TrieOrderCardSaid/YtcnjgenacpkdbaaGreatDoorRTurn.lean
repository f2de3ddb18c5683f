/- TrieTurn walked. -/
import Derived.Test.YtcnjgenacpkdbaaGreatDoorRLaw1
namespace Go.Proofs.YtcnjgenacpkdbaaGreatDoor
open Go Go.RowKit

theorem topic_filter (b : Bool) (s : ByteArray) (w : World) (hT : Tabs w) (hs : s.size ≤ 300) (hb : filterB s.data.toList = b) :
    Calls Tryz.prog 24 #[.string s] w fun e w' => e = .returned (.bool b) ∧ Below w.heap.size w w' := by
  subst hb
  exact filter_any s w hT (by omega)
theorem great_x (b : Bool) (a : Option Addr) (c : Nat) (l : List Act) (w : World) (ha : Row w a (actsV l)) (hl : l.length ≤ maxLen) (hb : greatB l = b) :
    Calls Tryz.prog 8 #[.slice a l.length c] w fun e w' => e = .returned (.bool b) ∧ w = w' := by
  subst hb
  exact (great_any a c l w ha hl).mono fun _ _ h => ⟨h.1, h.2.symm⟩
set_option maxRecDepth 100000 in
set_option maxHeartbeats 4000000 in
theorem turn_true (a : Option Addr) (c : Nat) (l : List Act) (f k : ByteArray) (w : World) (ha : Row w a (actsV l)) (hT : Tabs w) (hl : l.length ≤ maxLen) :
    Calls Tryz.prog 6 #[.slice a l.length c, .string f, .string k] w fun e w' => e = .returned (.bool true) ∧ Below w.heap.size w w' := by
  have HT := Lib.hid hT
  have HA := Lib.hid ha
  have HL := Lib.hid hl
  clear hT ha hl
  by_cases hg : greatB l = true
  · have HG := Lib.hid hg
    clear hg
    go_enter Tryz.func6, Tryz.ntmps6
    go_wp2_with fail
    refine (great_x true a c l w HA.out HL.out HG.out).mono ?_
    rintro e w1 ⟨rfl, rfl⟩
    go_wp2_with fail
    refine (awake_true w HT.out).mono ?_
    rintro e w1 ⟨rfl, hk⟩
    have HK := Lib.hid hk
    clear hk
    go_wp2_with fail
    go_ret
    exact ⟨rfl, HK.out⟩
  · have HG := Lib.hid (show greatB l = false by simpa using hg)
    clear hg
    by_cases hf : (300 : Int) < f.size
    ·
      go_enter Tryz.func6, Tryz.ntmps6
      go_wp2_with fail
      refine (great_x false a c l w HA.out HL.out HG.out).mono ?_
      rintro e w1 ⟨rfl, rfl⟩
      go_wp2_with fail
      refine (awake_true w HT.out).mono ?_
      rintro e w1 ⟨rfl, hk⟩
      have HK := Lib.hid hk
      clear hk
      go_wp2_with fail
      go_ret
      exact ⟨rfl, HK.out⟩
    by_cases hk : (300 : Int) < k.size
    ·
      go_enter Tryz.func6, Tryz.ntmps6
      go_wp2_with fail
      refine (great_x false a c l w HA.out HL.out HG.out).mono ?_
      rintro e w1 ⟨rfl, rfl⟩
      go_wp2_with fail
      refine (awake_true w HT.out).mono ?_
      rintro e w1 ⟨rfl, hk⟩
      have HK := Lib.hid hk
      clear hk
      go_wp2_with fail
      go_ret
      exact ⟨rfl, HK.out⟩
    have HF := Lib.hid (show f.size ≤ 300 by omega)
    have HKS := Lib.hid (show k.size ≤ 300 by omega)
    obtain ⟨hok, hl60⟩ := great_ok HG.out
    have HOK := Lib.hid hok
    have HL6 := Lib.hid hl60
    clear hok hl60
    go_enter Tryz.func6, Tryz.ntmps6
    go_wp2_with fail
    refine (great_x false a c l w HA.out HL.out HG.out).mono ?_
    rintro e w1 ⟨rfl, rfl⟩
    go_wp2_with fail
    refine (made_any a c l w HA.out HT.out HL6.out HOK.out).mono ?_
    rintro e w1 ⟨t, N, F, rfl, hO⟩
    have HO := Lib.hid hO
    clear hO HA HG HOK HL6 HL
    generalize madeG l = Gs at *
    have HRG := Lib.hid HO.out.c.rising
    have HFI := Lib.hid HO.out.c.filters
    have hgl := HO.out.c.len
    have HLN := Lib.hid (show Gs.length ≤ 100000 by omega)
    obtain ⟨nn, hnn⟩ : ∃ n, nodesOf Gs = n := ⟨_, rfl⟩
    have HNOD := Lib.hid hnn
    clear hnn
    go_wp2_with fail
    refine (all_x t _ _ Gs w _ _ HO.out (by omega)).mono ?_
    rintro e w2 ⟨av, cv, rfl, hb2, hk2⟩
    replace HO := Lib.hid (HO.out.below hk2)
    have HB := Lib.hid hb2
    clear hb2 hk2
    go_wp2_with fail
    refine (nodes_x t _ _ nn Gs w _ w2 HO.out HNOD.out).mono ?_
    rintro e w3 ⟨rfl, rfl⟩
    obtain ⟨bm, hbm⟩ : ∃ b, decide ((f.data.toList, k.data.toList) ∈ Gs) = b := ⟨_, rfl⟩
    obtain ⟨bf, hbf⟩ : ∃ b, filterB f.data.toList = b := ⟨_, rfl⟩
    have hadd : addB Gs f.data.toList k.data.toList = (bf && !bm) := by unfold addB; rw [hbm, hbf]
    have HADD := Lib.hid hadd
    have HBM := Lib.hid hbm
    have HBF := Lib.hid hbf
    clear hbm hbf hadd
    have hw1 : IntKind.i64.wrap ((Gs.length : Int) + 1) = (Gs.length : Int) + 1 := w_i64 _ (by omega) (by omega)
    by_cases hcase : bf = true ∧ bm = false
    · obtain ⟨rfl, rfl⟩ := hcase
      have hnot : (f.data.toList, k.data.toList) ∉ Gs := by simpa using HBM.out
      have hG2 : addG Gs f.data.toList k.data.toList = insH (f.data.toList, k.data.toList) Gs := by unfold addG; rw [HADD.out]; rfl
      have hback := turn_add HRG.out hnot
      have hin : (f.data.toList, k.data.toList) ∈ insH (f.data.toList, k.data.toList) Gs := (perm_insH _ _).mem_iff.2 (List.mem_cons_self ..)
      have hlen : (insH (f.data.toList, k.data.toList) Gs).length = Gs.length + 1 := (perm_insH _ _).length_eq
      generalize insH (f.data.toList, k.data.toList) Gs = G2 at *
      have hof := mem_ofL.2 hin
      have hol := ofL_len k.data.toList G2 G2.length
      rw [List.take_of_length_le (Nat.le_refl _)] at hol
      obtain ⟨L, hL⟩ : ∃ L, ofL k.data.toList G2 = L := ⟨_, rfl⟩
      rw [hL] at hof hol
      have HG2 := Lib.hid hG2
      have HBK := Lib.hid hback
      have HIN := Lib.hid hin
      have HLE := Lib.hid hlen
      have HOF := Lib.hid hof
      have HLL := Lib.hid hL
      have HOL := Lib.hid (show L.length ≤ 1000000 by omega)
      clear hnot hG2 hback hin hlen hof hol hL
      go_wp2_with fail
      refine (add_x t N 60 f k true Gs G2 w F w2 HO.out HT.out HF.out HKS.out (by omega) HADD.out HG2.out).mono ?_
      rintro e w3 ⟨rfl, N3, F3, hO3, hu3⟩
      replace HB := Lib.hid (HB.out.upd hu3)
      replace HO := Lib.hid hO3
      clear hO3 hu3
      go_wp2_with fail
      refine (of_x t _ _ k L G2 w _ w3 HO.out (by omega) HLL.out).mono ?_
      rintro e w4 ⟨a4, c4, rfl, hr4, hk4⟩
      replace HO := Lib.hid (HO.out.below hk4)
      replace HB := Lib.hid (HB.out.below hk4)
      have HR := Lib.hid hr4
      clear hr4 hk4
      go_wp2_with fail
      refine (has_x true a4 _ c4 L f w4 HR.out HOL.out rfl (by simpa using HOF.out)).mono ?_
      rintro e w5 ⟨rfl, rfl⟩
      clear HR
      go_wp2_with fail
      refine (len_x t _ _ (Gs.length + 1) G2 w _ w4 HO.out HLE.out).mono ?_
      rintro e w5 ⟨rfl, rfl⟩
      go_wp2_with fail
      refine (rem_x t _ _ f k true G2 Gs w _ w4 HO.out HT.out HF.out HKS.out (by omega) (by simpa using HIN.out) HBK.out).mono ?_
      rintro e w6 ⟨rfl, N6, F6, hO6, hu6⟩
      replace HB := Lib.hid (HB.out.upd hu6)
      replace HO := Lib.hid hO6
      clear hO6 hu6
      go_wp2_with fail
      refine (all_x t _ _ Gs w _ _ HO.out (by omega)).mono ?_
      rintro e w7 ⟨a7, c7, rfl, hb7, hk7⟩
      replace HO := Lib.hid (HO.out.below hk7)
      replace HB := Lib.hid (HB.out.below hk7)
      have HB7 := Lib.hid hb7
      clear hb7 hk7
      go_wp2_with fail
      refine (sameH_x true a7 av c7 cv _ _ Gs Gs w7 HB7.out.row HB.out.row HLN.out rfl rfl (by simp)).mono ?_
      rintro e w8 ⟨rfl, nd, rfl⟩
      replace HO := Lib.hid (HO.out.drewN nd)
      clear HB7 HB
      generalize w7.drewN nd = W8 at *
      go_wp2_with fail
      refine (nodes_x t _ _ nn Gs w _ W8 HO.out HNOD.out).mono ?_
      rintro e w9 ⟨rfl, rfl⟩
      go_wp2_with fail
      refine (awake_true W8 (HO.out.tabs HT.out)).mono ?_
      rintro e w10 ⟨rfl, hk10⟩
      replace HO := Lib.hid (HO.out.below hk10)
      clear hk10
      go_wp2_with fail
      go_ret
      exact ⟨rfl, HO.out.bel⟩
    · cases bf with
      | true =>
        obtain rfl : bm = true := by cases bm <;> simp_all
        have hmem : (f.data.toList, k.data.toList) ∈ Gs := by simpa using HBM.out
        have hG1 : addG Gs f.data.toList k.data.toList = Gs := by unfold addG; rw [HADD.out]; rfl
        obtain ⟨hnin, hback⟩ := turn_rem HRG.out hmem
        have hadd2 : addB (Gs.erase (f.data.toList, k.data.toList)) f.data.toList k.data.toList = true := by unfold addB; rw [HBF.out]; simpa using hnin
        have hG2 : addG (Gs.erase (f.data.toList, k.data.toList)) f.data.toList k.data.toList = Gs := by unfold addG; rw [hadd2, if_pos rfl, hback]
        have hle : (Gs.erase (f.data.toList, k.data.toList)).length ≤ Gs.length := List.length_erase_le
        obtain ⟨G2, hg2⟩ : ∃ G2, Gs.erase (f.data.toList, k.data.toList) = G2 := ⟨_, rfl⟩
        rw [hg2] at hnin hadd2 hG2 hle
        have hof : ¬ f.data.toList ∈ ofL k.data.toList G2 := fun h => hnin (mem_ofL.1 h)
        have hol := ofL_len k.data.toList G2 G2.length
        rw [List.take_of_length_le (Nat.le_refl _)] at hol
        obtain ⟨L, hL⟩ : ∃ L, ofL k.data.toList G2 = L := ⟨_, rfl⟩
        rw [hL] at hof hol
        have HG1 := Lib.hid hG1
        have HG2 := Lib.hid hG2
        have HE2 := Lib.hid hg2
        have HAD2 := Lib.hid hadd2
        have HOF := Lib.hid hof
        have HLL := Lib.hid hL
        have HMEM := Lib.hid hmem
        have HOL := Lib.hid (show L.length ≤ 1000000 by omega)
        clear hmem hG1 hnin hback hadd2 hG2 hle hg2 hof hol hL hcase
        go_wp2_with fail
        refine (add_x t N 60 f k false Gs Gs w F w2 HO.out HT.out HF.out HKS.out (by omega) HADD.out HG1.out).mono ?_
        rintro e w3 ⟨rfl, N3, F3, hO3, hu3⟩
        replace HB := Lib.hid (HB.out.upd hu3)
        replace HO := Lib.hid hO3
        clear hO3 hu3
        go_wp2_with fail
        refine (topic_filter true f w3 (HO.out.tabs HT.out) HF.out HBF.out).mono ?_
        rintro e w4 ⟨rfl, hk4⟩
        replace HO := Lib.hid (HO.out.below hk4)
        replace HB := Lib.hid (HB.out.below hk4)
        clear hk4
        go_wp2_with fail
        refine (rem_x t _ _ f k true Gs G2 w _ w4 HO.out HT.out HF.out HKS.out (by omega) (by simpa using HMEM.out) HE2.out).mono ?_
        rintro e w6 ⟨rfl, N6, F6, hO6, hu6⟩
        replace HB := Lib.hid (HB.out.upd hu6)
        replace HO := Lib.hid hO6
        clear hO6 hu6
        go_wp2_with fail
        refine (of_x t _ _ k L G2 w _ w6 HO.out (by omega) HLL.out).mono ?_
        rintro e w5 ⟨a4, c4, rfl, hr4, hk4⟩
        replace HO := Lib.hid (HO.out.below hk4)
        replace HB := Lib.hid (HB.out.below hk4)
        have HR := Lib.hid hr4
        clear hr4 hk4
        go_wp2_with fail
        refine (has_x false a4 _ c4 L f w5 HR.out HOL.out rfl (by simpa using HOF.out)).mono ?_
        rintro e w7 ⟨rfl, rfl⟩
        clear HR
        go_wp2_with fail
        refine (add_x t _ _ f k true G2 Gs w _ w5 HO.out HT.out HF.out HKS.out (by omega) HAD2.out HG2.out).mono ?_
        rintro e w3 ⟨rfl, N8, F8, hO3, hu3⟩
        replace HB := Lib.hid (HB.out.upd hu3)
        replace HO := Lib.hid hO3
        clear hO3 hu3
        go_wp2_with fail
        refine (all_x t _ _ Gs w _ _ HO.out (by omega)).mono ?_
        rintro e w7 ⟨a7, c7, rfl, hb7, hk7⟩
        replace HO := Lib.hid (HO.out.below hk7)
        replace HB := Lib.hid (HB.out.below hk7)
        have HB7 := Lib.hid hb7
        clear hb7 hk7
        go_wp2_with fail
        refine (sameH_x true a7 av c7 cv _ _ Gs Gs w7 HB7.out.row HB.out.row HLN.out rfl rfl (by simp)).mono ?_
        rintro e w8 ⟨rfl, nd, rfl⟩
        replace HO := Lib.hid (HO.out.drewN nd)
        clear HB7 HB
        generalize w7.drewN nd = W8 at *
        go_wp2_with fail
        refine (nodes_x t _ _ nn Gs w _ W8 HO.out HNOD.out).mono ?_
        rintro e w9 ⟨rfl, rfl⟩
        go_wp2_with fail
        refine (awake_true W8 (HO.out.tabs HT.out)).mono ?_
        rintro e w10 ⟨rfl, hk10⟩
        replace HO := Lib.hid (HO.out.below hk10)
        clear hk10
        go_wp2_with fail
        go_ret
        exact ⟨rfl, HO.out.bel⟩
      | false =>
        have hmem : (f.data.toList, k.data.toList) ∉ Gs := fun h => by
          have h1 := (HFI.out _ h).1
          rw [HBF.out] at h1
          cases h1
        have hG1 : addG Gs f.data.toList k.data.toList = Gs := by unfold addG; rw [HADD.out]; rfl
        have HG1 := Lib.hid hG1
        have HMEM := Lib.hid hmem
        clear hmem hG1 hcase
        go_wp2_with fail
        refine (add_x t N 60 f k false Gs Gs w F w2 HO.out HT.out HF.out HKS.out (by omega) HADD.out HG1.out).mono ?_
        rintro e w3 ⟨rfl, N3, F3, hO3, hu3⟩
        replace HB := Lib.hid (HB.out.upd hu3)
        replace HO := Lib.hid hO3
        clear hO3 hu3
        go_wp2_with fail
        refine (topic_filter false f w3 (HO.out.tabs HT.out) HF.out HBF.out).mono ?_
        rintro e w4 ⟨rfl, hk4⟩
        replace HO := Lib.hid (HO.out.below hk4)
        replace HB := Lib.hid (HB.out.below hk4)
        clear hk4
        go_wp2_with fail
        refine (rem_x t _ _ f k false Gs Gs w _ w4 HO.out HT.out HF.out HKS.out (by omega) (by simpa using HMEM.out) (List.erase_of_not_mem HMEM.out)).mono ?_
        rintro e w6 ⟨rfl, N6, F6, hO6, hu6⟩
        replace HB := Lib.hid (HB.out.upd hu6)
        replace HO := Lib.hid hO6
        clear hO6 hu6
        go_wp2_with fail
        refine (all_x t _ _ Gs w _ _ HO.out (by omega)).mono ?_
        rintro e w7 ⟨a7, c7, rfl, hb7, hk7⟩
        replace HO := Lib.hid (HO.out.below hk7)
        replace HB := Lib.hid (HB.out.below hk7)
        have HB7 := Lib.hid hb7
        clear hb7 hk7
        go_wp2_with fail
        refine (sameH_x true a7 av c7 cv _ _ Gs Gs w7 HB7.out.row HB.out.row HLN.out rfl rfl (by simp)).mono ?_
        rintro e w8 ⟨rfl, nd, rfl⟩
        replace HO := Lib.hid (HO.out.drewN nd)
        clear HB7 HB
        generalize w7.drewN nd = W8 at *
        go_wp2_with fail
        refine (nodes_x t _ _ nn Gs w _ W8 HO.out HNOD.out).mono ?_
        rintro e w9 ⟨rfl, rfl⟩
        go_wp2_with fail
        refine (awake_true W8 (HO.out.tabs HT.out)).mono ?_
        rintro e w10 ⟨rfl, hk10⟩
        replace HO := Lib.hid (HO.out.below hk10)
        clear hk10
        go_wp2_with fail
        go_ret
        exact ⟨rfl, HO.out.bel⟩
end Go.Proofs.YtcnjgenacpkdbaaGreatDoor
