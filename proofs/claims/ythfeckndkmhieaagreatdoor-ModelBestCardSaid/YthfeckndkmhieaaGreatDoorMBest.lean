/- ModelBest walked. -/
import Derived.Test.YthfeckndkmhieaaGreatDoorMBestP
namespace Go.Proofs.YthfeckndkmhieaaGreatDoor
open Go Go.RowKit Go.Maps

def takeB (CL NM : Str) (l : List Hint) : Bool := l.any fun x => x.2 == CL && matchB x.1 NM
theorem takeB_snoc (CL NM : Str) (l : List Hint) (x : Hint) : takeB CL NM (l ++ [x]) = (takeB CL NM l || (x.2 == CL && matchB x.1 NM)) := by simp [takeB]
theorem takeB_ex (CL NM : Str) (l : List Hint) : decide (∃ x ∈ l, x.2 = CL ∧ matchB x.1 NM = true) = takeB CL NM l := by
  rw [Bool.eq_iff_iff, decide_eq_true_eq]
  unfold takeB
  rw [List.any_eq_true]
  simp
set_option maxRecDepth 100000 in
set_option maxHeartbeats 16000000 in
theorem best_true (a : Option Addr) (c : Nat) (l : List Note) (CL NM : Str) (qos : Int) (w : World) (hq0 : 0 ≤ qos) (hq1 : qos ≤ 255) (ha : Row w a (notesV l)) (hok : ∀ n ∈ l, n.ok w) (hT : Tabs w) (hgr : GreatQ a c l w) :
    Calls Tryz.prog 7 #[.slice a l.length c, .string ⟨CL.toArray⟩, .string ⟨NM.toArray⟩, .int .u8 qos] w fun e w' => e = .returned (.bool true) ∧ Below w.heap.size w w' := by
  have HT := Lib.hid hT
  have HA := Lib.hid ha
  have HOK := Lib.hid hok
  unfold GreatQ at hgr
  have HGR := Lib.hid hgr
  have hcs : ((⟨CL.toArray⟩ : ByteArray).size : Int) = CL.length := by show ((CL.toArray.size : Nat) : Int) = _; simp
  have hns : ((⟨NM.toArray⟩ : ByteArray).size : Int) = NM.length := by show ((NM.toArray.size : Nat) : Int) = _; simp
  clear hT ha hok hgr
  go_enter Tryz.func7, Tryz.ntmps7
  go_wp2_with fail
  refine HGR.out.mono ?_
  rintro e w1 ⟨g, rfl, hg, hk1⟩
  have HG := Lib.hid hg
  have HK1 := Lib.hid hk1
  clear hg hk1 HGR
  have HAW := Lib.hid (awake_true w1 (HT.out.below HK1.out))
  cases g with
  | true =>
    go_wp2_with fail
    refine HAW.out.mono ?_
    rintro e w2 ⟨rfl, hk⟩
    have HK := Lib.hid (bnext HK1.out (Nat.le_refl _) hk)
    clear hk
    go_wp2_with fail
    go_ret
    exact ⟨rfl, HK.out⟩
  | false =>
  obtain ⟨hl200, hsm⟩ := HG.out rfl
  have HSM := Lib.hid hsm
  clear HG hsm
  by_cases hc : (300 : Int) < CL.length
  · go_wp2_with fail
    refine HAW.out.mono ?_
    rintro e w2 ⟨rfl, hk⟩
    have HK := Lib.hid (bnext HK1.out (Nat.le_refl _) hk)
    clear hk
    go_wp2_with fail
    go_ret
    exact ⟨rfl, HK.out⟩
  by_cases hn : (1000 : Int) < NM.length
  · go_wp2_with fail
    refine HAW.out.mono ?_
    rintro e w2 ⟨rfl, hk⟩
    have HK := Lib.hid (bnext HK1.out (Nat.le_refl _) hk)
    clear hk
    go_wp2_with fail
    go_ret
    exact ⟨rfl, HK.out⟩
  have HCS := Lib.hid (show (⟨CL.toArray⟩ : ByteArray).size ≤ maxLen by unfold maxLen; omega)
  have HNS := Lib.hid (show (⟨NM.toArray⟩ : ByteArray).size ≤ 1000 by omega)
  clear HAW
  go_wp2_with fail
  refine (mnew_x w w1 HK1.out).mono ?_
  rintro e w2 ⟨m, F0, rfl, hM, -⟩
  have HM0 := Lib.hid hM
  clear hM
  go_wp2_with fail
  go_loopw [10] (fun i wr => ∃ k : Nat, i = .int .i64 k ∧ k ≤ l.length ∧ ∃ s F, Hid (Mo w wr k m s F)) (fun i _ => (l.length - intOf i).toNat)
  case atStart => exact ⟨0, rfl, by omega, _, _, HM0⟩
  case round =>
    obtain ⟨k, rfl, hk, s, F, HW⟩ := hrel
    clear HM0
    by_cases hlt : k < l.length
    · have hk0 : (0 : Int) ≤ k := by omega
      have hkl : (k : Int) < l.length := by omega
      have HXO := Lib.hid (noteOk_in (HOK.out _ (List.getElem_mem hlt)) (HSM.out _ (List.getElem_mem hlt)))
      have HXS := Lib.hid (note_subs (HOK.out _ (List.getElem_mem hlt)))
      obtain ⟨b, o, rfl, hrg⟩ := notes_row (HA.out.below HW.out.bel (Nat.le_refl _)) hlt
      have HRG := Lib.hid hrg
      clear hrg
      generalize l[k] = x at *
      have hk1 : k ≤ 200 := by omega
      have HNZ := Lib.hid (note_len35 x)
      obtain ⟨⟨A, t⟩, hA⟩ : ∃ r, applyM x s = r := ⟨_, rfl⟩
      have HAP := Lib.hid (apply_x k m x A s t w F wr HW.out HT.out HXO.out (HW.out.beside HXS.out) (by omega) hA)
      clear hA
      generalize x.cells = NL at *
      go_wp2_with (first | (refine wpList_loadM (by kernel_rfl) 32 _ rfl b (o + k * 35) rfl NL _ HRG.out Tryz.underlying32 rfl HNZ.out ?_) | fail)
      refine HAP.out.mono ?_
      rintro e w5 ⟨rfl, F2, hM, -⟩
      have HM := Lib.hid hM
      clear hM
      go_wp2_with fail
      go_roundw
      case rel => exact ⟨k + 1, by go_num, by omega, t, F2, HM⟩
      case measure => simp [intOf]; omega
    · have hkl : ¬ (k : Int) < l.length := by omega
      have hk2 : k ≤ 200 := by omega
      have HN := Lib.hid (show k + 2 ≤ 10000 by omega)
      obtain ⟨L, hL⟩ : ∃ L, listsM s.seats = L := ⟨_, rfl⟩
      have EL := Lib.hid hL
      have HRS : Hid (HRising L) := Lib.hid (by rw [← hL]; exact (listsM_ok HW.out.ok).1)
      have HFL : Hid (∀ x ∈ L, x.1.length < 4294967281) := Lib.hid (fun x hx => by
        rw [← hL] at hx
        obtain ⟨s', hs, hf⟩ := (mem_listsM HW.out.ok (f := x.1) (c := x.2)).1 hx
        obtain ⟨y, hy, e⟩ := List.mem_map.1 hf
        rw [← e]
        exact ((HW.out.ok.look hs).2.2.1 y hy).2.2.2)
      obtain ⟨⟨q, tk⟩, hbo⟩ : ∃ r, bestOf NM (lookS CL s.seats) = r := ⟨_, rfl⟩
      have ETK : Hid (tk = takeB CL NM L) := Lib.hid (by
        have := best_iff HW.out.ok CL NM
        rw [hbo, hL, takeB_ex] at this
        exact this)
      have EB := Lib.hid hbo
      obtain ⟨cn, hcn⟩ : ∃ z, connOf (lookS CL s.seats) = z := ⟨_, rfl⟩
      have EC := Lib.hid hcn
      clear hL hbo hcn HOK HSM HA
      go_wp2_with fail
      refine (mlists_x k m s L w F wr HW.out (by omega) EL.out).mono ?_
      rintro e w5 ⟨a0, c0, rfl, hl0, hb0, hk5⟩
      have HR0 := Lib.hid hb0.row
      have HL0 := Lib.hid hl0
      replace HW := Lib.hid (HW.out.below hk5)
      clear hl0 hb0 hk5
      have hl0' : (L.length : Int) ≤ 160000 := by have := HL0.out; omega
      go_wp2_with fail
      go_loopw [12, 13] (fun v i wq => ∃ j : Nat, i = .int .i64 j ∧ j ≤ L.length ∧ v = .bool (takeB CL NM (L.take j)) ∧ Below w5.heap.size w5 wq) (fun _ i _ => (L.length - intOf i).toNat)
      case atStart => exact ⟨0, rfl, by omega, rfl, Below.refl _ _⟩
      case round =>
        obtain ⟨j, rfl, hj, rfl, hbq⟩ := hrel
        have HBQ := Lib.hid hbq
        clear hbq
        by_cases hlt : j < L.length
        · have hj0 : (0 : Int) ≤ j := by omega
          have hjl : (j : Int) < L.length := by omega
          obtain ⟨b1, o1, hae, d0, d1⟩ := hints_row (HR0.out.below HBQ.out (Nat.le_refl _)) hlt
          have HTK := Lib.hid (show takeB CL NM (L.take (j + 1)) = (takeB CL NM (L.take j) || (L[j].2 == CL && matchB L[j].1 NM)) by rw [List.take_succ_eq_append_getElem hlt, takeB_snoc])
          have HYL := Lib.hid (HFL.out _ (List.getElem_mem hlt))
          obtain ⟨⟨yf, yc⟩, hye⟩ : ∃ y, L[j] = y := ⟨_, rfl⟩
          have HYE := Lib.hid hye
          rw [hye] at d0 d1 HTK HYL
          dsimp only at d0 d1 HTK HYL
          clear hye
          subst hae
          obtain ⟨tj, htj⟩ : ∃ z, takeB CL NM (L.take j) = z := ⟨_, rfl⟩
          rw [htj] at HTK ⊢
          clear htj
          cases tj with
          | true =>
            have HTS := Lib.hid (show takeB CL NM (L.take (j + 1)) = true by rw [HTK.out]; rfl)
            have HBX := Lib.hid HBQ.out
            clear HTK HBQ d0 d1
            by_cases hj1 : j = 0
            · subst hj1
              go_wp2_with fail
              go_quiet (fail)
              have HBQ3 := Lib.hid (Go.below_drewN HBX.out nq)
              clear HBX
              go_wp2_with fail
              go_roundw
              case rel => exact ⟨0 + 1, by go_num, by omega, by rw [HTS.out], HBQ3.out⟩
              case measure => simp [intOf]; omega
            · obtain ⟨p, rfl⟩ : ∃ p, j = p + 1 := ⟨j - 1, by omega⟩
              have hpl : p < L.length := by omega
              obtain ⟨b2, o2, e2, f0, f1⟩ := hints_row (HR0.out.below HBX.out (Nat.le_refl _)) hpl
              obtain ⟨b3, o3, e3, d0, d1⟩ := hints_row (HR0.out.below HBX.out (Nat.le_refl _)) hlt
              rw [e2] at e3
              cases e3
              cases e2
              have hah : Ahead L[p] L[p + 1] := List.pairwise_iff_getElem.1 HRS.out p (p + 1) hpl hlt (by omega)
              rw [HYE.out] at hah d0 d1
              generalize L[p] = pv at *
              obtain ⟨pf, pc⟩ := pv
              dsimp only at f0 f1 d0 d1
              have hg1 : Op.bytesLess yf pf = false := by
                rw [bytesLess_eq]
                rcases hah with h | ⟨h, -⟩
                · exact decide_eq_false (fun h2 => List.lt_irrefl _ (List.lt_trans h h2))
                · rw [show pf = yf from h]; exact decide_eq_false (List.lt_irrefl _)
              have hw1 : IntKind.i64.wrap ((p : Int) + 1 - 1) = p := by rw [w_i64 _ (by omega) (by omega)]; omega
              have hw2 : IntKind.i64.wrap (p : Int) = p := w_i64 _ (by omega) (by omega)
              have hp0 : (0 : Int) ≤ p := by omega
              have hp1 : (0 : Int) < (p : Int) + 1 := by omega
              have hp2 : (p : Int) < L.length := by omega
              have hp3 : (p : Int) + 1 < L.length := by omega
              have hp4 : (0 : Int) ≤ (p : Int) + 1 := by omega
              by_cases hfe : pf = yf
              · have hg2 : (pf == yf) = true := by simpa using hfe
                have hg3 : Op.bytesLess pc yc = true := by
                  rw [bytesLess_eq]
                  rcases hah with h | ⟨-, h⟩
                  · exact absurd hfe (lt_ne h)
                  · exact decide_eq_true h
                clear hah hfe
                go_wp2_with fail
                go_quiet (fail)
                have HBQ3 := Lib.hid (Go.below_drewN HBX.out nq)
                clear HBX
                go_wp2_with fail
                go_roundw
                case rel => exact ⟨p + 1 + 1, by go_num, by omega, by rw [HTS.out], HBQ3.out⟩
                case measure => simp [intOf]; omega
              · have hg2 : (pf == yf) = false := by simpa using hfe
                have hg4 : Op.bytesLess pf yf = true := by
                  rw [bytesLess_eq]
                  rcases hah with h | ⟨h, -⟩
                  · exact decide_eq_true h
                  · exact absurd h hfe
                clear hah hfe
                go_wp2_with fail
                go_quiet (fail)
                have HBQ3 := Lib.hid (Go.below_drewN HBX.out nq)
                clear HBX
                go_wp2_with fail
                go_roundw
                case rel => exact ⟨p + 1 + 1, by go_num, by omega, by rw [HTS.out], HBQ3.out⟩
                case measure => simp [intOf]; omega
          | false =>
          by_cases hyc : yc = CL
          · have hq : (yc == CL) = true := by simpa using hyc
            obtain ⟨bm, hbm⟩ : ∃ z, matchB yf NM = z := ⟨_, rfl⟩
            have HMM := Lib.hid (match_any ⟨yf.toArray⟩ ⟨NM.toArray⟩ wr ((HW.out.tabs HT.out).below HBQ.out) (by show yf.toArray.size < _; have := HYL.out; simpa using this) (by have := HNS.out; omega))
            rw [show matchB (⟨yf.toArray⟩ : ByteArray).data.toList (⟨NM.toArray⟩ : ByteArray).data.toList = bm from hbm] at HMM
            have HTS := Lib.hid (show takeB CL NM (L.take (j + 1)) = bm by rw [HTK.out, hq, hbm]; rfl)
            clear HTK hbm hyc
            go_wp2_with fail
            refine HMM.out.mono ?_
            rintro e w6 ⟨rfl, hk6⟩
            have HBX := Lib.hid (bnext HBQ.out (Nat.le_refl _) hk6)
            clear hk6 HMM HBQ hq d0 d1
            cases bm with
            | true =>
            by_cases hj1 : j = 0
            · subst hj1
              go_wp2_with fail
              go_quiet (fail)
              have HBQ3 := Lib.hid (Go.below_drewN HBX.out nq)
              clear HBX
              go_wp2_with fail
              go_roundw
              case rel => exact ⟨0 + 1, by go_num, by omega, by rw [HTS.out], HBQ3.out⟩
              case measure => simp [intOf]; omega
            · obtain ⟨p, rfl⟩ : ∃ p, j = p + 1 := ⟨j - 1, by omega⟩
              have hpl : p < L.length := by omega
              obtain ⟨b2, o2, e2, f0, f1⟩ := hints_row (HR0.out.below HBX.out (Nat.le_refl _)) hpl
              obtain ⟨b3, o3, e3, d0, d1⟩ := hints_row (HR0.out.below HBX.out (Nat.le_refl _)) hlt
              rw [e2] at e3
              cases e3
              cases e2
              have hah : Ahead L[p] L[p + 1] := List.pairwise_iff_getElem.1 HRS.out p (p + 1) hpl hlt (by omega)
              rw [HYE.out] at hah d0 d1
              generalize L[p] = pv at *
              obtain ⟨pf, pc⟩ := pv
              dsimp only at f0 f1 d0 d1
              have hg1 : Op.bytesLess yf pf = false := by
                rw [bytesLess_eq]
                rcases hah with h | ⟨h, -⟩
                · exact decide_eq_false (fun h2 => List.lt_irrefl _ (List.lt_trans h h2))
                · rw [show pf = yf from h]; exact decide_eq_false (List.lt_irrefl _)
              have hw1 : IntKind.i64.wrap ((p : Int) + 1 - 1) = p := by rw [w_i64 _ (by omega) (by omega)]; omega
              have hw2 : IntKind.i64.wrap (p : Int) = p := w_i64 _ (by omega) (by omega)
              have hp0 : (0 : Int) ≤ p := by omega
              have hp1 : (0 : Int) < (p : Int) + 1 := by omega
              have hp2 : (p : Int) < L.length := by omega
              have hp3 : (p : Int) + 1 < L.length := by omega
              have hp4 : (0 : Int) ≤ (p : Int) + 1 := by omega
              by_cases hfe : pf = yf
              · have hg2 : (pf == yf) = true := by simpa using hfe
                have hg3 : Op.bytesLess pc yc = true := by
                  rw [bytesLess_eq]
                  rcases hah with h | ⟨-, h⟩
                  · exact absurd hfe (lt_ne h)
                  · exact decide_eq_true h
                clear hah hfe
                go_wp2_with fail
                go_quiet (fail)
                have HBQ3 := Lib.hid (Go.below_drewN HBX.out nq)
                clear HBX
                go_wp2_with fail
                go_roundw
                case rel => exact ⟨p + 1 + 1, by go_num, by omega, by rw [HTS.out], HBQ3.out⟩
                case measure => simp [intOf]; omega
              · have hg2 : (pf == yf) = false := by simpa using hfe
                have hg4 : Op.bytesLess pf yf = true := by
                  rw [bytesLess_eq]
                  rcases hah with h | ⟨h, -⟩
                  · exact decide_eq_true h
                  · exact absurd h hfe
                clear hah hfe
                go_wp2_with fail
                go_quiet (fail)
                have HBQ3 := Lib.hid (Go.below_drewN HBX.out nq)
                clear HBX
                go_wp2_with fail
                go_roundw
                case rel => exact ⟨p + 1 + 1, by go_num, by omega, by rw [HTS.out], HBQ3.out⟩
                case measure => simp [intOf]; omega
            | false =>
            by_cases hj1 : j = 0
            · subst hj1
              go_wp2_with fail
              go_quiet (fail)
              have HBQ3 := Lib.hid (Go.below_drewN HBX.out nq)
              clear HBX
              go_wp2_with fail
              go_roundw
              case rel => exact ⟨0 + 1, by go_num, by omega, by rw [HTS.out], HBQ3.out⟩
              case measure => simp [intOf]; omega
            · obtain ⟨p, rfl⟩ : ∃ p, j = p + 1 := ⟨j - 1, by omega⟩
              have hpl : p < L.length := by omega
              obtain ⟨b2, o2, e2, f0, f1⟩ := hints_row (HR0.out.below HBX.out (Nat.le_refl _)) hpl
              obtain ⟨b3, o3, e3, d0, d1⟩ := hints_row (HR0.out.below HBX.out (Nat.le_refl _)) hlt
              rw [e2] at e3
              cases e3
              cases e2
              have hah : Ahead L[p] L[p + 1] := List.pairwise_iff_getElem.1 HRS.out p (p + 1) hpl hlt (by omega)
              rw [HYE.out] at hah d0 d1
              generalize L[p] = pv at *
              obtain ⟨pf, pc⟩ := pv
              dsimp only at f0 f1 d0 d1
              have hg1 : Op.bytesLess yf pf = false := by
                rw [bytesLess_eq]
                rcases hah with h | ⟨h, -⟩
                · exact decide_eq_false (fun h2 => List.lt_irrefl _ (List.lt_trans h h2))
                · rw [show pf = yf from h]; exact decide_eq_false (List.lt_irrefl _)
              have hw1 : IntKind.i64.wrap ((p : Int) + 1 - 1) = p := by rw [w_i64 _ (by omega) (by omega)]; omega
              have hw2 : IntKind.i64.wrap (p : Int) = p := w_i64 _ (by omega) (by omega)
              have hp0 : (0 : Int) ≤ p := by omega
              have hp1 : (0 : Int) < (p : Int) + 1 := by omega
              have hp2 : (p : Int) < L.length := by omega
              have hp3 : (p : Int) + 1 < L.length := by omega
              have hp4 : (0 : Int) ≤ (p : Int) + 1 := by omega
              by_cases hfe : pf = yf
              · have hg2 : (pf == yf) = true := by simpa using hfe
                have hg3 : Op.bytesLess pc yc = true := by
                  rw [bytesLess_eq]
                  rcases hah with h | ⟨-, h⟩
                  · exact absurd hfe (lt_ne h)
                  · exact decide_eq_true h
                clear hah hfe
                go_wp2_with fail
                go_quiet (fail)
                have HBQ3 := Lib.hid (Go.below_drewN HBX.out nq)
                clear HBX
                go_wp2_with fail
                go_roundw
                case rel => exact ⟨p + 1 + 1, by go_num, by omega, by rw [HTS.out], HBQ3.out⟩
                case measure => simp [intOf]; omega
              · have hg2 : (pf == yf) = false := by simpa using hfe
                have hg4 : Op.bytesLess pf yf = true := by
                  rw [bytesLess_eq]
                  rcases hah with h | ⟨h, -⟩
                  · exact decide_eq_true h
                  · exact absurd h hfe
                clear hah hfe
                go_wp2_with fail
                go_quiet (fail)
                have HBQ3 := Lib.hid (Go.below_drewN HBX.out nq)
                clear HBX
                go_wp2_with fail
                go_roundw
                case rel => exact ⟨p + 1 + 1, by go_num, by omega, by rw [HTS.out], HBQ3.out⟩
                case measure => simp [intOf]; omega
          · have hq : (yc == CL) = false := by simpa using hyc
            have HTS := Lib.hid (show takeB CL NM (L.take (j + 1)) = false by rw [HTK.out, hq]; rfl)
            have HBX := Lib.hid HBQ.out
            clear HTK HBQ hyc
            by_cases hj1 : j = 0
            · subst hj1
              go_wp2_with fail
              go_quiet (fail)
              have HBQ3 := Lib.hid (Go.below_drewN HBX.out nq)
              clear HBX
              go_wp2_with fail
              go_roundw
              case rel => exact ⟨0 + 1, by go_num, by omega, by rw [HTS.out], HBQ3.out⟩
              case measure => simp [intOf]; omega
            · obtain ⟨p, rfl⟩ : ∃ p, j = p + 1 := ⟨j - 1, by omega⟩
              have hpl : p < L.length := by omega
              obtain ⟨b2, o2, e2, f0, f1⟩ := hints_row (HR0.out.below HBX.out (Nat.le_refl _)) hpl
              obtain ⟨b3, o3, e3, d0, d1⟩ := hints_row (HR0.out.below HBX.out (Nat.le_refl _)) hlt
              rw [e2] at e3
              cases e3
              cases e2
              have hah : Ahead L[p] L[p + 1] := List.pairwise_iff_getElem.1 HRS.out p (p + 1) hpl hlt (by omega)
              rw [HYE.out] at hah d0 d1
              generalize L[p] = pv at *
              obtain ⟨pf, pc⟩ := pv
              dsimp only at f0 f1 d0 d1
              have hg1 : Op.bytesLess yf pf = false := by
                rw [bytesLess_eq]
                rcases hah with h | ⟨h, -⟩
                · exact decide_eq_false (fun h2 => List.lt_irrefl _ (List.lt_trans h h2))
                · rw [show pf = yf from h]; exact decide_eq_false (List.lt_irrefl _)
              have hw1 : IntKind.i64.wrap ((p : Int) + 1 - 1) = p := by rw [w_i64 _ (by omega) (by omega)]; omega
              have hw2 : IntKind.i64.wrap (p : Int) = p := w_i64 _ (by omega) (by omega)
              have hp0 : (0 : Int) ≤ p := by omega
              have hp1 : (0 : Int) < (p : Int) + 1 := by omega
              have hp2 : (p : Int) < L.length := by omega
              have hp3 : (p : Int) + 1 < L.length := by omega
              have hp4 : (0 : Int) ≤ (p : Int) + 1 := by omega
              by_cases hfe : pf = yf
              · have hg2 : (pf == yf) = true := by simpa using hfe
                have hg3 : Op.bytesLess pc yc = true := by
                  rw [bytesLess_eq]
                  rcases hah with h | ⟨-, h⟩
                  · exact absurd hfe (lt_ne h)
                  · exact decide_eq_true h
                clear hah hfe
                go_wp2_with fail
                go_quiet (fail)
                have HBQ3 := Lib.hid (Go.below_drewN HBX.out nq)
                clear HBX
                go_wp2_with fail
                go_roundw
                case rel => exact ⟨p + 1 + 1, by go_num, by omega, by rw [HTS.out], HBQ3.out⟩
                case measure => simp [intOf]; omega
              · have hg2 : (pf == yf) = false := by simpa using hfe
                have hg4 : Op.bytesLess pf yf = true := by
                  rw [bytesLess_eq]
                  rcases hah with h | ⟨h, -⟩
                  · exact decide_eq_true h
                  · exact absurd h hfe
                clear hah hfe
                go_wp2_with fail
                go_quiet (fail)
                have HBQ3 := Lib.hid (Go.below_drewN HBX.out nq)
                clear HBX
                go_wp2_with fail
                go_roundw
                case rel => exact ⟨p + 1 + 1, by go_num, by omega, by rw [HTS.out], HBQ3.out⟩
                case measure => simp [intOf]; omega
        · have hjl : ¬ (j : Int) < L.length := by omega
          rw [List.take_of_length_le (by omega), ← ETK.out]
          replace HW := Lib.hid (HW.out.below HBQ.out)
          clear HBQ HR0
          have HK2 := Lib.hid (show k ≤ 10000 by omega)
          go_wp2_with fail
          refine (mbest_x q tk k m s ⟨CL.toArray⟩ ⟨NM.toArray⟩ w F wr HW.out HT.out HCS.out HNS.out EB.out).mono ?_
          rintro e w6 ⟨rfl, hk6⟩
          replace HW := Lib.hid (HW.out.below hk6)
          clear hk6
          go_wp2_with fail
          refine (mconn_x cn k m s ⟨CL.toArray⟩ w F w6 HW.out HCS.out EC.out).mono ?_
          rintro e w7 ⟨rfl, rfl⟩
          have HAWK := Lib.hid (awake_true w6 (HW.out.tabs HT.out))
          by_cases hcn : cn = 0
          · subst hcn
            cases tk <;>
            · go_wp2_with fail
              refine HAWK.out.mono ?_
              rintro e w8 ⟨rfl, hk8⟩
              have HZ := Lib.hid (bnext HW.out.bel (Nat.le_refl _) hk8)
              clear hk8
              go_wp2_with fail
              go_ret
              exact ⟨rfl, HZ.out⟩
          obtain ⟨st, hst, hsc⟩ := conn_has (show connOf (lookS CL s.seats) ≠ 0 by rw [EC.out]; exact hcn)
          have HST := Lib.hid hst
          rw [EC.out] at hsc
          have hcp : (0 : Int) < cn := by have := (HW.out.ok.look hst).1; omega
          have hce : (cn == 0) = false := by simpa using hcn
          have HSC := Lib.hid hsc
          have HCN := Lib.hid hcn
          clear hst hsc hcn
          obtain ⟨nb, hnb⟩ : ∃ z, nameB NM = z := ⟨_, rfl⟩
          have HNM := Lib.hid (show Calls Tryz.prog 29 #[.string ⟨NM.toArray⟩] w6 fun e w' => e = .returned (.bool nb) ∧ Below w6.heap.size w6 w' by rw [← hnb]; exact name_all ⟨NM.toArray⟩ w6 (HW.out.tabs HT.out) (by have := HNS.out; omega))
          have HNB := Lib.hid hnb
          clear hnb
          have HHS := Lib.hid (mhas_x true k m s ⟨CL.toArray⟩ w F w6 HW.out HCS.out (show (lookS CL s.seats).isSome = true by rw [HST.out]; rfl))
          cases tk <;>
          · go_wp2_with fail
            refine HHS.out.mono ?_
            rintro e w8 ⟨rfl, rfl⟩
            go_wp2_with fail
            refine HNM.out.mono ?_
            rintro e w8 ⟨rfl, hk8⟩
            have HW8 := Lib.hid (HW.out.below hk8)
            clear hk8
            cases nb with
            | false =>
              have HAWK8 := Lib.hid (awake_true w8 (HW8.out.tabs HT.out))
              go_wp2_with fail
              refine HAWK8.out.mono ?_
              rintro e w9 ⟨rfl, hk9⟩
              have HZ := Lib.hid (bnext HW8.out.bel (Nat.le_refl _) hk9)
              clear hk9
              go_wp2_with fail
              go_ret
              exact ⟨rfl, HZ.out⟩
            | true =>
              obtain ⟨t1, cu, hx8, ha8, hcu, hun⟩ := best_plan (CL := CL) (NM := NM) (q := qos) w8.heap.size HW8.out.ok HST.out (by rw [HSC.out]; exact HCN.out) HNB.out HCS.out (by have := HNS.out; omega) hq0 hq1
              rw [HSC.out] at hx8 ha8 hun
              have HX8 := Lib.hid hx8
              have HCU := Lib.hid hcu
              have HUN := Lib.hid hun
              have HPS := Lib.hid (built_pks 8 (some ⟨w8.heap.size, 0, none⟩) 1 1 [(NM, qos)] rfl)
              have D1 : Hid (∀ v, Calls Tryz.prog 10 #[.string ⟨CL.toArray⟩, .int .i64 cn, .agg (pkOf 8 false (some ⟨w8.heap.size, 0, none⟩) 1 [(NM, qos)]).cells.toArray] v fun e w' => e = .returned (.agg (doesN ⟨CL.toArray⟩ cn (pkOne 8 w8.heap.size NM qos)).cells.toArray) ∧ Below v.heap.size v w') := Lib.hid (fun v => does_any ⟨CL.toArray⟩ cn (pkOne 8 w8.heap.size NM qos) v)
              have HAP1 := Lib.hid (fun X F (h : Mo w X k m s F) hr => apply_x k m (doesN ⟨CL.toArray⟩ cn (pkOne 8 w8.heap.size NM qos)) ([cu], false, true) s t1 w F X h HT.out HX8.out hr (by omega) ha8)
              obtain ⟨⟨z, bz⟩, hz⟩ : ∃ r, bestOf NM (lookS CL t1.seats) = r := ⟨_, rfl⟩
              rw [hz] at HCU
              have EZ := Lib.hid hz
              clear hx8 ha8 hcu hun hz
              generalize (pkOf 8 false (some ⟨w8.heap.size, 0, none⟩) 1 [(NM, qos)]).cells.toArray = P1 at *
              generalize (doesN ⟨CL.toArray⟩ cn (pkOne 8 w8.heap.size NM qos)).cells.toArray = N1 at *
              dsimp only at HAP1
              go_wp2_with (first
                | (refine wpList_buildG (by kernel_rfl) 29 #[(0, .const (.int .u8 8)), (19, .tmp _)] rfl _ rfl P1 [(0, .int .u8 8), (19, .slice (some ⟨w8.heap.size, 0, none⟩) 1 1)] (by kernel_rfl) HPS.out ?_)
                | fail)
              refine (D1.out _).mono ?_
              rintro e w9 ⟨rfl, hk9⟩
              have HA1 := Lib.hid (((Aw.start HW8.out).alloc w8.heap.size rfl #[.string ⟨NM.toArray⟩, .int .u8 qos] 39).below hk9)
              clear hk9
              go_wp2_with fail
              refine (HAP1.out _ _ HA1.out.mo (HA1.out.row (List.mem_cons_self ..) rfl)).mono ?_
              rintro e w10 ⟨rfl, F3, hM10, -⟩
              have HM10 := Lib.hid hM10
              clear hM10 HA1
              go_wp2_with fail
              refine (mbest_x z bz (k + 1) m t1 ⟨CL.toArray⟩ ⟨NM.toArray⟩ w F3 w10 HM10.out HT.out HCS.out HNS.out EZ.out).mono ?_
              rintro e w10b ⟨rfl, hk10⟩
              have HM10b := Lib.hid (HM10.out.below hk10)
              clear hk10 HM10
              have hgo : ∀ w11 : World, Below w10b.heap.size w10b w11 → Hid (Mo w w11 (k + 1) m t1 F3) := fun w11 h => Lib.hid (HM10b.out.below h)
              have HGO := Lib.hid hgo
              clear hgo
              have hdn : Below w10b.heap.size w10b w10b := Below.refl _ _
              rcases HCU.out with rfl | ⟨hq2, hcne, hcq, z', hz', hzq⟩
              · clear HCU
                obtain ⟨hx10, t2, ha10, hnin⟩ := HUN.out w10b.heap.size
                have HX10 := Lib.hid hx10
                have HNIN0 := Lib.hid hnin
                have HPS2 := Lib.hid (built_pks 10 (some ⟨w10b.heap.size, 0, none⟩) 1 1 [(NM, 0)] rfl)
                have D2 : Hid (∀ v, Calls Tryz.prog 10 #[.string ⟨CL.toArray⟩, .int .i64 cn, .agg (pkOf 10 false (some ⟨w10b.heap.size, 0, none⟩) 1 [(NM, 0)]).cells.toArray] v fun e w' => e = .returned (.agg (doesN ⟨CL.toArray⟩ cn (pkOne 10 w10b.heap.size NM 0)).cells.toArray) ∧ Below v.heap.size v w') := Lib.hid (fun v => does_any ⟨CL.toArray⟩ cn (pkOne 10 w10b.heap.size NM 0) v)
                have HAP2 := Lib.hid (fun X F (h : Mo w X (k + 1) m t1 F) hr => apply_x (k + 1) m (doesN ⟨CL.toArray⟩ cn (pkOne 10 w10b.heap.size NM 0)) ([], false, true) t1 t2 w F X h HT.out HX10.out hr (by omega) ha10)
                obtain ⟨L2, hL2⟩ : ∃ L, listsM t2.seats = L := ⟨_, rfl⟩
                have EL2 := Lib.hid hL2
                have HNIN := Lib.hid (show (NM, CL) ∉ L2 by rw [← hL2]; exact HNIN0.out)
                have HM11 := HGO.out w10b (hdn)
                clear hx10 ha10 hnin hL2 HNIN0 HX10 HUN HGO HM10b hdn
                generalize (pkOf 10 false (some ⟨w10b.heap.size, 0, none⟩) 1 [(NM, 0)]).cells.toArray = P2 at *
                generalize (doesN ⟨CL.toArray⟩ cn (pkOne 10 w10b.heap.size NM 0)).cells.toArray = N2 at *
                dsimp only at HAP2
                go_wp2_with (first
                  | (refine wpList_buildG (by kernel_rfl) 29 #[(0, .const (.int .u8 10)), (19, .tmp _)] rfl _ rfl P2 [(0, .int .u8 10), (19, .slice (some ⟨w10b.heap.size, 0, none⟩) 1 1)] (by kernel_rfl) HPS2.out ?_)
                  | fail)
                refine (D2.out _).mono ?_
                rintro e w12 ⟨rfl, hk12⟩
                have HA2 := Lib.hid (((Aw.start HM11.out).alloc w10b.heap.size (by simp) #[.string ⟨NM.toArray⟩, .int .u8 0] 39).below hk12)
                clear hk12
                go_wp2_with fail
                refine (HAP2.out _ _ HA2.out.mo (HA2.out.row (List.mem_cons_self ..) rfl)).mono ?_
                rintro e w13 ⟨rfl, F4, hM13, -⟩
                have HM13 := Lib.hid hM13
                clear hM13
                go_wp2_with fail
                refine (mlists_x (k + 2) m t2 L2 w F4 w13 HM13.out HN.out EL2.out).mono ?_
                rintro e w14 ⟨a4, c4, rfl, hl4, hb4, hk14⟩
                have HR4 := Lib.hid hb4.row
                have HM14 := Lib.hid (HM13.out.below hk14)
                have hl4' : (L2.length : Int) ≤ 160000 := by omega
                clear hl4 hb4 hk14
                go_wp2_with fail
                go_loopw [26] (fun i wq => ∃ j : Nat, i = .int .i64 j ∧ j ≤ L2.length ∧ wq = w14) (fun i _ => (L2.length - intOf i).toNat)
                case atStart => exact ⟨0, rfl, by omega, rfl⟩
                case round =>
                  obtain ⟨j, rfl, hj, rfl⟩ := hrel
                  by_cases hlt : j < L2.length
                  · have hj0 : (0 : Int) ≤ j := by omega
                    have hjl : (j : Int) < L2.length := by omega
                    obtain ⟨b4, o4, rfl, d0, d1⟩ := hints_row HR4.out hlt
                    have hne : L2[j] ≠ (NM, CL) := fun e => HNIN.out (e ▸ List.getElem_mem hlt)
                    generalize L2[j] = y at *
                    obtain ⟨yf, yc⟩ := y
                    dsimp only at d0 d1
                    have hcmp := fun w => hint_eql false w yf yc NM CL (decide_eq_false hne)
                    clear hne
                    go_wp2_with fail
                    go_roundw
                    case rel => exact ⟨j + 1, by go_num, by omega, trivial⟩
                    case measure => simp [intOf]; omega
                  · have hjl : ¬ (j : Int) < L2.length := by omega
                    go_wp2_with fail
                    refine (awake_true _ (HM14.out.tabs HT.out)).mono ?_
                    rintro e w15 ⟨rfl, hk15⟩
                    have HZ := Lib.hid (bnext HM14.out.bel (Nat.le_refl _) hk15)
                    clear hk15
                    go_wp2_with fail
                    go_ret
                    exact ⟨rfl, HZ.out⟩
              · have hzb : z = z' ∧ bz = true := ⟨congrArg Prod.fst hz', congrArg Prod.snd hz'⟩
                obtain ⟨rfl, rfl⟩ := hzb
                have hconv := run_string_new (P := Tryz.prog) Tryz.underlying70 Tryz.underlying5 Tryz.underlying9 [qos] 1 w10b
                simp only [List.map_cons, List.map_nil, List.length_cons, List.length_nil, Nat.zero_add] at hconv
                obtain ⟨u, hu⟩ : ∃ u, UInt8.ofNat qos.toNat = u := ⟨_, rfl⟩
                rw [hu] at hconv hcq
                subst hcq
                have hne1 : (cu == 128) = false := by simpa using hcne
                have hne2 : ([cu] == [128]) = false := by simpa using hcne
                have hzd : decide (z < qos) = false := decide_eq_false (by omega)
                have hqd : decide (2 < qos) = false := decide_eq_false (by omega)
                clear hz' hu HCU
                obtain ⟨hx10, t2, ha10, hnin⟩ := HUN.out (w10b.heap.size + 1)
                have HX10 := Lib.hid hx10
                have HNIN0 := Lib.hid hnin
                have HPS2 := Lib.hid (built_pks 10 (some ⟨(w10b.heap.size + 1), 0, none⟩) 1 1 [(NM, 0)] rfl)
                have D2 : Hid (∀ v, Calls Tryz.prog 10 #[.string ⟨CL.toArray⟩, .int .i64 cn, .agg (pkOf 10 false (some ⟨(w10b.heap.size + 1), 0, none⟩) 1 [(NM, 0)]).cells.toArray] v fun e w' => e = .returned (.agg (doesN ⟨CL.toArray⟩ cn (pkOne 10 (w10b.heap.size + 1) NM 0)).cells.toArray) ∧ Below v.heap.size v w') := Lib.hid (fun v => does_any ⟨CL.toArray⟩ cn (pkOne 10 (w10b.heap.size + 1) NM 0) v)
                have HAP2 := Lib.hid (fun X F (h : Mo w X (k + 1) m t1 F) hr => apply_x (k + 1) m (doesN ⟨CL.toArray⟩ cn (pkOne 10 (w10b.heap.size + 1) NM 0)) ([], false, true) t1 t2 w F X h HT.out HX10.out hr (by omega) ha10)
                obtain ⟨L2, hL2⟩ : ∃ L, listsM t2.seats = L := ⟨_, rfl⟩
                have EL2 := Lib.hid hL2
                have HNIN := Lib.hid (show (NM, CL) ∉ L2 by rw [← hL2]; exact HNIN0.out)
                have HM11 := HGO.out (w10b.alloc (.cells #[.int .u8 qos] 5)) (low_alloc w10b _)
                clear hx10 ha10 hnin hL2 HNIN0 HX10 HUN HGO HM10b hdn
                generalize (pkOf 10 false (some ⟨(w10b.heap.size + 1), 0, none⟩) 1 [(NM, 0)]).cells.toArray = P2 at *
                generalize (doesN ⟨CL.toArray⟩ cn (pkOne 10 (w10b.heap.size + 1) NM 0)).cells.toArray = N2 at *
                dsimp only at HAP2
                go_wp2_with (first
                  | (refine wpList_buildG (by kernel_rfl) 29 #[(0, .const (.int .u8 10)), (19, .tmp _)] rfl _ rfl P2 [(0, .int .u8 10), (19, .slice (some ⟨(w10b.heap.size + 1), 0, none⟩) 1 1)] (by kernel_rfl) HPS2.out ?_)
                  | fail)
                refine (D2.out _).mono ?_
                rintro e w12 ⟨rfl, hk12⟩
                have HA2 := Lib.hid (((Aw.start HM11.out).alloc (w10b.heap.size + 1) (by simp) #[.string ⟨NM.toArray⟩, .int .u8 0] 39).below hk12)
                clear hk12
                go_wp2_with fail
                refine (HAP2.out _ _ HA2.out.mo (HA2.out.row (List.mem_cons_self ..) rfl)).mono ?_
                rintro e w13 ⟨rfl, F4, hM13, -⟩
                have HM13 := Lib.hid hM13
                clear hM13
                go_wp2_with fail
                refine (mlists_x (k + 2) m t2 L2 w F4 w13 HM13.out HN.out EL2.out).mono ?_
                rintro e w14 ⟨a4, c4, rfl, hl4, hb4, hk14⟩
                have HR4 := Lib.hid hb4.row
                have HM14 := Lib.hid (HM13.out.below hk14)
                have hl4' : (L2.length : Int) ≤ 160000 := by omega
                clear hl4 hb4 hk14
                go_wp2_with fail
                go_loopw [26] (fun i wq => ∃ j : Nat, i = .int .i64 j ∧ j ≤ L2.length ∧ wq = w14) (fun i _ => (L2.length - intOf i).toNat)
                case atStart => exact ⟨0, rfl, by omega, rfl⟩
                case round =>
                  obtain ⟨j, rfl, hj, rfl⟩ := hrel
                  by_cases hlt : j < L2.length
                  · have hj0 : (0 : Int) ≤ j := by omega
                    have hjl : (j : Int) < L2.length := by omega
                    obtain ⟨b4, o4, rfl, d0, d1⟩ := hints_row HR4.out hlt
                    have hne : L2[j] ≠ (NM, CL) := fun e => HNIN.out (e ▸ List.getElem_mem hlt)
                    generalize L2[j] = y at *
                    obtain ⟨yf, yc⟩ := y
                    dsimp only at d0 d1
                    have hcmp := fun w => hint_eql false w yf yc NM CL (decide_eq_false hne)
                    clear hne
                    go_wp2_with fail
                    go_roundw
                    case rel => exact ⟨j + 1, by go_num, by omega, trivial⟩
                    case measure => simp [intOf]; omega
                  · have hjl : ¬ (j : Int) < L2.length := by omega
                    go_wp2_with fail
                    refine (awake_true _ (HM14.out.tabs HT.out)).mono ?_
                    rintro e w15 ⟨rfl, hk15⟩
                    have HZ := Lib.hid (bnext HM14.out.bel (Nat.le_refl _) hk15)
                    clear hk15
                    go_wp2_with fail
                    go_ret
                    exact ⟨rfl, HZ.out⟩
end Go.Proofs.YthfeckndkmhieaaGreatDoor
