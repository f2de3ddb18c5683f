/- ModelAlone walked. -/
import Derived.Test.YthfeckndkmhieaaGreatDoorQR
namespace Go.Proofs.YthfeckndkmhieaaGreatDoor
open Go Go.RowKit Go.Maps

theorem ans_eq (A : Ans) : decide (A = ((⟨A.1.toArray⟩ : ByteArray).data.toList, A.2.1, A.2.2)) = true := by simp
theorem client_eq (a b : ByteArray) : (a.toList == b.toList) = decide (a.data.toList = b.data.toList) := by
  rw [Lib.toList_data, Lib.toList_data]
  exact Bool.eq_iff_iff.2 (by rw [beq_iff_eq, decide_eq_true_eq])
set_option maxRecDepth 100000 in
set_option maxHeartbeats 8000000 in
theorem alone_true (a : Option Addr) (c : Nat) (l : List Note) (cl : ByteArray) (w : World) (ha : Row w a (notesV l)) (hok : ∀ n ∈ l, n.ok w) (hT : Tabs w) (hgr : GreatQ a c l w) :
    Calls Tryz.prog 5 #[.slice a l.length c, .string cl] w fun e w' => e = .returned (.bool true) ∧ Below w.heap.size w w' := by
  have HT := Lib.hid hT
  have HA := Lib.hid ha
  have HOK := Lib.hid hok
  unfold GreatQ at hgr
  have HGR := Lib.hid hgr
  clear hT ha hok hgr
  go_enter Tryz.func5, Tryz.ntmps5
  go_wp2_with fail
  refine HGR.out.mono ?_
  rintro e w1 ⟨g, rfl, hg, hk1⟩
  have HG := Lib.hid hg
  have HK1 := Lib.hid hk1
  clear hg hk1 HGR
  cases g with
  | true =>
    go_wp2_with fail
    refine (awake_true w1 (HT.out.below HK1.out)).mono ?_
    rintro e w2 ⟨rfl, hk⟩
    have HK := Lib.hid (bnext HK1.out (Nat.le_refl _) hk)
    clear hk
    go_wp2_with fail
    go_ret
    exact ⟨rfl, HK.out⟩
  | false =>
  obtain ⟨hl200, hsm⟩ := HG.out rfl
  have HSM := Lib.hid hsm
  clear HG hsm
  by_cases hc : (300 : Int) < cl.size
  · go_wp2_with fail
    refine (awake_true w1 (HT.out.below HK1.out)).mono ?_
    rintro e w2 ⟨rfl, hk⟩
    have HK := Lib.hid (bnext HK1.out (Nat.le_refl _) hk)
    clear hk
    go_wp2_with fail
    go_ret
    exact ⟨rfl, HK.out⟩
  have hcm : cl.size ≤ maxLen := by unfold maxLen; omega
  have HCM := Lib.hid hcm
  clear hcm
  go_wp2_with fail
  refine (mnew_x w w1 HK1.out).mono ?_
  rintro e w2 ⟨m0, F0, rfl, hA, -⟩
  have HM0 := Lib.hid hA
  clear hA
  go_wp2_with fail
  refine (mnew_x w w2 HM0.out.bel).mono ?_
  rintro e w3 ⟨m1, F1, rfl, hB, hub⟩
  have HM1 := Lib.hid (And.intro hB hub)
  clear hB hub
  go_wp2_with fail
  refine (mnew_x w w3 HM1.out.1.bel).mono ?_
  rintro e w4 ⟨m2, F2, rfl, hC, huc⟩
  have HTR := Lib.hid (Tri.start HM0.out HM1.out.1 HM1.out.2 hC huc)
  clear hC huc HM0 HM1
  go_wp2_with fail
  go_loopw [8, 9, 10, 11] (fun i _ _ _ wr => ∃ k : Nat, i = .int .i64 k ∧ k ≤ l.length ∧ ∃ s0 s1 s2 F0 F1 F2, Hid (Tri w wr (2 * k) m0 s0 F0 m1 s1 F1 m2 s2 F2) ∧ Hid (AloneI cl.data.toList s0 s1 s2)) (fun i _ _ _ _ => (l.length - intOf i).toNat)
  case atStart => exact ⟨0, rfl, by omega, _, _, _, _, _, _, HTR, Lib.hid (AloneI.new _)⟩
  case round =>
    obtain ⟨k, rfl, hk, s0, s1, s2, F0, F1, F2, HW, HI⟩ := hrel
    clear HTR
    by_cases hlt : k < l.length
    · have hk0 : (0 : Int) ≤ k := by omega
      have hkl : (k : Int) < l.length := by omega
      have HXO := Lib.hid (noteOk_in (HOK.out _ (List.getElem_mem hlt)) (HSM.out _ (List.getElem_mem hlt)))
      have HXS := Lib.hid (note_subs (HOK.out _ (List.getElem_mem hlt)))
      have HX := Lib.hid (fun X (hX : Below w.heap.size w X) => notes_row (HA.out.below hX (Nat.le_refl _)) hlt)
      obtain ⟨b, o, rfl, -⟩ := HX.out w (Below.refl _ _)
      generalize l[k] = x at *
      have HL : Hid (∀ X, Below w.heap.size w X → X.rangeAt b (o + k * 35) x.cells ∧ X.cell? ⟨b, o + k * 35, none⟩ = some (.int .u8 x.kind) ∧ X.cell? ⟨b, o + k * 35 + 3, none⟩ = some (.string x.client)) := Lib.hid (fun X hX => by
        obtain ⟨b', o', e, h1⟩ := HX.out X hX
        cases e
        exact ⟨h1, (note_at h1).kind, (note_at h1).client⟩)
      have hk1 : k ≤ 200 := by omega
      have HNZ := Lib.hid (note_len35 x)
      obtain ⟨⟨A, t0⟩, hA⟩ : ∃ r, applyM x s0 = r := ⟨_, rfl⟩
      have HC := Lib.hid (apply_x (2 * k) m0 x A s0 t0 w F0 wr HW.out.a HT.out HXO.out (HW.out.a.beside HXS.out) (by omega) hA)
      have HAA := Lib.hid hA
      clear hA HX
      by_cases h5 : x.kind = 5
      · have HI2 := Lib.hid (HI.out.keeps h5)
        rw [HAA.out] at HI2
        have HAP := Lib.hid (fun X F (h : Mo w X (2 * k + 1) m2 s2 F) => applies_x true (2 * k + 1) m2 x A s2 (applyM x s2).2 w F X ⟨A.1.toArray⟩ A.2.1 A.2.2 h HT.out HXO.out (h.beside HXS.out) (by omega) (Prod.ext HI2.out.1 rfl) (ans_eq A))
        have HI3 := Lib.hid HI2.out.2
        obtain ⟨t2, ht2⟩ : ∃ t, (applyM x s2).2 = t := ⟨_, rfl⟩
        rw [ht2] at HAP HI3
        generalize x.cells = NL at *
        obtain ⟨A1, A2, A3⟩ := A
        dsimp only at HAP HC
        clear HI2 HI ht2
        go_wp2_with (first | (refine wpList_loadM (by kernel_rfl) 32 _ rfl b (o + k * 35) rfl NL _ (HL.out _ HW.out.a.bel).1 Tryz.underlying32 rfl HNZ.out ?_) | fail)
        refine HC.out.mono ?_
        rintro e w5 ⟨rfl, F0', hM, hU⟩
        have HW2 := Lib.hid (HW.out.updA hM hU (Nat.le_succ _))
        obtain ⟨-, hkd, -⟩ := HL.out w5 HW2.out.a.bel
        rw [h5] at hkd
        clear hM hU HC HW
        go_wp2_with (first | (refine wpList_loadM (by kernel_rfl) 32 _ rfl b (o + k * 35) rfl NL _ (HL.out _ HW2.out.a.bel).1 Tryz.underlying32 rfl HNZ.out ?_) | fail)
        refine (HAP.out _ _ HW2.out.c).mono ?_
        rintro e w6 ⟨rfl, F2', hM, hU⟩
        have HW3 := Lib.hid (HW2.out.updC hM hU (Nat.le_succ _))
        obtain ⟨-, hkd3, -⟩ := HL.out w6 HW3.out.a.bel
        rw [h5] at hkd3
        clear hM hU hkd HW2 HAP
        go_wp2_with fail
        go_roundw
        case rel => exact ⟨k + 1, by go_num, by omega, t0, s1, t2, F0', F1, F2', Lib.hid (HW3.out.more (by omega)), HI3⟩
        case measure => simp [intOf]; omega
      · have h5' : (x.kind == 5) = false := by simpa using h5
        by_cases h2 : x.kind = 2
        · by_cases hcl : x.client.data.toList = cl.data.toList
          · have hq : (x.client.toList == cl.toList) = true := by rw [client_eq]; exact decide_eq_true hcl
            have HI2 := Lib.hid (HI.out.mine h2 hcl)
            rw [HAA.out] at HI2
            have HAP := Lib.hid (fun X F (h : Mo w X (2 * k + 1) m1 s1 F) => applies_x true (2 * k + 1) m1 x A s1 (applyM x s1).2 w F X ⟨A.1.toArray⟩ A.2.1 A.2.2 h HT.out HXO.out (h.beside HXS.out) (by omega) (Prod.ext HI2.out.1 rfl) (ans_eq A))
            have HI3 := Lib.hid HI2.out.2
            obtain ⟨t1, ht1⟩ : ∃ t, (applyM x s1).2 = t := ⟨_, rfl⟩
            rw [ht1] at HAP HI3
            generalize x.cells = NL at *
            obtain ⟨A1, A2, A3⟩ := A
            dsimp only at HAP HC
            clear HI2 HI ht1 h5 h5' hcl
            go_wp2_with (first | (refine wpList_loadM (by kernel_rfl) 32 _ rfl b (o + k * 35) rfl NL _ (HL.out _ HW.out.a.bel).1 Tryz.underlying32 rfl HNZ.out ?_) | fail)
            refine HC.out.mono ?_
            rintro e w5 ⟨rfl, F0', hM, hU⟩
            have HW2 := Lib.hid (HW.out.updA hM hU (Nat.le_succ _))
            obtain ⟨-, hkd, hcd⟩ := HL.out w5 HW2.out.a.bel
            rw [h2] at hkd
            clear hM hU HC HW
            go_wp2_with (first | (refine wpList_loadM (by kernel_rfl) 32 _ rfl b (o + k * 35) rfl NL _ (HL.out _ HW2.out.a.bel).1 Tryz.underlying32 rfl HNZ.out ?_) | fail)
            refine (HAP.out _ _ HW2.out.b).mono ?_
            rintro e w6 ⟨rfl, F1', hM, hU⟩
            have HW3 := Lib.hid (HW2.out.updB hM hU (Nat.le_succ _))
            clear hM hU hkd HW2 HAP
            go_wp2_with fail
            go_roundw
            case rel => exact ⟨k + 1, by go_num, by omega, t0, t1, s2, F0', F1', F2, Lib.hid (HW3.out.more (by omega)), HI3⟩
            case measure => simp [intOf]; omega
          · have hq : (x.client.toList == cl.toList) = false := by rw [client_eq]; exact decide_eq_false hcl
            have HI3 := Lib.hid (HI.out.other h5 (fun _ => hcl))
            rw [HAA.out] at HI3
            generalize x.cells = NL at *
            obtain ⟨A1, A2, A3⟩ := A
            dsimp only at HC
            clear HI h5 h5' hcl
            go_wp2_with (first | (refine wpList_loadM (by kernel_rfl) 32 _ rfl b (o + k * 35) rfl NL _ (HL.out _ HW.out.a.bel).1 Tryz.underlying32 rfl HNZ.out ?_) | fail)
            refine HC.out.mono ?_
            rintro e w5 ⟨rfl, F0', hM, hU⟩
            have HW2 := Lib.hid (HW.out.updA hM hU (Nat.le_succ _))
            obtain ⟨-, hkd, hcd⟩ := HL.out w5 HW2.out.a.bel
            rw [h2] at hkd
            clear hM hU HC HW
            go_wp2_with fail
            go_roundw
            case rel => exact ⟨k + 1, by go_num, by omega, t0, s1, s2, F0', F1, F2, Lib.hid (HW2.out.more (by omega)), HI3⟩
            case measure => simp [intOf]; omega
        · have h2' : (x.kind == 2) = false := by simpa using h2
          have HI3 := Lib.hid (HI.out.other h5 (fun h => absurd h h2))
          rw [HAA.out] at HI3
          generalize x.cells = NL at *
          obtain ⟨A1, A2, A3⟩ := A
          dsimp only at HC
          clear HI h5 h2
          go_wp2_with (first | (refine wpList_loadM (by kernel_rfl) 32 _ rfl b (o + k * 35) rfl NL _ (HL.out _ HW.out.a.bel).1 Tryz.underlying32 rfl HNZ.out ?_) | fail)
          refine HC.out.mono ?_
          rintro e w5 ⟨rfl, F0', hM, hU⟩
          have HW2 := Lib.hid (HW.out.updA hM hU (Nat.le_succ _))
          obtain ⟨-, hkd, -⟩ := HL.out w5 HW2.out.a.bel
          clear hM hU HC HW
          go_wp2_with fail
          go_roundw
          case rel => exact ⟨k + 1, by go_num, by omega, t0, s1, s2, F0', F1, F2, Lib.hid (HW2.out.more (by omega)), HI3⟩
          case measure => simp [intOf]; omega
    · have hkl : ¬ (k : Int) < l.length := by omega
      have hk2 : k ≤ 200 := by omega
      have HN := Lib.hid (show 2 * k ≤ 10000 by omega)
      have HLS := Lib.hid (HI.out.lists HW.out.a.ok HW.out.b.ok)
      obtain ⟨L0, hL0⟩ : ∃ L, listsM s0.seats = L := ⟨_, rfl⟩
      obtain ⟨L1, hL1⟩ : ∃ L, listsM s1.seats = L := ⟨_, rfl⟩
      obtain ⟨K0, hK0⟩ : ∃ K, s0.kept = K := ⟨_, rfl⟩
      obtain ⟨cn, hcn⟩ : ∃ c, connOf (lookS cl.data.toList s0.seats) = c := ⟨_, rfl⟩
      obtain ⟨hb, hhb⟩ : ∃ b, (lookS cl.data.toList s0.seats).isSome = b := ⟨_, rfl⟩
      rw [hL0, hL1] at HLS
      have E0 := Lib.hid hL0
      have E1 := Lib.hid hL1
      have EK := Lib.hid hK0
      have EC := Lib.hid hcn
      have EH := Lib.hid hhb
      have EC1 := Lib.hid (show connOf (lookS cl.data.toList s1.seats) = cn by rw [← HI.out.same]; exact hcn)
      have EH1 := Lib.hid (show (lookS cl.data.toList s1.seats).isSome = hb by rw [← HI.out.same]; exact hhb)
      have EK2 := Lib.hid (show s2.kept = K0 by rw [HI.out.kk]; exact hK0)
      have EK1 := Lib.hid HI.out.k0
      have ES2 := Lib.hid (show listsM s2.seats = [] by rw [HI.out.s0]; rfl)
      clear hL0 hL1 hK0 hcn hhb HI
      go_wp2_with fail
      refine (mlists_x (2 * k) m0 s0 L0 w F0 wr HW.out.a HN.out E0.out).mono ?_
      rintro e w5 ⟨a0, c0, rfl, hl0, hb0, hk5⟩
      have HR0 := Lib.hid hb0.row
      have HL0 := Lib.hid hl0
      replace HW := Lib.hid (HW.out.below hk5)
      clear hl0 hb0 hk5
      go_wp2_with fail
      refine (mlists_x (2 * k) m1 s1 L1 w F1 w5 HW.out.b HN.out E1.out).mono ?_
      rintro e w6 ⟨a1, c1, rfl, hl1, hb1, hk6⟩
      have HR1 := Lib.hid hb1.row
      have HL1 := Lib.hid hl1
      replace HR0 := Lib.hid (HR0.out.below hk6 (Nat.le_refl _))
      replace HW := Lib.hid (HW.out.below hk6)
      clear hl1 hb1 hk6
      go_wp2_with fail
      have hl0' : (L0.length : Int) ≤ 160000 := by have := HL0.out; omega
      go_loopw [14, 15] (fun v i wq => ∃ k : Nat, i = .int .i64 k ∧ k ≤ L0.length ∧ Below w6.heap.size w6 wq ∧ wq.ownsRow w6.heap.size 65 2 v ((L0.take k).filter (fun x => x.2 == cl.data.toList)).length (hintsV ((L0.take k).filter (fun x => x.2 == cl.data.toList)))) (fun _ i _ => (L0.length - intOf i).toNat)
      case atStart => exact ⟨0, rfl, by omega, Below.refl _ _, by simpa [hintsV] using World.ownsRow_nil _ _ _ _⟩
      case round =>
        obtain ⟨j, rfl, hj, hbq, hown⟩ := hrel
        by_cases hlt : j < L0.length
        · have hj0 : (0 : Int) ≤ j := by omega
          have hjl : (j : Int) < L0.length := by omega
          obtain ⟨b1, o1, rfl, d0, d1⟩ := hints_row (HR0.out.below hbq (Nat.le_refl _)) hlt
          have HTK := Lib.hid (List.take_succ_eq_append_getElem hlt)
          have HLE : Hid (((L0.take j).filter (fun x => x.2 == cl.data.toList)).length ≤ 160000) := Lib.hid (by
            have := List.length_filter_le (fun x : Hint => x.2 == cl.data.toList) (L0.take j)
            rw [List.length_take] at this
            have := HL0.out
            omega)
          generalize L0[j] = y at *
          obtain ⟨yf, yc⟩ := y
          dsimp only at d0 d1
          by_cases hyc : yc = cl.data.toList
          · have hq : (yc == cl.toList) = true := by rw [Lib.toList_data]; simpa using hyc
            have HV : Hid ((L0.take (j + 1)).filter (fun x => x.2 == cl.data.toList) = (L0.take j).filter (fun x => x.2 == cl.data.toList) ++ [(yf, yc)]) := Lib.hid (by rw [HTK.out, List.filter_append, List.filter_cons_of_pos (by simpa using hyc)]; rfl)
            generalize (L0.take j).filter (fun x => x.2 == cl.data.toList) = V at *
            have hbs := hbq.size
            have hvl := HLE.out
            clear hyc
            go_wp2_with (first
              | (at_builtin; refine wpList_app (m := 1) T_hint hown hbq hbs rfl rfl rfl rfl (by rfl) (by simp [Value.oneCell']) (by omega) (by omega) ?_; intro v' w8 hown' hbel3 hsz3 hlt3; have HOW := Lib.hid hown'; have HBL := Lib.hid hbel3; clear hown hown' hbel3 hsz3 hlt3 hbq hbs; go_frame)
              | fail)
            go_roundw
            case rel => exact ⟨j + 1, by go_num, by omega, HBL.out, by rw [HV.out, List.length_append, hintsV_append]; exact HOW.out⟩
            case measure => simp [intOf]; omega
          · have hq : (yc == cl.toList) = false := by rw [Lib.toList_data]; simpa using hyc
            have HV : Hid ((L0.take (j + 1)).filter (fun x => x.2 == cl.data.toList) = (L0.take j).filter (fun x => x.2 == cl.data.toList)) := Lib.hid (by rw [HTK.out, List.filter_append, List.filter_cons_of_neg (by simpa using hyc)]; simp)
            generalize (L0.take j).filter (fun x => x.2 == cl.data.toList) = V at *
            clear hyc
            go_wp2_with fail
            go_roundw
            case rel => exact ⟨j + 1, by go_num, by omega, hbq, by rw [HV.out]; exact hown⟩
            case measure => simp [intOf]; omega
        · have hjl : ¬ (j : Int) < L0.length := by omega
          rw [List.take_of_length_le (by omega), HLS.out] at hown
          obtain ⟨av, cv, rfl, hrv, -, -⟩ := ownsRow_row hown
          have HRV := Lib.hid hrv
          have HR1' := Lib.hid (HR1.out.below hbq (Nat.le_refl _))
          replace HW := Lib.hid (HW.out.below hbq)
          clear hown hrv hbq
          have HKL := Lib.hid (show K0.length ≤ 10000 by have := HW.out.a.kl; rw [EK.out] at this; have := HN.out; omega)
          go_wp2_with fail
          refine (mkept_x (2 * k) m0 _ s0 K0 w F0 wr HW.out.a HN.out EK.out rfl).mono ?_
          rintro e w7 ⟨a3, c3, rfl, -, -, hb3, hk7⟩
          have HR3 := Lib.hid hb3.row
          replace HRV := Lib.hid (HRV.out.below hk7 (Nat.le_refl _))
          replace HR1' := Lib.hid (HR1'.out.below hk7 (Nat.le_refl _))
          replace HW := Lib.hid (HW.out.below hk7)
          clear hb3 hk7
          go_wp2_with fail
          refine (mkept_x (2 * k) m2 _ s2 K0 w F2 w7 HW.out.c HN.out EK2.out rfl).mono ?_
          rintro e w8 ⟨a4, c4, rfl, -, -, hb4, hk8⟩
          have HR4 := Lib.hid hb4.row
          replace HR3 := Lib.hid (HR3.out.below hk8 (Nat.le_refl _))
          replace HRV := Lib.hid (HRV.out.below hk8 (Nat.le_refl _))
          replace HR1' := Lib.hid (HR1'.out.below hk8 (Nat.le_refl _))
          replace HW := Lib.hid (HW.out.below hk8)
          clear hb4 hk8
          go_wp2_with fail
          refine (sameH_x true _ _ _ _ _ _ L1 L1 w8 HRV.out HR1'.out (by have := HL1.out; omega) rfl rfl (by simp)).mono ?_
          rintro e w9 ⟨rfl, nd, rfl⟩
          have hnd := Go.below_drewN (Below.refl w8.heap.size w8) nd
          replace HW := Lib.hid (HW.out.below hnd)
          replace HR3 := Lib.hid (HR3.out.below hnd (Nat.le_refl _))
          replace HR4 := Lib.hid (HR4.out.below hnd (Nat.le_refl _))
          clear hnd HRV HR1'
          generalize w8.drewN nd = w9 at *
          go_wp2_with fail
          refine (mconn_x cn (2 * k) m0 s0 cl w F0 w9 HW.out.a HCM.out EC.out).mono ?_
          rintro e w10 ⟨rfl, rfl⟩
          go_wp2_with fail
          refine (mconn_x cn (2 * k) m1 s1 cl w F1 w9 HW.out.b HCM.out EC1.out).mono ?_
          rintro e w10 ⟨rfl, rfl⟩
          go_wp2_with fail
          refine (mhas_x hb (2 * k) m0 s0 cl w F0 w9 HW.out.a HCM.out EH.out).mono ?_
          rintro e w10 ⟨rfl, rfl⟩
          go_wp2_with fail
          refine (mhas_x hb (2 * k) m1 s1 cl w F1 w9 HW.out.b HCM.out EH1.out).mono ?_
          rintro e w10 ⟨rfl, rfl⟩
          go_wp2_with fail
          refine (mkept_x (2 * k) m1 0 s1 [] w F1 w9 HW.out.b HN.out EK1.out rfl).mono ?_
          rintro e w10 ⟨a5, c5, rfl, -, -, -, hk10⟩
          replace HR3 := Lib.hid (HR3.out.below hk10 (Nat.le_refl _))
          replace HR4 := Lib.hid (HR4.out.below hk10 (Nat.le_refl _))
          replace HW := Lib.hid (HW.out.below hk10)
          clear hk10
          go_wp2_with fail
          refine (mlists_x (2 * k) m2 s2 [] w F2 w10 HW.out.c HN.out ES2.out).mono ?_
          rintro e w11 ⟨a6, c6, rfl, -, -, hk11⟩
          replace HR3 := Lib.hid (HR3.out.below hk11 (Nat.le_refl _))
          replace HR4 := Lib.hid (HR4.out.below hk11 (Nat.le_refl _))
          replace HW := Lib.hid (HW.out.below hk11)
          have hkl2 : (K0.length : Int) ≤ 10000 := by have := HKL.out; omega
          clear hk11
          cases hb <;>
          · go_wp2_with fail
            go_loopw [18] (fun i wq => ∃ k : Nat, i = .int .i64 k ∧ k ≤ K0.length ∧ Below w11.heap.size w11 wq) (fun i _ => (K0.length - intOf i).toNat)
            case atStart => exact ⟨0, rfl, by omega, Below.refl _ _⟩
            case round =>
              obtain ⟨j, rfl, hj, hbq⟩ := hrel
              by_cases hlt : j < K0.length
              · have hj0 : (0 : Int) ≤ j := by omega
                have hjl : (j : Int) < K0.length := by omega
                obtain ⟨b1, o1, rfl, i0, i1, i2, i3⟩ := msgs_row (HR3.out.below hbq (Nat.le_refl _)) (k := j) (m := K0[j]) (by simp [hlt])
                obtain ⟨b2, o2, rfl, j0, j1, j2, j3⟩ := msgs_row (HR4.out.below hbq (Nat.le_refl _)) (k := j) (m := K0[j]) (by simp [hlt])
                generalize K0[j] = y at *
                obtain ⟨yt, yp, yq, yr⟩ := y
                dsimp only at i0 i1 i2 i3 j0 j1 j2 j3
                have hcmp := fun w => msg_neq true w yt yp yt yp yq yq yr yr (by simp)
                have HBQ := Lib.hid hbq
                clear hbq
                go_wp2_with fail
                go_quiet (fail)
                have HBQ2 := Lib.hid (Go.below_drewN HBQ.out nq)
                clear HBQ i0 i1 i2 i3 j0 j1 j2 j3
                go_wp2_with fail
                go_roundw
                case rel => exact ⟨j + 1, by go_num, by omega, HBQ2.out⟩
                case measure => simp [intOf]; omega
              · have hjl : ¬ (j : Int) < K0.length := by omega
                have HBW := Lib.hid (bnext HW.out.a.bel (Nat.le_refl _) hbq)
                clear hbq
                go_wp2_with fail
                refine (awake_true _ (HT.out.below HBW.out)).mono ?_
                rintro e w12 ⟨rfl, hk12⟩
                have HZ := Lib.hid (bnext HBW.out (Nat.le_refl _) hk12)
                clear hk12
                go_wp2_with fail
                go_ret
                exact ⟨rfl, HZ.out⟩
end Go.Proofs.YthfeckndkmhieaaGreatDoor
