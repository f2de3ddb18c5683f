/- ModelPlays walked. -/
import Derived.Test.YthfeckndkmhieaaGreatDoorDH
namespace Go.Proofs.YthfeckndkmhieaaGreatDoor
open Go Go.RowKit Go.Maps Go.Lib

set_option maxRecDepth 100000 in
set_option maxHeartbeats 8000000 in
theorem plays_true (a : Option Addr) (c : Nat) (l : List Note) (cl nm : ByteArray) (w : World) (ha : Row w a (notesV l)) (hok : ∀ n ∈ l, n.ok w) (hT : Tabs w) (hgr : GreatQ a c l w) :
    Calls Tryz.prog 4 #[.slice a l.length c, .string cl, .string nm] w fun e w' => e = .returned (.bool true) ∧ Below w.heap.size w w' := by
  have HT := Lib.hid hT
  have HA := Lib.hid ha
  have HOK := Lib.hid hok
  unfold GreatQ at hgr
  have HGR := Lib.hid hgr
  clear hT ha hok hgr
  have HAW : Hid (∀ w1, Below w.heap.size w w1 → Calls Tryz.prog 16 #[] w1 fun e w' => e = .returned (.bool true) ∧ Below w.heap.size w w') := Lib.hid (fun w1 hb => (awake_true w1 (HT.out.below hb)).mono fun _ _ ⟨he, hk⟩ => ⟨he, bnext hb (Nat.le_refl _) hk⟩)
  go_enter Tryz.func4, Tryz.ntmps4
  go_wp2_with fail
  refine HGR.out.mono ?_
  rintro e w1 ⟨g, rfl, hg, hk1⟩
  have HG := Lib.hid hg
  have HK1 := Lib.hid hk1
  clear hg hk1 HGR
  cases g with
  | true =>
    go_wp2_with fail
    refine (HAW.out _ HK1.out).mono ?_
    rintro e w2 ⟨rfl, hk⟩
    have HK := Lib.hid hk
    clear hk
    go_wp2_with fail
    go_ret
    exact ⟨rfl, HK.out⟩
  | false =>
  obtain ⟨hl200, hsm⟩ := HG.out rfl
  have HSM := Lib.hid hsm
  clear HG hsm
  by_cases hc : (300 : Int) < cl.size
  · go_wp2_with fail
    refine (HAW.out _ HK1.out).mono ?_
    rintro e w2 ⟨rfl, hk⟩
    have HK := Lib.hid hk
    clear hk
    go_wp2_with fail
    go_ret
    exact ⟨rfl, HK.out⟩
  by_cases hc2 : (1000 : Int) < nm.size
  · go_wp2_with fail
    refine (HAW.out _ HK1.out).mono ?_
    rintro e w2 ⟨rfl, hk⟩
    have HK := Lib.hid hk
    clear hk
    go_wp2_with fail
    go_ret
    exact ⟨rfl, HK.out⟩
  have HCM : Hid (cl.size ≤ maxLen) := Lib.hid (by unfold maxLen; omega)
  have HNM : Hid (nm.size ≤ 1000) := Lib.hid (by omega)
  go_wp2_with fail
  refine (mnew_x w w1 HK1.out).mono ?_
  rintro e w2 ⟨m, F0, rfl, hA, -⟩
  have HM0 := Lib.hid hA
  clear hA
  go_wp2_with fail
  refine (dnew_x w w2 HM0.out.bel).mono ?_
  rintro e w3 ⟨r, G0, rfl, hB, hub⟩
  have HB0 := Lib.hid (Both.start HM0.out hB hub)
  clear hB hub HM0
  go_wp2_with fail
  go_loopw [9, 10, 11, 12, 13, 14, 15, 16, 17, 18, 19, 20, 21] (fun i _ _ _ _ _ _ _ _ _ _ _ _ wr => ∃ k : Nat, i = .int .i64 k ∧ k ≤ l.length ∧ ∃ s F G, Hid (Both w wr k m s F r s G)) (fun i _ _ _ _ _ _ _ _ _ _ _ _ _ => (l.length - intOf i).toNat)
  case atStart => exact ⟨0, rfl, by omega, _, _, _, HB0⟩
  case round =>
    obtain ⟨k, rfl, hk, s, F, G, HW⟩ := hrel
    clear HB0
    by_cases hlt : k < l.length
    · have hk0 : (0 : Int) ≤ k := by omega
      have hkl : (k : Int) < l.length := by omega
      have HXO := Lib.hid (noteOk_in (HOK.out _ (List.getElem_mem hlt)) (HSM.out _ (List.getElem_mem hlt)))
      have HXS := Lib.hid (note_subs (HOK.out _ (List.getElem_mem hlt)))
      have HX := Lib.hid (fun X (hX : Below w.heap.size w X) => notes_row (HA.out.below hX (Nat.le_refl _)) hlt)
      obtain ⟨b, o, rfl, -⟩ := HX.out w (Below.refl _ _)
      generalize l[k] = x at *
      have HL : Hid (∀ X, Below w.heap.size w X → X.rangeAt b (o + k * 35) x.cells ∧ X.cell? ⟨b, o + k * 35 + 3, none⟩ = some (.string x.client)) := Lib.hid (fun X hX => by
        obtain ⟨b', o', e, h1⟩ := HX.out X hX
        cases e
        exact ⟨h1, (note_at h1).client⟩)
      have hk1 : k ≤ 200 := by omega
      have HNZ := Lib.hid (note_len35 x)
      have HS1 := Lib.hid (applyM_seats x s)
      have HK2 := Lib.hid (applyM_kept x s)
      have HO2 := Lib.hid (applyM_ok HXO.out HW.out.a.ok)
      obtain ⟨⟨A, t⟩, hA⟩ : ∃ r, applyM x s = r := ⟨_, rfl⟩
      rw [hA] at HS1 HK2 HO2
      dsimp only at HS1 HK2 HO2
      have HSL := Lib.hid HW.out.sl
      have HKL := Lib.hid HW.out.a.kl
      have HC := Lib.hid (apply_x k m x A s t w F wr HW.out.a HT.out HXO.out (HW.out.a.beside HXS.out) (by omega) hA)
      have HD := Lib.hid (fun W (h : DMo w W r s G) (hO : MOk s) (hl : s.seats.length < 1000000) (hkl : s.kept.length < 1000000) => dapply_x r x A s t w G W h hO hl hkl HXO.out (h.beside HXS.out) hA)
      clear hA HX
      generalize x.cells = NL at *
      obtain ⟨A1, A2, A3⟩ := A
      dsimp only at HC HD
      go_wp2_with (first | (refine wpList_loadM (by kernel_rfl) 32 _ rfl b (o + k * 35) rfl NL _ (HL.out _ HW.out.a.bel).1 Tryz.underlying32 rfl HNZ.out ?_) | fail)
      refine HC.out.mono ?_
      rintro e w5 ⟨rfl, F1, hM, hU⟩
      have HW2 := Lib.hid (HW.out.updA hM hU (Nat.le_succ _))
      clear hM hU HC HW
      go_wp2_with (first | (refine wpList_loadM (by kernel_rfl) 32 _ rfl b (o + k * 35) rfl NL _ (HL.out _ HW2.out.a.bel).1 Tryz.underlying32 rfl HNZ.out ?_) | fail)
      refine (HD.out _ HW2.out.d HW2.out.ok (by have := HW2.out.sl; omega) (by have := HW2.out.kl; omega)).mono ?_
      rintro e w6 ⟨rfl, G1, hDM, hU⟩
      have HW3 := Lib.hid (HW2.out.updD hDM hU HO2.out (by have := HS1.out; have := HSL.out; omega) (by have := HK2.out; have := HKL.out; omega))
      clear hDM hU HD HW2
      obtain ⟨⟨q, bq⟩, hq⟩ : ∃ z, bestOf nm.data.toList (lookS cl.data.toList t.seats) = z := ⟨_, rfl⟩
      have HQ := Lib.hid hq
      clear hq
      go_wp2_with fail
      refine (mbest_x q bq (k + 1) m t cl nm w F1 w6 HW3.out.a HT.out HCM.out HNM.out HQ.out).mono ?_
      rintro e w7 ⟨rfl, hk7⟩
      have HW4 := Lib.hid (HW3.out.below hk7)
      clear hk7 HW3
      go_wp2_with fail
      refine (dbest_x q bq r t cl nm w G1 w7 HW4.out.d HW4.out.ok (by have := HW4.out.sl; omega) HNM.out HQ.out).mono ?_
      rintro e w8 ⟨rfl, hk8⟩
      have HW5 := Lib.hid (HW4.out.below hk8)
      clear hk8 HW4
      obtain ⟨bh, hbh⟩ : ∃ z, (lookS cl.data.toList t.seats).isSome = z := ⟨_, rfl⟩
      have HLT6 : Hid (t.seats.length < 1000000) := Lib.hid (by have := HW5.out.sl; omega)
      have HXC := Lib.hid HXO.out.client
      have HQ1 := Lib.hid (fun z => hasQ HW5.out.a HCM.out hbh z)
      obtain ⟨fz, hfz, hq6⟩ := dfindQ (c := cl) HW5.out.d HLT6.out hbh
      have HQ6 := Lib.hid hq6
      obtain ⟨-, xc⟩ := HL.out w8 HW5.out.a.bel
      clear hbh hq6 HQ
      go_wp2_with fail
      go_quiet (first
        | (go_at_call 11; exact Calls.quiet_of_same (HQ1.out _))
        | (go_at_call 22; exact Calls.quiet_of_same (HQ6.out _))
        | (go_at_call 12; refine Calls.quiet_of_same (connQ HW5.out.a ?_ rfl _); first | exact HCM.out | exact HXC.out)
        | (go_at_call 23; exact Calls.quiet_of_same (dconnQ HW5.out.d HLT6.out rfl _)))
      have HWQ := Lib.hid (HW5.out.below (Go.below_drewN (Below.refl _ _) nq))
      generalize w8.drewN nq = w9 at *
      clear xc HQ1 HQ6
      obtain ⟨L, hL⟩ : ∃ L, listsM t.seats = L := ⟨_, rfl⟩
      have HLL := Lib.hid hL
      clear hL
      by_cases h8 : (k : Int) % 8 = 0
      · skip
        go_wp2_with fail
        refine (mlists_o (k + 1) m t L w F1 w9 HWQ.out.a (by omega) HLL.out).mono ?_
        rintro e w10 ⟨v, rfl, hln, hown, hbl⟩
        obtain ⟨la, lc, rfl, hlr, -, -⟩ := ownsRow_row hown
        have HOW := Lib.hid hown
        have HLR := Lib.hid hlr
        have HBL := Lib.hid hbl
        have HWX := Lib.hid (HWQ.out.below hbl)
        clear hown hlr hbl
        obtain ⟨kg, ka, kc, hkp⟩ := HWX.out.d.kept
        have HKP := Lib.hid hkp
        obtain ⟨K0, hK0⟩ : ∃ K, t.kept = K := ⟨_, rfl⟩
        have EK := Lib.hid hK0
        rw [hK0] at HKP
        have HKN : Hid (K0.length ≤ 100000) := Lib.hid (by rw [← hK0]; have := HWX.out.kl; omega)
        have hS : ∀ X, Below w10.heap.size w10 X → X.cell? ⟨r, 1, none⟩ = some (.pointer (some ⟨kg, 0, none⟩)) ∧ X.cell? ⟨kg, 0, none⟩ = some (.slice ka K0.length kc) := fun X hX => ⟨(HKP.out X hX).1, (HKP.out X hX).2.1⟩
        have HS := Lib.hid hS
        clear hkp hK0 hS
        go_wp2_with fail
        refine wp_region_held_drew (S := fun X => X.cell? ⟨r, 1, none⟩ = some (.pointer (some ⟨kg, 0, none⟩)) ∧ X.cell? ⟨kg, 0, none⟩ = some (.slice ka K0.length kc)) (by kernel_rfl) (HS.out _ (Below.refl _ _).drew) (fun hHeld => ?_)
        refine wpAnyH_take (i := 0) (v := ?_) rfl (by kernel_rfl) (by kernel_rfl) (by kernel_rfl) (fun _ _ _ h => h) (Or.inl ⟨rfl, ?_⟩) hHeld ?_
        rotate_left
        · intro w0 hS0
          try dsimp only at hS0
          go_simp
          try with_reducible rfl
        simp only [List.getElem_toArray, List.getElem_cons_zero, Act.put, List.setIfInBounds_toArray, List.set_cons_zero, List.set_cons_succ]
        refine wpAnyH_take (i := 1) (v := ?_) rfl (by kernel_rfl) (by kernel_rfl) (by kernel_rfl) (fun _ _ _ h => h) (Or.inl ⟨rfl, ?_⟩) hHeld ?_
        rotate_left
        · intro w0 hS0
          try dsimp only at hS0
          go_simp
          try with_reducible rfl
        simp only [List.getElem_toArray, List.getElem_cons_zero, List.getElem_cons_succ, Act.put, List.setIfInBounds_toArray, List.set_cons_zero, List.set_cons_succ]
        refine wpAnyH_ready (rs := [2]) (by kernel_rfl) (by simp) ?_
        refine AllReadyH.cons rfl (fun K hK => ?_) AllReadyH.nil
        rw [if_pos (by rfl)]
        go_simp
        go_at_call 25
        refine (dlists_x r t L w G1 w10.drew (HWX.out.d.below (Below.refl _ _).drew) HWX.out.ok (by have := HWX.out.sl; omega) HLL.out).mono ?_
        rintro e w11 ⟨da, dc, rfl, hdr, hbd⟩
        have HB11 := Lib.hid (Below.trans (Below.refl w10.heap.size w10).drew hbd)
        have HDR := Lib.hid hdr
        clear hbd hdr
        refine hK.out _ _ (HS.out _ HB11.out) (fun hHeld => ?_)
        refine wpAnyH_ready (rs := [3]) (by kernel_rfl) (by simp) ?_
        refine AllReadyH.cons rfl (fun K hK => ?_) AllReadyH.nil
        rw [if_pos (by rfl)]
        go_simp
        go_at_call 24
        refine (sameH_x true _ _ _ _ _ _ L L w11 (HLR.out.below HB11.out (Nat.le_refl _)) HDR.out (by omega) rfl rfl (by simp)).mono ?_
        rintro e w12 ⟨rfl, nd, rfl⟩
        have HB12 := Lib.hid (Go.below_drewN HB11.out nd)
        generalize w11.drewN nd = w12 at *
        refine hK.out _ _ (HS.out _ HB12.out) (fun hHeld => ?_)
        refine wpAnyH_take (i := 4) (v := ?_) rfl (by kernel_rfl) (by kernel_rfl) (by kernel_rfl) (fun _ _ _ h => h) (Or.inl ⟨rfl, ?_⟩) hHeld ?_
        rotate_left
        · intro w0 hS0
          try dsimp only at hS0
          go_simp
          try with_reducible rfl
        simp only [List.getElem_toArray, List.getElem_cons_zero, List.getElem_cons_succ, Act.put, List.setIfInBounds_toArray, List.set_cons_zero, List.set_cons_succ]
        refine wpAnyH_take (i := 5) (v := ?_) rfl (by kernel_rfl) (by kernel_rfl) (by kernel_rfl) (fun _ _ _ h => h) (Or.inl ⟨rfl, ?_⟩) hHeld ?_
        rotate_left
        · intro w0 hS0
          try dsimp only at hS0
          go_simp
          try with_reducible rfl
        simp only [List.getElem_toArray, List.getElem_cons_zero, List.getElem_cons_succ, Act.put, List.setIfInBounds_toArray, List.set_cons_zero, List.set_cons_succ]
        refine wpAnyH_take (i := 6) (v := ?_) rfl (by kernel_rfl) (by kernel_rfl) (by kernel_rfl) (fun _ _ _ h => h) (Or.inl ⟨rfl, ?_⟩) hHeld ?_
        rotate_left
        · intro w0 hS0
          try dsimp only at hS0
          go_simp
          try with_reducible rfl
        simp only [List.getElem_toArray, List.getElem_cons_zero, List.getElem_cons_succ, Act.put, List.setIfInBounds_toArray, List.set_cons_zero, List.set_cons_succ]
        refine wpAnyH_take (i := 8) (v := ?_) rfl (by kernel_rfl) (by kernel_rfl) (by kernel_rfl) (fun _ _ _ h => h) (Or.inl ⟨rfl, ?_⟩) hHeld ?_
        rotate_left
        · intro w0 hS0
          try dsimp only at hS0
          go_simp
          try with_reducible rfl
        simp only [List.getElem_toArray, List.getElem_cons_zero, List.getElem_cons_succ, Act.put, List.setIfInBounds_toArray, List.set_cons_zero, List.set_cons_succ]
        refine wpAnyH_take (i := 9) (v := ?_) rfl (by kernel_rfl) (by kernel_rfl) (by kernel_rfl) (fun _ _ _ h => h) (Or.inl ⟨rfl, ?_⟩) hHeld ?_
        rotate_left
        · intro w0 hS0
          try dsimp only at hS0
          go_simp
          try with_reducible rfl
        simp only [List.getElem_toArray, List.getElem_cons_zero, List.getElem_cons_succ, Act.put, List.setIfInBounds_toArray, List.set_cons_zero, List.set_cons_succ]
        refine wpAnyH_take (i := 10) (v := ?_) rfl (by kernel_rfl) (by kernel_rfl) (by kernel_rfl) (fun _ _ _ h => h) (Or.inl ⟨rfl, ?_⟩) hHeld ?_
        rotate_left
        · intro w0 hS0
          try dsimp only at hS0
          go_simp
          try with_reducible rfl
        simp only [List.getElem_toArray, List.getElem_cons_zero, List.getElem_cons_succ, Act.put, List.setIfInBounds_toArray, List.set_cons_zero, List.set_cons_succ]
        refine wpAnyH_take (i := 11) (v := ?_) rfl (by kernel_rfl) (by kernel_rfl) (by kernel_rfl) (fun _ _ _ h => h) (Or.inl ⟨rfl, ?_⟩) hHeld ?_
        rotate_left
        · intro w0 hS0
          try dsimp only at hS0
          go_simp
          try with_reducible rfl
        simp only [List.getElem_toArray, List.getElem_cons_zero, List.getElem_cons_succ, Act.put, List.setIfInBounds_toArray, List.set_cons_zero, List.set_cons_succ]
        refine wpAnyH_take (i := 12) (v := ?_) rfl (by kernel_rfl) (by kernel_rfl) (by kernel_rfl) (fun _ _ _ h => h) (Or.inl ⟨rfl, ?_⟩) hHeld ?_
        rotate_left
        · intro w0 hS0
          try dsimp only at hS0
          go_simp
          try with_reducible rfl
        simp only [List.getElem_toArray, List.getElem_cons_zero, List.getElem_cons_succ, Act.put, List.setIfInBounds_toArray, List.set_cons_zero, List.set_cons_succ]
        refine wpAnyH_take (i := 13) (v := ?_) rfl (by kernel_rfl) (by kernel_rfl) (by kernel_rfl) (fun _ _ _ h => h) (Or.inl ⟨rfl, ?_⟩) hHeld ?_
        rotate_left
        · intro w0 hS0
          try dsimp only at hS0
          go_simp
          try with_reducible rfl
        simp only [List.getElem_toArray, List.getElem_cons_zero, List.getElem_cons_succ, Act.put, List.setIfInBounds_toArray, List.set_cons_zero, List.set_cons_succ]
        refine wpAnyH_take (i := 14) (v := ?_) rfl (by kernel_rfl) (by kernel_rfl) (by kernel_rfl) (fun _ _ _ h => h) (Or.inl ⟨rfl, ?_⟩) hHeld ?_
        rotate_left
        · intro w0 hS0
          try dsimp only at hS0
          go_simp
          try with_reducible rfl
        simp only [List.getElem_toArray, List.getElem_cons_zero, List.getElem_cons_succ, Act.put, List.setIfInBounds_toArray, List.set_cons_zero, List.set_cons_succ]
        refine wpAnyH_ready (rs := [7]) (by kernel_rfl) (by simp) ?_
        refine AllReadyH.cons rfl (fun K hK => ?_) AllReadyH.nil
        rw [if_pos (by rfl)]
        go_simp
        go_at_call 13
        refine (mkept_x (k + 1) m _ t K0 w F1 w12 (HWX.out.a.below HB12.out) (by omega) EK.out rfl).mono ?_
        rintro e w13 ⟨a3, c3, rfl, -, -, hb3, hk13⟩
        have HR3 := Lib.hid hb3.row
        have HB13 := Lib.hid (bnext HB12.out (Nat.le_refl _) hk13)
        clear hb3 hk13
        refine hK.out _ _ (HS.out _ HB13.out) (fun hHeld => ?_)
        refine wpAnyH_ready (rs := [15]) (by kernel_rfl) (by simp) ?_
        refine AllReadyH.cons rfl (fun K hK => ?_) AllReadyH.nil
        rw [if_pos (by rfl)]
        go_simp
        go_at_call 26
        refine (same12_any true _ _ _ _ K0 K0 w13 HR3.out (HKP.out _ HB13.out).2.2 HKN.out HKN.out (by simp)).mono ?_
        rintro e w14 ⟨rfl, nd, rfl⟩
        have HB14 := Lib.hid (Go.below_drewN HB13.out nd)
        generalize w13.drewN nd = w14 at *
        refine hK.out _ _ (HS.out _ HB14.out) (fun hHeld => ?_)
        refine wpAnyH_take (i := 16) (v := ?_) rfl (by kernel_rfl) (by kernel_rfl) (by kernel_rfl) (fun _ _ _ h => h) (Or.inl ⟨rfl, ?_⟩) hHeld ?_
        rotate_left
        · intro w0 hS0
          try dsimp only at hS0
          go_simp
          try with_reducible rfl
        simp only [List.getElem_toArray, List.getElem_cons_zero, List.getElem_cons_succ, Act.put, List.setIfInBounds_toArray, List.set_cons_zero, List.set_cons_succ]
        refine wpAnyH_take (i := 17) (v := ?_) rfl (by kernel_rfl) (by kernel_rfl) (by kernel_rfl) (fun _ _ _ h => h) (Or.inl ⟨rfl, ?_⟩) hHeld ?_
        rotate_left
        · intro w0 hS0
          try dsimp only at hS0
          go_simp
          try with_reducible rfl
        simp only [List.getElem_toArray, List.getElem_cons_zero, List.getElem_cons_succ, Act.put, List.setIfInBounds_toArray, List.set_cons_zero, List.set_cons_succ]
        refine wpAnyH_done (by kernel_rfl) ?_ _
        clear hHeld
        have HBZ := Lib.hid (HBL.out.trans (HB14.out.mono HBL.out.size))
        have HOWZ := Lib.hid (ownsRow_local HOW.out fun j hj => HB14.out.block j (HOW.out.lt j hj).2)
        have hln2 : (L.length : Int) ≤ 160000 := by omega
        clear HOW HLR HDR HB11 HB12 HB13 HB14 HKP HR3 HS
        go_wp2_with fail
        go_loopw [21] (fun i wq => ∃ j : Nat, i = .int .i64 j ∧ j ≤ L.length ∧ Below w9.heap.size w9 wq ∧ ∃ xs, wq.ownsRow w9.heap.size 65 2 (.slice la L.length lc) L.length xs) (fun i _ => (L.length - intOf i).toNat)
        case atStart => exact ⟨0, rfl, by omega, HBZ.out, _, HOWZ.out⟩
        case round =>
          obtain ⟨j, rfl, hj, hbq, xs, hown⟩ := hrel
          by_cases hlj : j < L.length
          · have hj0 : (0 : Int) ≤ j := by omega
            have hjl : (j : Int) < L.length := by omega
            obtain ⟨g, hg⟩ : ∃ g, la = some ⟨g, 0, none⟩ := by
              rcases hown.2 with ⟨e1, e2⟩ | ⟨g, _, _, e1, -⟩
              · omega
              · cases e1; exact ⟨g, rfl⟩
            subst hg
            have fz2 := hown.frozenAt (j * 2)
            have hcc := hown.cellAt (j * 2) (by omega)
            obtain ⟨uc, huc⟩ : ∃ u, xs[j * 2]? = some u := ⟨_, List.getElem?_eq_getElem (by have := hown.1; omega)⟩
            rw [huc] at hcc
            clear huc
            obtain ⟨hst, hgr⟩ := hown.stored (j * 2) (.string ⟨#[115, 112, 111, 105, 108, 116]⟩)
            have HST := Lib.hid hst
            have HBS := Lib.hid (hbq.grown hgr hbq.size (fun q hq => by cases hq; exact (hown.lt g rfl).1))
            clear hst hgr hown hbq
            go_wp2_with fail
            go_roundw
            case rel => exact ⟨j + 1, by go_num, by omega, HBS.out, _, HST.out⟩
            case measure => simp [intOf]; omega
          · have hjl : ¬ (j : Int) < L.length := by omega
            have HWE := Lib.hid (HWQ.out.below hbq)
            clear hown hbq
            go_wp2_with fail
            go_roundw
            case rel => exact ⟨k + 1, by go_num, by omega, t, F1, G1, HWE⟩
            case measure => simp [intOf]; omega
      · have h8' : ((k : Int) % 8 == 0) = false := by simpa using h8
        by_cases hla : (k : Int) = l.length - 1
        · have hla' : ((k : Int) == l.length - 1) = true := by simpa using hla
          clear h8 hla
          go_wp2_with fail
          refine (mlists_o (k + 1) m t L w F1 w9 HWQ.out.a (by omega) HLL.out).mono ?_
          rintro e w10 ⟨v, rfl, hln, hown, hbl⟩
          obtain ⟨la, lc, rfl, hlr, -, -⟩ := ownsRow_row hown
          have HOW := Lib.hid hown
          have HLR := Lib.hid hlr
          have HBL := Lib.hid hbl
          have HWX := Lib.hid (HWQ.out.below hbl)
          clear hown hlr hbl
          obtain ⟨kg, ka, kc, hkp⟩ := HWX.out.d.kept
          have HKP := Lib.hid hkp
          obtain ⟨K0, hK0⟩ : ∃ K, t.kept = K := ⟨_, rfl⟩
          have EK := Lib.hid hK0
          rw [hK0] at HKP
          have HKN : Hid (K0.length ≤ 100000) := Lib.hid (by rw [← hK0]; have := HWX.out.kl; omega)
          have hS : ∀ X, Below w10.heap.size w10 X → X.cell? ⟨r, 1, none⟩ = some (.pointer (some ⟨kg, 0, none⟩)) ∧ X.cell? ⟨kg, 0, none⟩ = some (.slice ka K0.length kc) := fun X hX => ⟨(HKP.out X hX).1, (HKP.out X hX).2.1⟩
          have HS := Lib.hid hS
          clear hkp hK0 hS
          go_wp2_with fail
          refine wp_region_held_drew (S := fun X => X.cell? ⟨r, 1, none⟩ = some (.pointer (some ⟨kg, 0, none⟩)) ∧ X.cell? ⟨kg, 0, none⟩ = some (.slice ka K0.length kc)) (by kernel_rfl) (HS.out _ (Below.refl _ _).drew) (fun hHeld => ?_)
          refine wpAnyH_take (i := 0) (v := ?_) rfl (by kernel_rfl) (by kernel_rfl) (by kernel_rfl) (fun _ _ _ h => h) (Or.inl ⟨rfl, ?_⟩) hHeld ?_
          rotate_left
          · intro w0 hS0
            try dsimp only at hS0
            go_simp
            try with_reducible rfl
          simp only [List.getElem_toArray, List.getElem_cons_zero, Act.put, List.setIfInBounds_toArray, List.set_cons_zero, List.set_cons_succ]
          refine wpAnyH_take (i := 1) (v := ?_) rfl (by kernel_rfl) (by kernel_rfl) (by kernel_rfl) (fun _ _ _ h => h) (Or.inl ⟨rfl, ?_⟩) hHeld ?_
          rotate_left
          · intro w0 hS0
            try dsimp only at hS0
            go_simp
            try with_reducible rfl
          simp only [List.getElem_toArray, List.getElem_cons_zero, List.getElem_cons_succ, Act.put, List.setIfInBounds_toArray, List.set_cons_zero, List.set_cons_succ]
          refine wpAnyH_ready (rs := [2]) (by kernel_rfl) (by simp) ?_
          refine AllReadyH.cons rfl (fun K hK => ?_) AllReadyH.nil
          rw [if_pos (by rfl)]
          go_simp
          go_at_call 25
          refine (dlists_x r t L w G1 w10.drew (HWX.out.d.below (Below.refl _ _).drew) HWX.out.ok (by have := HWX.out.sl; omega) HLL.out).mono ?_
          rintro e w11 ⟨da, dc, rfl, hdr, hbd⟩
          have HB11 := Lib.hid (Below.trans (Below.refl w10.heap.size w10).drew hbd)
          have HDR := Lib.hid hdr
          clear hbd hdr
          refine hK.out _ _ (HS.out _ HB11.out) (fun hHeld => ?_)
          refine wpAnyH_ready (rs := [3]) (by kernel_rfl) (by simp) ?_
          refine AllReadyH.cons rfl (fun K hK => ?_) AllReadyH.nil
          rw [if_pos (by rfl)]
          go_simp
          go_at_call 24
          refine (sameH_x true _ _ _ _ _ _ L L w11 (HLR.out.below HB11.out (Nat.le_refl _)) HDR.out (by omega) rfl rfl (by simp)).mono ?_
          rintro e w12 ⟨rfl, nd, rfl⟩
          have HB12 := Lib.hid (Go.below_drewN HB11.out nd)
          generalize w11.drewN nd = w12 at *
          refine hK.out _ _ (HS.out _ HB12.out) (fun hHeld => ?_)
          refine wpAnyH_take (i := 4) (v := ?_) rfl (by kernel_rfl) (by kernel_rfl) (by kernel_rfl) (fun _ _ _ h => h) (Or.inl ⟨rfl, ?_⟩) hHeld ?_
          rotate_left
          · intro w0 hS0
            try dsimp only at hS0
            go_simp
            try with_reducible rfl
          simp only [List.getElem_toArray, List.getElem_cons_zero, List.getElem_cons_succ, Act.put, List.setIfInBounds_toArray, List.set_cons_zero, List.set_cons_succ]
          refine wpAnyH_take (i := 5) (v := ?_) rfl (by kernel_rfl) (by kernel_rfl) (by kernel_rfl) (fun _ _ _ h => h) (Or.inl ⟨rfl, ?_⟩) hHeld ?_
          rotate_left
          · intro w0 hS0
            try dsimp only at hS0
            go_simp
            try with_reducible rfl
          simp only [List.getElem_toArray, List.getElem_cons_zero, List.getElem_cons_succ, Act.put, List.setIfInBounds_toArray, List.set_cons_zero, List.set_cons_succ]
          refine wpAnyH_take (i := 6) (v := ?_) rfl (by kernel_rfl) (by kernel_rfl) (by kernel_rfl) (fun _ _ _ h => h) (Or.inl ⟨rfl, ?_⟩) hHeld ?_
          rotate_left
          · intro w0 hS0
            try dsimp only at hS0
            go_simp
            try with_reducible rfl
          simp only [List.getElem_toArray, List.getElem_cons_zero, List.getElem_cons_succ, Act.put, List.setIfInBounds_toArray, List.set_cons_zero, List.set_cons_succ]
          refine wpAnyH_take (i := 8) (v := ?_) rfl (by kernel_rfl) (by kernel_rfl) (by kernel_rfl) (fun _ _ _ h => h) (Or.inl ⟨rfl, ?_⟩) hHeld ?_
          rotate_left
          · intro w0 hS0
            try dsimp only at hS0
            go_simp
            try with_reducible rfl
          simp only [List.getElem_toArray, List.getElem_cons_zero, List.getElem_cons_succ, Act.put, List.setIfInBounds_toArray, List.set_cons_zero, List.set_cons_succ]
          refine wpAnyH_take (i := 9) (v := ?_) rfl (by kernel_rfl) (by kernel_rfl) (by kernel_rfl) (fun _ _ _ h => h) (Or.inl ⟨rfl, ?_⟩) hHeld ?_
          rotate_left
          · intro w0 hS0
            try dsimp only at hS0
            go_simp
            try with_reducible rfl
          simp only [List.getElem_toArray, List.getElem_cons_zero, List.getElem_cons_succ, Act.put, List.setIfInBounds_toArray, List.set_cons_zero, List.set_cons_succ]
          refine wpAnyH_take (i := 10) (v := ?_) rfl (by kernel_rfl) (by kernel_rfl) (by kernel_rfl) (fun _ _ _ h => h) (Or.inl ⟨rfl, ?_⟩) hHeld ?_
          rotate_left
          · intro w0 hS0
            try dsimp only at hS0
            go_simp
            try with_reducible rfl
          simp only [List.getElem_toArray, List.getElem_cons_zero, List.getElem_cons_succ, Act.put, List.setIfInBounds_toArray, List.set_cons_zero, List.set_cons_succ]
          refine wpAnyH_take (i := 11) (v := ?_) rfl (by kernel_rfl) (by kernel_rfl) (by kernel_rfl) (fun _ _ _ h => h) (Or.inl ⟨rfl, ?_⟩) hHeld ?_
          rotate_left
          · intro w0 hS0
            try dsimp only at hS0
            go_simp
            try with_reducible rfl
          simp only [List.getElem_toArray, List.getElem_cons_zero, List.getElem_cons_succ, Act.put, List.setIfInBounds_toArray, List.set_cons_zero, List.set_cons_succ]
          refine wpAnyH_take (i := 12) (v := ?_) rfl (by kernel_rfl) (by kernel_rfl) (by kernel_rfl) (fun _ _ _ h => h) (Or.inl ⟨rfl, ?_⟩) hHeld ?_
          rotate_left
          · intro w0 hS0
            try dsimp only at hS0
            go_simp
            try with_reducible rfl
          simp only [List.getElem_toArray, List.getElem_cons_zero, List.getElem_cons_succ, Act.put, List.setIfInBounds_toArray, List.set_cons_zero, List.set_cons_succ]
          refine wpAnyH_take (i := 13) (v := ?_) rfl (by kernel_rfl) (by kernel_rfl) (by kernel_rfl) (fun _ _ _ h => h) (Or.inl ⟨rfl, ?_⟩) hHeld ?_
          rotate_left
          · intro w0 hS0
            try dsimp only at hS0
            go_simp
            try with_reducible rfl
          simp only [List.getElem_toArray, List.getElem_cons_zero, List.getElem_cons_succ, Act.put, List.setIfInBounds_toArray, List.set_cons_zero, List.set_cons_succ]
          refine wpAnyH_take (i := 14) (v := ?_) rfl (by kernel_rfl) (by kernel_rfl) (by kernel_rfl) (fun _ _ _ h => h) (Or.inl ⟨rfl, ?_⟩) hHeld ?_
          rotate_left
          · intro w0 hS0
            try dsimp only at hS0
            go_simp
            try with_reducible rfl
          simp only [List.getElem_toArray, List.getElem_cons_zero, List.getElem_cons_succ, Act.put, List.setIfInBounds_toArray, List.set_cons_zero, List.set_cons_succ]
          refine wpAnyH_ready (rs := [7]) (by kernel_rfl) (by simp) ?_
          refine AllReadyH.cons rfl (fun K hK => ?_) AllReadyH.nil
          rw [if_pos (by rfl)]
          go_simp
          go_at_call 13
          refine (mkept_x (k + 1) m _ t K0 w F1 w12 (HWX.out.a.below HB12.out) (by omega) EK.out rfl).mono ?_
          rintro e w13 ⟨a3, c3, rfl, -, -, hb3, hk13⟩
          have HR3 := Lib.hid hb3.row
          have HB13 := Lib.hid (bnext HB12.out (Nat.le_refl _) hk13)
          clear hb3 hk13
          refine hK.out _ _ (HS.out _ HB13.out) (fun hHeld => ?_)
          refine wpAnyH_ready (rs := [15]) (by kernel_rfl) (by simp) ?_
          refine AllReadyH.cons rfl (fun K hK => ?_) AllReadyH.nil
          rw [if_pos (by rfl)]
          go_simp
          go_at_call 26
          refine (same12_any true _ _ _ _ K0 K0 w13 HR3.out (HKP.out _ HB13.out).2.2 HKN.out HKN.out (by simp)).mono ?_
          rintro e w14 ⟨rfl, nd, rfl⟩
          have HB14 := Lib.hid (Go.below_drewN HB13.out nd)
          generalize w13.drewN nd = w14 at *
          refine hK.out _ _ (HS.out _ HB14.out) (fun hHeld => ?_)
          refine wpAnyH_take (i := 16) (v := ?_) rfl (by kernel_rfl) (by kernel_rfl) (by kernel_rfl) (fun _ _ _ h => h) (Or.inl ⟨rfl, ?_⟩) hHeld ?_
          rotate_left
          · intro w0 hS0
            try dsimp only at hS0
            go_simp
            try with_reducible rfl
          simp only [List.getElem_toArray, List.getElem_cons_zero, List.getElem_cons_succ, Act.put, List.setIfInBounds_toArray, List.set_cons_zero, List.set_cons_succ]
          refine wpAnyH_take (i := 17) (v := ?_) rfl (by kernel_rfl) (by kernel_rfl) (by kernel_rfl) (fun _ _ _ h => h) (Or.inl ⟨rfl, ?_⟩) hHeld ?_
          rotate_left
          · intro w0 hS0
            try dsimp only at hS0
            go_simp
            try with_reducible rfl
          simp only [List.getElem_toArray, List.getElem_cons_zero, List.getElem_cons_succ, Act.put, List.setIfInBounds_toArray, List.set_cons_zero, List.set_cons_succ]
          refine wpAnyH_done (by kernel_rfl) ?_ _
          clear hHeld
          have HBZ := Lib.hid (HBL.out.trans (HB14.out.mono HBL.out.size))
          have HOWZ := Lib.hid (ownsRow_local HOW.out fun j hj => HB14.out.block j (HOW.out.lt j hj).2)
          have hln2 : (L.length : Int) ≤ 160000 := by omega
          clear HOW HLR HDR HB11 HB12 HB13 HB14 HKP HR3 HS
          go_wp2_with fail
          go_loopw [21] (fun i wq => ∃ j : Nat, i = .int .i64 j ∧ j ≤ L.length ∧ Below w9.heap.size w9 wq ∧ ∃ xs, wq.ownsRow w9.heap.size 65 2 (.slice la L.length lc) L.length xs) (fun i _ => (L.length - intOf i).toNat)
          case atStart => exact ⟨0, rfl, by omega, HBZ.out, _, HOWZ.out⟩
          case round =>
            obtain ⟨j, rfl, hj, hbq, xs, hown⟩ := hrel
            by_cases hlj : j < L.length
            · have hj0 : (0 : Int) ≤ j := by omega
              have hjl : (j : Int) < L.length := by omega
              obtain ⟨g, hg⟩ : ∃ g, la = some ⟨g, 0, none⟩ := by
                rcases hown.2 with ⟨e1, e2⟩ | ⟨g, _, _, e1, -⟩
                · omega
                · cases e1; exact ⟨g, rfl⟩
              subst hg
              have fz2 := hown.frozenAt (j * 2)
              have hcc := hown.cellAt (j * 2) (by omega)
              obtain ⟨uc, huc⟩ : ∃ u, xs[j * 2]? = some u := ⟨_, List.getElem?_eq_getElem (by have := hown.1; omega)⟩
              rw [huc] at hcc
              clear huc
              obtain ⟨hst, hgr⟩ := hown.stored (j * 2) (.string ⟨#[115, 112, 111, 105, 108, 116]⟩)
              have HST := Lib.hid hst
              have HBS := Lib.hid (hbq.grown hgr hbq.size (fun q hq => by cases hq; exact (hown.lt g rfl).1))
              clear hst hgr hown hbq
              go_wp2_with fail
              go_roundw
              case rel => exact ⟨j + 1, by go_num, by omega, HBS.out, _, HST.out⟩
              case measure => simp [intOf]; omega
            · have hjl : ¬ (j : Int) < L.length := by omega
              have HWE := Lib.hid (HWQ.out.below hbq)
              clear hown hbq
              go_wp2_with fail
              go_roundw
              case rel => exact ⟨k + 1, by go_num, by omega, t, F1, G1, HWE⟩
              case measure => simp [intOf]; omega
        · have hla' : ((k : Int) == l.length - 1) = false := by simpa using hla
          clear h8 hla
          go_wp2_with fail
          go_roundw
          case rel => exact ⟨k + 1, by go_num, by omega, t, F1, G1, HWQ⟩
          case measure => simp [intOf]; omega
    · have hkl : ¬ (k : Int) < l.length := by omega
      go_wp2_with fail
      refine (HAW.out _ HW.out.a.bel).mono ?_
      rintro e w2 ⟨rfl, hk⟩
      have HK := Lib.hid hk
      clear hk
      go_wp2_with fail
      go_ret
      exact ⟨rfl, HK.out⟩
end Go.Proofs.YthfeckndkmhieaaGreatDoor
