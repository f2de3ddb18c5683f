/- ModelOne walked. (Printed by gen_mone.py.) -/
import Derived.Test.YthfeckndkmhieaaGreatDoorMOneP
namespace Go.Proofs.YthfeckndkmhieaaGreatDoor
open Go Go.RowKit Go.Maps

theorem note_sizeA (n : Note) : (Tryz.prog.info? 32).map (·.size) = some n.cells.toArray.size := by kernel_rfl
theorem note_oneA (n : Note) : n.cells.toArray.all (·.oneCell') = true := by simp [Note.cells, Pkt.cells, Msg.cells, Value.oneCell']
theorem hasC_x (bb : Bool) (a : Option Addr) (c : Nat) (l : List Hint) (x : ByteArray) (w : World) (ha : Row w a (hintsV l)) (hl : l.length ≤ 160000) (hbb : decide (∃ h ∈ l, h.2 = x.data.toList) = bb) :
    Calls Tryz.prog 27 #[.slice a l.length c, .string x] w fun e w' => e = .returned (.bool bb) ∧ w = w' := by
  have := hasC_any bb a c l x.data.toList w ha (by omega) hbb
  rwa [str_mk] at this
set_option maxRecDepth 100000 in
set_option maxHeartbeats 16000000 in
theorem one_true (a : Option Addr) (c : Nat) (l : List Note) (w : World) (ha : Row w a (notesV l)) (hok : ∀ n ∈ l, n.ok w) (hT : Tabs w) (hgr : GreatQ a c l w) :
    Calls Tryz.prog 6 #[.slice a l.length c] w fun e w' => e = .returned (.bool true) ∧ Below w.heap.size w w' := by
  have HT := Lib.hid hT
  have HA := Lib.hid ha
  have HOK := Lib.hid hok
  unfold GreatQ at hgr
  have HGR := Lib.hid hgr
  clear hT ha hok hgr
  go_enter Tryz.func6, Tryz.ntmps6
  go_wp2_with fail
  refine HGR.out.mono ?_
  rintro e w1 ⟨g, rfl, hg, hk1⟩
  have HG := Lib.hid hg
  have HK1 := Lib.hid hk1
  clear hg hk1 HGR
  cases g with
  | true =>
    go_wp2_with fail
    refine (awake_true w1 (HT.out.below HK1.out)).mono ?_
    rintro e w2 ⟨rfl, hk⟩
    have HK := Lib.hid (bnext HK1.out (Nat.le_refl _) hk)
    clear hk
    go_wp2_with fail
    go_ret
    exact ⟨rfl, HK.out⟩
  | false =>
  obtain ⟨hl200, hsm⟩ := HG.out rfl
  have HSM := Lib.hid hsm
  clear HG hsm
  go_wp2_with fail
  refine (mnew_x w w1 HK1.out).mono ?_
  rintro e w2 ⟨m, F0, rfl, hM, -⟩
  have HM0 := Lib.hid hM
  clear hM
  go_wp2_with fail
  go_loopw [4, 5, 6, 7, 8, 9, 10, 11, 12, 13] (fun i _ _ _ _ _ _ _ _ _ wr => ∃ k : Nat, i = .int .i64 k ∧ k ≤ l.length ∧ ∃ s F, Hid (Mo w wr k m s F)) (fun i _ _ _ _ _ _ _ _ _ _ => (l.length - intOf i).toNat)
  case atStart => exact ⟨0, rfl, by omega, _, _, HM0⟩
  case round =>
    obtain ⟨k, rfl, hk, s, F, HW⟩ := hrel
    clear HM0
    by_cases hlt : k < l.length
    · have hk0 : (0 : Int) ≤ k := by omega
      have hkl : (k : Int) < l.length := by omega
      have HXO := Lib.hid (noteOk_in (HOK.out _ (List.getElem_mem hlt)) (HSM.out _ (List.getElem_mem hlt)))
      have HXS := Lib.hid (note_subs (HOK.out _ (List.getElem_mem hlt)))
      obtain ⟨b, o, rfl, hrg⟩ := notes_row (HA.out.below HW.out.bel (Nat.le_refl _)) hlt
      have HRG := Lib.hid hrg
      clear hrg
      generalize l[k] = x at *
      have hk1 : k ≤ 200 := by omega
      have HN := Lib.hid (show k + 1 ≤ 10000 by omega)
      have HCS := Lib.hid (show x.client.size ≤ maxLen from HXO.out.client)
      have HNZ := Lib.hid (note_len35 x)
      have HZA := Lib.hid (note_sizeA x)
      have HO1 := Lib.hid (note_oneA x)
      have H35 := Lib.hid (show (35 : Nat) = x.cells.toArray.size from rfl)
      have HCL := Lib.hid (fun (X : World) (b : Nat) (h : X.heap[b]? = some (.cells x.cells.toArray 32 (0, 0))) => note_cell h)
      obtain ⟨⟨A, t⟩, hA⟩ : ∃ r, applyM x s = r := ⟨_, rfl⟩
      have HAA := Lib.hid hA
      have HOt := Lib.hid (show MOk t by have := applyM_ok HXO.out HW.out.ok; rw [hA] at this; exact this)
      have HSAME := Lib.hid (fun h => one_same HW.out.ok (applyM_ok HXO.out HW.out.ok) (x := x) (s := s) h)
      have HCONN := Lib.hid (fun h1 h2 h3 => one_conn HW.out.ok (applyM_ok HXO.out HW.out.ok) (x := x) (s := s) h1 h2 h3)
      have HELSE := Lib.hid (fun h1 h2 h3 => one_else (x := x) (s := s) h1 h2 h3)
      rw [hA] at HSAME HCONN HELSE
      have HAP := Lib.hid (fun X F (h : Mo w X k m s F) => apply_x k m x A s t w F X h HT.out HXO.out (h.beside HXS.out) (by omega) hA)
      obtain ⟨A1, pr, ok⟩ := A
      dsimp only at HSAME HCONN HELSE HAP
      obtain ⟨was, hwas⟩ : ∃ z, connOf (lookS x.client.data.toList s.seats) = z := ⟨_, rfl⟩
      obtain ⟨had, hhad⟩ : ∃ z, (lookS x.client.data.toList s.seats).isSome = z := ⟨_, rfl⟩
      obtain ⟨L, hL⟩ : ∃ z, listsM s.seats = z := ⟨_, rfl⟩
      obtain ⟨now, hnow⟩ : ∃ z, connOf (lookS x.client.data.toList t.seats) = z := ⟨_, rfl⟩
      obtain ⟨L', hL'⟩ : ∃ z, listsM t.seats = z := ⟨_, rfl⟩
      obtain ⟨has', hhas'⟩ : ∃ z, (lookS x.client.data.toList t.seats).isSome = z := ⟨_, rfl⟩
      have EW := Lib.hid hwas
      have EH := Lib.hid hhad
      have EL := Lib.hid hL
      have EN := Lib.hid hnow
      have EL' := Lib.hid hL'
      have EH' := Lib.hid hhas'
      replace HSAME : Hid ((x.kind ≠ 2 ∨ ok = false) → pr = false ∧ now = was ∧ has' = had ∧ L' = L) := Lib.hid (fun h => by
        obtain ⟨h1, h2, h3⟩ := HSAME.out h
        refine ⟨h1, ?_, ?_, ?_⟩
        · rw [← hnow, ← hwas, h2]
        · rw [← hhas', ← hhad, h2]
        · rw [← hL', ← hL, h3])
      rw [hwas, hnow, hhad, hhas', hL'] at HCONN
      rw [hwas, hnow] at HELSE
      clear hA hwas hhad hL hnow hL' hhas'
      have HMW := Lib.hid (Aw.start HW.out)
      clear HW
      generalize hNA : x.cells.toArray = NA at *
      have hNL : x.cells = NA.toList := by rw [← hNA]
      rw [hNL] at HRG HNZ
      have hNT : NA.toList.toArray = NA := by simp
      go_wp2_with (first
        | (refine wpList_loadM (by kernel_rfl) 32 _ rfl b (o + k * 35) rfl NA.toList _ HRG.out Tryz.underlying32 rfl HNZ.out ?_)
        | (refine wpList_store_newTo rfl 32 _ _ rfl rfl _ rfl NA _ rfl (by rw [← hNT]; rfl) HZA.out H35.out HO1.out ?_)
        | fail)
      replace HMW := Lib.hid (HMW.out.alloc _ rfl NA 32)
      have hc1 := HMW.out.held _ (List.mem_cons_self ..)
      obtain ⟨-, -, c3, -⟩ := HCL.out _ _ hc1.1
      generalize wr.heap.size = b5 at *
      generalize wr.alloc (.cells NA 32) = w3 at *
      have HB3 : Hid (∀ X : World, Below w3.heap.size w3 X → X.cell? ⟨b5, 3, none⟩ = some (.string x.client)) := Lib.hid (fun X hX => (hX.cell (p := ⟨b5, 3, none⟩) (World.block_lt_of_cell? _ _ c3)).trans c3)
      clear hc1
      refine wp_region_held_drew (S := fun X => X.cell? ⟨b5, 3, none⟩ = some (.string x.client)) (by kernel_rfl) c3 (fun hHeld => ?_)
      refine wpAnyH_take (i := 0) (v := ?_) rfl (by kernel_rfl) (by kernel_rfl) (by kernel_rfl) (fun _ _ _ h => h) (Or.inl ⟨rfl, ?_⟩) hHeld ?_
      rotate_left
      · intro w0 hS0
        try dsimp only at hS0
        go_simp
        try with_reducible rfl
      simp only [List.getElem_toArray, List.getElem_cons_zero, Act.put, List.setIfInBounds_toArray, List.set_cons_zero, List.set_cons_succ]
      refine wpAnyH_take (i := 1) (v := ?_) rfl (by kernel_rfl) (by kernel_rfl) (by kernel_rfl) (fun _ _ _ h => h) (Or.inl ⟨rfl, ?_⟩) hHeld ?_
      rotate_left
      · intro w0 hS0
        try dsimp only at hS0
        go_simp
        try with_reducible rfl
      simp only [List.getElem_toArray, List.getElem_cons_zero, List.getElem_cons_succ, Act.put, List.setIfInBounds_toArray, List.set_cons_zero, List.set_cons_succ]
      refine wpAnyH_take (i := 2) (v := ?_) rfl (by kernel_rfl) (by kernel_rfl) (by kernel_rfl) (fun _ _ _ h => h) (Or.inl ⟨rfl, ?_⟩) hHeld ?_
      rotate_left
      · intro w0 hS0
        try dsimp only at hS0
        go_simp
        try with_reducible rfl
      simp only [List.getElem_toArray, List.getElem_cons_zero, List.getElem_cons_succ, Act.put, List.setIfInBounds_toArray, List.set_cons_zero, List.set_cons_succ]
      refine wpAnyH_take (i := 4) (v := ?_) rfl (by kernel_rfl) (by kernel_rfl) (by kernel_rfl) (fun _ _ _ h => h) (Or.inl ⟨rfl, ?_⟩) hHeld ?_
      rotate_left
      · intro w0 hS0
        try dsimp only at hS0
        go_simp
        try with_reducible rfl
      simp only [List.getElem_toArray, List.getElem_cons_zero, List.getElem_cons_succ, Act.put, List.setIfInBounds_toArray, List.set_cons_zero, List.set_cons_succ]
      refine wpAnyH_take (i := 5) (v := ?_) rfl (by kernel_rfl) (by kernel_rfl) (by kernel_rfl) (fun _ _ _ h => h) (Or.inl ⟨rfl, ?_⟩) hHeld ?_
      rotate_left
      · intro w0 hS0
        try dsimp only at hS0
        go_simp
        try with_reducible rfl
      simp only [List.getElem_toArray, List.getElem_cons_zero, List.getElem_cons_succ, Act.put, List.setIfInBounds_toArray, List.set_cons_zero, List.set_cons_succ]
      refine wpAnyH_take (i := 6) (v := ?_) rfl (by kernel_rfl) (by kernel_rfl) (by kernel_rfl) (fun _ _ _ h => h) (Or.inl ⟨rfl, ?_⟩) hHeld ?_
      rotate_left
      · intro w0 hS0
        try dsimp only at hS0
        go_simp
        try with_reducible rfl
      simp only [List.getElem_toArray, List.getElem_cons_zero, List.getElem_cons_succ, Act.put, List.setIfInBounds_toArray, List.set_cons_zero, List.set_cons_succ]
      refine wpAnyH_take (i := 8) (v := ?_) rfl (by kernel_rfl) (by kernel_rfl) (by kernel_rfl) (fun _ _ _ h => h) (Or.inl ⟨rfl, ?_⟩) hHeld ?_
      rotate_left
      · intro w0 hS0
        try dsimp only at hS0
        go_simp
        try with_reducible rfl
      simp only [List.getElem_toArray, List.getElem_cons_zero, List.getElem_cons_succ, Act.put, List.setIfInBounds_toArray, List.set_cons_zero, List.set_cons_succ]
      have hdr : Below w3.heap.size w3 w3.drew := (Below.refl _ _).drew
      have HMD := Lib.hid (HMW.out.mo.below hdr)
      refine wpAnyH_ready (rs := [3]) (by kernel_rfl) (by simp) ?_
      refine AllReadyH.cons rfl (fun K hK => ?_) AllReadyH.nil
      rw [if_pos (by rfl)]
      go_simp
      go_at_call 12
      refine (mconn_x was k m s x.client w F _ HMD.out HCS.out EW.out).mono ?_
      rintro e w4 ⟨rfl, rfl⟩
      refine hK.out _ _ (HB3.out _ hdr) (fun hHeld => ?_)
      refine wpAnyH_ready (rs := [7]) (by kernel_rfl) (by simp) ?_
      refine AllReadyH.cons rfl (fun K hK => ?_) AllReadyH.nil
      rw [if_pos (by rfl)]
      go_simp
      go_at_call 11
      refine (mhas_x had k m s x.client w F _ HMD.out HCS.out EH.out).mono ?_
      rintro e w4 ⟨rfl, rfl⟩
      refine hK.out _ _ (HB3.out _ hdr) (fun hHeld => ?_)
      refine wpAnyH_ready (rs := [9]) (by kernel_rfl) (by simp) ?_
      refine AllReadyH.cons rfl (fun K hK => ?_) AllReadyH.nil
      rw [if_pos (by rfl)]
      go_simp
      go_at_call 15
      refine (mlists_x k m s L w F _ HMD.out (by omega) EL.out).mono ?_
      rintro e w4 ⟨a1, cc1, rfl, -, -, hk4⟩
      have hb4 := bnext hdr (Nat.le_refl _) hk4
      replace HMW := Lib.hid (HMW.out.below hb4)
      refine hK.out _ _ (HB3.out _ hb4) (fun hHeld => ?_)
      refine wpAnyH_take (i := 10) (v := ?_) rfl (by kernel_rfl) (by kernel_rfl) (by kernel_rfl) (fun _ _ _ h => h) (Or.inl ⟨rfl, ?_⟩) hHeld ?_
      rotate_left
      · intro w0 hS0
        try dsimp only at hS0
        go_simp
        try with_reducible rfl
      simp only [List.getElem_toArray, List.getElem_cons_zero, List.getElem_cons_succ, Act.put, List.setIfInBounds_toArray, List.set_cons_zero, List.set_cons_succ]
      refine wpAnyH_take (i := 11) (v := ?_) rfl (by kernel_rfl) (by kernel_rfl) (by kernel_rfl) (fun _ _ _ h => h) (Or.inl ⟨rfl, ?_⟩) hHeld ?_
      rotate_left
      · intro w0 hS0
        try dsimp only at hS0
        go_simp
        try with_reducible rfl
      simp only [List.getElem_toArray, List.getElem_cons_zero, List.getElem_cons_succ, Act.put, List.setIfInBounds_toArray, List.set_cons_zero, List.set_cons_succ]
      refine wpAnyH_take (i := 12) (v := ?_) rfl (by kernel_rfl) (by kernel_rfl) (by kernel_rfl) (fun _ _ _ h => h) (Or.inl ⟨rfl, ?_⟩) hHeld ?_
      rotate_left
      · intro w0 hS0
        try dsimp only at hS0
        go_simp
        try with_reducible rfl
      simp only [List.getElem_toArray, List.getElem_cons_zero, List.getElem_cons_succ, Act.put, List.setIfInBounds_toArray, List.set_cons_zero, List.set_cons_succ]
      refine wpAnyH_take (i := 13) (v := ?_) rfl (by kernel_rfl) (by kernel_rfl) (by kernel_rfl) (fun _ _ _ h => h) (Or.inl ⟨rfl, ?_⟩) hHeld ?_
      rotate_left
      · intro w0 hS0
        try dsimp only at hS0
        go_simp
        try with_reducible rfl
      simp only [List.getElem_toArray, List.getElem_cons_zero, List.getElem_cons_succ, Act.put, List.setIfInBounds_toArray, List.set_cons_zero, List.set_cons_succ]
      refine wpAnyH_done (by kernel_rfl) ?_ _
      clear hHeld hb4 hk4 hdr HMD HB3 c3
      go_wp2_with (first | (refine wpList_loadG (by kernel_rfl) 32 _ rfl b5 rfl 32 NA _ _ (HMW.out.held _ (List.mem_cons_self ..)).1 Tryz.underlying32 rfl HZA.out ?_) | fail)
      refine (HAP.out _ _ HMW.out.mo).mono ?_
      rintro e w5 ⟨rfl, F2, hM, hU⟩
      have HM2 := Lib.hid (HMW.out.upd hM hU)
      obtain ⟨c0, c2, c3, c4, c12, -⟩ := HCL.out _ _ (HM2.out.held _ (List.mem_cons_self ..)).1
      clear hM hU HAP HMW
      go_wp2_with fail
      refine (mconn_x now (k + 1) m t x.client w F2 w5 HM2.out.mo HCS.out EN.out).mono ?_
      rintro e w6 ⟨rfl, rfl⟩
      by_cases hP : x.kind ≠ 2 ∨ ok = false
      · obtain ⟨rfl, rfl, rfl, rfl⟩ := HSAME.out hP
        clear HCONN HELSE HSAME
        by_cases h2 : x.kind = 2
        · have hok2 : ok = false := by rcases hP with h | h; exact absurd h2 h; exact h
          subst hok2
          rw [h2] at c0
          clear hP
          go_wp2_with fail
          refine (mhas_x has' (k + 1) m t x.client w F2 w5 HM2.out.mo HCS.out EH'.out).mono ?_
          rintro e w6 ⟨rfl, rfl⟩
          cases has' <;>
          · go_wp2_with fail
            refine (mlists_x (k + 1) m t L' w F2 w5 HM2.out.mo HN.out EL'.out).mono ?_
            rintro e w7 ⟨a2, c2, rfl, -, -, hk7⟩
            have HM3 := Lib.hid (HM2.out.below hk7)
            clear hk7
            go_wp2_with fail
            go_roundw
            case rel => exact ⟨k + 1, by go_num, by omega, t, F2, Lib.hid HM3.out.mo⟩
            case measure => simp [intOf]; omega
        · have h2' : (x.kind == 2) = false := by simpa using h2
          clear hP
          go_wp2_with fail
          refine (mhas_x has' (k + 1) m t x.client w F2 w5 HM2.out.mo HCS.out EH'.out).mono ?_
          rintro e w6 ⟨rfl, rfl⟩
          cases has' <;>
          · go_wp2_with fail
            refine (mlists_x (k + 1) m t L' w F2 w5 HM2.out.mo HN.out EL'.out).mono ?_
            rintro e w7 ⟨a2, c2, rfl, -, -, hk7⟩
            have HM3 := Lib.hid (HM2.out.below hk7)
            clear hk7
            go_wp2_with fail
            go_roundw
            case rel => exact ⟨k + 1, by go_num, by omega, t, F2, Lib.hid HM3.out.mo⟩
            case measure => simp [intOf]; omega
      · have h2 : x.kind = 2 := Classical.byContradiction fun h => hP (.inl h)
        have hok2 : ok = true := by cases ok; exact absurd (.inr rfl) hP; rfl
        subst hok2
        rw [h2] at c0
        clear HSAME hP
        by_cases h1 : x.pk.ty = 1
        · obtain ⟨rfl, rfl, hc, rfl, hp1, hp2⟩ := HCONN.out h2 h1 rfl
          rw [h1] at c4
          have HP1 := Lib.hid hp1
          have HP2 := Lib.hid hp2
          clear HCONN HELSE hp1 hp2
          have HS5 : Hid (∀ X : World, Below w5.heap.size w5 X → X.cell? ⟨b5, 2, none⟩ = some (.int .i64 x.conn) ∧ X.cell? ⟨b5, 3, none⟩ = some (.string x.client) ∧ X.cell? ⟨b5, 12, none⟩ = some (.bool x.pk.clean)) := Lib.hid (fun X hX => ⟨(hX.cell (p := ⟨b5, 2, none⟩) (World.block_lt_of_cell? _ _ c2)).trans c2, (hX.cell (p := ⟨b5, 3, none⟩) (World.block_lt_of_cell? _ _ c3)).trans c3, (hX.cell (p := ⟨b5, 12, none⟩) (World.block_lt_of_cell? _ _ c12)).trans c12⟩)
          have hcd : decide (x.conn < 1) = false := decide_eq_false (by omega)
          cases pr with
          | true =>
            obtain ⟨rfl, hcl⟩ := HP1.out rfl
            rw [hcl] at c12 HS5
            clear HP1 HP2 hc
            go_wp2_with fail
            refine wp_region_held_drew (S := fun X => X.cell? ⟨b5, 2, none⟩ = some (.int .i64 x.conn) ∧ X.cell? ⟨b5, 3, none⟩ = some (.string x.client) ∧ X.cell? ⟨b5, 12, none⟩ = some (.bool false)) (by kernel_rfl) ⟨c2, c3, c12⟩ (fun hHeld => ?_)
            have hdr : Below w5.heap.size w5 w5.drew := (Below.refl _ _).drew
            refine wpAnyH_take (i := 0) (v := ?_) rfl (by kernel_rfl) (by kernel_rfl) (by kernel_rfl) (fun _ _ _ h => h) (Or.inl ⟨rfl, ?_⟩) hHeld ?_
            rotate_left
            · intro w0 hS0
              try dsimp only at hS0
              go_simp
              try with_reducible rfl
            simp only [List.getElem_toArray, List.getElem_cons_zero, Act.put, List.setIfInBounds_toArray, List.set_cons_zero, List.set_cons_succ]
            refine wpAnyH_take (i := 1) (v := ?_) rfl (by kernel_rfl) (by kernel_rfl) (by kernel_rfl) (fun _ _ _ h => h) (Or.inl ⟨rfl, ?_⟩) hHeld ?_
            rotate_left
            · intro w0 hS0
              try dsimp only at hS0
              go_simp
              try with_reducible rfl
            simp only [List.getElem_toArray, List.getElem_cons_zero, List.getElem_cons_succ, Act.put, List.setIfInBounds_toArray, List.set_cons_zero, List.set_cons_succ]
            refine wpAnyH_take (i := 2) (v := ?_) rfl (by kernel_rfl) (by kernel_rfl) (by kernel_rfl) (fun _ _ _ h => h) (Or.inl ⟨rfl, ?_⟩) hHeld ?_
            rotate_left
            · intro w0 hS0
              try dsimp only at hS0
              go_simp
              try with_reducible rfl
            simp only [List.getElem_toArray, List.getElem_cons_zero, List.getElem_cons_succ, Act.put, List.setIfInBounds_toArray, List.set_cons_zero, List.set_cons_succ]
            refine wpAnyH_take (i := 3) (v := ?_) rfl (by kernel_rfl) (by kernel_rfl) (by kernel_rfl) (fun _ _ _ h => h) (Or.inl ⟨rfl, ?_⟩) hHeld ?_
            rotate_left
            · intro w0 hS0
              try dsimp only at hS0
              go_simp
              try with_reducible rfl
            simp only [List.getElem_toArray, List.getElem_cons_zero, List.getElem_cons_succ, Act.put, List.setIfInBounds_toArray, List.set_cons_zero, List.set_cons_succ]
            refine wpAnyH_take (i := 4) (v := ?_) rfl (by kernel_rfl) (by kernel_rfl) (by kernel_rfl) (fun _ _ _ h => h) (Or.inl ⟨rfl, ?_⟩) hHeld ?_
            rotate_left
            · intro w0 hS0
              try dsimp only at hS0
              go_simp
              try with_reducible rfl
            simp only [List.getElem_toArray, List.getElem_cons_zero, List.getElem_cons_succ, Act.put, List.setIfInBounds_toArray, List.set_cons_zero, List.set_cons_succ]
            refine wpAnyH_take (i := 5) (v := ?_) rfl (by kernel_rfl) (by kernel_rfl) (by kernel_rfl) (fun _ _ _ h => h) (Or.inl ⟨rfl, ?_⟩) hHeld ?_
            rotate_left
            · intro w0 hS0
              try dsimp only at hS0
              go_simp
              try with_reducible rfl
            simp only [List.getElem_toArray, List.getElem_cons_zero, List.getElem_cons_succ, Act.put, List.setIfInBounds_toArray, List.set_cons_zero, List.set_cons_succ]
            refine wpAnyH_take (i := 6) (v := ?_) rfl (by kernel_rfl) (by kernel_rfl) (by kernel_rfl) (fun _ _ _ h => h) (Or.inl ⟨rfl, ?_⟩) hHeld ?_
            rotate_left
            · intro w0 hS0
              try dsimp only at hS0
              go_simp
              try with_reducible rfl
            simp only [List.getElem_toArray, List.getElem_cons_zero, List.getElem_cons_succ, Act.put, List.setIfInBounds_toArray, List.set_cons_zero, List.set_cons_succ]
            refine wpAnyH_take (i := 7) (v := ?_) rfl (by kernel_rfl) (by kernel_rfl) (by kernel_rfl) (fun _ _ _ h => h) (Or.inl ⟨rfl, ?_⟩) hHeld ?_
            rotate_left
            · intro w0 hS0
              try dsimp only at hS0
              go_simp
              try with_reducible rfl
            simp only [List.getElem_toArray, List.getElem_cons_zero, List.getElem_cons_succ, Act.put, List.setIfInBounds_toArray, List.set_cons_zero, List.set_cons_succ]
            refine wpAnyH_take (i := 8) (v := ?_) rfl (by kernel_rfl) (by kernel_rfl) (by kernel_rfl) (fun _ _ _ h => h) (Or.inl ⟨rfl, ?_⟩) hHeld ?_
            rotate_left
            · intro w0 hS0
              try dsimp only at hS0
              go_simp
              try with_reducible rfl
            simp only [List.getElem_toArray, List.getElem_cons_zero, List.getElem_cons_succ, Act.put, List.setIfInBounds_toArray, List.set_cons_zero, List.set_cons_succ]
            refine wpAnyH_take (i := 9) (v := ?_) rfl (by kernel_rfl) (by kernel_rfl) (by kernel_rfl) (fun _ _ _ h => h) (Or.inl ⟨rfl, ?_⟩) hHeld ?_
            rotate_left
            · intro w0 hS0
              try dsimp only at hS0
              go_simp
              try with_reducible rfl
            simp only [List.getElem_toArray, List.getElem_cons_zero, List.getElem_cons_succ, Act.put, List.setIfInBounds_toArray, List.set_cons_zero, List.set_cons_succ]
            refine wpAnyH_take (i := 10) (v := ?_) rfl (by kernel_rfl) (by kernel_rfl) (by kernel_rfl) (fun _ _ _ h => h) (Or.inl ⟨rfl, ?_⟩) hHeld ?_
            rotate_left
            · intro w0 hS0
              try dsimp only at hS0
              go_simp
              try with_reducible rfl
            simp only [List.getElem_toArray, List.getElem_cons_zero, List.getElem_cons_succ, Act.put, List.setIfInBounds_toArray, List.set_cons_zero, List.set_cons_succ]
            refine wpAnyH_take (i := 11) (v := ?_) rfl (by kernel_rfl) (by kernel_rfl) (by kernel_rfl) (fun _ _ _ h => h) (Or.inl ⟨rfl, ?_⟩) hHeld ?_
            rotate_left
            · intro w0 hS0
              try dsimp only at hS0
              go_simp
              try with_reducible rfl
            simp only [List.getElem_toArray, List.getElem_cons_zero, List.getElem_cons_succ, Act.put, List.setIfInBounds_toArray, List.set_cons_zero, List.set_cons_succ]
            refine wpAnyH_take (i := 12) (v := ?_) rfl (by kernel_rfl) (by kernel_rfl) (by kernel_rfl) (fun _ _ _ h => h) (Or.inl ⟨rfl, ?_⟩) hHeld ?_
            rotate_left
            · intro w0 hS0
              try dsimp only at hS0
              go_simp
              try with_reducible rfl
            simp only [List.getElem_toArray, List.getElem_cons_zero, List.getElem_cons_succ, Act.put, List.setIfInBounds_toArray, List.set_cons_zero, List.set_cons_succ]
            refine wpAnyH_take (i := 13) (v := ?_) rfl (by kernel_rfl) (by kernel_rfl) (by kernel_rfl) (fun _ _ _ h => h) (Or.inl ⟨rfl, ?_⟩) hHeld ?_
            rotate_left
            · intro w0 hS0
              try dsimp only at hS0
              go_simp
              try with_reducible rfl
            simp only [List.getElem_toArray, List.getElem_cons_zero, List.getElem_cons_succ, Act.put, List.setIfInBounds_toArray, List.set_cons_zero, List.set_cons_succ]
            refine wpAnyH_take (i := 14) (v := ?_) rfl (by kernel_rfl) (by kernel_rfl) (by kernel_rfl) (fun _ _ _ h => h) (Or.inl ⟨rfl, ?_⟩) hHeld ?_
            rotate_left
            · intro w0 hS0
              try dsimp only at hS0
              go_simp
              try with_reducible rfl
            simp only [List.getElem_toArray, List.getElem_cons_zero, List.getElem_cons_succ, Act.put, List.setIfInBounds_toArray, List.set_cons_zero, List.set_cons_succ]
            refine wpAnyH_take (i := 15) (v := ?_) rfl (by kernel_rfl) (by kernel_rfl) (by kernel_rfl) (fun _ _ _ h => h) (Or.inl ⟨rfl, ?_⟩) hHeld ?_
            rotate_left
            · intro w0 hS0
              try dsimp only at hS0
              go_simp
              try with_reducible rfl
            simp only [List.getElem_toArray, List.getElem_cons_zero, List.getElem_cons_succ, Act.put, List.setIfInBounds_toArray, List.set_cons_zero, List.set_cons_succ]
            refine wpAnyH_take (i := 16) (v := ?_) rfl (by kernel_rfl) (by kernel_rfl) (by kernel_rfl) (fun _ _ _ h => h) (Or.inl ⟨rfl, ?_⟩) hHeld ?_
            rotate_left
            · intro w0 hS0
              try dsimp only at hS0
              go_simp
              try with_reducible rfl
            simp only [List.getElem_toArray, List.getElem_cons_zero, List.getElem_cons_succ, Act.put, List.setIfInBounds_toArray, List.set_cons_zero, List.set_cons_succ]
            refine wpAnyH_take (i := 17) (v := ?_) rfl (by kernel_rfl) (by kernel_rfl) (by kernel_rfl) (fun _ _ _ h => h) (Or.inl ⟨rfl, ?_⟩) hHeld ?_
            rotate_left
            · intro w0 hS0
              try dsimp only at hS0
              go_simp
              try with_reducible rfl
            simp only [List.getElem_toArray, List.getElem_cons_zero, List.getElem_cons_succ, Act.put, List.setIfInBounds_toArray, List.set_cons_zero, List.set_cons_succ]
            refine wpAnyH_take (i := 18) (v := ?_) rfl (by kernel_rfl) (by kernel_rfl) (by kernel_rfl) (fun _ _ _ h => h) (Or.inl ⟨rfl, ?_⟩) hHeld ?_
            rotate_left
            · intro w0 hS0
              try dsimp only at hS0
              go_simp
              try with_reducible rfl
            simp only [List.getElem_toArray, List.getElem_cons_zero, List.getElem_cons_succ, Act.put, List.setIfInBounds_toArray, List.set_cons_zero, List.set_cons_succ]
            refine wpAnyH_take (i := 19) (v := ?_) rfl (by kernel_rfl) (by kernel_rfl) (by kernel_rfl) (fun _ _ _ h => h) (Or.inl ⟨rfl, ?_⟩) hHeld ?_
            rotate_left
            · intro w0 hS0
              try dsimp only at hS0
              go_simp
              try with_reducible rfl
            simp only [List.getElem_toArray, List.getElem_cons_zero, List.getElem_cons_succ, Act.put, List.setIfInBounds_toArray, List.set_cons_zero, List.set_cons_succ]
            refine wpAnyH_take (i := 20) (v := ?_) rfl (by kernel_rfl) (by kernel_rfl) (by kernel_rfl) (fun _ _ _ h => h) (Or.inl ⟨rfl, ?_⟩) hHeld ?_
            rotate_left
            · intro w0 hS0
              try dsimp only at hS0
              go_simp
              try with_reducible rfl
            simp only [List.getElem_toArray, List.getElem_cons_zero, List.getElem_cons_succ, Act.put, List.setIfInBounds_toArray, List.set_cons_zero, List.set_cons_succ]
            refine wpAnyH_take (i := 21) (v := ?_) rfl (by kernel_rfl) (by kernel_rfl) (by kernel_rfl) (fun _ _ _ h => h) (Or.inl ⟨rfl, ?_⟩) hHeld ?_
            rotate_left
            · intro w0 hS0
              try dsimp only at hS0
              go_simp
              try with_reducible rfl
            simp only [List.getElem_toArray, List.getElem_cons_zero, List.getElem_cons_succ, Act.put, List.setIfInBounds_toArray, List.set_cons_zero, List.set_cons_succ]
            refine wpAnyH_take (i := 22) (v := ?_) rfl (by kernel_rfl) (by kernel_rfl) (by kernel_rfl) (fun _ _ _ h => h) (Or.inl ⟨rfl, ?_⟩) hHeld ?_
            rotate_left
            · intro w0 hS0
              try dsimp only at hS0
              go_simp
              try with_reducible rfl
            simp only [List.getElem_toArray, List.getElem_cons_zero, List.getElem_cons_succ, Act.put, List.setIfInBounds_toArray, List.set_cons_zero, List.set_cons_succ]
            refine wpAnyH_take (i := 23) (v := ?_) rfl (by kernel_rfl) (by kernel_rfl) (by kernel_rfl) (fun _ _ _ h => h) (Or.inl ⟨rfl, ?_⟩) hHeld ?_
            rotate_left
            · intro w0 hS0
              try dsimp only at hS0
              go_simp
              try with_reducible rfl
            simp only [List.getElem_toArray, List.getElem_cons_zero, List.getElem_cons_succ, Act.put, List.setIfInBounds_toArray, List.set_cons_zero, List.set_cons_succ]
            refine wpAnyH_take (i := 24) (v := ?_) rfl (by kernel_rfl) (by kernel_rfl) (by kernel_rfl) (fun _ _ _ h => h) (Or.inl ⟨rfl, ?_⟩) hHeld ?_
            rotate_left
            · intro w0 hS0
              try dsimp only at hS0
              go_simp
              try with_reducible rfl
            simp only [List.getElem_toArray, List.getElem_cons_zero, List.getElem_cons_succ, Act.put, List.setIfInBounds_toArray, List.set_cons_zero, List.set_cons_succ]
            refine wpAnyH_take (i := 25) (v := ?_) rfl (by kernel_rfl) (by kernel_rfl) (by kernel_rfl) (fun _ _ _ h => h) (Or.inl ⟨rfl, ?_⟩) hHeld ?_
            rotate_left
            · intro w0 hS0
              try dsimp only at hS0
              go_simp
              try with_reducible rfl
            simp only [List.getElem_toArray, List.getElem_cons_zero, List.getElem_cons_succ, Act.put, List.setIfInBounds_toArray, List.set_cons_zero, List.set_cons_succ]
            refine wpAnyH_take (i := 26) (v := ?_) rfl (by kernel_rfl) (by kernel_rfl) (by kernel_rfl) (fun _ _ _ h => h) (Or.inl ⟨rfl, ?_⟩) hHeld ?_
            rotate_left
            · intro w0 hS0
              try dsimp only at hS0
              go_simp
              try with_reducible rfl
            simp only [List.getElem_toArray, List.getElem_cons_zero, List.getElem_cons_succ, Act.put, List.setIfInBounds_toArray, List.set_cons_zero, List.set_cons_succ]
            refine wpAnyH_take (i := 27) (v := ?_) rfl (by kernel_rfl) (by kernel_rfl) (by kernel_rfl) (fun _ _ _ h => h) (Or.inl ⟨rfl, ?_⟩) hHeld ?_
            rotate_left
            · intro w0 hS0
              try dsimp only at hS0
              go_simp
              try with_reducible rfl
            simp only [List.getElem_toArray, List.getElem_cons_zero, List.getElem_cons_succ, Act.put, List.setIfInBounds_toArray, List.set_cons_zero, List.set_cons_succ]
            refine wpAnyH_ready (rs := [28]) (by kernel_rfl) (by simp) ?_
            refine AllReadyH.cons rfl (fun K hK => ?_) AllReadyH.nil
            rw [if_pos (by rfl)]
            go_simp
            go_at_call 11
            refine (mhas_x true (k + 1) m t x.client w F2 _ (HM2.out.mo.below hdr) HCS.out EH'.out).mono ?_
            rintro e w6 ⟨rfl, rfl⟩
            refine hK.out _ _ (HS5.out _ hdr) (fun hHeld => ?_)
            refine wpAnyH_take (i := 29) (v := ?_) rfl (by kernel_rfl) (by kernel_rfl) (by kernel_rfl) (fun _ _ _ h => h) (Or.inl ⟨rfl, ?_⟩) hHeld ?_
            rotate_left
            · intro w0 hS0
              try dsimp only at hS0
              go_simp
              try with_reducible rfl
            simp only [List.getElem_toArray, List.getElem_cons_zero, List.getElem_cons_succ, Act.put, List.setIfInBounds_toArray, List.set_cons_zero, List.set_cons_succ]
            refine wpAnyH_take (i := 30) (v := ?_) rfl (by kernel_rfl) (by kernel_rfl) (by kernel_rfl) (fun _ _ _ h => h) (Or.inl ⟨rfl, ?_⟩) hHeld ?_
            rotate_left
            · intro w0 hS0
              try dsimp only at hS0
              go_simp
              try with_reducible rfl
            simp only [List.getElem_toArray, List.getElem_cons_zero, List.getElem_cons_succ, Act.put, List.setIfInBounds_toArray, List.set_cons_zero, List.set_cons_succ]
            refine wpAnyH_take (i := 31) (v := ?_) rfl (by kernel_rfl) (by kernel_rfl) (by kernel_rfl) (fun _ _ _ h => h) (Or.inl ⟨rfl, ?_⟩) hHeld ?_
            rotate_left
            · intro w0 hS0
              try dsimp only at hS0
              go_simp
              try with_reducible rfl
            simp only [List.getElem_toArray, List.getElem_cons_zero, List.getElem_cons_succ, Act.put, List.setIfInBounds_toArray, List.set_cons_zero, List.set_cons_succ]
            refine wpAnyH_take (i := 32) (v := ?_) rfl (by kernel_rfl) (by kernel_rfl) (by kernel_rfl) (fun _ _ _ h => h) (Or.inl ⟨rfl, ?_⟩) hHeld ?_
            rotate_left
            · intro w0 hS0
              try dsimp only at hS0
              go_simp
              try with_reducible rfl
            simp only [List.getElem_toArray, List.getElem_cons_zero, List.getElem_cons_succ, Act.put, List.setIfInBounds_toArray, List.set_cons_zero, List.set_cons_succ]
            refine wpAnyH_take (i := 33) (v := ?_) rfl (by kernel_rfl) (by kernel_rfl) (by kernel_rfl) (fun _ _ _ h => h) (Or.inl ⟨rfl, ?_⟩) hHeld ?_
            rotate_left
            · intro w0 hS0
              try dsimp only at hS0
              go_simp
              try with_reducible rfl
            simp only [List.getElem_toArray, List.getElem_cons_zero, List.getElem_cons_succ, Act.put, List.setIfInBounds_toArray, List.set_cons_zero, List.set_cons_succ]
            refine wpAnyH_take (i := 34) (v := ?_) rfl (by kernel_rfl) (by kernel_rfl) (by kernel_rfl) (fun _ _ _ h => h) (Or.inl ⟨rfl, ?_⟩) hHeld ?_
            rotate_left
            · intro w0 hS0
              try dsimp only at hS0
              go_simp
              try with_reducible rfl
            simp only [List.getElem_toArray, List.getElem_cons_zero, List.getElem_cons_succ, Act.put, List.setIfInBounds_toArray, List.set_cons_zero, List.set_cons_succ]
            refine wpAnyH_take (i := 35) (v := undef) rfl (by kernel_rfl) (by kernel_rfl) (by kernel_rfl) (fun _ _ _ h => h) (Or.inr ⟨rfl, rfl⟩) hHeld ?_
            simp only [List.getElem_toArray, List.getElem_cons_zero, List.getElem_cons_succ, Act.put, List.setIfInBounds_toArray, List.set_cons_zero, List.set_cons_succ]
            refine wpAnyH_take (i := 36) (v := undef) rfl (by kernel_rfl) (by kernel_rfl) (by kernel_rfl) (fun _ _ _ h => h) (Or.inr ⟨rfl, rfl⟩) hHeld ?_
            simp only [List.getElem_toArray, List.getElem_cons_zero, List.getElem_cons_succ, Act.put, List.setIfInBounds_toArray, List.set_cons_zero, List.set_cons_succ]
            refine wpAnyH_take (i := 37) (v := undef) rfl (by kernel_rfl) (by kernel_rfl) (by kernel_rfl) (fun _ _ _ h => h) (Or.inr ⟨rfl, rfl⟩) hHeld ?_
            simp only [List.getElem_toArray, List.getElem_cons_zero, List.getElem_cons_succ, Act.put, List.setIfInBounds_toArray, List.set_cons_zero, List.set_cons_succ]
            refine wpAnyH_take (i := 38) (v := undef) rfl (by kernel_rfl) (by kernel_rfl) (by kernel_rfl) (fun _ _ _ h => h) (Or.inr ⟨rfl, rfl⟩) hHeld ?_
            simp only [List.getElem_toArray, List.getElem_cons_zero, List.getElem_cons_succ, Act.put, List.setIfInBounds_toArray, List.set_cons_zero, List.set_cons_succ]
            refine wpAnyH_take (i := 39) (v := undef) rfl (by kernel_rfl) (by kernel_rfl) (by kernel_rfl) (fun _ _ _ h => h) (Or.inr ⟨rfl, rfl⟩) hHeld ?_
            simp only [List.getElem_toArray, List.getElem_cons_zero, List.getElem_cons_succ, Act.put, List.setIfInBounds_toArray, List.set_cons_zero, List.set_cons_succ]
            refine wpAnyH_take (i := 40) (v := ?_) rfl (by kernel_rfl) (by kernel_rfl) (by kernel_rfl) (fun _ _ _ h => h) (Or.inl ⟨rfl, ?_⟩) hHeld ?_
            rotate_left
            · intro w0 hS0
              try dsimp only at hS0
              go_simp
              try with_reducible rfl
            simp only [List.getElem_toArray, List.getElem_cons_zero, List.getElem_cons_succ, Act.put, List.setIfInBounds_toArray, List.set_cons_zero, List.set_cons_succ]
            refine wpAnyH_take (i := 41) (v := ?_) rfl (by kernel_rfl) (by kernel_rfl) (by kernel_rfl) (fun _ _ _ h => h) (Or.inl ⟨rfl, ?_⟩) hHeld ?_
            rotate_left
            · intro w0 hS0
              try dsimp only at hS0
              go_simp
              try with_reducible rfl
            simp only [List.getElem_toArray, List.getElem_cons_zero, List.getElem_cons_succ, Act.put, List.setIfInBounds_toArray, List.set_cons_zero, List.set_cons_succ]
            refine wpAnyH_done (by kernel_rfl) ?_ _
            have HM3 := Lib.hid (HM2.out.below hdr)
            clear hHeld hdr
            go_wp2_with fail
            go_roundw
            case rel => exact ⟨k + 1, by go_num, by omega, t, F2, Lib.hid HM3.out.mo⟩
            case measure => simp [intOf]; omega
          | false =>
            have HNO := Lib.hid (HP2.out rfl)
            clear HP1 HP2 hc
            go_wp2_with fail
            refine wp_region_held_drew (S := fun X => X.cell? ⟨b5, 2, none⟩ = some (.int .i64 x.conn) ∧ X.cell? ⟨b5, 3, none⟩ = some (.string x.client) ∧ X.cell? ⟨b5, 12, none⟩ = some (.bool x.pk.clean)) (by kernel_rfl) ⟨c2, c3, c12⟩ (fun hHeld => ?_)
            have hdr : Below w5.heap.size w5 w5.drew := (Below.refl _ _).drew
            refine wpAnyH_take (i := 0) (v := ?_) rfl (by kernel_rfl) (by kernel_rfl) (by kernel_rfl) (fun _ _ _ h => h) (Or.inl ⟨rfl, ?_⟩) hHeld ?_
            rotate_left
            · intro w0 hS0
              try dsimp only at hS0
              go_simp
              try with_reducible rfl
            simp only [List.getElem_toArray, List.getElem_cons_zero, Act.put, List.setIfInBounds_toArray, List.set_cons_zero, List.set_cons_succ]
            refine wpAnyH_take (i := 1) (v := ?_) rfl (by kernel_rfl) (by kernel_rfl) (by kernel_rfl) (fun _ _ _ h => h) (Or.inl ⟨rfl, ?_⟩) hHeld ?_
            rotate_left
            · intro w0 hS0
              try dsimp only at hS0
              go_simp
              try with_reducible rfl
            simp only [List.getElem_toArray, List.getElem_cons_zero, List.getElem_cons_succ, Act.put, List.setIfInBounds_toArray, List.set_cons_zero, List.set_cons_succ]
            refine wpAnyH_take (i := 2) (v := ?_) rfl (by kernel_rfl) (by kernel_rfl) (by kernel_rfl) (fun _ _ _ h => h) (Or.inl ⟨rfl, ?_⟩) hHeld ?_
            rotate_left
            · intro w0 hS0
              try dsimp only at hS0
              go_simp
              try with_reducible rfl
            simp only [List.getElem_toArray, List.getElem_cons_zero, List.getElem_cons_succ, Act.put, List.setIfInBounds_toArray, List.set_cons_zero, List.set_cons_succ]
            refine wpAnyH_take (i := 3) (v := ?_) rfl (by kernel_rfl) (by kernel_rfl) (by kernel_rfl) (fun _ _ _ h => h) (Or.inl ⟨rfl, ?_⟩) hHeld ?_
            rotate_left
            · intro w0 hS0
              try dsimp only at hS0
              go_simp
              try with_reducible rfl
            simp only [List.getElem_toArray, List.getElem_cons_zero, List.getElem_cons_succ, Act.put, List.setIfInBounds_toArray, List.set_cons_zero, List.set_cons_succ]
            refine wpAnyH_take (i := 4) (v := ?_) rfl (by kernel_rfl) (by kernel_rfl) (by kernel_rfl) (fun _ _ _ h => h) (Or.inl ⟨rfl, ?_⟩) hHeld ?_
            rotate_left
            · intro w0 hS0
              try dsimp only at hS0
              go_simp
              try with_reducible rfl
            simp only [List.getElem_toArray, List.getElem_cons_zero, List.getElem_cons_succ, Act.put, List.setIfInBounds_toArray, List.set_cons_zero, List.set_cons_succ]
            refine wpAnyH_take (i := 5) (v := ?_) rfl (by kernel_rfl) (by kernel_rfl) (by kernel_rfl) (fun _ _ _ h => h) (Or.inl ⟨rfl, ?_⟩) hHeld ?_
            rotate_left
            · intro w0 hS0
              try dsimp only at hS0
              go_simp
              try with_reducible rfl
            simp only [List.getElem_toArray, List.getElem_cons_zero, List.getElem_cons_succ, Act.put, List.setIfInBounds_toArray, List.set_cons_zero, List.set_cons_succ]
            refine wpAnyH_take (i := 6) (v := ?_) rfl (by kernel_rfl) (by kernel_rfl) (by kernel_rfl) (fun _ _ _ h => h) (Or.inl ⟨rfl, ?_⟩) hHeld ?_
            rotate_left
            · intro w0 hS0
              try dsimp only at hS0
              go_simp
              try with_reducible rfl
            simp only [List.getElem_toArray, List.getElem_cons_zero, List.getElem_cons_succ, Act.put, List.setIfInBounds_toArray, List.set_cons_zero, List.set_cons_succ]
            refine wpAnyH_take (i := 7) (v := ?_) rfl (by kernel_rfl) (by kernel_rfl) (by kernel_rfl) (fun _ _ _ h => h) (Or.inl ⟨rfl, ?_⟩) hHeld ?_
            rotate_left
            · intro w0 hS0
              try dsimp only at hS0
              go_simp
              try with_reducible rfl
            simp only [List.getElem_toArray, List.getElem_cons_zero, List.getElem_cons_succ, Act.put, List.setIfInBounds_toArray, List.set_cons_zero, List.set_cons_succ]
            refine wpAnyH_take (i := 8) (v := ?_) rfl (by kernel_rfl) (by kernel_rfl) (by kernel_rfl) (fun _ _ _ h => h) (Or.inl ⟨rfl, ?_⟩) hHeld ?_
            rotate_left
            · intro w0 hS0
              try dsimp only at hS0
              go_simp
              try with_reducible rfl
            simp only [List.getElem_toArray, List.getElem_cons_zero, List.getElem_cons_succ, Act.put, List.setIfInBounds_toArray, List.set_cons_zero, List.set_cons_succ]
            refine wpAnyH_take (i := 9) (v := ?_) rfl (by kernel_rfl) (by kernel_rfl) (by kernel_rfl) (fun _ _ _ h => h) (Or.inl ⟨rfl, ?_⟩) hHeld ?_
            rotate_left
            · intro w0 hS0
              try dsimp only at hS0
              go_simp
              try with_reducible rfl
            simp only [List.getElem_toArray, List.getElem_cons_zero, List.getElem_cons_succ, Act.put, List.setIfInBounds_toArray, List.set_cons_zero, List.set_cons_succ]
            refine wpAnyH_take (i := 10) (v := ?_) rfl (by kernel_rfl) (by kernel_rfl) (by kernel_rfl) (fun _ _ _ h => h) (Or.inl ⟨rfl, ?_⟩) hHeld ?_
            rotate_left
            · intro w0 hS0
              try dsimp only at hS0
              go_simp
              try with_reducible rfl
            simp only [List.getElem_toArray, List.getElem_cons_zero, List.getElem_cons_succ, Act.put, List.setIfInBounds_toArray, List.set_cons_zero, List.set_cons_succ]
            refine wpAnyH_take (i := 11) (v := ?_) rfl (by kernel_rfl) (by kernel_rfl) (by kernel_rfl) (fun _ _ _ h => h) (Or.inl ⟨rfl, ?_⟩) hHeld ?_
            rotate_left
            · intro w0 hS0
              try dsimp only at hS0
              go_simp
              try with_reducible rfl
            simp only [List.getElem_toArray, List.getElem_cons_zero, List.getElem_cons_succ, Act.put, List.setIfInBounds_toArray, List.set_cons_zero, List.set_cons_succ]
            refine wpAnyH_take (i := 12) (v := ?_) rfl (by kernel_rfl) (by kernel_rfl) (by kernel_rfl) (fun _ _ _ h => h) (Or.inl ⟨rfl, ?_⟩) hHeld ?_
            rotate_left
            · intro w0 hS0
              try dsimp only at hS0
              go_simp
              try with_reducible rfl
            simp only [List.getElem_toArray, List.getElem_cons_zero, List.getElem_cons_succ, Act.put, List.setIfInBounds_toArray, List.set_cons_zero, List.set_cons_succ]
            refine wpAnyH_take (i := 13) (v := ?_) rfl (by kernel_rfl) (by kernel_rfl) (by kernel_rfl) (fun _ _ _ h => h) (Or.inl ⟨rfl, ?_⟩) hHeld ?_
            rotate_left
            · intro w0 hS0
              try dsimp only at hS0
              go_simp
              try with_reducible rfl
            simp only [List.getElem_toArray, List.getElem_cons_zero, List.getElem_cons_succ, Act.put, List.setIfInBounds_toArray, List.set_cons_zero, List.set_cons_succ]
            refine wpAnyH_take (i := 14) (v := ?_) rfl (by kernel_rfl) (by kernel_rfl) (by kernel_rfl) (fun _ _ _ h => h) (Or.inl ⟨rfl, ?_⟩) hHeld ?_
            rotate_left
            · intro w0 hS0
              try dsimp only at hS0
              go_simp
              try with_reducible rfl
            simp only [List.getElem_toArray, List.getElem_cons_zero, List.getElem_cons_succ, Act.put, List.setIfInBounds_toArray, List.set_cons_zero, List.set_cons_succ]
            refine wpAnyH_take (i := 15) (v := undef) rfl (by kernel_rfl) (by kernel_rfl) (by kernel_rfl) (fun _ _ _ h => h) (Or.inr ⟨rfl, rfl⟩) hHeld ?_
            simp only [List.getElem_toArray, List.getElem_cons_zero, List.getElem_cons_succ, Act.put, List.setIfInBounds_toArray, List.set_cons_zero, List.set_cons_succ]
            refine wpAnyH_take (i := 16) (v := undef) rfl (by kernel_rfl) (by kernel_rfl) (by kernel_rfl) (fun _ _ _ h => h) (Or.inr ⟨rfl, rfl⟩) hHeld ?_
            simp only [List.getElem_toArray, List.getElem_cons_zero, List.getElem_cons_succ, Act.put, List.setIfInBounds_toArray, List.set_cons_zero, List.set_cons_succ]
            refine wpAnyH_take (i := 17) (v := undef) rfl (by kernel_rfl) (by kernel_rfl) (by kernel_rfl) (fun _ _ _ h => h) (Or.inr ⟨rfl, rfl⟩) hHeld ?_
            simp only [List.getElem_toArray, List.getElem_cons_zero, List.getElem_cons_succ, Act.put, List.setIfInBounds_toArray, List.set_cons_zero, List.set_cons_succ]
            refine wpAnyH_take (i := 18) (v := undef) rfl (by kernel_rfl) (by kernel_rfl) (by kernel_rfl) (fun _ _ _ h => h) (Or.inr ⟨rfl, rfl⟩) hHeld ?_
            simp only [List.getElem_toArray, List.getElem_cons_zero, List.getElem_cons_succ, Act.put, List.setIfInBounds_toArray, List.set_cons_zero, List.set_cons_succ]
            refine wpAnyH_take (i := 19) (v := undef) rfl (by kernel_rfl) (by kernel_rfl) (by kernel_rfl) (fun _ _ _ h => h) (Or.inr ⟨rfl, rfl⟩) hHeld ?_
            simp only [List.getElem_toArray, List.getElem_cons_zero, List.getElem_cons_succ, Act.put, List.setIfInBounds_toArray, List.set_cons_zero, List.set_cons_succ]
            refine wpAnyH_take (i := 20) (v := undef) rfl (by kernel_rfl) (by kernel_rfl) (by kernel_rfl) (fun _ _ _ h => h) (Or.inr ⟨rfl, rfl⟩) hHeld ?_
            simp only [List.getElem_toArray, List.getElem_cons_zero, List.getElem_cons_succ, Act.put, List.setIfInBounds_toArray, List.set_cons_zero, List.set_cons_succ]
            refine wpAnyH_take (i := 21) (v := undef) rfl (by kernel_rfl) (by kernel_rfl) (by kernel_rfl) (fun _ _ _ h => h) (Or.inr ⟨rfl, rfl⟩) hHeld ?_
            simp only [List.getElem_toArray, List.getElem_cons_zero, List.getElem_cons_succ, Act.put, List.setIfInBounds_toArray, List.set_cons_zero, List.set_cons_succ]
            refine wpAnyH_take (i := 22) (v := ?_) rfl (by kernel_rfl) (by kernel_rfl) (by kernel_rfl) (fun _ _ _ h => h) (Or.inl ⟨rfl, ?_⟩) hHeld ?_
            rotate_left
            · intro w0 hS0
              try dsimp only at hS0
              go_simp
              try with_reducible rfl
            simp only [List.getElem_toArray, List.getElem_cons_zero, List.getElem_cons_succ, Act.put, List.setIfInBounds_toArray, List.set_cons_zero, List.set_cons_succ]
            refine wpAnyH_take (i := 23) (v := ?_) rfl (by kernel_rfl) (by kernel_rfl) (by kernel_rfl) (fun _ _ _ h => h) (Or.inl ⟨rfl, ?_⟩) hHeld ?_
            rotate_left
            · intro w0 hS0
              try dsimp only at hS0
              go_simp
              try with_reducible rfl
            simp only [List.getElem_toArray, List.getElem_cons_zero, List.getElem_cons_succ, Act.put, List.setIfInBounds_toArray, List.set_cons_zero, List.set_cons_succ]
            refine wpAnyH_take (i := 24) (v := ?_) rfl (by kernel_rfl) (by kernel_rfl) (by kernel_rfl) (fun _ _ _ h => h) (Or.inl ⟨rfl, ?_⟩) hHeld ?_
            rotate_left
            · intro w0 hS0
              try dsimp only at hS0
              go_simp
              try with_reducible rfl
            simp only [List.getElem_toArray, List.getElem_cons_zero, List.getElem_cons_succ, Act.put, List.setIfInBounds_toArray, List.set_cons_zero, List.set_cons_succ]
            refine wpAnyH_take (i := 25) (v := ?_) rfl (by kernel_rfl) (by kernel_rfl) (by kernel_rfl) (fun _ _ _ h => h) (Or.inl ⟨rfl, ?_⟩) hHeld ?_
            rotate_left
            · intro w0 hS0
              try dsimp only at hS0
              go_simp
              try with_reducible rfl
            simp only [List.getElem_toArray, List.getElem_cons_zero, List.getElem_cons_succ, Act.put, List.setIfInBounds_toArray, List.set_cons_zero, List.set_cons_succ]
            refine wpAnyH_take (i := 26) (v := ?_) rfl (by kernel_rfl) (by kernel_rfl) (by kernel_rfl) (fun _ _ _ h => h) (Or.inl ⟨rfl, ?_⟩) hHeld ?_
            rotate_left
            · intro w0 hS0
              try dsimp only at hS0
              go_simp
              try with_reducible rfl
            simp only [List.getElem_toArray, List.getElem_cons_zero, List.getElem_cons_succ, Act.put, List.setIfInBounds_toArray, List.set_cons_zero, List.set_cons_succ]
            refine wpAnyH_take (i := 27) (v := ?_) rfl (by kernel_rfl) (by kernel_rfl) (by kernel_rfl) (fun _ _ _ h => h) (Or.inl ⟨rfl, ?_⟩) hHeld ?_
            rotate_left
            · intro w0 hS0
              try dsimp only at hS0
              go_simp
              try with_reducible rfl
            simp only [List.getElem_toArray, List.getElem_cons_zero, List.getElem_cons_succ, Act.put, List.setIfInBounds_toArray, List.set_cons_zero, List.set_cons_succ]
            refine wpAnyH_ready (rs := [28]) (by kernel_rfl) (by simp) ?_
            refine AllReadyH.cons rfl (fun K hK => ?_) AllReadyH.nil
            rw [if_pos (by rfl)]
            go_simp
            go_at_call 11
            refine (mhas_x true (k + 1) m t x.client w F2 _ (HM2.out.mo.below hdr) HCS.out EH'.out).mono ?_
            rintro e w6 ⟨rfl, rfl⟩
            refine hK.out _ _ (HS5.out _ hdr) (fun hHeld => ?_)
            refine wpAnyH_take (i := 29) (v := ?_) rfl (by kernel_rfl) (by kernel_rfl) (by kernel_rfl) (fun _ _ _ h => h) (Or.inl ⟨rfl, ?_⟩) hHeld ?_
            rotate_left
            · intro w0 hS0
              try dsimp only at hS0
              go_simp
              try with_reducible rfl
            simp only [List.getElem_toArray, List.getElem_cons_zero, List.getElem_cons_succ, Act.put, List.setIfInBounds_toArray, List.set_cons_zero, List.set_cons_succ]
            refine wpAnyH_take (i := 30) (v := ?_) rfl (by kernel_rfl) (by kernel_rfl) (by kernel_rfl) (fun _ _ _ h => h) (Or.inl ⟨rfl, ?_⟩) hHeld ?_
            rotate_left
            · intro w0 hS0
              try dsimp only at hS0
              go_simp
              try with_reducible rfl
            simp only [List.getElem_toArray, List.getElem_cons_zero, List.getElem_cons_succ, Act.put, List.setIfInBounds_toArray, List.set_cons_zero, List.set_cons_succ]
            refine wpAnyH_take (i := 31) (v := ?_) rfl (by kernel_rfl) (by kernel_rfl) (by kernel_rfl) (fun _ _ _ h => h) (Or.inl ⟨rfl, ?_⟩) hHeld ?_
            rotate_left
            · intro w0 hS0
              try dsimp only at hS0
              go_simp
              try with_reducible rfl
            simp only [List.getElem_toArray, List.getElem_cons_zero, List.getElem_cons_succ, Act.put, List.setIfInBounds_toArray, List.set_cons_zero, List.set_cons_succ]
            refine wpAnyH_take (i := 32) (v := ?_) rfl (by kernel_rfl) (by kernel_rfl) (by kernel_rfl) (fun _ _ _ h => h) (Or.inl ⟨rfl, ?_⟩) hHeld ?_
            rotate_left
            · intro w0 hS0
              try dsimp only at hS0
              go_simp
              try with_reducible rfl
            simp only [List.getElem_toArray, List.getElem_cons_zero, List.getElem_cons_succ, Act.put, List.setIfInBounds_toArray, List.set_cons_zero, List.set_cons_succ]
            refine wpAnyH_take (i := 33) (v := ?_) rfl (by kernel_rfl) (by kernel_rfl) (by kernel_rfl) (fun _ _ _ h => h) (Or.inl ⟨rfl, ?_⟩) hHeld ?_
            rotate_left
            · intro w0 hS0
              try dsimp only at hS0
              go_simp
              try with_reducible rfl
            simp only [List.getElem_toArray, List.getElem_cons_zero, List.getElem_cons_succ, Act.put, List.setIfInBounds_toArray, List.set_cons_zero, List.set_cons_succ]
            refine wpAnyH_take (i := 34) (v := ?_) rfl (by kernel_rfl) (by kernel_rfl) (by kernel_rfl) (fun _ _ _ h => h) (Or.inl ⟨rfl, ?_⟩) hHeld ?_
            rotate_left
            · intro w0 hS0
              try dsimp only at hS0
              go_simp
              try with_reducible rfl
            simp only [List.getElem_toArray, List.getElem_cons_zero, List.getElem_cons_succ, Act.put, List.setIfInBounds_toArray, List.set_cons_zero, List.set_cons_succ]
            refine wpAnyH_take (i := 35) (v := ?_) rfl (by kernel_rfl) (by kernel_rfl) (by kernel_rfl) (fun _ _ _ h => h) (Or.inl ⟨rfl, ?_⟩) hHeld ?_
            rotate_left
            · intro w0 hS0
              try dsimp only at hS0
              go_simp
              try with_reducible rfl
            simp only [List.getElem_toArray, List.getElem_cons_zero, List.getElem_cons_succ, Act.put, List.setIfInBounds_toArray, List.set_cons_zero, List.set_cons_succ]
            refine wpAnyH_take (i := 37) (v := ?_) rfl (by kernel_rfl) (by kernel_rfl) (by kernel_rfl) (fun _ _ _ h => h) (Or.inl ⟨rfl, ?_⟩) hHeld ?_
            rotate_left
            · intro w0 hS0
              try dsimp only at hS0
              go_simp
              try with_reducible rfl
            simp only [List.getElem_toArray, List.getElem_cons_zero, List.getElem_cons_succ, Act.put, List.setIfInBounds_toArray, List.set_cons_zero, List.set_cons_succ]
            refine wpAnyH_take (i := 38) (v := ?_) rfl (by kernel_rfl) (by kernel_rfl) (by kernel_rfl) (fun _ _ _ h => h) (Or.inl ⟨rfl, ?_⟩) hHeld ?_
            rotate_left
            · intro w0 hS0
              try dsimp only at hS0
              go_simp
              try with_reducible rfl
            simp only [List.getElem_toArray, List.getElem_cons_zero, List.getElem_cons_succ, Act.put, List.setIfInBounds_toArray, List.set_cons_zero, List.set_cons_succ]
            refine wpAnyH_ready (rs := [36]) (by kernel_rfl) (by simp) ?_
            refine AllReadyH.cons rfl (fun K hK => ?_) AllReadyH.nil
            rw [if_pos (by rfl)]
            go_simp
            go_at_call 15
            refine (mlists_x (k + 1) m t L' w F2 _ (HM2.out.mo.below hdr) HN.out EL'.out).mono ?_
            rintro e w7 ⟨a2, c2', rfl, hl7, hb7, hk7⟩
            have hx7 := bnext hdr (Nat.le_refl _) hk7
            refine hK.out _ _ (HS5.out _ hx7) (fun hHeld => ?_)
            refine wpAnyH_ready (rs := [39]) (by kernel_rfl) (by simp) ?_
            refine AllReadyH.cons rfl (fun K hK => ?_) AllReadyH.nil
            rw [if_pos (by rfl)]
            go_simp
            go_at_call 27
            refine (hasC_x false a2 c2' L' x.client w7 hb7.row (by omega) (decide_eq_false HNO.out)).mono ?_
            rintro e w8 ⟨rfl, rfl⟩
            refine hK.out _ _ (HS5.out _ hx7) (fun hHeld => ?_)
            refine wpAnyH_take (i := 40) (v := ?_) rfl (by kernel_rfl) (by kernel_rfl) (by kernel_rfl) (fun _ _ _ h => h) (Or.inl ⟨rfl, ?_⟩) hHeld ?_
            rotate_left
            · intro w0 hS0
              try dsimp only at hS0
              go_simp
              try with_reducible rfl
            simp only [List.getElem_toArray, List.getElem_cons_zero, List.getElem_cons_succ, Act.put, List.setIfInBounds_toArray, List.set_cons_zero, List.set_cons_succ]
            refine wpAnyH_take (i := 41) (v := ?_) rfl (by kernel_rfl) (by kernel_rfl) (by kernel_rfl) (fun _ _ _ h => h) (Or.inl ⟨rfl, ?_⟩) hHeld ?_
            rotate_left
            · intro w0 hS0
              try dsimp only at hS0
              go_simp
              try with_reducible rfl
            simp only [List.getElem_toArray, List.getElem_cons_zero, List.getElem_cons_succ, Act.put, List.setIfInBounds_toArray, List.set_cons_zero, List.set_cons_succ]
            refine wpAnyH_done (by kernel_rfl) ?_ _
            have HM3 := Lib.hid (HM2.out.below hx7)
            clear hHeld hdr hx7 hb7 hl7 hk7
            go_wp2_with fail
            go_roundw
            case rel => exact ⟨k + 1, by go_num, by omega, t, F2, Lib.hid HM3.out.mo⟩
            case measure => simp [intOf]; omega
        · have h1' : (x.pk.ty == 1) = false := by simpa using h1
          obtain ⟨rfl, hc, rfl, he1, he2⟩ := HELSE.out h2 h1 rfl
          clear HCONN HELSE
          by_cases h14 : x.pk.ty = 14
          · obtain rfl := he1 (.inl h14)
            rw [h14] at c4
            clear he1 he2 h1'
            go_wp2_with fail
            go_roundw
            case rel => exact ⟨k + 1, by go_num, by omega, t, F2, Lib.hid HM2.out.mo⟩
            case measure => simp [intOf]; omega
          by_cases h0 : x.pk.ty = 0
          · obtain rfl := he1 (.inr h0)
            rw [h0] at c4
            clear he1 he2 h1'
            go_wp2_with fail
            go_roundw
            case rel => exact ⟨k + 1, by go_num, by omega, t, F2, Lib.hid HM2.out.mo⟩
            case measure => simp [intOf]; omega
          · obtain rfl := he2 (fun h => by rcases h with h | h; exact h14 h; exact h0 h)
            have h14' : (x.pk.ty == 14) = false := by simpa using h14
            have h0' : (x.pk.ty == 0) = false := by simpa using h0
            clear he1 he2 h14 h0
            go_wp2_with fail
            go_roundw
            case rel => exact ⟨k + 1, by go_num, by omega, t, F2, Lib.hid HM2.out.mo⟩
            case measure => simp [intOf]; omega
    · have hkl : ¬ (k : Int) < l.length := by omega
      go_wp2_with fail
      refine (awake_true _ (HW.out.tabs HT.out)).mono ?_
      rintro e w3 ⟨rfl, hk3⟩
      have HZ := Lib.hid (bnext HW.out.bel (Nat.le_refl _) hk3)
      clear hk3
      go_wp2_with fail
      go_ret
      exact ⟨rfl, HZ.out⟩
end Go.Proofs.YthfeckndkmhieaaGreatDoor
