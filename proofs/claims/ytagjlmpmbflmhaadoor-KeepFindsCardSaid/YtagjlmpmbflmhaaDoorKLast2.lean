/- KeepLast walked. -/
import Derived.Test.YtagjlmpmbflmhaaDoorKLast
import Derived.Laws.Cover1
namespace Go.Proofs.YtagjlmpmbflmhaaDoor
open Go Go.RowKit Go.Maps

theorem may_u (b : Bool) (t p : ByteArray) (q : Int) (r : Bool) (w : World) (hT : Tabs w) (hs : t.size < 4294967281) (hq : 0 ≤ q) (hq2 : q < 256) (hb : mayB ⟨t, p, q, r⟩ = b) :
    Calls Tryd.prog 23 #[.agg #[.string t, .string p, .int .u8 q, .bool r]] w fun e w' => e = .returned (.bool b) ∧ Below w.heap.size w w' := by
  subst hb; exact may_any ⟨t, p, q, r⟩ w hT hs hq hq2
theorem kget_no (g : Nat) (n : ByteArray) (l : List Msg) (F : List Nat) (w : World) (h : KRep w g l F) (hn : n.size ≤ maxLen) (hg : get n.data.toList l = none) :
    Calls Tryd.prog 22 #[.pointer (some ⟨g, 0, none⟩), .string n] w fun e w' => e = .returned (.tuple #[.agg #[.string ⟨#[]⟩, .string ⟨#[]⟩, .int .u8 0, .bool false], .bool false]) ∧ Below w.heap.size w w' := by
  have := kget_any g n l F w h hn
  rw [hg] at this
  exact this

set_option maxRecDepth 100000 in
set_option maxHeartbeats 2000000 in
theorem last_true (aI : Option Addr) (cI : Nat) (l : List Msg) (w : World) (ha : Row w aI (msgs l)) (hT : Tabs w) (hl : l.length ≤ maxLen) (hq : ∀ m ∈ l, 0 ≤ m.q ∧ m.q < 256) :
    Calls Tryd.prog 8 #[.slice aI l.length cI] w fun e w' => e = .returned (.bool true) ∧ Below w.heap.size w w' := by
  have HT := Lib.hid hT
  have HR := Lib.hid ha
  have HAW := Lib.hid (awake_true w hT)
  obtain ⟨gr, hgr⟩ : ∃ g, greatB l = g := ⟨_, rfl⟩
  have HG := Lib.hid (great_u gr aI cI l w ha hl hgr)
  have HGR := Lib.hid (fun h => great_facts (hgr.trans h) hq)
  clear ha hgr hT hq
  cases gr with
  | true =>
    go_enter Tryd.func8, Tryd.ntmps8
    go_wp2_with fail
    refine HG.out.mono ?_
    rintro e w1 ⟨rfl, rfl⟩
    go_wp2_with fail
    refine HAW.out.mono ?_
    rintro e w1 ⟨rfl, hk⟩
    go_wp2_with fail
    go_ret
    exact ⟨rfl, hk⟩
  | false =>
    obtain ⟨hok, hlen⟩ := HGR.out rfl
    have HOK := Lib.hid hok
    clear HGR hok HAW
    have HMK := Lib.hid (ok_made HOK.out)
    have HLE := Lib.hid (len_made l)
    have HLL := Lib.hid (len_last l)
    have HUP := Lib.hid (up_made l)
    have HGA := Lib.hid (fun k (h : k < l.length) => get_at h)
    have HCD := Lib.hid (fun k (h : k < l.length) => cnt_drop h)
    have HM := Lib.hid (made_any aI cI l w HR.out HT.out (by omega) HOK.out)
    generalize madeL l = L at *
    have hLL : L.length ≤ 60 := by have := HLE.out; omega
    clear HLE
    go_enter Tryd.func8, Tryd.ntmps8
    go_wp2_with fail
    refine HG.out.mono ?_
    rintro e w1 ⟨rfl, rfl⟩
    go_wp2_with fail
    refine HM.out.mono ?_
    rintro e w1 ⟨g, F, rfl, hO⟩
    have HO := Lib.hid hO
    clear hO HG HM
    go_wp2_with fail
    go_loopw [4, 5] (fun c i wr => ∃ k M : Nat, c = .int .i64 M ∧ i = .int .i64 k ∧ k ≤ l.length ∧ M + cntK (l.drop k) = cntK l ∧ M ≤ k ∧ One w wr g L F) (fun _ i _ => (l.length - intOf i).toNat)
    case atStart => exact ⟨0, 0, rfl, rfl, by omega, by simp, by omega, HO.out⟩
    case round =>
      obtain ⟨k, M, rfl, rfl, hk, hcnt, hMk, hW⟩ := hrel
      have HCNT := Lib.hid hcnt
      clear HO hcnt
      by_cases hlt : k < l.length
      · have HCD1 := Lib.hid (HCD.out k hlt)
        have HGA1 := Lib.hid (HGA.out k hlt)
        have HOX := Lib.hid (HOK.out l[k] (List.getElem_mem hlt))
        have hrd : (l.drop (k + 1)).length = l.length - (k + 1) := by simp
        have HRG : Hid (∀ j (h : j < (l.drop (k + 1)).length), l[k + 1 + j]? = some (l.drop (k + 1))[j]) := Lib.hid fun j h => by
          rw [List.getElem?_eq_getElem (by omega)]; simp
        have HRO : Hid (∀ y ∈ l.drop (k + 1), y.ok) := Lib.hid fun y hy => HOK.out y (List.mem_of_mem_drop hy)
        obtain ⟨b1, o1, rfl, k0, k1, k2, k3⟩ := msgs_row (HR.out.below hW.bel (Nat.le_refl _)) (k := k) (m := l[k]) (by simp [hlt])
        have HC := Lib.hid (fun W (h : Row W (some ⟨b1, o1, none⟩) (msgs l)) => row_cells h (k := k) (m := l[k]) (by simp [hlt]))
        have HROW := Lib.hid (fun W (h : One w W g L F) => HR.out.below h.bel (Nat.le_refl _))
        have hk0 : (0 : Int) ≤ k := by omega
        have hkl : (k : Int) < l.length := by omega
        generalize hRR : l.drop (k + 1) = R at *
        generalize l[k] = x at *
        obtain ⟨t, p, q, r⟩ := x
        dsimp only at *
        obtain ⟨mx, hmx⟩ : ∃ b, mayB ⟨t, p, q, r⟩ = b := ⟨_, rfl⟩
        have HL0 : Hid (mx = lastTo ⟨t, p, q, r⟩ (R.take 0)) := Lib.hid (by unfold lastTo; simp [hmx])
        have HMX := Lib.hid (fun W hT => may_u mx t p q r W hT (by have := HOX.out.1; dsimp only at this; omega) HOX.out.2.2.1 HOX.out.2.2.2 hmx)
        clear hmx
        have HW := Lib.hid hW
        clear hW
        go_wp2_with fail
        refine (HMX.out _ (HT.out.below HW.out.bel)).mono ?_
        rintro e w2 ⟨rfl, hk2⟩
        have HW2 := Lib.hid (HW.out.below hk2)
        clear k0 k1 k2 k3 HW hk2
        have hwk : IntKind.i64.wrap ((k : Int) + 1) = (k : Int) + 1 := w_i64 _ (by omega) (by omega)
        go_wp2_with fail
        go_loopw [6, 7] (fun b i wr => ∃ (j : Nat) (c : Bool), b = .bool c ∧ i = .int .i64 (((k + 1 + j : Nat)) : Int) ∧ k + 1 + j ≤ l.length ∧ c = lastTo ⟨t, p, q, r⟩ (R.take j) ∧ One w wr g L F) (fun _ i _ => (l.length - intOf i).toNat)
        case atStart => exact ⟨0, mx, rfl, by simp, by omega, HL0.out, HW2.out⟩
        case round =>
          clear HW2 HL0
          obtain ⟨j, c, rfl, rfl, hj, hc, hW⟩ := hrel
          have HCC := Lib.hid hc
          clear hc
          generalize hn : k + 1 + j = n at *
          by_cases hnl : n < l.length
          · have hjl : j < R.length := by omega
            have hnr := HRG.out j hjl
            have HYO := Lib.hid (HRO.out R[j] (List.getElem_mem hjl))
            have HSN : Hid (lastTo ⟨t, p, q, r⟩ (R.take (j + 1)) = (c && !hits t.data.toList R[j])) := Lib.hid (by
              rw [List.take_succ_eq_append_getElem hjl, lastTo_snoc, ← HCC.out]; rfl)
            have hn0 : (0 : Int) ≤ n := by omega
            have hnl' : (n : Int) < l.length := by omega
            have HW := Lib.hid hW
            have hrow := HROW.out _ hW
            generalize R[j] = y at *
            have HD := Lib.hid (fun W (h : Row W (some ⟨b1, o1, none⟩) (msgs l)) => row_cells h (k := n) (m := y) (by rw [← hn]; exact hnr))
            obtain ⟨j0, j1, j2, j3⟩ := HD.out _ hrow
            obtain ⟨k0, k1, k2, k3⟩ := HC.out _ hrow
            obtain ⟨yt, yp, yq, yr⟩ := y
            dsimp only at *
            clear hW hrow hnr
            cases c with
            | false =>
              go_wp2_with fail
              go_quiet (fail)
              go_wp2_with fail
              go_roundw
              case rel => exact ⟨j + 1, false, rfl, by go_num, by omega, by rw [HSN.out]; rfl, HW.out.drewN _⟩
              case measure => simp [intOf]; omega
            | true =>
              obtain ⟨my, hmy⟩ : ∃ b, mayB ⟨yt, yp, yq, yr⟩ = b := ⟨_, rfl⟩
              have HMY := Lib.hid (fun W hT => may_u my yt yp yq yr W hT (by have := HYO.out.1; dsimp only at this; omega) HYO.out.2.2.1 HYO.out.2.2.2 hmy)
              obtain ⟨be, hbe⟩ : ∃ b, (yt.toList == t.toList) = b := ⟨_, rfl⟩
              have HH : Hid (hits t.data.toList ⟨yt, yp, yq, yr⟩ = (my && be)) := Lib.hid (by
                unfold hits; rw [hmy, ← hbe]; congr 1
                rw [Bool.eq_iff_iff]; simp [Lib.toList_data, Msg.k])
              clear hmy
              go_wp2_with fail
              refine wp_region_held_drew (S := fun w' => One w w' g L F ∧ (w'.cell? ⟨b1, o1 + n * 4, none⟩ = some (.string yt) ∧ w'.cell? ⟨b1, o1 + n * 4 + 1, none⟩ = some (.string yp) ∧ w'.cell? ⟨b1, o1 + n * 4 + 2, none⟩ = some (.int .u8 yq) ∧ w'.cell? ⟨b1, o1 + n * 4 + 3, none⟩ = some (.bool yr)) ∧ w'.cell? ⟨b1, o1 + k * 4, none⟩ = some (.string t)) (by kernel_rfl) ⟨by exact HW.out.drewN 1, ⟨j0, j1, j2, j3⟩, k0⟩ (fun hHeld => ?_)
              refine wpAnyH_take (i := 0) (v := ?_) rfl (by kernel_rfl) (by kernel_rfl) (by kernel_rfl) (fun _ _ _ h => h) (Or.inl ⟨rfl, ?_⟩) hHeld ?_
              rotate_left
              · intro w0 hS0
                try dsimp only at hS0
                go_simp
                try with_reducible rfl
              simp only [List.getElem_toArray, List.getElem_cons_zero, Act.put, List.setIfInBounds_toArray, List.set_cons_zero, List.set_cons_succ]
              refine wpAnyH_take (i := 1) (v := ?_) rfl (by kernel_rfl) (by kernel_rfl) (by kernel_rfl) (fun _ _ _ h => h) (Or.inl ⟨rfl, ?_⟩) hHeld ?_
              rotate_left
              · intro w0 hS0
                try dsimp only at hS0
                go_simp
                try with_reducible rfl
              simp only [List.getElem_toArray, List.getElem_cons_zero, List.getElem_cons_succ, Act.put, List.setIfInBounds_toArray, List.set_cons_zero, List.set_cons_succ]
              refine wpAnyH_take (i := 2) (v := ?_) rfl (by kernel_rfl) (by kernel_rfl) (by kernel_rfl) (fun _ _ _ h => h) (Or.inl ⟨rfl, ?_⟩) hHeld ?_
              rotate_left
              · intro w0 hS0
                try dsimp only at hS0
                go_simp
                try with_reducible rfl
              simp only [List.getElem_toArray, List.getElem_cons_zero, List.getElem_cons_succ, Act.put, List.setIfInBounds_toArray, List.set_cons_zero, List.set_cons_succ]
              refine wpAnyH_take (i := 3) (v := ?_) rfl (by kernel_rfl) (by kernel_rfl) (by kernel_rfl) (fun _ _ _ h => h) (Or.inl ⟨rfl, ?_⟩) hHeld ?_
              rotate_left
              · intro w0 hS0
                try dsimp only at hS0
                go_simp
                try with_reducible rfl
              simp only [List.getElem_toArray, List.getElem_cons_zero, List.getElem_cons_succ, Act.put, List.setIfInBounds_toArray, List.set_cons_zero, List.set_cons_succ]
              refine wpAnyH_take (i := 4) (v := ?_) rfl (by kernel_rfl) (by kernel_rfl) (by kernel_rfl) (fun _ _ _ h => h) (Or.inl ⟨rfl, ?_⟩) hHeld ?_
              rotate_left
              · intro w0 hS0
                try dsimp only at hS0
                go_simp
                try with_reducible rfl
              simp only [List.getElem_toArray, List.getElem_cons_zero, List.getElem_cons_succ, Act.put, List.setIfInBounds_toArray, List.set_cons_zero, List.set_cons_succ]
              refine wpAnyH_take (i := 5) (v := ?_) rfl (by kernel_rfl) (by kernel_rfl) (by kernel_rfl) (fun _ _ _ h => h) (Or.inl ⟨rfl, ?_⟩) hHeld ?_
              rotate_left
              · intro w0 hS0
                try dsimp only at hS0
                go_simp
                try with_reducible rfl
              simp only [List.getElem_toArray, List.getElem_cons_zero, List.getElem_cons_succ, Act.put, List.setIfInBounds_toArray, List.set_cons_zero, List.set_cons_succ]
              refine wpAnyH_ready (rs := [6]) (by kernel_rfl) (by simp) ?_
              refine AllReadyH.cons rfl (fun K hK => ?_) AllReadyH.nil
              rw [if_pos (by rfl)]
              go_simp
              go_at_call 23
              refine (HMY.out _ (HT.out.below hHeld.1.bel)).mono ?_
              rintro e w5 ⟨rfl, hk5⟩
              have hO5 := hHeld.1.below hk5
              refine hK.out _ _ ⟨hO5, HD.out _ (HROW.out _ hO5), (HC.out _ (HROW.out _ hO5)).1⟩ (fun hHeld => ?_)
              clear hk5 hO5 k0 k1 k2 k3 j0 j1 j2 j3
              cases my with
              | false =>
                refine wpAnyH_take (i := 7) (v := ?_) rfl (by kernel_rfl) (by kernel_rfl) (by kernel_rfl) (fun _ _ _ h => h) (Or.inl ⟨rfl, ?_⟩) hHeld ?_
                rotate_left
                · intro w0 hS0
                  try dsimp only at hS0
                  go_simp
                  try with_reducible rfl
                simp only [List.getElem_toArray, List.getElem_cons_zero, List.getElem_cons_succ, Act.put, List.setIfInBounds_toArray, List.set_cons_zero, List.set_cons_succ]
                refine wpAnyH_take (i := 8) (v := undef) rfl (by kernel_rfl) (by kernel_rfl) (by kernel_rfl) (fun _ _ _ h => h) (Or.inr ⟨rfl, rfl⟩) hHeld ?_
                simp only [List.getElem_toArray, List.getElem_cons_zero, List.getElem_cons_succ, Act.put, List.setIfInBounds_toArray, List.set_cons_zero, List.set_cons_succ]
                refine wpAnyH_take (i := 9) (v := undef) rfl (by kernel_rfl) (by kernel_rfl) (by kernel_rfl) (fun _ _ _ h => h) (Or.inr ⟨rfl, rfl⟩) hHeld ?_
                simp only [List.getElem_toArray, List.getElem_cons_zero, List.getElem_cons_succ, Act.put, List.setIfInBounds_toArray, List.set_cons_zero, List.set_cons_succ]
                refine wpAnyH_take (i := 10) (v := undef) rfl (by kernel_rfl) (by kernel_rfl) (by kernel_rfl) (fun _ _ _ h => h) (Or.inr ⟨rfl, rfl⟩) hHeld ?_
                simp only [List.getElem_toArray, List.getElem_cons_zero, List.getElem_cons_succ, Act.put, List.setIfInBounds_toArray, List.set_cons_zero, List.set_cons_succ]
                refine wpAnyH_take (i := 11) (v := undef) rfl (by kernel_rfl) (by kernel_rfl) (by kernel_rfl) (fun _ _ _ h => h) (Or.inr ⟨rfl, rfl⟩) hHeld ?_
                simp only [List.getElem_toArray, List.getElem_cons_zero, List.getElem_cons_succ, Act.put, List.setIfInBounds_toArray, List.set_cons_zero, List.set_cons_succ]
                refine wpAnyH_take (i := 12) (v := undef) rfl (by kernel_rfl) (by kernel_rfl) (by kernel_rfl) (fun _ _ _ h => h) (Or.inr ⟨rfl, rfl⟩) hHeld ?_
                simp only [List.getElem_toArray, List.getElem_cons_zero, List.getElem_cons_succ, Act.put, List.setIfInBounds_toArray, List.set_cons_zero, List.set_cons_succ]
                refine wpAnyH_take (i := 13) (v := undef) rfl (by kernel_rfl) (by kernel_rfl) (by kernel_rfl) (fun _ _ _ h => h) (Or.inr ⟨rfl, rfl⟩) hHeld ?_
                simp only [List.getElem_toArray, List.getElem_cons_zero, List.getElem_cons_succ, Act.put, List.setIfInBounds_toArray, List.set_cons_zero, List.set_cons_succ]
                refine wpAnyH_take (i := 14) (v := undef) rfl (by kernel_rfl) (by kernel_rfl) (by kernel_rfl) (fun _ _ _ h => h) (Or.inr ⟨rfl, rfl⟩) hHeld ?_
                simp only [List.getElem_toArray, List.getElem_cons_zero, List.getElem_cons_succ, Act.put, List.setIfInBounds_toArray, List.set_cons_zero, List.set_cons_succ]
                refine wpAnyH_take (i := 15) (v := undef) rfl (by kernel_rfl) (by kernel_rfl) (by kernel_rfl) (fun _ _ _ h => h) (Or.inr ⟨rfl, rfl⟩) hHeld ?_
                simp only [List.getElem_toArray, List.getElem_cons_zero, List.getElem_cons_succ, Act.put, List.setIfInBounds_toArray, List.set_cons_zero, List.set_cons_succ]
                refine wpAnyH_take (i := 16) (v := undef) rfl (by kernel_rfl) (by kernel_rfl) (by kernel_rfl) (fun _ _ _ h => h) (Or.inr ⟨rfl, rfl⟩) hHeld ?_
                simp only [List.getElem_toArray, List.getElem_cons_zero, List.getElem_cons_succ, Act.put, List.setIfInBounds_toArray, List.set_cons_zero, List.set_cons_succ]
                refine wpAnyH_take (i := 17) (v := undef) rfl (by kernel_rfl) (by kernel_rfl) (by kernel_rfl) (fun _ _ _ h => h) (Or.inr ⟨rfl, rfl⟩) hHeld ?_
                simp only [List.getElem_toArray, List.getElem_cons_zero, List.getElem_cons_succ, Act.put, List.setIfInBounds_toArray, List.set_cons_zero, List.set_cons_succ]
                refine wpAnyH_take (i := 18) (v := undef) rfl (by kernel_rfl) (by kernel_rfl) (by kernel_rfl) (fun _ _ _ h => h) (Or.inr ⟨rfl, rfl⟩) hHeld ?_
                simp only [List.getElem_toArray, List.getElem_cons_zero, List.getElem_cons_succ, Act.put, List.setIfInBounds_toArray, List.set_cons_zero, List.set_cons_succ]
                refine wpAnyH_take (i := 19) (v := ?_) rfl (by kernel_rfl) (by kernel_rfl) (by kernel_rfl) (fun _ _ _ h => h) (Or.inl ⟨rfl, ?_⟩) hHeld ?_
                rotate_left
                · intro w0 hS0
                  try dsimp only at hS0
                  go_simp
                  try with_reducible rfl
                simp only [List.getElem_toArray, List.getElem_cons_zero, List.getElem_cons_succ, Act.put, List.setIfInBounds_toArray, List.set_cons_zero, List.set_cons_succ]
                refine wpAnyH_take (i := 20) (v := ?_) rfl (by kernel_rfl) (by kernel_rfl) (by kernel_rfl) (fun _ _ _ h => h) (Or.inl ⟨rfl, ?_⟩) hHeld ?_
                rotate_left
                · intro w0 hS0
                  try dsimp only at hS0
                  go_simp
                  try with_reducible rfl
                simp only [List.getElem_toArray, List.getElem_cons_zero, List.getElem_cons_succ, Act.put, List.setIfInBounds_toArray, List.set_cons_zero, List.set_cons_succ]
                refine wpAnyH_take (i := 21) (v := ?_) rfl (by kernel_rfl) (by kernel_rfl) (by kernel_rfl) (fun _ _ _ h => h) (Or.inl ⟨rfl, ?_⟩) hHeld ?_
                rotate_left
                · intro w0 hS0
                  try dsimp only at hS0
                  go_simp
                  try with_reducible rfl
                simp only [List.getElem_toArray, List.getElem_cons_zero, List.getElem_cons_succ, Act.put, List.setIfInBounds_toArray, List.set_cons_zero, List.set_cons_succ]
                refine wpAnyH_take (i := 22) (v := ?_) rfl (by kernel_rfl) (by kernel_rfl) (by kernel_rfl) (fun _ _ _ h => h) (Or.inl ⟨rfl, ?_⟩) hHeld ?_
                rotate_left
                · intro w0 hS0
                  try dsimp only at hS0
                  go_simp
                  try with_reducible rfl
                simp only [List.getElem_toArray, List.getElem_cons_zero, List.getElem_cons_succ, Act.put, List.setIfInBounds_toArray, List.set_cons_zero, List.set_cons_succ]
                refine wpAnyH_done (by kernel_rfl) ?_ _
                have HW5 := Lib.hid hHeld.1
                clear hHeld
                go_wp2_with fail
                go_roundw
                case rel => exact ⟨j + 1, true, rfl, by go_num, by omega, by rw [HSN.out, HH.out]; rfl, HW5.out⟩
                case measure => simp [intOf]; omega
              | true =>
                refine wpAnyH_take (i := 7) (v := ?_) rfl (by kernel_rfl) (by kernel_rfl) (by kernel_rfl) (fun _ _ _ h => h) (Or.inl ⟨rfl, ?_⟩) hHeld ?_
                rotate_left
                · intro w0 hS0
                  try dsimp only at hS0
                  go_simp
                  try with_reducible rfl
                simp only [List.getElem_toArray, List.getElem_cons_zero, List.getElem_cons_succ, Act.put, List.setIfInBounds_toArray, List.set_cons_zero, List.set_cons_succ]
                refine wpAnyH_take (i := 8) (v := ?_) rfl (by kernel_rfl) (by kernel_rfl) (by kernel_rfl) (fun _ _ _ h => h) (Or.inl ⟨rfl, ?_⟩) hHeld ?_
                rotate_left
                · intro w0 hS0
                  try dsimp only at hS0
                  go_simp
                  try with_reducible rfl
                simp only [List.getElem_toArray, List.getElem_cons_zero, List.getElem_cons_succ, Act.put, List.setIfInBounds_toArray, List.set_cons_zero, List.set_cons_succ]
                refine wpAnyH_take (i := 9) (v := ?_) rfl (by kernel_rfl) (by kernel_rfl) (by kernel_rfl) (fun _ _ _ h => h) (Or.inl ⟨rfl, ?_⟩) hHeld ?_
                rotate_left
                · intro w0 hS0
                  try dsimp only at hS0
                  go_simp
                  try with_reducible rfl
                simp only [List.getElem_toArray, List.getElem_cons_zero, List.getElem_cons_succ, Act.put, List.setIfInBounds_toArray, List.set_cons_zero, List.set_cons_succ]
                refine wpAnyH_take (i := 10) (v := ?_) rfl (by kernel_rfl) (by kernel_rfl) (by kernel_rfl) (fun _ _ _ h => h) (Or.inl ⟨rfl, ?_⟩) hHeld ?_
                rotate_left
                · intro w0 hS0
                  try dsimp only at hS0
                  go_simp
                  try with_reducible rfl
                simp only [List.getElem_toArray, List.getElem_cons_zero, List.getElem_cons_succ, Act.put, List.setIfInBounds_toArray, List.set_cons_zero, List.set_cons_succ]
                refine wpAnyH_take (i := 11) (v := ?_) rfl (by kernel_rfl) (by kernel_rfl) (by kernel_rfl) (fun _ _ _ h => h) (Or.inl ⟨rfl, ?_⟩) hHeld ?_
                rotate_left
                · intro w0 hS0
                  try dsimp only at hS0
                  go_simp
                  try with_reducible rfl
                simp only [List.getElem_toArray, List.getElem_cons_zero, List.getElem_cons_succ, Act.put, List.setIfInBounds_toArray, List.set_cons_zero, List.set_cons_succ]
                refine wpAnyH_take (i := 12) (v := ?_) rfl (by kernel_rfl) (by kernel_rfl) (by kernel_rfl) (fun _ _ _ h => h) (Or.inl ⟨rfl, ?_⟩) hHeld ?_
                rotate_left
                · intro w0 hS0
                  try dsimp only at hS0
                  go_simp
                  try with_reducible rfl
                simp only [List.getElem_toArray, List.getElem_cons_zero, List.getElem_cons_succ, Act.put, List.setIfInBounds_toArray, List.set_cons_zero, List.set_cons_succ]
                refine wpAnyH_take (i := 13) (v := ?_) rfl (by kernel_rfl) (by kernel_rfl) (by kernel_rfl) (fun _ _ _ h => h) (Or.inl ⟨rfl, ?_⟩) hHeld ?_
                rotate_left
                · intro w0 hS0
                  try dsimp only at hS0
                  go_simp
                  try with_reducible rfl
                simp only [List.getElem_toArray, List.getElem_cons_zero, List.getElem_cons_succ, Act.put, List.setIfInBounds_toArray, List.set_cons_zero, List.set_cons_succ]
                refine wpAnyH_take (i := 14) (v := ?_) rfl (by kernel_rfl) (by kernel_rfl) (by kernel_rfl) (fun _ _ _ h => h) (Or.inl ⟨rfl, ?_⟩) hHeld ?_
                rotate_left
                · intro w0 hS0
                  try dsimp only at hS0
                  go_simp
                  try with_reducible rfl
                simp only [List.getElem_toArray, List.getElem_cons_zero, List.getElem_cons_succ, Act.put, List.setIfInBounds_toArray, List.set_cons_zero, List.set_cons_succ]
                refine wpAnyH_take (i := 15) (v := ?_) rfl (by kernel_rfl) (by kernel_rfl) (by kernel_rfl) (fun _ _ _ h => h) (Or.inl ⟨rfl, ?_⟩) hHeld ?_
                rotate_left
                · intro w0 hS0
                  try dsimp only at hS0
                  go_simp
                  try with_reducible rfl
                simp only [List.getElem_toArray, List.getElem_cons_zero, List.getElem_cons_succ, Act.put, List.setIfInBounds_toArray, List.set_cons_zero, List.set_cons_succ]
                refine wpAnyH_take (i := 16) (v := ?_) rfl (by kernel_rfl) (by kernel_rfl) (by kernel_rfl) (fun _ _ _ h => h) (Or.inl ⟨rfl, ?_⟩) hHeld ?_
                rotate_left
                · intro w0 hS0
                  try dsimp only at hS0
                  go_simp
                  try with_reducible rfl
                simp only [List.getElem_toArray, List.getElem_cons_zero, List.getElem_cons_succ, Act.put, List.setIfInBounds_toArray, List.set_cons_zero, List.set_cons_succ]
                refine wpAnyH_take (i := 17) (v := ?_) rfl (by kernel_rfl) (by kernel_rfl) (by kernel_rfl) (fun _ _ _ h => h) (Or.inl ⟨rfl, ?_⟩) hHeld ?_
                rotate_left
                · intro w0 hS0
                  try dsimp only at hS0
                  go_simp
                  try with_reducible rfl
                simp only [List.getElem_toArray, List.getElem_cons_zero, List.getElem_cons_succ, Act.put, List.setIfInBounds_toArray, List.set_cons_zero, List.set_cons_succ]
                refine wpAnyH_take (i := 18) (v := ?_) rfl (by kernel_rfl) (by kernel_rfl) (by kernel_rfl) (fun _ _ _ h => h) (Or.inl ⟨rfl, ?_⟩) hHeld ?_
                rotate_left
                · intro w0 hS0
                  try dsimp only at hS0
                  go_simp
                  try with_reducible rfl
                simp only [List.getElem_toArray, List.getElem_cons_zero, List.getElem_cons_succ, Act.put, List.setIfInBounds_toArray, List.set_cons_zero, List.set_cons_succ]
                refine wpAnyH_take (i := 19) (v := ?_) rfl (by kernel_rfl) (by kernel_rfl) (by kernel_rfl) (fun _ _ _ h => h) (Or.inl ⟨rfl, ?_⟩) hHeld ?_
                rotate_left
                · intro w0 hS0
                  try dsimp only at hS0
                  go_simp
                  try with_reducible rfl
                simp only [List.getElem_toArray, List.getElem_cons_zero, List.getElem_cons_succ, Act.put, List.setIfInBounds_toArray, List.set_cons_zero, List.set_cons_succ]
                refine wpAnyH_take (i := 20) (v := ?_) rfl (by kernel_rfl) (by kernel_rfl) (by kernel_rfl) (fun _ _ _ h => h) (Or.inl ⟨rfl, ?_⟩) hHeld ?_
                rotate_left
                · intro w0 hS0
                  try dsimp only at hS0
                  go_simp
                  try with_reducible rfl
                simp only [List.getElem_toArray, List.getElem_cons_zero, List.getElem_cons_succ, Act.put, List.setIfInBounds_toArray, List.set_cons_zero, List.set_cons_succ]
                refine wpAnyH_take (i := 21) (v := ?_) rfl (by kernel_rfl) (by kernel_rfl) (by kernel_rfl) (fun _ _ _ h => h) (Or.inl ⟨rfl, ?_⟩) hHeld ?_
                rotate_left
                · intro w0 hS0
                  try dsimp only at hS0
                  go_simp
                  try with_reducible rfl
                simp only [List.getElem_toArray, List.getElem_cons_zero, List.getElem_cons_succ, Act.put, List.setIfInBounds_toArray, List.set_cons_zero, List.set_cons_succ]
                refine wpAnyH_take (i := 22) (v := ?_) rfl (by kernel_rfl) (by kernel_rfl) (by kernel_rfl) (fun _ _ _ h => h) (Or.inl ⟨rfl, ?_⟩) hHeld ?_
                rotate_left
                · intro w0 hS0
                  try dsimp only at hS0
                  go_simp
                  try with_reducible rfl
                simp only [List.getElem_toArray, List.getElem_cons_zero, List.getElem_cons_succ, Act.put, List.setIfInBounds_toArray, List.set_cons_zero, List.set_cons_succ]
                refine wpAnyH_done (by kernel_rfl) ?_ _
                have HW5 := Lib.hid hHeld.1
                clear hHeld
                go_wp2_with fail
                go_roundw
                case rel => exact ⟨j + 1, !be, rfl, by go_num, by omega, by rw [HSN.out, HH.out]; rfl, HW5.out⟩
                case measure => simp [intOf]; omega
          · have hnl' : ¬ (n : Int) < l.length := by omega
            have hjR : R.take j = R := List.take_of_length_le (by omega)
            rw [hjR] at HCC
            have HW := Lib.hid hW
            clear hW HRG HRO HMX
            cases c with
            | false =>
              have HN : Hid (cntK R = cntK (l.drop k)) := Lib.hid (by rw [HCD1.out, ← HCC.out]; simp)
              go_wp2_with fail
              go_roundw
              case rel => exact ⟨k + 1, M, rfl, by go_num, by omega, by rw [hRR, HN.out]; exact HCNT.out, by omega, HW.out⟩
              case measure => simp [intOf]; omega
            | true =>
              have hgk := HGA1.out HCC.out.symm
              have hts : t.size ≤ maxLen := by have := HOX.out.1; dsimp only at this; unfold maxLen; omega
              have hrow := HROW.out _ HW.out
              obtain ⟨k0, k1, k2, k3⟩ := HC.out _ hrow
              have hm7 := heap_alloc_new wr (.cells #[.string t, .string p, .int .u8 q, .bool true] 33)
              have hO7 : One w (wr.alloc (.cells #[.string t, .string p, .int .u8 q, .bool true] 33)) g L F :=
                HW.out.below ((Below.refl _ _).alloc (Nat.le_refl _) _)
              obtain ⟨i0, i1, i2, i3⟩ := cells4 hm7
              have HM7 := Lib.hid hm7
              have HO7 := Lib.hid hO7
              have hbx : wr.heap.size < (wr.alloc (.cells #[.string t, .string p, .int .u8 q, .bool true] 33)).heap.size := by simp
              have HBX := Lib.hid hbx
              clear hrow hm7 hO7 hbx
              by_cases hp : p.data.toList = []
              · have hp' : p = ⟨#[]⟩ := ba_ext hp
                rw [if_pos hp] at hgk
                have HGN := Lib.hid (fun W (h : One w W g L F) => kget_no g t L F W h.c hts hgk)
                have HN : Hid (cntK R = cntK (l.drop k)) := Lib.hid (by rw [HCD1.out, ← HCC.out]; simp [hp])
                subst hp'
                clear hgk hp
                go_wp2_with fail
                refine (HGN.out _ HO7.out).mono ?_
                rintro e w8 ⟨rfl, hk8⟩
                have HO8 := Lib.hid ((HO7.out.below hk8).below ((Below.refl _ _).alloc (Nat.le_refl _) (.cells #[.string ⟨#[]⟩, .string ⟨#[]⟩, .int .u8 0, .bool false] 33)))
                have hm8 := (hk8.block _ HBX.out).trans HM7.out
                have hm9 := (Below.heap_alloc w8 (.cells #[.string ⟨#[]⟩, .string ⟨#[]⟩, .int .u8 0, .bool false] 33) _ (Array.getElem?_eq_some_iff.1 hm8).1).trans hm8
                clear k0 k1 k2 k3 i0 i1 i2 i3 hk8
                obtain ⟨i0, i1, i2, i3⟩ := cells4 hm9
                clear hm8 hm9
                go_wp2_with fail
                go_roundw
                case rel => exact ⟨k + 1, M, rfl, by go_num, by omega, by rw [hRR, HN.out]; exact HCNT.out, by omega, HO8.out⟩
                case measure => simp [intOf]; omega
              · rw [if_neg hp] at hgk
                have HGN := Lib.hid (fun W (h : One w W g L F) => kget_some g t ⟨t, p, q, true⟩ L F W h.c hts hgk)
                have HN : Hid (cntK (l.drop k) = 1 + cntK R) := Lib.hid (by rw [HCD1.out, ← HCC.out]; simp [hp])
                have hp1 : ¬ p.toList = [] := fun h => hp (by rw [← Lib.toList_data]; exact h)
                have hp2 : p.toList.isEmpty = false := by rw [List.isEmpty_eq_false_iff]; exact hp1
                have hcmp := fun w => msg_neq true w t p t p q q true true (by simp)
                clear hgk hp
                go_wp2_with fail
                refine (HGN.out _ HO7.out).mono ?_
                rintro e w8 ⟨rfl, hk8⟩
                have HO8 := Lib.hid ((HO7.out.below hk8).below ((Below.refl _ _).alloc (Nat.le_refl _) (.cells #[.string t, .string p, .int .u8 q, .bool true] 33)))
                have hm8 := (hk8.block _ HBX.out).trans HM7.out
                have hm9 := (Below.heap_alloc w8 (.cells #[.string t, .string p, .int .u8 q, .bool true] 33) _ (Array.getElem?_eq_some_iff.1 hm8).1).trans hm8
                have hm10 := heap_alloc_new w8 (.cells #[.string t, .string p, .int .u8 q, .bool true] 33)
                clear k0 k1 k2 k3 i0 i1 i2 i3 hk8
                obtain ⟨i0, i1, i2, i3⟩ := cells4 hm9
                obtain ⟨k0, k1, k2, k3⟩ := cells4 hm10
                clear hm8 hm9 hm10
                go_wp2_with fail
                generalize w8.alloc (.cells #[.string t, .string p, .int .u8 q, .bool true] 33) = W9 at *
                go_wp2_with fail
                go_roundw
                case rel => exact ⟨k + 1, M + 1, by go_num, by go_num, by omega, by rw [hRR]; have := HN.out; have := HCNT.out; omega, by omega, HO8.out⟩
                case measure => simp [intOf]; omega
      · have hkl : ¬ (k : Int) < l.length := by omega
        have hMN : M = L.length := by
          have h1 := HCNT.out
          rw [List.drop_eq_nil_of_le (by omega)] at h1
          have h2 := HLL.out
          simp only [cntK] at h1
          omega
        subst hMN
        have HW := Lib.hid hW
        clear hW
        go_wp2_with fail
        refine (kall_u g L F _ (by omega) HW.out.c).mono ?_
        rintro e w3 ⟨aL, cL, rfl, -, hr, hk3⟩
        have HW3 := Lib.hid (HW.out.below hk3)
        have HRL := Lib.hid hr
        clear hk3 hr HW
        go_wp2_with fail
        go_loopw [12] (fun i wr => ∃ j : Nat, i = .int .i64 j ∧ 1 ≤ j ∧ (j ≤ L.length ∨ j = 1) ∧ One w wr g L F ∧ Row wr aL (msgs L)) (fun i _ => (L.length - intOf i).toNat)
        case atStart => exact ⟨1, rfl, by omega, by omega, HW3.out, HRL.out⟩
        case round =>
          obtain ⟨j, rfl, hj1, hjL, hO, hrow⟩ := hrel
          clear HW3 HRL
          have HO := Lib.hid hO
          have HROWL := Lib.hid hrow
          by_cases hjl : j < L.length
          · have hj0 : (0 : Int) ≤ j := by omega
            have hjl' : (j : Int) < L.length := by omega
            have hp0 : (0 : Int) ≤ (j : Int) - 1 := by omega
            have hp1 : (j : Int) - 1 < L.length := by omega
            have hwj : IntKind.i64.wrap ((j : Int) - 1) = ((j - 1 : Nat) : Int) := by rw [w_i64 _ (by omega) (by omega)]; omega
            have hpn : ((j - 1 : Nat) : Int) < L.length := by omega
            have hpn0 : (0 : Int) ≤ ((j - 1 : Nat) : Int) := by omega
            have hj1' : j - 1 < L.length := by omega
            obtain ⟨b2, o2, rfl, k0, k1, k2, k3⟩ := msgs_row hrow (k := j) (m := L[j]) (by simp [hjl])
            obtain ⟨q0, -, -, -⟩ := row_cells hrow (k := j - 1) (m := L[j - 1]) (by simp [hj1'])
            have hlt1 : L[j - 1].k < L[j].k := List.pairwise_iff_getElem.1 HUP.out _ _ hj1' hjl (by omega)
            have hbl : Op.bytesLess L[j - 1].t.toList L[j].t.toList = true := by
              rw [bytesLess_eq, Lib.toList_data, Lib.toList_data]; exact decide_eq_true hlt1
            clear hlt1 hrow hO k1 k2 k3
            generalize L[j - 1].t = u at *
            generalize L[j].t = v at *
            generalize hjp : j - 1 = jp at *
            go_wp2_with fail
            go_quiet (fail)
            go_wp2_with fail
            go_roundw
            case rel => exact ⟨j + 1, by go_num, by omega, by omega, HO.out.drewN _, HROWL.out⟩
            case measure => simp [intOf]; omega
          · have hjl' : ¬ (j : Int) < L.length := by omega
            go_wp2_with fail
            refine (klen_any g L F _ HO.out.c).mono ?_
            rintro e w5 ⟨rfl, hk5⟩
            have HO5 := Lib.hid (HO.out.below hk5)
            clear hk5
            go_wp2_with fail
            refine (awake_true _ (HT.out.below HO5.out.bel)).mono ?_
            rintro e w6 ⟨rfl, hk6⟩
            have hb := bnext HO5.out.bel (Nat.le_refl _) hk6
            go_wp2_with fail
            go_ret
            exact ⟨rfl, hb⟩
end Go.Proofs.YtagjlmpmbflmhaaDoor
