/- KeepPlays walked. -/
import Derived.Test.YtagjlmpmbflmhaaDoorKRGet
import Derived.Test.YtagjlmpmbflmhaaDoorKLast2
namespace Go.Proofs.YtagjlmpmbflmhaaDoor
open Go Go.RowKit Go.Maps

theorem rmay_u (b : Bool) (t p : ByteArray) (q : Int) (r : Bool) (w : World) (hs : t.size < 4294967281) (hq : 0 ≤ q) (hq2 : q < 256) (hb : mayB ⟨t, p, q, r⟩ = b) :
    Calls Tryd.prog 24 #[.agg #[.string t, .string p, .int .u8 q, .bool r]] w fun e w' => e = .returned (.bool b) ∧ Below w.heap.size w w' := by
  subst hb; exact rmay_any ⟨t, p, q, r⟩ w hs hq hq2
theorem klen_u (N : Nat) (g : Nat) (l : List Msg) (F : List Nat) (w : World) (h : KRep w g l F) (hN : l.length = N) :
    Calls Tryd.prog 25 #[.pointer (some ⟨g, 0, none⟩)] w fun e w' => e = .returned (.int .i64 N) ∧ Below w.heap.size w w' := by subst hN; exact klen_any g l F w h
/-- both Gets at once -/
theorem get_o (t : List UInt8) (L : List Msg) (hL : L.length < 1000000) : ∃ (yt yp : ByteArray) (yq : Int) (yr b : Bool), (∀ g F n w, n.data.toList = t → KRep w g L F → n.size ≤ maxLen → Calls Tryd.prog 22 #[.pointer (some ⟨g, 0, none⟩), .string n] w fun e w' => e = .returned (.tuple #[.agg #[.string yt, .string yp, .int .u8 yq, .bool yr], .bool b]) ∧ Below w.heap.size w w') ∧
    (∀ g G n w, n.data.toList = t → RRep w g L G → Calls Tryd.prog 26 #[.pointer (some ⟨g, 0, none⟩), .string n] w fun e w' => e = .returned (.tuple #[.agg #[.string yt, .string yp, .int .u8 yq, .bool yr], .bool b]) ∧ Below w.heap.size w w') :=
  ⟨(orNone (get t L)).t, (orNone (get t L)).p, (orNone (get t L)).q, (orNone (get t L)).r, (get t L).isSome, fun g F n w hn h hs => by subst hn; exact kget_any g n L F w h hs, fun g G n w hn h => by subst hn; exact rget_any g n L G w h hL⟩

set_option maxRecDepth 100000 in
set_option maxHeartbeats 4000000 in
theorem plays_true (aI : Option Addr) (cI : Nat) (l : List Msg) (w : World) (ha : Row w aI (msgs l)) (hT : Tabs w) (hl : l.length ≤ maxLen) (hq : ∀ m ∈ l, 0 ≤ m.q ∧ m.q < 256) :
    Calls Tryd.prog 6 #[.slice aI l.length cI] w fun e w' => e = .returned (.bool true) ∧ Below w.heap.size w w' := by
  have HT := Lib.hid hT
  have HR := Lib.hid ha
  have HAW := Lib.hid (awake_true w hT)
  obtain ⟨gr, hgr⟩ : ∃ g, greatB l = g := ⟨_, rfl⟩
  have HG := Lib.hid (great_u gr aI cI l w ha hl hgr)
  have HGR := Lib.hid (fun h => great_facts (hgr.trans h) hq)
  clear ha hgr hT hq
  cases gr with
  | true =>
    go_enter Tryd.func6, Tryd.ntmps6
    go_wp2_with fail
    refine HG.out.mono ?_
    rintro e w1 ⟨rfl, rfl⟩
    go_wp2_with fail
    refine HAW.out.mono ?_
    rintro e w1 ⟨rfl, hk⟩
    go_wp2_with fail
    go_ret
    exact ⟨rfl, hk⟩
  | false =>
    obtain ⟨hok, hlen⟩ := HGR.out rfl
    have HOK := Lib.hid hok
    clear HGR hok HAW
    go_enter Tryd.func6, Tryd.ntmps6
    go_wp2_with fail
    refine HG.out.mono ?_
    rintro e w1 ⟨rfl, rfl⟩
    go_wp2_with fail
    refine (knew _).mono ?_
    rintro e w1 ⟨g, F, rfl, hq, hu⟩
    have HD := Lib.hid (Duo.start (One.start (Below.refl w.heap.size w) hq hu))
    clear hq hu HG
    go_wp2_with fail
    generalize hrb : w1.heap.size = rb at *
    generalize w1.alloc (.cells #[.slice none 0 0] 30) = w2 at *
    go_loopw [5] (fun i wr => ∃ (k : Nat) (G : List Nat), i = .int .i64 k ∧ k ≤ l.length ∧ Duo w wr g (madeL (l.take k)) F rb (madeL (l.take k)) G) (fun i _ => (l.length - intOf i).toNat)
    case atStart => exact ⟨0, _, rfl, by omega, HD.out⟩
    case round =>
      obtain ⟨k, G, rfl, hk, hD⟩ := hrel
      clear HD
      have HD := Lib.hid hD
      by_cases hlt : k < l.length
      · have hk0 : (0 : Int) ≤ k := by omega
        have hkl : (k : Int) < l.length := by omega
        obtain ⟨b1, o1, rfl, k0, k1, k2, k3⟩ := msgs_row (HR.out.below hD.bel (Nat.le_refl _)) (k := k) (m := l[k]) (by simp [hlt])
        have HC := Lib.hid (fun W (h : Below w.heap.size w W) => row_cells (HR.out.below h (Nat.le_refl _)) (k := k) (m := l[k]) (by simp [hlt]))
        have HOX := Lib.hid (HOK.out l[k] (List.getElem_mem hlt))
        have HS := Lib.hid (show madeL (l.take (k + 1)) = setB l[k] (madeL (l.take k)) by rw [List.take_succ_eq_append_getElem hlt, madeL_snoc])
        have HLN := Lib.hid (show (madeL (l.take k)).length < 1000000 by have := len_made (l.take k); rw [List.length_take] at this; omega)
        have HLN1 := Lib.hid (show (madeL (l.take (k + 1))).length ≤ 60 by have := len_made (l.take (k + 1)); rw [List.length_take] at this; omega)
        have HUP := Lib.hid (up_madeL (l.take k))
        obtain ⟨L1, hL1e⟩ : ∃ L, madeL (l.take (k + 1)) = L := ⟨_, rfl⟩
        rw [hL1e] at HS HLN1
        have HE1 := Lib.hid hL1e
        clear hL1e
        generalize madeL (l.take k) = L0 at *
        generalize l[k] = x at *
        obtain ⟨mx, hmx⟩ : ∃ b, mayB x = b := ⟨_, rfl⟩
        have HKS := Lib.hid (fun W (h : KRep W g L0 F) hT => kset_u mx g x L0 F W h hT HOX.out HLN.out hmx)
        have HRS := Lib.hid (fun W (h : RRep W rb L0 G) => rset_u mx rb x L0 G W h HUP.out HOX.out HLN.out hmx)
        rw [← HS.out] at HKS HRS
        obtain ⟨t, p, q, r⟩ := x
        dsimp only at *
        have HMX := Lib.hid (fun W hT => may_u mx t p q r W hT (by have := HOX.out.1; dsimp only at this; omega) HOX.out.2.2.1 HOX.out.2.2.2 hmx)
        have HRX := Lib.hid (fun W => rmay_u mx t p q r W (by have := HOX.out.1; dsimp only at this; omega) HOX.out.2.2.1 HOX.out.2.2.2 hmx)
        obtain ⟨N, hN⟩ : ∃ N, L1.length = N := ⟨_, rfl⟩
        have HKL := Lib.hid (fun W (h : KRep W g L1 F) => klen_u N g L1 F W h hN)
        clear hmx hD
        go_wp2_with fail
        refine wp_region_held_drew (S := fun w' => Below w.heap.size w w' ∧ (w'.cell? ⟨b1, o1 + k * 4, none⟩ = some (.string t) ∧ w'.cell? ⟨b1, o1 + k * 4 + 1, none⟩ = some (.string p) ∧ w'.cell? ⟨b1, o1 + k * 4 + 2, none⟩ = some (.int .u8 q) ∧ w'.cell? ⟨b1, o1 + k * 4 + 3, none⟩ = some (.bool r))) (by kernel_rfl) ⟨by exact (HD.out.drewN 1).bel, ⟨k0, k1, k2, k3⟩⟩ (fun hHeld => ?_)
        have HD1 := Lib.hid (show Duo w wr.drew g L0 F rb L0 G from HD.out.drewN 1)
        clear k0 k1 k2 k3 HD
        refine wpAnyH_take (i := 0) (v := ?_) rfl (by kernel_rfl) (by kernel_rfl) (by kernel_rfl) (fun _ _ _ h => h) (Or.inl ⟨rfl, ?_⟩) hHeld ?_
        rotate_left
        · intro w0 hS0
          try dsimp only at hS0
          go_simp
          try with_reducible rfl
        simp only [List.getElem_toArray, List.getElem_cons_zero, Act.put, List.setIfInBounds_toArray, List.set_cons_zero, List.set_cons_succ]
        refine wpAnyH_take (i := 1) (v := ?_) rfl (by kernel_rfl) (by kernel_rfl) (by kernel_rfl) (fun _ _ _ h => h) (Or.inl ⟨rfl, ?_⟩) hHeld ?_
        rotate_left
        · intro w0 hS0
          try dsimp only at hS0
          go_simp
          try with_reducible rfl
        simp only [List.getElem_toArray, List.getElem_cons_zero, List.getElem_cons_succ, Act.put, List.setIfInBounds_toArray, List.set_cons_zero, List.set_cons_succ]
        refine wpAnyH_take (i := 2) (v := ?_) rfl (by kernel_rfl) (by kernel_rfl) (by kernel_rfl) (fun _ _ _ h => h) (Or.inl ⟨rfl, ?_⟩) hHeld ?_
        rotate_left
        · intro w0 hS0
          try dsimp only at hS0
          go_simp
          try with_reducible rfl
        simp only [List.getElem_toArray, List.getElem_cons_zero, List.getElem_cons_succ, Act.put, List.setIfInBounds_toArray, List.set_cons_zero, List.set_cons_succ]
        refine wpAnyH_take (i := 3) (v := ?_) rfl (by kernel_rfl) (by kernel_rfl) (by kernel_rfl) (fun _ _ _ h => h) (Or.inl ⟨rfl, ?_⟩) hHeld ?_
        rotate_left
        · intro w0 hS0
          try dsimp only at hS0
          go_simp
          try with_reducible rfl
        simp only [List.getElem_toArray, List.getElem_cons_zero, List.getElem_cons_succ, Act.put, List.setIfInBounds_toArray, List.set_cons_zero, List.set_cons_succ]
        refine wpAnyH_take (i := 5) (v := ?_) rfl (by kernel_rfl) (by kernel_rfl) (by kernel_rfl) (fun _ _ _ h => h) (Or.inl ⟨rfl, ?_⟩) hHeld ?_
        rotate_left
        · intro w0 hS0
          try dsimp only at hS0
          go_simp
          try with_reducible rfl
        simp only [List.getElem_toArray, List.getElem_cons_zero, List.getElem_cons_succ, Act.put, List.setIfInBounds_toArray, List.set_cons_zero, List.set_cons_succ]
        refine wpAnyH_take (i := 6) (v := ?_) rfl (by kernel_rfl) (by kernel_rfl) (by kernel_rfl) (fun _ _ _ h => h) (Or.inl ⟨rfl, ?_⟩) hHeld ?_
        rotate_left
        · intro w0 hS0
          try dsimp only at hS0
          go_simp
          try with_reducible rfl
        simp only [List.getElem_toArray, List.getElem_cons_zero, List.getElem_cons_succ, Act.put, List.setIfInBounds_toArray, List.set_cons_zero, List.set_cons_succ]
        refine wpAnyH_take (i := 7) (v := ?_) rfl (by kernel_rfl) (by kernel_rfl) (by kernel_rfl) (fun _ _ _ h => h) (Or.inl ⟨rfl, ?_⟩) hHeld ?_
        rotate_left
        · intro w0 hS0
          try dsimp only at hS0
          go_simp
          try with_reducible rfl
        simp only [List.getElem_toArray, List.getElem_cons_zero, List.getElem_cons_succ, Act.put, List.setIfInBounds_toArray, List.set_cons_zero, List.set_cons_succ]
        refine wpAnyH_take (i := 8) (v := ?_) rfl (by kernel_rfl) (by kernel_rfl) (by kernel_rfl) (fun _ _ _ h => h) (Or.inl ⟨rfl, ?_⟩) hHeld ?_
        rotate_left
        · intro w0 hS0
          try dsimp only at hS0
          go_simp
          try with_reducible rfl
        simp only [List.getElem_toArray, List.getElem_cons_zero, List.getElem_cons_succ, Act.put, List.setIfInBounds_toArray, List.set_cons_zero, List.set_cons_succ]
        refine wpAnyH_ready (rs := [4]) (by kernel_rfl) (by simp) ?_
        refine AllReadyH.cons rfl (fun K hK => ?_) AllReadyH.nil
        rw [if_pos (by rfl)]
        go_simp
        go_at_call 23
        refine (HMX.out _ (HT.out.below hHeld.1)).mono ?_
        rintro e w3 ⟨rfl, hk3⟩
        have HD3 := Lib.hid (HD1.out.below hk3)
        refine hK.out _ _ ⟨HD3.out.bel, HC.out _ HD3.out.bel⟩ (fun hHeld => ?_)
        clear hk3 HD1
        refine wpAnyH_ready (rs := [9]) (by kernel_rfl) (by simp) ?_
        refine AllReadyH.cons rfl (fun K hK => ?_) AllReadyH.nil
        rw [if_pos (by rfl)]
        go_simp
        go_at_call 24
        refine (HRX.out _).mono ?_
        rintro e w4 ⟨rfl, hk4⟩
        have HD4 := Lib.hid (HD3.out.below hk4)
        refine hK.out _ _ ⟨HD4.out.bel, HC.out _ HD4.out.bel⟩ (fun hHeld => ?_)
        clear hk4 HD3
        refine wpAnyH_take (i := 10) (v := ?_) rfl (by kernel_rfl) (by kernel_rfl) (by kernel_rfl) (fun _ _ _ h => h) (Or.inl ⟨rfl, ?_⟩) hHeld ?_
        rotate_left
        · intro w0 hS0
          try dsimp only at hS0
          go_simp
          try with_reducible rfl
        simp only [List.getElem_toArray, List.getElem_cons_zero, List.getElem_cons_succ, Act.put, List.setIfInBounds_toArray, List.set_cons_zero, List.set_cons_succ]
        refine wpAnyH_take (i := 11) (v := ?_) rfl (by kernel_rfl) (by kernel_rfl) (by kernel_rfl) (fun _ _ _ h => h) (Or.inl ⟨rfl, ?_⟩) hHeld ?_
        rotate_left
        · intro w0 hS0
          try dsimp only at hS0
          go_simp
          try with_reducible rfl
        simp only [List.getElem_toArray, List.getElem_cons_zero, List.getElem_cons_succ, Act.put, List.setIfInBounds_toArray, List.set_cons_zero, List.set_cons_succ]
        refine wpAnyH_take (i := 12) (v := ?_) rfl (by kernel_rfl) (by kernel_rfl) (by kernel_rfl) (fun _ _ _ h => h) (Or.inl ⟨rfl, ?_⟩) hHeld ?_
        rotate_left
        · intro w0 hS0
          try dsimp only at hS0
          go_simp
          try with_reducible rfl
        simp only [List.getElem_toArray, List.getElem_cons_zero, List.getElem_cons_succ, Act.put, List.setIfInBounds_toArray, List.set_cons_zero, List.set_cons_succ]
        refine wpAnyH_take (i := 13) (v := ?_) rfl (by kernel_rfl) (by kernel_rfl) (by kernel_rfl) (fun _ _ _ h => h) (Or.inl ⟨rfl, ?_⟩) hHeld ?_
        rotate_left
        · intro w0 hS0
          try dsimp only at hS0
          go_simp
          try with_reducible rfl
        simp only [List.getElem_toArray, List.getElem_cons_zero, List.getElem_cons_succ, Act.put, List.setIfInBounds_toArray, List.set_cons_zero, List.set_cons_succ]
        refine wpAnyH_take (i := 14) (v := ?_) rfl (by kernel_rfl) (by kernel_rfl) (by kernel_rfl) (fun _ _ _ h => h) (Or.inl ⟨rfl, ?_⟩) hHeld ?_
        rotate_left
        · intro w0 hS0
          try dsimp only at hS0
          go_simp
          try with_reducible rfl
        simp only [List.getElem_toArray, List.getElem_cons_zero, List.getElem_cons_succ, Act.put, List.setIfInBounds_toArray, List.set_cons_zero, List.set_cons_succ]
        refine wpAnyH_take (i := 15) (v := ?_) rfl (by kernel_rfl) (by kernel_rfl) (by kernel_rfl) (fun _ _ _ h => h) (Or.inl ⟨rfl, ?_⟩) hHeld ?_
        rotate_left
        · intro w0 hS0
          try dsimp only at hS0
          go_simp
          try with_reducible rfl
        simp only [List.getElem_toArray, List.getElem_cons_zero, List.getElem_cons_succ, Act.put, List.setIfInBounds_toArray, List.set_cons_zero, List.set_cons_succ]
        refine wpAnyH_take (i := 16) (v := ?_) rfl (by kernel_rfl) (by kernel_rfl) (by kernel_rfl) (fun _ _ _ h => h) (Or.inl ⟨rfl, ?_⟩) hHeld ?_
        rotate_left
        · intro w0 hS0
          try dsimp only at hS0
          go_simp
          try with_reducible rfl
        simp only [List.getElem_toArray, List.getElem_cons_zero, List.getElem_cons_succ, Act.put, List.setIfInBounds_toArray, List.set_cons_zero, List.set_cons_succ]
        refine wpAnyH_take (i := 18) (v := ?_) rfl (by kernel_rfl) (by kernel_rfl) (by kernel_rfl) (fun _ _ _ h => h) (Or.inl ⟨rfl, ?_⟩) hHeld ?_
        rotate_left
        · intro w0 hS0
          try dsimp only at hS0
          go_simp
          try with_reducible rfl
        simp only [List.getElem_toArray, List.getElem_cons_zero, List.getElem_cons_succ, Act.put, List.setIfInBounds_toArray, List.set_cons_zero, List.set_cons_succ]
        refine wpAnyH_take (i := 19) (v := ?_) rfl (by kernel_rfl) (by kernel_rfl) (by kernel_rfl) (fun _ _ _ h => h) (Or.inl ⟨rfl, ?_⟩) hHeld ?_
        rotate_left
        · intro w0 hS0
          try dsimp only at hS0
          go_simp
          try with_reducible rfl
        simp only [List.getElem_toArray, List.getElem_cons_zero, List.getElem_cons_succ, Act.put, List.setIfInBounds_toArray, List.set_cons_zero, List.set_cons_succ]
        refine wpAnyH_take (i := 20) (v := ?_) rfl (by kernel_rfl) (by kernel_rfl) (by kernel_rfl) (fun _ _ _ h => h) (Or.inl ⟨rfl, ?_⟩) hHeld ?_
        rotate_left
        · intro w0 hS0
          try dsimp only at hS0
          go_simp
          try with_reducible rfl
        simp only [List.getElem_toArray, List.getElem_cons_zero, List.getElem_cons_succ, Act.put, List.setIfInBounds_toArray, List.set_cons_zero, List.set_cons_succ]
        refine wpAnyH_take (i := 21) (v := ?_) rfl (by kernel_rfl) (by kernel_rfl) (by kernel_rfl) (fun _ _ _ h => h) (Or.inl ⟨rfl, ?_⟩) hHeld ?_
        rotate_left
        · intro w0 hS0
          try dsimp only at hS0
          go_simp
          try with_reducible rfl
        simp only [List.getElem_toArray, List.getElem_cons_zero, List.getElem_cons_succ, Act.put, List.setIfInBounds_toArray, List.set_cons_zero, List.set_cons_succ]
        refine wpAnyH_take (i := 22) (v := ?_) rfl (by kernel_rfl) (by kernel_rfl) (by kernel_rfl) (fun _ _ _ h => h) (Or.inl ⟨rfl, ?_⟩) hHeld ?_
        rotate_left
        · intro w0 hS0
          try dsimp only at hS0
          go_simp
          try with_reducible rfl
        simp only [List.getElem_toArray, List.getElem_cons_zero, List.getElem_cons_succ, Act.put, List.setIfInBounds_toArray, List.set_cons_zero, List.set_cons_succ]
        refine wpAnyH_ready (rs := [17]) (by kernel_rfl) (by simp) ?_
        refine AllReadyH.cons rfl (fun K hK => ?_) AllReadyH.nil
        rw [if_pos (by rfl)]
        go_simp
        go_at_call 12
        refine (HKS.out _ HD4.out.c (HD4.out.tabs HT.out)).mono ?_
        rintro e w5 ⟨rfl, hq5, hu5⟩
        have HD5 := Lib.hid (HD4.out.updK hq5 hu5)
        refine hK.out _ _ ⟨HD5.out.bel, HC.out _ HD5.out.bel⟩ (fun hHeld => ?_)
        clear hq5 hu5 HD4
        refine wpAnyH_ready (rs := [23]) (by kernel_rfl) (by simp) ?_
        refine AllReadyH.cons rfl (fun K hK => ?_) AllReadyH.nil
        rw [if_pos (by rfl)]
        go_simp
        go_at_call 13
        refine (HRS.out _ HD5.out.d).mono ?_
        rintro e w6 ⟨rfl, G', hq6, hu6⟩
        have HD6 := Lib.hid (HD5.out.updR hq6 hu6)
        refine hK.out _ _ ⟨HD6.out.bel, HC.out _ HD6.out.bel⟩ (fun hHeld => ?_)
        clear hq6 hu6 HD5
        refine wpAnyH_take (i := 24) (v := ?_) rfl (by kernel_rfl) (by kernel_rfl) (by kernel_rfl) (fun _ _ _ h => h) (Or.inl ⟨rfl, ?_⟩) hHeld ?_
        rotate_left
        · intro w0 hS0
          try dsimp only at hS0
          go_simp
          try with_reducible rfl
        simp only [List.getElem_toArray, List.getElem_cons_zero, List.getElem_cons_succ, Act.put, List.setIfInBounds_toArray, List.set_cons_zero, List.set_cons_succ]
        refine wpAnyH_take (i := 25) (v := ?_) rfl (by kernel_rfl) (by kernel_rfl) (by kernel_rfl) (fun _ _ _ h => h) (Or.inl ⟨rfl, ?_⟩) hHeld ?_
        rotate_left
        · intro w0 hS0
          try dsimp only at hS0
          go_simp
          try with_reducible rfl
        simp only [List.getElem_toArray, List.getElem_cons_zero, List.getElem_cons_succ, Act.put, List.setIfInBounds_toArray, List.set_cons_zero, List.set_cons_succ]
        refine wpAnyH_take (i := 26) (v := ?_) rfl (by kernel_rfl) (by kernel_rfl) (by kernel_rfl) (fun _ _ _ h => h) (Or.inl ⟨rfl, ?_⟩) hHeld ?_
        rotate_left
        · intro w0 hS0
          try dsimp only at hS0
          go_simp
          try with_reducible rfl
        simp only [List.getElem_toArray, List.getElem_cons_zero, List.getElem_cons_succ, Act.put, List.setIfInBounds_toArray, List.set_cons_zero, List.set_cons_succ]
        refine wpAnyH_take (i := 27) (v := ?_) rfl (by kernel_rfl) (by kernel_rfl) (by kernel_rfl) (fun _ _ _ h => h) (Or.inl ⟨rfl, ?_⟩) hHeld ?_
        rotate_left
        · intro w0 hS0
          try dsimp only at hS0
          go_simp
          try with_reducible rfl
        simp only [List.getElem_toArray, List.getElem_cons_zero, List.getElem_cons_succ, Act.put, List.setIfInBounds_toArray, List.set_cons_zero, List.set_cons_succ]
        refine wpAnyH_take (i := 29) (v := ?_) rfl (by kernel_rfl) (by kernel_rfl) (by kernel_rfl) (fun _ _ _ h => h) (Or.inl ⟨rfl, ?_⟩) hHeld ?_
        rotate_left
        · intro w0 hS0
          try dsimp only at hS0
          go_simp
          try with_reducible rfl
        simp only [List.getElem_toArray, List.getElem_cons_zero, List.getElem_cons_succ, Act.put, List.setIfInBounds_toArray, List.set_cons_zero, List.set_cons_succ]
        refine wpAnyH_take (i := 30) (v := ?_) rfl (by kernel_rfl) (by kernel_rfl) (by kernel_rfl) (fun _ _ _ h => h) (Or.inl ⟨rfl, ?_⟩) hHeld ?_
        rotate_left
        · intro w0 hS0
          try dsimp only at hS0
          go_simp
          try with_reducible rfl
        simp only [List.getElem_toArray, List.getElem_cons_zero, List.getElem_cons_succ, Act.put, List.setIfInBounds_toArray, List.set_cons_zero, List.set_cons_succ]
        refine wpAnyH_take (i := 31) (v := ?_) rfl (by kernel_rfl) (by kernel_rfl) (by kernel_rfl) (fun _ _ _ h => h) (Or.inl ⟨rfl, ?_⟩) hHeld ?_
        rotate_left
        · intro w0 hS0
          try dsimp only at hS0
          go_simp
          try with_reducible rfl
        simp only [List.getElem_toArray, List.getElem_cons_zero, List.getElem_cons_succ, Act.put, List.setIfInBounds_toArray, List.set_cons_zero, List.set_cons_succ]
        obtain ⟨a6, x6, -, d6, -⟩ := HD6.out.d.open
        rw [hN] at d6
        refine wpAnyH_ready (rs := [28, 32]) (by kernel_rfl) (by simp) ?_
        refine AllReadyH.cons rfl (fun K hK => ?_) (AllReadyH.cons rfl (fun K hK => ?_) AllReadyH.nil)
        · rw [if_pos (by rfl)]
          go_simp
          go_at_call 25
          refine (HKL.out _ HD6.out.c).mono ?_
          rintro e w7 ⟨rfl, hk7⟩
          have HD7 := Lib.hid (HD6.out.below hk7)
          have d7 : w7.cell? ⟨rb, 0, none⟩ = some (.slice a6 N x6) := (hk7.cell (p := ⟨rb, 0, none⟩) (World.block_lt_of_cell? _ _ d6)).trans d6
          refine hK.out _ _ ⟨HD7.out.bel, HC.out _ HD7.out.bel⟩ (fun hHeld => ?_)
          clear hk7 HD6 d6
          refine wpAnyH_ready (rs := [32]) (by kernel_rfl) (by simp) ?_
          refine AllReadyH.cons rfl (fun K hK => ?_) AllReadyH.nil
          rw [if_pos (by rfl)]
          go_simp
          refine hK.out _ _ ⟨HD7.out.bel, HC.out _ HD7.out.bel⟩ (fun hHeld => ?_)
          clear d7
          refine wpAnyH_take (i := 33) (v := ?_) rfl (by kernel_rfl) (by kernel_rfl) (by kernel_rfl) (fun _ _ _ h => h) (Or.inl ⟨rfl, ?_⟩) hHeld ?_
          rotate_left
          · intro w0 hS0
            try dsimp only at hS0
            go_simp
            try with_reducible rfl
          simp only [List.getElem_toArray, List.getElem_cons_zero, List.getElem_cons_succ, Act.put, List.setIfInBounds_toArray, List.set_cons_zero, List.set_cons_succ]
          refine wpAnyH_take (i := 34) (v := ?_) rfl (by kernel_rfl) (by kernel_rfl) (by kernel_rfl) (fun _ _ _ h => h) (Or.inl ⟨rfl, ?_⟩) hHeld ?_
          rotate_left
          · intro w0 hS0
            try dsimp only at hS0
            go_simp
            try with_reducible rfl
          simp only [List.getElem_toArray, List.getElem_cons_zero, List.getElem_cons_succ, Act.put, List.setIfInBounds_toArray, List.set_cons_zero, List.set_cons_succ]
          refine wpAnyH_take (i := 35) (v := ?_) rfl (by kernel_rfl) (by kernel_rfl) (by kernel_rfl) (fun _ _ _ h => h) (Or.inl ⟨rfl, ?_⟩) hHeld ?_
          rotate_left
          · intro w0 hS0
            try dsimp only at hS0
            go_simp
            try with_reducible rfl
          simp only [List.getElem_toArray, List.getElem_cons_zero, List.getElem_cons_succ, Act.put, List.setIfInBounds_toArray, List.set_cons_zero, List.set_cons_succ]
          refine wpAnyH_done (by kernel_rfl) ?_ _
          clear hHeld
          clear HKS HRS HMX HRX HKL HS HUP
          have hL1 : L1.length ≤ 60 := HLN1.out
          go_wp2_with fail
          go_loopw [6] (fun i wr => ∃ n : Nat, i = .int .i64 n ∧ n ≤ k + 1 ∧ Duo w wr g L1 F rb L1 G') (fun i _ => (k + 1 - intOf i).toNat)
          case atStart => exact ⟨0, rfl, by omega, HD7.out⟩
          case round =>
            obtain ⟨n, rfl, hn, hE⟩ := hrel
            clear HD7
            have HE := Lib.hid hE
            by_cases hnk : n < k + 1
            · have hnl : n < l.length := by omega
              have hn0 : (0 : Int) ≤ n := by omega
              have hnl' : (n : Int) < l.length := by omega
              have hnk' : (n : Int) ≤ k := by omega
              obtain ⟨j0, j1, j2, j3⟩ := row_cells (HR.out.below hE.bel (Nat.le_refl _)) (k := n) (m := l[n]) (by simp [hnl])
              have HCN := Lib.hid (fun W (h : Below w.heap.size w W) => row_cells (HR.out.below h (Nat.le_refl _)) (k := n) (m := l[n]) (by simp [hnl]))
              obtain ⟨yt, yp, yq, yr, yb, hK, hRR⟩ := get_o l[n].t.data.toList L1 (by omega)
              have hzs : l[n].t.size ≤ maxLen := by have := (HOK.out l[n] (List.getElem_mem hnl)).1; unfold maxLen; omega
              have HGK := Lib.hid (fun W h => hK g F l[n].t W rfl h hzs)
              have HGR := Lib.hid (fun W h => hRR rb G' l[n].t W rfl h)
              have hcmp := fun w => msg_neq true w yt yp yt yp yq yq yr yr (by simp)
              clear hK hRR hzs hE
              generalize l[n] = z at *
              obtain ⟨zt, zp, zq, zr⟩ := z
              dsimp only at *
              go_wp2_with fail
              refine (HGK.out wr HE.out.c).mono ?_
              rintro e w8 ⟨rfl, hk8⟩
              have HE8 := Lib.hid ((HE.out.below hk8).below ((Below.refl _ _).alloc (Nat.le_refl _) (.cells #[.string yt, .string yp, .int .u8 yq, .bool yr] 33)))
              have hm8 := heap_alloc_new w8 (.cells #[.string yt, .string yp, .int .u8 yq, .bool yr] 33)
              have HM8 := Lib.hid hm8
              clear j0 j1 j2 j3 hk8 hm8
              obtain ⟨j0, j1, j2, j3⟩ := HCN.out _ HE8.out.bel
              go_wp2_with fail
              refine (HGR.out _ HE8.out.d).mono ?_
              rintro e w9 ⟨rfl, hk9⟩
              have HE9 := Lib.hid ((HE8.out.below hk9).below ((Below.refl _ _).alloc (Nat.le_refl _) (.cells #[.string yt, .string yp, .int .u8 yq, .bool yr] 33)))
              have hm9 := (hk9.block _ (Array.getElem?_eq_some_iff.1 HM8.out).1).trans HM8.out
              have hm9' := (Below.heap_alloc w9 (.cells #[.string yt, .string yp, .int .u8 yq, .bool yr] 33) _ (Array.getElem?_eq_some_iff.1 hm9).1).trans hm9
              have hm10 := heap_alloc_new w9 (.cells #[.string yt, .string yp, .int .u8 yq, .bool yr] 33)
              clear j0 j1 j2 j3 hk9 hm9
              obtain ⟨i0, i1, i2, i3⟩ := cells4 hm9'
              obtain ⟨j0, j1, j2, j3⟩ := cells4 hm10
              clear hm9' hm10
              go_wp2_with fail
              go_roundw
              case rel => exact ⟨n + 1, by go_num, by omega, HE9.out⟩
              case measure => simp [intOf]; omega
            · have hnk' : ¬ (n : Int) ≤ k := by omega
              have HOUT := Lib.hid hE
              clear hE
              go_wp2_with fail
              go_roundw
              case rel => exact ⟨k + 1, G', by go_num, by omega, by rw [HE1.out]; exact HOUT.out⟩
              case measure => simp [intOf]; omega
        · rw [if_pos (by rfl)]
          go_simp
          refine hK.out _ _ ⟨HD6.out.bel, HC.out _ HD6.out.bel⟩ (fun hHeld => ?_)
          refine wpAnyH_take (i := 33) (v := ?_) rfl (by kernel_rfl) (by kernel_rfl) (by kernel_rfl) (fun _ _ _ h => h) (Or.inl ⟨rfl, ?_⟩) hHeld ?_
          rotate_left
          · intro w0 hS0
            try dsimp only at hS0
            go_simp
            try with_reducible rfl
          simp only [List.getElem_toArray, List.getElem_cons_zero, List.getElem_cons_succ, Act.put, List.setIfInBounds_toArray, List.set_cons_zero, List.set_cons_succ]
          refine wpAnyH_ready (rs := [28]) (by kernel_rfl) (by simp) ?_
          refine AllReadyH.cons rfl (fun K hK => ?_) AllReadyH.nil
          rw [if_pos (by rfl)]
          go_simp
          go_at_call 25
          refine (HKL.out _ HD6.out.c).mono ?_
          rintro e w7 ⟨rfl, hk7⟩
          have HD7 := Lib.hid (HD6.out.below hk7)
          refine hK.out _ _ ⟨HD7.out.bel, HC.out _ HD7.out.bel⟩ (fun hHeld => ?_)
          clear hk7 HD6 d6
          refine wpAnyH_take (i := 34) (v := ?_) rfl (by kernel_rfl) (by kernel_rfl) (by kernel_rfl) (fun _ _ _ h => h) (Or.inl ⟨rfl, ?_⟩) hHeld ?_
          rotate_left
          · intro w0 hS0
            try dsimp only at hS0
            go_simp
            try with_reducible rfl
          simp only [List.getElem_toArray, List.getElem_cons_zero, List.getElem_cons_succ, Act.put, List.setIfInBounds_toArray, List.set_cons_zero, List.set_cons_succ]
          refine wpAnyH_take (i := 35) (v := ?_) rfl (by kernel_rfl) (by kernel_rfl) (by kernel_rfl) (fun _ _ _ h => h) (Or.inl ⟨rfl, ?_⟩) hHeld ?_
          rotate_left
          · intro w0 hS0
            try dsimp only at hS0
            go_simp
            try with_reducible rfl
          simp only [List.getElem_toArray, List.getElem_cons_zero, List.getElem_cons_succ, Act.put, List.setIfInBounds_toArray, List.set_cons_zero, List.set_cons_succ]
          refine wpAnyH_done (by kernel_rfl) ?_ _
          clear hHeld
          clear HKS HRS HMX HRX HKL HS HUP
          have hL1 : L1.length ≤ 60 := HLN1.out
          go_wp2_with fail
          go_loopw [6] (fun i wr => ∃ n : Nat, i = .int .i64 n ∧ n ≤ k + 1 ∧ Duo w wr g L1 F rb L1 G') (fun i _ => (k + 1 - intOf i).toNat)
          case atStart => exact ⟨0, rfl, by omega, HD7.out⟩
          case round =>
            obtain ⟨n, rfl, hn, hE⟩ := hrel
            clear HD7
            have HE := Lib.hid hE
            by_cases hnk : n < k + 1
            · have hnl : n < l.length := by omega
              have hn0 : (0 : Int) ≤ n := by omega
              have hnl' : (n : Int) < l.length := by omega
              have hnk' : (n : Int) ≤ k := by omega
              obtain ⟨j0, j1, j2, j3⟩ := row_cells (HR.out.below hE.bel (Nat.le_refl _)) (k := n) (m := l[n]) (by simp [hnl])
              have HCN := Lib.hid (fun W (h : Below w.heap.size w W) => row_cells (HR.out.below h (Nat.le_refl _)) (k := n) (m := l[n]) (by simp [hnl]))
              obtain ⟨yt, yp, yq, yr, yb, hK, hRR⟩ := get_o l[n].t.data.toList L1 (by omega)
              have hzs : l[n].t.size ≤ maxLen := by have := (HOK.out l[n] (List.getElem_mem hnl)).1; unfold maxLen; omega
              have HGK := Lib.hid (fun W h => hK g F l[n].t W rfl h hzs)
              have HGR := Lib.hid (fun W h => hRR rb G' l[n].t W rfl h)
              have hcmp := fun w => msg_neq true w yt yp yt yp yq yq yr yr (by simp)
              clear hK hRR hzs hE
              generalize l[n] = z at *
              obtain ⟨zt, zp, zq, zr⟩ := z
              dsimp only at *
              go_wp2_with fail
              refine (HGK.out wr HE.out.c).mono ?_
              rintro e w8 ⟨rfl, hk8⟩
              have HE8 := Lib.hid ((HE.out.below hk8).below ((Below.refl _ _).alloc (Nat.le_refl _) (.cells #[.string yt, .string yp, .int .u8 yq, .bool yr] 33)))
              have hm8 := heap_alloc_new w8 (.cells #[.string yt, .string yp, .int .u8 yq, .bool yr] 33)
              have HM8 := Lib.hid hm8
              clear j0 j1 j2 j3 hk8 hm8
              obtain ⟨j0, j1, j2, j3⟩ := HCN.out _ HE8.out.bel
              go_wp2_with fail
              refine (HGR.out _ HE8.out.d).mono ?_
              rintro e w9 ⟨rfl, hk9⟩
              have HE9 := Lib.hid ((HE8.out.below hk9).below ((Below.refl _ _).alloc (Nat.le_refl _) (.cells #[.string yt, .string yp, .int .u8 yq, .bool yr] 33)))
              have hm9 := (hk9.block _ (Array.getElem?_eq_some_iff.1 HM8.out).1).trans HM8.out
              have hm9' := (Below.heap_alloc w9 (.cells #[.string yt, .string yp, .int .u8 yq, .bool yr] 33) _ (Array.getElem?_eq_some_iff.1 hm9).1).trans hm9
              have hm10 := heap_alloc_new w9 (.cells #[.string yt, .string yp, .int .u8 yq, .bool yr] 33)
              clear j0 j1 j2 j3 hk9 hm9
              obtain ⟨i0, i1, i2, i3⟩ := cells4 hm9'
              obtain ⟨j0, j1, j2, j3⟩ := cells4 hm10
              clear hm9' hm10
              go_wp2_with fail
              go_roundw
              case rel => exact ⟨n + 1, by go_num, by omega, HE9.out⟩
              case measure => simp [intOf]; omega
            · have hnk' : ¬ (n : Int) ≤ k := by omega
              have HOUT := Lib.hid hE
              clear hE
              go_wp2_with fail
              go_roundw
              case rel => exact ⟨k + 1, G', by go_num, by omega, by rw [HE1.out]; exact HOUT.out⟩
              case measure => simp [intOf]; omega
      · have hkl : ¬ (k : Int) < l.length := by omega
        rw [List.take_of_length_le (by omega)] at hD HD
        have hLN : (madeL l).length ≤ 60 := by have := len_made l; omega
        generalize madeL l = L at *
        obtain ⟨a6, x6, -, d6, -⟩ := hD.d.open
        clear hD
        go_wp2_with fail
        refine wp_region_held_drew (S := fun w' => Duo w w' g L F rb L G ∧ w'.cell? ⟨rb, 0, none⟩ = some (.slice a6 L.length x6)) (by kernel_rfl) ⟨by exact HD.out.drewN 1, d6⟩ (fun hHeld => ?_)
        refine wpAnyH_take (i := 0) (v := ?_) rfl (by kernel_rfl) (by kernel_rfl) (by kernel_rfl) (fun _ _ _ h => h) (Or.inl ⟨rfl, ?_⟩) hHeld ?_
        rotate_left
        · intro w0 hS0
          try dsimp only at hS0
          go_simp
          try with_reducible rfl
        simp only [List.getElem_toArray, List.getElem_cons_zero, Act.put, List.setIfInBounds_toArray, List.set_cons_zero, List.set_cons_succ]
        refine wpAnyH_take (i := 2) (v := ?_) rfl (by kernel_rfl) (by kernel_rfl) (by kernel_rfl) (fun _ _ _ h => h) (Or.inl ⟨rfl, ?_⟩) hHeld ?_
        rotate_left
        · intro w0 hS0
          try dsimp only at hS0
          go_simp
          try with_reducible rfl
        simp only [List.getElem_toArray, List.getElem_cons_zero, List.getElem_cons_succ, Act.put, List.setIfInBounds_toArray, List.set_cons_zero, List.set_cons_succ]
        refine wpAnyH_take (i := 3) (v := ?_) rfl (by kernel_rfl) (by kernel_rfl) (by kernel_rfl) (fun _ _ _ h => h) (Or.inl ⟨rfl, ?_⟩) hHeld ?_
        rotate_left
        · intro w0 hS0
          try dsimp only at hS0
          go_simp
          try with_reducible rfl
        simp only [List.getElem_toArray, List.getElem_cons_zero, List.getElem_cons_succ, Act.put, List.setIfInBounds_toArray, List.set_cons_zero, List.set_cons_succ]
        refine wpAnyH_take (i := 4) (v := ?_) rfl (by kernel_rfl) (by kernel_rfl) (by kernel_rfl) (fun _ _ _ h => h) (Or.inl ⟨rfl, ?_⟩) hHeld ?_
        rotate_left
        · intro w0 hS0
          try dsimp only at hS0
          go_simp
          try with_reducible rfl
        simp only [List.getElem_toArray, List.getElem_cons_zero, List.getElem_cons_succ, Act.put, List.setIfInBounds_toArray, List.set_cons_zero, List.set_cons_succ]
        refine wpAnyH_take (i := 5) (v := ?_) rfl (by kernel_rfl) (by kernel_rfl) (by kernel_rfl) (fun _ _ _ h => h) (Or.inl ⟨rfl, ?_⟩) hHeld ?_
        rotate_left
        · intro w0 hS0
          try dsimp only at hS0
          go_simp
          try with_reducible rfl
        simp only [List.getElem_toArray, List.getElem_cons_zero, List.getElem_cons_succ, Act.put, List.setIfInBounds_toArray, List.set_cons_zero, List.set_cons_succ]
        refine wpAnyH_ready (rs := [1]) (by kernel_rfl) (by simp) ?_
        refine AllReadyH.cons rfl (fun K hK => ?_) AllReadyH.nil
        rw [if_pos (by rfl)]
        go_simp
        go_at_call 17
        refine (kall_u g L F _ (by omega) hHeld.1.c).mono ?_
        rintro e w7 ⟨a7, c7, rfl, -, hr7, hk7⟩
        have HD7 := Lib.hid (hHeld.1.below hk7)
        have HR7 := Lib.hid hr7
        refine hK.out _ _ ⟨HD7.out, (hk7.cell (p := ⟨rb, 0, none⟩) (World.block_lt_of_cell? _ _ hHeld.2)).trans hHeld.2⟩ (fun hHeld => ?_)
        obtain ⟨a8, x8, -, d8, hr8⟩ := HD7.out.d.open
        obtain ⟨rfl, rfl⟩ : a8 = a6 ∧ x8 = x6 := by have := d8.symm.trans hHeld.2; simp at this; exact this
        have HR8 := Lib.hid hr8
        clear hr7 hk7 hr8 d8
        refine wpAnyH_ready (rs := [6]) (by kernel_rfl) (by simp) ?_
        refine AllReadyH.cons rfl (fun K hK => ?_) AllReadyH.nil
        rw [if_pos (by rfl)]
        go_simp
        go_at_call 15
        refine (same_any true a7 a8 c7 x8 L L _ HR7.out HR8.out (by omega) (by omega) (by simp)).mono ?_
        rintro e w9 ⟨rfl, n9, rfl⟩
        have HD9 := Lib.hid (HD7.out.drewN n9)
        refine hK.out _ _ ⟨HD9.out, hHeld.2⟩ (fun hHeld => ?_)
        clear HD7 HR7 HR8
        refine wpAnyH_take (i := 7) (v := ?_) rfl (by kernel_rfl) (by kernel_rfl) (by kernel_rfl) (fun _ _ _ h => h) (Or.inl ⟨rfl, ?_⟩) hHeld ?_
        rotate_left
        · intro w0 hS0
          try dsimp only at hS0
          go_simp
          try with_reducible rfl
        simp only [List.getElem_toArray, List.getElem_cons_zero, List.getElem_cons_succ, Act.put, List.setIfInBounds_toArray, List.set_cons_zero, List.set_cons_succ]
        refine wpAnyH_ready (rs := [8]) (by kernel_rfl) (by simp) ?_
        refine AllReadyH.cons rfl (fun K hK => ?_) AllReadyH.nil
        rw [if_pos (by rfl)]
        go_simp
        go_at_call 10
        refine (awake_true _ (HT.out.below HD9.out.bel)).mono ?_
        rintro e wa ⟨rfl, hka⟩
        have HDA := Lib.hid (HD9.out.below hka)
        refine hK.out _ _ ⟨HDA.out, (hka.cell (p := ⟨rb, 0, none⟩) (World.block_lt_of_cell? _ _ hHeld.2)).trans hHeld.2⟩ (fun hHeld => ?_)
        clear hka HD9
        refine wpAnyH_take (i := 9) (v := ?_) rfl (by kernel_rfl) (by kernel_rfl) (by kernel_rfl) (fun _ _ _ h => h) (Or.inl ⟨rfl, ?_⟩) hHeld ?_
        rotate_left
        · intro w0 hS0
          try dsimp only at hS0
          go_simp
          try with_reducible rfl
        simp only [List.getElem_toArray, List.getElem_cons_zero, List.getElem_cons_succ, Act.put, List.setIfInBounds_toArray, List.set_cons_zero, List.set_cons_succ]
        refine wpAnyH_take (i := 10) (v := ?_) rfl (by kernel_rfl) (by kernel_rfl) (by kernel_rfl) (fun _ _ _ h => h) (Or.inl ⟨rfl, ?_⟩) hHeld ?_
        rotate_left
        · intro w0 hS0
          try dsimp only at hS0
          go_simp
          try with_reducible rfl
        simp only [List.getElem_toArray, List.getElem_cons_zero, List.getElem_cons_succ, Act.put, List.setIfInBounds_toArray, List.set_cons_zero, List.set_cons_succ]
        refine wpAnyH_done (by kernel_rfl) ?_ _
        go_wp2_with fail
        go_ret
        exact ⟨rfl, HDA.out.bel⟩
end Go.Proofs.YtagjlmpmbflmhaaDoor
