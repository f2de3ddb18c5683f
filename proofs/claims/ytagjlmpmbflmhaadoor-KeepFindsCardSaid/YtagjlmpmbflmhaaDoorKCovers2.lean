/- KeepCovers walked. -/
import Derived.Test.YtagjlmpmbflmhaaDoorKCovers
namespace Go.Proofs.YtagjlmpmbflmhaaDoor
open Go Go.RowKit Go.Maps

/-- Three rows that are read, behind a start. -/
structure RowsW (w0 w : World) (aL aX aY : Option Addr) (L X Y : List Msg) : Prop where
  rL : Row w aL (msgs L)
  rX : Row w aX (msgs X)
  rY : Row w aY (msgs Y)
  bel : Below w0.heap.size w0 w
theorem RowsW.below {w0 w w' : World} {aL aX aY : Option Addr} {L X Y : List Msg} (h : RowsW w0 w aL aX aY L X Y) (hk : Below w.heap.size w w') : RowsW w0 w' aL aX aY L X Y :=
  ⟨h.rL.below hk (Nat.le_refl _), h.rX.below hk (Nat.le_refl _), h.rY.below hk (Nat.le_refl _), bnext h.bel (Nat.le_refl _) hk⟩
theorem RowsW.drew {w0 w : World} {aL aX aY : Option Addr} {L X Y : List Msg} (h : RowsW w0 w aL aX aY L X Y) : RowsW w0 w.drew aL aX aY L X Y := h.below (below_drewN (Below.refl _ _) 1)

theorem row_cells {w : World} {b1 o1 : Nat} {L : List Msg} (h : Row w (some ⟨b1, o1, none⟩) (msgs L)) {k : Nat} {m : Msg} (hk : L[k]? = some m) :
    w.cell? ⟨b1, o1 + k * 4, none⟩ = some (.string m.t) ∧ w.cell? ⟨b1, o1 + k * 4 + 1, none⟩ = some (.string m.p) ∧ w.cell? ⟨b1, o1 + k * 4 + 2, none⟩ = some (.int .u8 m.q) ∧ w.cell? ⟨b1, o1 + k * 4 + 3, none⟩ = some (.bool m.r) := by
  obtain ⟨b, o, e, h1, h2, h3, h4⟩ := msgs_row h hk
  simp only [Option.some.injEq, Addr.mk.injEq, and_true] at e
  obtain ⟨rfl, rfl⟩ := e
  exact ⟨h1, h2, h3, h4⟩

/-- What the law asks of its input where it goes on. -/
theorem great_facts {l : List Msg} (h : greatB l = false) (hq : ∀ m ∈ l, 0 ≤ m.q ∧ m.q < 256) : allOk l ∧ l.length ≤ 60 := by
  unfold greatB at h
  simp only [Bool.or_eq_false_iff, List.any_eq_false, decide_eq_false_iff_not] at h
  refine ⟨fun m hm => ?_, by omega⟩
  have := h.1 m hm
  unfold bigM at this
  simp at this
  exact ⟨by omega, by omega, hq m hm⟩
theorem great_u (b : Bool) (a : Option Addr) (c : Nat) (l : List Msg) (w : World) (ha : Row w a (msgs l)) (hl : l.length ≤ maxLen) (hb : greatB l = b) :
    Calls Tryd.prog 9 #[.slice a l.length c] w fun e w' => e = .returned (.bool b) ∧ w = w' := by subst hb; exact (great_any a c l w ha hl).mono fun e w' ⟨h1, h2⟩ => ⟨h1, h2.symm⟩

set_option maxRecDepth 100000 in
set_option maxHeartbeats 8000000 in
theorem covers_true (aI : Option Addr) (cI : Nat) (l : List Msg) (a b : ByteArray) (w : World) (ha : Row w aI (msgs l)) (hT : Tabs w) (hl : l.length ≤ maxLen) (hq : ∀ m ∈ l, 0 ≤ m.q ∧ m.q < 256) :
    Calls Tryd.prog 4 #[.slice aI l.length cI, .string a, .string b] w fun e w' => e = .returned (.bool true) ∧ Below w.heap.size w w' := by
  have HT := Lib.hid hT
  have HR := Lib.hid ha
  have HAW := Lib.hid (awake_true w hT)
  obtain ⟨gr, hgr⟩ : ∃ g, greatB l = g := ⟨_, rfl⟩
  have HG := Lib.hid (great_u gr aI cI l w ha hl hgr)
  have HGR := Lib.hid (fun h => great_facts (hgr.trans h) hq)
  clear ha hgr hT hq
  cases gr with
  | true =>
    go_enter Tryd.func4, Tryd.ntmps4
    go_wp2_with fail
    refine HG.out.mono ?_
    rintro e w1 ⟨rfl, rfl⟩
    go_wp2_with fail
    refine HAW.out.mono ?_
    rintro e w1 ⟨rfl, hk⟩
    go_wp2_with fail
    go_ret
    exact ⟨rfl, hk⟩
  | false =>
    obtain ⟨hok, hlen⟩ := HGR.out rfl
    have HOK := Lib.hid hok
    clear HGR hok
    by_cases hA : (300 : Int) < a.size
    · skip
      go_enter Tryd.func4, Tryd.ntmps4
      go_wp2_with fail
      refine HG.out.mono ?_
      rintro e w1 ⟨rfl, rfl⟩
      go_wp2_with fail
      refine HAW.out.mono ?_
      rintro e w1 ⟨rfl, hk⟩
      go_wp2_with fail
      go_ret
      exact ⟨rfl, hk⟩
    · by_cases hB : (300 : Int) < b.size
      · skip
        go_enter Tryd.func4, Tryd.ntmps4
        go_wp2_with fail
        refine HG.out.mono ?_
        rintro e w1 ⟨rfl, rfl⟩
        go_wp2_with fail
        refine HAW.out.mono ?_
        rintro e w1 ⟨rfl, hk⟩
        go_wp2_with fail
        go_ret
        exact ⟨rfl, hk⟩
      · have hAs : a.size < 4294967281 := by omega
        have hBs : b.size < 4294967281 := by omega
        clear HAW
        have HMK := Lib.hid (ok_made HOK.out)
        have HLE := Lib.hid (len_made l)
        have HM := Lib.hid (made_any aI cI l w HR.out HT.out (by omega) HOK.out)
        generalize madeL l = L at *
        have hLL : L.length ≤ 60 := by have := HLE.out; omega
        obtain ⟨X, hX⟩ : ∃ X, finds a.data.toList L = X := ⟨_, rfl⟩
        obtain ⟨Y, hY⟩ : ∃ Y, finds b.data.toList L = Y := ⟨_, rfl⟩
        have HX := Lib.hid hX
        have HY := Lib.hid hY
        have hXL : X.length ≤ L.length := by rw [← hX]; exact finds_len _ _
        have hYL : Y.length ≤ L.length := by rw [← hY]; exact finds_len _ _
        obtain ⟨cv, hcv⟩ : ∃ c, coversB a.data.toList b.data.toList = c := ⟨_, rfl⟩
        have HCV := Lib.hid hcv
        have HLT : Hid (cv = true → decide ((X.length : Int) < Y.length) = false) := Lib.hid fun h => by
          have := finds_le (hcv.trans h) L
          rw [hX, hY] at this; exact decide_eq_false (by omega)
        have HMX : Hid (∀ m ∈ L, decide (m ∈ X) = matchB a.data.toList m.k) := Lib.hid fun m hm => by rw [← hX]; exact mem_finds hm
        have HMY : Hid (∀ m ∈ L, decide (m ∈ Y) = matchB b.data.toList m.k) := Lib.hid fun m hm => by rw [← hY]; exact mem_finds hm
        have HTR : Hid (∀ n, cv = true → matchB b.data.toList n = true → matchB a.data.toList n = true) := Lib.hid fun n h1 h2 => match_trans (hcv.trans h1) h2
        clear hX hY hcv HLE
        go_enter Tryd.func4, Tryd.ntmps4
        go_wp2_with fail
        refine HG.out.mono ?_
        rintro e w1 ⟨rfl, rfl⟩
        go_wp2_with fail
        refine HM.out.mono ?_
        rintro e w1 ⟨g, F, rfl, hO⟩
        have HO := Lib.hid hO
        clear hO HG HM
        go_wp2_with fail
        refine (kall_u g L F _ (by omega) HO.out.c).mono ?_
        rintro e w2 ⟨aL, cL, rfl, -, hr, hk⟩
        replace HO := Lib.hid (HO.out.below hk)
        have HRL := Lib.hid hr
        clear hk hr
        go_wp2_with fail
        refine (kfind_u a X g L F _ (by omega) (HO.out.tabs HT.out) hAs HMK.out HO.out.c HX.out).mono ?_
        rintro e w3 ⟨aX, cX, rfl, -, hr, hk⟩
        replace HO := Lib.hid (HO.out.below hk)
        replace HRL := Lib.hid (HRL.out.below hk (Nat.le_refl _))
        have HRX := Lib.hid hr
        clear hk hr
        go_wp2_with fail
        refine (kfind_u b Y g L F _ (by omega) (HO.out.tabs HT.out) hBs HMK.out HO.out.c HY.out).mono ?_
        rintro e w4 ⟨aY, cY, rfl, -, hr, hk⟩
        have HW : Hid (RowsW w w4 aL aX aY L X Y) := Lib.hid ⟨HRL.out.below hk (Nat.le_refl _), HRX.out.below hk (Nat.le_refl _), hr, bnext HO.out.bel (Nat.le_refl _) hk⟩
        clear hk hr HO HRL HRX
        go_wp2_with fail
        refine (coversf_any a b _ (HT.out.below HW.out.bel) hAs hBs).mono ?_
        rintro e w5 ⟨rfl, hk⟩
        replace HW := Lib.hid (HW.out.below hk)
        clear hk
        rw [HCV.out]
        cases cv
        case' true =>
          have hdec := HLT.out rfl
          have hlt' : ¬ ((X.length : Int) < Y.length) := of_decide_eq_false hdec
          have hdn : decide (X.length < Y.length) = false := by simpa using hdec
          clear HLT
        case' false => clear HLT
        all_goals
          go_wp2_with fail
          try simp only [hdn]
          go_loopw [11] (fun i wr => ∃ k : Nat, i = .int .i64 k ∧ k ≤ L.length ∧ RowsW w wr aL aX aY L X Y) (fun i _ => (L.length - intOf i).toNat)
          case atStart => exact ⟨0, rfl, by omega, HW.out⟩
          case round =>
            obtain ⟨k, rfl, hk, hW⟩ := hrel
            clear HW
            by_cases hlt : k < L.length
            · obtain ⟨b1, o1, rfl, k0, k1, k2, k3⟩ := msgs_row hW.rL (k := k) (m := L[k]) (by simp [hlt])
              have HC := Lib.hid (fun W (h : Row W (some ⟨b1, o1, none⟩) (msgs L)) => row_cells h (k := k) (m := L[k]) (by simp [hlt]))
              have hk0 : (0 : Int) ≤ k := by omega
              have hkl : (k : Int) < L.length := by omega
              have hmem : L[k] ∈ L := List.getElem_mem hlt
              have HOM := Lib.hid (HMK.out _ hmem)
              have hmx := HMX.out _ hmem
              have hmy := HMY.out _ hmem
              obtain ⟨ia, hia⟩ : ∃ c, matchB a.data.toList L[k].k = c := ⟨_, rfl⟩
              obtain ⟨ib, hib⟩ : ∃ c, matchB b.data.toList L[k].k = c := ⟨_, rfl⟩
              have HTR' := Lib.hid (HTR.out L[k].k)
              rw [hia] at hmx HTR'
              rw [hib] at hmy HTR'
              have HMA := Lib.hid (fun w hT => match_any a L[k].t w hT hAs (by have := HOM.out.1; omega))
              have HMB := Lib.hid (fun w hT => match_any b L[k].t w hT hBs (by have := HOM.out.1; omega))
              rw [show matchB a.data.toList L[k].t.data.toList = ia from hia] at HMA
              rw [show matchB b.data.toList L[k].t.data.toList = ib from hib] at HMB
              have HMX' := Lib.hid hmx
              have HMY' := Lib.hid hmy
              clear hmx hmy hia hib hmem
              generalize L[k] = x at *
              obtain ⟨mt, mp, mq, mr⟩ := x
              dsimp only at *
              go_wp2_with fail
              go_region_held3 (fun w' => w'.cell? ⟨b1, o1 + k * 4, none⟩ = some (.string mt) ∧ w'.cell? ⟨b1, o1 + k * 4 + 1, none⟩ = some (.string mp) ∧ w'.cell? ⟨b1, o1 + k * 4 + 2, none⟩ = some (.int .u8 mq) ∧ w'.cell? ⟨b1, o1 + k * 4 + 3, none⟩ = some (.bool mr)) (first | exact sB | exact sA | go_keep) (first
                | (go_at_call 20; have hdum := hW5; clear hdum; refine (has_any ib aY cY Y ⟨mt, mp, mq, mr⟩ _ ?_ (by omega) HMY'.out).mono ?_; exact hW5.rY; rintro e w6 ⟨rfl, hk6⟩; have hW6 := hW5.below hk6; have sB := HC.out _ hW6.rL)
                | (go_at_call 20; refine (has_any ia aX cX X ⟨mt, mp, mq, mr⟩ _ ?_ (by omega) HMX'.out).mono ?_; (first | exact hW.rX | exact hW.drew.rX); rintro e w5 ⟨rfl, hk5⟩; have hW5 := RowsW.below (by first | exact hW | exact hW.drew) hk5; have sA := HC.out _ hW5.rL))
              have HW6 := Lib.hid hW6
              clear k0 k1 k2 k3 sA hW hk5 hW5 hk6 hW6
              obtain ⟨k0, k1, k2, k3⟩ := sB
              have hMA := (HMA.out _ (HT.out.below HW6.out.bel))
              cases ia <;> cases ib
              all_goals try first | exact absurd (HTR'.out trivial rfl) (by decide) | exact absurd (HTR'.out rfl rfl) (by decide)
              all_goals
                clear HTR' HMX' HMY'
                go_wp2_with fail
                refine hMA.mono ?_
                rintro e w7 ⟨rfl, hk7⟩
                have HW7 := Lib.hid (HW6.out.below hk7)
                clear k0 k1 k2 k3 hk7 hMA HW6
                obtain ⟨k0, k1, k2, k3⟩ := HC.out _ HW7.out.rL
                go_wp2_with fail
                refine (HMB.out _ (HT.out.below HW7.out.bel)).mono ?_
                rintro e w8 ⟨rfl, hk8⟩
                have HW8 := Lib.hid (HW7.out.below hk8)
                clear k0 k1 k2 k3 hk8 HW7
                go_wp2_with fail
                refine (coversf_any a b _ (HT.out.below HW8.out.bel) hAs hBs).mono ?_
                rintro e w9 ⟨rfl, hk9⟩
                have HW9 := Lib.hid (HW8.out.below hk9)
                clear hk9 HW8
                rw [HCV.out]
                go_wp2_with fail
                clear HMA HMB HC HMX HMY HTR HCV HT HR HOK HMK HX HY HOM
                first
                  | (go_roundw
                     case rel => exact ⟨k + 1, by go_num, by omega, HW9.out⟩
                     case measure => simp [intOf]; omega)
                  | (trace_state; go_big_round)
            · have hkl : ¬ (k : Int) < L.length := by omega
              have HW := Lib.hid hW
              clear hW
              go_wp2_with fail
              refine (awake_true _ (HT.out.below HW.out.bel)).mono ?_
              rintro e w6 ⟨rfl, hk6⟩
              have hb := bnext HW.out.bel (Nat.le_refl _) hk6
              go_wp2_with fail
              go_ret
              exact ⟨rfl, hb⟩
end Go.Proofs.YtagjlmpmbflmhaaDoor
