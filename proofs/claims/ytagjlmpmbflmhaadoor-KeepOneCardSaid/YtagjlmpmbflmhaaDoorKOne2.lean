/- KeepOne walked. -/
import Derived.Test.YtagjlmpmbflmhaaDoorKOne
namespace Go.Proofs.YtagjlmpmbflmhaaDoor
open Go Go.RowKit Go.Maps

set_option maxRecDepth 100000 in
set_option maxHeartbeats 2000000 in
theorem one_true (aI : Option Addr) (cI : Nat) (l : List Msg) (mm : Msg) (w : World) (ha : Row w aI (msgs l)) (hT : Tabs w) (hl : l.length ≤ maxLen) (hq : ∀ m ∈ l, 0 ≤ m.q ∧ m.q < 256) (hmq : 0 ≤ mm.q ∧ mm.q < 256) :
    Calls Tryd.prog 5 #[.slice aI l.length cI, .agg #[.string mm.t, .string mm.p, .int .u8 mm.q, .bool mm.r]] w fun e w' => e = .returned (.bool true) ∧ Below w.heap.size w w' := by
  obtain ⟨t, p, q, r⟩ := mm
  have hb0 : Below w.heap.size w (w.alloc (.cells #[.string t, .string p, .int .u8 q, .bool r] 33)) := (Below.refl _ _).alloc (Nat.le_refl _) _
  have hb1 : Below w.heap.size w ((w.alloc (.cells #[.string t, .string p, .int .u8 q, .bool r] 33)).alloc (.cells #[.string t, .string p, .int .u8 q, .bool r] 33)) := hb0.alloc (by simp) _
  have HB0 := Lib.hid hb0
  have HB1 := Lib.hid hb1
  have HT := Lib.hid hT
  have HR0 := Lib.hid (ha.below hb0 (Nat.le_refl _))
  have HR1 := Lib.hid (ha.below hb1 (Nat.le_refl _))
  have HX := Lib.hid (show ((w.alloc (.cells #[.string t, .string p, .int .u8 q, .bool r] 33)).alloc (.cells #[.string t, .string p, .int .u8 q, .bool r] 33)).heap[w.heap.size]? = some (.cells #[.string t, .string p, .int .u8 q, .bool r] 33 (0, 0)) from (Below.heap_alloc _ _ _ (by simp)).trans (heap_alloc_new w _))
  have hrm : Row ((w.alloc (.cells #[.string t, .string p, .int .u8 q, .bool r] 33)).alloc (.cells #[.string t, .string p, .int .u8 q, .bool r] 33)) (some ⟨w.heap.size + 1, 0, none⟩) (msgs [⟨t, p, q, r⟩]) := by
    have h := row_new (w.alloc (.cells #[.string t, .string p, .int .u8 q, .bool r] 33)) (msgs [⟨t, p, q, r⟩]) 33
    rw [World.size_alloc] at h
    exact h
  have HRM := Lib.hid hrm
  clear hrm
  obtain ⟨gr, hgr⟩ : ∃ g, greatB l = g := ⟨_, rfl⟩
  obtain ⟨gm, hgm⟩ : ∃ g, greatB [⟨t, p, q, r⟩] = g := ⟨_, rfl⟩
  have HGR := Lib.hid (fun h => great_facts (hgr.trans h) hq)
  have HGM := Lib.hid (fun h => great_facts (l := [⟨t, p, q, r⟩]) (hgm.trans h) (by simpa using hmq))
  have HG := Lib.hid (fun w (ha : Row w aI (msgs l)) => great_u gr aI cI l w ha hl hgr)
  have HG2 := Lib.hid (fun w a c (ha : Row w a (msgs [⟨t, p, q, r⟩])) => great_n gm 1 a c [⟨t, p, q, r⟩] w ha rfl (by simp [maxLen]) hgm)
  clear ha hgr hgm hT hq hb0 hb1
  cases gr with
  | true =>
    go_enter Tryd.func5, Tryd.ntmps5
    go_wp2_with fail
    refine (HG.out _ HR0.out).mono ?_
    rintro e w1 ⟨rfl, rfl⟩
    go_wp2_with fail
    refine (awake_true _ (HT.out.below HB0.out)).mono ?_
    rintro e w1 ⟨rfl, hk⟩
    go_wp2_with fail
    go_ret
    exact ⟨rfl, bnext HB0.out (by simp) hk⟩
  | false =>
    obtain ⟨hok, hlen⟩ := HGR.out rfl
    have HOK := Lib.hid hok
    clear HGR hok
    cases gm with
    | true =>
      go_enter Tryd.func5, Tryd.ntmps5
      go_wp2_with fail
      refine (HG.out _ HR0.out).mono ?_
      rintro e w1 ⟨rfl, rfl⟩
      go_wp2_with fail
      refine (HG2.out _ (some ⟨w.heap.size + 1, 0, none⟩) 1 HRM.out).mono ?_
      rintro e w1 ⟨rfl, rfl⟩
      go_wp2_with fail
      refine (awake_true _ (HT.out.below HB1.out)).mono ?_
      rintro e w1 ⟨rfl, hk⟩
      go_wp2_with fail
      go_ret
      exact ⟨rfl, bnext HB1.out (by simp) hk⟩
    | false =>
      obtain ⟨hokm, -⟩ := HGM.out rfl
      have hmok := hokm ⟨t, p, q, r⟩ (by simp)
      have HMOK := Lib.hid hmok
      have hts := hmok.1
      dsimp only at hts
      have HMK := Lib.hid (ok_made HOK.out)
      have HLE := Lib.hid (len_made l)
      have HM := Lib.hid (fun w ha hT => made_any aI cI l w ha hT (by omega) HOK.out)
      generalize madeL l = L at *
      have hLL : L.length ≤ 60 := by have := HLE.out; omega
      clear HGM hokm HLE hmok
      go_enter Tryd.func5, Tryd.ntmps5
      go_wp2_with fail
      refine (HG.out _ HR0.out).mono ?_
      rintro e w1 ⟨rfl, rfl⟩
      go_wp2_with fail
      refine (HG2.out _ (some ⟨w.heap.size + 1, 0, none⟩) 1 HRM.out).mono ?_
      rintro e w1 ⟨rfl, rfl⟩
      have HT1 := Lib.hid (HT.out.below HB1.out)
      clear HR0 HRM HB0 HG HG2
      go_wp2_with fail
      generalize (w.alloc (.cells #[.string t, .string p, .int .u8 q, .bool r] 33)).alloc (.cells #[.string t, .string p, .int .u8 q, .bool r] 33) = W1 at *
      refine (HM.out _ HR1.out HT1.out).mono ?_
      rintro e w2 ⟨g, F, rfl, hO⟩
      have HO := Lib.hid hO
      clear hO HM HR1
      go_wp2_with fail
      refine (kall_u g L F _ (by omega) HO.out.c).mono ?_
      rintro e w3 ⟨aL, cL, rfl, hrow, -, hk⟩
      have HS := Lib.hid (Side.start HO.out hk hrow)
      clear hk hrow HO
      have hx3 : w3.heap[w.heap.size]? = some (.cells #[.string t, .string p, .int .u8 q, .bool r] 33 (0, 0)) := (HS.out.o.bel.block _ (Array.getElem?_eq_some_iff.1 HX.out).1).trans HX.out
      obtain ⟨j0, j1, j2, j3⟩ := cells4 hx3
      obtain ⟨ms, hms⟩ : ∃ b, mayB ⟨t, p, q, r⟩ = b := ⟨_, rfl⟩
      have HMS := Lib.hid hms
      have HUP := Lib.hid HS.out.o.c.up
      go_wp2_with fail
      clear j0 j1 j2 j3 hx3
      refine (kset_u ms g ⟨t, p, q, r⟩ L F _ HS.out.o.c (HS.out.o.tabs HT1.out) HMOK.out (by omega) hms).mono ?_
      rintro e w4 ⟨rfl, hq, hu⟩
      have HS4 := Lib.hid (HS.out.upd hq hu)
      clear hq hu HS
      have HGT := Lib.hid (fun (x : Msg) (hx : x ∈ L) (h : x.k ≠ t.data.toList ∨ ms = false) => get_setB_other (m := ⟨t, p, q, r⟩) HUP.out hx (by rw [hms]; exact h))
      have HNO : Hid (ms = false → setB ⟨t, p, q, r⟩ L = L) := Lib.hid fun h => setB_no (hms.trans h)
      have HDE : Hid (ms = true → mayB ⟨t, ⟨#[]⟩, q, r⟩ = true ∧ setB ⟨t, ⟨#[]⟩, q, r⟩ (setB ⟨t, p, q, r⟩ L) = del t.data.toList L) := Lib.hid fun h => by
        obtain ⟨h1, h2⟩ := setB_gone (L := setB ⟨t, p, q, r⟩ L) (hms.trans h)
        exact ⟨h1, h2.trans (del_setB (m := ⟨t, p, q, r⟩))⟩
      have hL2 : (setB ⟨t, p, q, r⟩ L).length ≤ 61 := by have := len_setB ⟨t, p, q, r⟩ L; omega
      clear hms
      generalize setB ⟨t, p, q, r⟩ L = L2 at *
      go_wp2_with fail
      go_loopw [8] (fun i wr => ∃ k : Nat, i = .int .i64 k ∧ k ≤ L.length ∧ Side W1 wr g L2 F (.slice aL L.length cL) L) (fun i _ => (L.length - intOf i).toNat)
      case atStart => exact ⟨0, rfl, by omega, HS4.out⟩
      case round =>
        obtain ⟨k, rfl, hk, hW⟩ := hrel
        clear HS4
        by_cases hlt : k < L.length
        · obtain ⟨a', c', hv, hrr⟩ := hW.read
          cases hv
          obtain ⟨b1, o1, rfl, k0, k1, k2, k3⟩ := msgs_row hrr (k := k) (m := L[k]) (by simp [hlt])
          have HC := Lib.hid (fun W (h : Row W (some ⟨b1, o1, none⟩) (msgs L)) => row_cells h (k := k) (m := L[k]) (by simp [hlt]))
          have hk0 : (0 : Int) ≤ k := by omega
          have hkl : (k : Int) < L.length := by omega
          have HGX := Lib.hid (HGT.out L[k] (List.getElem_mem hlt))
          have hxs : L[k].t.size ≤ maxLen := by have := (HMK.out L[k] (List.getElem_mem hlt)).1; unfold maxLen; omega
          have HGO := Lib.hid (kget_o g L[k].t L2 F wr hW.o.c hxs)
          have HGS := Lib.hid (fun (h : get L[k].t.data.toList L2 = some L[k]) => kget_some g L[k].t L[k] L2 F wr hW.o.c hxs h)
          generalize L[k] = x at *
          obtain ⟨xt, xp, xq, xr⟩ := x
          dsimp only at *
          have HW := Lib.hid hW
          clear hW hrr hxs
          have HXW : Hid (∀ W, Side W1 W g L2 F (.slice (some ⟨b1, o1, none⟩) L.length cL) L → W.heap[w.heap.size]? = some (.cells #[.string t, .string p, .int .u8 q, .bool r] 33 (0, 0)) ∧ Row W (some ⟨b1, o1, none⟩) (msgs L)) := Lib.hid fun W h => by
            refine ⟨(h.o.bel.block _ (Array.getElem?_eq_some_iff.1 HX.out).1).trans HX.out, ?_⟩
            obtain ⟨a, c, hv, hr⟩ := h.read
            cases hv
            exact hr
          by_cases hc : xt = t
          · cases ms with
            | true =>
              obtain ⟨yt, yp, yq, yr, yb, HY⟩ := HGO.out
              have HY := Lib.hid HY
              subst hc
              clear HGO HGS HGX
              go_wp2_with fail
              refine HY.out.mono ?_
              rintro e w5 ⟨rfl, hk5⟩
              have HW5 := Lib.hid ((HW.out.below hk5).below ((Below.refl _ _).alloc (Nat.le_refl _) (.cells #[.string yt, .string yp, .int .u8 yq, .bool yr] 33)))
              clear k0 k1 k2 k3 hk5 HW HY
              go_wp2_with fail
              generalize w5.alloc (.cells #[.string yt, .string yp, .int .u8 yq, .bool yr] 33) = W6 at *
              obtain ⟨hm, hr⟩ := HXW.out _ HW5.out
              obtain ⟨j0, j1, j2, j3⟩ := cells4 hm
              obtain ⟨k0, k1, k2, k3⟩ := HC.out _ hr
              clear hm hr
              go_quiet (fail)
              go_wp2_with fail
              go_roundw
              case rel => exact ⟨k + 1, by go_num, by omega, HW5.out.drewN _⟩
              case measure => simp [intOf]; omega
            | false =>
              have HY := Lib.hid (HGS.out (HGX.out (.inr rfl)))
              have hcmp := fun w => msg_neq true w xt xp xt xp xq xq xr xr (by simp)
              subst hc
              clear HGO HGS HGX
              go_wp2_with fail
              refine HY.out.mono ?_
              rintro e w5 ⟨rfl, hk5⟩
              have HW5 := Lib.hid ((HW.out.below hk5).below ((Below.refl _ _).alloc (Nat.le_refl _) (.cells #[.string xt, .string xp, .int .u8 xq, .bool xr] 33)))
              have HZ := Lib.hid (heap_alloc_new w5 (.cells #[.string xt, .string xp, .int .u8 xq, .bool xr] 33))
              clear k0 k1 k2 k3 hk5 HW HY
              go_wp2_with fail
              generalize w5.alloc (.cells #[.string xt, .string xp, .int .u8 xq, .bool xr] 33) = W6 at *
              obtain ⟨hm, hr⟩ := HXW.out _ HW5.out
              obtain ⟨j0, j1, j2, j3⟩ := cells4 hm
              obtain ⟨k0, k1, k2, k3⟩ := HC.out _ hr
              obtain ⟨r0, r1, r2, r3⟩ := cells4 HZ.out
              clear hm hr
              go_quiet (fail)
              go_wp2_with fail
              go_roundw
              case rel => exact ⟨k + 1, by go_num, by omega, HW5.out.drewN _⟩
              case measure => simp [intOf]; omega
          · skip
            have HY := Lib.hid (HGS.out (HGX.out (.inl (fun e => hc (ba_ext e)))))
            have hcmp := fun w => msg_neq true w xt xp xt xp xq xq xr xr (by simp)
            have hne : ¬ xt.toList = t.toList := fun e => hc (ba_toList.1 e)
            have hneb : (xt.toList == t.toList) = false := by simpa using hne
            clear HGO HGS HGX
            go_wp2_with fail
            refine HY.out.mono ?_
            rintro e w5 ⟨rfl, hk5⟩
            have HW5 := Lib.hid ((HW.out.below hk5).below ((Below.refl _ _).alloc (Nat.le_refl _) (.cells #[.string xt, .string xp, .int .u8 xq, .bool xr] 33)))
            have HZ := Lib.hid (heap_alloc_new w5 (.cells #[.string xt, .string xp, .int .u8 xq, .bool xr] 33))
            clear k0 k1 k2 k3 hk5 HW HY
            go_wp2_with fail
            generalize w5.alloc (.cells #[.string xt, .string xp, .int .u8 xq, .bool xr] 33) = W6 at *
            obtain ⟨hm, hr⟩ := HXW.out _ HW5.out
            obtain ⟨j0, j1, j2, j3⟩ := cells4 hm
            obtain ⟨k0, k1, k2, k3⟩ := HC.out _ hr
            obtain ⟨r0, r1, r2, r3⟩ := cells4 HZ.out
            clear hm hr
            go_quiet (fail)
            go_wp2_with fail
            go_roundw
            case rel => exact ⟨k + 1, by go_num, by omega, HW5.out.drewN _⟩
            case measure => simp [intOf]; omega
        · have hkl : ¬ (k : Int) < L.length := by omega
          have HW := Lib.hid hW
          clear hW
          cases ms with
          | true =>
            obtain ⟨hm1, hs1⟩ := HDE.out rfl
            have HM1 := Lib.hid hm1
            have HS1 := Lib.hid hs1
            have hx : wr.heap[w.heap.size]? = some (.cells #[.string t, .string p, .int .u8 q, .bool r] 33 (0, 0)) := (HW.out.o.bel.block _ (Array.getElem?_eq_some_iff.1 HX.out).1).trans HX.out
            have hlw : w.heap.size < W1.heap.size := (Array.getElem?_eq_some_iff.1 HX.out).1
            have HSF := Lib.hid HW.out.o.fF
            have HS5 := Lib.hid ((HW.out.rebase HB1.out).poke (p := ⟨w.heap.size, 1, none⟩) (Nat.le_refl _) (show w.heap.size ∉ F from fun hF => by have := HW.out.o.fF _ hF; omega) (show _ ≠ some w.heap.size from fun e => by have := (HW.out.own _ e).2; omega) (.string ⟨#[]⟩))
            have hx5 : (wr.setCell ⟨w.heap.size, 1, none⟩ (.string ⟨#[]⟩)).heap[w.heap.size]? = some (.cells #[.string t, .string ⟨#[]⟩, .int .u8 q, .bool r] 33 (0, 0)) := heap_setCell_same wr w.heap.size 1 _ _ _ hx
            have HX5 := Lib.hid hx5
            obtain ⟨j0, j1, j2, j3⟩ := cells4 hx
            obtain ⟨f0, f1, f2, f3⟩ := free4 hx
            obtain ⟨i0, i1, i2, i3⟩ := cells4 hx5
            clear HGT HNO HDE HW hm1 hs1 hx hx5
            go_wp2_with fail
            clear j0 j1 j2 j3 f0 f1 f2 f3 i0 i1 i2 i3
            generalize wr.setCell ⟨w.heap.size, 1, none⟩ (.string ⟨#[]⟩) = w5 at *
            have hok5 : (⟨t, ⟨#[]⟩, q, r⟩ : Msg).ok := ⟨hts, Nat.zero_le 300, HMOK.out.2.2.1, HMOK.out.2.2.2⟩
            refine (kset_x true g t ⟨#[]⟩ q r L2 _ F _ HS5.out.o.c (HS5.out.o.tabs HT.out) hok5 (by omega) HM1.out HS1.out).mono ?_
            rintro e w6 ⟨rfl, hq, hu⟩
            have HS6 := Lib.hid (HS5.out.upd hq hu)
            have hx6 : w6.heap[w.heap.size]? = some (.cells #[.string t, .string ⟨#[]⟩, .int .u8 q, .bool r] 33 (0, 0)) := by
              rw [hu.1.block _ (Array.getElem?_eq_some_iff.1 HX5.out).1 (fun hF => by have := HS5.out.o.c.lt _ hF; have := HSF.out _ hF; omega)]; exact HX5.out
            have HX6 := Lib.hid hx6
            clear hq hu HS5 HX5 hx6 HSF
            go_wp2_with fail
            go_loopw [11, 12] (fun rv i wr => ∃ k : Nat, i = .int .i64 k ∧ k ≤ L.length ∧ Below w6.heap.size w6 wr ∧ wr.ownsRow w6.heap.size 33 4 rv (del t.data.toList (L.take k)).length (msgs (del t.data.toList (L.take k)))) (fun _ i _ => (L.length - intOf i).toNat)
            case atStart => exact ⟨0, rfl, by omega, Below.refl _ _, World.ownsRow_nil _ _ _ _⟩
            case round =>
              obtain ⟨k, rfl, hk, hbw, hown⟩ := hrel
              have HBW := Lib.hid hbw
              have hsw := hbw.size
              obtain ⟨a', c', hv, hrr⟩ := (HS6.out.below hbw).read
              cases hv
              by_cases hlt : k < L.length
              · obtain ⟨b1, o1, rfl, k0, k1, k2, k3⟩ := msgs_row hrr (k := k) (m := L[k]) (by simp [hlt])
                have hk0 : (0 : Int) ≤ k := by omega
                have hkl : (k : Int) < L.length := by omega
                have HTK := Lib.hid (List.take_succ_eq_append_getElem hlt)
                have HDL := Lib.hid (len_del_le t.data.toList (L.take k))
                have hx7 : wr.heap[w.heap.size]? = some (.cells #[.string t, .string ⟨#[]⟩, .int .u8 q, .bool r] 33 (0, 0)) := (hbw.block _ (Array.getElem?_eq_some_iff.1 HX6.out).1).trans HX6.out
                obtain ⟨j0, j1, j2, j3⟩ := cells4 hx7
                generalize L[k] = x at *
                obtain ⟨xt, xp, xq, xr⟩ := x
                dsimp only at *
                clear hbw hrr hx7
                by_cases hc : xt = t
                · subst hc
                  have e1 : del xt.data.toList (L.take k ++ [⟨xt, xp, xq, xr⟩]) = del xt.data.toList (L.take k) := by simp [del, List.filter_append, Msg.k]
                  have E1 := Lib.hid (HTK.out ▸ e1 : del xt.data.toList (L.take (k + 1)) = del xt.data.toList (L.take k))
                  have HOW := Lib.hid hown
                  clear e1 hown
                  go_wp2_with fail
                  go_quiet (fail)
                  go_wp2_with fail
                  go_roundw
                  case rel => exact ⟨k + 1, by go_num, by omega, below_drewN HBW.out _, by rw [E1.out]; exact ownsRow_low HOW.out (below_drewN (Below.refl _ _) _)⟩
                  case measure => simp [intOf]; omega
                · have hne : ¬ xt.toList = t.toList := fun e => hc (ba_toList.1 e)
                  have hneb : (xt.toList == t.toList) = false := by simpa using hne
                  have hck : ¬ xt.data.toList = t.data.toList := fun e => hc (ba_ext e)
                  have e1 : del t.data.toList (L.take k ++ [⟨xt, xp, xq, xr⟩]) = del t.data.toList (L.take k) ++ [⟨xt, xp, xq, xr⟩] := by simp [del, List.filter_append, Msg.k, hck]
                  have E1 := Lib.hid (HTK.out ▸ e1 : del t.data.toList (L.take (k + 1)) = del t.data.toList (L.take k) ++ [⟨xt, xp, xq, xr⟩])
                  have hdl : (del t.data.toList (L.take k)).length ≤ 60 := by have := HDL.out; rw [List.length_take] at this; omega
                  clear e1 hck HDL
                  generalize del t.data.toList (L.take k) = D at *
                  go_wp2_with fail
                  go_quiet (fail)
                  have hown2 := ownsRow_low hown (below_drewN (Below.refl _ _) nq)
                  have hb2 := below_drewN HBW.out nq
                  have hs2 : w6.heap.size ≤ (wr.drewN nq).heap.size := hb2.size
                  go_wp2_with (first | (at_builtin; refine wpList_appG T_msg hown2 hb2 hs2 rfl rfl rfl rfl (by rfl) (by simp [Value.oneCell']) (by omega) (by omega) ?_; intro v' w8 hown' hbel3 hsz3 hg3) | fail)
                  refine ⟨⟨k + 1, by go_num, by omega, hbel3, ?_⟩, by simp [intOf]; omega⟩
                  rw [E1.out, ← msgs_append, List.length_append]
                  exact hown'
              · have hkl : ¬ (k : Int) < L.length := by omega
                rw [List.take_of_length_le (by omega)] at hown
                have hdl : (del t.data.toList L).length ≤ 60 := by have := len_del_le t.data.toList L; omega
                have HS7 := Lib.hid (HS6.out.below HBW.out)
                obtain ⟨aR, cR, rfl, hrR, -, -⟩ := ownsRow_row hown
                have HRR := Lib.hid hrR
                clear hrr hrR hown hbw
                generalize del t.data.toList L = D at *
                go_wp2_with fail
                refine (kall_u g D F _ (by omega) HS7.out.o.c).mono ?_
                rintro e w8 ⟨a5, c5, rfl, -, hr5, hk5⟩
                have HS8 := Lib.hid (HS7.out.below hk5)
                have HR5 := Lib.hid hr5
                have HRR8 := Lib.hid (HRR.out.below hk5 (Nat.le_refl _))
                clear hr5 hk5 HS7 HRR
                go_wp2_with fail
                refine (same_any true a5 aR c5 cR D D _ HR5.out HRR8.out (by omega) (by omega) (by simp)).mono ?_
                rintro e w9 ⟨rfl, n, rfl⟩
                have HB := Lib.hid (below_drewN HS8.out.o.bel n)
                generalize w8.drewN n = w9 at *
                clear HR5 HRR8 HS8
                go_wp2_with fail
                refine (awake_true _ (HT.out.below HB.out)).mono ?_
                rintro e wa ⟨rfl, hk7⟩
                have hb := bnext HB.out (Nat.le_refl _) hk7
                go_wp2_with fail
                go_ret
                exact ⟨rfl, hb⟩
          | false =>
            have e0 := HNO.out rfl
            subst e0
            go_wp2_with fail
            refine (kall_u g L2 F _ (by omega) HW.out.o.c).mono ?_
            rintro e w5 ⟨a5, c5, rfl, -, hr5, hk5⟩
            have HW5 := Lib.hid (HW.out.below hk5)
            have HR5 := Lib.hid hr5
            clear hr5 hk5 HW
            obtain ⟨a6, c6, hv, hr6⟩ := HW5.out.read
            cases hv
            go_wp2_with fail
            refine (same_any true a5 _ c5 _ L2 L2 _ HR5.out hr6 (by omega) (by omega) (by simp)).mono ?_
            rintro e w6 ⟨rfl, n, rfl⟩
            have HB := Lib.hid (below_drewN HW5.out.o.bel n)
            generalize w5.drewN n = w6 at *
            clear hr6 HR5 HW5
            go_wp2_with fail
            refine (awake_true _ (HT1.out.below HB.out)).mono ?_
            rintro e w7 ⟨rfl, hk7⟩
            have hb := HB1.out.trans ((bnext HB.out (Nat.le_refl _) hk7).mono HB1.out.size)
            go_wp2_with fail
            go_ret
            exact ⟨rfl, hb⟩
end Go.Proofs.YtagjlmpmbflmhaaDoor
