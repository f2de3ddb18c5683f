/- A session that was begun with Clean is as a new one that is begun so: SessionFresh walked. -/
import Derived.Test.YtmkhagmjpbfieaaGreatDoorSe2
import Derived.Test.YtmkhagmjpbfieaaGreatDoorSeTX
namespace Go.Proofs.YtmkhagmjpbfieaaGreatDoor
open Go Go.RowKit

theorem se2_new {W w1 w2 w3 : World} {s t : Nat} {win most : Int} {x y : SS} {F G : List Nat} (h : Se W w1 s win most x F) (hb : Below w1.heap.size w1 w2) (hr : SesRep w3 t win most y G) (hu : Upd [] G w2 w3) : Se2 W w3 s t win most x y F G := by
  have h2 := h.below hb
  have hb3 : Below w2.heap.size w2 w3 := hu.1.below (Nat.le_refl _) (by simp)
  have hne : ∀ k ∈ G, w2.heap.size ≤ k := fun k hk => (hu.2 k hk).elim (by simp) id
  have h3 := h2.below hb3
  exact ⟨h3, ⟨h3.bel, hr, fun k hk => Nat.le_trans h2.bel.size (hne k hk)⟩, fun k hk hk' => by
    have := h2.rep.lt k hk
    have := hne k hk'
    omega⟩
theorem msg_neq_same (t p : ByteArray) (q : Int) (r : Bool) (w : World) : (binOp .neq 34 (.agg #[.string t, .string p, .int .u8 q, .bool r]) (.agg #[.string t, .string p, .int .u8 q, .bool r])).run Tryz.prog w = .ok (.bool false) w := by
  have hst : Tryz.prog.stoodInHeld 34 = false := by kernel_rfl
  have hgd : Tryz.prog.eqGuardType Tryz.prog.depth 34 = false := by kernel_rfl
  go_simp
/-- what the laws read of a session's head -/
def HeadAt (X : World) (s tb : Nat) (z : SS) : Prop := X.cell? ⟨s, 1, none⟩ = some (.int .i64 z.conn) ∧ X.cell? ⟨s, 2, none⟩ = some (.bool z.clean) ∧ X.cell? ⟨s, 3, none⟩ = some (.string z.will.t) ∧ X.cell? ⟨s, 4, none⟩ = some (.string z.will.p) ∧ X.cell? ⟨s, 5, none⟩ = some (.int .u8 z.will.q) ∧ X.cell? ⟨s, 6, none⟩ = some (.bool z.will.r) ∧ X.cell? ⟨s, 7, none⟩ = some (.bool z.has) ∧ X.cell? ⟨s, 9, none⟩ = some (.pointer (some ⟨tb, 0, none⟩))
theorem SParts.head {w : World} {s lb tb cb : Nat} {x : SS} {win most : Int} {FL FO FC : List Nat} (h : SParts w s lb tb cb x win most FL FO FC) : HeadAt w s tb x := by
  obtain ⟨-, k1, k2, k3, k4, k5, k6, k7, -, k9, -⟩ := h.cells
  exact ⟨k1, k2, k3, k4, k5, k6, k7, k9⟩
set_option maxRecDepth 100000 in
set_option maxHeartbeats 8000000 in
theorem fresh_any (W : World) (hT : Tabs W) (hB : Bru W) (a1 a2 a3 most win : Int) (a b : Option Addr) (c d : Nat) (l m : List ActS) (hl : Row W a (actsV l)) (hm : Row W b (actsV m)) (hll : l.length ≤ maxLen) (hml : m.length ≤ maxLen) (hlp : ∀ x ∈ l, ActPre W x) (hmp : ∀ x ∈ m, ActPre W x) :
    Calls Tryz.prog 5 #[.agg #[.int .i64 a1, .int .i64 a2, .int .i64 a3, .int .i64 most, .int .i64 win], .slice a l.length c, .slice b m.length d] W fun e w' => e = .returned (.bool true) ∧ Below W.heap.size W w' := by
  obtain ⟨V, hV⟩ : ∃ V, W.alloc (.cells #[.int .i64 a1, .int .i64 a2, .int .i64 a3, .int .i64 most, .int .i64 win] 23) = V := ⟨_, rfl⟩
  have hbv : Below W.heap.size W V := by rw [← hV]; exact low_alloc _ _
  have hxv : V.heap[W.heap.size]? = some (.cells #[.int .i64 a1, .int .i64 a2, .int .i64 a3, .int .i64 most, .int .i64 win] 23 (0, 0)) := by rw [← hV]; exact heap_alloc_new _ _
  have HBV := Lib.hid hbv
  have HT := Lib.hid hT
  have HB := Lib.hid hB
  have HL : Hid (∀ X, Below W.heap.size W X → Row X a (actsV l)) := Lib.hid (fun X hX => hl.below hX (Nat.le_refl _))
  have HM : Hid (∀ X, Below W.heap.size W X → Row X b (actsV m)) := Lib.hid (fun X hX => hm.below hX (Nat.le_refl _))
  have HLP := Lib.hid hlp
  have HMP := Lib.hid hmp
  have HGL := Lib.hid (great18_any a c l V (hl.below hbv (Nat.le_refl _)) hll (fun x hx => ⟨(hlp x hx).k0, (hlp x hx).k1, (hlp x hx).q0, (hlp x hx).q1, (hlp x hx).mq, (hlp x hx).i0, (hlp x hx).i1, (hlp x hx).ms, (hlp x hx).row.below hbv (Nat.le_refl _), (hlp x hx).rl⟩))
  have HGM := Lib.hid (fun X (hX : Below W.heap.size W X) => great18_any b d m X (hm.below hX (Nat.le_refl _)) hml (fun x hx => ⟨(hmp x hx).k0, (hmp x hx).k1, (hmp x hx).q0, (hmp x hx).q1, (hmp x hx).mq, (hmp x hx).i0, (hmp x hx).i1, (hmp x hx).ms, (hmp x hx).row.below hX (Nat.le_refl _), (hmp x hx).rl⟩))
  have HAW := Lib.hid (fun X (hX : Below W.heap.size W X) => awake_any X (hT.below hX))
  have HXV : Hid (∀ X, Below V.heap.size V X → X.cell? ⟨W.heap.size, 0, none⟩ = some (.int .i64 a1) ∧ X.cell? ⟨W.heap.size, 1, none⟩ = some (.int .i64 a2) ∧ X.cell? ⟨W.heap.size, 2, none⟩ = some (.int .i64 a3) ∧ X.cell? ⟨W.heap.size, 3, none⟩ = some (.int .i64 most) ∧ X.cell? ⟨W.heap.size, 4, none⟩ = some (.int .i64 win)) := Lib.hid (fun X hX => by
    have h := (hX.block W.heap.size (Array.getElem?_eq_some_iff.1 hxv).1).trans hxv
    exact ⟨cell_of_row _ _ 0 _ _ _ h, cell_of_row _ _ 1 _ _ _ h, cell_of_row _ _ 2 _ _ _ h, cell_of_row _ _ 3 _ _ _ h, cell_of_row _ _ 4 _ _ _ h⟩)
  clear hl hm hlp hmp hbv hxv hT hB
  go_enter Tryz.func5, Tryz.ntmps5
  go_wp2_with fail
  refine HGL.out.mono ?_
  rintro e w1 ⟨he, hk1⟩
  have HB1 := Lib.hid (bnext HBV.out (Nat.le_refl _) hk1)
  have HV1 := Lib.hid hk1
  clear hk1
  rcases he with rfl | ⟨rfl, hl200, hsl⟩
  · go_wp2_with fail
    refine (HAW.out _ HB1.out).mono ?_
    rintro e w2 ⟨rfl, hk2⟩
    have HF := Lib.hid (bnext HB1.out (Nat.le_refl _) hk2)
    clear hk2
    go_wp2_with fail
    go_ret
    exact ⟨rfl, HF.out⟩
  · have HLO : Hid (∀ x ∈ l, ActOk x) := Lib.hid (fun x hx => (HLP.out x hx).ok (hsl x hx).1 (hsl x hx).2)
    clear hsl
    go_wp2_with fail
    refine (HGM.out _ HB1.out).mono ?_
    rintro e w2 ⟨he, hk2⟩
    have HB2 := Lib.hid (bnext HB1.out (Nat.le_refl _) hk2)
    have HV2 := Lib.hid (bnext HV1.out (Nat.le_refl _) hk2)
    clear hk2
    rcases he with rfl | ⟨rfl, hm200, hsm⟩
    · go_wp2_with fail
      refine (HAW.out _ HB2.out).mono ?_
      rintro e w3 ⟨rfl, hk3⟩
      have HF := Lib.hid (bnext HB2.out (Nat.le_refl _) hk3)
      clear hk3
      go_wp2_with fail
      go_ret
      exact ⟨rfl, HF.out⟩
    · have HMO : Hid (∀ x ∈ m, ActOk x) := Lib.hid (fun x hx => (HMP.out x hx).ok (hsm x hx).1 (hsm x hx).2)
      clear hsm
      go_upto_region 3 with fail
      refine wp_region_held_drew (S := fun X => X.cell? ⟨W.heap.size, 0, none⟩ = some (.int .i64 a1) ∧ X.cell? ⟨W.heap.size, 1, none⟩ = some (.int .i64 a2) ∧ X.cell? ⟨W.heap.size, 2, none⟩ = some (.int .i64 a3) ∧ X.cell? ⟨W.heap.size, 3, none⟩ = some (.int .i64 most) ∧ X.cell? ⟨W.heap.size, 4, none⟩ = some (.int .i64 win)) (by kernel_rfl) (HXV.out _ (by first | exact HV2.out | exact HV2.out.drew)) (fun hHeld => ?_)
      refine wpAnyH_take (i := 0) (v := ?_) rfl (by kernel_rfl) (by kernel_rfl) (by kernel_rfl) (fun _ _ _ h => h) (Or.inl ⟨rfl, ?_⟩) hHeld ?_
      rotate_left
      · intro w0 hS0
        try dsimp only at hS0
        go_simp
        try with_reducible rfl
      simp only [List.getElem_toArray, List.getElem_cons_zero, Act.put, List.setIfInBounds_toArray, List.set_cons_zero, List.set_cons_succ]
      refine wpAnyH_take (i := 2) (v := ?_) rfl (by kernel_rfl) (by kernel_rfl) (by kernel_rfl) (fun _ _ _ h => h) (Or.inl ⟨rfl, ?_⟩) hHeld ?_
      rotate_left
      · intro w0 hS0
        try dsimp only at hS0
        go_simp
        try with_reducible rfl
      simp only [List.getElem_toArray, List.getElem_cons_zero, List.getElem_cons_succ, Act.put, List.setIfInBounds_toArray, List.set_cons_zero, List.set_cons_succ]
      refine wpAnyH_ready (rs := [1]) (by kernel_rfl) (by simp) ?_
      refine AllReadyH.cons rfl (fun K hK => ?_) AllReadyH.nil
      rw [if_pos (by rfl)]
      go_simp
      go_at_call 8
      by_cases hcfg : (1 ≤ most ∧ most ≤ 1024) ∧ 1 ≤ win ∧ win ≤ 1024
      · refine (sesnew_any ⟨#[99]⟩ a1 a2 a3 most win _ hcfg.1 hcfg.2).mono ?_
        rintro e w3 ⟨s, F, rfl, hr3, hu3⟩
        have hs3 : Se W w3 s win most (SS.new ⟨#[99]⟩) F := Se.new (HB2.out.drew) hr3 hu3
        have hk3 : Below w2.heap.size w2 w3 := ((Below.refl _ _).drew).trans (hu3.1.below (Nat.le_refl _) (by simp))
        refine hK.out _ _ (HXV.out _ (bnext HV2.out (Nat.le_refl _) hk3)) (fun hHeld => ?_)
        have HS3 := Lib.hid hs3
        have HV3 := Lib.hid (bnext HV2.out (Nat.le_refl _) hk3)
        clear hr3 hu3 hs3 hk3
        refine wpAnyH_ready (rs := [3]) (by kernel_rfl) (by simp) ?_
        refine AllReadyH.cons rfl (fun K hK => ?_) AllReadyH.nil
        rw [if_pos (by rfl)]
        go_simp
        go_at_call 8
        refine (sesnew_any ⟨#[99]⟩ a1 a2 a3 most win _ hcfg.1 hcfg.2).mono ?_
        rintro e w4 ⟨t, G, rfl, hr4, hu4⟩
        have HS4 : Hid (Se2 W w4 s t win most (SS.new ⟨#[99]⟩) (SS.new ⟨#[99]⟩) F G) := Lib.hid (se2_new HS3.out (Below.refl _ _) hr4 hu4)
        refine hK.out _ _ (HXV.out _ (bnext HV3.out (Nat.le_refl _) (hu4.1.below (Nat.le_refl _) (by simp)))) (fun hHeld => ?_)
        clear hr4 hu4
        refine wpAnyH_take (i := 4) (v := ?_) rfl (by kernel_rfl) (by kernel_rfl) (by kernel_rfl) (fun _ _ _ h => h) (Or.inl ⟨rfl, ?_⟩) hHeld ?_
        rotate_left
        · intro w0 hS0
          try dsimp only at hS0
          go_simp
          try with_reducible rfl
        simp only [List.getElem_toArray, List.getElem_cons_zero, List.getElem_cons_succ, Act.put, List.setIfInBounds_toArray, List.set_cons_zero, List.set_cons_succ]
        refine wpAnyH_take (i := 5) (v := ?_) rfl (by kernel_rfl) (by kernel_rfl) (by kernel_rfl) (fun _ _ _ h => h) (Or.inl ⟨rfl, ?_⟩) hHeld ?_
        rotate_left
        · intro w0 hS0
          try dsimp only at hS0
          go_simp
          try with_reducible rfl
        simp only [List.getElem_toArray, List.getElem_cons_zero, List.getElem_cons_succ, Act.put, List.setIfInBounds_toArray, List.set_cons_zero, List.set_cons_succ]
        refine wpAnyH_done (by kernel_rfl) ?_ _
        clear hHeld hcfg
        go_wp2_with fail
        go_loopw [9] (fun i wr => ∃ (k : Nat) (F' : List Nat), i = .int .i64 k ∧ k ≤ l.length ∧ Se2 W wr s t win most (doAll win most (l.take k) (SS.new ⟨#[99]⟩)) (SS.new ⟨#[99]⟩) F' G) (fun i _ => (l.length - intOf i).toNat)
        case atStart => exact ⟨0, F, rfl, by omega, HS4.out⟩
        case round =>
          obtain ⟨k, F', rfl, hk, hse⟩ := hrel
          have HSE := Lib.hid hse
          by_cases hlt : k < l.length
          · have hk0 : (0 : Int) ≤ k := by omega
            have hkl : (k : Int) < l.length := by omega
            have hw1 : IntKind.i64.wrap ((k : Int) + 1) = (k : Int) + 1 := w_i64 _ (by omega) (by omega)
            obtain ⟨ab, ao, rfl, hra⟩ := acts_at (HL.out _ hse.a.bel) hlt
            have HRA := Lib.hid hra
            have HOK := Lib.hid (HLO.out _ (List.getElem_mem hlt))
            have HSN := Lib.hid (doAll_snoc (win := win) (most := most) (x := SS.new ⟨#[99]⟩) hlt)
            generalize l[k] = x at *
            generalize doAll win most (l.take k) (SS.new ⟨#[99]⟩) = z at *
            have HDO := Lib.hid (do_x W s z win most F' x wr HSE.out.a HOK.out HT.out HB.out)
            have HAS := Lib.hid (act_size x)
            generalize actC x = AC at *
            clear hse hra
            go_wp2_with (first
              | (refine wpList_loadMid rfl 41 _ rfl ab (ao + k * 32) rfl AC _ HRA.out Tryz.underlying41 rfl HAS.out _ rfl ?_)
              | fail)
            refine HDO.out.mono ?_
            rintro e w5 ⟨rfl, F5, hr5, hu5⟩
            have HS5 := Lib.hid (HSE.out.ua hr5 hu5)
            clear hr5 hu5
            go_wp2_with fail
            go_roundw
            case rel => exact ⟨k + 1, F5, by go_num, by omega, by rw [HSN.out]; exact HS5.out⟩
            case measure => simp [intOf]; omega
          · have hkl : ¬ (k : Int) < l.length := by omega
            obtain rfl : k = l.length := by omega
            rw [List.take_length] at HSE
            have hcl := doAll_client win most l (SS.new ⟨#[99]⟩)
            have HZ1 : Hid (beginS 3 (conK true) (doAll win most l (SS.new ⟨#[99]⟩)) = beginS 3 (conK true) (SS.new ⟨#[99]⟩)) := Lib.hid (by rw [begin_clean, begin_clean, hcl])
            generalize doAll win most l (SS.new ⟨#[99]⟩) = z at *
            clear hse hcl hlt hk
            go_wp2_with fail
            generalize wr = wb at *
            refine (connect_any true wb).mono ?_
            rintro e w5 ⟨rfl, hk5⟩
            have HS5 := Lib.hid (HSE.out.below hk5)
            clear hk5
            go_wp2_with fail
            refine (begin_any s z win most F' 3 (conK true) w5 HS5.out.a.rep).mono ?_
            rintro e w6 ⟨v6, F6, rfl, -, hr6, hu6, -⟩
            rw [HZ1.out] at hr6
            have HS6 := Lib.hid (HS5.out.ua hr6 hu6)
            clear hr6 hu6
            go_wp2_with fail
            refine (connect_any true w6).mono ?_
            rintro e w7 ⟨rfl, hk7⟩
            have HS7 := Lib.hid (HS6.out.below hk7)
            clear hk7
            go_wp2_with fail
            refine (begin_any t (SS.new ⟨#[99]⟩) win most G 3 (conK true) w7 HS7.out.b.rep).mono ?_
            rintro e w8 ⟨v8, G8, rfl, -, hr8, hu8, -⟩
            have HS8 := Lib.hid (HS7.out.ub hr8 hu8)
            clear hr8 hu8 hkl
            generalize beginS 3 (conK true) (SS.new ⟨#[99]⟩) = z0 at *
            go_wp2_with fail
            go_loopw [10] (fun i wr => ∃ (k : Nat) (F' G' : List Nat), i = .int .i64 k ∧ k ≤ m.length ∧ Se2 W wr s t win most (doAll win most (m.take k) z0) (doAll win most (m.take k) z0) F' G') (fun i _ => (m.length - intOf i).toNat)
            case atStart => exact ⟨0, F6, G8, rfl, by omega, HS8.out⟩
            case round =>
              obtain ⟨k, F', G', rfl, hk, hse⟩ := hrel
              have HSE := Lib.hid hse
              by_cases hlt : k < m.length
              · have hk0 : (0 : Int) ≤ k := by omega
                have hkl : (k : Int) < m.length := by omega
                have hw1 : IntKind.i64.wrap ((k : Int) + 1) = (k : Int) + 1 := w_i64 _ (by omega) (by omega)
                obtain ⟨ab, ao, rfl, hra⟩ := acts_at (HM.out _ hse.a.bel) hlt
                have HRA := Lib.hid hra
                have HOK := Lib.hid (HMO.out _ (List.getElem_mem hlt))
                have HSN := Lib.hid (doAll_snoc (win := win) (most := most) (x := z0) hlt)
                generalize m[k] = x at *
                generalize doAll win most (m.take k) z0 = z at *
                have habl' : ab < W.heap.size := by
                  have h0 : 0 < (actsV m).length := by
                    rw [show (actsV m).length = m.length * 32 from flatMap_len actC_len m]
                    omega
                  obtain ⟨b1, o1, e, hc⟩ := (HM.out W (Below.refl _ _)).at (List.getElem?_eq_getElem h0)
                  cases e
                  exact World.block_lt_of_cell? W _ hc
                have HDO := Lib.hid (do_x W s z win most F' x wr HSE.out.a HOK.out HT.out HB.out)
                have HDT := Lib.hid (fun X G1 (h : Se W X t win most z G1) => do_x W t z win most G1 x X h HOK.out HT.out HB.out)
                have HAS := Lib.hid (act_size x)
                have HRA2 : Hid (∀ X, Below W.heap.size wr X → X.rangeAt ab (ao + k * 32) (actC x)) := Lib.hid (fun X hX j v hj => (hX.cell (p := ⟨ab, _, none⟩) habl').trans (hra j v hj))
                generalize actC x = AC at *
                clear hse hra habl'
                go_wp2_with (first
                  | (refine wpList_loadMid rfl 41 _ rfl ab (ao + k * 32) rfl AC _ HRA.out Tryz.underlying41 rfl HAS.out _ rfl ?_)
                  | fail)
                refine HDO.out.mono ?_
                rintro e w9 ⟨rfl, F9, hr9, hu9⟩
                have HS9 := Lib.hid (HSE.out.ua hr9 hu9)
                have HRA9 := Lib.hid (HRA2.out w9 (hu9.1.below HSE.out.a.bel.size HSE.out.a.hi))
                clear hr9 hu9
                go_wp2_with (first
                  | (refine wpList_loadMid rfl 41 _ rfl ab (ao + k * 32) rfl AC _ HRA9.out Tryz.underlying41 rfl HAS.out _ rfl ?_)
                  | fail)
                refine (HDT.out w9 G' HS9.out.b).mono ?_
                rintro e w10 ⟨rfl, G10, hr10, hu10⟩
                have HS10 := Lib.hid (HS9.out.ub hr10 hu10)
                clear hr10 hu10
                rw [HSN.out.symm] at HS10
                obtain ⟨z1, hz1⟩ : ∃ z1, doAll win most (m.take (k + 1)) z0 = z1 := ⟨_, rfl⟩
                rw [hz1] at HS10
                have HZE := Lib.hid hz1
                clear hz1
                obtain ⟨hlS, hrS, hoS, -⟩ := HS10.out.a.rep.lens
                obtain ⟨lb, tb, cb, FL, FO, FC, hpS, -⟩ := HS10.out.a.rep
                obtain ⟨lt, tt, ct, GL, GO, GC, hpT, -⟩ := HS10.out.b.rep
                have HSX : Hid (∀ X, Below w10.heap.size w10 X → (X.cell? ⟨s, 1, none⟩ = some (.int .i64 z1.conn) ∧ X.cell? ⟨s, 2, none⟩ = some (.bool z1.clean) ∧ X.cell? ⟨s, 3, none⟩ = some (.string z1.will.t) ∧ X.cell? ⟨s, 4, none⟩ = some (.string z1.will.p) ∧ X.cell? ⟨s, 5, none⟩ = some (.int .u8 z1.will.q) ∧ X.cell? ⟨s, 6, none⟩ = some (.bool z1.will.r) ∧ X.cell? ⟨s, 7, none⟩ = some (.bool z1.has) ∧ X.cell? ⟨s, 9, none⟩ = some (.pointer (some ⟨tb, 0, none⟩))) ∧ (X.cell? ⟨t, 1, none⟩ = some (.int .i64 z1.conn) ∧ X.cell? ⟨t, 2, none⟩ = some (.bool z1.clean) ∧ X.cell? ⟨t, 3, none⟩ = some (.string z1.will.t) ∧ X.cell? ⟨t, 4, none⟩ = some (.string z1.will.p) ∧ X.cell? ⟨t, 5, none⟩ = some (.int .u8 z1.will.q) ∧ X.cell? ⟨t, 6, none⟩ = some (.bool z1.will.r) ∧ X.cell? ⟨t, 7, none⟩ = some (.bool z1.has) ∧ X.cell? ⟨t, 9, none⟩ = some (.pointer (some ⟨tt, 0, none⟩)))) := Lib.hid (fun X hX => ⟨(hpS.below hX).head, (hpT.below hX).head⟩)
                have HFS := Lib.hid (fun X (hX : Below w10.heap.size w10 X) => flight_any tb win most z1.o FO X (hpS.below hX).out)
                have HFT := Lib.hid (fun X (hX : Below w10.heap.size w10 X) => flight_any tt win most z1.o GO X (hpT.below hX).out)
                have HTS := Lib.hid (fun X (hX : Below w10.heap.size w10 X) => told_any s z1 win most F9 X (HS10.out.below hX).a.rep)
                have HTT := Lib.hid (fun X (hX : Below w10.heap.size w10 X) => told_any t z1 win most G10 X (HS10.out.below hX).b.rep)
                have HRS := Lib.hid (resume_subs z1.o)
                have hcmp := fun w => msg_neq_same z1.will.t z1.will.p z1.will.q z1.will.r w
                clear hpS hpT
                go_upto_region 17 with fail
                refine wp_region_held_drew (S := fun X => (X.cell? ⟨s, 1, none⟩ = some (.int .i64 z1.conn) ∧ X.cell? ⟨s, 2, none⟩ = some (.bool z1.clean) ∧ X.cell? ⟨s, 3, none⟩ = some (.string z1.will.t) ∧ X.cell? ⟨s, 4, none⟩ = some (.string z1.will.p) ∧ X.cell? ⟨s, 5, none⟩ = some (.int .u8 z1.will.q) ∧ X.cell? ⟨s, 6, none⟩ = some (.bool z1.will.r) ∧ X.cell? ⟨s, 7, none⟩ = some (.bool z1.has) ∧ X.cell? ⟨s, 9, none⟩ = some (.pointer (some ⟨tb, 0, none⟩))) ∧ (X.cell? ⟨t, 1, none⟩ = some (.int .i64 z1.conn) ∧ X.cell? ⟨t, 2, none⟩ = some (.bool z1.clean) ∧ X.cell? ⟨t, 3, none⟩ = some (.string z1.will.t) ∧ X.cell? ⟨t, 4, none⟩ = some (.string z1.will.p) ∧ X.cell? ⟨t, 5, none⟩ = some (.int .u8 z1.will.q) ∧ X.cell? ⟨t, 6, none⟩ = some (.bool z1.will.r) ∧ X.cell? ⟨t, 7, none⟩ = some (.bool z1.has) ∧ X.cell? ⟨t, 9, none⟩ = some (.pointer (some ⟨tt, 0, none⟩)))) (by kernel_rfl) (HSX.out _ (by first | exact Below.refl _ _ | exact (Below.refl _ _).drew)) (fun hHeld => ?_)
                refine wpAnyH_take (i := 0) (v := ?_) rfl (by kernel_rfl) (by kernel_rfl) (by kernel_rfl) (fun _ _ _ h => h) (Or.inl ⟨rfl, ?_⟩) hHeld ?_
                rotate_left
                · intro w0 hS0
                  try dsimp only at hS0
                  go_simp
                  try with_reducible rfl
                simp only [List.getElem_toArray, List.getElem_cons_zero, Act.put, List.setIfInBounds_toArray, List.set_cons_zero, List.set_cons_succ]
                refine wpAnyH_take (i := 1) (v := ?_) rfl (by kernel_rfl) (by kernel_rfl) (by kernel_rfl) (fun _ _ _ h => h) (Or.inl ⟨rfl, ?_⟩) hHeld ?_
                rotate_left
                · intro w0 hS0
                  try dsimp only at hS0
                  go_simp
                  try with_reducible rfl
                simp only [List.getElem_toArray, List.getElem_cons_zero, List.getElem_cons_succ, Act.put, List.setIfInBounds_toArray, List.set_cons_zero, List.set_cons_succ]
                refine wpAnyH_take (i := 2) (v := ?_) rfl (by kernel_rfl) (by kernel_rfl) (by kernel_rfl) (fun _ _ _ h => h) (Or.inl ⟨rfl, ?_⟩) hHeld ?_
                rotate_left
                · intro w0 hS0
                  try dsimp only at hS0
                  go_simp
                  try with_reducible rfl
                simp only [List.getElem_toArray, List.getElem_cons_zero, List.getElem_cons_succ, Act.put, List.setIfInBounds_toArray, List.set_cons_zero, List.set_cons_succ]
                refine wpAnyH_take (i := 3) (v := ?_) rfl (by kernel_rfl) (by kernel_rfl) (by kernel_rfl) (fun _ _ _ h => h) (Or.inl ⟨rfl, ?_⟩) hHeld ?_
                rotate_left
                · intro w0 hS0
                  try dsimp only at hS0
                  go_simp
                  try with_reducible rfl
                simp only [List.getElem_toArray, List.getElem_cons_zero, List.getElem_cons_succ, Act.put, List.setIfInBounds_toArray, List.set_cons_zero, List.set_cons_succ]
                refine wpAnyH_take (i := 4) (v := ?_) rfl (by kernel_rfl) (by kernel_rfl) (by kernel_rfl) (fun _ _ _ h => h) (Or.inl ⟨rfl, ?_⟩) hHeld ?_
                rotate_left
                · intro w0 hS0
                  try dsimp only at hS0
                  go_simp
                  try with_reducible rfl
                simp only [List.getElem_toArray, List.getElem_cons_zero, List.getElem_cons_succ, Act.put, List.setIfInBounds_toArray, List.set_cons_zero, List.set_cons_succ]
                refine wpAnyH_take (i := 5) (v := ?_) rfl (by kernel_rfl) (by kernel_rfl) (by kernel_rfl) (fun _ _ _ h => h) (Or.inl ⟨rfl, ?_⟩) hHeld ?_
                rotate_left
                · intro w0 hS0
                  try dsimp only at hS0
                  go_simp
                  try with_reducible rfl
                simp only [List.getElem_toArray, List.getElem_cons_zero, List.getElem_cons_succ, Act.put, List.setIfInBounds_toArray, List.set_cons_zero, List.set_cons_succ]
                refine wpAnyH_take (i := 6) (v := ?_) rfl (by kernel_rfl) (by kernel_rfl) (by kernel_rfl) (fun _ _ _ h => h) (Or.inl ⟨rfl, ?_⟩) hHeld ?_
                rotate_left
                · intro w0 hS0
                  try dsimp only at hS0
                  go_simp
                  try with_reducible rfl
                simp only [List.getElem_toArray, List.getElem_cons_zero, List.getElem_cons_succ, Act.put, List.setIfInBounds_toArray, List.set_cons_zero, List.set_cons_succ]
                refine wpAnyH_take (i := 7) (v := ?_) rfl (by kernel_rfl) (by kernel_rfl) (by kernel_rfl) (fun _ _ _ h => h) (Or.inl ⟨rfl, ?_⟩) hHeld ?_
                rotate_left
                · intro w0 hS0
                  try dsimp only at hS0
                  go_simp
                  try with_reducible rfl
                simp only [List.getElem_toArray, List.getElem_cons_zero, List.getElem_cons_succ, Act.put, List.setIfInBounds_toArray, List.set_cons_zero, List.set_cons_succ]
                refine wpAnyH_take (i := 8) (v := ?_) rfl (by kernel_rfl) (by kernel_rfl) (by kernel_rfl) (fun _ _ _ h => h) (Or.inl ⟨rfl, ?_⟩) hHeld ?_
                rotate_left
                · intro w0 hS0
                  try dsimp only at hS0
                  go_simp
                  try with_reducible rfl
                simp only [List.getElem_toArray, List.getElem_cons_zero, List.getElem_cons_succ, Act.put, List.setIfInBounds_toArray, List.set_cons_zero, List.set_cons_succ]
                refine wpAnyH_take (i := 9) (v := ?_) rfl (by kernel_rfl) (by kernel_rfl) (by kernel_rfl) (fun _ _ _ h => h) (Or.inl ⟨rfl, ?_⟩) hHeld ?_
                rotate_left
                · intro w0 hS0
                  try dsimp only at hS0
                  go_simp
                  try with_reducible rfl
                simp only [List.getElem_toArray, List.getElem_cons_zero, List.getElem_cons_succ, Act.put, List.setIfInBounds_toArray, List.set_cons_zero, List.set_cons_succ]
                refine wpAnyH_take (i := 10) (v := ?_) rfl (by kernel_rfl) (by kernel_rfl) (by kernel_rfl) (fun _ _ _ h => h) (Or.inl ⟨rfl, ?_⟩) hHeld ?_
                rotate_left
                · intro w0 hS0
                  try dsimp only at hS0
                  go_simp
                  try with_reducible rfl
                simp only [List.getElem_toArray, List.getElem_cons_zero, List.getElem_cons_succ, Act.put, List.setIfInBounds_toArray, List.set_cons_zero, List.set_cons_succ]
                refine wpAnyH_take (i := 11) (v := ?_) rfl (by kernel_rfl) (by kernel_rfl) (by kernel_rfl) (fun _ _ _ h => h) (Or.inl ⟨rfl, ?_⟩) hHeld ?_
                rotate_left
                · intro w0 hS0
                  try dsimp only at hS0
                  go_simp
                  try with_reducible rfl
                simp only [List.getElem_toArray, List.getElem_cons_zero, List.getElem_cons_succ, Act.put, List.setIfInBounds_toArray, List.set_cons_zero, List.set_cons_succ]
                refine wpAnyH_take (i := 12) (v := ?_) rfl (by kernel_rfl) (by kernel_rfl) (by kernel_rfl) (fun _ _ _ h => h) (Or.inl ⟨rfl, ?_⟩) hHeld ?_
                rotate_left
                · intro w0 hS0
                  try dsimp only at hS0
                  go_simp
                  try with_reducible rfl
                simp only [List.getElem_toArray, List.getElem_cons_zero, List.getElem_cons_succ, Act.put, List.setIfInBounds_toArray, List.set_cons_zero, List.set_cons_succ]
                refine wpAnyH_take (i := 13) (v := ?_) rfl (by kernel_rfl) (by kernel_rfl) (by kernel_rfl) (fun _ _ _ h => h) (Or.inl ⟨rfl, ?_⟩) hHeld ?_
                rotate_left
                · intro w0 hS0
                  try dsimp only at hS0
                  go_simp
                  try with_reducible rfl
                simp only [List.getElem_toArray, List.getElem_cons_zero, List.getElem_cons_succ, Act.put, List.setIfInBounds_toArray, List.set_cons_zero, List.set_cons_succ]
                refine wpAnyH_take (i := 14) (v := ?_) rfl (by kernel_rfl) (by kernel_rfl) (by kernel_rfl) (fun _ _ _ h => h) (Or.inl ⟨rfl, ?_⟩) hHeld ?_
                rotate_left
                · intro w0 hS0
                  try dsimp only at hS0
                  go_simp
                  try with_reducible rfl
                simp only [List.getElem_toArray, List.getElem_cons_zero, List.getElem_cons_succ, Act.put, List.setIfInBounds_toArray, List.set_cons_zero, List.set_cons_succ]
                refine wpAnyH_take (i := 15) (v := ?_) rfl (by kernel_rfl) (by kernel_rfl) (by kernel_rfl) (fun _ _ _ h => h) (Or.inl ⟨rfl, ?_⟩) hHeld ?_
                rotate_left
                · intro w0 hS0
                  try dsimp only at hS0
                  go_simp
                  try with_reducible rfl
                simp only [List.getElem_toArray, List.getElem_cons_zero, List.getElem_cons_succ, Act.put, List.setIfInBounds_toArray, List.set_cons_zero, List.set_cons_succ]
                refine wpAnyH_take (i := 16) (v := ?_) rfl (by kernel_rfl) (by kernel_rfl) (by kernel_rfl) (fun _ _ _ h => h) (Or.inl ⟨rfl, ?_⟩) hHeld ?_
                rotate_left
                · intro w0 hS0
                  try dsimp only at hS0
                  go_simp
                  try with_reducible rfl
                simp only [List.getElem_toArray, List.getElem_cons_zero, List.getElem_cons_succ, Act.put, List.setIfInBounds_toArray, List.set_cons_zero, List.set_cons_succ]
                refine wpAnyH_take (i := 17) (v := ?_) rfl (by kernel_rfl) (by kernel_rfl) (by kernel_rfl) (fun _ _ _ h => h) (Or.inl ⟨rfl, ?_⟩) hHeld ?_
                rotate_left
                · intro w0 hS0
                  try dsimp only at hS0
                  go_simp
                  try with_reducible rfl
                simp only [List.getElem_toArray, List.getElem_cons_zero, List.getElem_cons_succ, Act.put, List.setIfInBounds_toArray, List.set_cons_zero, List.set_cons_succ]
                refine wpAnyH_take (i := 18) (v := ?_) rfl (by kernel_rfl) (by kernel_rfl) (by kernel_rfl) (fun _ _ _ h => h) (Or.inl ⟨rfl, ?_⟩) hHeld ?_
                rotate_left
                · intro w0 hS0
                  try dsimp only at hS0
                  go_simp
                  try with_reducible rfl
                simp only [List.getElem_toArray, List.getElem_cons_zero, List.getElem_cons_succ, Act.put, List.setIfInBounds_toArray, List.set_cons_zero, List.set_cons_succ]
                refine wpAnyH_take (i := 19) (v := ?_) rfl (by kernel_rfl) (by kernel_rfl) (by kernel_rfl) (fun _ _ _ h => h) (Or.inl ⟨rfl, ?_⟩) hHeld ?_
                rotate_left
                · intro w0 hS0
                  try dsimp only at hS0
                  go_simp
                  try with_reducible rfl
                simp only [List.getElem_toArray, List.getElem_cons_zero, List.getElem_cons_succ, Act.put, List.setIfInBounds_toArray, List.set_cons_zero, List.set_cons_succ]
                refine wpAnyH_take (i := 20) (v := ?_) rfl (by kernel_rfl) (by kernel_rfl) (by kernel_rfl) (fun _ _ _ h => h) (Or.inl ⟨rfl, ?_⟩) hHeld ?_
                rotate_left
                · intro w0 hS0
                  try dsimp only at hS0
                  go_simp
                  try with_reducible rfl
                simp only [List.getElem_toArray, List.getElem_cons_zero, List.getElem_cons_succ, Act.put, List.setIfInBounds_toArray, List.set_cons_zero, List.set_cons_succ]
                refine wpAnyH_take (i := 21) (v := ?_) rfl (by kernel_rfl) (by kernel_rfl) (by kernel_rfl) (fun _ _ _ h => h) (Or.inl ⟨rfl, ?_⟩) hHeld ?_
                rotate_left
                · intro w0 hS0
                  try dsimp only at hS0
                  go_simp
                  try with_reducible rfl
                simp only [List.getElem_toArray, List.getElem_cons_zero, List.getElem_cons_succ, Act.put, List.setIfInBounds_toArray, List.set_cons_zero, List.set_cons_succ]
                refine wpAnyH_take (i := 22) (v := ?_) rfl (by kernel_rfl) (by kernel_rfl) (by kernel_rfl) (fun _ _ _ h => h) (Or.inl ⟨rfl, ?_⟩) hHeld ?_
                rotate_left
                · intro w0 hS0
                  try dsimp only at hS0
                  go_simp
                  try with_reducible rfl
                simp only [List.getElem_toArray, List.getElem_cons_zero, List.getElem_cons_succ, Act.put, List.setIfInBounds_toArray, List.set_cons_zero, List.set_cons_succ]
                refine wpAnyH_take (i := 23) (v := ?_) rfl (by kernel_rfl) (by kernel_rfl) (by kernel_rfl) (fun _ _ _ h => h) (Or.inl ⟨rfl, ?_⟩) hHeld ?_
                rotate_left
                · intro w0 hS0
                  try dsimp only at hS0
                  go_simp
                  try with_reducible rfl
                simp only [List.getElem_toArray, List.getElem_cons_zero, List.getElem_cons_succ, Act.put, List.setIfInBounds_toArray, List.set_cons_zero, List.set_cons_succ]
                refine wpAnyH_take (i := 24) (v := ?_) rfl (by kernel_rfl) (by kernel_rfl) (by kernel_rfl) (fun _ _ _ h => h) (Or.inl ⟨rfl, ?_⟩) hHeld ?_
                rotate_left
                · intro w0 hS0
                  try dsimp only at hS0
                  go_simp
                  try with_reducible rfl
                simp only [List.getElem_toArray, List.getElem_cons_zero, List.getElem_cons_succ, Act.put, List.setIfInBounds_toArray, List.set_cons_zero, List.set_cons_succ]
                refine wpAnyH_take (i := 25) (v := ?_) rfl (by kernel_rfl) (by kernel_rfl) (by kernel_rfl) (fun _ _ _ h => h) (Or.inl ⟨rfl, ?_⟩) hHeld ?_
                rotate_left
                · intro w0 hS0
                  try dsimp only at hS0
                  go_simp
                  try with_reducible rfl
                simp only [List.getElem_toArray, List.getElem_cons_zero, List.getElem_cons_succ, Act.put, List.setIfInBounds_toArray, List.set_cons_zero, List.set_cons_succ]
                refine wpAnyH_take (i := 26) (v := ?_) rfl (by kernel_rfl) (by kernel_rfl) (by kernel_rfl) (fun _ _ _ h => h) (Or.inl ⟨rfl, ?_⟩) hHeld ?_
                rotate_left
                · intro w0 hS0
                  try dsimp only at hS0
                  go_simp
                  try with_reducible rfl
                simp only [List.getElem_toArray, List.getElem_cons_zero, List.getElem_cons_succ, Act.put, List.setIfInBounds_toArray, List.set_cons_zero, List.set_cons_succ]
                refine wpAnyH_take (i := 27) (v := ?_) rfl (by kernel_rfl) (by kernel_rfl) (by kernel_rfl) (fun _ _ _ h => h) (Or.inl ⟨rfl, ?_⟩) hHeld ?_
                rotate_left
                · intro w0 hS0
                  try dsimp only at hS0
                  go_simp
                  try with_reducible rfl
                simp only [List.getElem_toArray, List.getElem_cons_zero, List.getElem_cons_succ, Act.put, List.setIfInBounds_toArray, List.set_cons_zero, List.set_cons_succ]
                refine wpAnyH_take (i := 28) (v := ?_) rfl (by kernel_rfl) (by kernel_rfl) (by kernel_rfl) (fun _ _ _ h => h) (Or.inl ⟨rfl, ?_⟩) hHeld ?_
                rotate_left
                · intro w0 hS0
                  try dsimp only at hS0
                  go_simp
                  try with_reducible rfl
                simp only [List.getElem_toArray, List.getElem_cons_zero, List.getElem_cons_succ, Act.put, List.setIfInBounds_toArray, List.set_cons_zero, List.set_cons_succ]
                refine wpAnyH_take (i := 29) (v := ?_) rfl (by kernel_rfl) (by kernel_rfl) (by kernel_rfl) (fun _ _ _ h => h) (Or.inl ⟨rfl, ?_⟩) hHeld ?_
                rotate_left
                · intro w0 hS0
                  try dsimp only at hS0
                  go_simp
                  try with_reducible rfl
                simp only [List.getElem_toArray, List.getElem_cons_zero, List.getElem_cons_succ, Act.put, List.setIfInBounds_toArray, List.set_cons_zero, List.set_cons_succ]
                refine wpAnyH_take (i := 30) (v := ?_) rfl (by kernel_rfl) (by kernel_rfl) (by kernel_rfl) (fun _ _ _ h => h) (Or.inl ⟨rfl, ?_⟩) hHeld ?_
                rotate_left
                · intro w0 hS0
                  try dsimp only at hS0
                  go_simp
                  try with_reducible rfl
                simp only [List.getElem_toArray, List.getElem_cons_zero, List.getElem_cons_succ, Act.put, List.setIfInBounds_toArray, List.set_cons_zero, List.set_cons_succ]
                refine wpAnyH_take (i := 31) (v := ?_) rfl (by kernel_rfl) (by kernel_rfl) (by kernel_rfl) (fun _ _ _ h => h) (Or.inl ⟨rfl, ?_⟩) hHeld ?_
                rotate_left
                · intro w0 hS0
                  try dsimp only at hS0
                  go_simp
                  try with_reducible rfl
                simp only [List.getElem_toArray, List.getElem_cons_zero, List.getElem_cons_succ, Act.put, List.setIfInBounds_toArray, List.set_cons_zero, List.set_cons_succ]
                refine wpAnyH_take (i := 32) (v := ?_) rfl (by kernel_rfl) (by kernel_rfl) (by kernel_rfl) (fun _ _ _ h => h) (Or.inl ⟨rfl, ?_⟩) hHeld ?_
                rotate_left
                · intro w0 hS0
                  try dsimp only at hS0
                  go_simp
                  try with_reducible rfl
                simp only [List.getElem_toArray, List.getElem_cons_zero, List.getElem_cons_succ, Act.put, List.setIfInBounds_toArray, List.set_cons_zero, List.set_cons_succ]
                refine wpAnyH_take (i := 33) (v := ?_) rfl (by kernel_rfl) (by kernel_rfl) (by kernel_rfl) (fun _ _ _ h => h) (Or.inl ⟨rfl, ?_⟩) hHeld ?_
                rotate_left
                · intro w0 hS0
                  try dsimp only at hS0
                  go_simp
                  try with_reducible rfl
                simp only [List.getElem_toArray, List.getElem_cons_zero, List.getElem_cons_succ, Act.put, List.setIfInBounds_toArray, List.set_cons_zero, List.set_cons_succ]
                refine wpAnyH_take (i := 34) (v := ?_) rfl (by kernel_rfl) (by kernel_rfl) (by kernel_rfl) (fun _ _ _ h => h) (Or.inl ⟨rfl, ?_⟩) hHeld ?_
                rotate_left
                · intro w0 hS0
                  try dsimp only at hS0
                  go_simp
                  try with_reducible rfl
                simp only [List.getElem_toArray, List.getElem_cons_zero, List.getElem_cons_succ, Act.put, List.setIfInBounds_toArray, List.set_cons_zero, List.set_cons_succ]
                refine wpAnyH_take (i := 35) (v := ?_) rfl (by kernel_rfl) (by kernel_rfl) (by kernel_rfl) (fun _ _ _ h => h) (Or.inl ⟨rfl, ?_⟩) hHeld ?_
                rotate_left
                · intro w0 hS0
                  try dsimp only at hS0
                  go_simp
                  try with_reducible rfl
                simp only [List.getElem_toArray, List.getElem_cons_zero, List.getElem_cons_succ, Act.put, List.setIfInBounds_toArray, List.set_cons_zero, List.set_cons_succ]
                refine wpAnyH_take (i := 37) (v := ?_) rfl (by kernel_rfl) (by kernel_rfl) (by kernel_rfl) (fun _ _ _ h => h) (Or.inl ⟨rfl, ?_⟩) hHeld ?_
                rotate_left
                · intro w0 hS0
                  try dsimp only at hS0
                  go_simp
                  try with_reducible rfl
                simp only [List.getElem_toArray, List.getElem_cons_zero, List.getElem_cons_succ, Act.put, List.setIfInBounds_toArray, List.set_cons_zero, List.set_cons_succ]
                refine wpAnyH_take (i := 38) (v := ?_) rfl (by kernel_rfl) (by kernel_rfl) (by kernel_rfl) (fun _ _ _ h => h) (Or.inl ⟨rfl, ?_⟩) hHeld ?_
                rotate_left
                · intro w0 hS0
                  try dsimp only at hS0
                  go_simp
                  try with_reducible rfl
                simp only [List.getElem_toArray, List.getElem_cons_zero, List.getElem_cons_succ, Act.put, List.setIfInBounds_toArray, List.set_cons_zero, List.set_cons_succ]
                refine wpAnyH_take (i := 39) (v := ?_) rfl (by kernel_rfl) (by kernel_rfl) (by kernel_rfl) (fun _ _ _ h => h) (Or.inl ⟨rfl, ?_⟩) hHeld ?_
                rotate_left
                · intro w0 hS0
                  try dsimp only at hS0
                  go_simp
                  try with_reducible rfl
                simp only [List.getElem_toArray, List.getElem_cons_zero, List.getElem_cons_succ, Act.put, List.setIfInBounds_toArray, List.set_cons_zero, List.set_cons_succ]
                refine wpAnyH_take (i := 40) (v := ?_) rfl (by kernel_rfl) (by kernel_rfl) (by kernel_rfl) (fun _ _ _ h => h) (Or.inl ⟨rfl, ?_⟩) hHeld ?_
                rotate_left
                · intro w0 hS0
                  try dsimp only at hS0
                  go_simp
                  try with_reducible rfl
                simp only [List.getElem_toArray, List.getElem_cons_zero, List.getElem_cons_succ, Act.put, List.setIfInBounds_toArray, List.set_cons_zero, List.set_cons_succ]
                refine wpAnyH_ready (rs := [36]) (by kernel_rfl) (by simp) ?_
                refine AllReadyH.cons rfl (fun K hK => ?_) AllReadyH.nil
                rw [if_pos (by rfl)]
                go_simp
                go_at_call 19
                refine (HFS.out _ (Below.refl _ _).drew).mono ?_
                rintro e v1 ⟨rfl, hv1⟩
                have HC1 : Hid (Below w10.heap.size w10 v1) := Lib.hid (by rw [← hv1]; exact (Below.refl _ _).drew)
                have hcs1 := HC1.out.size
                refine hK.out _ _ (HSX.out _ HC1.out) (fun hHeld => ?_)
                clear hv1
                refine wpAnyH_ready (rs := [41]) (by kernel_rfl) (by simp) ?_
                refine AllReadyH.cons rfl (fun K hK => ?_) AllReadyH.nil
                rw [if_pos (by rfl)]
                go_simp
                go_at_call 19
                refine (HFT.out _ HC1.out).mono ?_
                rintro e v2 ⟨rfl, hv2⟩
                have HC2 : Hid (Below w10.heap.size w10 v2) := Lib.hid (by rw [← hv2]; exact HC1.out)
                have hcs2 := HC2.out.size
                refine hK.out _ _ (HSX.out _ HC2.out) (fun hHeld => ?_)
                clear hv2
                refine wpAnyH_take (i := 42) (v := ?_) rfl (by kernel_rfl) (by kernel_rfl) (by kernel_rfl) (fun _ _ _ h => h) (Or.inl ⟨rfl, ?_⟩) hHeld ?_
                rotate_left
                · intro w0 hS0
                  try dsimp only at hS0
                  go_simp
                  try with_reducible rfl
                simp only [List.getElem_toArray, List.getElem_cons_zero, List.getElem_cons_succ, Act.put, List.setIfInBounds_toArray, List.set_cons_zero, List.set_cons_succ]
                refine wpAnyH_take (i := 43) (v := ?_) rfl (by kernel_rfl) (by kernel_rfl) (by kernel_rfl) (fun _ _ _ h => h) (Or.inl ⟨rfl, ?_⟩) hHeld ?_
                rotate_left
                · intro w0 hS0
                  try dsimp only at hS0
                  go_simp
                  try with_reducible rfl
                simp only [List.getElem_toArray, List.getElem_cons_zero, List.getElem_cons_succ, Act.put, List.setIfInBounds_toArray, List.set_cons_zero, List.set_cons_succ]
                refine wpAnyH_take (i := 44) (v := ?_) rfl (by kernel_rfl) (by kernel_rfl) (by kernel_rfl) (fun _ _ _ h => h) (Or.inl ⟨rfl, ?_⟩) hHeld ?_
                rotate_left
                · intro w0 hS0
                  try dsimp only at hS0
                  go_simp
                  try with_reducible rfl
                simp only [List.getElem_toArray, List.getElem_cons_zero, List.getElem_cons_succ, Act.put, List.setIfInBounds_toArray, List.set_cons_zero, List.set_cons_succ]
                refine wpAnyH_take (i := 45) (v := ?_) rfl (by kernel_rfl) (by kernel_rfl) (by kernel_rfl) (fun _ _ _ h => h) (Or.inl ⟨rfl, ?_⟩) hHeld ?_
                rotate_left
                · intro w0 hS0
                  try dsimp only at hS0
                  go_simp
                  try with_reducible rfl
                simp only [List.getElem_toArray, List.getElem_cons_zero, List.getElem_cons_succ, Act.put, List.setIfInBounds_toArray, List.set_cons_zero, List.set_cons_succ]
                refine wpAnyH_take (i := 47) (v := ?_) rfl (by kernel_rfl) (by kernel_rfl) (by kernel_rfl) (fun _ _ _ h => h) (Or.inl ⟨rfl, ?_⟩) hHeld ?_
                rotate_left
                · intro w0 hS0
                  try dsimp only at hS0
                  go_simp
                  try with_reducible rfl
                simp only [List.getElem_toArray, List.getElem_cons_zero, List.getElem_cons_succ, Act.put, List.setIfInBounds_toArray, List.set_cons_zero, List.set_cons_succ]
                refine wpAnyH_ready (rs := [46]) (by kernel_rfl) (by simp) ?_
                refine AllReadyH.cons rfl (fun K hK => ?_) AllReadyH.nil
                rw [if_pos (by rfl)]
                go_simp
                go_at_call 13
                refine (HTS.out _ HC2.out).mono ?_
                rintro e v3 ⟨a1, a2, a3, c1, c2, c3, rfl, ht1, hk, -⟩
                have HC3 : Hid (Below w10.heap.size w10 v3) := Lib.hid (HC2.out.trans (hk.mono hcs2))
                have hcs3 := HC3.out.size
                have HT1 := Lib.hid ht1
                clear hk ht1
                refine hK.out _ _ (HSX.out _ HC3.out) (fun hHeld => ?_)
                refine wpAnyH_ready (rs := [48]) (by kernel_rfl) (by simp) ?_
                refine AllReadyH.cons rfl (fun K hK => ?_) AllReadyH.nil
                rw [if_pos (by rfl)]
                go_simp
                go_at_call 13
                refine (HTT.out _ HC3.out).mono ?_
                rintro e v4 ⟨b1, b2, b3, d1, d2, d3, rfl, ht2, hk, -⟩
                have HC4 : Hid (Below w10.heap.size w10 v4) := Lib.hid (HC3.out.trans (hk.mono hcs3))
                have hcs4 := HC4.out.size
                have HT1b := Lib.hid (HT1.out.below hk)
                have HT2 := Lib.hid ht2
                clear hk ht2
                refine hK.out _ _ (HSX.out _ HC4.out) (fun hHeld => ?_)
                refine wpAnyH_ready (rs := [49]) (by kernel_rfl) (by simp) ?_
                refine AllReadyH.cons rfl (fun K hK => ?_) AllReadyH.nil
                rw [if_pos (by rfl)]
                go_simp
                go_at_call 16
                refine (same18_any z1.l (resumeO z1.o) z1.came z1.o.wait.length a1 a2 a3 b1 b2 b3 c1 c2 c3 d1 d2 d3 v4 HT1b.out.subs HT2.out.subs HT1b.out.res HT2.out.res HT1b.out.opn HT2.out.opn HRS.out (by omega) (by omega) (by omega)).mono ?_
                rintro e v5 ⟨rfl, hk⟩
                have HC5 : Hid (Below w10.heap.size w10 v5) := Lib.hid (HC4.out.trans (hk.mono hcs4))
                have HS11 := Lib.hid (HS10.out.below HC5.out)
                clear hk
                refine hK.out _ _ (HSX.out _ HC5.out) (fun hHeld => ?_)
                refine wpAnyH_take (i := 50) (v := ?_) rfl (by kernel_rfl) (by kernel_rfl) (by kernel_rfl) (fun _ _ _ h => h) (Or.inl ⟨rfl, ?_⟩) hHeld ?_
                rotate_left
                · intro w0 hS0
                  try dsimp only at hS0
                  go_simp
                  try with_reducible rfl
                simp only [List.getElem_toArray, List.getElem_cons_zero, List.getElem_cons_succ, Act.put, List.setIfInBounds_toArray, List.set_cons_zero, List.set_cons_succ]
                refine wpAnyH_take (i := 51) (v := ?_) rfl (by kernel_rfl) (by kernel_rfl) (by kernel_rfl) (fun _ _ _ h => h) (Or.inl ⟨rfl, ?_⟩) hHeld ?_
                rotate_left
                · intro w0 hS0
                  try dsimp only at hS0
                  go_simp
                  try with_reducible rfl
                simp only [List.getElem_toArray, List.getElem_cons_zero, List.getElem_cons_succ, Act.put, List.setIfInBounds_toArray, List.set_cons_zero, List.set_cons_succ]
                refine wpAnyH_done (by kernel_rfl) ?_ _
                clear hHeld hcmp
                go_wp2_with fail
                go_roundw
                case rel => exact ⟨k + 1, F9, G10, by go_num, by omega, by first | exact HS11.out | (rw [HZE.out]; exact HS11.out)⟩
                case measure => simp [intOf]; omega
              · have hkl : ¬ (k : Int) < m.length := by omega
                obtain rfl : k = m.length := by omega
                generalize doAll win most (m.take m.length) z0 = z at *
                obtain ⟨hlS, hrS, hoS, -⟩ := hse.a.rep.lens
                have HRS := Lib.hid (resume_subs z.o)
                clear hse hlt hk
                go_wp2_with fail
                refine (told_any s z win most F' _ HSE.out.a.rep).mono ?_
                rintro e v1 ⟨a1, a2, a3, c1, c2, c3, rfl, ht1, hk1, -⟩
                have HS1 := Lib.hid (HSE.out.below hk1)
                have HT1 := Lib.hid ht1
                clear ht1 hk1
                go_wp2_with fail
                refine (told_any t z win most G' v1 HS1.out.b.rep).mono ?_
                rintro e v2 ⟨b1, b2, b3, d1, d2, d3, rfl, ht2, hk2, -⟩
                have HS2 := Lib.hid (HS1.out.below hk2)
                have HT1b := Lib.hid (HT1.out.below hk2)
                have HT2 := Lib.hid ht2
                clear ht2 hk2
                unfold toldC
                go_wp2_with fail
                refine (same18_any z.l (resumeO z.o) z.came z.o.wait.length a1 a2 a3 b1 b2 b3 c1 c2 c3 d1 d2 d3 v2 HT1b.out.subs HT2.out.subs HT1b.out.res HT2.out.res HT1b.out.opn HT2.out.opn HRS.out (by omega) (by omega) (by omega)).mono ?_
                rintro e v3 ⟨rfl, hk3⟩
                have HS3 := Lib.hid (HS2.out.below hk3)
                clear hk3
                go_wp2_with fail
                refine (HAW.out _ HS3.out.a.bel).mono ?_
                rintro e v4 ⟨rfl, hk4⟩
                have HF := Lib.hid (bnext HS3.out.a.bel (Nat.le_refl _) hk4)
                clear hk4
                go_wp2_with fail
                go_ret
                exact ⟨rfl, HF.out⟩
      · have hbad : most < 1 ∨ 1024 < most ∨ win < 1 ∨ 1024 < win := by omega
        refine (sesnew_bad ⟨#[99]⟩ a1 a2 a3 most win _ hbad).mono ?_
        rintro e w3 ⟨rfl, hk3⟩
        have HV3 : Hid (Below V.heap.size V w3) := Lib.hid (bnext HV2.out (Nat.le_refl _) (((Below.refl _ _).drew).trans hk3))
        refine hK.out _ _ (HXV.out _ HV3.out) (fun hHeld => ?_)
        clear hk3
        refine wpAnyH_ready (rs := [3]) (by kernel_rfl) (by simp) ?_
        refine AllReadyH.cons rfl (fun K hK => ?_) AllReadyH.nil
        rw [if_pos (by rfl)]
        go_simp
        go_at_call 8
        refine (sesnew_bad ⟨#[99]⟩ a1 a2 a3 most win _ hbad).mono ?_
        rintro e w4 ⟨rfl, hk4⟩
        have HV4 := Lib.hid (bnext HV3.out (Nat.le_refl _) hk4)
        refine hK.out _ _ (HXV.out _ HV4.out) (fun hHeld => ?_)
        clear hk4
        refine wpAnyH_take (i := 4) (v := ?_) rfl (by kernel_rfl) (by kernel_rfl) (by kernel_rfl) (fun _ _ _ h => h) (Or.inl ⟨rfl, ?_⟩) hHeld ?_
        rotate_left
        · intro w0 hS0
          try dsimp only at hS0
          go_simp
          try with_reducible rfl
        simp only [List.getElem_toArray, List.getElem_cons_zero, List.getElem_cons_succ, Act.put, List.setIfInBounds_toArray, List.set_cons_zero, List.set_cons_succ]
        refine wpAnyH_take (i := 5) (v := ?_) rfl (by kernel_rfl) (by kernel_rfl) (by kernel_rfl) (fun _ _ _ h => h) (Or.inl ⟨rfl, ?_⟩) hHeld ?_
        rotate_left
        · intro w0 hS0
          try dsimp only at hS0
          go_simp
          try with_reducible rfl
        simp only [List.getElem_toArray, List.getElem_cons_zero, List.getElem_cons_succ, Act.put, List.setIfInBounds_toArray, List.set_cons_zero, List.set_cons_succ]
        refine wpAnyH_done (by kernel_rfl) ?_ _
        clear hHeld hcfg hbad
        have HB4 := Lib.hid (bnext HBV.out (Nat.le_refl _) HV4.out)
        go_wp2_with fail
        refine (HAW.out _ HB4.out).mono ?_
        rintro e w5 ⟨rfl, hk5⟩
        have HF := Lib.hid (bnext HB4.out (Nat.le_refl _) hk5)
        clear hk5
        go_wp2_with fail
        go_ret
        exact ⟨rfl, HF.out⟩
end Go.Proofs.YtmkhagmjpbfieaaGreatDoor
