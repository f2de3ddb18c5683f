/- The hub's laws: HubRoutes walked. (Printed by gen_hroutes.py.) -/
import Derived.Test.YthfdcphecggjeaaGreatDoorHRoutesK
import Derived.Test.YthfdcphecggjeaaGreatDoorQY
namespace Go.Proofs.YthfdcphecggjeaaGreatDoor
open Go Go.RowKit

def iM (m : Msg) : Item := ⟨0, 0, 0, ⟨#[]⟩, ⟨#[]⟩, pkZ, m, none, 0, [], none, 0, [], none, 0, [], 0, 0⟩
theorem built_iM (m : Msg) : Tryz.prog.built 36 [(6, .agg #[.string m.t, .string m.p, .int .u8 m.q, .bool m.r])] = some (iM m).cells.toArray := by
  obtain ⟨t, p, q, r⟩ := m
  kernel_rfl
theorem built_iR (m : Msg) : Tryz.prog.built 36 [(0, .int .u8 7), (1, .int .i64 9), (3, .string ⟨#[112]⟩), (6, .agg #[.string m.t, .string m.p, .int .u8 m.q, .bool m.r])] = some (iRoute 9 ⟨#[112]⟩ m 0).cells.toArray := by
  obtain ⟨t, p, q, r⟩ := m
  kernel_rfl
theorem build_items1G (x0 : Item) (ops : Array Oper) (rest : List Oper) (o : Oper) (a : Act) (w : World) (Q : Exit → Act → World → Prop) (hg : Region.wanted o (yielded ops a.tmps) = true) (A0 : Operand) (ho : o.op = .buildSlice 22 1 #[(0, A0)]) (h0 : a.eval A0 = .agg x0.cells.toArray)
    (d : Option Tmp) (hd : o.dst = d) (nb : Nat) (hnb : w.heap.size = nb) (h : wpList Tryz.prog ops Q rest (a.put d (.slice (some ⟨nb, 0, none⟩) 1 1)) (w.alloc (.cells (itemsV [x0]).toArray 36))) : wpList Tryz.prog ops Q (o :: rest) a w := by
  subst hd hnb
  refine wpList_ask hg fun K hK => ?_
  obtain ⟨i, hi, hz0, hz1, hz2⟩ := info_parts T_item.hi
  refine wp_buildSlice 22 36 1 _ ho (itemsV [x0]).toArray i _ Tryz.underlying22 hi hz0 (by rw [hz1]; decide) (by rw [hz1]; decide) ?_ (hK _ _ h)
  rw [hz1]
  simp only [List.map_toArray, List.map_cons, List.map_nil, h0]
  clear h0 h hK ho hi hz0 hz1 hz2
  obtain ⟨k0, o0, n0, c0, f0, ⟨a0, b0, d0, e0, g0, hh0, i0, j0, l0, m0, p0, q0, ⟨r0, s0, t0, u0⟩, v0, w0, x0, y0, z0, aa0, ab0, ac0, ad0, ae0⟩, ⟨af0, ag0, ah0, ai0⟩, aj0, ak0, al0, am0, an0, ao0, ap0, aq0, ar0, as0, at0⟩ := x0
  kernel_rfl
theorem wpList_buildGd {P : Program} {ops : Array Oper} {rest : List Oper} {o : Oper} {a : Act} {w : World} {Q : Exit → Act → World → Prop} (hw : Region.wanted o (yielded ops a.tmps) = true) (t : TypeId) (parts : Array (Nat × Operand)) (ho : o.op = .build t parts)
    (d : Option Tmp) (hd : o.dst = d) (cells : Array Value) (ps : List (Nat × Value)) (hps : (parts.map fun (i, x) => (i, a.eval x)).toList = ps) (hf : P.built t ps = some cells)
    (h : wpList P ops Q rest (a.put d (.agg cells)) w) : wpList P ops Q (o :: rest) a w := wpList_buildG hw t parts ho d hd cells ps hps hf h
theorem told_one {n : Nat} (h1 : 1 ≤ n) (h2 : n ≤ 64) (x : Item) (gs : List Hint) (t : ByteArray) : (∀ g ∈ gs, matchB g.1 t.data.toList = true → (toldM (sendM n x (toldG gs t.data.toList) 64)).count g.2 = 1) ∧
    ∀ c ∈ toldM (sendM n x (toldG gs t.data.toList) 64), smB c t gs = true ∧ (toldM (sendM n x (toldG gs t.data.toList) 64)).count c = 1 := by
  have hc := fun c => send_count h1 h2 x (toldG_nodup gs t.data.toList) c
  refine ⟨fun g hg hm => ?_, fun c hcm => ?_⟩
  · rw [hc, if_pos (mem_toldG.2 ⟨g, hg, hm, rfl⟩)]
  · have hpos := List.count_pos_iff.2 hcm
    rw [hc] at hpos ⊢
    by_cases hm : c ∈ toldG gs t.data.toList
    · rw [if_pos hm]
      obtain ⟨g, hg, h3, h4⟩ := mem_toldG.1 hm
      refine ⟨?_, rfl⟩
      unfold smB
      rw [List.any_eq_true]
      exact ⟨g, hg, by simp [h3, h4]⟩
    · rw [if_neg hm] at hpos; omega
theorem toldM_len (n : Nat) (x : Item) (cs : List Str) : (toldM (sendM n x cs 64)).length ≤ 64 * cs.length := by
  rw [send_told]
  have : ∀ k, ((List.range k).flatMap (at1 n cs)).length ≤ k * cs.length := fun k => by
    induction k with
    | zero => simp
    | succ k ih =>
      rw [List.range_succ, List.flatMap_append, List.length_append, List.flatMap_cons, List.flatMap_nil, List.append_nil, Nat.succ_mul]
      have := at1_len n cs k
      omega
  exact this 64
theorem told_take (l : List HMail) (i : Nat) (hi : i < l.length) : toldM (l.take (i + 1)) = toldM (l.take i) ++ l[i].clients := by
  rw [List.take_succ_eq_append_getElem hi]
  unfold toldM
  rw [List.flatMap_append]; simp
set_option maxRecDepth 100000 in
set_option maxHeartbeats 8000000 in
theorem hubRoutes_any (n : Int) (a : Option Addr) (c : Nat) (l : List Item) (m : Msg) (W : World) (hr : Row W a (itemsV l)) (hl : l.length ≤ maxLen) (hq : ∀ x ∈ l, 0 ≤ x.msg.q ∧ x.msg.q < 256) (hmq : 0 ≤ m.q ∧ m.q < 256) (hT : Tabs W) :
    Calls Tryz.prog 3 #[.int .i64 n, .slice a l.length c, .agg #[.string m.t, .string m.p, .int .u8 m.q, .bool m.r]] W fun e w' => e = .returned (.bool true) ∧ Below W.heap.size W w' := by
  have HT := Lib.hid hT
  have HR := Lib.hid hr
  have HG := Lib.hid (fun X (hb : Below W.heap.size W X) => great19 a c l X (hr.below hb (Nat.le_refl _)) hl)
  have HG1 := Lib.hid (fun X => great19 (some ⟨X.heap.size, 0, none⟩) 1 [iM m] (X.alloc (.cells (itemsV [iM m]).toArray 36)) (row_new X (itemsV [iM m]) 36) (by simp [maxLen]))
  have HAW := Lib.hid (fun X (hb : Below W.heap.size W X) => awake19 W X hb hT)
  have hl2 : (l.length : Int) ≤ 9223372036854775807 := by unfold maxLen at hl; omega
  have HBM := Lib.hid (fun (_ : Unit) => built_iM m)
  have HBG := Lib.hid (build_items1G (iM m))
  have hbm := low_alloc W (.cells #[.string m.t, .string m.p, .int .u8 m.q, .bool m.r] 24)
  have HM0 : Hid (∀ X, Below (W.alloc (.cells #[.string m.t, .string m.p, .int .u8 m.q, .bool m.r] 24)).heap.size (W.alloc (.cells #[.string m.t, .string m.p, .int .u8 m.q, .bool m.r] 24)) X → X.cell? ⟨W.heap.size, 0, none⟩ = some (.string m.t) ∧ X.cell? ⟨W.heap.size, 1, none⟩ = some (.string m.p) ∧ X.cell? ⟨W.heap.size, 2, none⟩ = some (.int .u8 m.q) ∧ X.cell? ⟨W.heap.size, 3, none⟩ = some (.bool m.r)) := Lib.hid (fun X hX => by
    have h := (hX.block W.heap.size (by simp)).trans (heap_alloc_new W (.cells #[.string m.t, .string m.p, .int .u8 m.q, .bool m.r] 24))
    exact ⟨cell_of_row X _ 0 _ _ _ h, cell_of_row X _ 1 _ _ _ h, cell_of_row X _ 2 _ _ _ h, cell_of_row X _ 3 _ _ _ h⟩)
  have HBB := Lib.hid hbm
  generalize hIM : (iM m).cells.toArray = IM at *
  rcases (show n < 1 ∨ (¬ n < 1 ∧ 64 < n) ∨ (1 ≤ n ∧ n ≤ 64) by omega) with hn | ⟨hn1, hn⟩ | ⟨hn1, hn⟩
  · have HNO := Lib.hid (hub_no n (.inl hn))
    clear hr hl hq hT hbm hmq
    go_enter Tryz.func3, Tryz.ntmps3
    go_upto_region 1 with fail
    generalize W.alloc (.cells #[.string m.t, .string m.p, .int .u8 m.q, .bool m.r] 24) = W1 at *
    obtain ⟨c0, c1, c2, c3⟩ := HM0.out W1 (Below.refl _ _)
    go_wp2_with fail
    refine (HNO.out _).mono ?_
    rintro e w1 ⟨rfl, rfl⟩
    go_wp2_with fail
    refine (HG.out _ HBB.out).mono ?_
    rintro e w1 ⟨he, rfl⟩
    rcases he with rfl | ⟨rfl, -⟩
    · clear HBM HBG HG1
      go_wp2_with fail
      refine (HAW.out _ HBB.out).mono ?_
      rintro e w9 ⟨rfl, hk⟩
      have HK := Lib.hid (bnext HBB.out (Nat.le_refl _) hk)
      clear hk
      go_wp2_with fail
      go_ret
      exact ⟨rfl, HK.out⟩
    · go_wp2_with (first
        | (refine wpList_buildGd (by kernel_rfl) 36 _ rfl _ rfl IM [(6, .agg #[.string m.t, .string m.p, .int .u8 m.q, .bool m.r])] (by kernel_rfl) (HBM.out ()) ?_)
        | (refine HBG.out _ _ _ _ _ _ (by kernel_rfl) _ rfl rfl _ rfl W1.heap.size rfl ?_)
        | fail)
      refine (HG1.out W1).mono ?_
      rintro e w2 ⟨he, rfl⟩
      have HB2 := Lib.hid (bnext HBB.out (Nat.le_refl _) (low_alloc W1 (.cells (itemsV [iM m]).toArray 36)))
      generalize W1.alloc (.cells (itemsV [iM m]).toArray 36) = W2 at *
      rcases he with rfl | ⟨rfl, -⟩
      · clear HBM HBG HG1
        go_wp2_with fail
        refine (HAW.out _ HB2.out).mono ?_
        rintro e w9 ⟨rfl, hk⟩
        have HK := Lib.hid (bnext HB2.out (Nat.le_refl _) hk)
        clear hk
        go_wp2_with fail
        go_ret
        exact ⟨rfl, HK.out⟩
      · clear HBM HBG HG1
        go_wp2_with fail
        refine (HAW.out _ HB2.out).mono ?_
        rintro e w9 ⟨rfl, hk⟩
        have HK := Lib.hid (bnext HB2.out (Nat.le_refl _) hk)
        clear hk
        go_wp2_with fail
        go_ret
        exact ⟨rfl, HK.out⟩
  · have HNO := Lib.hid (hub_no n (.inr hn))
    clear hr hl hq hT hbm hmq
    go_enter Tryz.func3, Tryz.ntmps3
    go_upto_region 1 with fail
    generalize W.alloc (.cells #[.string m.t, .string m.p, .int .u8 m.q, .bool m.r] 24) = W1 at *
    obtain ⟨c0, c1, c2, c3⟩ := HM0.out W1 (Below.refl _ _)
    go_wp2_with fail
    refine (HNO.out _).mono ?_
    rintro e w1 ⟨rfl, rfl⟩
    go_wp2_with fail
    refine (HG.out _ HBB.out).mono ?_
    rintro e w1 ⟨he, rfl⟩
    rcases he with rfl | ⟨rfl, -⟩
    · clear HBM HBG HG1
      go_wp2_with fail
      refine (HAW.out _ HBB.out).mono ?_
      rintro e w9 ⟨rfl, hk⟩
      have HK := Lib.hid (bnext HBB.out (Nat.le_refl _) hk)
      clear hk
      go_wp2_with fail
      go_ret
      exact ⟨rfl, HK.out⟩
    · go_wp2_with (first
        | (refine wpList_buildGd (by kernel_rfl) 36 _ rfl _ rfl IM [(6, .agg #[.string m.t, .string m.p, .int .u8 m.q, .bool m.r])] (by kernel_rfl) (HBM.out ()) ?_)
        | (refine HBG.out _ _ _ _ _ _ (by kernel_rfl) _ rfl rfl _ rfl W1.heap.size rfl ?_)
        | fail)
      refine (HG1.out W1).mono ?_
      rintro e w2 ⟨he, rfl⟩
      have HB2 := Lib.hid (bnext HBB.out (Nat.le_refl _) (low_alloc W1 (.cells (itemsV [iM m]).toArray 36)))
      generalize W1.alloc (.cells (itemsV [iM m]).toArray 36) = W2 at *
      rcases he with rfl | ⟨rfl, -⟩
      · clear HBM HBG HG1
        go_wp2_with fail
        refine (HAW.out _ HB2.out).mono ?_
        rintro e w9 ⟨rfl, hk⟩
        have HK := Lib.hid (bnext HB2.out (Nat.le_refl _) hk)
        clear hk
        go_wp2_with fail
        go_ret
        exact ⟨rfl, HK.out⟩
      · clear HBM HBG HG1
        go_wp2_with fail
        refine (HAW.out _ HB2.out).mono ?_
        rintro e w9 ⟨rfl, hk⟩
        have HK := Lib.hid (bnext HB2.out (Nat.le_refl _) hk)
        clear hk
        go_wp2_with fail
        go_ret
        exact ⟨rfl, HK.out⟩
  · obtain ⟨nn, rfl⟩ := Int.eq_ofNat_of_zero_le (show 0 ≤ n by omega)
    have h1 : 1 ≤ nn := by omega
    have h2 : nn ≤ 64 := by omega
    have g1 : ¬ (nn : Int) < 1 := by omega
    have g2 : ¬ (64 : Int) < nn := by omega
    have HN := Lib.hid (fun w (hb : Below W.heap.size W w) => hub_yes W nn h1 h2 w hb)
    have HSM := Lib.hid (fun (h : SmL l) => small_of h hq)
    clear hr hl hq hT hbm
    go_enter Tryz.func3, Tryz.ntmps3
    go_upto_region 1 with fail
    generalize W.alloc (.cells #[.string m.t, .string m.p, .int .u8 m.q, .bool m.r] 24) = W1 at *
    go_wp2_with fail
    refine (HN.out _ HBB.out).mono ?_
    rintro e w1 ⟨h, F, rfl, hp1, hu1⟩
    have HP := Lib.hid hp1
    have HK1 : Hid (Below W1.heap.size W1 w1) := Lib.hid (hu1.1.below (Nat.le_refl _) (by simp))
    obtain ⟨c0, c1, c2, c3⟩ := HM0.out w1 HK1.out
    have HF1 : Hid (∀ j ∈ F, W1.heap.size ≤ j) := Lib.hid (fun j hj => (hu1.2 j hj).resolve_left (by simp))
    clear hp1 hu1
    go_wp2_with fail
    refine (HG.out _ HP.out.bel).mono ?_
    rintro e w2 ⟨he, rfl⟩
    rcases he with rfl | ⟨rfl, hs⟩
    · clear HBM HBG HG1
      go_wp2_with fail
      refine (HAW.out _ HP.out.bel).mono ?_
      rintro e w9 ⟨rfl, hk⟩
      have HK := Lib.hid (bnext HP.out.bel (Nat.le_refl _) hk)
      clear hk
      go_wp2_with fail
      go_ret
      exact ⟨rfl, HK.out⟩
    go_wp2_with (first
      | (refine wpList_buildGd (by kernel_rfl) 36 _ rfl _ rfl IM [(6, .agg #[.string m.t, .string m.p, .int .u8 m.q, .bool m.r])] (by kernel_rfl) (HBM.out ()) ?_)
      | (refine HBG.out _ _ _ _ _ _ (by kernel_rfl) _ rfl rfl _ rfl w1.heap.size rfl ?_)
      | fail)
    refine (HG1.out w1).mono ?_
    rintro e w2 ⟨he, rfl⟩
    have HP2 := Lib.hid (HP.out.below (low_alloc w1 (.cells (itemsV [iM m]).toArray 36)))
    have HK2 := Lib.hid (bnext HK1.out (Nat.le_refl _) (low_alloc w1 (.cells (itemsV [iM m]).toArray 36)))
    generalize w1.alloc (.cells (itemsV [iM m]).toArray 36) = w2 at *
    clear c0 c1 c2 c3
    rcases he with rfl | ⟨rfl, hsm⟩
    · clear HBM HBG HG1
      go_wp2_with fail
      refine (HAW.out _ HP2.out.bel).mono ?_
      rintro e w9 ⟨rfl, hk⟩
      have HK := Lib.hid (bnext HP2.out.bel (Nat.le_refl _) hk)
      clear hk
      go_wp2_with fail
      go_ret
      exact ⟨rfl, HK.out⟩
    have hl60 : l.length ≤ 60 := hs.out.1
    obtain ⟨-, -, hmt, hmp⟩ := hsm.out.2 (iM m) (by simp)
    have HDO := Lib.hid (hdo_any W h nn 0 HubS.new _ [] F l a c w2 HP2.out HT.out (HSM.out hs.out) (by omega) h1 h2 (HP2.out.beside HR.out) [] (by simp))
    clear HBM HBG HG1 HP HK1 HG
    go_wp2_with fail
    refine HDO.out.mono ?_
    rintro e w3 ⟨v3, M3, F3, rfl, hp3, hu3, -⟩
    obtain ⟨hb3, hf3⟩ := lie_below HK2.out (Nat.le_refl _) HF1.out hu3
    have HP3 := Lib.hid hp3.nolog
    have HK3 := Lib.hid hb3
    have HF3 := Lib.hid hf3
    obtain ⟨_, _, _, -, htr, -⟩ := hp3.lensT
    have HGF : Hid (∀ g ∈ (doH nn l HubS.new).2.gs, g.1.length ≤ 300) := Lib.hid (fun g hg => (htr.filters g hg).2)
    have HGC : Hid (∀ g ∈ (doH nn l HubS.new).2.gs, g.2.length ≤ 300) := Lib.hid hp3.cl
    have hgl : (doH nn l HubS.new).2.gs.length ≤ 60 := by have := htr.len; omega
    clear hp3 hu3 hb3 hf3 htr HK2 HF1 HP2
    generalize (doH nn l HubS.new).2 = s at *
    go_wp2_with fail
    refine (hints_any W h nn (0 + l.length) s _ _ F3 w3 HP3.out (by omega)).mono ?_
    rintro e w4 ⟨v4, rfl, hown4, hk4⟩
    obtain ⟨ah, hc, rfl, -, -, hrh⟩ := Beside.own (F := F3) hown4 HP3.out.lt
    have HRH := Lib.hid hrh
    have HP4 := Lib.hid (HP3.out.below hk4)
    have HK4 := Lib.hid (bnext HK3.out (Nat.le_refl _) hk4)
    clear hown4 hk4 hrh HP3 HK3
    have HBR := Lib.hid (fun (_ : Unit) => built_iR m)
    have HBSR := Lib.hid (build_items1 (iRoute 9 ⟨#[112]⟩ m 0))
    have HDO2 := Lib.hid (hdo_any W h nn (0 + l.length) s (.pointer none) [] F3 [iRoute 9 ⟨#[112]⟩ m 0] (some ⟨w4.heap.size, 0, none⟩) 1 (w4.alloc (.cells (itemsV [iRoute 9 ⟨#[112]⟩ m 0]).toArray 36)) (HP4.out.below (low_alloc _ _)) HT.out
      (fun y hy => by
        rw [List.mem_singleton.1 hy]
        have e1 : (iM m).msg = m := rfl
        rw [e1] at hmt hmp
        exact ⟨by show (⟨#[112]⟩ : ByteArray).size ≤ 300; decide, by show (⟨#[]⟩ : ByteArray).size ≤ 300; decide, by show m.t.size ≤ 300; omega, by show m.p.size ≤ 300; omega, hmq.1, hmq.2⟩) (by simp; omega) h1 h2 (beside_new HP4.out.lt _ _) [] (by simp))
    have HRM := Lib.hid (show (doH nn [iRoute 9 ⟨#[112]⟩ m 0] s).1 = routeM nn (iRoute 9 ⟨#[112]⟩ m 0) s by
      rw [(doH_one nn _ s).1, one_route (by simp [fits, iRoute]; omega) s rfl])
    have hmt3 : m.t.size ≤ 300 := by have e1 : (iM m).msg = m := rfl; rw [e1] at hmt; omega
    obtain ⟨c0, c1, c2, c3⟩ := HM0.out w4 HK4.out
    generalize hri : (iRoute 9 ⟨#[112]⟩ m 0).cells.toArray = RI at *
    clear hri hIM hmt hmp
    go_wp2_with (first
      | (refine wpList_buildBy rfl 36 _ rfl _ rfl RI [(0, .int .u8 7), (1, .int .i64 9), (3, .string ⟨#[112]⟩), (6, .agg #[.string m.t, .string m.p, .int .u8 m.q, .bool m.r])] (by kernel_rfl) (HBR.out ()) ?_)
      | (refine HBSR.out _ _ _ _ _ _ rfl _ rfl rfl _ rfl w4.heap.size rfl ?_)
      | fail)
    refine HDO2.out.mono ?_
    rintro e w5 ⟨v5, M5, F5, rfl, hp5, hu5, ho5⟩
    rw [HRM.out] at ho5
    obtain ⟨hb5, hf5⟩ := lie_below (bnext HK4.out (Nat.le_refl _) (low_alloc w4 (.cells (itemsV [iRoute 9 ⟨#[112]⟩ m 0]).toArray 36))) (Nat.le_refl _) HF3.out hu5
    obtain ⟨a5, c5, rfl, hr5, -, -⟩ := ownsRow_row ho5.own
    have HK5 := Lib.hid hb5
    have HBEL := Lib.hid hp5.bel
    have HR5 := Lib.hid hr5
    obtain ⟨S, hS⟩ : ∃ S, sendM nn (iRoute 9 ⟨#[112]⟩ m 0) (toldG s.gs m.t.data.toList) 64 = S := ⟨_, rfl⟩
    have hms : routeM nn (iRoute 9 ⟨#[112]⟩ m 0) s = S ++ [backM (iRoute 9 ⟨#[112]⟩ m 0) 10 [] S.length] := by
      unfold routeM
      rw [show (iRoute 9 ⟨#[112]⟩ m 0).msg.k = m.t.data.toList from rfl, hS]
    rw [hms] at ho5
    have HMS := Lib.hid (ho5.ms.sub (G := []) (by simp))
    have hml := ho5.ms.len
    rw [List.length_append, List.length_singleton] at hml
    have HTO := told_one h1 h2 (iRoute 9 ⟨#[112]⟩ m 0) s.gs m.t
    rw [hS] at HTO
    replace HTO := Lib.hid HTO
    have hsl := sendM_len nn (iRoute 9 ⟨#[112]⟩ m 0) (toldG s.gs m.t.data.toList)
    rw [hS] at hsl
    have htl := toldM_len nn (iRoute 9 ⟨#[112]⟩ m 0) (toldG s.gs m.t.data.toList)
    rw [hS] at htl
    have hcsl : (toldG s.gs m.t.data.toList).length ≤ 60 := Nat.le_trans (toldG_len ..) hgl
    have HCL : Hid (∀ q x, x ∈ at1 nn (toldG s.gs m.t.data.toList) q → homeN nn x = q ∧ x.length ≤ 1000000) := Lib.hid (fun q x hx => by
      obtain ⟨e1, e2⟩ := at1_home hx
      obtain ⟨g, hg, -, rfl⟩ := mem_toldG.1 e2
      exact ⟨e1, Nat.le_trans (HGC.out g hg) (by decide)⟩)
    have htl2 : (toldM S).length ≤ 1000000 := by
      have := toldG_len s.gs m.t.data.toList
      have h3 : 64 * (toldG s.gs m.t.data.toList).length ≤ 64 * 60 := Nat.mul_le_mul_left _ (by omega)
      omega
    have HSE : Hid (∀ i (hi : i < S.length), ∃ q, S[i] = toM nn (iRoute 9 ⟨#[112]⟩ m 0) (toldG s.gs m.t.data.toList) q ∧ at1 nn (toldG s.gs m.t.data.toList) q ≠ []) := Lib.hid (fun i hi => by
      obtain ⟨q, -, hq1, hq2⟩ := send_mem (by rw [hS]; exact List.getElem_mem hi)
      exact ⟨q, hq2, hq1⟩)
    have hup := send_up nn (iRoute 9 ⟨#[112]⟩ m 0) (toldG s.gs m.t.data.toList) 64
    rw [hS] at hup
    have HUP := Lib.hid hup
    have HRHH : Hid (∀ X, Below w5.heap.size w5 X → Row X ah (hintsV s.gs)) := Lib.hid (fun X hX => ((HRH.out.below (low_alloc _ _)).upd hu5).row.below hX (Nat.le_refl _))
    rw [hml]
    clear hp5 hu5 ho5 hb5 hf5 hr5 hms hup hS htl HRH HDO2 HBR HBSR HP4 HRM HF3 c0 c1 c2 c3
    have hpos : (0 : Int) < ((S.length + 1 : Nat) : Int) := by omega
    have hw1 := wrap_pred2 S.length (by omega)
    have hw2 := wrap_pred S.length (by omega)
    obtain ⟨b, o, rfl, rL⟩ := row_mid (mk := Mail.cells) (m := 40) mail_len HR5.out (k := S.length) (by omega) (by decide)
    obtain ⟨_, _, _, _, eL, -, -⟩ := HMS.out.at (k := S.length) (by omega) (by simp)
    have hgl2 : (S ++ [backM (iRoute 9 ⟨#[112]⟩ m 0) 10 [] S.length])[S.length]'(by simp) = backM (iRoute 9 ⟨#[112]⟩ m 0) 10 [] S.length := by simp
    rw [hgl2] at eL
    generalize M5[S.length]'(by omega) = mL at rL eL
    have HRL := Lib.hid rL
    have hbw6 := low_alloc w5 (.cells mL.cells.toArray 43)
    have mc := mail_c (range_blk (heap_alloc_new w5 (.cells mL.cells.toArray 43)))
    have y0 := mc.dest
    have y2 := mc.kind
    have y3 := mc.op
    have y39 := mc.many
    have e0 : mL.dest = 0 := by rw [eL]; rfl
    have e2 : mL.it.kind = 10 := by rw [eL]; rfl
    have e3 : mL.it.op = 9 := by rw [eL]; rfl
    have e39 : mL.it.many = S.length := by rw [eL]; rfl
    rw [e0] at y0
    rw [e2] at y2
    rw [e3] at y3
    rw [e39] at y39
    simp only [Nat.zero_add] at y2 y3 y39
    have HLL : Hid ((Tryz.prog.info? 43).map (·.size) = some mL.cells.length) := Lib.hid ((mail_size mL).trans (congrArg some List.size_toArray))
    have HLS := Lib.hid (mail_size mL)
    have HL40 : Hid ((40 : Nat) = mL.cells.toArray.size) := Lib.hid rfl
    have HLO := Lib.hid (mail_one mL)
    have HB6 := Lib.hid hbw6
    clear e0 e2 e3 e39 mc hbw6 rL eL hgl2
    generalize mL.cells = XL at *
    go_wp2_with (first
      | (refine wpList_loadMid rfl 43 _ rfl b (o + S.length * 40) rfl XL _ HRL.out Tryz.underlying43 rfl HLL.out _ rfl ?_)
      | (refine wpList_store_newTo rfl 43 _ _ rfl rfl w5.heap.size rfl XL.toArray _ rfl rfl HLS.out HL40.out HLO.out ?_)
      | fail)
    have HMX : Hid (∀ X, Below w5.heap.size w5 X → X.cell? ⟨W.heap.size, 0, none⟩ = some (.string m.t) ∧ X.cell? ⟨W.heap.size, 1, none⟩ = some (.string m.p) ∧ X.cell? ⟨W.heap.size, 2, none⟩ = some (.int .u8 m.q) ∧ X.cell? ⟨W.heap.size, 3, none⟩ = some (.bool m.r)) := Lib.hid (fun X hX => HM0.out X (bnext HK5.out (Nat.le_refl _) hX))
    clear y0 y2 y3 y39 HLL HLS HL40 HLO HRL
    generalize w5.alloc (.cells XL.toArray 43) = w6 at *
    generalize hcs : toldG s.gs m.t.data.toList = cs at *
    go_loopw [11, 12] (fun v iv wr => ∃ i : Nat, iv = .int .i64 i ∧ i ≤ S.length ∧ Below w5.heap.size w5 wr ∧ wr.ownsRow w5.heap.size 9 1 v (toldM (S.take i)).length (strs (toldM (S.take i))) ∧ (toldM (S.take i)).length ≤ 60 * i) (fun _ iv _ => (S.length - intOf iv).toNat)
    case atStart => exact ⟨0, rfl, by omega, HB6.out, by simpa [toldM, strs] using World.ownsRow_nil _ _ _ _, by simp [toldM]⟩
    case round =>
      obtain ⟨i, rfl, hi, hbl, hown, htlen⟩ := hrel
      obtain ⟨va, vc, rfl, -, -, -⟩ := ownsRow_row hown
      have HBL := Lib.hid hbl
      have HOW := Lib.hid hown
      clear hbl hown
      by_cases hlt : i < S.length
      · have hi0 : (0 : Int) ≤ i := by omega
        have hil : (i : Int) < S.length := by omega
        have hil2 : (i : Int) < ((S.length + 1 : Nat) : Int) := by omega
        have hkM : i < M5.length := by omega
        obtain ⟨b', o', eb, r1⟩ := row_mid (mk := Mail.cells) (m := 40) mail_len (HR5.out.below HBL.out (Nat.le_refl _)) hkM (by decide)
        cases eb
        obtain ⟨ma, mc, ca, cc, e2, -, hbc⟩ := HMS.out.at hkM (by simp; omega)
        rw [List.getElem_append_left hlt] at e2 hbc
        obtain ⟨q, hq1, hq2⟩ := HSE.out i hlt
        have HTK := Lib.hid (told_take S i hlt)
        have HPV : Hid (∀ k, i = k + 1 → ∃ d' : Int, d' < (q : Int) ∧ ∀ X, Below wr.heap.size wr X → X.cell? ⟨b, o + k * 40, none⟩ = some (.int .i64 d')) := Lib.hid (fun k hk => by
          subst hk
          have hkM2 : k < M5.length := by omega
          obtain ⟨b', o', eb, r2⟩ := row_mid (mk := Mail.cells) (m := 40) mail_len (HR5.out.below HBL.out (Nat.le_refl _)) hkM2 (by decide)
          cases eb
          obtain ⟨_, _, _, _, e3, -, -⟩ := HMS.out.at hkM2 (by simp; omega)
          rw [List.getElem_append_left (by omega)] at e3
          have hlt2 := List.pairwise_iff_getElem.1 HUP.out k (k + 1) (by omega) hlt (by omega)
          rw [hq1] at hlt2
          refine ⟨_, hlt2, fun X hX => ?_⟩
          have := (mail_c (range_below19 r2 hX)).dest
          rw [e3] at this
          exact this)
        rw [hq1] at e2 hbc HTK
        have hcl1 : (toM nn (iRoute 9 ⟨#[112]⟩ m 0) cs q).clients = at1 nn cs q := rfl
        rw [hcl1] at hbc HTK
        have HRC := Lib.hid hbc.row
        have hclp : 0 < (at1 nn cs q).length := List.length_pos_iff.2 hq2
        have hcl6 : (at1 nn cs q).length ≤ 60 := Nat.le_trans (at1_len nn cs q) hcsl
        rw [e2] at r1
        have HIT := Lib.hid (mail_item r1)
        have HL1 := Lib.hid (fun X (hX : Below wr.heap.size wr X) => (mail_c (range_below19 r1 hX)).lane)
        have HD1 : Hid (∀ X, Below wr.heap.size wr X → X.cell? ⟨b, o + i * 40, none⟩ = some (.int .i64 q)) := Lib.hid (fun X hX => (mail_c (range_below19 r1 hX)).dest)
        have HXI : Hid ((wr.alloc (.cells (itemOf (toM nn (iRoute 9 ⟨#[112]⟩ m 0) cs q) ma mc ca cc).cells.toArray 36)).heap[wr.heap.size]? = some (.cells (itemOf (toM nn (iRoute 9 ⟨#[112]⟩ m 0) cs q) ma mc ca cc).cells.toArray 36 (0, 0))) := Lib.hid (heap_alloc_new _ _)
        obtain ⟨x0, -, x3, -, x29, x30, x31, x32, -⟩ := item_cells HXI.out
        have x34 : (wr.alloc (.cells (itemOf (toM nn (iRoute 9 ⟨#[112]⟩ m 0) cs q) ma mc ca cc).cells.toArray 36)).cell? ⟨wr.heap.size, 34, none⟩ = some (.slice ca (at1 nn cs q).length cc) := (cell_of_row _ _ 34 _ _ _ HXI.out).trans (by simp [itemOf, Item.cells, pkZ, Pkt.cells, Msg.cells, toM])
        have HIL : Hid ((Tryz.prog.info? 36).map (·.size) = some (itemOf (toM nn (iRoute 9 ⟨#[112]⟩ m 0) cs q) ma mc ca cc).cells.length) := Lib.hid ((item_size _).trans (congrArg some List.size_toArray))
        have HIS := Lib.hid (item_size (itemOf (toM nn (iRoute 9 ⟨#[112]⟩ m 0) cs q) ma mc ca cc))
        have HI38 : Hid ((38 : Nat) = (itemOf (toM nn (iRoute 9 ⟨#[112]⟩ m 0) cs q) ma mc ca cc).cells.toArray.size) := Lib.hid rfl
        have HIO := Lib.hid (item_one (itemOf (toM nn (iRoute 9 ⟨#[112]⟩ m 0) cs q) ma mc ca cc))
        have HBA := Lib.hid (low_alloc wr (.cells (itemOf (toM nn (iRoute 9 ⟨#[112]⟩ m 0) cs q) ma mc ca cc).cells.toArray 36))
        have HXX := Lib.hid (And.intro x0 (And.intro x3 (And.intro x29 (And.intro x30 (And.intro x31 (And.intro x32 x34))))))
        clear x0 x3 x29 x30 x31 x32 x34 r1 hbc e2 hq2 hkM HXI hcl1
        have hq1' := Lib.hid hq1
        clear hq1
        have HCLq : Hid (∀ x ∈ at1 nn cs q, homeN nn x = q ∧ x.length ≤ 1000000) := Lib.hid (fun x hx => HCL.out q x hx)
        generalize at1 nn cs q = cl at *
        generalize hXC : (itemOf (toM nn (iRoute 9 ⟨#[112]⟩ m 0) cs q) ma mc ca cc).cells = XC at *
        go_upto_region 17 with (first
          | (refine wpList_loadMid rfl 36 _ rfl b (o + i * 40 + 2) rfl XC _ HIT.out Tryz.underlying36 rfl HIL.out _ rfl ?_)
          | (refine wpList_store_newTo rfl 36 _ _ rfl rfl wr.heap.size rfl XC.toArray _ rfl rfl HIS.out HI38.out HIO.out ?_)
          | fail)
        obtain ⟨x0, x3, x29, x30, x31, x32, x34⟩ := HXX.out
        obtain ⟨m0, m1', m2', m3⟩ := HMX.out _ (bnext HBL.out (Nat.le_refl _) HBA.out)
        refine routes_r17 m W.heap.size wr.heap.size b o (S.length + 1) c5 i ca cl.length cc (wr.alloc (.cells XC.toArray 36)) (by omega) (by omega) hclp m0 m1' m2' m3 x0 x3 x29 x30 x31 x32 x34 (HL1.out _ HBA.out) q (HD1.out _ HBA.out) (fun k hk => by
          obtain ⟨d', hd', hc'⟩ := HPV.out k hk
          exact ⟨d', hd', hc' _ HBA.out⟩) ?_
        intro d101 d102 d103 d104 d105 d106 d107 d108 d109 d110 d111 d112 d113 d114 d115 d116 d117 d118 d119 d120 d121 d122 d123 d124 d125 d126 d127 d128 d129 d130 d131 d132 d133 d134 d135 d136 d137 d138 d139 d140 d141 d142 d143 d144 d145 nq
        dsimp only
        have hdn : Below (wr.alloc (.cells XC.toArray 36)).heap.size (wr.alloc (.cells XC.toArray 36)) ((wr.alloc (.cells XC.toArray 36)).drewN nq) := drewN_below _ nq
        have x34' := (hdn.cell (World.block_lt_of_cell? _ _ x34)).trans x34
        have HBN := Lib.hid (bnext HBA.out (Nat.le_refl _) hdn)
        clear m0 m1' m2' m3 x0 x3 x29 x30 x31 x32 x34 HXX hdn
        generalize (wr.alloc (.cells XC.toArray 36)).drewN nq = w7 at *
        go_upto_block 2 with fail
        refine routes_inner nn q wr.heap.size b o (S.length + 1) c5 i ca cc cl w7 h1 h2 (by omega) HCLq.out (by omega) x34' (HRC.out.below (bnext HBL.out (Nat.le_refl _) HBN.out) (Nat.le_refl _)) (HD1.out _ HBN.out) (fun _ _ _ _ h e => ⟨e ▸ h.1, h.2⟩) ?_
        intro d6 d14 d147 d148 d149 d150 d151 d152 d153 d154 d155 d156 d157 d158 d159 d160 d161 d162 d163 d164 d165 d166 w8 hk8
        dsimp only
        have x348 := (hk8.cell (World.block_lt_of_cell? _ _ x34')).trans x34'
        have HB8 := Lib.hid (bnext HBN.out (Nat.le_refl _) hk8)
        have HOW8 := Lib.hid (ownsRow_local (w' := w8) HOW.out fun j hj => HB8.out.block j (HOW.out.lt j hj).2)
        have HRC8 := Lib.hid (HRC.out.below (bnext HBL.out (Nat.le_refl _) HB8.out) (Nat.le_refl _))
        have hs8 : w5.heap.size ≤ w8.heap.size := (bnext HBL.out (Nat.le_refl _) HB8.out).size
        have HSL : Hid ((strs cl).length = cl.length * 1) := Lib.hid (by simp [strs])
        have HSO : Hid (∀ u ∈ strs cl, u.oneCell' = true) := Lib.hid (fun u hu => by
          obtain ⟨x, -, rfl⟩ := List.mem_map.1 hu
          rfl)
        clear x34' hk8
        go_wp2_with (first
          | (at_builtin; refine wpList_appR (m := cl.length) T_str HOW8.out HRC8.out rfl rfl rfl rfl _ rfl HSL.out hclp HSO.out (by omega) (by omega) hs8 ?_; intro ng cap w9 hown9 hg9 hb9 hl9; have H9 := Lib.hid (And.intro hown9 hg9); clear hown9 hg9 hb9 hl9)
          | fail)
        obtain ⟨hown9, hg9⟩ := H9.out
        have HB9 := Lib.hid ((bnext HBL.out (Nat.le_refl _) HB8.out).grown hg9 hs8 fun k hk => (HOW.out.lt k hk).1)
        have hlen9 : (toldM (S.take (i + 1))).length = (toldM (S.take i)).length + cl.length := by rw [HTK.out, List.length_append]
        have HO9 : Hid (w9.ownsRow w5.heap.size 9 1 (.slice (some ⟨ng, 0, none⟩) ((toldM (S.take i)).length + cl.length) cap) (toldM (S.take (i + 1))).length (strs (toldM (S.take (i + 1))))) := Lib.hid (by
          rw [hlen9, HTK.out, show strs (toldM (S.take i) ++ cl) = strs (toldM (S.take i)) ++ strs cl by simp [strs]]
          exact hown9)
        have htl9 : (toldM (S.take (i + 1))).length ≤ 60 * (i + 1) := by omega
        clear hown9 hg9
        go_roundw
        case rel => exact ⟨i + 1, by go_num, by omega, HB9.out, HO9.out, htl9⟩
        case measure => simp [intOf]; omega
      · have hil : ¬ (i : Int) < S.length := by omega
        obtain rfl : i = S.length := by omega
        rw [List.take_length] at HOW
        obtain ⟨_, _, e9, hr9, -, -⟩ := ownsRow_row HOW.out
        rw [List.take_length] at *
        cases e9
        have HR9 := Lib.hid hr9
        clear hr9
        obtain ⟨m0, -, -, -⟩ := HMX.out _ HBL.out
        have htl5 : (toldM S).length ≤ 60 * 64 := by omega
        go_upto_block 4 with fail
        refine routes_hints m.t W.heap.size s.gs ah va hc vc (toldM S) wr ((HT.out.below HBEL.out).below HBL.out) hmt3 (fun g hg => ⟨HGF.out g hg, HTO.out.1 g hg⟩) (by omega) (by omega) m0 (HRHH.out _ HBL.out) HR9.out (fun _ _ _ _ h e => ⟨e ▸ h.1, h.2⟩) ?_
        intro d6 d15 d171 d172 d173 d174 d175 d176 d177 d178 d179 d180 d181 d182 d183 d184 d185 d186 d187 d188 d189 d190 d191 d192 d193 d194 w8 hk8
        dsimp only
        have HB8 := Lib.hid (bnext HBL.out (Nat.le_refl _) hk8)
        have HR8 := Lib.hid (HR9.out.below hk8 (Nat.le_refl _))
        clear m0 hk8
        obtain ⟨m0, -, -, -⟩ := HMX.out _ HB8.out
        go_upto_block 6 with fail
        refine routes_told m.t W.heap.size s.gs ah va hc vc (toldM S) w8 ((HT.out.below HBEL.out).below HB8.out) hmt3 HGF.out (by omega) (by omega) HTO.out.2 m0 (HRHH.out _ HB8.out) HR8.out (fun _ _ _ _ h e => ⟨e ▸ h.1, h.2⟩) ?_
        intro d6 d16 d17 d18 d195 d196 d197 d198 d199 d200 d201 d202 d203 d204 d205 d206 d207 d208 d209 d210 d211 d212 d213 d214 d215 d216 d217 d218 d219 d220 d221 d222 d223 d224 d225 d226 d227 d228 d229 d230 d231 d232 d233 d234 d235 d236 d237 d238 d239 d240 w9 hk9
        dsimp only
        have HB9 := Lib.hid (bnext HBEL.out (Nat.le_refl _) (bnext HB8.out (Nat.le_refl _) hk9))
        clear m0 hk9
        go_wp2_with fail
        refine (HAW.out _ HB9.out).mono ?_
        rintro e w10 ⟨rfl, hk⟩
        have HK := Lib.hid (bnext HB9.out (Nat.le_refl _) hk)
        clear hk
        go_wp2_with fail
        go_ret
        exact ⟨rfl, HK.out⟩
end Go.Proofs.YthfdcphecggjeaaGreatDoor
