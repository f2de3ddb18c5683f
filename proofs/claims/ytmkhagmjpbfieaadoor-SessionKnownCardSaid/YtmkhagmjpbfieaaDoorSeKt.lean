/- SessionKnown walked. (Printed by gen_known.py.) -/
import Derived.Test.YtmkhagmjpbfieaaDoorSeKs
namespace Go.Proofs.YtmkhagmjpbfieaaDoor
open Go Go.RowKit

theorem zero_off {W w : World} {s lb tb cb : Nat} {win most : Int} {x : SS} {FL FO FC : List Nat} (h : SeP W w s lb tb cb win most x FL FO FC) (hB : Bru W) : 0 ∉ FO := fun hk => by
  have hw0 : 0 < W.heap.size := World.block_lt_of_cell? W _ (hB 0 (by decide))
  exact h.se.zero hw0 (mem_sFoot.2 (.inr (.inr (.inl hk))))
set_option maxRecDepth 100000 in
set_option maxHeartbeats 16000000 in
theorem known_any (W : World) (hT : Tabs W) (hB : Bru W) : Calls Tryd.prog 3 #[] W fun e w' => e = .returned (.bool true) ∧ Below W.heap.size W w' := by
  have HT := Lib.hid hT
  have HB := Lib.hid hB
  clear hT hB
  have HAW := Lib.hid (fun X (hX : Below W.heap.size W X) => awake_any X (HT.out.below hX))
  have HCfalse := Lib.hid (fun w => connect_any false w)
  have HCtrue := Lib.hid (fun w => connect_any true w)
  have HNIL := Lib.hid (fun w => begins_nil w)
  have HZER := Lib.hid (fun s w (h : ZAt w s 0) => begins_zero s w h)
  have HB1true := Lib.hid (fun w s F (h : Se W w s 2 2 kn0 F) => begins_any W s 2 2 kn0 F w h 1 (conK true) false [] none 0 (.inl rfl) (by simp) (kn_b1 true) (by simp))
  have HB1false := Lib.hid (fun w s F (h : Se W w s 2 2 kn0 F) => begins_any W s 2 2 kn0 F w h 1 (conK false) false [] none 0 (.inl rfl) (by simp) (kn_b1 false) (by simp))
  have HB2truetrue := Lib.hid (fun w s F (h : Se W w s 2 2 (kn8 true) F) a k (ha : Row w a (namesV [[97], [98, 47, 35]])) hx => begins_any W s 2 2 (kn8 true) F w h 2 (conK true) false [[97], [98, 47, 35]] a k ha (by simp) (kn_b9 true true rfl) hx)
  have HB2truefalse := Lib.hid (fun w s F (h : Se W w s 2 2 (kn8 true) F) a k (ha : Row w a (namesV [[97], [98, 47, 35]])) hx => begins_any W s 2 2 (kn8 true) F w h 2 (conK false) false [[97], [98, 47, 35]] a k ha (by simp) (kn_b9 true false rfl) hx)
  have HB2falsetrue := Lib.hid (fun w s F (h : Se W w s 2 2 (kn8 false) F) a k (ha : Row w a (namesV [[97], [98, 47, 35]])) hx => begins_any W s 2 2 (kn8 false) F w h 2 (conK true) false [[97], [98, 47, 35]] a k ha (by simp) (kn_b9 false true rfl) hx)
  have HB2falsefalse := Lib.hid (fun w s F (h : Se W w s 2 2 (kn8 false) F) => begins_any W s 2 2 (kn8 false) F w h 2 (conK false) true [] none 0 (.inl rfl) (by simp) kn_b9' (by simp))
  generalize (conK false).cells = CL at *
  generalize (conK true).cells = TL at *
  go_enter Tryd.func3, Tryd.ntmps3
  go_wp2_with fail
  go_loopw [1] (fun i wr => (i = .int .i64 0 ∨ i = .int .i64 1 ∨ i = .int .i64 2 ∨ i = .int .i64 3 ∨ i = .int .i64 4) ∧ Below W.heap.size W wr) (fun i _ => (4 - intOf i).toNat)
  case atStart => exact ⟨.inl rfl, Below.refl _ _⟩
  case round =>
    obtain ⟨hi, hb⟩ := hrel
    have HBK := Lib.hid hb
    clear hb
    rcases hi with rfl | rfl | rfl | rfl | rfl
    · as_aux_lemma =>
        go_wp2_with fail
        refine (config_any 2 2 _).mono ?_
        rintro e w1 ⟨rfl, hk1⟩
        have HK1 := Lib.hid (bnext HBK.out (Nat.le_refl _) hk1)
        clear hk1
        go_wp2_with fail
        refine (sesnew_any ⟨#[]⟩ 1 1 64 2 2 w1 (by omega) (by omega)).mono ?_
        rintro e w2 ⟨s, F, rfl, hr, hu⟩
        have hS : Se W w2 s 2 2 kn0 F := Se.new HK1.out hr hu
        have HS := Lib.hid hS
        clear hr hu hS
        go_wp2_with fail
        refine (HCfalse.out w2).mono ?_
        rintro e w3 ⟨rfl, hk3⟩
        have HS3 := Lib.hid (HS.out.below hk3)
        clear hk3
        go_wp2_with fail
        refine (HB1false.out _ _ _ HS3.out).mono ?_
        rintro e w4 ⟨rfl, F4, hS4, -⟩
        obtain ⟨lb, tb, cb, FL, FO, FC, hq4, rfl⟩ := (show Se W w4 s 2 2 (kn1 false) F4 from hS4).parts
        obtain ⟨-, -, -, -, -, -, -, -, k8, -⟩ := hq4.p.cells
        have HQ4 := Lib.hid hq4
        clear hS4 hq4
        go_wp2_with fail
        refine (sset_any lb (kn1 false).l FL [98, 47, 35] 2 w4 HQ4.out.p.subs (HT.out.below HQ4.out.se.bel) (by decide) (by decide) (by decide)).mono ?_
        rintro e w5 ⟨rfl, FL5, hl5, hul⟩
        obtain ⟨hq5, -⟩ := HQ4.out.setL hl5 hul
        rw [kn_s2 false]
        clear k8
        obtain ⟨-, -, -, -, -, -, -, -, k8, -⟩ := hq5.p.cells
        have HQ5 : Hid (SeP W w5 s lb tb cb 2 2 (kn2 false) FL5 FO FC) := Lib.hid hq5
        clear hl5 hul hq5
        go_wp2_with fail
        refine (sset_any lb (kn2 false).l FL5 [97] 0 w5 HQ5.out.p.subs (HT.out.below HQ5.out.se.bel) (by decide) (by decide) (by decide)).mono ?_
        rintro e w6 ⟨rfl, FL6, hl6, hul⟩
        obtain ⟨hq6, -⟩ := HQ5.out.setL hl6 hul
        rw [kn_s3 false]
        clear k8
        obtain ⟨-, -, -, -, -, -, -, -, -, k9, -⟩ := hq6.p.cells
        have HQ6 : Hid (SeP W w6 s lb tb cb 2 2 (kn3 false) FL6 FO FC) := Lib.hid hq6
        clear hl6 hul hq6
        go_wp2_with fail
        refine (oput_any tb 2 2 (kn3 false).o FO msgB w6 HQ6.out.p.out (HT.out.below HQ6.out.se.bel) (by decide) (by decide)).mono ?_
        rintro e w7 ⟨rfl, FO7, ho7, huo⟩
        obtain ⟨hq7, -⟩ := HQ6.out.setO ho7 huo
        rw [kn_p4 false]
        clear k9
        obtain ⟨-, -, -, -, -, -, -, -, -, k9, -⟩ := hq7.p.cells
        have HQ7 : Hid (SeP W w7 s lb tb cb 2 2 (kn4 false) FL6 FO7 FC) := Lib.hid hq7
        clear ho7 huo hq7
        go_wp2_with fail
        refine (pump_any tb 2 2 (kn4 false).o FO7 w7 HQ7.out.p.out (HB.out.below HQ7.out.se.bel) (zero_off HQ7.out HB.out)).mono ?_
        rintro e w8 ⟨v, FO8, rfl, how, ho8, huo, -⟩
        obtain ⟨hq8, -⟩ := HQ7.out.setO ho8 huo
        rw [kn_u5 false] at how
        obtain ⟨va, vc, rfl, -, -, -⟩ := ownsRow_row how
        clear k9
        obtain ⟨-, -, -, -, -, -, -, -, -, k9, -⟩ := hq8.p.cells
        have HQ8 : Hid (SeP W w8 s lb tb cb 2 2 (kn5 false) FL6 FO8 FC) := Lib.hid hq8
        clear ho8 huo hq8 how
        go_wp2_with fail
        refine (oput_any tb 2 2 (kn5 false).o FO8 msgZ w8 HQ8.out.p.out (HT.out.below HQ8.out.se.bel) (by decide) (by decide)).mono ?_
        rintro e w9 ⟨rfl, FO9, ho9, huo⟩
        obtain ⟨hq9, -⟩ := HQ8.out.setO ho9 huo
        rw [kn_p6 false]
        clear k9
        obtain ⟨-, -, -, -, -, -, -, -, -, -, k10⟩ := hq9.p.cells
        have HQ9 : Hid (SeP W w9 s lb tb cb 2 2 (kn6 false) FL6 FO9 FC) := Lib.hid hq9
        clear ho9 huo hq9
        go_wp2_with fail
        refine (cfirst_u cb 9 (kn6 false).came FC w9 HQ9.out.p.came (by omega) (by omega)).mono ?_
        rintro e w10 ⟨rfl, hc10, huc⟩
        obtain ⟨hq10, -⟩ := HQ9.out.setC hc10 huc
        rw [kn_f7 false]
        clear k10
        have HQ10 : Hid (SeP W w10 s lb tb cb 2 2 (kn7 false) FL6 FO9 FC) := Lib.hid hq10
        clear hc10 huc hq10
        go_wp2_with fail
        refine (leave_any s (kn7 false) 2 2 _ w10 HQ10.out.se.rep).mono ?_
        rintro e w11 ⟨rfl, hr11, hu11⟩
        have hS11 : Se W w11 s 2 2 (kn8 false) (sFoot s FL6 FO9 FC) := HQ10.out.se.upd hr11 hu11
        obtain ⟨lb, tb, cb, FL, FO, FC, hq11, -⟩ := hS11.parts
        obtain ⟨-, -, -, -, -, -, -, -, k8, -⟩ := hq11.p.cells
        have HQ11 := Lib.hid hq11
        clear hr11 hu11 hS11 hq11
        go_wp2_with fail
        refine (subs_any lb (kn8 false).l FL w11 HQ11.out.p.subs).mono ?_
        rintro e w12 ⟨v, rfl, ho, hk⟩
        rw [kn_l8 false] at ho
        obtain ⟨sa, sc, rfl, -, -, -⟩ := ownsRow_row ho
        have hq := HQ11.out.below hk
        clear k8
        obtain ⟨-, -, -, -, -, -, -, -, -, k9, -⟩ := hq.p.cells
        have HQ12 := Lib.hid hq
        clear ho hk hq
        go_wp2_with fail
        refine (flight_any tb 2 2 (kn8 false).o FO w12 HQ12.out.p.out).mono ?_
        rintro e w13 ⟨rfl, rfl⟩
        rw [kn_r8 false]
        go_wp2_with fail
        refine (waits_any tb 2 2 (kn8 false).o FO w12 HQ12.out.p.out).mono ?_
        rintro e w14 ⟨rfl, hk⟩
        rw [kn_w8 false]
        have hq := HQ12.out.below hk
        clear k9
        obtain ⟨-, -, -, -, -, -, -, -, -, -, k10⟩ := hq.p.cells
        have HQ14 := Lib.hid hq
        clear hk hq
        go_wp2_with fail
        refine (cknows_any true cb 9 (kn8 false).came FC w14 HQ14.out.p.came (by omega) (by omega) (kn_c8 false)).mono ?_
        rintro e w15 ⟨rfl, hk⟩
        have hq := HQ14.out.below hk
        clear k10
        obtain ⟨-, k1, k2, -, -, -, -, -, -, k9, -⟩ := hq.p.cells
        have HQ15 := Lib.hid hq
        clear hk hq
        replace k2 : w15.cell? ⟨s, 2, none⟩ = some (.bool false) := k2
        clear k1 k9
        go_wp2_with fail
        refine (HCfalse.out _).mono ?_
        rintro e w16 ⟨rfl, hk⟩
        have HS16 := Lib.hid (HQ15.out.below hk).se
        clear hk k2
        go_wp2_with fail
        refine (HB2falsefalse.out _ _ _ HS16.out).mono ?_
        rintro e w17 ⟨rfl, F17, hS17, -⟩
        obtain ⟨lb, tb, cb, FL, FO, FC, hq17, rfl⟩ := (show Se W w17 s 2 2 (kn9 false false) F17 from hS17).parts
        obtain ⟨-, -, -, -, -, -, -, -, k8, -⟩ := hq17.p.cells
        have HQ17 := Lib.hid hq17
        clear hS17 hq17
        go_wp2_with fail
        refine (subs_any lb (kn9 false false).l FL w17 HQ17.out.p.subs).mono ?_
        rintro e w18 ⟨v, rfl, ho, hk⟩
        rw [kn_l9 false false] at ho
        obtain ⟨sa, sc, rfl, -, -, -⟩ := ownsRow_row ho
        have hq := HQ17.out.below hk
        clear k8
        obtain ⟨-, -, -, -, -, -, -, -, -, k9, -⟩ := hq.p.cells
        have HQ18 := Lib.hid hq
        clear ho hk hq
        go_wp2_with fail
        refine (flight_any tb 2 2 (kn9 false false).o FO w18 HQ18.out.p.out).mono ?_
        rintro e w19 ⟨rfl, rfl⟩
        rw [kn_r9 false false]
        go_wp2_with fail
        refine (waits_any tb 2 2 (kn9 false false).o FO w18 HQ18.out.p.out).mono ?_
        rintro e w20 ⟨rfl, hk⟩
        rw [kn_w9 false false]
        have hq := HQ18.out.below hk
        clear k9
        obtain ⟨-, -, -, -, -, -, -, -, -, -, k10⟩ := hq.p.cells
        have HQ20 := Lib.hid hq
        clear hk hq
        go_wp2_with fail
        refine (cknows_any true cb 9 (kn9 false false).came FC w20 HQ20.out.p.came (by omega) (by omega) (kn_c9 false false)).mono ?_
        rintro e w21 ⟨rfl, hk⟩
        have hq := HQ20.out.below hk
        clear k10
        obtain ⟨-, k1, k2, -, -, -, -, -, -, k9, -⟩ := hq.p.cells
        have HQ21 := Lib.hid hq
        clear hk hq
        clear k1 k2
        go_wp2_with fail
        refine (resume_any tb 2 2 (kn9 false false).o FO w21 HQ21.out.p.out).mono ?_
        rintro e w22 ⟨v, rfl, ho, hk⟩
        rw [kn_u9 false false] at ho
        obtain ⟨ra, rc, rfl, -, -, -⟩ := ownsRow_row ho
        have hq := HQ21.out.below hk
        clear k9
        obtain ⟨-, k1, k2, -⟩ := hq.p.cells
        replace k1 : w22.cell? ⟨s, 1, none⟩ = some (.int .i64 2) := k1
        replace k2 : w22.cell? ⟨s, 2, none⟩ = some (.bool false) := k2
        have HF := Lib.hid hq.se.bel
        clear ho hk hq
        go_wp2_with fail
        go_roundw
        case rel => exact ⟨.inr (.inl rfl), HF.out⟩
        case measure => decide
    · as_aux_lemma =>
        go_wp2_with fail
        refine (config_any 2 2 _).mono ?_
        rintro e w1 ⟨rfl, hk1⟩
        have HK1 := Lib.hid (bnext HBK.out (Nat.le_refl _) hk1)
        clear hk1
        go_wp2_with fail
        refine (sesnew_any ⟨#[]⟩ 1 1 64 2 2 w1 (by omega) (by omega)).mono ?_
        rintro e w2 ⟨s, F, rfl, hr, hu⟩
        have hS : Se W w2 s 2 2 kn0 F := Se.new HK1.out hr hu
        have HS := Lib.hid hS
        clear hr hu hS
        go_wp2_with fail
        refine (HCtrue.out w2).mono ?_
        rintro e w3 ⟨rfl, hk3⟩
        have HS3 := Lib.hid (HS.out.below hk3)
        clear hk3
        go_wp2_with fail
        refine (HB1true.out _ _ _ HS3.out).mono ?_
        rintro e w4 ⟨rfl, F4, hS4, -⟩
        obtain ⟨lb, tb, cb, FL, FO, FC, hq4, rfl⟩ := (show Se W w4 s 2 2 (kn1 true) F4 from hS4).parts
        obtain ⟨-, -, -, -, -, -, -, -, k8, -⟩ := hq4.p.cells
        have HQ4 := Lib.hid hq4
        clear hS4 hq4
        go_wp2_with fail
        refine (sset_any lb (kn1 true).l FL [98, 47, 35] 2 w4 HQ4.out.p.subs (HT.out.below HQ4.out.se.bel) (by decide) (by decide) (by decide)).mono ?_
        rintro e w5 ⟨rfl, FL5, hl5, hul⟩
        obtain ⟨hq5, -⟩ := HQ4.out.setL hl5 hul
        rw [kn_s2 true]
        clear k8
        obtain ⟨-, -, -, -, -, -, -, -, k8, -⟩ := hq5.p.cells
        have HQ5 : Hid (SeP W w5 s lb tb cb 2 2 (kn2 true) FL5 FO FC) := Lib.hid hq5
        clear hl5 hul hq5
        go_wp2_with fail
        refine (sset_any lb (kn2 true).l FL5 [97] 0 w5 HQ5.out.p.subs (HT.out.below HQ5.out.se.bel) (by decide) (by decide) (by decide)).mono ?_
        rintro e w6 ⟨rfl, FL6, hl6, hul⟩
        obtain ⟨hq6, -⟩ := HQ5.out.setL hl6 hul
        rw [kn_s3 true]
        clear k8
        obtain ⟨-, -, -, -, -, -, -, -, -, k9, -⟩ := hq6.p.cells
        have HQ6 : Hid (SeP W w6 s lb tb cb 2 2 (kn3 true) FL6 FO FC) := Lib.hid hq6
        clear hl6 hul hq6
        go_wp2_with fail
        refine (oput_any tb 2 2 (kn3 true).o FO msgB w6 HQ6.out.p.out (HT.out.below HQ6.out.se.bel) (by decide) (by decide)).mono ?_
        rintro e w7 ⟨rfl, FO7, ho7, huo⟩
        obtain ⟨hq7, -⟩ := HQ6.out.setO ho7 huo
        rw [kn_p4 true]
        clear k9
        obtain ⟨-, -, -, -, -, -, -, -, -, k9, -⟩ := hq7.p.cells
        have HQ7 : Hid (SeP W w7 s lb tb cb 2 2 (kn4 true) FL6 FO7 FC) := Lib.hid hq7
        clear ho7 huo hq7
        go_wp2_with fail
        refine (pump_any tb 2 2 (kn4 true).o FO7 w7 HQ7.out.p.out (HB.out.below HQ7.out.se.bel) (zero_off HQ7.out HB.out)).mono ?_
        rintro e w8 ⟨v, FO8, rfl, how, ho8, huo, -⟩
        obtain ⟨hq8, -⟩ := HQ7.out.setO ho8 huo
        rw [kn_u5 true] at how
        obtain ⟨va, vc, rfl, -, -, -⟩ := ownsRow_row how
        clear k9
        obtain ⟨-, -, -, -, -, -, -, -, -, k9, -⟩ := hq8.p.cells
        have HQ8 : Hid (SeP W w8 s lb tb cb 2 2 (kn5 true) FL6 FO8 FC) := Lib.hid hq8
        clear ho8 huo hq8 how
        go_wp2_with fail
        refine (oput_any tb 2 2 (kn5 true).o FO8 msgZ w8 HQ8.out.p.out (HT.out.below HQ8.out.se.bel) (by decide) (by decide)).mono ?_
        rintro e w9 ⟨rfl, FO9, ho9, huo⟩
        obtain ⟨hq9, -⟩ := HQ8.out.setO ho9 huo
        rw [kn_p6 true]
        clear k9
        obtain ⟨-, -, -, -, -, -, -, -, -, -, k10⟩ := hq9.p.cells
        have HQ9 : Hid (SeP W w9 s lb tb cb 2 2 (kn6 true) FL6 FO9 FC) := Lib.hid hq9
        clear ho9 huo hq9
        go_wp2_with fail
        refine (cfirst_u cb 9 (kn6 true).came FC w9 HQ9.out.p.came (by omega) (by omega)).mono ?_
        rintro e w10 ⟨rfl, hc10, huc⟩
        obtain ⟨hq10, -⟩ := HQ9.out.setC hc10 huc
        rw [kn_f7 true]
        clear k10
        have HQ10 : Hid (SeP W w10 s lb tb cb 2 2 (kn7 true) FL6 FO9 FC) := Lib.hid hq10
        clear hc10 huc hq10
        go_wp2_with fail
        refine (leave_any s (kn7 true) 2 2 _ w10 HQ10.out.se.rep).mono ?_
        rintro e w11 ⟨rfl, hr11, hu11⟩
        have hS11 : Se W w11 s 2 2 (kn8 true) (sFoot s FL6 FO9 FC) := HQ10.out.se.upd hr11 hu11
        obtain ⟨lb, tb, cb, FL, FO, FC, hq11, -⟩ := hS11.parts
        obtain ⟨-, -, -, -, -, -, -, -, k8, -⟩ := hq11.p.cells
        have HQ11 := Lib.hid hq11
        clear hr11 hu11 hS11 hq11
        go_wp2_with fail
        refine (subs_any lb (kn8 true).l FL w11 HQ11.out.p.subs).mono ?_
        rintro e w12 ⟨v, rfl, ho, hk⟩
        rw [kn_l8 true] at ho
        obtain ⟨sa, sc, rfl, -, -, -⟩ := ownsRow_row ho
        have hq := HQ11.out.below hk
        clear k8
        obtain ⟨-, -, -, -, -, -, -, -, -, k9, -⟩ := hq.p.cells
        have HQ12 := Lib.hid hq
        clear ho hk hq
        go_wp2_with fail
        refine (flight_any tb 2 2 (kn8 true).o FO w12 HQ12.out.p.out).mono ?_
        rintro e w13 ⟨rfl, rfl⟩
        rw [kn_r8 true]
        go_wp2_with fail
        refine (waits_any tb 2 2 (kn8 true).o FO w12 HQ12.out.p.out).mono ?_
        rintro e w14 ⟨rfl, hk⟩
        rw [kn_w8 true]
        have hq := HQ12.out.below hk
        clear k9
        obtain ⟨-, -, -, -, -, -, -, -, -, -, k10⟩ := hq.p.cells
        have HQ14 := Lib.hid hq
        clear hk hq
        go_wp2_with fail
        refine (cknows_any true cb 9 (kn8 true).came FC w14 HQ14.out.p.came (by omega) (by omega) (kn_c8 true)).mono ?_
        rintro e w15 ⟨rfl, hk⟩
        have hq := HQ14.out.below hk
        clear k10
        obtain ⟨-, k1, k2, -, -, -, -, -, -, k9, -⟩ := hq.p.cells
        have HQ15 := Lib.hid hq
        clear hk hq
        replace k2 : w15.cell? ⟨s, 2, none⟩ = some (.bool true) := k2
        clear k1 k9
        go_wp2_with fail
        refine (HCfalse.out _).mono ?_
        rintro e w16 ⟨rfl, hk⟩
        have HS16 := Lib.hid (HQ15.out.below hk).se
        clear hk k2
        go_wp2_with fail
        have hn16 : w16.heap.size ∉ sFoot s FL FO FC := fun hk => by have := HS16.out.rep.lt _ hk; omega
        refine (HB2truefalse.out _ _ _ (HS16.out.below (low_alloc w16 _)) (some ⟨w16.heap.size, 0, none⟩) 2 (row_new w16 [.string ⟨#[97]⟩, .string ⟨#[98, 47, 35]⟩] 9) (fun b o e _ => by cases e; exact hn16)).mono ?_
        rintro e w17 ⟨rfl, F17, hS17, -⟩
        obtain ⟨lb, tb, cb, FL, FO, FC, hq17, rfl⟩ := (show Se W w17 s 2 2 (kn9 true false) F17 from hS17).parts
        obtain ⟨-, -, -, -, -, -, -, -, k8, -⟩ := hq17.p.cells
        have HQ17 := Lib.hid hq17
        clear hS17 hq17
        go_wp2_with fail
        refine (subs_any lb (kn9 true false).l FL w17 HQ17.out.p.subs).mono ?_
        rintro e w18 ⟨v, rfl, ho, hk⟩
        rw [kn_l9 true false] at ho
        obtain ⟨sa, sc, rfl, -, -, -⟩ := ownsRow_row ho
        have hq := HQ17.out.below hk
        clear k8
        obtain ⟨-, -, -, -, -, -, -, -, -, k9, -⟩ := hq.p.cells
        have HQ18 := Lib.hid hq
        clear ho hk hq
        go_wp2_with fail
        refine (flight_any tb 2 2 (kn9 true false).o FO w18 HQ18.out.p.out).mono ?_
        rintro e w19 ⟨rfl, rfl⟩
        rw [kn_r9 true false]
        go_wp2_with fail
        refine (waits_any tb 2 2 (kn9 true false).o FO w18 HQ18.out.p.out).mono ?_
        rintro e w20 ⟨rfl, hk⟩
        rw [kn_w9 true false]
        have hq := HQ18.out.below hk
        clear k9
        obtain ⟨-, -, -, -, -, -, -, -, -, -, k10⟩ := hq.p.cells
        have HQ20 := Lib.hid hq
        clear hk hq
        go_wp2_with fail
        refine (cknows_any false cb 9 (kn9 true false).came FC w20 HQ20.out.p.came (by omega) (by omega) (kn_c9 true false)).mono ?_
        rintro e w21 ⟨rfl, hk⟩
        have hq := HQ20.out.below hk
        clear k10
        obtain ⟨-, k1, k2, -, -, -, -, -, -, k9, -⟩ := hq.p.cells
        have HQ21 := Lib.hid hq
        clear hk hq
        clear k1 k2
        go_wp2_with fail
        refine (resume_any tb 2 2 (kn9 true false).o FO w21 HQ21.out.p.out).mono ?_
        rintro e w22 ⟨v, rfl, ho, hk⟩
        rw [kn_u9 true false] at ho
        obtain ⟨ra, rc, rfl, -, -, -⟩ := ownsRow_row ho
        have hq := HQ21.out.below hk
        clear k9
        obtain ⟨-, k1, k2, -⟩ := hq.p.cells
        replace k1 : w22.cell? ⟨s, 1, none⟩ = some (.int .i64 2) := k1
        replace k2 : w22.cell? ⟨s, 2, none⟩ = some (.bool false) := k2
        have HF := Lib.hid hq.se.bel
        clear ho hk hq
        go_wp2_with fail
        go_roundw
        case rel => exact ⟨.inr (.inr (.inl rfl)), HF.out⟩
        case measure => decide
    · as_aux_lemma =>
        go_wp2_with fail
        refine (config_any 2 2 _).mono ?_
        rintro e w1 ⟨rfl, hk1⟩
        have HK1 := Lib.hid (bnext HBK.out (Nat.le_refl _) hk1)
        clear hk1
        go_wp2_with fail
        refine (sesnew_any ⟨#[]⟩ 1 1 64 2 2 w1 (by omega) (by omega)).mono ?_
        rintro e w2 ⟨s, F, rfl, hr, hu⟩
        have hS : Se W w2 s 2 2 kn0 F := Se.new HK1.out hr hu
        have HS := Lib.hid hS
        clear hr hu hS
        go_wp2_with fail
        refine (HCfalse.out w2).mono ?_
        rintro e w3 ⟨rfl, hk3⟩
        have HS3 := Lib.hid (HS.out.below hk3)
        clear hk3
        go_wp2_with fail
        refine (HB1false.out _ _ _ HS3.out).mono ?_
        rintro e w4 ⟨rfl, F4, hS4, -⟩
        obtain ⟨lb, tb, cb, FL, FO, FC, hq4, rfl⟩ := (show Se W w4 s 2 2 (kn1 false) F4 from hS4).parts
        obtain ⟨-, -, -, -, -, -, -, -, k8, -⟩ := hq4.p.cells
        have HQ4 := Lib.hid hq4
        clear hS4 hq4
        go_wp2_with fail
        refine (sset_any lb (kn1 false).l FL [98, 47, 35] 2 w4 HQ4.out.p.subs (HT.out.below HQ4.out.se.bel) (by decide) (by decide) (by decide)).mono ?_
        rintro e w5 ⟨rfl, FL5, hl5, hul⟩
        obtain ⟨hq5, -⟩ := HQ4.out.setL hl5 hul
        rw [kn_s2 false]
        clear k8
        obtain ⟨-, -, -, -, -, -, -, -, k8, -⟩ := hq5.p.cells
        have HQ5 : Hid (SeP W w5 s lb tb cb 2 2 (kn2 false) FL5 FO FC) := Lib.hid hq5
        clear hl5 hul hq5
        go_wp2_with fail
        refine (sset_any lb (kn2 false).l FL5 [97] 0 w5 HQ5.out.p.subs (HT.out.below HQ5.out.se.bel) (by decide) (by decide) (by decide)).mono ?_
        rintro e w6 ⟨rfl, FL6, hl6, hul⟩
        obtain ⟨hq6, -⟩ := HQ5.out.setL hl6 hul
        rw [kn_s3 false]
        clear k8
        obtain ⟨-, -, -, -, -, -, -, -, -, k9, -⟩ := hq6.p.cells
        have HQ6 : Hid (SeP W w6 s lb tb cb 2 2 (kn3 false) FL6 FO FC) := Lib.hid hq6
        clear hl6 hul hq6
        go_wp2_with fail
        refine (oput_any tb 2 2 (kn3 false).o FO msgB w6 HQ6.out.p.out (HT.out.below HQ6.out.se.bel) (by decide) (by decide)).mono ?_
        rintro e w7 ⟨rfl, FO7, ho7, huo⟩
        obtain ⟨hq7, -⟩ := HQ6.out.setO ho7 huo
        rw [kn_p4 false]
        clear k9
        obtain ⟨-, -, -, -, -, -, -, -, -, k9, -⟩ := hq7.p.cells
        have HQ7 : Hid (SeP W w7 s lb tb cb 2 2 (kn4 false) FL6 FO7 FC) := Lib.hid hq7
        clear ho7 huo hq7
        go_wp2_with fail
        refine (pump_any tb 2 2 (kn4 false).o FO7 w7 HQ7.out.p.out (HB.out.below HQ7.out.se.bel) (zero_off HQ7.out HB.out)).mono ?_
        rintro e w8 ⟨v, FO8, rfl, how, ho8, huo, -⟩
        obtain ⟨hq8, -⟩ := HQ7.out.setO ho8 huo
        rw [kn_u5 false] at how
        obtain ⟨va, vc, rfl, -, -, -⟩ := ownsRow_row how
        clear k9
        obtain ⟨-, -, -, -, -, -, -, -, -, k9, -⟩ := hq8.p.cells
        have HQ8 : Hid (SeP W w8 s lb tb cb 2 2 (kn5 false) FL6 FO8 FC) := Lib.hid hq8
        clear ho8 huo hq8 how
        go_wp2_with fail
        refine (oput_any tb 2 2 (kn5 false).o FO8 msgZ w8 HQ8.out.p.out (HT.out.below HQ8.out.se.bel) (by decide) (by decide)).mono ?_
        rintro e w9 ⟨rfl, FO9, ho9, huo⟩
        obtain ⟨hq9, -⟩ := HQ8.out.setO ho9 huo
        rw [kn_p6 false]
        clear k9
        obtain ⟨-, -, -, -, -, -, -, -, -, -, k10⟩ := hq9.p.cells
        have HQ9 : Hid (SeP W w9 s lb tb cb 2 2 (kn6 false) FL6 FO9 FC) := Lib.hid hq9
        clear ho9 huo hq9
        go_wp2_with fail
        refine (cfirst_u cb 9 (kn6 false).came FC w9 HQ9.out.p.came (by omega) (by omega)).mono ?_
        rintro e w10 ⟨rfl, hc10, huc⟩
        obtain ⟨hq10, -⟩ := HQ9.out.setC hc10 huc
        rw [kn_f7 false]
        clear k10
        have HQ10 : Hid (SeP W w10 s lb tb cb 2 2 (kn7 false) FL6 FO9 FC) := Lib.hid hq10
        clear hc10 huc hq10
        go_wp2_with fail
        refine (leave_any s (kn7 false) 2 2 _ w10 HQ10.out.se.rep).mono ?_
        rintro e w11 ⟨rfl, hr11, hu11⟩
        have hS11 : Se W w11 s 2 2 (kn8 false) (sFoot s FL6 FO9 FC) := HQ10.out.se.upd hr11 hu11
        obtain ⟨lb, tb, cb, FL, FO, FC, hq11, -⟩ := hS11.parts
        obtain ⟨-, -, -, -, -, -, -, -, k8, -⟩ := hq11.p.cells
        have HQ11 := Lib.hid hq11
        clear hr11 hu11 hS11 hq11
        go_wp2_with fail
        refine (subs_any lb (kn8 false).l FL w11 HQ11.out.p.subs).mono ?_
        rintro e w12 ⟨v, rfl, ho, hk⟩
        rw [kn_l8 false] at ho
        obtain ⟨sa, sc, rfl, -, -, -⟩ := ownsRow_row ho
        have hq := HQ11.out.below hk
        clear k8
        obtain ⟨-, -, -, -, -, -, -, -, -, k9, -⟩ := hq.p.cells
        have HQ12 := Lib.hid hq
        clear ho hk hq
        go_wp2_with fail
        refine (flight_any tb 2 2 (kn8 false).o FO w12 HQ12.out.p.out).mono ?_
        rintro e w13 ⟨rfl, rfl⟩
        rw [kn_r8 false]
        go_wp2_with fail
        refine (waits_any tb 2 2 (kn8 false).o FO w12 HQ12.out.p.out).mono ?_
        rintro e w14 ⟨rfl, hk⟩
        rw [kn_w8 false]
        have hq := HQ12.out.below hk
        clear k9
        obtain ⟨-, -, -, -, -, -, -, -, -, -, k10⟩ := hq.p.cells
        have HQ14 := Lib.hid hq
        clear hk hq
        go_wp2_with fail
        refine (cknows_any true cb 9 (kn8 false).came FC w14 HQ14.out.p.came (by omega) (by omega) (kn_c8 false)).mono ?_
        rintro e w15 ⟨rfl, hk⟩
        have hq := HQ14.out.below hk
        clear k10
        obtain ⟨-, k1, k2, -, -, -, -, -, -, k9, -⟩ := hq.p.cells
        have HQ15 := Lib.hid hq
        clear hk hq
        replace k2 : w15.cell? ⟨s, 2, none⟩ = some (.bool false) := k2
        clear k1 k9
        go_wp2_with fail
        refine (HCtrue.out _).mono ?_
        rintro e w16 ⟨rfl, hk⟩
        have HS16 := Lib.hid (HQ15.out.below hk).se
        clear hk k2
        go_wp2_with fail
        have hn16 : w16.heap.size ∉ sFoot s FL FO FC := fun hk => by have := HS16.out.rep.lt _ hk; omega
        refine (HB2falsetrue.out _ _ _ (HS16.out.below (low_alloc w16 _)) (some ⟨w16.heap.size, 0, none⟩) 2 (row_new w16 [.string ⟨#[97]⟩, .string ⟨#[98, 47, 35]⟩] 9) (fun b o e _ => by cases e; exact hn16)).mono ?_
        rintro e w17 ⟨rfl, F17, hS17, -⟩
        obtain ⟨lb, tb, cb, FL, FO, FC, hq17, rfl⟩ := (show Se W w17 s 2 2 (kn9 false true) F17 from hS17).parts
        obtain ⟨-, -, -, -, -, -, -, -, k8, -⟩ := hq17.p.cells
        have HQ17 := Lib.hid hq17
        clear hS17 hq17
        go_wp2_with fail
        refine (subs_any lb (kn9 false true).l FL w17 HQ17.out.p.subs).mono ?_
        rintro e w18 ⟨v, rfl, ho, hk⟩
        rw [kn_l9 false true] at ho
        obtain ⟨sa, sc, rfl, -, -, -⟩ := ownsRow_row ho
        have hq := HQ17.out.below hk
        clear k8
        obtain ⟨-, -, -, -, -, -, -, -, -, k9, -⟩ := hq.p.cells
        have HQ18 := Lib.hid hq
        clear ho hk hq
        go_wp2_with fail
        refine (flight_any tb 2 2 (kn9 false true).o FO w18 HQ18.out.p.out).mono ?_
        rintro e w19 ⟨rfl, rfl⟩
        rw [kn_r9 false true]
        go_wp2_with fail
        refine (waits_any tb 2 2 (kn9 false true).o FO w18 HQ18.out.p.out).mono ?_
        rintro e w20 ⟨rfl, hk⟩
        rw [kn_w9 false true]
        have hq := HQ18.out.below hk
        clear k9
        obtain ⟨-, -, -, -, -, -, -, -, -, -, k10⟩ := hq.p.cells
        have HQ20 := Lib.hid hq
        clear hk hq
        go_wp2_with fail
        refine (cknows_any false cb 9 (kn9 false true).came FC w20 HQ20.out.p.came (by omega) (by omega) (kn_c9 false true)).mono ?_
        rintro e w21 ⟨rfl, hk⟩
        have hq := HQ20.out.below hk
        clear k10
        obtain ⟨-, k1, k2, -, -, -, -, -, -, k9, -⟩ := hq.p.cells
        have HQ21 := Lib.hid hq
        clear hk hq
        clear k1 k2
        go_wp2_with fail
        refine (resume_any tb 2 2 (kn9 false true).o FO w21 HQ21.out.p.out).mono ?_
        rintro e w22 ⟨v, rfl, ho, hk⟩
        rw [kn_u9 false true] at ho
        obtain ⟨ra, rc, rfl, -, -, -⟩ := ownsRow_row ho
        have hq := HQ21.out.below hk
        clear k9
        obtain ⟨-, k1, k2, -⟩ := hq.p.cells
        replace k1 : w22.cell? ⟨s, 1, none⟩ = some (.int .i64 2) := k1
        replace k2 : w22.cell? ⟨s, 2, none⟩ = some (.bool true) := k2
        have HF := Lib.hid hq.se.bel
        clear ho hk hq
        go_wp2_with fail
        go_roundw
        case rel => exact ⟨.inr (.inr (.inr (.inl rfl))), HF.out⟩
        case measure => decide
    · as_aux_lemma =>
        go_wp2_with fail
        refine (config_any 2 2 _).mono ?_
        rintro e w1 ⟨rfl, hk1⟩
        have HK1 := Lib.hid (bnext HBK.out (Nat.le_refl _) hk1)
        clear hk1
        go_wp2_with fail
        refine (sesnew_any ⟨#[]⟩ 1 1 64 2 2 w1 (by omega) (by omega)).mono ?_
        rintro e w2 ⟨s, F, rfl, hr, hu⟩
        have hS : Se W w2 s 2 2 kn0 F := Se.new HK1.out hr hu
        have HS := Lib.hid hS
        clear hr hu hS
        go_wp2_with fail
        refine (HCtrue.out w2).mono ?_
        rintro e w3 ⟨rfl, hk3⟩
        have HS3 := Lib.hid (HS.out.below hk3)
        clear hk3
        go_wp2_with fail
        refine (HB1true.out _ _ _ HS3.out).mono ?_
        rintro e w4 ⟨rfl, F4, hS4, -⟩
        obtain ⟨lb, tb, cb, FL, FO, FC, hq4, rfl⟩ := (show Se W w4 s 2 2 (kn1 true) F4 from hS4).parts
        obtain ⟨-, -, -, -, -, -, -, -, k8, -⟩ := hq4.p.cells
        have HQ4 := Lib.hid hq4
        clear hS4 hq4
        go_wp2_with fail
        refine (sset_any lb (kn1 true).l FL [98, 47, 35] 2 w4 HQ4.out.p.subs (HT.out.below HQ4.out.se.bel) (by decide) (by decide) (by decide)).mono ?_
        rintro e w5 ⟨rfl, FL5, hl5, hul⟩
        obtain ⟨hq5, -⟩ := HQ4.out.setL hl5 hul
        rw [kn_s2 true]
        clear k8
        obtain ⟨-, -, -, -, -, -, -, -, k8, -⟩ := hq5.p.cells
        have HQ5 : Hid (SeP W w5 s lb tb cb 2 2 (kn2 true) FL5 FO FC) := Lib.hid hq5
        clear hl5 hul hq5
        go_wp2_with fail
        refine (sset_any lb (kn2 true).l FL5 [97] 0 w5 HQ5.out.p.subs (HT.out.below HQ5.out.se.bel) (by decide) (by decide) (by decide)).mono ?_
        rintro e w6 ⟨rfl, FL6, hl6, hul⟩
        obtain ⟨hq6, -⟩ := HQ5.out.setL hl6 hul
        rw [kn_s3 true]
        clear k8
        obtain ⟨-, -, -, -, -, -, -, -, -, k9, -⟩ := hq6.p.cells
        have HQ6 : Hid (SeP W w6 s lb tb cb 2 2 (kn3 true) FL6 FO FC) := Lib.hid hq6
        clear hl6 hul hq6
        go_wp2_with fail
        refine (oput_any tb 2 2 (kn3 true).o FO msgB w6 HQ6.out.p.out (HT.out.below HQ6.out.se.bel) (by decide) (by decide)).mono ?_
        rintro e w7 ⟨rfl, FO7, ho7, huo⟩
        obtain ⟨hq7, -⟩ := HQ6.out.setO ho7 huo
        rw [kn_p4 true]
        clear k9
        obtain ⟨-, -, -, -, -, -, -, -, -, k9, -⟩ := hq7.p.cells
        have HQ7 : Hid (SeP W w7 s lb tb cb 2 2 (kn4 true) FL6 FO7 FC) := Lib.hid hq7
        clear ho7 huo hq7
        go_wp2_with fail
        refine (pump_any tb 2 2 (kn4 true).o FO7 w7 HQ7.out.p.out (HB.out.below HQ7.out.se.bel) (zero_off HQ7.out HB.out)).mono ?_
        rintro e w8 ⟨v, FO8, rfl, how, ho8, huo, -⟩
        obtain ⟨hq8, -⟩ := HQ7.out.setO ho8 huo
        rw [kn_u5 true] at how
        obtain ⟨va, vc, rfl, -, -, -⟩ := ownsRow_row how
        clear k9
        obtain ⟨-, -, -, -, -, -, -, -, -, k9, -⟩ := hq8.p.cells
        have HQ8 : Hid (SeP W w8 s lb tb cb 2 2 (kn5 true) FL6 FO8 FC) := Lib.hid hq8
        clear ho8 huo hq8 how
        go_wp2_with fail
        refine (oput_any tb 2 2 (kn5 true).o FO8 msgZ w8 HQ8.out.p.out (HT.out.below HQ8.out.se.bel) (by decide) (by decide)).mono ?_
        rintro e w9 ⟨rfl, FO9, ho9, huo⟩
        obtain ⟨hq9, -⟩ := HQ8.out.setO ho9 huo
        rw [kn_p6 true]
        clear k9
        obtain ⟨-, -, -, -, -, -, -, -, -, -, k10⟩ := hq9.p.cells
        have HQ9 : Hid (SeP W w9 s lb tb cb 2 2 (kn6 true) FL6 FO9 FC) := Lib.hid hq9
        clear ho9 huo hq9
        go_wp2_with fail
        refine (cfirst_u cb 9 (kn6 true).came FC w9 HQ9.out.p.came (by omega) (by omega)).mono ?_
        rintro e w10 ⟨rfl, hc10, huc⟩
        obtain ⟨hq10, -⟩ := HQ9.out.setC hc10 huc
        rw [kn_f7 true]
        clear k10
        have HQ10 : Hid (SeP W w10 s lb tb cb 2 2 (kn7 true) FL6 FO9 FC) := Lib.hid hq10
        clear hc10 huc hq10
        go_wp2_with fail
        refine (leave_any s (kn7 true) 2 2 _ w10 HQ10.out.se.rep).mono ?_
        rintro e w11 ⟨rfl, hr11, hu11⟩
        have hS11 : Se W w11 s 2 2 (kn8 true) (sFoot s FL6 FO9 FC) := HQ10.out.se.upd hr11 hu11
        obtain ⟨lb, tb, cb, FL, FO, FC, hq11, -⟩ := hS11.parts
        obtain ⟨-, -, -, -, -, -, -, -, k8, -⟩ := hq11.p.cells
        have HQ11 := Lib.hid hq11
        clear hr11 hu11 hS11 hq11
        go_wp2_with fail
        refine (subs_any lb (kn8 true).l FL w11 HQ11.out.p.subs).mono ?_
        rintro e w12 ⟨v, rfl, ho, hk⟩
        rw [kn_l8 true] at ho
        obtain ⟨sa, sc, rfl, -, -, -⟩ := ownsRow_row ho
        have hq := HQ11.out.below hk
        clear k8
        obtain ⟨-, -, -, -, -, -, -, -, -, k9, -⟩ := hq.p.cells
        have HQ12 := Lib.hid hq
        clear ho hk hq
        go_wp2_with fail
        refine (flight_any tb 2 2 (kn8 true).o FO w12 HQ12.out.p.out).mono ?_
        rintro e w13 ⟨rfl, rfl⟩
        rw [kn_r8 true]
        go_wp2_with fail
        refine (waits_any tb 2 2 (kn8 true).o FO w12 HQ12.out.p.out).mono ?_
        rintro e w14 ⟨rfl, hk⟩
        rw [kn_w8 true]
        have hq := HQ12.out.below hk
        clear k9
        obtain ⟨-, -, -, -, -, -, -, -, -, -, k10⟩ := hq.p.cells
        have HQ14 := Lib.hid hq
        clear hk hq
        go_wp2_with fail
        refine (cknows_any true cb 9 (kn8 true).came FC w14 HQ14.out.p.came (by omega) (by omega) (kn_c8 true)).mono ?_
        rintro e w15 ⟨rfl, hk⟩
        have hq := HQ14.out.below hk
        clear k10
        obtain ⟨-, k1, k2, -, -, -, -, -, -, k9, -⟩ := hq.p.cells
        have HQ15 := Lib.hid hq
        clear hk hq
        replace k2 : w15.cell? ⟨s, 2, none⟩ = some (.bool true) := k2
        clear k1 k9
        go_wp2_with fail
        refine (HCtrue.out _).mono ?_
        rintro e w16 ⟨rfl, hk⟩
        have HS16 := Lib.hid (HQ15.out.below hk).se
        clear hk k2
        go_wp2_with fail
        have hn16 : w16.heap.size ∉ sFoot s FL FO FC := fun hk => by have := HS16.out.rep.lt _ hk; omega
        refine (HB2truetrue.out _ _ _ (HS16.out.below (low_alloc w16 _)) (some ⟨w16.heap.size, 0, none⟩) 2 (row_new w16 [.string ⟨#[97]⟩, .string ⟨#[98, 47, 35]⟩] 9) (fun b o e _ => by cases e; exact hn16)).mono ?_
        rintro e w17 ⟨rfl, F17, hS17, -⟩
        obtain ⟨lb, tb, cb, FL, FO, FC, hq17, rfl⟩ := (show Se W w17 s 2 2 (kn9 true true) F17 from hS17).parts
        obtain ⟨-, -, -, -, -, -, -, -, k8, -⟩ := hq17.p.cells
        have HQ17 := Lib.hid hq17
        clear hS17 hq17
        go_wp2_with fail
        refine (subs_any lb (kn9 true true).l FL w17 HQ17.out.p.subs).mono ?_
        rintro e w18 ⟨v, rfl, ho, hk⟩
        rw [kn_l9 true true] at ho
        obtain ⟨sa, sc, rfl, -, -, -⟩ := ownsRow_row ho
        have hq := HQ17.out.below hk
        clear k8
        obtain ⟨-, -, -, -, -, -, -, -, -, k9, -⟩ := hq.p.cells
        have HQ18 := Lib.hid hq
        clear ho hk hq
        go_wp2_with fail
        refine (flight_any tb 2 2 (kn9 true true).o FO w18 HQ18.out.p.out).mono ?_
        rintro e w19 ⟨rfl, rfl⟩
        rw [kn_r9 true true]
        go_wp2_with fail
        refine (waits_any tb 2 2 (kn9 true true).o FO w18 HQ18.out.p.out).mono ?_
        rintro e w20 ⟨rfl, hk⟩
        rw [kn_w9 true true]
        have hq := HQ18.out.below hk
        clear k9
        obtain ⟨-, -, -, -, -, -, -, -, -, -, k10⟩ := hq.p.cells
        have HQ20 := Lib.hid hq
        clear hk hq
        go_wp2_with fail
        refine (cknows_any false cb 9 (kn9 true true).came FC w20 HQ20.out.p.came (by omega) (by omega) (kn_c9 true true)).mono ?_
        rintro e w21 ⟨rfl, hk⟩
        have hq := HQ20.out.below hk
        clear k10
        obtain ⟨-, k1, k2, -, -, -, -, -, -, k9, -⟩ := hq.p.cells
        have HQ21 := Lib.hid hq
        clear hk hq
        clear k1 k2
        go_wp2_with fail
        refine (resume_any tb 2 2 (kn9 true true).o FO w21 HQ21.out.p.out).mono ?_
        rintro e w22 ⟨v, rfl, ho, hk⟩
        rw [kn_u9 true true] at ho
        obtain ⟨ra, rc, rfl, -, -, -⟩ := ownsRow_row ho
        have hq := HQ21.out.below hk
        clear k9
        obtain ⟨-, k1, k2, -⟩ := hq.p.cells
        replace k1 : w22.cell? ⟨s, 1, none⟩ = some (.int .i64 2) := k1
        replace k2 : w22.cell? ⟨s, 2, none⟩ = some (.bool true) := k2
        have HF := Lib.hid hq.se.bel
        clear ho hk hq
        go_wp2_with fail
        go_roundw
        case rel => exact ⟨.inr (.inr (.inr (.inr (rfl)))), HF.out⟩
        case measure => decide
    · go_wp2_with fail
      refine (config_any 0 1 _).mono ?_
      rintro e w1 ⟨rfl, hk1⟩
      have HK1 := Lib.hid (bnext HBK.out (Nat.le_refl _) hk1)
      clear hk1
      go_wp2_with fail
      refine (config_any 1 0 _).mono ?_
      rintro e w2 ⟨rfl, hk1⟩
      have HK2 := Lib.hid (bnext HK1.out (Nat.le_refl _) hk1)
      clear hk1
      go_wp2_with fail
      refine (config_any 1025 1 _).mono ?_
      rintro e w3 ⟨rfl, hk1⟩
      have HK3 := Lib.hid (bnext HK2.out (Nat.le_refl _) hk1)
      clear hk1
      go_wp2_with fail
      refine (config_any 1 1025 _).mono ?_
      rintro e w4 ⟨rfl, hk1⟩
      have HK4 := Lib.hid (bnext HK3.out (Nat.le_refl _) hk1)
      clear hk1
      go_wp2_with fail
      have hx := heap_alloc_new w4 (.cells #[.int .i64 1, .int .i64 1, .int .i64 64, .int .i64 1, .int .i64 0, .int .i64 1, .int .i64 1, .int .i64 64, .int .i64 0, .int .i64 1, .int .i64 1, .int .i64 1, .int .i64 64, .int .i64 1, .int .i64 1025, .int .i64 1, .int .i64 1, .int .i64 64, .int .i64 1025, .int .i64 1] 25)
      have hk5 := low_alloc w4 (.cells #[.int .i64 1, .int .i64 1, .int .i64 64, .int .i64 1, .int .i64 0, .int .i64 1, .int .i64 1, .int .i64 64, .int .i64 0, .int .i64 1, .int .i64 1, .int .i64 1, .int .i64 64, .int .i64 1, .int .i64 1025, .int .i64 1, .int .i64 1, .int .i64 64, .int .i64 1025, .int .i64 1] 25)
      have hg5 : w4.heap.size < (w4.alloc (.cells #[.int .i64 1, .int .i64 1, .int .i64 64, .int .i64 1, .int .i64 0, .int .i64 1, .int .i64 1, .int .i64 64, .int .i64 0, .int .i64 1, .int .i64 1, .int .i64 1, .int .i64 64, .int .i64 1, .int .i64 1025, .int .i64 1, .int .i64 1, .int .i64 64, .int .i64 1025, .int .i64 1] 25)).heap.size := by simp
      generalize w4.alloc (.cells #[.int .i64 1, .int .i64 1, .int .i64 64, .int .i64 1, .int .i64 0, .int .i64 1, .int .i64 1, .int .i64 64, .int .i64 0, .int .i64 1, .int .i64 1, .int .i64 1, .int .i64 64, .int .i64 1, .int .i64 1025, .int .i64 1, .int .i64 1, .int .i64 64, .int .i64 1025, .int .i64 1] 25) = w5 at *
      have HK5 := Lib.hid (bnext HK4.out (Nat.le_refl _) hk5)
      have HX : Hid (∀ X, Below w5.heap.size w5 X → X.heap[w4.heap.size]? = some (.cells #[.int .i64 1, .int .i64 1, .int .i64 64, .int .i64 1, .int .i64 0, .int .i64 1, .int .i64 1, .int .i64 64, .int .i64 0, .int .i64 1, .int .i64 1, .int .i64 1, .int .i64 64, .int .i64 1, .int .i64 1025, .int .i64 1, .int .i64 1, .int .i64 64, .int .i64 1025, .int .i64 1] 25 (0, 0))) := Lib.hid (fun X hX => (hX.block w4.heap.size hg5).trans hx)
      clear hx hk5 hg5
      generalize w4.heap.size = g at *
      go_loopw [6] (fun i wr => (i = .int .i64 0 ∨ i = .int .i64 1 ∨ i = .int .i64 2 ∨ i = .int .i64 3 ∨ i = .int .i64 4) ∧ Below w5.heap.size w5 wr) (fun i _ => (4 - intOf i).toNat)
      case atStart => exact ⟨.inl rfl, Below.refl _ _⟩
      case round =>
        obtain ⟨hi, hb⟩ := hrel
        have hr := HX.out _ hb
        have HBL := Lib.hid hb
        clear hb
        rcases hi with rfl | rfl | rfl | rfl | rfl
        · skip
          have q0 : wr.cell? ⟨g, 0, none⟩ = some (.int .i64 1) := cell_of_row _ _ 0 _ _ _ hr
          have q1 : wr.cell? ⟨g, 1, none⟩ = some (.int .i64 1) := cell_of_row _ _ 1 _ _ _ hr
          have q2 : wr.cell? ⟨g, 2, none⟩ = some (.int .i64 64) := cell_of_row _ _ 2 _ _ _ hr
          have q3 : wr.cell? ⟨g, 3, none⟩ = some (.int .i64 1) := cell_of_row _ _ 3 _ _ _ hr
          have q4 : wr.cell? ⟨g, 4, none⟩ = some (.int .i64 0) := cell_of_row _ _ 4 _ _ _ hr
          clear hr
          go_wp2_with fail
          refine (sesnew_bad ⟨#[99]⟩ 1 1 64 1 0 _ (by omega)).mono ?_
          rintro e w6 ⟨rfl, hk⟩
          have HF := Lib.hid (bnext HBL.out (Nat.le_refl _) hk)
          clear hk q0 q1 q2 q3 q4
          go_wp2_with fail
          go_roundw
          case rel => exact ⟨.inr (.inl rfl), HF.out⟩
          case measure => decide
        · skip
          have q0 : wr.cell? ⟨g, 5, none⟩ = some (.int .i64 1) := cell_of_row _ _ 5 _ _ _ hr
          have q1 : wr.cell? ⟨g, 6, none⟩ = some (.int .i64 1) := cell_of_row _ _ 6 _ _ _ hr
          have q2 : wr.cell? ⟨g, 7, none⟩ = some (.int .i64 64) := cell_of_row _ _ 7 _ _ _ hr
          have q3 : wr.cell? ⟨g, 8, none⟩ = some (.int .i64 0) := cell_of_row _ _ 8 _ _ _ hr
          have q4 : wr.cell? ⟨g, 9, none⟩ = some (.int .i64 1) := cell_of_row _ _ 9 _ _ _ hr
          clear hr
          go_wp2_with fail
          refine (sesnew_bad ⟨#[99]⟩ 1 1 64 0 1 _ (by omega)).mono ?_
          rintro e w6 ⟨rfl, hk⟩
          have HF := Lib.hid (bnext HBL.out (Nat.le_refl _) hk)
          clear hk q0 q1 q2 q3 q4
          go_wp2_with fail
          go_roundw
          case rel => exact ⟨.inr (.inr (.inl rfl)), HF.out⟩
          case measure => decide
        · skip
          have q0 : wr.cell? ⟨g, 10, none⟩ = some (.int .i64 1) := cell_of_row _ _ 10 _ _ _ hr
          have q1 : wr.cell? ⟨g, 11, none⟩ = some (.int .i64 1) := cell_of_row _ _ 11 _ _ _ hr
          have q2 : wr.cell? ⟨g, 12, none⟩ = some (.int .i64 64) := cell_of_row _ _ 12 _ _ _ hr
          have q3 : wr.cell? ⟨g, 13, none⟩ = some (.int .i64 1) := cell_of_row _ _ 13 _ _ _ hr
          have q4 : wr.cell? ⟨g, 14, none⟩ = some (.int .i64 1025) := cell_of_row _ _ 14 _ _ _ hr
          clear hr
          go_wp2_with fail
          refine (sesnew_bad ⟨#[99]⟩ 1 1 64 1 1025 _ (by omega)).mono ?_
          rintro e w6 ⟨rfl, hk⟩
          have HF := Lib.hid (bnext HBL.out (Nat.le_refl _) hk)
          clear hk q0 q1 q2 q3 q4
          go_wp2_with fail
          go_roundw
          case rel => exact ⟨.inr (.inr (.inr (.inl rfl))), HF.out⟩
          case measure => decide
        · skip
          have q0 : wr.cell? ⟨g, 15, none⟩ = some (.int .i64 1) := cell_of_row _ _ 15 _ _ _ hr
          have q1 : wr.cell? ⟨g, 16, none⟩ = some (.int .i64 1) := cell_of_row _ _ 16 _ _ _ hr
          have q2 : wr.cell? ⟨g, 17, none⟩ = some (.int .i64 64) := cell_of_row _ _ 17 _ _ _ hr
          have q3 : wr.cell? ⟨g, 18, none⟩ = some (.int .i64 1025) := cell_of_row _ _ 18 _ _ _ hr
          have q4 : wr.cell? ⟨g, 19, none⟩ = some (.int .i64 1) := cell_of_row _ _ 19 _ _ _ hr
          clear hr
          go_wp2_with fail
          refine (sesnew_bad ⟨#[99]⟩ 1 1 64 1025 1 _ (by omega)).mono ?_
          rintro e w6 ⟨rfl, hk⟩
          have HF := Lib.hid (bnext HBL.out (Nat.le_refl _) hk)
          clear hk q0 q1 q2 q3 q4
          go_wp2_with fail
          go_roundw
          case rel => exact ⟨.inr (.inr (.inr (.inr (rfl)))), HF.out⟩
          case measure => decide
        · clear hr
          have HB0 := Lib.hid (bnext HK5.out (Nat.le_refl _) HBL.out)
          go_wp2_with fail
          refine (lose_nil _).mono ?_
          rintro e w6 ⟨rfl, hk⟩
          have HB6 := Lib.hid (bnext HB0.out (Nat.le_refl _) hk)
          clear hk
          dsimp only [Msg.none, Msg.val]
          go_wp2_with fail
          refine (leave_nil _).mono ?_
          rintro e w7 ⟨rfl, hw7⟩
          try subst hw7
          go_wp2_with fail
          have hz : ZAt ((w6.alloc (.cells #[.string ⟨#[]⟩, .string ⟨#[]⟩, .int .u8 0, .bool false] 30)).alloc (.cells #[.string ⟨#[]⟩, .int .i64 0, .bool false, .string ⟨#[]⟩, .string ⟨#[]⟩, .int .u8 0, .bool false, .bool false, .pointer none, .pointer none, .pointer none] 40)) (w6.heap.size + 1) 0 := ⟨by
            have h := heap_alloc_new (w6.alloc (.cells #[.string ⟨#[]⟩, .string ⟨#[]⟩, .int .u8 0, .bool false] 30)) (.cells (zC 0).toArray 40)
            rwa [World.size_alloc] at h⟩
          have hb8 := bnext (bnext HB6.out (Nat.le_refl _) (low_alloc w6 (.cells #[.string ⟨#[]⟩, .string ⟨#[]⟩, .int .u8 0, .bool false] 30))) (Nat.le_refl _) (low_alloc _ (.cells #[.string ⟨#[]⟩, .int .i64 0, .bool false, .string ⟨#[]⟩, .string ⟨#[]⟩, .int .u8 0, .bool false, .bool false, .pointer none, .pointer none, .pointer none] 40))
          have HZL : Hid (W.heap.size ≤ w6.heap.size + 1) := Lib.hid (Nat.le_succ_of_le HB6.out.size)
          generalize (w6.alloc (.cells #[.string ⟨#[]⟩, .string ⟨#[]⟩, .int .u8 0, .bool false] 30)).alloc (.cells #[.string ⟨#[]⟩, .int .i64 0, .bool false, .string ⟨#[]⟩, .string ⟨#[]⟩, .int .u8 0, .bool false, .bool false, .pointer none, .pointer none, .pointer none] 40) = w8 at *
          generalize w6.heap.size + 1 = z at *
          have HZ8 := Lib.hid hz
          have HB8 := Lib.hid hb8
          clear hz hb8
          refine (HCtrue.out _).mono ?_
          rintro e w9 ⟨rfl, hk⟩
          have HZ9 := Lib.hid (HZ8.out.mod hk)
          have HB9 := Lib.hid (bnext HB8.out (Nat.le_refl _) hk)
          clear hk
          go_wp2_with fail
          refine (HNIL.out _).mono ?_
          rintro e w10 ⟨rfl, hk⟩
          have HZ10 := Lib.hid (HZ9.out.mod hk)
          have HB10 := Lib.hid (bnext HB9.out (Nat.le_refl _) hk)
          clear hk
          go_wp2_with fail
          refine (HCfalse.out _).mono ?_
          rintro e w11 ⟨rfl, hk⟩
          have HZ11 := Lib.hid (HZ10.out.mod hk)
          have HB11 := Lib.hid (bnext HB10.out (Nat.le_refl _) hk)
          clear hk
          go_wp2_with fail
          refine (HZER.out z _ HZ11.out).mono ?_
          rintro e w12 ⟨rfl, hz, hm⟩
          have HB12 := Lib.hid (HB11.out.trans (hm.below HB11.out.size (fun k hk => by rw [List.mem_singleton.1 hk]; exact HZL.out)))
          obtain ⟨k1, -, -, -, -, -, -, k9⟩ := hz.cells
          clear hz hm
          go_wp2_with fail
          refine (oput_nil msgA _).mono ?_
          rintro e w13 ⟨rfl, hk⟩
          have HB13 := Lib.hid (bnext HB12.out (Nat.le_refl _) hk)
          clear hk k1 k9
          go_wp2_with fail
          refine (HAW.out _ HB13.out).mono ?_
          rintro e w14 ⟨rfl, hk⟩
          have HF := Lib.hid (bnext HB13.out (Nat.le_refl _) hk)
          clear hk
          go_wp2_with fail
          go_ret
          exact ⟨rfl, HF.out⟩
end Go.Proofs.YtmkhagmjpbfieaaDoor
