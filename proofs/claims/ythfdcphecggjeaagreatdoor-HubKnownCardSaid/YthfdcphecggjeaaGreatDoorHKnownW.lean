/- The hub's laws: HubKnown walked. -/
import Derived.Test.YthfdcphecggjeaaGreatDoorQZ
namespace Go.Proofs.YthfdcphecggjeaaGreatDoor
open Go Go.RowKit

def i99 : Item := ⟨99, 0, 0, ⟨#[]⟩, ⟨#[]⟩, pkZ, Msg.zero, none, 0, [], none, 0, [], none, 0, [], 0, 0⟩
def kI1 : Item := iAdd ⟨#[97, 47, 35]⟩ ⟨#[122]⟩ 1
def kI2 : Item := iAdd ⟨#[97]⟩ ⟨#[122]⟩ 1
def kI3 : Item := iRem ⟨#[97, 47, 43]⟩ ⟨#[120]⟩ 0 4
def kI4 : Item := iRem ⟨#[97, 47, 43]⟩ ⟨#[120]⟩ 7 0
def knownL : List Item := [kI1, kI2, kI3, i99]
def knownG : List Hint := [([35], [121]), ([97], [122]), ([97, 47, 35], [122]), ([97, 47, 43], [120])]
def knownG3 : List Hint := [([35], [121]), ([97], [122]), ([97, 47, 35], [122])]
theorem known_kp : setB m1 [] = [m1.kept] := by
  unfold setB
  rw [if_pos (by decide)]
  unfold setM
  rw [if_neg (by decide)]
  rfl
theorem known_g : addG (addG smallG [97, 47, 35] [122]) [97] [122] = knownG := by decide
theorem known_g3 : knownG.erase ([97, 47, 43], [120]) = knownG3 := by decide
theorem known_f1 : finds [97, 47, 35] [m1.kept] = [m1.kept] := by
  unfold finds
  rw [List.filter_cons_of_pos (by decide)]
  rfl
theorem known_f2 : finds [97] [m1.kept] = [] := by
  unfold finds
  rw [List.filter_cons_of_neg (by decide)]
  rfl
theorem known_s : (doH 4 knownL smallS).2 = ⟨knownG, [m1.kept]⟩ := by
  show (⟨addG (addG smallG [97, 47, 35] [122]) [97] [122], setB m1 []⟩ : HubS) = _
  rw [known_g, known_kp]
theorem known_m : (doH 4 knownL smallS).1 = [backM kI1 8 [m1.kept] 0, backM kI2 8 [] 0] := by
  show [backM kI1 8 (finds [97, 47, 35] (setB m1 [])) 0, backM kI2 8 (finds [97] (setB m1 [])) 0] = _
  rw [known_kp, known_f1, known_f2]
theorem known_s4 : (doH 4 [kI4] ⟨knownG, [m1.kept]⟩).2 = ⟨knownG3, [m1.kept]⟩ := by
  show (⟨knownG.erase ([97, 47, 43], [120]), [m1.kept]⟩ : HubS) = _
  rw [known_g3]
theorem known_m4 : (doH 4 [kI4] ⟨knownG, [m1.kept]⟩).1 = [backM kI4 9 [] 0] := rfl
theorem known_ok : ∀ x ∈ knownL, SmallI x := by
  intro x hx
  simp only [knownL, List.mem_cons, List.not_mem_nil, or_false] at hx
  rcases hx with rfl | rfl | rfl | rfl <;> exact ⟨by decide, by decide, by decide, by decide, by decide, by decide⟩
theorem known_ok4 : ∀ x ∈ [kI4], SmallI x := by
  intro x hx
  rw [List.mem_singleton.1 hx]
  exact ⟨by decide, by decide, by decide, by decide, by decide, by decide⟩
theorem mails2 {w : World} {F : List Nat} {h0 h1 : HMail} : ∀ {M : List Mail}, Mails w F M [h0, h1] → ∃ m0 m1, M = [m0, m1] ∧ MailAt w F m0 h0 ∧ MailAt w F m1 h1
  | [m0, m1], h => ⟨m0, m1, rfl, h.1, h.2.1⟩
  | [], h => h.elim
  | [_], h => h.2.elim
  | _ :: _ :: _ :: _, h => h.2.2.elim
theorem mails1 {w : World} {F : List Nat} {h0 : HMail} : ∀ {M : List Mail}, Mails w F M [h0] → ∃ m0, M = [m0] ∧ MailAt w F m0 h0
  | [m0], h => ⟨m0, rfl, h.1⟩
  | [], h => h.elim
  | _ :: _ :: _, h => h.2.elim
theorem built_k1 : Tryz.prog.built 36 [(0, .int .u8 5), (4, .string ⟨#[97, 47, 35]⟩), (3, .string ⟨#[122]⟩), (10, .int .i64 1)] = some kI1.cells.toArray := by kernel_rfl
theorem built_k2 : Tryz.prog.built 36 [(0, .int .u8 5), (4, .string ⟨#[97]⟩), (3, .string ⟨#[122]⟩), (10, .int .i64 1)] = some kI2.cells.toArray := by kernel_rfl
theorem built_k3 : Tryz.prog.built 36 [(0, .int .u8 6), (4, .string ⟨#[97, 47, 43]⟩), (3, .string ⟨#[120]⟩), (10, .int .i64 4)] = some kI3.cells.toArray := by kernel_rfl
theorem built_k4 : Tryz.prog.built 36 [(0, .int .u8 6), (1, .int .i64 7), (4, .string ⟨#[97, 47, 43]⟩), (3, .string ⟨#[120]⟩)] = some kI4.cells.toArray := by kernel_rfl
theorem built_99 : Tryz.prog.built 36 [(0, .int .u8 99)] = some i99.cells.toArray := by kernel_rfl
theorem range_blk5 {w : World} {b o : Nat} {m : Mail} (h : w.rangeAt b (o + 0 * 40) m.cells) : ∀ X, Below w.heap.size w X → MailC X b o m := fun X hX => by
  have h1 := range_below19 h hX
  rw [Nat.zero_mul, Nat.add_zero] at h1
  exact mail_c h1
theorem build_items4 (x0 x1 x2 x3 : Item) (ops : Array Oper) (rest : List Oper) (o : Oper) (a : Act) (w : World) (Q : Exit → Act → World → Prop) (hg : o.guard = none) (A0 A1 A2 A3 : Operand) (ho : o.op = .buildSlice 22 4 #[(0, A0), (1, A1), (2, A2), (3, A3)]) (h0 : a.eval A0 = .agg x0.cells.toArray) (h1 : a.eval A1 = .agg x1.cells.toArray) (h2 : a.eval A2 = .agg x2.cells.toArray) (h3 : a.eval A3 = .agg x3.cells.toArray)
    (d : Option Tmp) (hd : o.dst = d) (nb : Nat) (hnb : w.heap.size = nb) (h : wpList Tryz.prog ops Q rest (a.put d (.slice (some ⟨nb, 0, none⟩) 4 4)) (w.alloc (.cells (itemsV [x0, x1, x2, x3]).toArray 36))) : wpList Tryz.prog ops Q (o :: rest) a w := by
  subst hd hnb
  refine wpList_plain hg fun K hK => ?_
  obtain ⟨i, hi, hz0, hz1, hz2⟩ := info_parts T_item.hi
  refine wp_buildSlice 22 36 4 _ ho (itemsV [x0, x1, x2, x3]).toArray i _ Tryz.underlying22 hi hz0 (by rw [hz1]; decide) (by rw [hz1]; decide) ?_ (hK _ _ h)
  rw [hz1]
  simp only [List.map_toArray, List.map_cons, List.map_nil, h0, h1, h2, h3]
  clear h0 h1 h2 h3 h hK ho hi hz0 hz1 hz2
  obtain ⟨k0_, o0_, n0_, c0_, f0_, ⟨a0_, b0_, d0_, e0_, g0_, h0_, i0_, j0_, l0_, m0_, p0_, q0_, ⟨r0_, s0_, t0_, u0_⟩, v0_, w0_, x0_, y0_, z0_, aa0_, ab0_, ac0_, ad0_, ae0_⟩, ⟨af0_, ag0_, ah0_, ai0_⟩, aj0_, ak0_, al0_, am0_, an0_, ao0_, ap0_, aq0_, ar0_, as0_, at0_⟩ := x0
  obtain ⟨k1_, o1_, n1_, c1_, f1_, ⟨a1_, b1_, d1_, e1_, g1_, h1_, i1_, j1_, l1_, m1_, p1_, q1_, ⟨r1_, s1_, t1_, u1_⟩, v1_, w1_, x1_, y1_, z1_, aa1_, ab1_, ac1_, ad1_, ae1_⟩, ⟨af1_, ag1_, ah1_, ai1_⟩, aj1_, ak1_, al1_, am1_, an1_, ao1_, ap1_, aq1_, ar1_, as1_, at1_⟩ := x1
  obtain ⟨k2_, o2_, n2_, c2_, f2_, ⟨a2_, b2_, d2_, e2_, g2_, h2_, i2_, j2_, l2_, m2_, p2_, q2_, ⟨r2_, s2_, t2_, u2_⟩, v2_, w2_, x2_, y2_, z2_, aa2_, ab2_, ac2_, ad2_, ae2_⟩, ⟨af2_, ag2_, ah2_, ai2_⟩, aj2_, ak2_, al2_, am2_, an2_, ao2_, ap2_, aq2_, ar2_, as2_, at2_⟩ := x2
  obtain ⟨k3_, o3_, n3_, c3_, f3_, ⟨a3_, b3_, d3_, e3_, g3_, h3_, i3_, j3_, l3_, m3_, p3_, q3_, ⟨r3_, s3_, t3_, u3_⟩, v3_, w3_, x3_, y3_, z3_, aa3_, ab3_, ac3_, ad3_, ae3_⟩, ⟨af3_, ag3_, ah3_, ai3_⟩, aj3_, ak3_, al3_, am3_, an3_, ao3_, ap3_, aq3_, ar3_, as3_, at3_⟩ := x3
  kernel_rfl
set_option maxRecDepth 100000 in
set_option maxHeartbeats 8000000 in
theorem hubKnown_any (W : World) (hT : Tabs W) : Calls Tryz.prog 4 #[] W fun e w' => e = .returned (.bool true) ∧ Below W.heap.size W w' := by
  have HSM := Lib.hid (small_any W W (Below.refl _ _) hT)
  have HN0 := Lib.hid (hub_no 0 (.inl (by decide)))
  have HN65 := Lib.hid (hub_no 65 (.inr (by decide)))
  have HB1 := Lib.hid (fun (_ : Unit) => built_k1)
  have HB2 := Lib.hid (fun (_ : Unit) => built_k2)
  have HB3 := Lib.hid (fun (_ : Unit) => built_k3)
  have HB4 := Lib.hid (fun (_ : Unit) => built_k4)
  have HB9 := Lib.hid (fun (_ : Unit) => built_99)
  have HBS := Lib.hid (build_items4 kI1 kI2 kI3 i99)
  have HBS1 := Lib.hid (build_items1 kI4)
  have HBSR := Lib.hid (build_items1 routedI)
  rw [show [kI1, kI2, kI3, i99] = knownL from rfl] at HBS
  have HRT := Lib.hid routed_any
  have HAW := Lib.hid (fun X (hb : Below W.heap.size W X) => awake19 W X hb hT)
  have HDO := Lib.hid (fun h F w1 (hp : Hb W w1 h 4 3 smallS (.pointer none) [] F) => hdo_any W h 4 3 smallS (.pointer none) [] F knownL (some ⟨w1.heap.size, 0, none⟩) 4 (w1.alloc (.cells (itemsV knownL).toArray 36)) (hp.below (low_alloc _ _)) hT known_ok (by decide) (by decide) (by decide) (beside_new hp.lt _ _) [] (by simp))
  have HDO4 := Lib.hid (fun h F w1 ns (hp : Hb W w1 h 4 7 ⟨knownG, [m1.kept]⟩ (.pointer none) ns F) => hdo_any W h 4 7 ⟨knownG, [m1.kept]⟩ (.pointer none) ns F [kI4] (some ⟨w1.heap.size, 0, none⟩) 1 (w1.alloc (.cells (itemsV [kI4]).toArray 36)) (hp.below (low_alloc _ _)) hT known_ok4 (by decide) (by decide) (by decide) (beside_new hp.lt _ _) [] (by simp))
  clear hT
  generalize kI1.cells.toArray = I1 at *
  generalize kI2.cells.toArray = I2 at *
  generalize kI3.cells.toArray = I3 at *
  generalize kI4.cells.toArray = I4 at *
  generalize i99.cells.toArray = I9 at *
  generalize routedI.cells.toArray = RI at *
  go_enter Tryz.func4, Tryz.ntmps4
  go_wp2_with fail
  refine HSM.out.mono ?_
  rintro e w1 ⟨h, F, rfl, hp1, hu1⟩
  have HP1 := Lib.hid hp1
  clear hp1 hu1
  go_wp2_with fail
  refine (HN0.out _).mono ?_
  rintro e w2 ⟨rfl, rfl⟩
  go_wp2_with fail
  refine (HN65.out _).mono ?_
  rintro e w2 ⟨rfl, rfl⟩
  go_wp2_with (first
    | (refine wpList_buildBy rfl 36 #[(0, .const (.int .u8 5)), (4, .const (.string ⟨#[97, 47, 35]⟩)), (3, .const (.string ⟨#[122]⟩)), (10, .const (.int .i64 1))] rfl _ rfl I1 [(0, .int .u8 5), (4, .string ⟨#[97, 47, 35]⟩), (3, .string ⟨#[122]⟩), (10, .int .i64 1)] (by kernel_rfl) (HB1.out ()) ?_)
    | (refine wpList_buildBy rfl 36 #[(0, .const (.int .u8 5)), (4, .const (.string ⟨#[97]⟩)), (3, .const (.string ⟨#[122]⟩)), (10, .const (.int .i64 1))] rfl _ rfl I2 [(0, .int .u8 5), (4, .string ⟨#[97]⟩), (3, .string ⟨#[122]⟩), (10, .int .i64 1)] (by kernel_rfl) (HB2.out ()) ?_)
    | (refine wpList_buildBy rfl 36 #[(0, .const (.int .u8 6)), (4, .const (.string ⟨#[97, 47, 43]⟩)), (3, .const (.string ⟨#[120]⟩)), (10, .const (.int .i64 4))] rfl _ rfl I3 [(0, .int .u8 6), (4, .string ⟨#[97, 47, 43]⟩), (3, .string ⟨#[120]⟩), (10, .int .i64 4)] (by kernel_rfl) (HB3.out ()) ?_)
    | (refine wpList_buildBy rfl 36 #[(0, .const (.int .u8 99))] rfl _ rfl I9 [(0, .int .u8 99)] (by kernel_rfl) (HB9.out ()) ?_)
    | (refine HBS.out _ _ _ _ _ _ rfl _ _ _ _ rfl rfl rfl rfl rfl _ rfl w1.heap.size rfl ?_)
    | fail)
  refine (HDO.out h F w1 HP1.out).mono ?_
  rintro e w3 ⟨v, M, F3, rfl, hp3, hu3, ho3⟩
  rw [known_m] at ho3
  rw [known_s] at hp3
  obtain ⟨x0, x1, rfl, h0, h1⟩ := mails2 ho3.ms
  obtain ⟨a, cc, rfl, hr, -, -⟩ := ownsRow_row ho3.own
  obtain ⟨ma, mc, _, _, rfl, hb0, -⟩ := h0
  obtain ⟨_, _, _, _, rfl, -, -⟩ := h1
  obtain ⟨b, o, rfl, r0⟩ := row_mid (mk := Mail.cells) (m := 40) mail_len hr (k := 0) (by simp) (by decide)
  obtain ⟨b', o', e1, r1⟩ := row_mid (mk := Mail.cells) (m := 40) mail_len hr (k := 1) (by simp) (by decide)
  cases e1
  obtain ⟨b2, o2, rfl, y0, y1, y2, y3⟩ := msgs_row hb0.row (k := 0) (m := m1.kept) rfl
  have d0 := (mail_c r0).dest
  have l0 := (mail_c r0).lane
  have s0 := (mail_c r0).ms
  have s1 := (mail_c r1).ms
  have hns := Lib.hid hp3.nolog
  have HP3 := Lib.hid (show Hb W w3 h 4 7 ⟨knownG, [m1.kept]⟩ (.pointer none) [] F3 from hp3.nolog)
  have HHI := Lib.hid (hints_any W h 4 7 _ _ _ F3 w3 HP3.out (by decide))
  clear hp3 hu3 ho3 hr r0 r1 hb0 hns
  simp only [List.getElem_cons_zero, List.getElem_cons_succ, backM, itemOf, Nat.zero_mul, Nat.add_zero, Nat.reduceMul, Nat.add_assoc, Nat.reduceAdd, List.length_cons, List.length_nil] at d0 l0 s0 s1 y1
  replace y1 := show w3.cell? ⟨b2, o2 + 1, none⟩ = some (.string ⟨#[49]⟩) from y1
  clear y0 y2 y3
  go_wp2_with fail
  refine HHI.out.mono ?_
  rintro e w4 ⟨v4, rfl, hown4, hk4⟩
  obtain ⟨a4, c4, rfl, -, -, -⟩ := ownsRow_row hown4
  have HP4 := Lib.hid (HP3.out.below hk4)
  clear d0 l0 s0 s1 y1 hown4 hk4 HHI
  simp only [show knownG.length = 4 from rfl]
  go_wp2_with (first
    | (refine wpList_buildBy rfl 36 #[(0, .const (.int .u8 6)), (1, .const (.int .i64 7)), (4, .const (.string ⟨#[97, 47, 43]⟩)), (3, .const (.string ⟨#[120]⟩))] rfl _ rfl I4 [(0, .int .u8 6), (1, .int .i64 7), (4, .string ⟨#[97, 47, 43]⟩), (3, .string ⟨#[120]⟩)] (by kernel_rfl) (HB4.out ()) ?_)
    | (refine HBS1.out _ _ _ _ _ _ rfl _ rfl rfl _ rfl w4.heap.size rfl ?_)
    | fail)
  refine (HDO4.out h F3 w4 [] HP4.out).mono ?_
  rintro e w5 ⟨v5, M5, F5, rfl, hp5, hu5, ho5⟩
  rw [known_m4] at ho5
  rw [known_s4] at hp5
  obtain ⟨x0, rfl, h0⟩ := mails1 ho5.ms
  obtain ⟨a5, c5, rfl, hr5, -, -⟩ := ownsRow_row ho5.own
  obtain ⟨_, _, _, _, rfl, -, -⟩ := h0
  obtain ⟨b5, o5, rfl, r5⟩ := row_mid (mk := Mail.cells) (m := 40) mail_len hr5 (k := 0) (by simp) (by decide)
  have g5 := range_blk5 r5
  clear hr5 r5 ho5 hu5
  have HP5 := Lib.hid (show Hb W w5 h 4 8 ⟨knownG3, [m1.kept]⟩ (.pointer none) [] F5 from hp5.nolog)
  clear hp5
  have G5 := Lib.hid g5
  clear g5
  go_wp2_with fail
  refine (HRT.out _).mono ?_
  rintro e w6 ⟨rfl, hk6⟩
  have HK6 := Lib.hid (bnext hk6 (Nat.le_refl _) (low_alloc w6 (.cells (itemsV [routedI]).toArray 36)))
  clear hk6
  go_wp2_with (first
    | (refine HBSR.out _ _ _ _ _ _ rfl _ rfl rfl _ rfl w6.heap.size rfl ?_)
    | fail)
  generalize w6.alloc (.cells (itemsV [routedI]).toArray 36) = w7 at *
  refine (do_nil _ _ _ _ _).mono ?_
  rintro e w8 ⟨rfl, rfl⟩
  go_wp2_with fail
  refine (hints_nil _).mono ?_
  rintro e w8 ⟨rfl, rfl⟩
  go_wp2_with fail
  refine (kept_nil _).mono ?_
  rintro e w8 ⟨rfl, rfl⟩
  have q0 := (G5.out w7 HK6.out).dest
  have q1 := (G5.out w7 HK6.out).kind
  have q2 := (G5.out w7 HK6.out).op
  have q3 := (G5.out w7 HK6.out).client
  replace q0 := show w7.cell? ⟨b5, o5, none⟩ = some (.int .i64 0) from q0
  replace q1 := show w7.cell? ⟨b5, o5 + 2, none⟩ = some (.int .u8 9) from q1
  replace q2 := show w7.cell? ⟨b5, o5 + 3, none⟩ = some (.int .i64 7) from q2
  replace q3 := show w7.cell? ⟨b5, o5 + 5, none⟩ = some (.string ⟨#[120]⟩) from q3
  have HP7 := Lib.hid (HP5.out.below HK6.out)
  clear HP5 HK6 G5
  go_wp2_with fail
  refine (hints_any W h 4 _ _ _ _ F5 w7 HP7.out (by decide)).mono ?_
  rintro e w8 ⟨v8, rfl, hown8, hk8⟩
  obtain ⟨a8, c8, rfl, hr8, -, -⟩ := ownsRow_row hown8
  have HP8 := Lib.hid (HP7.out.below hk8)
  have HR8 := Lib.hid hr8
  clear q0 q1 q2 q3 hown8 hk8 hr8 HP7
  go_wp2_with fail
  have hb9 := low_alloc w8 (.cells (hintsV knownG3).toArray 47)
  have hrn := row_new w8 (hintsV knownG3) 47
  rw [show (w8.alloc (.cells #[.string ⟨#[35]⟩, .string ⟨#[121]⟩, .string ⟨#[97]⟩, .string ⟨#[122]⟩, .string ⟨#[97, 47, 35]⟩, .string ⟨#[122]⟩] 47)) = w8.alloc (.cells (hintsV knownG3).toArray 47) from rfl]
  have HP9 := Lib.hid (HP8.out.below hb9)
  have HR9 := Lib.hid (HR8.out.below hb9 (Nat.le_refl _))
  have HRN := Lib.hid hrn
  clear hb9 hrn HP8 HR8
  generalize hwb : w8.heap.size = nb at *
  generalize w8.alloc (.cells (hintsV knownG3).toArray 47) = w9 at *
  refine (sameH_any true a8 (some ⟨nb, 0, none⟩) c8 3 knownG3 knownG3 w9 HR9.out HRN.out (by decide) (by simp)).mono ?_
  rintro e w10 ⟨rfl, nd, rfl⟩
  have HP10 := Lib.hid (HP9.out.below (drewN_below _ nd))
  generalize w9.drewN nd = w10 at *
  go_wp2_with fail
  refine (HAW.out _ HP10.out.bel).mono ?_
  rintro e w11 ⟨rfl, hk⟩
  have HK := Lib.hid (bnext HP10.out.bel (Nat.le_refl _) hk)
  clear hk
  go_wp2_with fail
  go_ret
  exact ⟨rfl, HK.out⟩
end Go.Proofs.YthfdcphecggjeaaGreatDoor
