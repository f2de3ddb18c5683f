/- The hub's laws: rows of items that are built; the chapter's hub; awake walked. (Printed by gen_haw.py.) The hub's laws: SameHints walked. (Cut out of RAct.) The hub's laws: rows of mails, of notes, that are the same. (Printed by gen_hsame.py.) The hub's laws: SameItem, SameMails, SameRow walked, at rows that are the same. (Printed by gen_hsame2.py.) The hub's laws: SameMails walked, at rows that are the same. (Printed by gen_hsame3.py.) The hub's laws: Same (of notes), SameRow walked, at rows that are the same. (Printed by gen_hsame4.py.) The hub's laws: two hubs side by side; a log of the call's own; an empty row appended. -/
import Derived.Test.YthfdcphecggjeaaGreatDoorQY
import Derived.Test.YthfdcphecggjeaaGreatDoorQP
import Derived.Test.YthfdcphecggjeaaGreatDoorKHelp
import Derived.Test.YthfdcphecggjeaaGreatDoorQX
import Derived.Deep.CutBlock
namespace Go.Proofs.YthfdcphecggjeaaGreatDoor
section
open Go Go.RowKit

theorem T_item : ElemT Tryz.prog 22 36 (.agg itemZ.cells.toArray) 38 384 := ⟨Tryz.underlying22, by kernel_rfl, by kernel_rfl, by decide⟩
theorem build_items1 (x0 : Item) (ops : Array Oper) (rest : List Oper) (o : Oper) (a : Act) (w : World) (Q : Exit → Act → World → Prop) (hg : o.guard = none) (A0 : Operand) (ho : o.op = .buildSlice 22 1 #[(0, A0)]) (h0 : a.eval A0 = .agg x0.cells.toArray)
    (d : Option Tmp) (hd : o.dst = d) (nb : Nat) (hnb : w.heap.size = nb) (h : wpList Tryz.prog ops Q rest (a.put d (.slice (some ⟨nb, 0, none⟩) 1 1)) (w.alloc (.cells (itemsV [x0]).toArray 36))) : wpList Tryz.prog ops Q (o :: rest) a w := by
  subst hd hnb
  refine wpList_plain hg fun K hK => ?_
  obtain ⟨i, hi, hz0, hz1, hz2⟩ := info_parts T_item.hi
  refine wp_buildSlice 22 36 1 _ ho (itemsV [x0]).toArray i _ Tryz.underlying22 hi hz0 (by rw [hz1]; decide) (by rw [hz1]; decide) ?_ (hK _ _ h)
  rw [hz1]
  simp only [List.map_toArray, List.map_cons, List.map_nil, h0]
  clear h0 h hK ho hi hz0 hz1 hz2
  obtain ⟨k0_, o0_, n0_, c0_, f0_, ⟨a0_, b0_, d0_, e0_, g0_, h0_, i0_, j0_, l0_, m0_, p0_, q0_, ⟨r0_, s0_, t0_, u0_⟩, v0_, w0_, x0_, y0_, z0_, aa0_, ab0_, ac0_, ad0_, ae0_⟩, ⟨af0_, ag0_, ah0_, ai0_⟩, aj0_, ak0_, al0_, am0_, an0_, ao0_, ap0_, aq0_, ar0_, as0_, at0_⟩ := x0
  kernel_rfl
theorem build_items3 (x0 x1 x2 : Item) (ops : Array Oper) (rest : List Oper) (o : Oper) (a : Act) (w : World) (Q : Exit → Act → World → Prop) (hg : o.guard = none) (A0 A1 A2 : Operand) (ho : o.op = .buildSlice 22 3 #[(0, A0), (1, A1), (2, A2)]) (h0 : a.eval A0 = .agg x0.cells.toArray) (h1 : a.eval A1 = .agg x1.cells.toArray) (h2 : a.eval A2 = .agg x2.cells.toArray)
    (d : Option Tmp) (hd : o.dst = d) (nb : Nat) (hnb : w.heap.size = nb) (h : wpList Tryz.prog ops Q rest (a.put d (.slice (some ⟨nb, 0, none⟩) 3 3)) (w.alloc (.cells (itemsV [x0, x1, x2]).toArray 36))) : wpList Tryz.prog ops Q (o :: rest) a w := by
  subst hd hnb
  refine wpList_plain hg fun K hK => ?_
  obtain ⟨i, hi, hz0, hz1, hz2⟩ := info_parts T_item.hi
  refine wp_buildSlice 22 36 3 _ ho (itemsV [x0, x1, x2]).toArray i _ Tryz.underlying22 hi hz0 (by rw [hz1]; decide) (by rw [hz1]; decide) ?_ (hK _ _ h)
  rw [hz1]
  simp only [List.map_toArray, List.map_cons, List.map_nil, h0, h1, h2]
  clear h0 h1 h2 h hK ho hi hz0 hz1 hz2
  obtain ⟨k0_, o0_, n0_, c0_, f0_, ⟨a0_, b0_, d0_, e0_, g0_, h0_, i0_, j0_, l0_, m0_, p0_, q0_, ⟨r0_, s0_, t0_, u0_⟩, v0_, w0_, x0_, y0_, z0_, aa0_, ab0_, ac0_, ad0_, ae0_⟩, ⟨af0_, ag0_, ah0_, ai0_⟩, aj0_, ak0_, al0_, am0_, an0_, ao0_, ap0_, aq0_, ar0_, as0_, at0_⟩ := x0
  obtain ⟨k1_, o1_, n1_, c1_, f1_, ⟨a1_, b1_, d1_, e1_, g1_, h1_, i1_, j1_, l1_, m1_, p1_, q1_, ⟨r1_, s1_, t1_, u1_⟩, v1_, w1_, x1_, y1_, z1_, aa1_, ab1_, ac1_, ad1_, ae1_⟩, ⟨af1_, ag1_, ah1_, ai1_⟩, aj1_, ak1_, al1_, am1_, an1_, ao1_, ap1_, aq1_, ar1_, as1_, at1_⟩ := x1
  obtain ⟨k2_, o2_, n2_, c2_, f2_, ⟨a2_, b2_, d2_, e2_, g2_, h2_, i2_, j2_, l2_, m2_, p2_, q2_, ⟨r2_, s2_, t2_, u2_⟩, v2_, w2_, x2_, y2_, z2_, aa2_, ab2_, ac2_, ad2_, ae2_⟩, ⟨af2_, ag2_, ah2_, ai2_⟩, aj2_, ak2_, al2_, am2_, an2_, ao2_, ap2_, aq2_, ar2_, as2_, at2_⟩ := x2
  kernel_rfl
theorem Hb.nolog {w0 w : World} {h n k : Nat} {s : HubS} {ns : List NoteK} {F : List Nat} (p : Hb w0 w h n k s (.pointer none) ns F) : Hb w0 w h n k s (.pointer none) [] F := by
  obtain ⟨t, kg, N, Ft, KF, G, P, rfl⟩ := p.p
  have hlg : LogAt w (.pointer none) [] G := by
    rcases P.lg with ⟨-, h⟩ | ⟨lg, v, h, -⟩
    · exact .inl ⟨rfl, h⟩
    · cases h
  exact ⟨⟨t, kg, N, Ft, KF, G, ⟨P.top, P.tr, P.kp, hlg, P.hT, P.hK, P.hG, P.tK, P.tG, P.kG⟩, rfl⟩, p.kl, by simp, p.ok, p.cl, p.up, p.fF, p.bel⟩
theorem upd_trans_h {w w1 w2 : World} {F F1 F2 : List Nat} (h : Upd F F1 w w1) (hu : Upd F1 F2 w1 w2) : Upd F F2 w w2 :=
  ⟨h.1.trans hu.1 h.2, fun k hk => (hu.2 k hk).elim (h.2 k) (fun h1 => .inr (Nat.le_trans h.1.size h1))⟩
theorem built_add (f c : ByteArray) : Tryz.prog.built 36 [(0, .int .u8 5), (4, .string f), (3, .string c)] = some (iAdd f c 0).cells.toArray := by kernel_rfl
theorem built_route0 (m : Msg) : Tryz.prog.built 36 [(0, .int .u8 7), (6, .agg #[.string m.t, .string m.p, .int .u8 m.q, .bool m.r])] = some (iRoute 0 ⟨#[]⟩ m 0).cells.toArray := by
  obtain ⟨t, p, q, r⟩ := m
  kernel_rfl
theorem beside_new {w : World} {F : List Nat} (hF : ∀ k ∈ F, k < w.heap.size) (l : List Item) (T : TypeId) : Beside (w.alloc (.cells (itemsV l).toArray T)) F (some ⟨w.heap.size, 0, none⟩) (itemsV l) := Beside.new hF _ _
set_option maxRecDepth 100000 in
set_option maxHeartbeats 4000000 in
theorem small_any (w0 w : World) (hb : Below w0.heap.size w0 w) (hT : Tabs w0) : Calls Tryz.prog 17 #[] w fun e w' => ∃ h F, e = .returned (.pointer (some ⟨h, 0, none⟩)) ∧ Hb w0 w' h 4 3 smallS (.pointer none) [] F ∧ Upd [] F w w' := by
  have HN := hub_yes w0 4 (by decide) (by decide) w hb
  rw [show ((4 : Nat) : Int) = 4 from rfl] at HN
  replace HN := Lib.hid HN
  have HT := Lib.hid hT
  have HB1 := Lib.hid (built_add ⟨#[97, 47, 43]⟩ ⟨#[120]⟩)
  have HB2 := Lib.hid (built_add ⟨#[35]⟩ ⟨#[121]⟩)
  have HB3 := Lib.hid (built_route0 m1)
  have HBS := Lib.hid (build_items3 (iAdd ⟨#[97, 47, 43]⟩ ⟨#[120]⟩ 0) (iAdd ⟨#[35]⟩ ⟨#[121]⟩ 0) (iRoute 0 ⟨#[]⟩ m1 0))
  have hsl : [iAdd ⟨#[97, 47, 43]⟩ ⟨#[120]⟩ 0, iAdd ⟨#[35]⟩ ⟨#[121]⟩ 0, iRoute 0 ⟨#[]⟩ m1 0] = smallL := rfl
  rw [hsl] at HBS
  have HDO := Lib.hid (fun h F w1 (hp : Hb w0 w1 h 4 0 HubS.new (.pointer none) [] F) => hdo_any w0 h 4 0 HubS.new (.pointer none) [] F smallL (some ⟨w1.heap.size, 0, none⟩) 3 (w1.alloc (.cells (itemsV smallL).toArray 36)) (hp.below (low_alloc _ _)) hT small_ok (by decide) (by decide) (by decide) (beside_new hp.lt _ _) [] (by simp))
  clear hsl hb hT
  generalize (iAdd ⟨#[97, 47, 43]⟩ ⟨#[120]⟩ 0).cells.toArray = I1 at *
  generalize (iAdd ⟨#[35]⟩ ⟨#[121]⟩ 0).cells.toArray = I2 at *
  generalize (iRoute 0 ⟨#[]⟩ m1 0).cells.toArray = I3 at *
  go_enter Tryz.func17, Tryz.ntmps17
  go_wp2_with fail
  refine HN.out.mono ?_
  rintro e w1 ⟨h, F, rfl, hp1, hu1⟩
  have HP1 := Lib.hid hp1
  have HU1 := Lib.hid hu1
  clear hp1 hu1
  go_wp2_with (first
    | (refine wpList_buildBy rfl 36 #[(0, .const (.int .u8 5)), (4, .const (.string ⟨#[97, 47, 43]⟩)), (3, .const (.string ⟨#[120]⟩))] rfl _ rfl I1 [(0, .int .u8 5), (4, .string ⟨#[97, 47, 43]⟩), (3, .string ⟨#[120]⟩)] (by kernel_rfl) HB1.out ?_)
    | (refine wpList_buildBy rfl 36 #[(0, .const (.int .u8 5)), (4, .const (.string ⟨#[35]⟩)), (3, .const (.string ⟨#[121]⟩))] rfl _ rfl I2 [(0, .int .u8 5), (4, .string ⟨#[35]⟩), (3, .string ⟨#[121]⟩)] (by kernel_rfl) HB2.out ?_)
    | (refine wpList_buildBy rfl 36 #[(0, .const (.int .u8 7)), (6, .tmp 8)] rfl _ rfl I3 [(0, .int .u8 7), (6, .agg #[.string m1.t, .string m1.p, .int .u8 m1.q, .bool m1.r])] (by kernel_rfl) HB3.out ?_)
    | (refine HBS.out _ _ _ _ _ _ rfl _ _ _ rfl rfl rfl rfl _ rfl w1.heap.size rfl ?_)
    | fail)
  refine (HDO.out h F w1 HP1.out).mono ?_
  rintro e w2 ⟨v, M, F2, rfl, hp2, hu2, -⟩
  have HP2 := Lib.hid hp2
  have HU2 := Lib.hid hu2
  clear hp2 hu2
  go_wp2_with fail
  go_ret
  refine ⟨h, F2, rfl, ?_, (upd_trans_h HU1.out (upd_trans_h ⟨Mod.of_below (low_alloc w1 _) _, fun _ hk => .inl hk⟩ HU2.out))⟩
  have := HP2.out
  rw [small_s] at this
  exact this.nolog
structure MailC (w : World) (b o : Nat) (m : Mail) : Prop where
  dest : w.cell? ⟨b, o, none⟩ = some (.int .i64 m.dest)
  lane : w.cell? ⟨b, o + 1, none⟩ = some (.int .i64 5)
  kind : w.cell? ⟨b, o + 2, none⟩ = some (.int .u8 m.it.kind)
  op : w.cell? ⟨b, o + 3, none⟩ = some (.int .i64 m.it.op)
  client : w.cell? ⟨b, o + 5, none⟩ = some (.string m.it.client)
  t : w.cell? ⟨b, o + 31, none⟩ = some (.string m.it.msg.t)
  p : w.cell? ⟨b, o + 32, none⟩ = some (.string m.it.msg.p)
  q : w.cell? ⟨b, o + 33, none⟩ = some (.int .u8 m.it.msg.q)
  r : w.cell? ⟨b, o + 34, none⟩ = some (.bool m.it.msg.r)
  ms : w.cell? ⟨b, o + 35, none⟩ = some (.slice m.it.msA m.it.ms.length m.it.msC)
  cls : w.cell? ⟨b, o + 36, none⟩ = some (.slice m.it.clsA m.it.cls.length m.it.clsC)
  many : w.cell? ⟨b, o + 39, none⟩ = some (.int .i64 m.it.many)
theorem mail_c {w : World} {b o : Nat} {m : Mail} (h : w.rangeAt b o m.cells) : MailC w b o m :=
  ⟨h 0 _ rfl, h 1 _ rfl, h 2 _ rfl, h 3 _ rfl, h 5 _ rfl, h 31 _ rfl, h 32 _ rfl, h 33 _ rfl, h 34 _ rfl, h 35 _ rfl, h 36 _ rfl, h 39 _ rfl⟩
theorem mails3 {w : World} {F : List Nat} {h0 h1 h2 : HMail} : ∀ {M : List Mail}, Mails w F M [h0, h1, h2] → ∃ m0 m1 m2, M = [m0, m1, m2] ∧ MailAt w F m0 h0 ∧ MailAt w F m1 h1 ∧ MailAt w F m2 h2
  | [m0, m1, m2], h => ⟨m0, m1, m2, rfl, h.1, h.2.1, h.2.2.1⟩
  | [], h => h.elim
  | [_], h => h.2.elim
  | [_, _], h => h.2.2.elim
  | _ :: _ :: _ :: _ :: _, h => h.2.2.2.elim
set_option maxRecDepth 100000 in
set_option maxHeartbeats 4000000 in
theorem routed_any (w : World) : Calls Tryz.prog 18 #[] w fun e w' => e = .returned (.agg routedI.cells.toArray) ∧ Below w.heap.size w w' := by
  have HBU := Lib.hid (show Tryz.prog.built 36 [(0, .int .u8 7), (1, .int .i64 3), (3, .string ⟨#[112]⟩), (6, .agg #[.string ⟨#[97, 47, 98]⟩, .string ⟨#[50]⟩, .int .u8 0, .bool false]), (10, .int .i64 2)] = some routedI.cells.toArray by kernel_rfl)
  have HIS := Lib.hid (item_size routedI)
  have HI38 : Hid ((38 : Nat) = routedI.cells.toArray.size) := Lib.hid rfl
  have HIO := Lib.hid (item_one routedI)
  generalize routedI.cells.toArray = RI at *
  have HBL := Lib.hid (low_alloc w (.cells RI 36))
  have HNB := Lib.hid (heap_alloc_new w (.cells RI 36))
  go_enter Tryz.func18, Tryz.ntmps18
  go_wp2_with (first
    | (refine wpList_buildBy rfl 36 _ rfl _ rfl RI [(0, .int .u8 7), (1, .int .i64 3), (3, .string ⟨#[112]⟩), (6, .agg #[.string ⟨#[97, 47, 98]⟩, .string ⟨#[50]⟩, .int .u8 0, .bool false]), (10, .int .i64 2)] (by kernel_rfl) HBU.out ?_)
    | (refine wpList_store_newTo rfl 36 _ _ rfl rfl w.heap.size rfl RI _ rfl rfl HIS.out HI38.out HIO.out ?_)
    | fail)
  (try simp only [Exit.inBlock, Exit.then])
  exact bodyPost_ret (results_cell_row rfl _ _ w.heap.size 36 RI (0, 0) _ rfl HNB.out Tryz.underlying36 rfl HIS.out) rfl ⟨rfl, HBL.out⟩
set_option maxRecDepth 100000 in
set_option maxHeartbeats 4000000 in
theorem awake19 (w0 w : World) (hb : Below w0.heap.size w0 w) (hT : Tabs w0) : Calls Tryz.prog 11 #[] w fun e w' => e = .returned (.bool true) ∧ Below w.heap.size w w' := by
  have HSM := Lib.hid (small_any w0 w hb hT)
  have HT := Lib.hid hT
  have HRT := Lib.hid routed_any
  have HBS := Lib.hid (build_items1 routedI)
  have HDO := Lib.hid (fun h F w1 (hp : Hb w0 w1 h 4 3 smallS (.pointer none) [] F) => hdo_any w0 h 4 3 smallS (.pointer none) [] F [routedI] (some ⟨w1.heap.size, 0, none⟩) 1 (w1.alloc (.cells (itemsV [routedI]).toArray 36)) (hp.below (low_alloc _ _)) hT (by simpa using routed_ok) (by decide) (by decide) (by decide) (beside_new hp.lt _ _) [] (by simp))
  clear hb hT
  generalize routedI.cells.toArray = RI at *
  go_enter Tryz.func11, Tryz.ntmps11
  go_wp2_with fail
  refine HSM.out.mono ?_
  rintro e w1 ⟨h, F, rfl, hp1, hu1⟩
  have HP1 := Lib.hid hp1
  have HU1 := Lib.hid hu1
  clear hp1 hu1
  go_wp2_with fail
  refine (HRT.out _).mono ?_
  rintro e w2 ⟨rfl, hk2⟩
  have HP2 := Lib.hid (HP1.out.below hk2)
  have HU2 := Lib.hid (upd_trans_h HU1.out ⟨Mod.of_below hk2 F, fun _ h => .inl h⟩)
  clear hk2
  go_wp2_with (first
    | (refine HBS.out _ _ _ _ _ _ rfl _ rfl rfl _ rfl w2.heap.size rfl ?_)
    | fail)
  refine (HDO.out h F w2 HP2.out).mono ?_
  rintro e w3 ⟨v, M, F3, rfl, hp3, hu3, ho3⟩
  rw [routed_mails] at ho3
  rw [routed_state] at hp3
  obtain ⟨m0, m1', m2', rfl, h0, h1, h2⟩ := mails3 ho3.ms
  obtain ⟨a, cc, rfl, hr, -, -⟩ := ownsRow_row ho3.own
  obtain ⟨_, _, _, _, rfl, -, -⟩ := h0
  obtain ⟨_, _, _, _, rfl, -, -⟩ := h1
  obtain ⟨_, _, _, _, rfl, -, -⟩ := h2
  obtain ⟨b, o, rfl, r0⟩ := row_mid (mk := Mail.cells) (m := 40) mail_len hr (k := 0) (by simp) (by decide)
  obtain ⟨b', o', e1, r1⟩ := row_mid (mk := Mail.cells) (m := 40) mail_len hr (k := 1) (by simp) (by decide)
  cases e1
  obtain ⟨b', o', e1, r2⟩ := row_mid (mk := Mail.cells) (m := 40) mail_len hr (k := 2) (by simp) (by decide)
  cases e1
  have d0 := (mail_c r0).dest
  have d1 := (mail_c r1).dest
  have d2 := (mail_c r2).dest
  have k2 := (mail_c r2).kind
  have n2 := (mail_c r2).many
  have HHI := Lib.hid (hints_any w0 h 4 _ smallS _ _ F3 w3 hp3 (by decide))
  have HU3 := Lib.hid (upd_trans_h HU2.out (upd_trans_h ⟨Mod.of_below (low_alloc w2 (.cells (itemsV [routedI]).toArray 36)) F, fun _ h => .inl h⟩ hu3))
  clear hp3 hu3 ho3 hr r0 r1 r2
  simp only [List.getElem_cons_zero, List.getElem_cons_succ, toM, backM, itemOf, Nat.zero_mul, Nat.add_zero, Nat.reduceMul, Nat.add_assoc, Nat.reduceAdd] at d0 d1 d2 k2 n2
  go_wp2_with fail
  refine HHI.out.mono ?_
  rintro e w4 ⟨v4, rfl, hown4, hk4⟩
  obtain ⟨a4, c4, rfl, -, -, -⟩ := ownsRow_row hown4
  have hl2 : smallS.gs.length = 2 := rfl
  rw [hl2]
  have HB4 := Lib.hid (bnext (HU3.out.1.below (Nat.le_refl _) (by simp)) (Nat.le_refl _) hk4)
  clear hown4 hk4 hl2 d0 d1 d2 k2 n2
  go_wp2_with fail
  go_ret
  exact ⟨rfl, HB4.out⟩
end
section
open Go Go.RowKit

theorem mk_inj {a b : Str} : (⟨a.toArray⟩ : ByteArray) = ⟨b.toArray⟩ ↔ a = b := by
  constructor
  · intro h
    have := congrArg (fun x : ByteArray => x.data.toList) h
    simpa using this
  · rintro rfl; rfl
theorem hint_neq (b : Bool) (w : World) (f c f' c' : Str) (h : decide (((f, c) : Hint) = (f', c')) = b) :
    (binOp .neq 47 (.agg #[.string ⟨f.toArray⟩, .string ⟨c.toArray⟩]) (.agg #[.string ⟨f'.toArray⟩, .string ⟨c'.toArray⟩])).run Tryz.prog w = .ok (.bool (!b)) w := by
  have hst : Tryz.prog.stoodInHeld 47 = false := by kernel_rfl
  have hgd : Tryz.prog.eqGuardType Tryz.prog.depth 47 = false := by kernel_rfl
  go_simp
  try simp only [ba_toList, mk_inj]
  subst h
  by_cases h1 : f = f'
  · by_cases h2 : c = c' <;> simp [h1, h2]
  · simp [h1]
theorem hint_eql (b : Bool) (w : World) (f c f' c' : Str) (h : decide (((f, c) : Hint) = (f', c')) = b) :
    (binOp .eql 47 (.agg #[.string ⟨f.toArray⟩, .string ⟨c.toArray⟩]) (.agg #[.string ⟨f'.toArray⟩, .string ⟨c'.toArray⟩])).run Tryz.prog w = .ok (.bool b) w := by
  have hst : Tryz.prog.stoodInHeld 47 = false := by kernel_rfl
  have hgd : Tryz.prog.eqGuardType Tryz.prog.depth 47 = false := by kernel_rfl
  go_simp
  try simp only [ba_toList, mk_inj]
  subst h
  by_cases h1 : f = f'
  · by_cases h2 : c = c' <;> simp [h1, h2]
  · simp [h1]

set_option maxRecDepth 100000 in
set_option maxHeartbeats 2000000 in
theorem sameH_any (bb : Bool) (a b : Option Addr) (c d : Nat) (l m : List Hint) (w : World) (ha : Row w a (hintsV l)) (hb : Row w b (hintsV m)) (hm : m.length ≤ 100000) (hbb : decide (l = m) = bb) :
    Calls Tryz.prog 20 #[.slice a l.length c, .slice b m.length d] w fun e w' => e = .returned (.bool bb) ∧ ∃ n, w' = w.drewN n := by
  have HBB := Lib.hid hbb
  have HA := Lib.hid ha
  have HB := Lib.hid hb
  clear ha hb hbb
  by_cases hlen : l.length = m.length
  · have HL := Lib.hid hlen
    rw [hlen]
    have hl' : m.length ≤ 100000 := hm
    clear hlen
    go_enter Tryz.func20, Tryz.ntmps20
    go_wp2_with fail
    go_loopw [5] (fun i wr => ∃ k : Nat, i = .int .i64 k ∧ k ≤ m.length ∧ (∃ n, wr = w.drewN n) ∧ l.take k = m.take k) (fun i _ => (m.length - intOf i).toNat)
    case atStart => exact ⟨0, rfl, by omega, ⟨0, rfl⟩, by simp⟩
    case round =>
      obtain ⟨k, rfl, hk, ⟨n, rfl⟩, htk⟩ := hrel
      have HTK := Lib.hid htk
      clear htk
      by_cases hlt : k < m.length
      · have hlt' : k < l.length := by rw [HL.out]; exact hlt
        obtain ⟨b1, o1, rfl, k0, k1⟩ := hints_row HA.out hlt'
        obtain ⟨b2, o2, rfl, j0, j1⟩ := hints_row HB.out hlt
        have h1 : l.take (k + 1) = l.take k ++ [l[k]] := List.take_succ_eq_append_getElem hlt'
        have h2 : m.take (k + 1) = m.take k ++ [m[k]] := List.take_succ_eq_append_getElem hlt
        have HE : Hid (l[k] = m[k] → l.take (k + 1) = m.take (k + 1)) := Lib.hid (fun e => by rw [h1, h2, HTK.out, e])
        have HN : Hid (l[k] ≠ m[k] → false = bb) := Lib.hid (fun e => by rw [← HBB.out]; symm; simp only [decide_eq_false_iff_not]; rintro rfl; exact e rfl)
        clear h1 h2
        generalize l[k] = x at *
        generalize m[k] = y at *
        obtain ⟨xf, xc⟩ := x
        obtain ⟨yf, yc⟩ := y
        have hk0 : (0 : Int) ≤ k := by omega
        have hkl : (k : Int) < m.length := by omega
        simp only at k0 k1 j0 j1
        obtain ⟨b, hb⟩ : ∃ b, decide (((xf, xc) : Hint) = (yf, yc)) = b := ⟨_, rfl⟩
        have hcmp := fun w => hint_neq b w xf xc yf yc hb
        cases b with
        | true =>
          have HE' := Lib.hid (HE.out (of_decide_eq_true hb))
          clear HE HN hb
          go_wp2_with fail
          go_quiet (fail)
          go_wp2_with fail
          go_roundw
          case rel => exact ⟨k + 1, by go_num, by omega, ⟨n + _, rfl⟩, HE'.out⟩
          case measure => simp [intOf]; omega
        | false =>
          have HN' := Lib.hid (HN.out (of_decide_eq_false hb))
          clear HE HN hb
          go_wp2_with fail
          go_quiet (fail)
          go_wp2_with fail
          go_ret
          exact ⟨ret_bool HN'.out, _, World.drewN_drewN _ _ _⟩
      · have hkl : ¬ (k : Int) < m.length := by omega
        have HBT : Hid (true = bb) := Lib.hid (by
          have := HTK.out
          have hL := HL.out
          rw [List.take_of_length_le (by omega), List.take_of_length_le (by omega)] at this
          rw [← HBB.out, this]; simp)
        go_wp2_with fail
        go_ret
        exact ⟨ret_bool HBT.out, n, rfl⟩
  · have hne : ((l.length : Int) == m.length) = false := by simp; omega
    have HN : Hid (false = bb) := Lib.hid (by rw [← HBB.out]; symm; simp only [decide_eq_false_iff_not]; rintro rfl; exact hlen rfl)
    clear hlen
    go_enter Tryz.func20, Tryz.ntmps20
    go_wp2_with fail
    go_ret
    exact ⟨ret_bool HN.out, 0, rfl⟩
end
section
open Go Go.RowKit

set_option maxRecDepth 100000 in
set_option maxHeartbeats 4000000 in
theorem same_pz (w : World) : Calls Tryz.prog 101 #[.agg pkZ.cells.toArray, .agg pkZ.cells.toArray] w fun e w' => e = .returned (.bool true) ∧ Below w.heap.size w w' := by
  have HB : Hid (Below w.heap.size w ((w.alloc (.cells pkZ.cells.toArray 31)).alloc (.cells pkZ.cells.toArray 31))) := Lib.hid (((Below.refl _ _).alloc (Nat.le_refl _) _).alloc (by simp) _)
  have hA : ((w.alloc (.cells pkZ.cells.toArray 31)).alloc (.cells pkZ.cells.toArray 31)).heap[w.heap.size]? = some (.cells pkZ.cells.toArray 31 (0, 0)) := (Below.heap_alloc _ _ _ (by simp)).trans (heap_alloc_new w _)
  have hB : ((w.alloc (.cells pkZ.cells.toArray 31)).alloc (.cells pkZ.cells.toArray 31)).heap[w.heap.size + 1]? = some (.cells pkZ.cells.toArray 31 (0, 0)) := by
    have := heap_alloc_new (w.alloc (.cells pkZ.cells.toArray 31)) (.cells pkZ.cells.toArray 31)
    rwa [show (w.alloc (.cells pkZ.cells.toArray 31)).heap.size = w.heap.size + 1 by simp] at this
  have a0 : ((w.alloc (.cells pkZ.cells.toArray 31)).alloc (.cells pkZ.cells.toArray 31)).cell? ⟨w.heap.size, 0, none⟩ = some (.int .u8 0) := cell_of_row _ _ 0 _ _ _ hA
  have b0 : ((w.alloc (.cells pkZ.cells.toArray 31)).alloc (.cells pkZ.cells.toArray 31)).cell? ⟨w.heap.size + 1, 0, none⟩ = some (.int .u8 0) := cell_of_row _ _ 0 _ _ _ hB
  have a1 : ((w.alloc (.cells pkZ.cells.toArray 31)).alloc (.cells pkZ.cells.toArray 31)).cell? ⟨w.heap.size, 1, none⟩ = some (.bool false) := cell_of_row _ _ 1 _ _ _ hA
  have b1 : ((w.alloc (.cells pkZ.cells.toArray 31)).alloc (.cells pkZ.cells.toArray 31)).cell? ⟨w.heap.size + 1, 1, none⟩ = some (.bool false) := cell_of_row _ _ 1 _ _ _ hB
  have a2 : ((w.alloc (.cells pkZ.cells.toArray 31)).alloc (.cells pkZ.cells.toArray 31)).cell? ⟨w.heap.size, 2, none⟩ = some (.int .u8 0) := cell_of_row _ _ 2 _ _ _ hA
  have b2 : ((w.alloc (.cells pkZ.cells.toArray 31)).alloc (.cells pkZ.cells.toArray 31)).cell? ⟨w.heap.size + 1, 2, none⟩ = some (.int .u8 0) := cell_of_row _ _ 2 _ _ _ hB
  have a3 : ((w.alloc (.cells pkZ.cells.toArray 31)).alloc (.cells pkZ.cells.toArray 31)).cell? ⟨w.heap.size, 3, none⟩ = some (.bool false) := cell_of_row _ _ 3 _ _ _ hA
  have b3 : ((w.alloc (.cells pkZ.cells.toArray 31)).alloc (.cells pkZ.cells.toArray 31)).cell? ⟨w.heap.size + 1, 3, none⟩ = some (.bool false) := cell_of_row _ _ 3 _ _ _ hB
  have a4 : ((w.alloc (.cells pkZ.cells.toArray 31)).alloc (.cells pkZ.cells.toArray 31)).cell? ⟨w.heap.size, 4, none⟩ = some (.int .u16 0) := cell_of_row _ _ 4 _ _ _ hA
  have b4 : ((w.alloc (.cells pkZ.cells.toArray 31)).alloc (.cells pkZ.cells.toArray 31)).cell? ⟨w.heap.size + 1, 4, none⟩ = some (.int .u16 0) := cell_of_row _ _ 4 _ _ _ hB
  have a5 : ((w.alloc (.cells pkZ.cells.toArray 31)).alloc (.cells pkZ.cells.toArray 31)).cell? ⟨w.heap.size, 5, none⟩ = some (.string ⟨#[]⟩) := cell_of_row _ _ 5 _ _ _ hA
  have b5 : ((w.alloc (.cells pkZ.cells.toArray 31)).alloc (.cells pkZ.cells.toArray 31)).cell? ⟨w.heap.size + 1, 5, none⟩ = some (.string ⟨#[]⟩) := cell_of_row _ _ 5 _ _ _ hB
  have a6 : ((w.alloc (.cells pkZ.cells.toArray 31)).alloc (.cells pkZ.cells.toArray 31)).cell? ⟨w.heap.size, 6, none⟩ = some (.string ⟨#[]⟩) := cell_of_row _ _ 6 _ _ _ hA
  have b6 : ((w.alloc (.cells pkZ.cells.toArray 31)).alloc (.cells pkZ.cells.toArray 31)).cell? ⟨w.heap.size + 1, 6, none⟩ = some (.string ⟨#[]⟩) := cell_of_row _ _ 6 _ _ _ hB
  have a7 : ((w.alloc (.cells pkZ.cells.toArray 31)).alloc (.cells pkZ.cells.toArray 31)).cell? ⟨w.heap.size, 7, none⟩ = some (.int .u8 0) := cell_of_row _ _ 7 _ _ _ hA
  have b7 : ((w.alloc (.cells pkZ.cells.toArray 31)).alloc (.cells pkZ.cells.toArray 31)).cell? ⟨w.heap.size + 1, 7, none⟩ = some (.int .u8 0) := cell_of_row _ _ 7 _ _ _ hB
  have a8 : ((w.alloc (.cells pkZ.cells.toArray 31)).alloc (.cells pkZ.cells.toArray 31)).cell? ⟨w.heap.size, 8, none⟩ = some (.bool false) := cell_of_row _ _ 8 _ _ _ hA
  have b8 : ((w.alloc (.cells pkZ.cells.toArray 31)).alloc (.cells pkZ.cells.toArray 31)).cell? ⟨w.heap.size + 1, 8, none⟩ = some (.bool false) := cell_of_row _ _ 8 _ _ _ hB
  have a9 : ((w.alloc (.cells pkZ.cells.toArray 31)).alloc (.cells pkZ.cells.toArray 31)).cell? ⟨w.heap.size, 9, none⟩ = some (.int .u16 0) := cell_of_row _ _ 9 _ _ _ hA
  have b9 : ((w.alloc (.cells pkZ.cells.toArray 31)).alloc (.cells pkZ.cells.toArray 31)).cell? ⟨w.heap.size + 1, 9, none⟩ = some (.int .u16 0) := cell_of_row _ _ 9 _ _ _ hB
  have a10 : ((w.alloc (.cells pkZ.cells.toArray 31)).alloc (.cells pkZ.cells.toArray 31)).cell? ⟨w.heap.size, 10, none⟩ = some (.string ⟨#[]⟩) := cell_of_row _ _ 10 _ _ _ hA
  have b10 : ((w.alloc (.cells pkZ.cells.toArray 31)).alloc (.cells pkZ.cells.toArray 31)).cell? ⟨w.heap.size + 1, 10, none⟩ = some (.string ⟨#[]⟩) := cell_of_row _ _ 10 _ _ _ hB
  have a11 : ((w.alloc (.cells pkZ.cells.toArray 31)).alloc (.cells pkZ.cells.toArray 31)).cell? ⟨w.heap.size, 11, none⟩ = some (.bool false) := cell_of_row _ _ 11 _ _ _ hA
  have b11 : ((w.alloc (.cells pkZ.cells.toArray 31)).alloc (.cells pkZ.cells.toArray 31)).cell? ⟨w.heap.size + 1, 11, none⟩ = some (.bool false) := cell_of_row _ _ 11 _ _ _ hB
  have a12 : ((w.alloc (.cells pkZ.cells.toArray 31)).alloc (.cells pkZ.cells.toArray 31)).cell? ⟨w.heap.size, 12, none⟩ = some (.string ⟨#[]⟩) := cell_of_row _ _ 12 _ _ _ hA
  have b12 : ((w.alloc (.cells pkZ.cells.toArray 31)).alloc (.cells pkZ.cells.toArray 31)).cell? ⟨w.heap.size + 1, 12, none⟩ = some (.string ⟨#[]⟩) := cell_of_row _ _ 12 _ _ _ hB
  have a13 : ((w.alloc (.cells pkZ.cells.toArray 31)).alloc (.cells pkZ.cells.toArray 31)).cell? ⟨w.heap.size, 13, none⟩ = some (.string ⟨#[]⟩) := cell_of_row _ _ 13 _ _ _ hA
  have b13 : ((w.alloc (.cells pkZ.cells.toArray 31)).alloc (.cells pkZ.cells.toArray 31)).cell? ⟨w.heap.size + 1, 13, none⟩ = some (.string ⟨#[]⟩) := cell_of_row _ _ 13 _ _ _ hB
  have a14 : ((w.alloc (.cells pkZ.cells.toArray 31)).alloc (.cells pkZ.cells.toArray 31)).cell? ⟨w.heap.size, 14, none⟩ = some (.int .u8 0) := cell_of_row _ _ 14 _ _ _ hA
  have b14 : ((w.alloc (.cells pkZ.cells.toArray 31)).alloc (.cells pkZ.cells.toArray 31)).cell? ⟨w.heap.size + 1, 14, none⟩ = some (.int .u8 0) := cell_of_row _ _ 14 _ _ _ hB
  have a15 : ((w.alloc (.cells pkZ.cells.toArray 31)).alloc (.cells pkZ.cells.toArray 31)).cell? ⟨w.heap.size, 15, none⟩ = some (.bool false) := cell_of_row _ _ 15 _ _ _ hA
  have b15 : ((w.alloc (.cells pkZ.cells.toArray 31)).alloc (.cells pkZ.cells.toArray 31)).cell? ⟨w.heap.size + 1, 15, none⟩ = some (.bool false) := cell_of_row _ _ 15 _ _ _ hB
  have a16 : ((w.alloc (.cells pkZ.cells.toArray 31)).alloc (.cells pkZ.cells.toArray 31)).cell? ⟨w.heap.size, 16, none⟩ = some (.bool false) := cell_of_row _ _ 16 _ _ _ hA
  have b16 : ((w.alloc (.cells pkZ.cells.toArray 31)).alloc (.cells pkZ.cells.toArray 31)).cell? ⟨w.heap.size + 1, 16, none⟩ = some (.bool false) := cell_of_row _ _ 16 _ _ _ hB
  have a17 : ((w.alloc (.cells pkZ.cells.toArray 31)).alloc (.cells pkZ.cells.toArray 31)).cell? ⟨w.heap.size, 17, none⟩ = some (.bool false) := cell_of_row _ _ 17 _ _ _ hA
  have b17 : ((w.alloc (.cells pkZ.cells.toArray 31)).alloc (.cells pkZ.cells.toArray 31)).cell? ⟨w.heap.size + 1, 17, none⟩ = some (.bool false) := cell_of_row _ _ 17 _ _ _ hB
  have a18 : ((w.alloc (.cells pkZ.cells.toArray 31)).alloc (.cells pkZ.cells.toArray 31)).cell? ⟨w.heap.size, 18, none⟩ = some (.string ⟨#[]⟩) := cell_of_row _ _ 18 _ _ _ hA
  have b18 : ((w.alloc (.cells pkZ.cells.toArray 31)).alloc (.cells pkZ.cells.toArray 31)).cell? ⟨w.heap.size + 1, 18, none⟩ = some (.string ⟨#[]⟩) := cell_of_row _ _ 18 _ _ _ hB
  have a19 : ((w.alloc (.cells pkZ.cells.toArray 31)).alloc (.cells pkZ.cells.toArray 31)).cell? ⟨w.heap.size, 19, none⟩ = some (.string ⟨#[]⟩) := cell_of_row _ _ 19 _ _ _ hA
  have b19 : ((w.alloc (.cells pkZ.cells.toArray 31)).alloc (.cells pkZ.cells.toArray 31)).cell? ⟨w.heap.size + 1, 19, none⟩ = some (.string ⟨#[]⟩) := cell_of_row _ _ 19 _ _ _ hB
  have a20 : ((w.alloc (.cells pkZ.cells.toArray 31)).alloc (.cells pkZ.cells.toArray 31)).cell? ⟨w.heap.size, 20, none⟩ = some (.bool false) := cell_of_row _ _ 20 _ _ _ hA
  have b20 : ((w.alloc (.cells pkZ.cells.toArray 31)).alloc (.cells pkZ.cells.toArray 31)).cell? ⟨w.heap.size + 1, 20, none⟩ = some (.bool false) := cell_of_row _ _ 20 _ _ _ hB
  have a21 : ((w.alloc (.cells pkZ.cells.toArray 31)).alloc (.cells pkZ.cells.toArray 31)).cell? ⟨w.heap.size, 21, none⟩ = some (.int .u8 0) := cell_of_row _ _ 21 _ _ _ hA
  have b21 : ((w.alloc (.cells pkZ.cells.toArray 31)).alloc (.cells pkZ.cells.toArray 31)).cell? ⟨w.heap.size + 1, 21, none⟩ = some (.int .u8 0) := cell_of_row _ _ 21 _ _ _ hB
  have a22 : ((w.alloc (.cells pkZ.cells.toArray 31)).alloc (.cells pkZ.cells.toArray 31)).cell? ⟨w.heap.size, 22, none⟩ = some (.slice none 0 0) := cell_of_row _ _ 22 _ _ _ hA
  have b22 : ((w.alloc (.cells pkZ.cells.toArray 31)).alloc (.cells pkZ.cells.toArray 31)).cell? ⟨w.heap.size + 1, 22, none⟩ = some (.slice none 0 0) := cell_of_row _ _ 22 _ _ _ hB
  have a23 : ((w.alloc (.cells pkZ.cells.toArray 31)).alloc (.cells pkZ.cells.toArray 31)).cell? ⟨w.heap.size, 23, none⟩ = some (.string ⟨#[]⟩) := cell_of_row _ _ 23 _ _ _ hA
  have b23 : ((w.alloc (.cells pkZ.cells.toArray 31)).alloc (.cells pkZ.cells.toArray 31)).cell? ⟨w.heap.size + 1, 23, none⟩ = some (.string ⟨#[]⟩) := cell_of_row _ _ 23 _ _ _ hB
  clear hA hB
  generalize pkZ.cells.toArray = PC at *
  go_enter Tryz.func101, Tryz.ntmps101
  go_upto_region 1 with fail
  generalize (w.alloc (.cells PC 31)).alloc (.cells PC 31) = W at *
  go_wp2_with fail
  go_loopw [5] (fun i wr => i = .int .i64 0 ∧ W = wr) (fun _ _ => 0)
  case atStart => exact ⟨rfl, rfl⟩
  case round =>
    obtain ⟨rfl, rfl⟩ := hrel
    go_wp2_with fail
    go_ret
    exact ⟨rfl, HB.out⟩
set_option maxRecDepth 100000 in
set_option maxHeartbeats 2000000 in
theorem sameS19 (a b : Option Addr) (c d : Nat) (l : List Str) (w : World) (ha : Row w a (strs l)) (hb : Row w b (strs l)) (hl : l.length ≤ 100000) :
    Calls Tryz.prog 103 #[.slice a l.length c, .slice b l.length d] w fun e w' => e = .returned (.bool true) ∧ Below w.heap.size w w' := by
  have HA := Lib.hid ha
  have HB := Lib.hid hb
  clear ha hb
  go_enter Tryz.func103, Tryz.ntmps103
  go_wp2_with fail
  go_loopw [5] (fun i wr => ∃ k : Nat, i = .int .i64 k ∧ k ≤ l.length ∧ ∃ n, wr = w.drewN n) (fun i _ => (l.length - intOf i).toNat)
  case atStart => exact ⟨0, rfl, by omega, 0, rfl⟩
  case round =>
    obtain ⟨k, rfl, hk, n, rfl⟩ := hrel
    by_cases hlt : k < l.length
    · obtain ⟨b1, o1, rfl, k0⟩ := strs_row HA.out (k := k) (x := l[k]) (by simp [hlt])
      obtain ⟨b2, o2, rfl, j0⟩ := strs_row HB.out (k := k) (x := l[k]) (by simp [hlt])
      have hk0 : (0 : Int) ≤ k := by omega
      have hkl : (k : Int) < l.length := by omega
      generalize l[k] = x at *
      go_wp2_with fail
      go_quiet (fail)
      go_wp2_with fail
      go_roundw
      case rel => exact ⟨k + 1, by go_num, by omega, n + _, rfl⟩
      case measure => simp [intOf]; omega
    · have hkl : ¬ (k : Int) < l.length := by omega
      go_wp2_with fail
      go_ret
      exact ⟨rfl, drewN_below _ n⟩
set_option maxRecDepth 100000 in
set_option maxHeartbeats 2000000 in
theorem sameM19 (a b : Option Addr) (c d : Nat) (l : List Msg) (w : World) (ha : Row w a (msgs l)) (hb : Row w b (msgs l)) (hl : l.length ≤ 100000) :
    Calls Tryz.prog 102 #[.slice a l.length c, .slice b l.length d] w fun e w' => e = .returned (.bool true) ∧ Below w.heap.size w w' := by
  have HA := Lib.hid ha
  have HB := Lib.hid hb
  clear ha hb
  go_enter Tryz.func102, Tryz.ntmps102
  go_wp2_with fail
  go_loopw [5] (fun i wr => ∃ k : Nat, i = .int .i64 k ∧ k ≤ l.length ∧ ∃ n, wr = w.drewN n) (fun i _ => (l.length - intOf i).toNat)
  case atStart => exact ⟨0, rfl, by omega, 0, rfl⟩
  case round =>
    obtain ⟨k, rfl, hk, n, rfl⟩ := hrel
    by_cases hlt : k < l.length
    · obtain ⟨b1, o1, rfl, k0, k1, k2, k3⟩ := msgs_row HA.out (k := k) (m := l[k]) (by simp [hlt])
      obtain ⟨b2, o2, rfl, j0, j1, j2, j3⟩ := msgs_row HB.out (k := k) (m := l[k]) (by simp [hlt])
      have hk0 : (0 : Int) ≤ k := by omega
      have hkl : (k : Int) < l.length := by omega
      generalize l[k] = x at *
      obtain ⟨xt, xp, xq, xr⟩ := x
      have hcmp := fun w => msg_neq true w xt xp xt xp xq xq xr xr (by simp)
      simp only at k0 k1 k2 k3 j0 j1 j2 j3
      go_wp2_with fail
      go_quiet (fail)
      go_wp2_with fail
      go_roundw
      case rel => exact ⟨k + 1, by go_num, by omega, n + _, rfl⟩
      case measure => simp [intOf]; omega
    · have hkl : ¬ (k : Int) < l.length := by omega
      go_wp2_with fail
      go_ret
      exact ⟨rfl, drewN_below _ n⟩
end
section
open Go Go.RowKit

theorem range_sub19 {w : World} {b o : Nat} {xs ys zs : List Value} (h : w.rangeAt b o (xs ++ (ys ++ zs))) : w.rangeAt b (o + xs.length) ys := fun j v hj => by
  rw [Nat.add_assoc]
  refine h _ v ?_
  rw [List.getElem?_append_right (by omega), Nat.add_sub_cancel_left, List.getElem?_append_left (List.getElem?_eq_some_iff.1 hj).1]
  exact hj
set_option maxRecDepth 100000 in
set_option maxHeartbeats 4000000 in
theorem sameItem19 (h : HMail) (ma ca mb cb : Option Addr) (mc cc md cd : Nat) (w : World) (r1 : Row w ma (msgs h.msgs)) (r2 : Row w mb (msgs h.msgs)) (r3 : Row w ca (strs h.clients)) (r4 : Row w cb (strs h.clients)) (hl1 : h.msgs.length ≤ 100000) (hl2 : h.clients.length ≤ 100000) :
    Calls Tryz.prog 69 #[.agg (itemOf h ma mc ca cc).cells.toArray, .agg (itemOf h mb md cb cd).cells.toArray] w fun e w' => e = .returned (.bool true) ∧ Below w.heap.size w w' := by
  have hB : Below w.heap.size w ((w.alloc (.cells (itemOf h ma mc ca cc).cells.toArray 36)).alloc (.cells (itemOf h mb md cb cd).cells.toArray 36)) := ((Below.refl _ _).alloc (Nat.le_refl _) _).alloc (by simp) _
  have HA : ((w.alloc (.cells (itemOf h ma mc ca cc).cells.toArray 36)).alloc (.cells (itemOf h mb md cb cd).cells.toArray 36)).heap[w.heap.size]? = some (.cells (itemOf h ma mc ca cc).cells.toArray 36 (0, 0)) := (Below.heap_alloc _ _ _ (by simp)).trans (heap_alloc_new w _)
  have HB : ((w.alloc (.cells (itemOf h ma mc ca cc).cells.toArray 36)).alloc (.cells (itemOf h mb md cb cd).cells.toArray 36)).heap[w.heap.size + 1]? = some (.cells (itemOf h mb md cb cd).cells.toArray 36 (0, 0)) := by
    have := heap_alloc_new (w.alloc (.cells (itemOf h ma mc ca cc).cells.toArray 36)) (.cells (itemOf h mb md cb cd).cells.toArray 36)
    rwa [show (w.alloc (.cells (itemOf h ma mc ca cc).cells.toArray 36)).heap.size = w.heap.size + 1 by simp] at this
  have a0 : ((w.alloc (.cells (itemOf h ma mc ca cc).cells.toArray 36)).alloc (.cells (itemOf h mb md cb cd).cells.toArray 36)).cell? ⟨w.heap.size, 0, none⟩ = some (.int .u8 h.kind) := cell_of_row _ _ 0 _ _ _ HA
  have a1 : ((w.alloc (.cells (itemOf h ma mc ca cc).cells.toArray 36)).alloc (.cells (itemOf h mb md cb cd).cells.toArray 36)).cell? ⟨w.heap.size, 1, none⟩ = some (.int .i64 h.op) := cell_of_row _ _ 1 _ _ _ HA
  have a2 : ((w.alloc (.cells (itemOf h ma mc ca cc).cells.toArray 36)).alloc (.cells (itemOf h mb md cb cd).cells.toArray 36)).cell? ⟨w.heap.size, 2, none⟩ = some (.int .i64 0) := cell_of_row _ _ 2 _ _ _ HA
  have a3 : ((w.alloc (.cells (itemOf h ma mc ca cc).cells.toArray 36)).alloc (.cells (itemOf h mb md cb cd).cells.toArray 36)).cell? ⟨w.heap.size, 3, none⟩ = some (.string h.client) := cell_of_row _ _ 3 _ _ _ HA
  have a4 : ((w.alloc (.cells (itemOf h ma mc ca cc).cells.toArray 36)).alloc (.cells (itemOf h mb md cb cd).cells.toArray 36)).cell? ⟨w.heap.size, 4, none⟩ = some (.string ⟨#[]⟩) := cell_of_row _ _ 4 _ _ _ HA
  have a29 : ((w.alloc (.cells (itemOf h ma mc ca cc).cells.toArray 36)).alloc (.cells (itemOf h mb md cb cd).cells.toArray 36)).cell? ⟨w.heap.size, 29, none⟩ = some (.string h.msg.t) := cell_of_row _ _ 29 _ _ _ HA
  have a30 : ((w.alloc (.cells (itemOf h ma mc ca cc).cells.toArray 36)).alloc (.cells (itemOf h mb md cb cd).cells.toArray 36)).cell? ⟨w.heap.size, 30, none⟩ = some (.string h.msg.p) := cell_of_row _ _ 30 _ _ _ HA
  have a31 : ((w.alloc (.cells (itemOf h ma mc ca cc).cells.toArray 36)).alloc (.cells (itemOf h mb md cb cd).cells.toArray 36)).cell? ⟨w.heap.size, 31, none⟩ = some (.int .u8 h.msg.q) := cell_of_row _ _ 31 _ _ _ HA
  have a32 : ((w.alloc (.cells (itemOf h ma mc ca cc).cells.toArray 36)).alloc (.cells (itemOf h mb md cb cd).cells.toArray 36)).cell? ⟨w.heap.size, 32, none⟩ = some (.bool h.msg.r) := cell_of_row _ _ 32 _ _ _ HA
  have a33 : ((w.alloc (.cells (itemOf h ma mc ca cc).cells.toArray 36)).alloc (.cells (itemOf h mb md cb cd).cells.toArray 36)).cell? ⟨w.heap.size, 33, none⟩ = some (.slice ma h.msgs.length mc) := cell_of_row _ _ 33 _ _ _ HA
  have a34 : ((w.alloc (.cells (itemOf h ma mc ca cc).cells.toArray 36)).alloc (.cells (itemOf h mb md cb cd).cells.toArray 36)).cell? ⟨w.heap.size, 34, none⟩ = some (.slice ca h.clients.length cc) := (cell_of_row _ _ 34 _ _ _ HA).trans (by simp [itemOf, Item.cells, pkZ, Pkt.cells, Msg.zero, Msg.cells])
  have a35 : ((w.alloc (.cells (itemOf h ma mc ca cc).cells.toArray 36)).alloc (.cells (itemOf h mb md cb cd).cells.toArray 36)).cell? ⟨w.heap.size, 35, none⟩ = some (.slice none 0 0) := cell_of_row _ _ 35 _ _ _ HA
  have a36 : ((w.alloc (.cells (itemOf h ma mc ca cc).cells.toArray 36)).alloc (.cells (itemOf h mb md cb cd).cells.toArray 36)).cell? ⟨w.heap.size, 36, none⟩ = some (.int .i64 h.frm) := cell_of_row _ _ 36 _ _ _ HA
  have a37 : ((w.alloc (.cells (itemOf h ma mc ca cc).cells.toArray 36)).alloc (.cells (itemOf h mb md cb cd).cells.toArray 36)).cell? ⟨w.heap.size, 37, none⟩ = some (.int .i64 h.many) := cell_of_row _ _ 37 _ _ _ HA
  have b0 : ((w.alloc (.cells (itemOf h ma mc ca cc).cells.toArray 36)).alloc (.cells (itemOf h mb md cb cd).cells.toArray 36)).cell? ⟨w.heap.size + 1, 0, none⟩ = some (.int .u8 h.kind) := cell_of_row _ _ 0 _ _ _ HB
  have b1 : ((w.alloc (.cells (itemOf h ma mc ca cc).cells.toArray 36)).alloc (.cells (itemOf h mb md cb cd).cells.toArray 36)).cell? ⟨w.heap.size + 1, 1, none⟩ = some (.int .i64 h.op) := cell_of_row _ _ 1 _ _ _ HB
  have b2 : ((w.alloc (.cells (itemOf h ma mc ca cc).cells.toArray 36)).alloc (.cells (itemOf h mb md cb cd).cells.toArray 36)).cell? ⟨w.heap.size + 1, 2, none⟩ = some (.int .i64 0) := cell_of_row _ _ 2 _ _ _ HB
  have b3 : ((w.alloc (.cells (itemOf h ma mc ca cc).cells.toArray 36)).alloc (.cells (itemOf h mb md cb cd).cells.toArray 36)).cell? ⟨w.heap.size + 1, 3, none⟩ = some (.string h.client) := cell_of_row _ _ 3 _ _ _ HB
  have b4 : ((w.alloc (.cells (itemOf h ma mc ca cc).cells.toArray 36)).alloc (.cells (itemOf h mb md cb cd).cells.toArray 36)).cell? ⟨w.heap.size + 1, 4, none⟩ = some (.string ⟨#[]⟩) := cell_of_row _ _ 4 _ _ _ HB
  have b29 : ((w.alloc (.cells (itemOf h ma mc ca cc).cells.toArray 36)).alloc (.cells (itemOf h mb md cb cd).cells.toArray 36)).cell? ⟨w.heap.size + 1, 29, none⟩ = some (.string h.msg.t) := cell_of_row _ _ 29 _ _ _ HB
  have b30 : ((w.alloc (.cells (itemOf h ma mc ca cc).cells.toArray 36)).alloc (.cells (itemOf h mb md cb cd).cells.toArray 36)).cell? ⟨w.heap.size + 1, 30, none⟩ = some (.string h.msg.p) := cell_of_row _ _ 30 _ _ _ HB
  have b31 : ((w.alloc (.cells (itemOf h ma mc ca cc).cells.toArray 36)).alloc (.cells (itemOf h mb md cb cd).cells.toArray 36)).cell? ⟨w.heap.size + 1, 31, none⟩ = some (.int .u8 h.msg.q) := cell_of_row _ _ 31 _ _ _ HB
  have b32 : ((w.alloc (.cells (itemOf h ma mc ca cc).cells.toArray 36)).alloc (.cells (itemOf h mb md cb cd).cells.toArray 36)).cell? ⟨w.heap.size + 1, 32, none⟩ = some (.bool h.msg.r) := cell_of_row _ _ 32 _ _ _ HB
  have b33 : ((w.alloc (.cells (itemOf h ma mc ca cc).cells.toArray 36)).alloc (.cells (itemOf h mb md cb cd).cells.toArray 36)).cell? ⟨w.heap.size + 1, 33, none⟩ = some (.slice mb h.msgs.length md) := cell_of_row _ _ 33 _ _ _ HB
  have b34 : ((w.alloc (.cells (itemOf h ma mc ca cc).cells.toArray 36)).alloc (.cells (itemOf h mb md cb cd).cells.toArray 36)).cell? ⟨w.heap.size + 1, 34, none⟩ = some (.slice cb h.clients.length cd) := (cell_of_row _ _ 34 _ _ _ HB).trans (by simp [itemOf, Item.cells, pkZ, Pkt.cells, Msg.zero, Msg.cells])
  have b35 : ((w.alloc (.cells (itemOf h ma mc ca cc).cells.toArray 36)).alloc (.cells (itemOf h mb md cb cd).cells.toArray 36)).cell? ⟨w.heap.size + 1, 35, none⟩ = some (.slice none 0 0) := cell_of_row _ _ 35 _ _ _ HB
  have b36 : ((w.alloc (.cells (itemOf h ma mc ca cc).cells.toArray 36)).alloc (.cells (itemOf h mb md cb cd).cells.toArray 36)).cell? ⟨w.heap.size + 1, 36, none⟩ = some (.int .i64 h.frm) := cell_of_row _ _ 36 _ _ _ HB
  have b37 : ((w.alloc (.cells (itemOf h ma mc ca cc).cells.toArray 36)).alloc (.cells (itemOf h mb md cb cd).cells.toArray 36)).cell? ⟨w.heap.size + 1, 37, none⟩ = some (.int .i64 h.many) := cell_of_row _ _ 37 _ _ _ HB
  have PA : Hid (((w.alloc (.cells (itemOf h ma mc ca cc).cells.toArray 36)).alloc (.cells (itemOf h mb md cb cd).cells.toArray 36)).rangeAt w.heap.size 5 pkZ.cells) := Lib.hid (range_sub19 (xs := [.int .u8 h.kind, .int .i64 h.op, .int .i64 0, .string h.client, .string ⟨#[]⟩]) (range_blk HA))
  have PB : Hid (((w.alloc (.cells (itemOf h ma mc ca cc).cells.toArray 36)).alloc (.cells (itemOf h mb md cb cd).cells.toArray 36)).rangeAt (w.heap.size + 1) 5 pkZ.cells) := Lib.hid (range_sub19 (xs := [.int .u8 h.kind, .int .i64 h.op, .int .i64 0, .string h.client, .string ⟨#[]⟩]) (range_blk HB))
  have HPL : Hid ((Tryz.prog.info? 31).map (·.size) = some pkZ.cells.length) := Lib.hid (by kernel_rfl)
  have HPZ := Lib.hid same_pz
  have HBW := Lib.hid hB
  have R1 := Lib.hid (r1.below hB (Nat.le_refl _))
  have R2 := Lib.hid (r2.below hB (Nat.le_refl _))
  have R3 := Lib.hid (r3.below hB (Nat.le_refl _))
  have R4 := Lib.hid (r4.below hB (Nat.le_refl _))
  clear HA HB hB r1 r2 r3 r4
  generalize (itemOf h ma mc ca cc).cells.toArray = XA at *
  generalize (itemOf h mb md cb cd).cells.toArray = XB at *
  have hcmp := fun w => msg_neq true w h.msg.t h.msg.p h.msg.t h.msg.p h.msg.q h.msg.q h.msg.r h.msg.r (by simp)
  generalize h.kind = e1 at *
  generalize h.op = e2 at *
  generalize h.client = e3 at *
  generalize h.frm = e4 at *
  generalize h.many = e5 at *
  generalize h.msg.t = e6 at *
  generalize h.msg.p = e7 at *
  generalize h.msg.q = e8 at *
  generalize h.msg.r = e9 at *
  generalize h.msgs = M at *
  generalize h.clients = C at *
  generalize pkZ.cells = PZ at *
  go_enter Tryz.func69, Tryz.ntmps69
  go_upto_region 1 with fail
  generalize (w.alloc (.cells XA 36)).alloc (.cells XB 36) = W at *
  go_wp2_with fail
  go_loopw [5] (fun i wr => i = .int .i64 0 ∧ W = wr) (fun _ _ => 0)
  case atStart => exact ⟨rfl, rfl⟩
  case round =>
    obtain ⟨rfl, rfl⟩ := hrel
    go_wp2_with (first
      | (refine wpList_loadMid rfl 31 _ rfl w.heap.size 5 rfl PZ _ PA.out Tryz.underlying31 rfl HPL.out _ rfl ?_)
      | (refine wpList_loadMid rfl 31 _ rfl (w.heap.size + 1) 5 rfl PZ _ PB.out Tryz.underlying31 rfl HPL.out _ rfl ?_)
      | fail)
    refine (HPZ.out _).mono ?_
    rintro e w1 ⟨rfl, hk1⟩
    have A33 := (hk1.cell (World.block_lt_of_cell? _ _ a33)).trans a33
    have B33 := (hk1.cell (World.block_lt_of_cell? _ _ b33)).trans b33
    have A34 := (hk1.cell (World.block_lt_of_cell? _ _ a34)).trans a34
    have B34 := (hk1.cell (World.block_lt_of_cell? _ _ b34)).trans b34
    have Q1 := Lib.hid (sameM19 ma mb mc md M w1 (R1.out.below hk1 (Nat.le_refl _)) (R2.out.below hk1 (Nat.le_refl _)) hl1)
    have Q2 := Lib.hid (fun w2 (hk : Below w1.heap.size w1 w2) => sameS19 ca cb cc cd C w2 ((R3.out.below hk1 (Nat.le_refl _)).below hk (Nat.le_refl _)) ((R4.out.below hk1 (Nat.le_refl _)).below hk (Nat.le_refl _)) hl2)
    have HB1 := Lib.hid (bnext HBW.out (Nat.le_refl _) hk1)
    clear hk1 a0 a1 a2 a3 a4 a29 a30 a31 a32 a33 a34 a35 a36 a37 b0 b1 b2 b3 b4 b29 b30 b31 b32 b33 b34 b35 b36 b37
    go_wp2_with fail
    refine Q1.out.mono ?_
    rintro e w2 ⟨rfl, hk2⟩
    have C34 := (hk2.cell (World.block_lt_of_cell? _ _ A34)).trans A34
    have D34 := (hk2.cell (World.block_lt_of_cell? _ _ B34)).trans B34
    have Q3 := Lib.hid (Q2.out w2 hk2)
    have HB2 := Lib.hid (bnext HB1.out (Nat.le_refl _) hk2)
    clear hk2 A33 B33 A34 B34
    go_wp2_with fail
    refine Q3.out.mono ?_
    rintro e w3 ⟨rfl, hk3⟩
    have HB3 := Lib.hid (bnext HB2.out (Nat.le_refl _) hk3)
    clear hk3
    go_wp2_with fail
    go_ret
    exact ⟨rfl, HB3.out⟩
end
section
open Go Go.RowKit

theorem mail_item {w : World} {b o : Nat} {m : Mail} (h : w.rangeAt b o m.cells) : w.rangeAt b (o + 2) m.it.cells :=
  range_sub19 (xs := [.int .i64 m.dest, .int .i64 5]) (zs := []) (by rw [List.append_nil]; exact h)
theorem range_below19 {w w' : World} {b o : Nat} {cs : List Value} (h : w.rangeAt b o cs) (hb : Below w.heap.size w w') : w'.rangeAt b o cs := fun j v hj => by
  have := h j v hj
  exact (hb.cell (p := ⟨b, o + j, none⟩) (World.block_lt_of_cell? w _ this)).trans this
set_option maxRecDepth 100000 in
set_option maxHeartbeats 8000000 in
theorem sameMails19 (a a' : Option Addr) (c c' : Nat) (M M' : List Mail) (H : List HMail) (w : World) (r : Row w a (mailsV M)) (r' : Row w a' (mailsV M')) (hm : Mails w [] M H) (hm' : Mails w [] M' H) (hl : H.length ≤ 100000) (hs : ∀ h ∈ H, h.msgs.length ≤ 100000 ∧ h.clients.length ≤ 100000) :
    Calls Tryz.prog 40 #[.slice a M.length c, .slice a' M'.length c'] w fun e w' => e = .returned (.bool true) ∧ Below w.heap.size w w' := by
  have HM := Lib.hid hm
  have HM' := Lib.hid hm'
  have R1 := Lib.hid r
  have R2 := Lib.hid r'
  have HS := Lib.hid hs
  have e1 := hm.len
  have e2 := hm'.len
  rw [e1, e2]
  clear hm hm' r r' hs
  have HL1 := Lib.hid e1
  have HL2 := Lib.hid e2
  clear e1 e2
  go_enter Tryz.func40, Tryz.ntmps40
  go_wp2_with fail
  go_loopw [5] (fun i wr => ∃ k : Nat, i = .int .i64 k ∧ k ≤ H.length ∧ Below w.heap.size w wr) (fun i _ => (H.length - intOf i).toNat)
  case atStart => exact ⟨0, rfl, by omega, Below.refl _ _⟩
  case round =>
    obtain ⟨k, rfl, hk, hb⟩ := hrel
    have HB := Lib.hid hb
    clear hb
    by_cases hlt : k < H.length
    · have hk0 : (0 : Int) ≤ k := by omega
      have hkl : (k : Int) < H.length := by omega
      have hk1 : k < M.length := by rw [HL1.out]; exact hlt
      have hk2 : k < M'.length := by rw [HL2.out]; exact hlt
      obtain ⟨b1, o1, rfl, g1⟩ := row_mid (mk := Mail.cells) (m := 40) mail_len (R1.out.below HB.out (Nat.le_refl _)) hk1 (by decide)
      obtain ⟨b2, o2, rfl, g2⟩ := row_mid (mk := Mail.cells) (m := 40) mail_len (R2.out.below HB.out (Nat.le_refl _)) hk2 (by decide)
      obtain ⟨ma, mc, ca, cc, e1, q1, q2⟩ := HM.out.at hk1 hlt
      obtain ⟨mb, md, cb, cd, e2, q3, q4⟩ := HM'.out.at hk2 hlt
      rw [e1] at g1
      rw [e2] at g2
      obtain ⟨s1, s2⟩ := HS.out _ (List.getElem_mem hlt)
      clear hk1 hk2 e1 e2
      generalize H[k] = h at *
      have HC := Lib.hid (fun w2 (hk : Below w.heap.size w w2) => sameItem19 h ma ca mb cb mc cc md cd w2 (q1.row.below hk (Nat.le_refl _)) (q3.row.below hk (Nat.le_refl _)) (q2.row.below hk (Nat.le_refl _)) (q4.row.below hk (Nat.le_refl _)) s1 s2)
      have HLA : Hid ((Tryz.prog.info? 36).map (·.size) = some (itemOf h ma mc ca cc).cells.length) := Lib.hid ((item_size _).trans (congrArg some List.size_toArray))
      have HLB : Hid ((Tryz.prog.info? 36).map (·.size) = some (itemOf h mb md cb cd).cells.length) := Lib.hid ((item_size _).trans (congrArg some List.size_toArray))
      have HSX : Hid (∀ X, Below wr.heap.size wr X → X.cell? ⟨b1, o1 + k * 40, none⟩ = some (.int .i64 h.dest) ∧ X.cell? ⟨b1, o1 + k * 40 + 1, none⟩ = some (.int .i64 5) ∧ X.rangeAt b1 (o1 + k * 40 + 2) (itemOf h ma mc ca cc).cells ∧ X.cell? ⟨b2, o2 + k * 40, none⟩ = some (.int .i64 h.dest) ∧ X.cell? ⟨b2, o2 + k * 40 + 1, none⟩ = some (.int .i64 5) ∧ X.rangeAt b2 (o2 + k * 40 + 2) (itemOf h mb md cb cd).cells) := Lib.hid (fun X hX => by
        have h1 := range_below19 g1 hX
        have h2 := range_below19 g2 hX
        exact ⟨(mail_c h1).dest, (mail_c h1).lane, mail_item h1, (mail_c h2).dest, (mail_c h2).lane, mail_item h2⟩)
      clear g1 g2 q1 q2 q3 q4 s1 s2
      generalize (itemOf h ma mc ca cc).cells = XA at *
      generalize (itemOf h mb md cb cd).cells = XB at *
      generalize h.dest = de at *
      go_wp2_with fail
      refine wp_region_held_drew (S := fun X => X.cell? ⟨b1, o1 + k * 40, none⟩ = some (.int .i64 de) ∧ X.cell? ⟨b1, o1 + k * 40 + 1, none⟩ = some (.int .i64 5) ∧ X.rangeAt b1 (o1 + k * 40 + 2) XA ∧ X.cell? ⟨b2, o2 + k * 40, none⟩ = some (.int .i64 de) ∧ X.cell? ⟨b2, o2 + k * 40 + 1, none⟩ = some (.int .i64 5) ∧ X.rangeAt b2 (o2 + k * 40 + 2) XB) (by kernel_rfl) (HSX.out _ (Below.refl _ _).drew) (fun hHeld => ?_)
      refine wpAnyH_take (i := 0) (v := ?_) rfl (by kernel_rfl) (by kernel_rfl) (by kernel_rfl) (fun _ _ _ h => h) (Or.inl ⟨rfl, ?_⟩) hHeld ?_
      rotate_left
      · intro w0 hS0
        try dsimp only at hS0
        go_simp
        try with_reducible rfl
      simp only [List.getElem_toArray, List.getElem_cons_zero, Act.put, List.setIfInBounds_toArray, List.set_cons_zero, List.set_cons_succ]
      refine wpAnyH_take (i := 1) (v := ?_) rfl (by kernel_rfl) (by kernel_rfl) (by kernel_rfl) (fun _ _ _ h => h) (Or.inl ⟨rfl, ?_⟩) hHeld ?_
      rotate_left
      · intro w0 hS0
        try dsimp only at hS0
        go_simp
        try with_reducible rfl
      simp only [List.getElem_toArray, List.getElem_cons_zero, List.getElem_cons_succ, Act.put, List.setIfInBounds_toArray, List.set_cons_zero, List.set_cons_succ]
      refine wpAnyH_take (i := 2) (v := ?_) rfl (by kernel_rfl) (by kernel_rfl) (by kernel_rfl) (fun _ _ _ h => h) (Or.inl ⟨rfl, ?_⟩) hHeld ?_
      rotate_left
      · intro w0 hS0
        try dsimp only at hS0
        go_simp
        try with_reducible rfl
      simp only [List.getElem_toArray, List.getElem_cons_zero, List.getElem_cons_succ, Act.put, List.setIfInBounds_toArray, List.set_cons_zero, List.set_cons_succ]
      refine wpAnyH_take (i := 3) (v := ?_) rfl (by kernel_rfl) (by kernel_rfl) (by kernel_rfl) (fun _ _ _ h => h) (Or.inl ⟨rfl, ?_⟩) hHeld ?_
      rotate_left
      · intro w0 hS0
        try dsimp only at hS0
        go_simp
        try with_reducible rfl
      simp only [List.getElem_toArray, List.getElem_cons_zero, List.getElem_cons_succ, Act.put, List.setIfInBounds_toArray, List.set_cons_zero, List.set_cons_succ]
      refine wpAnyH_take (i := 4) (v := ?_) rfl (by kernel_rfl) (by kernel_rfl) (by kernel_rfl) (fun _ _ _ h => h) (Or.inl ⟨rfl, ?_⟩) hHeld ?_
      rotate_left
      · intro w0 hS0
        try dsimp only at hS0
        go_simp
        try with_reducible rfl
      simp only [List.getElem_toArray, List.getElem_cons_zero, List.getElem_cons_succ, Act.put, List.setIfInBounds_toArray, List.set_cons_zero, List.set_cons_succ]
      refine wpAnyH_take (i := 5) (v := ?_) rfl (by kernel_rfl) (by kernel_rfl) (by kernel_rfl) (fun _ _ _ h => h) (Or.inl ⟨rfl, ?_⟩) hHeld ?_
      rotate_left
      · intro w0 hS0
        try dsimp only at hS0
        go_simp
        try with_reducible rfl
      simp only [List.getElem_toArray, List.getElem_cons_zero, List.getElem_cons_succ, Act.put, List.setIfInBounds_toArray, List.set_cons_zero, List.set_cons_succ]
      refine wpAnyH_take (i := 6) (v := ?_) rfl (by kernel_rfl) (by kernel_rfl) (by kernel_rfl) (fun _ _ _ h => h) (Or.inl ⟨rfl, ?_⟩) hHeld ?_
      rotate_left
      · intro w0 hS0
        try dsimp only at hS0
        go_simp
        try with_reducible rfl
      simp only [List.getElem_toArray, List.getElem_cons_zero, List.getElem_cons_succ, Act.put, List.setIfInBounds_toArray, List.set_cons_zero, List.set_cons_succ]
      refine wpAnyH_take (i := 7) (v := ?_) rfl (by kernel_rfl) (by kernel_rfl) (by kernel_rfl) (fun _ _ _ h => h) (Or.inl ⟨rfl, ?_⟩) hHeld ?_
      rotate_left
      · intro w0 hS0
        try dsimp only at hS0
        go_simp
        try with_reducible rfl
      simp only [List.getElem_toArray, List.getElem_cons_zero, List.getElem_cons_succ, Act.put, List.setIfInBounds_toArray, List.set_cons_zero, List.set_cons_succ]
      refine wpAnyH_take (i := 8) (v := ?_) rfl (by kernel_rfl) (by kernel_rfl) (by kernel_rfl) (fun _ _ _ h => h) (Or.inl ⟨rfl, ?_⟩) hHeld ?_
      rotate_left
      · intro w0 hS0
        try dsimp only at hS0
        go_simp
        try with_reducible rfl
      simp only [List.getElem_toArray, List.getElem_cons_zero, List.getElem_cons_succ, Act.put, List.setIfInBounds_toArray, List.set_cons_zero, List.set_cons_succ]
      refine wpAnyH_take (i := 9) (v := ?_) rfl (by kernel_rfl) (by kernel_rfl) (by kernel_rfl) (fun _ _ _ h => h) (Or.inl ⟨rfl, ?_⟩) hHeld ?_
      rotate_left
      · intro w0 hS0
        try dsimp only at hS0
        go_simp
        try with_reducible rfl
      simp only [List.getElem_toArray, List.getElem_cons_zero, List.getElem_cons_succ, Act.put, List.setIfInBounds_toArray, List.set_cons_zero, List.set_cons_succ]
      refine wpAnyH_take (i := 10) (v := ?_) rfl (by kernel_rfl) (by kernel_rfl) (by kernel_rfl) (fun _ _ _ h => h) (Or.inl ⟨rfl, ?_⟩) hHeld ?_
      rotate_left
      · intro w0 hS0
        try dsimp only at hS0
        go_simp
        try with_reducible rfl
      simp only [List.getElem_toArray, List.getElem_cons_zero, List.getElem_cons_succ, Act.put, List.setIfInBounds_toArray, List.set_cons_zero, List.set_cons_succ]
      refine wpAnyH_take (i := 11) (v := ?_) rfl (by kernel_rfl) (by kernel_rfl) (by kernel_rfl) (fun _ _ _ h => h) (Or.inl ⟨rfl, ?_⟩) hHeld ?_
      rotate_left
      · intro w0 hS0
        try dsimp only at hS0
        go_simp
        try with_reducible rfl
      simp only [List.getElem_toArray, List.getElem_cons_zero, List.getElem_cons_succ, Act.put, List.setIfInBounds_toArray, List.set_cons_zero, List.set_cons_succ]
      refine wpAnyH_take (i := 12) (v := ?_) rfl (by kernel_rfl) (by kernel_rfl) (by kernel_rfl) (fun _ _ _ h => h) (Or.inl ⟨rfl, ?_⟩) hHeld ?_
      rotate_left
      · intro w0 hS0
        try dsimp only at hS0
        go_simp
        try with_reducible rfl
      simp only [List.getElem_toArray, List.getElem_cons_zero, List.getElem_cons_succ, Act.put, List.setIfInBounds_toArray, List.set_cons_zero, List.set_cons_succ]
      refine wpAnyH_take (i := 13) (v := ?_) rfl (by kernel_rfl) (by kernel_rfl) (by kernel_rfl) (fun _ _ _ h => h) (Or.inl ⟨rfl, ?_⟩) hHeld ?_
      rotate_left
      · intro w0 hS0
        try dsimp only at hS0
        go_simp
        try with_reducible rfl
      simp only [List.getElem_toArray, List.getElem_cons_zero, List.getElem_cons_succ, Act.put, List.setIfInBounds_toArray, List.set_cons_zero, List.set_cons_succ]
      refine wpAnyH_take (i := 14) (v := ?_) rfl (by kernel_rfl) (by kernel_rfl) (by kernel_rfl) (fun _ _ _ h => h) (Or.inl ⟨rfl, ?_⟩) hHeld ?_
      rotate_left
      · intro w0 hS0
        try dsimp only at hS0
        go_simp
        try with_reducible rfl
      simp only [List.getElem_toArray, List.getElem_cons_zero, List.getElem_cons_succ, Act.put, List.setIfInBounds_toArray, List.set_cons_zero, List.set_cons_succ]
      refine wpAnyH_take (i := 15) (v := ?_) rfl (by kernel_rfl) (by kernel_rfl) (by kernel_rfl) (fun _ _ _ h => h) (Or.inl ⟨rfl, ?_⟩) hHeld ?_
      rotate_left
      · intro w0 hS0
        try dsimp only at hS0
        go_simp
        try with_reducible rfl
      simp only [List.getElem_toArray, List.getElem_cons_zero, List.getElem_cons_succ, Act.put, List.setIfInBounds_toArray, List.set_cons_zero, List.set_cons_succ]
      refine wpAnyH_take (i := 16) (v := ?_) rfl (by kernel_rfl) (by kernel_rfl) (by kernel_rfl) (fun _ _ _ h => h) (Or.inl ⟨rfl, ?_⟩) hHeld ?_
      rotate_left
      · intro w0 hS0
        try dsimp only at hS0
        go_simp
        try with_reducible rfl
      simp only [List.getElem_toArray, List.getElem_cons_zero, List.getElem_cons_succ, Act.put, List.setIfInBounds_toArray, List.set_cons_zero, List.set_cons_succ]
      refine wpAnyH_take (i := 17) (v := ?_) rfl (by kernel_rfl) (by kernel_rfl) (by kernel_rfl) (fun _ _ _ h => h) (Or.inl ⟨rfl, ?_⟩) hHeld ?_
      rotate_left
      · intro w0 hS0
        try dsimp only at hS0
        go_simp
        try with_reducible rfl
      simp only [List.getElem_toArray, List.getElem_cons_zero, List.getElem_cons_succ, Act.put, List.setIfInBounds_toArray, List.set_cons_zero, List.set_cons_succ]
      refine wpAnyH_take (i := 18) (v := ?_) rfl (by kernel_rfl) (by kernel_rfl) (by kernel_rfl) (fun _ _ _ h => h) (Or.inl ⟨rfl, ?_⟩) hHeld ?_
      rotate_left
      · intro w0 hS0
        try dsimp only at hS0
        go_simp
        try with_reducible rfl
      simp only [List.getElem_toArray, List.getElem_cons_zero, List.getElem_cons_succ, Act.put, List.setIfInBounds_toArray, List.set_cons_zero, List.set_cons_succ]
      refine wpAnyH_take (i := 19) (v := ?_) rfl (by kernel_rfl) (by kernel_rfl) (by kernel_rfl) (fun _ _ _ h => h) (Or.inl ⟨rfl, ?_⟩) hHeld ?_
      rotate_left
      · intro w0 hS0
        try dsimp only at hS0
        go_simp
        try with_reducible rfl
      simp only [List.getElem_toArray, List.getElem_cons_zero, List.getElem_cons_succ, Act.put, List.setIfInBounds_toArray, List.set_cons_zero, List.set_cons_succ]
      refine wpAnyH_take (i := 20) (v := ?_) rfl (by kernel_rfl) (by kernel_rfl) (by kernel_rfl) (fun _ _ _ h => h) (Or.inl ⟨rfl, ?_⟩) hHeld ?_
      rotate_left
      · intro w0 hS0
        try dsimp only at hS0
        go_simp
        try with_reducible rfl
      simp only [List.getElem_toArray, List.getElem_cons_zero, List.getElem_cons_succ, Act.put, List.setIfInBounds_toArray, List.set_cons_zero, List.set_cons_succ]
      refine wpAnyH_take (i := 21) (v := ?_) rfl (by kernel_rfl) (by kernel_rfl) (by kernel_rfl) (fun _ _ _ h => h) (Or.inl ⟨rfl, ?_⟩) hHeld ?_
      rotate_left
      · intro w0 hS0
        try dsimp only at hS0
        go_simp
        try with_reducible rfl
      simp only [List.getElem_toArray, List.getElem_cons_zero, List.getElem_cons_succ, Act.put, List.setIfInBounds_toArray, List.set_cons_zero, List.set_cons_succ]
      refine wpAnyH_take (i := 22) (v := ?_) rfl (by kernel_rfl) (by kernel_rfl) (by kernel_rfl) (fun _ _ _ h => h) (Or.inl ⟨rfl, ?_⟩) hHeld ?_
      rotate_left
      · intro w0 hS0
        try dsimp only at hS0
        go_simp
        try with_reducible rfl
      simp only [List.getElem_toArray, List.getElem_cons_zero, List.getElem_cons_succ, Act.put, List.setIfInBounds_toArray, List.set_cons_zero, List.set_cons_succ]
      refine wpAnyH_take (i := 23) (v := ?_) rfl (by kernel_rfl) (by kernel_rfl) (by kernel_rfl) (fun _ _ _ h => h) (Or.inl ⟨rfl, ?_⟩) hHeld ?_
      rotate_left
      · intro w0 hS0
        try dsimp only at hS0
        go_simp
        try with_reducible rfl
      simp only [List.getElem_toArray, List.getElem_cons_zero, List.getElem_cons_succ, Act.put, List.setIfInBounds_toArray, List.set_cons_zero, List.set_cons_succ]
      refine wpAnyH_take (i := 24) (v := ?_) rfl (by kernel_rfl) (by kernel_rfl) (by kernel_rfl) (fun _ _ _ h => h) (Or.inl ⟨rfl, ?_⟩) hHeld ?_
      rotate_left
      · intro w0 hS0
        try dsimp only at hS0
        go_simp
        try with_reducible rfl
      simp only [List.getElem_toArray, List.getElem_cons_zero, List.getElem_cons_succ, Act.put, List.setIfInBounds_toArray, List.set_cons_zero, List.set_cons_succ]
      refine wpAnyH_take (i := 25) (v := ?_) rfl (by kernel_rfl) (by kernel_rfl) (by kernel_rfl) (fun _ _ _ h => h) (Or.inl ⟨rfl, ?_⟩) hHeld ?_
      rotate_left
      · intro w0 hS0
        try dsimp only at hS0
        go_simp
        try with_reducible rfl
      simp only [List.getElem_toArray, List.getElem_cons_zero, List.getElem_cons_succ, Act.put, List.setIfInBounds_toArray, List.set_cons_zero, List.set_cons_succ]
      refine wpAnyH_take (i := 26) (v := ?_) rfl (by kernel_rfl) (by kernel_rfl) (by kernel_rfl) (fun _ _ _ h => h) (Or.inl ⟨rfl, ?_⟩) hHeld ?_
      rotate_left
      · intro w0 hS0
        try dsimp only at hS0
        go_simp
        try with_reducible rfl
      simp only [List.getElem_toArray, List.getElem_cons_zero, List.getElem_cons_succ, Act.put, List.setIfInBounds_toArray, List.set_cons_zero, List.set_cons_succ]
      refine wpAnyH_take (i := 27) (v := ?_) rfl (by kernel_rfl) (by kernel_rfl) (by kernel_rfl) (fun _ _ _ h => h) (Or.inl ⟨rfl, ?_⟩) hHeld ?_
      rotate_left
      · intro w0 hS0
        try dsimp only at hS0
        go_simp
        try with_reducible rfl
      simp only [List.getElem_toArray, List.getElem_cons_zero, List.getElem_cons_succ, Act.put, List.setIfInBounds_toArray, List.set_cons_zero, List.set_cons_succ]
      refine wpAnyH_take (i := 28) (v := ?_) rfl (by kernel_rfl) (by kernel_rfl) (by kernel_rfl) (fun _ _ _ h => h) (Or.inl ⟨rfl, ?_⟩) hHeld ?_
      rotate_left
      · intro w0 hS0
        try dsimp only at hS0
        go_simp
        try with_reducible rfl
      simp only [List.getElem_toArray, List.getElem_cons_zero, List.getElem_cons_succ, Act.put, List.setIfInBounds_toArray, List.set_cons_zero, List.set_cons_succ]
      refine wpAnyH_take (i := 29) (v := .agg XA.toArray) rfl (by kernel_rfl) (by kernel_rfl) (by kernel_rfl) (fun _ _ _ h => h) (Or.inl ⟨rfl, ?_⟩) hHeld ?_
      · intro w1 hS1
        exact exec_load_row rfl rfl hS1.2.2.1 Tryz.underlying36 rfl HLA.out
      simp only [List.getElem_toArray, List.getElem_cons_zero, List.getElem_cons_succ, Act.put, List.setIfInBounds_toArray, List.set_cons_zero, List.set_cons_succ]
      refine wpAnyH_take (i := 30) (v := ?_) rfl (by kernel_rfl) (by kernel_rfl) (by kernel_rfl) (fun _ _ _ h => h) (Or.inl ⟨rfl, ?_⟩) hHeld ?_
      rotate_left
      · intro w0 hS0
        try dsimp only at hS0
        go_simp
        try with_reducible rfl
      simp only [List.getElem_toArray, List.getElem_cons_zero, List.getElem_cons_succ, Act.put, List.setIfInBounds_toArray, List.set_cons_zero, List.set_cons_succ]
      refine wpAnyH_take (i := 31) (v := ?_) rfl (by kernel_rfl) (by kernel_rfl) (by kernel_rfl) (fun _ _ _ h => h) (Or.inl ⟨rfl, ?_⟩) hHeld ?_
      rotate_left
      · intro w0 hS0
        try dsimp only at hS0
        go_simp
        try with_reducible rfl
      simp only [List.getElem_toArray, List.getElem_cons_zero, List.getElem_cons_succ, Act.put, List.setIfInBounds_toArray, List.set_cons_zero, List.set_cons_succ]
      refine wpAnyH_take (i := 32) (v := ?_) rfl (by kernel_rfl) (by kernel_rfl) (by kernel_rfl) (fun _ _ _ h => h) (Or.inl ⟨rfl, ?_⟩) hHeld ?_
      rotate_left
      · intro w0 hS0
        try dsimp only at hS0
        go_simp
        try with_reducible rfl
      simp only [List.getElem_toArray, List.getElem_cons_zero, List.getElem_cons_succ, Act.put, List.setIfInBounds_toArray, List.set_cons_zero, List.set_cons_succ]
      refine wpAnyH_take (i := 33) (v := ?_) rfl (by kernel_rfl) (by kernel_rfl) (by kernel_rfl) (fun _ _ _ h => h) (Or.inl ⟨rfl, ?_⟩) hHeld ?_
      rotate_left
      · intro w0 hS0
        try dsimp only at hS0
        go_simp
        try with_reducible rfl
      simp only [List.getElem_toArray, List.getElem_cons_zero, List.getElem_cons_succ, Act.put, List.setIfInBounds_toArray, List.set_cons_zero, List.set_cons_succ]
      refine wpAnyH_take (i := 34) (v := .agg XB.toArray) rfl (by kernel_rfl) (by kernel_rfl) (by kernel_rfl) (fun _ _ _ h => h) (Or.inl ⟨rfl, ?_⟩) hHeld ?_
      · intro w1 hS1
        exact exec_load_row rfl rfl hS1.2.2.2.2.2 Tryz.underlying36 rfl HLB.out
      simp only [List.getElem_toArray, List.getElem_cons_zero, List.getElem_cons_succ, Act.put, List.setIfInBounds_toArray, List.set_cons_zero, List.set_cons_succ]
      refine wpAnyH_ready (rs := [35]) (by kernel_rfl) (by simp) ?_
      refine AllReadyH.cons rfl (fun K hK => ?_) AllReadyH.nil
      rw [if_pos (by rfl)]
      go_simp
      go_at_call 69
      refine (HC.out _ (bnext HB.out (Nat.le_refl _) (Below.refl _ _).drew)).mono ?_
      rintro e w2 ⟨rfl, hk2⟩
      have HB2 : Hid (Below wr.heap.size wr w2) := Lib.hid ((Below.refl wr.heap.size wr).drew.trans hk2)
      clear hk2
      refine hK.out _ _ (HSX.out _ HB2.out) (fun hHeld => ?_)
      refine wpAnyH_take (i := 36) (v := ?_) rfl (by kernel_rfl) (by kernel_rfl) (by kernel_rfl) (fun _ _ _ h => h) (Or.inl ⟨rfl, ?_⟩) hHeld ?_
      rotate_left
      · intro w0 hS0
        try dsimp only at hS0
        go_simp
        try with_reducible rfl
      simp only [List.getElem_toArray, List.getElem_cons_zero, List.getElem_cons_succ, Act.put, List.setIfInBounds_toArray, List.set_cons_zero, List.set_cons_succ]
      refine wpAnyH_take (i := 37) (v := ?_) rfl (by kernel_rfl) (by kernel_rfl) (by kernel_rfl) (fun _ _ _ h => h) (Or.inl ⟨rfl, ?_⟩) hHeld ?_
      rotate_left
      · intro w0 hS0
        try dsimp only at hS0
        go_simp
        try with_reducible rfl
      simp only [List.getElem_toArray, List.getElem_cons_zero, List.getElem_cons_succ, Act.put, List.setIfInBounds_toArray, List.set_cons_zero, List.set_cons_succ]
      refine wpAnyH_done (by kernel_rfl) ?_ _
      clear hHeld
      go_wp2_with fail
      go_roundw
      case rel => exact ⟨k + 1, by go_num, by omega, bnext HB.out (Nat.le_refl _) HB2.out⟩
      case measure => simp [intOf]; omega
    · have hkl : ¬ (k : Int) < H.length := by omega
      go_wp2_with fail
      go_ret
      exact ⟨rfl, HB.out⟩
end
section
open Go Go.RowKit

theorem wpList_ldG {P : Program} {ops : Array Oper} {rest : List Oper} {op : Oper} {a : Act} {w : World} {Q : Exit → Act → World → Prop} (hw : Region.wanted op (yielded ops a.tmps) = true) (ty : TypeId) (x : Operand) (ho : op.op = .load ty x)
    (b o : Nat) (hx : a.eval x = .pointer (some ⟨b, o, none⟩)) (cs : List Value) (d : TypeDesc) (hc : w.rangeAt b o cs)
    (hu : P.underlying ty = some d) (hd : d.isRow = true) (hi : (P.info? ty).map (·.size) = some cs.length) (t : Option Tmp) (ht : op.dst = t)
    (h : wpList P ops Q rest (a.put t (.agg cs.toArray)) w) : wpList P ops Q (op :: rest) a w := by
  subst ht
  exact wpList_ask hw fun _ hK => wp_load_mid ty x ho b o hx cs d hc hu hd hi (hK _ _ h)
set_option maxRecDepth 100000 in
set_option maxHeartbeats 4000000 in
theorem sameN17 (k : NoteK) (w : World) : Calls Tryz.prog 70 #[.agg k.note.cells.toArray, .agg k.note.cells.toArray] w fun e w' => e = .returned (.bool true) ∧ Below w.heap.size w w' := by
  have hB : Below w.heap.size w ((w.alloc (.cells k.note.cells.toArray 88)).alloc (.cells k.note.cells.toArray 88)) := ((Below.refl _ _).alloc (Nat.le_refl _) _).alloc (by simp) _
  have HA : ((w.alloc (.cells k.note.cells.toArray 88)).alloc (.cells k.note.cells.toArray 88)).heap[w.heap.size]? = some (.cells k.note.cells.toArray 88 (0, 0)) := (Below.heap_alloc _ _ _ (by simp)).trans (heap_alloc_new w _)
  have HB : ((w.alloc (.cells k.note.cells.toArray 88)).alloc (.cells k.note.cells.toArray 88)).heap[w.heap.size + 1]? = some (.cells k.note.cells.toArray 88 (0, 0)) := by
    have := heap_alloc_new (w.alloc (.cells k.note.cells.toArray 88)) (.cells k.note.cells.toArray 88)
    rwa [show (w.alloc (.cells k.note.cells.toArray 88)).heap.size = w.heap.size + 1 by simp] at this
  have a0 : ((w.alloc (.cells k.note.cells.toArray 88)).alloc (.cells k.note.cells.toArray 88)).cell? ⟨w.heap.size, 0, none⟩ = some (.int .u8 5) := cell_of_row _ _ 0 _ _ _ HA
  have a1 : ((w.alloc (.cells k.note.cells.toArray 88)).alloc (.cells k.note.cells.toArray 88)).cell? ⟨w.heap.size, 1, none⟩ = some (.int .i64 k.op) := cell_of_row _ _ 1 _ _ _ HA
  have a2 : ((w.alloc (.cells k.note.cells.toArray 88)).alloc (.cells k.note.cells.toArray 88)).cell? ⟨w.heap.size, 2, none⟩ = some (.int .i64 0) := cell_of_row _ _ 2 _ _ _ HA
  have a3 : ((w.alloc (.cells k.note.cells.toArray 88)).alloc (.cells k.note.cells.toArray 88)).cell? ⟨w.heap.size, 3, none⟩ = some (.string k.client) := cell_of_row _ _ 3 _ _ _ HA
  have a28 : ((w.alloc (.cells k.note.cells.toArray 88)).alloc (.cells k.note.cells.toArray 88)).cell? ⟨w.heap.size, 28, none⟩ = some (.string k.msg.t) := cell_of_row _ _ 28 _ _ _ HA
  have a29 : ((w.alloc (.cells k.note.cells.toArray 88)).alloc (.cells k.note.cells.toArray 88)).cell? ⟨w.heap.size, 29, none⟩ = some (.string k.msg.p) := cell_of_row _ _ 29 _ _ _ HA
  have a30 : ((w.alloc (.cells k.note.cells.toArray 88)).alloc (.cells k.note.cells.toArray 88)).cell? ⟨w.heap.size, 30, none⟩ = some (.int .u8 k.msg.q) := cell_of_row _ _ 30 _ _ _ HA
  have a31 : ((w.alloc (.cells k.note.cells.toArray 88)).alloc (.cells k.note.cells.toArray 88)).cell? ⟨w.heap.size, 31, none⟩ = some (.bool k.msg.r) := cell_of_row _ _ 31 _ _ _ HA
  have a32 : ((w.alloc (.cells k.note.cells.toArray 88)).alloc (.cells k.note.cells.toArray 88)).cell? ⟨w.heap.size, 32, none⟩ = some (.string ⟨#[]⟩) := cell_of_row _ _ 32 _ _ _ HA
  have a33 : ((w.alloc (.cells k.note.cells.toArray 88)).alloc (.cells k.note.cells.toArray 88)).cell? ⟨w.heap.size, 33, none⟩ = some (.bool false) := cell_of_row _ _ 33 _ _ _ HA
  have a34 : ((w.alloc (.cells k.note.cells.toArray 88)).alloc (.cells k.note.cells.toArray 88)).cell? ⟨w.heap.size, 34, none⟩ = some (.int .u8 0) := cell_of_row _ _ 34 _ _ _ HA
  have b0 : ((w.alloc (.cells k.note.cells.toArray 88)).alloc (.cells k.note.cells.toArray 88)).cell? ⟨w.heap.size + 1, 0, none⟩ = some (.int .u8 5) := cell_of_row _ _ 0 _ _ _ HB
  have b1 : ((w.alloc (.cells k.note.cells.toArray 88)).alloc (.cells k.note.cells.toArray 88)).cell? ⟨w.heap.size + 1, 1, none⟩ = some (.int .i64 k.op) := cell_of_row _ _ 1 _ _ _ HB
  have b2 : ((w.alloc (.cells k.note.cells.toArray 88)).alloc (.cells k.note.cells.toArray 88)).cell? ⟨w.heap.size + 1, 2, none⟩ = some (.int .i64 0) := cell_of_row _ _ 2 _ _ _ HB
  have b3 : ((w.alloc (.cells k.note.cells.toArray 88)).alloc (.cells k.note.cells.toArray 88)).cell? ⟨w.heap.size + 1, 3, none⟩ = some (.string k.client) := cell_of_row _ _ 3 _ _ _ HB
  have b28 : ((w.alloc (.cells k.note.cells.toArray 88)).alloc (.cells k.note.cells.toArray 88)).cell? ⟨w.heap.size + 1, 28, none⟩ = some (.string k.msg.t) := cell_of_row _ _ 28 _ _ _ HB
  have b29 : ((w.alloc (.cells k.note.cells.toArray 88)).alloc (.cells k.note.cells.toArray 88)).cell? ⟨w.heap.size + 1, 29, none⟩ = some (.string k.msg.p) := cell_of_row _ _ 29 _ _ _ HB
  have b30 : ((w.alloc (.cells k.note.cells.toArray 88)).alloc (.cells k.note.cells.toArray 88)).cell? ⟨w.heap.size + 1, 30, none⟩ = some (.int .u8 k.msg.q) := cell_of_row _ _ 30 _ _ _ HB
  have b31 : ((w.alloc (.cells k.note.cells.toArray 88)).alloc (.cells k.note.cells.toArray 88)).cell? ⟨w.heap.size + 1, 31, none⟩ = some (.bool k.msg.r) := cell_of_row _ _ 31 _ _ _ HB
  have b32 : ((w.alloc (.cells k.note.cells.toArray 88)).alloc (.cells k.note.cells.toArray 88)).cell? ⟨w.heap.size + 1, 32, none⟩ = some (.string ⟨#[]⟩) := cell_of_row _ _ 32 _ _ _ HB
  have b33 : ((w.alloc (.cells k.note.cells.toArray 88)).alloc (.cells k.note.cells.toArray 88)).cell? ⟨w.heap.size + 1, 33, none⟩ = some (.bool false) := cell_of_row _ _ 33 _ _ _ HB
  have b34 : ((w.alloc (.cells k.note.cells.toArray 88)).alloc (.cells k.note.cells.toArray 88)).cell? ⟨w.heap.size + 1, 34, none⟩ = some (.int .u8 0) := cell_of_row _ _ 34 _ _ _ HB
  have PA : Hid (((w.alloc (.cells k.note.cells.toArray 88)).alloc (.cells k.note.cells.toArray 88)).rangeAt w.heap.size 4 pkZ.cells) := Lib.hid (range_sub19 (xs := [.int .u8 5, .int .i64 k.op, .int .i64 0, .string k.client]) (range_blk HA))
  have PB : Hid (((w.alloc (.cells k.note.cells.toArray 88)).alloc (.cells k.note.cells.toArray 88)).rangeAt (w.heap.size + 1) 4 pkZ.cells) := Lib.hid (range_sub19 (xs := [.int .u8 5, .int .i64 k.op, .int .i64 0, .string k.client]) (range_blk HB))
  have HPL : Hid ((Tryz.prog.info? 31).map (·.size) = some pkZ.cells.length) := Lib.hid (by kernel_rfl)
  have HPZ := Lib.hid same_pz
  have HBW := Lib.hid hB
  clear HA HB hB
  generalize k.note.cells.toArray = XA at *
  have hcmp := fun w => msg_eql true w k.msg.t k.msg.p k.msg.t k.msg.p k.msg.q k.msg.q k.msg.r k.msg.r (by simp)
  generalize k.op = e2 at *
  generalize k.client = e3 at *
  generalize k.msg.t = e6 at *
  generalize k.msg.p = e7 at *
  generalize k.msg.q = e8 at *
  generalize k.msg.r = e9 at *
  generalize pkZ.cells = PZ at *
  go_enter Tryz.func70, Tryz.ntmps70
  go_upto_region 1 with fail
  generalize (w.alloc (.cells XA 88)).alloc (.cells XA 88) = W at *
  go_wp2_with (first
    | (refine wpList_ldG (by kernel_rfl) 31 _ rfl w.heap.size 4 rfl PZ _ PA.out Tryz.underlying31 rfl HPL.out _ rfl ?_)
    | (refine wpList_ldG (by kernel_rfl) 31 _ rfl (w.heap.size + 1) 4 rfl PZ _ PB.out Tryz.underlying31 rfl HPL.out _ rfl ?_)
    | fail)
  refine (HPZ.out _).mono ?_
  rintro e w1 ⟨rfl, hk1⟩
  have HB1 := Lib.hid (bnext HBW.out (Nat.le_refl _) hk1)
  clear hk1
  go_wp2_with fail
  go_ret
  exact ⟨rfl, HB1.out⟩
set_option maxRecDepth 100000 in
set_option maxHeartbeats 4000000 in
theorem sameRow17 (a a' : Option Addr) (c c' : Nat) (l : List NoteK) (w : World) (r : Row w a (notesK l)) (r' : Row w a' (notesK l)) (hl : l.length ≤ 100000) :
    Calls Tryz.prog 41 #[.slice a l.length c, .slice a' l.length c'] w fun e w' => e = .returned (.bool true) ∧ Below w.heap.size w w' := by
  have R1 := Lib.hid r
  have R2 := Lib.hid r'
  clear r r'
  go_enter Tryz.func41, Tryz.ntmps41
  go_wp2_with fail
  go_loopw [5] (fun i wr => ∃ k : Nat, i = .int .i64 k ∧ k ≤ l.length ∧ Below w.heap.size w wr) (fun i _ => (l.length - intOf i).toNat)
  case atStart => exact ⟨0, rfl, by omega, Below.refl _ _⟩
  case round =>
    obtain ⟨k, rfl, hk, hb⟩ := hrel
    have HB := Lib.hid hb
    clear hb
    by_cases hlt : k < l.length
    · have hk0 : (0 : Int) ≤ k := by omega
      have hkl : (k : Int) < l.length := by omega
      obtain ⟨b1, o1, rfl, g1⟩ := row_mid (mk := fun k : NoteK => k.note.cells) (m := 35) (fun _ => rfl) (R1.out.below HB.out (Nat.le_refl _)) hlt (by decide)
      obtain ⟨b2, o2, rfl, g2⟩ := row_mid (mk := fun k : NoteK => k.note.cells) (m := 35) (fun _ => rfl) (R2.out.below HB.out (Nat.le_refl _)) hlt (by decide)
      generalize l[k] = n at *
      have HC := Lib.hid (sameN17 n)
      have HLA : Hid ((Tryz.prog.info? 88).map (·.size) = some n.note.cells.length) := Lib.hid ((note_size _).trans (congrArg some List.size_toArray))
      have HSX : Hid (∀ X, Below wr.heap.size wr X → X.rangeAt b1 (o1 + k * 35) n.note.cells ∧ X.rangeAt b2 (o2 + k * 35) n.note.cells) := Lib.hid (fun X hX => ⟨range_below19 g1 hX, range_below19 g2 hX⟩)
      clear g1 g2
      generalize n.note.cells = XA at *
      go_wp2_with fail
      refine wp_region_held_drew (S := fun X => X.rangeAt b1 (o1 + k * 35) XA ∧ X.rangeAt b2 (o2 + k * 35) XA) (by kernel_rfl) (HSX.out _ (Below.refl _ _).drew) (fun hHeld => ?_)
      refine wpAnyH_take (i := 0) (v := ?_) rfl (by kernel_rfl) (by kernel_rfl) (by kernel_rfl) (fun _ _ _ h => h) (Or.inl ⟨rfl, ?_⟩) hHeld ?_
      rotate_left
      · intro w0 hS0
        try dsimp only at hS0
        go_simp
        try with_reducible rfl
      simp only [List.getElem_toArray, List.getElem_cons_zero, Act.put, List.setIfInBounds_toArray, List.set_cons_zero, List.set_cons_succ]
      refine wpAnyH_take (i := 1) (v := ?_) rfl (by kernel_rfl) (by kernel_rfl) (by kernel_rfl) (fun _ _ _ h => h) (Or.inl ⟨rfl, ?_⟩) hHeld ?_
      rotate_left
      · intro w0 hS0
        try dsimp only at hS0
        go_simp
        try with_reducible rfl
      simp only [List.getElem_toArray, List.getElem_cons_zero, List.getElem_cons_succ, Act.put, List.setIfInBounds_toArray, List.set_cons_zero, List.set_cons_succ]
      refine wpAnyH_take (i := 2) (v := ?_) rfl (by kernel_rfl) (by kernel_rfl) (by kernel_rfl) (fun _ _ _ h => h) (Or.inl ⟨rfl, ?_⟩) hHeld ?_
      rotate_left
      · intro w0 hS0
        try dsimp only at hS0
        go_simp
        try with_reducible rfl
      simp only [List.getElem_toArray, List.getElem_cons_zero, List.getElem_cons_succ, Act.put, List.setIfInBounds_toArray, List.set_cons_zero, List.set_cons_succ]
      refine wpAnyH_take (i := 3) (v := .agg XA.toArray) rfl (by kernel_rfl) (by kernel_rfl) (by kernel_rfl) (fun _ _ _ h => h) (Or.inl ⟨rfl, ?_⟩) hHeld ?_
      · intro w1 hS1
        exact exec_load_row rfl rfl hS1.1 Tryz.underlying88 rfl HLA.out
      simp only [List.getElem_toArray, List.getElem_cons_zero, List.getElem_cons_succ, Act.put, List.setIfInBounds_toArray, List.set_cons_zero, List.set_cons_succ]
      refine wpAnyH_take (i := 4) (v := ?_) rfl (by kernel_rfl) (by kernel_rfl) (by kernel_rfl) (fun _ _ _ h => h) (Or.inl ⟨rfl, ?_⟩) hHeld ?_
      rotate_left
      · intro w0 hS0
        try dsimp only at hS0
        go_simp
        try with_reducible rfl
      simp only [List.getElem_toArray, List.getElem_cons_zero, List.getElem_cons_succ, Act.put, List.setIfInBounds_toArray, List.set_cons_zero, List.set_cons_succ]
      refine wpAnyH_take (i := 5) (v := ?_) rfl (by kernel_rfl) (by kernel_rfl) (by kernel_rfl) (fun _ _ _ h => h) (Or.inl ⟨rfl, ?_⟩) hHeld ?_
      rotate_left
      · intro w0 hS0
        try dsimp only at hS0
        go_simp
        try with_reducible rfl
      simp only [List.getElem_toArray, List.getElem_cons_zero, List.getElem_cons_succ, Act.put, List.setIfInBounds_toArray, List.set_cons_zero, List.set_cons_succ]
      refine wpAnyH_take (i := 6) (v := ?_) rfl (by kernel_rfl) (by kernel_rfl) (by kernel_rfl) (fun _ _ _ h => h) (Or.inl ⟨rfl, ?_⟩) hHeld ?_
      rotate_left
      · intro w0 hS0
        try dsimp only at hS0
        go_simp
        try with_reducible rfl
      simp only [List.getElem_toArray, List.getElem_cons_zero, List.getElem_cons_succ, Act.put, List.setIfInBounds_toArray, List.set_cons_zero, List.set_cons_succ]
      refine wpAnyH_take (i := 7) (v := .agg XA.toArray) rfl (by kernel_rfl) (by kernel_rfl) (by kernel_rfl) (fun _ _ _ h => h) (Or.inl ⟨rfl, ?_⟩) hHeld ?_
      · intro w1 hS1
        exact exec_load_row rfl rfl hS1.2 Tryz.underlying88 rfl HLA.out
      simp only [List.getElem_toArray, List.getElem_cons_zero, List.getElem_cons_succ, Act.put, List.setIfInBounds_toArray, List.set_cons_zero, List.set_cons_succ]
      refine wpAnyH_ready (rs := [8]) (by kernel_rfl) (by simp) ?_
      refine AllReadyH.cons rfl (fun K hK => ?_) AllReadyH.nil
      rw [if_pos (by rfl)]
      go_simp
      go_at_call 70
      refine (HC.out _).mono ?_
      rintro e w2 ⟨rfl, hk2⟩
      have HB2 : Hid (Below wr.heap.size wr w2) := Lib.hid ((Below.refl wr.heap.size wr).drew.trans hk2)
      clear hk2
      refine hK.out _ _ (HSX.out _ HB2.out) (fun hHeld => ?_)
      refine wpAnyH_take (i := 9) (v := ?_) rfl (by kernel_rfl) (by kernel_rfl) (by kernel_rfl) (fun _ _ _ h => h) (Or.inl ⟨rfl, ?_⟩) hHeld ?_
      rotate_left
      · intro w0 hS0
        try dsimp only at hS0
        go_simp
        try with_reducible rfl
      simp only [List.getElem_toArray, List.getElem_cons_zero, List.getElem_cons_succ, Act.put, List.setIfInBounds_toArray, List.set_cons_zero, List.set_cons_succ]
      refine wpAnyH_done (by kernel_rfl) ?_ _
      clear hHeld
      go_wp2_with fail
      go_roundw
      case rel => exact ⟨k + 1, by go_num, by omega, bnext HB.out (Nat.le_refl _) HB2.out⟩
      case measure => simp [intOf]; omega
    · have hkl : ¬ (k : Int) < l.length := by omega
      go_wp2_with fail
      go_ret
      exact ⟨rfl, HB.out⟩
end
section
open Go Go.RowKit

theorem Hb.keepBy {w0 w w' : World} {h n k : Nat} {s : HubS} {lv : Value} {ns : List NoteK} {F S S' : List Nat} (p : Hb w0 w h n k s lv ns F) (hd : ∀ j ∈ F, j ∉ S) (hS : ∀ j ∈ S, w0.heap.size ≤ j) (hu : Upd S S' w w') : Hb w0 w' h n k s lv ns F ∧ ∀ j ∈ F, j ∉ S' :=
  ⟨p.mod hu hd hS, fun j hj hj' => fresh_not (p.lt j hj) (hd j hj) hu.2 hj'⟩
theorem upd_b {F : List Nat} {w w' : World} (hb : Below w.heap.size w w') : Upd F F w w' := ⟨Mod.of_below hb F, fun _ hk => .inl hk⟩
set_option maxRecDepth 100000 in
theorem log_newP (w : World) : Calls Tryz.prog 39 #[] w fun e w' => ∃ lg G, e = .returned (.pointer (some ⟨lg, 0, none⟩)) ∧ LogAt w' (.pointer (some ⟨lg, 0, none⟩)) [] G ∧ Upd [] G w w' := by
  go_enter Tryz.func39, Tryz.ntmps39
  go_wp2_with fail
  go_ret
  exact ⟨_, [w.heap.size], rfl, .inr ⟨w.heap.size, .slice none 0 0, rfl, heap_alloc_new w _, World.ownsRow_nil _ _ _ _, by simp [Value.ownBlock], rfl⟩, Mod.of_below ((Below.refl _ _).alloc (Nat.le_refl _) _) _, fun k hk => by rw [List.mem_singleton.1 hk]; exact .inr (Nat.le_refl _)⟩
/-- 'append(s, l...)' of an empty row -/
theorem wpList_app0 {P : Program} {t e : TypeId} {z : Value} {size bytes : Nat} (E : ElemT P t e z size bytes) {w : World} {B : Nat} {v : Value} {n : Nat} {xs : List Value} (hown : w.ownsRow B e size v n xs)
    {ops : Array Oper} {rest : List Oper} {o : Oper} {a : Act} {Q : Exit → Act → World → Prop} {s x : Operand} {ad : Option Addr} {c : Nat} (hgd : o.guard = none)
    (ho : o.op = .call { callee := .builtin .append, args := #[s, x], argTypes := #[t, t] }) (hs : a.eval s = v) (hx : a.eval x = .slice ad 0 c) (d : Option Tmp) (hd : o.dst = d)
    (h : wpList P ops Q rest (a.put d v) w) : wpList P ops Q (o :: rest) a w := by
  subst hd
  obtain ⟨i0, hi, hz0, hz1, hz2⟩ := info_parts E.hi
  have hr : (Builtin.append_ #[t, t] o.type #[v, .slice ad 0 c]).run P w = .ok v w := by
    rcases hown.2 with ⟨rfl, rfl⟩ | ⟨g, cap, cur, rfl, _, _, hnc, _⟩ <;> cases ad <;> simp [Builtin.append_, run_underlying E.ht, sizeOf, typeInfo, Builtin.lenOf, Builtin.firstCells, storeCells, loadCells, loadCellsFrom, *]
  refine wpList_plain hgd fun K hK => ?_
  unfold Oper.wp execOp
  simp only [ho, resolve, invoke, builtin, Sem.run_bind, Sem.run_pure, Result.andThen_ok, List.map_toArray, List.map_cons, List.map_nil, hs, hx, hr]
  exact hK _ _ h
end
end Go.Proofs.YthfdcphecggjeaaGreatDoor
