/- The hub's laws: rows of items that are built; the chapter's hub; awake walked. (Printed by gen_haw.py.) The hub's laws: SameHints walked. (Cut out of RAct.) The hub's laws: rows of mails, of notes, that are the same. (Printed by gen_hsame.py.) The hub's laws: SameItem, SameMails, SameRow walked, at rows that are the same. (Printed by gen_hsame2.py.) The hub's laws: SameMails walked, at rows that are the same. (Printed by gen_hsame3.py.) The hub's laws: Same (of notes), SameRow walked, at rows that are the same. (Printed by gen_hsame4.py.) The hub's laws: two hubs side by side; a log of the call's own; an empty row appended. -/
import Derived.Test.YthfdcphecggjeaaGreatDoorQY
import Derived.Test.YthfdcphecggjeaaGreatDoorQP
import Derived.Test.YthfdcphecggjeaaGreatDoorKHelp
import Derived.Test.YthfdcphecggjeaaGreatDoorQX
import Derived.Deep.CutBlock
namespace Go.Proofs.YthfdcphecggjeaaGreatDoor
section
open Go Go.RowKit

theorem T_item : ElemT Tryz.prog 22 36 (.agg itemZ.cells.toArray) 38 384 := ⟨Tryz.underlying22, by kernel_rfl, by kernel_rfl, by decide⟩
theorem build_items1 (x0 : Item) (ops : Array Oper) (rest : List Oper) (o : Oper) (a : Act) (w : World) (Q : Exit → Act → World → Prop) (hg : o.guard = none) (A0 : Operand) (ho : o.op = .buildSlice 22 1 #[(0, A0)]) (h0 : a.eval A0 = .agg x0.cells.toArray)
    (d : Option Tmp) (hd : o.dst = d) (nb : Nat) (hnb : w.heap.size = nb) (h : wpList Tryz.prog ops Q rest (a.put d (.slice (some ⟨nb, 0, none⟩) 1 1)) (w.alloc (.cells (itemsV [x0]).toArray 36))) : wpList Tryz.prog ops Q (o :: rest) a w := by
  subst hd hnb
  refine wpList_plain hg fun K hK => ?_
  obtain ⟨i, hi, hz0, hz1, hz2⟩ := info_parts T_item.hi
  refine wp_buildSlice 22 36 1 _ ho (itemsV [x0]).toArray i _ Tryz.underlying22 hi hz0 (by rw [hz1]; decide) (by rw [hz1]; decide) ?_ (hK _ _ h)
  rw [hz1]
  simp only [List.map_toArray, List.map_cons, List.map_nil, h0]
  clear h0 h hK ho hi hz0 hz1 hz2
  obtain ⟨k0_, o0_, n0_, c0_, f0_, ⟨a0_, b0_, d0_, e0_, g0_, h0_, i0_, j0_, l0_, m0_, p0_, q0_, ⟨r0_, s0_, t0_, u0_⟩, v0_, w0_, x0_, y0_, z0_, aa0_, ab0_, ac0_, ad0_, ae0_⟩, ⟨af0_, ag0_, ah0_, ai0_⟩, aj0_, ak0_, al0_, am0_, an0_, ao0_, ap0_, aq0_, ar0_, as0_, at0_⟩ := x0
  kernel_rfl
theorem build_items3 (x0 x1 x2 : Item) (ops : Array Oper) (rest : List Oper) (o : Oper) (a : Act) (w : World) (Q : Exit → Act → World → Prop) (hg : o.guard = none) (A0 A1 A2 : Operand) (ho : o.op = .buildSlice 22 3 #[(0, A0), (1, A1), (2, A2)]) (h0 : a.eval A0 = .agg x0.cells.toArray) (h1 : a.eval A1 = .agg x1.cells.toArray) (h2 : a.eval A2 = .agg x2.cells.toArray)
    (d : Option Tmp) (hd : o.dst = d) (nb : Nat) (hnb : w.heap.size = nb) (h : wpList Tryz.prog ops Q rest (a.put d (.slice (some ⟨nb, 0, none⟩) 3 3)) (w.alloc (.cells (itemsV [x0, x1, x2]).toArray 36))) : wpList Tryz.prog ops Q (o :: rest) a w := by
  subst hd hnb
  refine wpList_plain hg fun K hK => ?_
  obtain ⟨i, hi, hz0, hz1, hz2⟩ := info_parts T_item.hi
  refine wp_buildSlice 22 36 3 _ ho (itemsV [x0, x1, x2]).toArray i _ Tryz.underlying22 hi hz0 (by rw [hz1]; decide) (by rw [hz1]; decide) ?_ (hK _ _ h)
  rw [hz1]
  simp only [List.map_toArray, List.map_cons, List.map_nil, h0, h1, h2]
  clear h0 h1 h2 h hK ho hi hz0 hz1 hz2
  obtain ⟨k0_, o0_, n0_, c0_, f0_, ⟨a0_, b0_, d0_, e0_, g0_, h0_, i0_, j0_, l0_, m0_, p0_, q0_, ⟨r0_, s0_, t0_, u0_⟩, v0_, w0_, x0_, y0_, z0_, aa0_, ab0_, ac0_, ad0_, ae0_⟩, ⟨af0_, ag0_, ah0_, ai0_⟩, aj0_, ak0_, al0_, am0_, an0_, ao0_, ap0_, aq0_, ar0_, as0_, at0_⟩ := x0
  obtain ⟨k1_, o1_, n1_, c1_, f1_, ⟨a1_, b1_, d1_, e1_, g1_, h1_, i1_, j1_, l1_, m1_, p1_, q1_, ⟨r1_, s1_, t1_, u1_⟩, v1_, w1_, x1_, y1_, z1_, aa1_, ab1_, ac1_, ad1_, ae1_⟩, ⟨af1_, ag1_, ah1_, ai1_⟩, aj1_, ak1_, al1_, am1_, an1_, ao1_, ap1_, aq1_, ar1_, as1_, at1_⟩ := x1
  obtain ⟨k2_, o2_, n2_, c2_, f2_, ⟨a2_, b2_, d2_, e2_, g2_, h2_, i2_, j2_, l2_, m2_, p2_, q2_, ⟨r2_, s2_, t2_, u2_⟩, v2_, w2_, x2_, y2_, z2_, aa2_, ab2_, ac2_, ad2_, ae2_⟩, ⟨af2_, ag2_, ah2_, ai2_⟩, aj2_, ak2_, al2_, am2_, an2_, ao2_, ap2_, aq2_, ar2_, as2_, at2_⟩ := x2
  kernel_rfl
theorem Hb.nolog {w0 w : World} {h n k : Nat} {s : HubS} {ns : List NoteK} {F : List Nat} (p : Hb w0 w h n k s (.pointer none) ns F) : Hb w0 w h n k s (.pointer none) [] F := by
  obtain ⟨t, kg, N, Ft, KF, G, P, rfl⟩ := p.p
  have hlg : LogAt w (.pointer none) [] G := by
    rcases P.lg with ⟨-, h⟩ | ⟨lg, v, h, -⟩
    · exact .inl ⟨rfl, h⟩
    · cases h
  exact ⟨⟨t, kg, N, Ft, KF, G, ⟨P.top, P.tr, P.kp, hlg, P.hT, P.hK, P.hG, P.tK, P.tG, P.kG⟩, rfl⟩, p.kl, by simp, p.ok, p.cl, p.up, p.fF, p.bel⟩
theorem upd_trans_h {w w1 w2 : World} {F F1 F2 : List Nat} (h : Upd F F1 w w1) (hu : Upd F1 F2 w1 w2) : Upd F F2 w w2 :=
  ⟨h.1.trans hu.1 h.2, fun k hk => (hu.2 k hk).elim (h.2 k) (fun h1 => .inr (Nat.le_trans h.1.size h1))⟩
theorem built_add (f c : ByteArray) : Tryz.prog.built 36 [(0, .int .u8 5), (4, .string f), (3, .string c)] = some (iAdd f c 0).cells.toArray := by kernel_rfl
theorem built_route0 (m : Msg) : Tryz.prog.built 36 [(0, .int .u8 7), (6, .agg #[.string m.t, .string m.p, .int .u8 m.q, .bool m.r])] = some (iRoute 0 ⟨#[]⟩ m 0).cells.toArray := by
  obtain ⟨t, p, q, r⟩ := m
  kernel_rfl
theorem beside_new {w : World} {F : List Nat} (hF : ∀ k ∈ F, k < w.heap.size) (l : List Item) (T : TypeId) : Beside (w.alloc (.cells (itemsV l).toArray T)) F (some ⟨w.heap.size, 0, none⟩) (itemsV l) := Beside.new hF _ _
set_option maxRecDepth 100000 in
set_option maxHeartbeats 4000000 in
theorem small_any (w0 w : World) (hb : Below w0.heap.size w0 w) (hT : Tabs w0) : Calls Tryz.prog 17 #[] w fun e w' => ∃ h F, e = .returned (.pointer (some ⟨h, 0, none⟩)) ∧ Hb w0 w' h 4 3 smallS (.pointer none) [] F ∧ Upd [] F w w' := by
  have HN := hub_yes w0 4 (by decide) (by decide) w hb
  rw [show ((4 : Nat) : Int) = 4 from rfl] at HN
  replace HN := Lib.hid HN
  have HT := Lib.hid hT
  have HB1 := Lib.hid (built_add ⟨#[97, 47, 43]⟩ ⟨#[120]⟩)
  have HB2 := Lib.hid (built_add ⟨#[35]⟩ ⟨#[121]⟩)
  have HB3 := Lib.hid (built_route0 m1)
  have HBS := Lib.hid (build_items3 (iAdd ⟨#[97, 47, 43]⟩ ⟨#[120]⟩ 0) (iAdd ⟨#[35]⟩ ⟨#[121]⟩ 0) (iRoute 0 ⟨#[]⟩ m1 0))
  have hsl : [iAdd ⟨#[97, 47, 43]⟩ ⟨#[120]⟩ 0, iAdd ⟨#[35]⟩ ⟨#[121]⟩ 0, iRoute 0 ⟨#[]⟩ m1 0] = smallL := rfl
  rw [hsl] at HBS
  have HDO := Lib.hid (fun h F w1 (hp : Hb w0 w1 h 4 0 HubS.new (.pointer none) [] F) => hdo_any w0 h 4 0 HubS.new (.pointer none) [] F smallL (some ⟨w1.heap.size, 0, none⟩) 3 (w1.alloc (.cells (itemsV smallL).toArray 36)) (hp.below (low_alloc _ _)) hT small_ok (by decide) (by decide) (by decide) (beside_new hp.lt _ _) [] (by simp))
  clear hsl hb hT
  generalize (iAdd ⟨#[97, 47, 43]⟩ ⟨#[120]⟩ 0).cells.toArray = I1 at *
  generalize (iAdd ⟨#[35]⟩ ⟨#[121]⟩ 0).cells.toArray = I2 at *
  generalize (iRoute 0 ⟨#[]⟩ m1 0).cells.toArray = I3 at *
  go_enter Tryz.func17, Tryz.ntmps17
  go_wp2_with fail
  refine HN.out.mono ?_
  rintro e w1 ⟨h, F, rfl, hp1, hu1⟩
  have HP1 := Lib.hid hp1
  have HU1 := Lib.hid hu1
  clear hp1 hu1
  go_wp2_with (first
    | (refine wpList_buildBy rfl 36 #[(0, .const (.int .u8 5)), (4, .const (.string ⟨#[97, 47, 43]⟩)), (3, .const (.string ⟨#[120]⟩))] rfl _ rfl I1 [(0, .int .u8 5), (4, .string ⟨#[97, 47, 43]⟩), (3, .string ⟨#[120]⟩)] (by kernel_rfl) HB1.out ?_)
    | (refine wpList_buildBy rfl 36 #[(0, .const (.int .u8 5)), (4, .const (.string ⟨#[35]⟩)), (3, .const (.string ⟨#[121]⟩))] rfl _ rfl I2 [(0, .int .u8 5), (4, .string ⟨#[35]⟩), (3, .string ⟨#[121]⟩)] (by kernel_rfl) HB2.out ?_)
    | (refine wpList_buildBy rfl 36 #[(0, .const (.int .u8 7)), (6, .tmp 8)] rfl _ rfl I3 [(0, .int .u8 7), (6, .agg #[.string m1.t, .string m1.p, .int .u8 m1.q, .bool m1.r])] (by kernel_rfl) HB3.out ?_)
    | (refine HBS.out _ _ _ _ _ _ rfl _ _ _ rfl rfl rfl rfl _ rfl w1.heap.size rfl ?_)
    | fail)
  refine (HDO.out h F w1 HP1.out).mono ?_
  rintro e w2 ⟨v, M, F2, rfl, hp2, hu2, -⟩
  have HP2 := Lib.hid hp2
  have HU2 := Lib.hid hu2
  clear hp2 hu2
  go_wp2_with fail
  go_ret
  refine ⟨h, F2, rfl, ?_, (upd_trans_h HU1.out (upd_trans_h ⟨Mod.of_below (low_alloc w1 _) _, fun _ hk => .inl hk⟩ HU2.out))⟩
  have := HP2.out
  rw [small_s] at this
  exact this.nolog
structure MailC (w : World) (b o : Nat) (m : Mail) : Prop where
  dest : w.cell? ⟨b, o, none⟩ = some (.int .i64 m.dest)
  lane : w.cell? ⟨b, o + 1, none⟩ = some (.int .i64 5)
  kind : w.cell? ⟨b, o + 2, none⟩ = some (.int .u8 m.it.kind)
  op : w.cell? ⟨b, o + 3, none⟩ = some (.int .i64 m.it.op)
  client : w.cell? ⟨b, o + 5, none⟩ = some (.string m.it.client)
  t : w.cell? ⟨b, o + 31, none⟩ = some (.string m.it.msg.t)
  p : w.cell? ⟨b, o + 32, none⟩ = some (.string m.it.msg.p)
  q : w.cell? ⟨b, o + 33, none⟩ = some (.int .u8 m.it.msg.q)
  r : w.cell? ⟨b, o + 34, none⟩ = some (.bool m.it.msg.r)
  ms : w.cell? ⟨b, o + 35, none⟩ = some (.slice m.it.msA m.it.ms.length m.it.msC)
  cls : w.cell? ⟨b, o + 36, none⟩ = some (.slice m.it.clsA m.it.cls.length m.it.clsC)
  many : w.cell? ⟨b, o + 39, none⟩ = some (.int .i64 m.it.many)
theorem mail_c {w : World} {b o : Nat} {m : Mail} (h : w.rangeAt b o m.cells) : MailC w b o m :=
  ⟨h 0 _ rfl, h 1 _ rfl, h 2 _ rfl, h 3 _ rfl, h 5 _ rfl, h 31 _ rfl, h 32 _ rfl, h 33 _ rfl, h 34 _ rfl, h 35 _ rfl, h 36 _ rfl, h 39 _ rfl⟩
theorem mails3 {w : World} {F : List Nat} {h0 h1 h2 : HMail} : ∀ {M : List Mail}, Mails w F M [h0, h1, h2] → ∃ m0 m1 m2, M = [m0, m1, m2] ∧ MailAt w F m0 h0 ∧ MailAt w F m1 h1 ∧ MailAt w F m2 h2
  | [m0, m1, m2], h => ⟨m0, m1, m2, rfl, h.1, h.2.1, h.2.2.1⟩
  | [], h => h.elim
  | [_], h => h.2.elim
  | [_, _], h => h.2.2.elim
  | _ :: _ :: _ :: _ :: _, h => h.2.2.2.elim
set_option maxRecDepth 100000 in
set_option maxHeartbeats 4000000 in
theorem routed_any (w : World) : Calls Tryz.prog 18 #[] w fun e w' => e = .returned (.agg routedI.cells.toArray) ∧ Below w.heap.size w w' := by
  have HBU := Lib.hid (show Tryz.prog.built 36 [(0, .int .u8 7), (1, .int .i64 3), (3, .string ⟨#[112]⟩), (6, .agg #[.string ⟨#[97, 47, 98]⟩, .string ⟨#[50]⟩, .int .u8 0, .bool false]), (10, .int .i64 2)] = some routedI.cells.toArray by kernel_rfl)
  have HIS := Lib.hid (item_size routedI)
  have HI38 : Hid ((38 : Nat) = routedI.cells.toArray.size) := Lib.hid rfl
  have HIO := Lib.hid (item_one routedI)
  generalize routedI.cells.toArray = RI at *
  have HBL := Lib.hid (low_alloc w (.cells RI 36))
  have HNB := Lib.hid (heap_alloc_new w (.cells RI 36))
  go_enter Tryz.func18, Tryz.ntmps18
  go_wp2_with (first
    | (refine wpList_buildBy rfl 36 _ rfl _ rfl RI [(0, .int .u8 7), (1, .int .i64 3), (3, .string ⟨#[112]⟩), (6, .agg #[.string ⟨#[97, 47, 98]⟩, .string ⟨#[50]⟩, .int .u8 0, .bool false]), (10, .int .i64 2)] (by kernel_rfl) HBU.out ?_)
    | (refine wpList_store_newTo rfl 36 _ _ rfl rfl w.heap.size rfl RI _ rfl rfl HIS.out HI38.out HIO.out ?_)
    | fail)
  (try simp only [Exit.inBlock, Exit.then])
  exact bodyPost_ret (results_cell_row rfl _ _ w.heap.size 36 RI (0, 0) _ rfl HNB.out Tryz.underlying36 rfl HIS.out) rfl ⟨rfl, HBL.out⟩
set_option maxRecDepth 100000 in
set_option maxHeartbeats 4000000 in
theorem awake19 (w0 w : World) (hb : Below w0.heap.size w0 w) (hT : Tabs w0) : Calls Tryz.prog 11 #[] w fun e w' => e = .returned (.bool true) ∧ Below w.heap.size w w' := by
  have HSM := Lib.hid (small_any w0 w hb hT)
  have HT := Lib.hid hT
  have HRT := Lib.hid routed_any
  have HBS := Lib.hid (build_items1 routedI)
  have HDO := Lib.hid (fun h F w1 (hp : Hb w0 w1 h 4 3 smallS (.pointer none) [] F) => hdo_any w0 h 4 3 smallS (.pointer none) [] F [routedI] (some ⟨w1.heap.size, 0, none⟩) 1 (w1.alloc (.cells (itemsV [routedI]).toArray 36)) (hp.below (low_alloc _ _)) hT (by simpa using routed_ok) (by decide) (by decide) (by decide) (beside_new hp.lt _ _) [] (by simp))
  clear hb hT
  generalize routedI.cells.toArray = RI at *
  go_enter Tryz.func11, Tryz.ntmps11
  go_wp2_with fail
  refine HSM.out.mono ?_
  rintro e w1 ⟨h, F, rfl, hp1, hu1⟩
  have HP1 := Lib.hid hp1
  have HU1 := Lib.hid hu1
  clear hp1 hu1
  go_wp2_with fail
  refine (HRT.out _).mono ?_
  rintro e w2 ⟨rfl, hk2⟩
  have HP2 := Lib.hid (HP1.out.below hk2)
  have HU2 := Lib.hid (upd_trans_h HU1.out ⟨Mod.of_below hk2 F, fun _ h => .inl h⟩)
  clear hk2
  go_wp2_with (first
    | (refine HBS.out _ _ _ _ _ _ rfl _ rfl rfl _ rfl w2.heap.size rfl ?_)
    | fail)
  refine (HDO.out h F w2 HP2.out).mono ?_
  rintro e w3 ⟨v, M, F3, rfl, hp3, hu3, ho3⟩
  rw [routed_mails] at ho3
  rw [routed_state] at hp3
  obtain ⟨m0, m1', m2', rfl, h0, h1, h2⟩ := mails3 ho3.ms
  obtain ⟨a, cc, rfl, hr, -, -⟩ := ownsRow_row ho3.own
  obtain ⟨_, _, _, _, rfl, -, -⟩ := h0
  obtain ⟨_, _, _, _, rfl, -, -⟩ := h1
  obtain ⟨_, _, _, _, rfl, -, -⟩ := h2
  obtain ⟨b, o, rfl, r0⟩ := row_mid (mk := Mail.cells) (m := 40) mail_len hr (k := 0) (by simp) (by decide)
  obtain ⟨b', o', e1, r1⟩ := row_mid (mk := Mail.cells) (m := 40) mail_len hr (k := 1) (by simp) (by decide)
  cases e1
  obtain ⟨b', o', e1, r2⟩ := row_mid (mk := Mail.cells) (m := 40) mail_len hr (k := 2) (by simp) (by decide)
  cases e1
  have d0 := (mail_c r0).dest
  have d1 := (mail_c r1).dest
  have d2 := (mail_c r2).dest
  have k2 := (mail_c r2).kind
  have n2 := (mail_c r2).many
  have HHI := Lib.hid (hints_any w0 h 4 _ smallS _ _ F3 w3 hp3 (by decide))
  have HU3 := Lib.hid (upd_trans_h HU2.out (upd_trans_h ⟨Mod.of_below (low_alloc w2 (.cells (itemsV [routedI]).toArray 36)) F, fun _ h => .inl h⟩ hu3))
  clear hp3 hu3 ho3 hr r0 r1 r2
  simp only [List.getElem_cons_zero, List.getElem_cons_succ, toM, backM, itemOf, Nat.zero_mul, Nat.add_zero, Nat.reduceMul, Nat.add_assoc, Nat.reduceAdd] at d0 d1 d2 k2 n2
  go_wp2_with fail
  refine HHI.out.mono ?_
  rintro e w4 ⟨v4, rfl, hown4, hk4⟩
  obtain ⟨a4, c4, rfl, -, -, -⟩ := ownsRow_row hown4
  have hl2 : smallS.gs.length = 2 := rfl
  rw [hl2]
  have HB4 := Lib.hid (bnext (HU3.out.1.below (Nat.le_refl _) (by simp)) (Nat.le_refl _) hk4)
  clear hown4 hk4 hl2 d0 d1 d2 k2 n2
  go_wp2_with fail
  go_ret
  exact ⟨rfl, HB4.out⟩
end
section
open Go Go.RowKit

theorem mk_inj {a b : Str} : (⟨a.toArray⟩ : ByteArray) = ⟨b.toArray⟩ ↔ a = b := by
  constructor
  · intro h
    have := congrArg (fun x : ByteArray => x.data.toList) h
    simpa using this
  · rintro rfl; rfl
theorem hint_neq (b : Bool) (w : World) (f c f' c' : Str) (h : decide (((f, c) : Hint) = (f', c')) = b) :
    (binOp .neq 47 (.agg #[.string ⟨f.toArray⟩, .string ⟨c.toArray⟩]) (.agg #[.string ⟨f'.toArray⟩, .string ⟨c'.toArray⟩])).run Tryz.prog w = .ok (.bool (!b)) w := by
  have hst : Tryz.prog.stoodInHeld 47 = false := by kernel_rfl
  have hgd : Tryz.prog.eqGuardType Tryz.prog.depth 47 = false := by kernel_rfl
  go_simp
  try simp only [ba_toList, mk_inj]
  subst h
  by_cases h1 : f = f'
  · by_cases h2 : c = c' <;> simp [h1, h2]
  · simp [h1]
theorem hint_eql (b : Bool) (w : World) (f c f' c' : Str) (h : decide (((f, c) : Hint) = (f', c')) = b) :
    (binOp .eql 47 (.agg #[.string ⟨f.toArray⟩, .string ⟨c.toArray⟩]) (.agg #[.string ⟨f'.toArray⟩, .string ⟨c'.toArray⟩])).run Tryz.prog w = .ok (.bool b) w := by
  have hst : Tryz.prog.stoodInHeld 47 = false := by kernel_rfl
  have hgd : Tryz.prog.eqGuardType Tryz.prog.depth 47 = false := by kernel_rfl
  go_simp
  try simp only [ba_toList, mk_inj]
  subst h
  by_cases h1 : f = f'
  · by_cases h2 : c = c' <;> simp [h1, h2]
  · simp [h1]

set_option maxRecDepth 100000 in
set_option maxHeartbeats 2000000 in
theorem sameH_any (bb : Bool) (a b : Option Addr) (c d : Nat) (l m : List Hint) (w : World) (ha : Row w a (hintsV l)) (hb : Row w b (hintsV m)) (hm : m.length ≤ 100000) (hbb : decide (l = m) = bb) :
    Calls Tryz.prog 20 #[.slice a l.length c, .slice b m.length d] w fun e w' => e = .returned (.bool bb) ∧ ∃ n, w' = w.drewN n := by
  have HBB := Lib.hid hbb
  have HA := Lib.hid ha
  have HB := Lib.hid hb
  clear ha hb hbb
  by_cases hlen : l.length = m.length
  · have HL := Lib.hid hlen
    rw [hlen]
    have hl' : m.length ≤ 100000 := hm
    clear hlen
    go_enter Tryz.func20, Tryz.ntmps20
    go_wp2_with fail
    go_loopw [5] (fun i wr => ∃ k : Nat, i = .int .i64 k ∧ k ≤ m.length ∧ (∃ n, wr = w.drewN n) ∧ l.take k = m.take k) (fun i _ => (m.length - intOf i).toNat)
    case atStart => exact ⟨0, rfl, by omega, ⟨0, rfl⟩, by simp⟩
    case round =>
      obtain ⟨k, rfl, hk, ⟨n, rfl⟩, htk⟩ := hrel
      have HTK := Lib.hid htk
      clear htk
      by_cases hlt : k < m.length
      · have hlt' : k < l.length := by rw [HL.out]; exact hlt
        obtain ⟨b1, o1, rfl, k0, k1⟩ := hints_row HA.out hlt'
        obtain ⟨b2, o2, rfl, j0, j1⟩ := hints_row HB.out hlt
        have h1 : l.take (k + 1) = l.take k ++ [l[k]] := List.take_succ_eq_append_getElem hlt'
        have h2 : m.take (k + 1) = m.take k ++ [m[k]] := List.take_succ_eq_append_getElem hlt
        have HE : Hid (l[k] = m[k] → l.take (k + 1) = m.take (k + 1)) := Lib.hid (fun e => by rw [h1, h2, HTK.out, e])
        have HN : Hid (l[k] ≠ m[k] → false = bb) := Lib.hid (fun e => by rw [← HBB.out]; symm; simp only [decide_eq_false_iff_not]; rintro rfl; exact e rfl)
        clear h1 h2
        generalize l[k] = x at *
        generalize m[k] = y at *
        obtain ⟨xf, xc⟩ := x
        obtain ⟨yf, yc⟩ := y
        have hk0 : (0 : Int) ≤ k := by omega
        have hkl : (k : Int) < m.length := by omega
        simp only at k0 k1 j0 j1
        obtain ⟨b, hb⟩ : ∃ b, decide (((xf, xc) : Hint) = (yf, yc)) = b := ⟨_, rfl⟩
        have hcmp := fun w => hint_neq b w xf xc yf yc hb
        cases b with
        | true =>
          have HE' := Lib.hid (HE.out (of_decide_eq_true hb))
          clear HE HN hb
          go_wp2_with fail
          go_quiet (fail)
          go_wp2_with fail
          go_roundw
          case rel => exact ⟨k + 1, by go_num, by omega, ⟨n + _, rfl⟩, HE'.out⟩
          case measure => simp [intOf]; omega
        | false =>
          have HN' := Lib.hid (HN.out (of_decide_eq_false hb))
          clear HE HN hb
          go_wp2_with fail
          go_quiet (fail)
          go_wp2_with fail
          go_ret
          exact ⟨ret_bool HN'.out, _, World.drewN_drewN _ _ _⟩
      · have hkl : ¬ (k : Int) < m.length := by omega
        have HBT : Hid (true = bb) := Lib.hid (by
          have := HTK.out
          have hL := HL.out
          rw [List.take_of_length_le (by omega), List.take_of_length_le (by omega)] at this
          rw [← HBB.out, this]; simp)
        go_wp2_with fail
        go_ret
        exact ⟨ret_bool HBT.out, n, rfl⟩
  · have hne : ((l.length : Int) == m.length) = false := by simp; omega
    have HN : Hid (false = bb) := Lib.hid (by rw [← HBB.out]; symm; simp only [decide_eq_false_iff_not]; rintro rfl; exact hlen rfl)
    clear hlen
    go_enter Tryz.func20, Tryz.ntmps20
    go_wp2_with fail
    go_ret
    exact ⟨ret_bool HN.out, 0, rfl⟩
end
section
open Go Go.RowKit

end
section
open Go Go.RowKit

end
section
open Go Go.RowKit

theorem range_below19 {w w' : World} {b o : Nat} {cs : List Value} (h : w.rangeAt b o cs) (hb : Below w.heap.size w w') : w'.rangeAt b o cs := fun j v hj => by
  have := h j v hj
  exact (hb.cell (p := ⟨b, o + j, none⟩) (World.block_lt_of_cell? w _ this)).trans this
end
section
open Go Go.RowKit

end
section
open Go Go.RowKit

theorem Hb.keepBy {w0 w w' : World} {h n k : Nat} {s : HubS} {lv : Value} {ns : List NoteK} {F S S' : List Nat} (p : Hb w0 w h n k s lv ns F) (hd : ∀ j ∈ F, j ∉ S) (hS : ∀ j ∈ S, w0.heap.size ≤ j) (hu : Upd S S' w w') : Hb w0 w' h n k s lv ns F ∧ ∀ j ∈ F, j ∉ S' :=
  ⟨p.mod hu hd hS, fun j hj hj' => fresh_not (p.lt j hj) (hd j hj) hu.2 hj'⟩
theorem upd_b {F : List Nat} {w w' : World} (hb : Below w.heap.size w w') : Upd F F w w' := ⟨Mod.of_below hb F, fun _ hk => .inl hk⟩
/-- 'append(s, l...)' of an empty row -/
theorem wpList_app0 {P : Program} {t e : TypeId} {z : Value} {size bytes : Nat} (E : ElemT P t e z size bytes) {w : World} {B : Nat} {v : Value} {n : Nat} {xs : List Value} (hown : w.ownsRow B e size v n xs)
    {ops : Array Oper} {rest : List Oper} {o : Oper} {a : Act} {Q : Exit → Act → World → Prop} {s x : Operand} {ad : Option Addr} {c : Nat} (hgd : o.guard = none)
    (ho : o.op = .call { callee := .builtin .append, args := #[s, x], argTypes := #[t, t] }) (hs : a.eval s = v) (hx : a.eval x = .slice ad 0 c) (d : Option Tmp) (hd : o.dst = d)
    (h : wpList P ops Q rest (a.put d v) w) : wpList P ops Q (o :: rest) a w := by
  subst hd
  obtain ⟨i0, hi, hz0, hz1, hz2⟩ := info_parts E.hi
  have hr : (Builtin.append_ #[t, t] o.type #[v, .slice ad 0 c]).run P w = .ok v w := by
    rcases hown.2 with ⟨rfl, rfl⟩ | ⟨g, cap, cur, rfl, _, _, hnc, _⟩ <;> cases ad <;> simp [Builtin.append_, run_underlying E.ht, sizeOf, typeInfo, Builtin.lenOf, Builtin.firstCells, storeCells, loadCells, loadCellsFrom, *]
  refine wpList_plain hgd fun K hK => ?_
  unfold Oper.wp execOp
  simp only [ho, resolve, invoke, builtin, Sem.run_bind, Sem.run_pure, Result.andThen_ok, List.map_toArray, List.map_cons, List.map_nil, hs, hx, hr]
  exact hK _ _ h
end
end Go.Proofs.YthfdcphecggjeaaGreatDoor
