/- A session's law: awake walked. A session's law: awake walked. (Printed by gen_awake18.py.) -/
import Derived.Test.YtmkhagmjpbfieaaGreatDoorSeDoX
namespace Go.Proofs.YtmkhagmjpbfieaaGreatDoor
section
open Go Go.RowKit

def msgW : Msg := ⟨⟨#[119]⟩, ⟨#[]⟩, 0, false⟩
def msgM : Msg := ⟨⟨#[109]⟩, ⟨#[]⟩, 0, false⟩
def conW : Pkt := { conK false with hasWill := true, will := msgW }
def pingK : Pkt := ⟨12, false, 0, false, 0, ⟨#[]⟩, ⟨#[]⟩, 0, false, 0, ⟨#[]⟩, false, Msg.none, false, false, ⟨#[]⟩, ⟨#[]⟩, false, 0, none, 0, [], ⟨#[]⟩⟩
theorem built_ping : Tryz.prog.built 37 [(0, .int .u8 12)] = some pingK.cells.toArray := by kernel_rfl
def aw0 : SS := SS.new ⟨#[99]⟩
def aw1 : SS := beginS 5 conW aw0
def aw2 : SS := { aw1 with l := setE [97] 1 aw1.l }
def aw3 : SS := { aw2 with o := (putO 3 msgM aw2.o).2 }
def aw4 : SS := leaveS aw3
def aw5 : SS := leaveS aw4
def aw6 : SS := beginS 6 (conK false) aw5
def aw7 : SS := leaveS aw6
def aw8 : SS := leaveS aw7
def aw9 : SS := beginS 7 (conK true) aw8
def aw10 : SS := beginS 0 (conK false) aw9
def aw11 : SS := beginS 8 pingK aw10
theorem aw_b1 : beginA 5 conW aw0 = (false, []) := by rfl
theorem aw_s2 : setC [97] 1 aw1.l = 1 := by rfl
theorem aw_p3 : (putO 3 msgM aw2.o).1 = true := by rfl
theorem aw_l3 : loseA aw3 = (msgW, true) := by rfl
theorem aw_l4 : loseA aw4 = (Msg.none, false) := by rfl
theorem aw_b6 : beginA 6 (conK false) aw5 = (true, []) := by rfl
theorem aw_w6 : (aw6.o.wait.length : Int) = 1 := by rfl
theorem aw_l7 : loseA aw7 = (Msg.none, false) := by rfl
theorem aw_b9 : beginA 7 (conK true) aw8 = (false, [[97]]) := by rfl
theorem aw_l9 : aw9.l = [] := by rfl
theorem aw_w9 : (aw9.o.wait.length : Int) = 0 := by rfl
theorem aw_b10 : beginA 0 (conK false) aw9 = (false, []) := by rfl
theorem aw_b11 : beginA 8 pingK aw10 = (false, []) := by rfl
theorem con_w : (((((conK false).cells.set 11 (.bool true)).set 12 (.string ⟨#[119]⟩)).set 13 (.string ⟨#[]⟩)).set 14 (.int .u8 0)).set 15 (.bool false) = conW.cells := by rfl
end
section
open Go Go.RowKit

theorem Se.new {W w1 w2 : World} {s : Nat} {win most : Int} {c : ByteArray} {F : List Nat} (hb : Below W.heap.size W w1) (hr : SesRep w2 s win most (SS.new c) F) (hu : Upd [] F w1 w2) : Se W w2 s win most (SS.new c) F :=
  ⟨bnext hb (Nat.le_refl _) (hu.1.below (Nat.le_refl _) (by simp)), hr, fun k hk => (hu.2 k hk).elim (by simp) fun h => Nat.le_trans hb.size h⟩
theorem not_new {F F' : List Nat} {w w' : World} {b : Nat} (h : b ∉ F) (hb : b < w.heap.size) (hu : Upd F F' w w') : b ∉ F' := fun hk => (hu.2 b hk).elim h (by omega)
/-- a session of the call's own, its parts named -/
structure SeP (w0 w : World) (s lb tb cb : Nat) (win most : Int) (x : SS) (FL FO FC : List Nat) : Prop where
  p : SParts w s lb tb cb x win most FL FO FC
  se : Se w0 w s win most x (sFoot s FL FO FC)
theorem Se.parts {w0 w : World} {s : Nat} {win most : Int} {x : SS} {F : List Nat} (h : Se w0 w s win most x F) : ∃ lb tb cb FL FO FC, SeP w0 w s lb tb cb win most x FL FO FC ∧ F = sFoot s FL FO FC := by
  obtain ⟨lb, tb, cb, FL, FO, FC, hp, rfl⟩ := h.rep
  exact ⟨lb, tb, cb, FL, FO, FC, ⟨hp, h⟩, rfl⟩
section
variable {w0 w w' : World} {s lb tb cb : Nat} {win most : Int} {x : SS} {FL FO FC FL' FO' FC' : List Nat}
theorem SeP.setL (h : SeP w0 w s lb tb cb win most x FL FO FC) {l' : List SubE} (hl : SRep w' lb l' FL') (hu : Upd FL FL' w w') : SeP w0 w' s lb tb cb win most { x with l := l' } FL' FO FC ∧ Upd (sFoot s FL FO FC) (sFoot s FL' FO FC) w w' := by
  obtain ⟨h1, h2⟩ := h.p.turnL hl hu
  exact ⟨⟨h1, h.se.upd ⟨_, _, _, _, _, _, h1, rfl⟩ h2⟩, h2⟩
theorem SeP.setO (h : SeP w0 w s lb tb cb win most x FL FO FC) {o' : OT} (ho : OutRep w' tb win most o' FO') (hu : Upd FO FO' w w') : SeP w0 w' s lb tb cb win most { x with o := o' } FL FO' FC ∧ Upd (sFoot s FL FO FC) (sFoot s FL FO' FC) w w' := by
  obtain ⟨h1, h2⟩ := h.p.turnO ho hu
  exact ⟨⟨h1, h.se.upd ⟨_, _, _, _, _, _, h1, rfl⟩ h2⟩, h2⟩
theorem SeP.setC (h : SeP w0 w s lb tb cb win most x FL FO FC) {c' : List Int} (hc : CRep w' cb c' FC') (hu : Upd FC FC' w w') : SeP w0 w' s lb tb cb win most { x with came := c' } FL FO FC' ∧ Upd (sFoot s FL FO FC) (sFoot s FL FO FC') w w' := by
  obtain ⟨h1, h2⟩ := h.p.turnC hc hu
  exact ⟨⟨h1, h.se.upd ⟨_, _, _, _, _, _, h1, rfl⟩ h2⟩, h2⟩
theorem SeP.below (h : SeP w0 w s lb tb cb win most x FL FO FC) (hb : Below w.heap.size w w') : SeP w0 w' s lb tb cb win most x FL FO FC := ⟨h.p.below hb, h.se.below hb⟩
end
set_option maxRecDepth 100000 in
set_option maxHeartbeats 8000000 in
theorem awake_any (W : World) (hT : Tabs W) : Calls Tryz.prog 7 #[] W fun e w' => e = .returned (.bool true) ∧ Below W.heap.size W w' := by
  have HT := Lib.hid hT
  clear hT
  have HCS := Lib.hid (pk_size (conK false))
  have HC1 := Lib.hid (pk_one (conK false))
  have HC24 : Hid ((24 : Nat) = (conK false).cells.toArray.size) := Lib.hid rfl
  have HWS := Lib.hid (pk_size conW)
  have HPG := Lib.hid (fun (_ : Unit) => built_ping)
  have hcw := con_w
  have e11 : (conK false).cells[11]? = some (.bool false) := rfl
  have e12 : (conK false).cells[12]? = some (.string ⟨#[]⟩) := rfl
  have e13 : (conK false).cells[13]? = some (.string ⟨#[]⟩) := rfl
  have e14 : (conK false).cells[14]? = some (.int .u8 0) := rfl
  have e15 : (conK false).cells[15]? = some (.bool false) := rfl
  have HW12 : Hid (∀ X : World, ∀ b, X.heap[b]? = some (.cells conW.cells.toArray 37 (0, 0)) → X.cell? ⟨b, 12, none⟩ = some (.string ⟨#[119]⟩) ∧ X.cell? ⟨b, 13, none⟩ = some (.string ⟨#[]⟩) ∧ X.cell? ⟨b, 14, none⟩ = some (.int .u8 0) ∧ X.cell? ⟨b, 15, none⟩ = some (.bool false)) := Lib.hid (fun X b h => ⟨cell_of_row _ _ 12 _ _ _ h, cell_of_row _ _ 13 _ _ _ h, cell_of_row _ _ 14 _ _ _ h, cell_of_row _ _ 15 _ _ _ h⟩)
  have HCF := Lib.hid (fun w => connect_any false w)
  have HCT := Lib.hid (fun w => connect_any true w)
  have HB1 := Lib.hid (fun w s F (h : Se W w s 1 3 aw0 F) => begins_any W s 1 3 aw0 F w h 5 conW false [] none 0 (.inl rfl) (by simp) aw_b1 (by simp))
  have HB6 := Lib.hid (fun w s F (h : Se W w s 1 3 aw5 F) => begins_any W s 1 3 aw5 F w h 6 (conK false) true [] none 0 (.inl rfl) (by simp) aw_b6 (by simp))
  have HB9 := Lib.hid (fun w s F (h : Se W w s 1 3 aw8 F) a c (ha : Row w a (namesV [[97]])) hx => begins_any W s 1 3 aw8 F w h 7 (conK true) false [[97]] a c ha (by simp) aw_b9 hx)
  have HB10 := Lib.hid (fun w s F (h : Se W w s 1 3 aw9 F) => begins_any W s 1 3 aw9 F w h 0 (conK false) false [] none 0 (.inl rfl) (by simp) aw_b10 (by simp))
  have HB11 := Lib.hid (fun w s F (h : Se W w s 1 3 aw10 F) => begins_any W s 1 3 aw10 F w h 8 pingK false [] none 0 (.inl rfl) (by simp) aw_b11 (by simp))
  generalize (conK false).cells = CL at *
  generalize (conK true).cells = TL at *
  generalize conW.cells = WL at *
  generalize pingK.cells = GL at *
  go_enter Tryz.func7, Tryz.ntmps7
  go_wp2_with fail
  refine (config_any 1 3 W).mono ?_
  rintro e w1 ⟨rfl, hk1⟩
  have HK1 := Lib.hid hk1
  clear hk1
  go_wp2_with fail
  refine (sesnew_any ⟨#[99]⟩ 1 1 64 3 1 w1 (by omega) (by omega)).mono ?_
  rintro e w2 ⟨s, F, rfl, hr, hu⟩
  have hS : Se W w2 s 1 3 aw0 F := Se.new HK1.out hr hu
  obtain ⟨lb, tb, cb, FL, FO, FC, hp, hF⟩ := hS.rep
  obtain ⟨c0, -, c2, -⟩ := hp.cells
  replace c0 : w2.cell? ⟨s, 0, none⟩ = some (.string ⟨#[99]⟩) := c0
  replace c2 : w2.cell? ⟨s, 2, none⟩ = some (.bool true) := c2
  have HS := Lib.hid hS
  clear hr hu hp hF hS
  go_wp2_with fail
  refine (HCF.out w2).mono ?_
  rintro e w3 ⟨rfl, hk3⟩
  have fz := fun (L : List Value) (j : Nat) => frozen_of_row _ _ j _ _ (heap_alloc_new w3 (.cells L.toArray 37))
  have hS3 := (HS.out.below hk3).below (low_alloc w3 (.cells WL.toArray 37))
  have hpb3 := heap_alloc_new w3 (.cells WL.toArray 37)
  have hn3 : w3.heap.size ∉ F := fun hk => by have := (HS.out.below hk3).rep.lt _ hk; omega
  have HS3 := Lib.hid hS3
  have HPB3 := Lib.hid hpb3
  have HN3 := Lib.hid hn3
  clear hk3 hS3 hpb3 hn3 c0 c2
  go_wp2_with (first
    | (refine wpList_store_newTo rfl 37 _ _ rfl rfl w3.heap.size rfl CL.toArray _ rfl rfl HCS.out HC24.out HC1.out ?_)
    | (refine wpList_load_row rfl 37 _ rfl w3.heap.size rfl 37 WL.toArray _ _ HPB3.out Tryz.underlying37 rfl HWS.out ?_)
    | fail)
  refine (HB1.out _ _ _ HS3.out).mono ?_
  rintro e w4 ⟨rfl, F4, hS4, hu4⟩
  have hpl : w3.heap.size < (w3.alloc (.cells WL.toArray 37)).heap.size := by simp
  have HPB4 := Lib.hid ((hu4.1.block w3.heap.size hpl HN3.out).trans HPB3.out)
  have hn4 := not_new HN3.out hpl hu4
  have hpl4 := Nat.lt_of_lt_of_le hpl hu4.1.size
  obtain ⟨lb, tb, cb, FL, FO, FC, hq4, rfl⟩ := (show Se W w4 s 1 3 aw1 F4 from hS4).parts
  obtain ⟨-, -, -, -, -, -, -, -, k8, k9, -⟩ := hq4.p.cells
  have HQ4 := Lib.hid hq4
  have HN4 := Lib.hid hn4
  clear hS4 hu4 hq4 hn4 fz hcw e11 e12 e13 e14 e15
  generalize w3.heap.size = pb at *
  go_wp2_with fail
  refine (sset_any lb aw1.l FL [97] 1 w4 HQ4.out.p.subs (HT.out.below HQ4.out.se.bel) (by decide) (by decide) (by decide)).mono ?_
  rintro e w5 ⟨rfl, FL5, hl5, hul⟩
  obtain ⟨hq5, hu5⟩ := HQ4.out.setL hl5 hul
  rw [aw_s2]
  have HPB5 := Lib.hid ((hu5.1.block pb hpl4 HN4.out).trans HPB4.out)
  have hn5 := not_new HN4.out hpl4 hu5
  have hpl5 := Nat.lt_of_lt_of_le hpl4 hu5.1.size
  obtain ⟨-, -, -, -, -, -, -, -, -, k9, -⟩ := hq5.p.cells
  have HQ5 : Hid (SeP W w5 s lb tb cb 1 3 aw2 FL5 FO FC) := Lib.hid hq5
  have HN5 := Lib.hid hn5
  clear hl5 hul hq5 hu5 hn5 k8
  go_wp2_with fail
  refine (oput_any tb 1 3 aw2.o FO msgM w5 HQ5.out.p.out (HT.out.below HQ5.out.se.bel) (by decide) (by decide)).mono ?_
  rintro e w6 ⟨rfl, FO6, ho6, huo⟩
  obtain ⟨hq6, hu6⟩ := HQ5.out.setO ho6 huo
  rw [aw_p3]
  have HPB6 := Lib.hid ((hu6.1.block pb hpl5 HN5.out).trans HPB5.out)
  have hn6 := not_new HN5.out hpl5 hu6
  have hpl6 := Nat.lt_of_lt_of_le hpl5 hu6.1.size
  obtain ⟨-, k1, -, -, -, -, -, k7, -⟩ := hq6.p.cells
  replace k1 : w6.cell? ⟨s, 1, none⟩ = some (.int .i64 5) := k1
  replace k7 : w6.cell? ⟨s, 7, none⟩ = some (.bool true) := k7
  have HQ6 : Hid (SeP W w6 s lb tb cb 1 3 aw3 FL5 FO6 FC) := Lib.hid hq6
  have HN6 := Lib.hid hn6
  clear ho6 huo hq6 hu6 hn6 k9
  go_wp2_with fail
  refine (lose_any s aw3 1 3 _ w6 HQ6.out.se.rep).mono ?_
  rintro e w7 ⟨rfl, hr7, hu7⟩
  rw [aw_l3]
  have HPB7 := Lib.hid ((hu7.1.block pb hpl6 HN6.out).trans HPB6.out)
  have hpl7 := Nat.lt_of_lt_of_le hpl6 hu7.1.size
  have HS7 : Hid (Se W w7 s 1 3 aw4 (sFoot s FL5 FO6 FC)) := Lib.hid (HQ6.out.se.upd hr7 hu7)
  clear hr7 hu7 k1 k7
  dsimp only [msgW, Msg.val]
  go_wp2_with fail
  have hb7 := low_alloc w7 (.cells #[.string ⟨#[119]⟩, .string ⟨#[]⟩, .int .u8 0, .bool false] 34)
  have hx7 := heap_alloc_new w7 (.cells #[.string ⟨#[119]⟩, .string ⟨#[]⟩, .int .u8 0, .bool false] 34)
  have hs7 : w7.heap.size < (w7.alloc (.cells #[.string ⟨#[119]⟩, .string ⟨#[]⟩, .int .u8 0, .bool false] 34)).heap.size := by simp
  have hz7 : w7.heap.size ∉ sFoot s FL5 FO6 FC := fun hk => by have := HS7.out.rep.lt _ hk; omega
  have hS7b := HS7.out.below hb7
  have hpb7 := (hb7.block pb hpl7).trans HPB7.out
  generalize w7.alloc (.cells #[.string ⟨#[119]⟩, .string ⟨#[]⟩, .int .u8 0, .bool false] 34) = W7 at *
  refine (lose_any s aw4 1 3 _ W7 hS7b.rep).mono ?_
  rintro e w8 ⟨rfl, hr8, hu8⟩
  rw [aw_l4]
  have hx8 := (hu8.1.block w7.heap.size hs7 hz7).trans hx7
  have hpb8 := (hu8.1.block pb (Nat.lt_of_lt_of_le hpl7 hb7.size) HN6.out).trans hpb7
  have hS8 : Se W w8 s 1 3 aw5 (sFoot s FL5 FO6 FC) := hS7b.upd hr8 hu8
  obtain ⟨lb, tb, cb, FL, FO, FC, hq8, hF8⟩ := hS8.parts
  rw [hF8] at hS8
  have hx8l := (Array.getElem?_eq_some_iff.1 hx8).1
  have hpb8l := (Array.getElem?_eq_some_iff.1 hpb8).1
  have hsl8 := hq8.p.lts
  have m0 := fun o => ((low_alloc w8 o).cell (p := ⟨w7.heap.size, 0, none⟩) hx8l).trans (cell_of_row _ _ 0 _ _ _ hx8)
  have m1 := fun o => ((low_alloc w8 o).cell (p := ⟨w7.heap.size, 1, none⟩) hx8l).trans (cell_of_row _ _ 1 _ _ _ hx8)
  have m2 := fun o => ((low_alloc w8 o).cell (p := ⟨w7.heap.size, 2, none⟩) hx8l).trans (cell_of_row _ _ 2 _ _ _ hx8)
  have m3 := fun o => ((low_alloc w8 o).cell (p := ⟨w7.heap.size, 3, none⟩) hx8l).trans (cell_of_row _ _ 3 _ _ _ hx8)
  obtain ⟨q12, q13, q14, q15⟩ := HW12.out w8 pb hpb8
  have n0 := fun o => ((low_alloc w8 o).cell (p := ⟨pb, 12, none⟩) hpb8l).trans q12
  have n1 := fun o => ((low_alloc w8 o).cell (p := ⟨pb, 13, none⟩) hpb8l).trans q13
  have n2 := fun o => ((low_alloc w8 o).cell (p := ⟨pb, 14, none⟩) hpb8l).trans q14
  have n3 := fun o => ((low_alloc w8 o).cell (p := ⟨pb, 15, none⟩) hpb8l).trans q15
  obtain ⟨-, k1, -, k3, k4, k5, k6, k7, -⟩ := hq8.p.cells
  have j1 : ∀ o, (w8.alloc o).cell? ⟨s, 1, none⟩ = some (.int .i64 0) := fun o => ((low_alloc w8 o).cell (p := ⟨s, 1, none⟩) hsl8).trans k1
  have j3 : ∀ o, (w8.alloc o).cell? ⟨s, 3, none⟩ = some (.string ⟨#[]⟩) := fun o => ((low_alloc w8 o).cell (p := ⟨s, 3, none⟩) hsl8).trans k3
  have j4 : ∀ o, (w8.alloc o).cell? ⟨s, 4, none⟩ = some (.string ⟨#[]⟩) := fun o => ((low_alloc w8 o).cell (p := ⟨s, 4, none⟩) hsl8).trans k4
  have j5 : ∀ o, (w8.alloc o).cell? ⟨s, 5, none⟩ = some (.int .u8 0) := fun o => ((low_alloc w8 o).cell (p := ⟨s, 5, none⟩) hsl8).trans k5
  have j6 : ∀ o, (w8.alloc o).cell? ⟨s, 6, none⟩ = some (.bool false) := fun o => ((low_alloc w8 o).cell (p := ⟨s, 6, none⟩) hsl8).trans k6
  have j7 : ∀ o, (w8.alloc o).cell? ⟨s, 7, none⟩ = some (.bool false) := fun o => ((low_alloc w8 o).cell (p := ⟨s, 7, none⟩) hsl8).trans k7
  have HS8 := Lib.hid hS8
  clear hx8 hpb8 hS8 hq8 hF8 hr8 hu8 hS7b hpb7 hx7 hz7 hb7 k1 k3 k4 k5 k6 k7 q12 q13 q14 q15
  dsimp only [Msg.none, Msg.val]
  go_wp2_with fail
  have HS8b := Lib.hid (HS8.out.below (low_alloc w8 (.cells #[.string ⟨#[]⟩, .string ⟨#[]⟩, .int .u8 0, .bool false] 34)))
  clear m0 m1 m2 m3 n0 n1 n2 n3 j1 j3 j4 j5 j6 j7
  refine (HCF.out _).mono ?_
  rintro e w9 ⟨rfl, hk9⟩
  have HS9 := Lib.hid (HS8b.out.below hk9)
  clear hk9
  go_wp2_with fail
  refine (HB6.out _ _ _ HS9.out).mono ?_
  rintro e w10 ⟨rfl, F10, hS10, -⟩
  obtain ⟨lb, tb, cb, FL, FO, FC, hq10, rfl⟩ := (show Se W w10 s 1 3 aw6 F10 from hS10).parts
  obtain ⟨-, -, -, -, -, -, -, -, -, k9, -⟩ := hq10.p.cells
  have HQ10 := Lib.hid hq10
  clear hS10 hq10
  go_wp2_with fail
  refine (waits_any tb 1 3 aw6.o FO w10 HQ10.out.p.out).mono ?_
  rintro e w11 ⟨rfl, hk11⟩
  rw [aw_w6]
  have hq11 := HQ10.out.below hk11
  obtain ⟨-, -, -, -, -, -, -, k7, -⟩ := hq11.p.cells
  replace k7 : w11.cell? ⟨s, 7, none⟩ = some (.bool false) := k7
  have HQ11 := Lib.hid hq11
  clear hq11 hk11 k9
  go_wp2_with fail
  refine (leave_any s aw6 1 3 _ w11 HQ11.out.se.rep).mono ?_
  rintro e w12 ⟨rfl, hr12, hu12⟩
  have HS12 : Hid (Se W w12 s 1 3 aw7 (sFoot s FL FO FC)) := Lib.hid (HQ11.out.se.upd hr12 hu12)
  clear hr12 hu12 k7
  go_wp2_with fail
  refine (lose_any s aw7 1 3 _ w12 HS12.out.rep).mono ?_
  rintro e w13 ⟨rfl, hr13, hu13⟩
  rw [aw_l7]
  have HS13 : Hid (Se W w13 s 1 3 aw8 (sFoot s FL FO FC)) := Lib.hid (HS12.out.upd hr13 hu13)
  clear hr13 hu13
  dsimp only [Msg.none, Msg.val]
  go_wp2_with fail
  refine (HCT.out _).mono ?_
  rintro e w14 ⟨rfl, hk14⟩
  have HS14 := Lib.hid ((HS13.out.below (low_alloc w13 _)).below hk14)
  clear hk14
  go_wp2_with fail
  have hn14 : w14.heap.size ∉ sFoot s FL FO FC := fun hk => by have := HS14.out.rep.lt _ hk; omega
  refine (HB9.out _ _ _ (HS14.out.below (low_alloc w14 _)) (some ⟨w14.heap.size, 0, none⟩) 1 (row_new w14 [.string ⟨#[97]⟩] 9) (fun b o e _ => by cases e; exact hn14)).mono ?_
  rintro e w15 ⟨rfl, F15, hS15, -⟩
  obtain ⟨lb, tb, cb, FL, FO, FC, hq15, rfl⟩ := (show Se W w15 s 1 3 aw9 F15 from hS15).parts
  obtain ⟨-, -, -, -, -, -, -, -, k8, -⟩ := hq15.p.cells
  have HSB := Lib.hid (subs_any lb aw9.l FL w15 hq15.p.subs)
  rw [aw_l9] at HSB
  have HQ15 := Lib.hid hq15
  clear hS15 hq15 hn14
  go_wp2_with fail
  refine HSB.out.mono ?_
  rintro e w16 ⟨v, rfl, ho16, hk16⟩
  obtain ⟨va, vc, rfl, -, -, -⟩ := ownsRow_row ho16
  have hq16 := HQ15.out.below hk16
  obtain ⟨-, -, -, -, -, -, -, -, -, k9, -⟩ := hq16.p.cells
  have HQ16 := Lib.hid hq16
  clear hq16 hk16 ho16 k8
  go_wp2_with fail
  refine (waits_any tb 1 3 aw9.o FO w16 HQ16.out.p.out).mono ?_
  rintro e w17 ⟨rfl, hk17⟩
  rw [aw_w9]
  have HS17 := Lib.hid (HQ16.out.below hk17).se
  clear hk17 k9
  go_wp2_with fail
  refine (HCF.out _).mono ?_
  rintro e w18 ⟨rfl, hk18⟩
  have HS18 := Lib.hid (HS17.out.below hk18)
  clear hk18
  go_wp2_with fail
  refine (HB10.out _ _ _ HS18.out).mono ?_
  rintro e w19 ⟨rfl, F19, hS19, -⟩
  have HS19 : Hid (Se W w19 s 1 3 aw10 F19) := Lib.hid hS19
  clear hS19
  go_wp2_with (first
    | (refine wpList_buildG (by kernel_rfl) 37 _ rfl _ rfl GL.toArray [(0, .int .u8 12)] (by kernel_rfl) (HPG.out ()) ?_)
    | fail)
  refine (HB11.out _ _ _ HS19.out).mono ?_
  rintro e w20 ⟨rfl, F20, hS20, -⟩
  obtain ⟨lb, tb, cb, FL, FO, FC, hq20, rfl⟩ := (show Se W w20 s 1 3 aw11 F20 from hS20).parts
  obtain ⟨-, k1, -⟩ := hq20.p.cells
  replace k1 : w20.cell? ⟨s, 1, none⟩ = some (.int .i64 7) := k1
  have HS20 := Lib.hid hS20
  clear hS20 hq20
  go_wp2_with fail
  go_ret
  exact ⟨rfl, HS20.out.bel⟩
end
end Go.Proofs.YtmkhagmjpbfieaaGreatDoor
