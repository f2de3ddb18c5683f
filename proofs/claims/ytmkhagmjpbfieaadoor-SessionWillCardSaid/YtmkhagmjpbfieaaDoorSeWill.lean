/- A will is told by Lose once, that of the CONNECT that came last: SessionWill walked. (Printed by gen_will.py.) -/
import Derived.Test.YtmkhagmjpbfieaaDoorSe2
namespace Go.Proofs.YtmkhagmjpbfieaaDoor
open Go Go.RowKit

theorem msg_neq_same (t p : ByteArray) (q : Int) (r : Bool) (w : World) : (binOp .neq 30 (.agg #[.string t, .string p, .int .u8 q, .bool r]) (.agg #[.string t, .string p, .int .u8 q, .bool r])).run Tryd.prog w = .ok (.bool false) w := by
  have hst : Tryd.prog.stoodInHeld 30 = false := by kernel_rfl
  have hgd : Tryd.prog.eqGuardType Tryd.prog.depth 30 = false := by kernel_rfl
  go_simp
/-- a will is there at a connection alone; without one there is none -/
def WillOk (x : SS) : Prop := (x.has = true → x.conn ≠ 0) ∧ (x.has = false → x.will = Msg.none)
theorem will_begin {conn : Int} {p : Pkt} {x : SS} (h : WillOk x) : WillOk (beginS conn p x) := by
  unfold beginS
  split
  · rename_i hm
    have hc : 1 ≤ conn := by
      unfold mayB at hm
      simp only [Bool.and_eq_true, decide_eq_true_eq] at hm
      exact hm.1
    split
    · exact ⟨fun _ => by show conn ≠ 0; omega, fun h => by show (if p.hasWill then p.will else Msg.none) = _; rw [show p.hasWill = false from h]; rfl⟩
    · exact ⟨fun _ => by show conn ≠ 0; omega, fun h => by show (if p.hasWill then p.will else Msg.none) = _; rw [show p.hasWill = false from h]; rfl⟩
  · exact h
theorem will_leave (x : SS) : WillOk (leaveS x) := ⟨fun h => (by cases h), fun _ => rfl⟩
theorem will_do {win most : Int} {a : ActS} {x : SS} (h : WillOk x) : WillOk (doS win most a x) := by
  unfold doS
  dsimp only
  repeat' split
  all_goals first | exact will_begin h | exact will_leave x | exact h
theorem will_lose {x : SS} (h : WillOk x) : loseA x = (x.will, x.has) := by
  unfold loseA losesB
  cases hh : x.has with
  | true => simp [h.1 hh]
  | false => simp [h.2 hh]
theorem do_will (win most : Int) (a : ActS) (x : SS) : (doS win most a x).has = (if a.kind % 16 < 3 then (if mayB a.conn a.p then a.p.hasWill else x.has) else if a.kind % 16 < 5 then false else x.has) ∧
    (doS win most a x).will = (if a.kind % 16 < 3 then (if mayB a.conn a.p then (if a.p.hasWill then a.p.will else Msg.none) else x.will) else if a.kind % 16 < 5 then Msg.none else x.will) := by
  unfold doS
  dsimp only
  by_cases h3 : a.kind % 16 < 3
  · rw [if_pos h3, if_pos h3, if_pos h3]
    unfold beginS
    by_cases hm : mayB a.conn a.p = true
    · rw [if_pos hm, if_pos hm, if_pos hm]
      split <;> exact ⟨rfl, rfl⟩
    · rw [if_neg hm, if_neg hm, if_neg hm]
      exact ⟨rfl, rfl⟩
  · rw [if_neg h3, if_neg h3, if_neg h3]
    by_cases h5 : a.kind % 16 < 5
    · rw [if_pos h5, if_pos h5, if_pos h5]
      exact ⟨rfl, rfl⟩
    · rw [if_neg h5, if_neg h5, if_neg h5]
      repeat' split
      all_goals exact ⟨rfl, rfl⟩
/-- what a round finds -/
structure WillAt (W wr : World) (s vb : Nat) (win most : Int) (x : SS) (F : List Nat) : Prop where
  se : Se W wr s win most x F
  ok : WillOk x
  box : wr.heap[vb]? = some (.cells #[.string x.will.t, .string x.will.p, .int .u8 x.will.q, .bool x.will.r] 30 (0, 0))
  off : vb ∉ F
  hi : W.heap.size ≤ vb
/-- the box's cells, the head's cells, side by side -/
theorem WillAt.of {W w1 w2 w3 : World} {s vb : Nat} {win most : Int} {x y : SS} {F F' : List Nat} (h : WillAt W w1 s vb win most x F) (hb : Below w1.heap.size w1 w2) (hr : SesRep w3 s win most y F') (hu : Upd F F' w2 w3) :
    Se W w3 s win most y F' ∧ w3.heap[vb]? = some (.cells #[.string x.will.t, .string x.will.p, .int .u8 x.will.q, .bool x.will.r] 30 (0, 0)) ∧ vb ∉ F' := by
  have hl := (Array.getElem?_eq_some_iff.1 h.box).1
  have hl2 := Nat.lt_of_lt_of_le hl hb.size
  exact ⟨(h.se.below hb).upd hr hu, (hu.1.block vb hl2 h.off).trans ((hb.block vb hl).trans h.box), fun hk => (hu.2 vb hk).elim h.off (by omega)⟩
theorem set4_box {w : World} {vb : Nat} {a b c d : Value} (t p : ByteArray) (q : Int) (r : Bool) (h : w.heap[vb]? = some (.cells #[a, b, c, d] 30 (0, 0))) :
    ((((w.setCell ⟨vb, 0, none⟩ (.string t)).setCell ⟨vb, 1, none⟩ (.string p)).setCell ⟨vb, 2, none⟩ (.int .u8 q)).setCell ⟨vb, 3, none⟩ (.bool r)).heap[vb]? = some (.cells #[.string t, .string p, .int .u8 q, .bool r] 30 (0, 0)) ∧
      Mod [vb] w ((((w.setCell ⟨vb, 0, none⟩ (.string t)).setCell ⟨vb, 1, none⟩ (.string p)).setCell ⟨vb, 2, none⟩ (.int .u8 q)).setCell ⟨vb, 3, none⟩ (.bool r)) := by
  have h9 := heap_setCell_same _ _ 3 _ _ (.bool r) (heap_setCell_same _ _ 2 _ _ (.int .u8 q) (heap_setCell_same _ _ 1 _ _ (.string p) (heap_setCell_same _ _ 0 _ _ (.string t) h)))
  exact ⟨by simpa using h9, (((set_mod w vb 0 _).trans (set_mod _ vb 1 _) fun _ h => .inl h).trans (set_mod _ vb 2 _) fun _ h => .inl h).trans (set_mod _ vb 3 _) fun _ h => .inl h⟩
theorem Se.box {W w w' : World} {s vb : Nat} {win most : Int} {x : SS} {F : List Nat} (h : Se W w s win most x F) (hm : Mod [vb] w w') (ho : vb ∉ F) (hv : W.heap.size ≤ vb) : Se W w' s win most x F :=
  ⟨h.bel.trans (hm.below h.bel.size (by simpa using hv)), h.rep.mod hm fun k hk hk' => ho (List.mem_singleton.1 hk' ▸ hk), h.hi⟩
set_option maxRecDepth 100000 in
set_option maxHeartbeats 8000000 in
theorem will_any (W : World) (hT : Tabs W) (hB : Bru W) (a1 a2 a3 most win : Int) (a : Option Addr) (c : Nat) (l : List ActS) (hl : Row W a (actsV l)) (hll : l.length ≤ maxLen) (hlp : ∀ x ∈ l, ActPre W x) :
    Calls Tryd.prog 4 #[.agg #[.int .i64 a1, .int .i64 a2, .int .i64 a3, .int .i64 most, .int .i64 win], .slice a l.length c] W fun e w' => e = .returned (.bool true) ∧ Below W.heap.size W w' := by
  obtain ⟨V, hV⟩ : ∃ V, W.alloc (.cells #[.int .i64 a1, .int .i64 a2, .int .i64 a3, .int .i64 most, .int .i64 win] 25) = V := ⟨_, rfl⟩
  have hbv : Below W.heap.size W V := by rw [← hV]; exact low_alloc _ _
  have hxv : V.heap[W.heap.size]? = some (.cells #[.int .i64 a1, .int .i64 a2, .int .i64 a3, .int .i64 most, .int .i64 win] 25 (0, 0)) := by rw [← hV]; exact heap_alloc_new _ _
  have HBV := Lib.hid hbv
  have HT := Lib.hid hT
  have HB := Lib.hid hB
  have HL : Hid (∀ X, Below W.heap.size W X → Row X a (actsV l)) := Lib.hid (fun X hX => hl.below hX (Nat.le_refl _))
  have HLP := Lib.hid hlp
  have HGL := Lib.hid (great18_any a c l V (hl.below hbv (Nat.le_refl _)) hll (fun x hx => ⟨(hlp x hx).k0, (hlp x hx).k1, (hlp x hx).q0, (hlp x hx).q1, (hlp x hx).mq, (hlp x hx).i0, (hlp x hx).i1, (hlp x hx).ms, (hlp x hx).row.below hbv (Nat.le_refl _), (hlp x hx).rl⟩))
  have HAW := Lib.hid (fun X (hX : Below W.heap.size W X) => awake_any X (hT.below hX))
  have HXV : Hid (∀ X, Below V.heap.size V X → X.cell? ⟨W.heap.size, 0, none⟩ = some (.int .i64 a1) ∧ X.cell? ⟨W.heap.size, 1, none⟩ = some (.int .i64 a2) ∧ X.cell? ⟨W.heap.size, 2, none⟩ = some (.int .i64 a3) ∧ X.cell? ⟨W.heap.size, 3, none⟩ = some (.int .i64 most) ∧ X.cell? ⟨W.heap.size, 4, none⟩ = some (.int .i64 win)) := Lib.hid (fun X hX => by
    have h := (hX.block W.heap.size (Array.getElem?_eq_some_iff.1 hxv).1).trans hxv
    exact ⟨cell_of_row _ _ 0 _ _ _ h, cell_of_row _ _ 1 _ _ _ h, cell_of_row _ _ 2 _ _ _ h, cell_of_row _ _ 3 _ _ _ h, cell_of_row _ _ 4 _ _ _ h⟩)
  clear hl hlp hbv hxv hT hB
  go_enter Tryd.func4, Tryd.ntmps4
  go_wp2_with fail
  refine HGL.out.mono ?_
  rintro e w1 ⟨he, hk1⟩
  have HB1 := Lib.hid (bnext HBV.out (Nat.le_refl _) hk1)
  have HV1 := Lib.hid hk1
  clear hk1
  rcases he with rfl | ⟨rfl, hl200, hsl⟩
  · go_wp2_with fail
    refine (HAW.out _ HB1.out).mono ?_
    rintro e w2 ⟨rfl, hk2⟩
    have HF := Lib.hid (bnext HB1.out (Nat.le_refl _) hk2)
    clear hk2
    go_wp2_with fail
    go_ret
    exact ⟨rfl, HF.out⟩
  · have HLO : Hid (∀ x ∈ l, ActOk x) := Lib.hid (fun x hx => (HLP.out x hx).ok (hsl x hx).1 (hsl x hx).2)
    clear hsl
    obtain ⟨g0, g1, g2, g3, g4⟩ := HXV.out w1 HV1.out
    go_wp2_with fail
    by_cases hcfg : (1 ≤ most ∧ most ≤ 1024) ∧ 1 ≤ win ∧ win ≤ 1024
    · refine (sesnew_any ⟨#[99]⟩ a1 a2 a3 most win _ hcfg.1 hcfg.2).mono ?_
      rintro e w3 ⟨s, F, rfl, hr3, hu3⟩
      have hs3 : Se W w3 s win most (SS.new ⟨#[99]⟩) F := Se.new HB1.out hr3 hu3
      have HS3 := Lib.hid hs3
      clear hr3 hu3 hs3 hcfg g0 g1 g2 g3 g4
      go_wp2_with fail
      have HW0 : Hid (WillAt W (w3.alloc (.cells #[.string ⟨#[]⟩, .string ⟨#[]⟩, .int .u8 0, .bool false] 30)) s w3.heap.size win most (SS.new ⟨#[99]⟩) F) := Lib.hid ⟨HS3.out.below (low_alloc w3 _), ⟨fun h => (by cases h), fun _ => rfl⟩, heap_alloc_new w3 _, fun hk => by have := HS3.out.rep.lt _ hk; omega, HS3.out.bel.size⟩
      generalize w3.alloc (.cells #[.string ⟨#[]⟩, .string ⟨#[]⟩, .int .u8 0, .bool false] 30) = w4 at *
      generalize w3.heap.size = vb at *
      go_loopw [6, 8] (fun hb i wr => ∃ (k : Nat) (F' : List Nat), i = .int .i64 k ∧ k ≤ l.length ∧ hb = .bool (doAll win most (l.take k) (SS.new ⟨#[99]⟩)).has ∧ WillAt W wr s vb win most (doAll win most (l.take k) (SS.new ⟨#[99]⟩)) F') (fun _ i _ => (l.length - intOf i).toNat)
      case atStart => exact ⟨0, F, rfl, by omega, rfl, HW0.out⟩
      case round =>
        obtain ⟨k, F', rfl, hk, rfl, hwa⟩ := hrel
        have HWA := Lib.hid hwa
        by_cases hlt : k < l.length
        · have hk0 : (0 : Int) ≤ k := by omega
          have hkl : (k : Int) < l.length := by omega
          have hw1 : IntKind.i64.wrap ((k : Int) + 1) = (k : Int) + 1 := w_i64 _ (by omega) (by omega)
          obtain ⟨ab, ao, rfl, hra⟩ := acts_at (HL.out _ hwa.se.bel) hlt
          have HRA := Lib.hid hra
          have HOK := Lib.hid (HLO.out _ (List.getElem_mem hlt))
          have HSN := Lib.hid (doAll_snoc (win := win) (most := most) (x := SS.new ⟨#[99]⟩) hlt)
          generalize l[k] = x at *
          generalize doAll win most (l.take k) (SS.new ⟨#[99]⟩) = z at *
          have HDW := Lib.hid (do_will win most x z)
          have HWO : Hid (WillOk (doS win most x z)) := Lib.hid (will_do hwa.ok)
          have HLA := Lib.hid (will_lose hwa.ok)
          have HK0 := Lib.hid HOK.out.k0
          have hkk0 := HOK.out.k0
          have hk16 : 0 ≤ x.kind % 16 := Int.emod_nonneg _ (by decide)
          have hk16' : x.kind % 16 < 16 := Int.emod_lt_of_pos _ (by decide)
          have HAS := Lib.hid (act_size x)
          have hnb : wr.heap.size ∉ F' := fun hk => by have := hwa.se.rep.lt _ hk; omega
          have hvl : vb < wr.heap.size := (Array.getElem?_eq_some_iff.1 hwa.box).1
          have hxb := heap_alloc_new wr (.cells (actC x).toArray 56)
          have HXB := Lib.hid hxb
          have HDO := Lib.hid (fun X G (h : Se W X s win most z G) => do_x W s z win most G x X h HOK.out HT.out HB.out)
          have HAS2 : Hid ((Tryd.prog.info? 56).map (·.size) = some (actC x).toArray.size) := Lib.hid (by simpa using act_size x)
          have H32 : Hid ((32 : Nat) = (actC x).toArray.size) := Lib.hid rfl
          have HA1 : Hid ((actC x).toArray.all (·.oneCell') = true) := Lib.hid (by
            rw [Array.all_eq_true_iff_forall_mem]
            intro u hu
            have hu' : u ∈ actC x := by simpa using hu
            unfold actC at hu'
            rcases List.mem_append.1 hu' with h | h
            · simp at h; rcases h with rfl | rfl <;> rfl
            · rcases List.mem_append.1 h with h | h
              · exact pks_one [x.p] u (by simpa [pksV] using h)
              · simp [subCells, Msg.cells] at h
                rcases h with rfl | rfl | rfl | rfl | rfl | rfl <;> rfl)
          have HAX : Hid (∀ X : World, X.heap[wr.heap.size]? = some (.cells (actC x).toArray 56 (0, 0)) → X.cell? ⟨wr.heap.size, 0, none⟩ = some (.int .u8 x.kind) ∧ X.cell? ⟨wr.heap.size, 1, none⟩ = some (.int .i64 x.conn) ∧ X.cell? ⟨wr.heap.size, 2, none⟩ = some (.int .u8 x.p.ty) ∧ X.cell? ⟨wr.heap.size, 13, none⟩ = some (.bool x.p.hasWill) ∧
              X.cell? ⟨wr.heap.size, 14, none⟩ = some (.string x.p.will.t) ∧ X.cell? ⟨wr.heap.size, 15, none⟩ = some (.string x.p.will.p) ∧ X.cell? ⟨wr.heap.size, 16, none⟩ = some (.int .u8 x.p.will.q) ∧ X.cell? ⟨wr.heap.size, 17, none⟩ = some (.bool x.p.will.r)) := Lib.hid (fun X h =>
            ⟨cell_of_row _ _ 0 _ _ _ h, cell_of_row _ _ 1 _ _ _ h, cell_of_row _ _ 2 _ _ _ h, cell_of_row _ _ 13 _ _ _ h, cell_of_row _ _ 14 _ _ _ h, cell_of_row _ _ 15 _ _ _ h, cell_of_row _ _ 16 _ _ _ h, cell_of_row _ _ 17 _ _ _ h⟩)
          obtain ⟨b0, b1, b2, b13, b14, b15, b16, b17⟩ := HAX.out _ hxb
          generalize actC x = AC at *
          clear hwa hra hxb
          go_upto_region 12 with (first
            | (refine wpList_loadMid rfl 56 _ rfl ab (ao + k * 32) rfl AC _ HRA.out Tryd.underlying56 rfl HAS.out _ rfl ?_)
            | (refine wpList_store_newTo rfl 56 _ _ rfl rfl wr.heap.size rfl AC.toArray _ rfl rfl HAS2.out H32.out HA1.out ?_)
            | fail)
          by_cases h3 : x.kind % 16 = 3
          · skip
            have h3b : (x.kind % 16 == 3) = true := by simp [h3]
            go_wp2_with fail
            refine (lose_any s z win most F' _ (HWA.out.se.below (low_alloc wr _)).rep).mono ?_
            rintro e w5 ⟨rfl, hr5, hu5⟩
            rw [HLA.out]
            obtain ⟨hs5, hv5, ho5⟩ := HWA.out.of (low_alloc wr _) hr5 hu5
            have HS5 := Lib.hid hs5
            have HV5 := Lib.hid hv5
            have HO5 := Lib.hid ho5
            have hvl5 := (Array.getElem?_eq_some_iff.1 hv5).1
            have m0 := fun o => ((low_alloc w5 o).cell (p := ⟨vb, 0, none⟩) hvl5).trans (cell_of_row _ _ 0 _ _ _ hv5)
            have m1 := fun o => ((low_alloc w5 o).cell (p := ⟨vb, 1, none⟩) hvl5).trans (cell_of_row _ _ 1 _ _ _ hv5)
            have m2 := fun o => ((low_alloc w5 o).cell (p := ⟨vb, 2, none⟩) hvl5).trans (cell_of_row _ _ 2 _ _ _ hv5)
            have m3 := fun o => ((low_alloc w5 o).cell (p := ⟨vb, 3, none⟩) hvl5).trans (cell_of_row _ _ 3 _ _ _ hv5)
            simp only [List.getElem?_toArray, List.getElem?_cons_zero, List.getElem?_cons_succ] at m0 m1 m2 m3
            have fr := fun o k => frozen_of_row _ _ k _ _ (((low_alloc w5 o).block vb hvl5).trans hv5)
            have hcmp := fun w => msg_neq_same z.will.t z.will.p z.will.q z.will.r w
            have HV5b := Lib.hid (fun o => ((low_alloc w5 o).block vb hvl5).trans hv5)
            clear hr5 hu5 hs5 hv5 ho5
            unfold Msg.val
            go_upto_region 23 with fail
            have hb6 := low_alloc w5 (.cells #[.string z.will.t, .string z.will.p, .int .u8 z.will.q, .bool z.will.r] 30)
            have hv6 := HV5b.out (.cells #[.string z.will.t, .string z.will.p, .int .u8 z.will.q, .bool z.will.r] 30)
            clear m0 m1 m2 m3 fr
            generalize w5.alloc (.cells #[.string z.will.t, .string z.will.p, .int .u8 z.will.q, .bool z.will.r] 30) = w6 at *
            obtain ⟨m0, m1, m2, m3⟩ := cells4 hv6
            have fr := fun k => frozen_of_row _ _ k _ _ hv6
            have HV6 := Lib.hid hv6
            have HB6 := Lib.hid hb6
            clear hv6 hb6
            have hyh : (doS win most x z).has = false := by rw [HDW.out.1, if_neg (by omega), if_pos (by omega)]
            have hyw : (doS win most x z).will = Msg.none := by rw [HDW.out.2, if_neg (by omega), if_pos (by omega)]
            have hs9 : Se W ((((w6.setCell ⟨vb, 0, none⟩ (.string ⟨#[]⟩)).setCell ⟨vb, 1, none⟩ (.string ⟨#[]⟩)).setCell ⟨vb, 2, none⟩ (.int .u8 0)).setCell ⟨vb, 3, none⟩ (.bool false)) s win most (doS win most x z) F' := (show Se W w5 s win most (doS win most x z) F' from (by have : doS win most x z = leaveS z := (by unfold doS; dsimp only; rw [if_neg (by omega), if_pos (by omega)]); rw [this]; exact HS5.out)).below HB6.out |>.box (set4_box _ _ _ _ HV6.out).2 HO5.out HWA.out.hi
            have hb9 : ((((w6.setCell ⟨vb, 0, none⟩ (.string ⟨#[]⟩)).setCell ⟨vb, 1, none⟩ (.string ⟨#[]⟩)).setCell ⟨vb, 2, none⟩ (.int .u8 0)).setCell ⟨vb, 3, none⟩ (.bool false)).heap[vb]? = some (.cells #[.string (Msg.none).t, .string (Msg.none).p, .int .u8 (Msg.none).q, .bool (Msg.none).r] 30 (0, 0)) := (set4_box _ _ _ _ HV6.out).1
            go_upto_region 25 with fail
            generalize (((w6.setCell ⟨vb, 0, none⟩ (.string ⟨#[]⟩)).setCell ⟨vb, 1, none⟩ (.string ⟨#[]⟩)).setCell ⟨vb, 2, none⟩ (.int .u8 0)).setCell ⟨vb, 3, none⟩ (.bool false) = W9 at *
            have HY9 : Hid (WillAt W W9 s vb win most (doS win most x z) F') := Lib.hid ⟨hs9, HWO.out, by rw [hyw]; exact hb9, HO5.out, HWA.out.hi⟩
            obtain ⟨_, _, _, _, _, _, hp9, -⟩ := hs9.rep
            obtain ⟨-, -, -, r3, r4, r5, r6, r7, -⟩ := hp9.cells
            rw [hyw] at r3 r4 r5 r6
            rw [hyh] at r7
            obtain ⟨e0, e1, e2, e3⟩ := cells4 hb9
            dsimp only [Msg.none] at r3 r4 r5 r6 e0 e1 e2 e3
            clear hcmp m0 m1 m2 m3 fr
            have hcmp := fun w => msg_neq_same ⟨#[]⟩ ⟨#[]⟩ 0 false w
            have HYH := Lib.hid hyh
            clear hyh hyw hs9 hb9 hp9
            go_quiet (fail)
            go_wp2_with fail
            go_roundw
            case rel => exact ⟨k + 1, _, by go_num, by omega, by rw [HSN.out, HYH.out], by rw [HSN.out]; exact ⟨HY9.out.se.below (below_draws _), HY9.out.ok, HY9.out.box, HY9.out.off, HY9.out.hi⟩⟩
            case measure => simp [intOf]; omega
          · by_cases hlt3 : x.kind % 16 < 3
            · have H3 := Lib.hid hlt3
              by_cases hc1 : x.conn < 1
              · have HMB : Hid (mayB x.conn x.p = false) := Lib.hid (by unfold mayB; rw [decide_eq_false (by omega)]; rfl)
                have h3b : (x.kind % 16 == 3) = false := by rw [beq_eq_false_iff_ne]; omega
                have h3c : decide (x.kind % 16 < 3) = true := decide_eq_true H3.out
                have h4c : (x.kind % 16 == 4) = false := by rw [beq_eq_false_iff_ne]; omega
                have hcn : decide (0 < x.conn) = false := decide_eq_false (by omega)
                go_wp2_with (first
                  | (refine wpList_load_row rfl 56 _ rfl wr.heap.size rfl 56 AC.toArray _ _ HXB.out Tryd.underlying56 rfl HAS2.out ?_)
                  | fail)
                refine (HDO.out _ F' (HWA.out.se.below (low_alloc wr _))).mono ?_
                rintro e w5 ⟨rfl, F5, hr5, hu5⟩
                obtain ⟨hs5, hv5, ho5⟩ := HWA.out.of (low_alloc wr _) hr5 hu5
                have hx5 := (hu5.1.block wr.heap.size (by simp) hnb).trans HXB.out
                clear b0 b1 b2 b13 b14 b15 b16 b17
                obtain ⟨b0, b1, b2, b13, b14, b15, b16, b17⟩ := HAX.out _ hx5
                obtain ⟨m0, m1, m2, m3⟩ := cells4 hv5
                have fr := fun k => frozen_of_row _ _ k _ _ hv5
                have hnv : wr.heap.size ≠ vb := by omega
                have hos : ∀ (k j : Nat) (X : World) (v : Value), (X.setCell ⟨vb, k, none⟩ v).cell? ⟨wr.heap.size, j, none⟩ = X.cell? ⟨wr.heap.size, j, none⟩ := fun k j X v => World.cell?_of_block (heap_setCell_other X _ _ _ hnv)
                have HS5 := Lib.hid hs5
                have HV5 := Lib.hid hv5
                have HO5 := Lib.hid ho5
                clear hr5 hu5 hs5 hv5 ho5 hx5
                have hyh : (doS win most x z).has = z.has := by rw [HDW.out.1, if_pos H3.out, if_neg (by rw [HMB.out]; decide)]
                have hyw : (doS win most x z).will = z.will := by rw [HDW.out.2, if_pos H3.out, if_neg (by rw [HMB.out]; decide)]
                have hs9 : Se W (w5) s win most (doS win most x z) F5 := HS5.out
                have hb9 : (w5).heap[vb]? = some (.cells #[.string (z.will).t, .string (z.will).p, .int .u8 (z.will).q, .bool (z.will).r] 30 (0, 0)) := HV5.out
                go_upto_region 25 with fail
                have HY9 : Hid (WillAt W w5 s vb win most (doS win most x z) F5) := Lib.hid ⟨hs9, HWO.out, by rw [hyw]; exact hb9, HO5.out, HWA.out.hi⟩
                obtain ⟨_, _, _, _, _, _, hp9, -⟩ := hs9.rep
                obtain ⟨-, -, -, r3, r4, r5, r6, r7, -⟩ := hp9.cells
                rw [hyw] at r3 r4 r5 r6
                rw [hyh] at r7
                obtain ⟨e0, e1, e2, e3⟩ := cells4 hb9
                clear hos hnv m0 m1 m2 m3 fr b0 b1 b2 b13 b14 b15 b16 b17
                have hcmp := fun w => msg_neq_same (z.will).t (z.will).p (z.will).q (z.will).r w
                have HYH := Lib.hid hyh
                clear hyh hyw hs9 hb9 hp9
                go_quiet (fail)
                go_wp2_with fail
                go_roundw
                case rel => exact ⟨k + 1, _, by go_num, by omega, by rw [HSN.out, HYH.out], by rw [HSN.out]; exact ⟨HY9.out.se.below (below_draws _), HY9.out.ok, HY9.out.box, HY9.out.off, HY9.out.hi⟩⟩
                case measure => simp [intOf]; omega
              · by_cases ht1 : x.p.ty = 1
                · have HMB : Hid (mayB x.conn x.p = true) := Lib.hid (by unfold mayB; rw [decide_eq_true (by omega), decide_eq_true ht1]; rfl)
                  have HTY := Lib.hid ht1
                  clear ht1
                  cases hwl : x.p.hasWill with
                  | true =>
                    have HWL := Lib.hid hwl
                    clear hwl
                    have h3b : (x.kind % 16 == 3) = false := by rw [beq_eq_false_iff_ne]; omega
                    have h3c : decide (x.kind % 16 < 3) = true := decide_eq_true H3.out
                    have h4c : (x.kind % 16 == 4) = false := by rw [beq_eq_false_iff_ne]; omega
                    have hcn : decide (0 < x.conn) = true := decide_eq_true (by omega)
                    have hty : (x.p.ty == 1) = true := by simp [HTY.out]
                    rw [HWL.out] at b13 HAX
                    go_wp2_with (first
                      | (refine wpList_load_row rfl 56 _ rfl wr.heap.size rfl 56 AC.toArray _ _ HXB.out Tryd.underlying56 rfl HAS2.out ?_)
                      | fail)
                    refine (HDO.out _ F' (HWA.out.se.below (low_alloc wr _))).mono ?_
                    rintro e w5 ⟨rfl, F5, hr5, hu5⟩
                    obtain ⟨hs5, hv5, ho5⟩ := HWA.out.of (low_alloc wr _) hr5 hu5
                    have hx5 := (hu5.1.block wr.heap.size (by simp) hnb).trans HXB.out
                    clear b0 b1 b2 b13 b14 b15 b16 b17
                    obtain ⟨b0, b1, b2, b13, b14, b15, b16, b17⟩ := HAX.out _ hx5
                    obtain ⟨m0, m1, m2, m3⟩ := cells4 hv5
                    have fr := fun k => frozen_of_row _ _ k _ _ hv5
                    have hnv : wr.heap.size ≠ vb := by omega
                    have hos : ∀ (k j : Nat) (X : World) (v : Value), (X.setCell ⟨vb, k, none⟩ v).cell? ⟨wr.heap.size, j, none⟩ = X.cell? ⟨wr.heap.size, j, none⟩ := fun k j X v => World.cell?_of_block (heap_setCell_other X _ _ _ hnv)
                    have HS5 := Lib.hid hs5
                    have HV5 := Lib.hid hv5
                    have HO5 := Lib.hid ho5
                    clear hr5 hu5 hs5 hv5 ho5 hx5
                    have hyh : (doS win most x z).has = true := by rw [HDW.out.1, if_pos H3.out, if_pos HMB.out]; exact HWL.out
                    have hyw : (doS win most x z).will = x.p.will := by rw [HDW.out.2, if_pos H3.out, if_pos HMB.out, if_pos HWL.out]
                    have hs9 : Se W ((((((((w5.setCell ⟨vb, 0, none⟩ (.string ⟨#[]⟩)).setCell ⟨vb, 1, none⟩ (.string ⟨#[]⟩)).setCell ⟨vb, 2, none⟩ (.int .u8 0)).setCell ⟨vb, 3, none⟩ (.bool false)).setCell ⟨vb, 0, none⟩ (.string x.p.will.t)).setCell ⟨vb, 1, none⟩ (.string x.p.will.p)).setCell ⟨vb, 2, none⟩ (.int .u8 x.p.will.q)).setCell ⟨vb, 3, none⟩ (.bool x.p.will.r)) s win most (doS win most x z) F5 := HS5.out.box ((set4_box ⟨#[]⟩ ⟨#[]⟩ 0 false HV5.out).2.trans (set4_box x.p.will.t x.p.will.p x.p.will.q x.p.will.r (set4_box ⟨#[]⟩ ⟨#[]⟩ 0 false HV5.out).1).2 fun _ h => .inl h) HO5.out HWA.out.hi
                    have hb9 : ((((((((w5.setCell ⟨vb, 0, none⟩ (.string ⟨#[]⟩)).setCell ⟨vb, 1, none⟩ (.string ⟨#[]⟩)).setCell ⟨vb, 2, none⟩ (.int .u8 0)).setCell ⟨vb, 3, none⟩ (.bool false)).setCell ⟨vb, 0, none⟩ (.string x.p.will.t)).setCell ⟨vb, 1, none⟩ (.string x.p.will.p)).setCell ⟨vb, 2, none⟩ (.int .u8 x.p.will.q)).setCell ⟨vb, 3, none⟩ (.bool x.p.will.r)).heap[vb]? = some (.cells #[.string (x.p.will).t, .string (x.p.will).p, .int .u8 (x.p.will).q, .bool (x.p.will).r] 30 (0, 0)) := (set4_box x.p.will.t x.p.will.p x.p.will.q x.p.will.r (set4_box ⟨#[]⟩ ⟨#[]⟩ 0 false HV5.out).1).1
                    go_upto_region 25 with fail
                    generalize (((((((w5.setCell ⟨vb, 0, none⟩ (.string ⟨#[]⟩)).setCell ⟨vb, 1, none⟩ (.string ⟨#[]⟩)).setCell ⟨vb, 2, none⟩ (.int .u8 0)).setCell ⟨vb, 3, none⟩ (.bool false)).setCell ⟨vb, 0, none⟩ (.string x.p.will.t)).setCell ⟨vb, 1, none⟩ (.string x.p.will.p)).setCell ⟨vb, 2, none⟩ (.int .u8 x.p.will.q)).setCell ⟨vb, 3, none⟩ (.bool x.p.will.r) = W9 at *
                    have HY9 : Hid (WillAt W W9 s vb win most (doS win most x z) F5) := Lib.hid ⟨hs9, HWO.out, by rw [hyw]; exact hb9, HO5.out, HWA.out.hi⟩
                    obtain ⟨_, _, _, _, _, _, hp9, -⟩ := hs9.rep
                    obtain ⟨-, -, -, r3, r4, r5, r6, r7, -⟩ := hp9.cells
                    rw [hyw] at r3 r4 r5 r6
                    rw [hyh] at r7
                    obtain ⟨e0, e1, e2, e3⟩ := cells4 hb9
                    clear hos hnv m0 m1 m2 m3 fr b0 b1 b2 b13 b14 b15 b16 b17
                    have hcmp := fun w => msg_neq_same (x.p.will).t (x.p.will).p (x.p.will).q (x.p.will).r w
                    have HYH := Lib.hid hyh
                    clear hyh hyw hs9 hb9 hp9
                    go_quiet (fail)
                    go_wp2_with fail
                    go_roundw
                    case rel => exact ⟨k + 1, _, by go_num, by omega, by rw [HSN.out, HYH.out], by rw [HSN.out]; exact ⟨HY9.out.se.below (below_draws _), HY9.out.ok, HY9.out.box, HY9.out.off, HY9.out.hi⟩⟩
                    case measure => simp [intOf]; omega
                  | false =>
                    have HWL := Lib.hid hwl
                    clear hwl
                    have h3b : (x.kind % 16 == 3) = false := by rw [beq_eq_false_iff_ne]; omega
                    have h3c : decide (x.kind % 16 < 3) = true := decide_eq_true H3.out
                    have h4c : (x.kind % 16 == 4) = false := by rw [beq_eq_false_iff_ne]; omega
                    have hcn : decide (0 < x.conn) = true := decide_eq_true (by omega)
                    have hty : (x.p.ty == 1) = true := by simp [HTY.out]
                    rw [HWL.out] at b13 HAX
                    go_wp2_with (first
                      | (refine wpList_load_row rfl 56 _ rfl wr.heap.size rfl 56 AC.toArray _ _ HXB.out Tryd.underlying56 rfl HAS2.out ?_)
                      | fail)
                    refine (HDO.out _ F' (HWA.out.se.below (low_alloc wr _))).mono ?_
                    rintro e w5 ⟨rfl, F5, hr5, hu5⟩
                    obtain ⟨hs5, hv5, ho5⟩ := HWA.out.of (low_alloc wr _) hr5 hu5
                    have hx5 := (hu5.1.block wr.heap.size (by simp) hnb).trans HXB.out
                    clear b0 b1 b2 b13 b14 b15 b16 b17
                    obtain ⟨b0, b1, b2, b13, b14, b15, b16, b17⟩ := HAX.out _ hx5
                    obtain ⟨m0, m1, m2, m3⟩ := cells4 hv5
                    have fr := fun k => frozen_of_row _ _ k _ _ hv5
                    have hnv : wr.heap.size ≠ vb := by omega
                    have hos : ∀ (k j : Nat) (X : World) (v : Value), (X.setCell ⟨vb, k, none⟩ v).cell? ⟨wr.heap.size, j, none⟩ = X.cell? ⟨wr.heap.size, j, none⟩ := fun k j X v => World.cell?_of_block (heap_setCell_other X _ _ _ hnv)
                    have HS5 := Lib.hid hs5
                    have HV5 := Lib.hid hv5
                    have HO5 := Lib.hid ho5
                    clear hr5 hu5 hs5 hv5 ho5 hx5
                    have hyh : (doS win most x z).has = false := by rw [HDW.out.1, if_pos H3.out, if_pos HMB.out]; exact HWL.out
                    have hyw : (doS win most x z).will = Msg.none := by rw [HDW.out.2, if_pos H3.out, if_pos HMB.out, if_neg (by rw [HWL.out]; decide)]
                    have hs9 : Se W ((((w5.setCell ⟨vb, 0, none⟩ (.string ⟨#[]⟩)).setCell ⟨vb, 1, none⟩ (.string ⟨#[]⟩)).setCell ⟨vb, 2, none⟩ (.int .u8 0)).setCell ⟨vb, 3, none⟩ (.bool false)) s win most (doS win most x z) F5 := HS5.out.box (set4_box ⟨#[]⟩ ⟨#[]⟩ 0 false HV5.out).2 HO5.out HWA.out.hi
                    have hb9 : ((((w5.setCell ⟨vb, 0, none⟩ (.string ⟨#[]⟩)).setCell ⟨vb, 1, none⟩ (.string ⟨#[]⟩)).setCell ⟨vb, 2, none⟩ (.int .u8 0)).setCell ⟨vb, 3, none⟩ (.bool false)).heap[vb]? = some (.cells #[.string (Msg.none).t, .string (Msg.none).p, .int .u8 (Msg.none).q, .bool (Msg.none).r] 30 (0, 0)) := (set4_box ⟨#[]⟩ ⟨#[]⟩ 0 false HV5.out).1
                    go_upto_region 25 with fail
                    generalize (((w5.setCell ⟨vb, 0, none⟩ (.string ⟨#[]⟩)).setCell ⟨vb, 1, none⟩ (.string ⟨#[]⟩)).setCell ⟨vb, 2, none⟩ (.int .u8 0)).setCell ⟨vb, 3, none⟩ (.bool false) = W9 at *
                    have HY9 : Hid (WillAt W W9 s vb win most (doS win most x z) F5) := Lib.hid ⟨hs9, HWO.out, by rw [hyw]; exact hb9, HO5.out, HWA.out.hi⟩
                    obtain ⟨_, _, _, _, _, _, hp9, -⟩ := hs9.rep
                    obtain ⟨-, -, -, r3, r4, r5, r6, r7, -⟩ := hp9.cells
                    rw [hyw] at r3 r4 r5 r6
                    rw [hyh] at r7
                    obtain ⟨e0, e1, e2, e3⟩ := cells4 hb9
                    dsimp only [Msg.none] at r3 r4 r5 r6 e0 e1 e2 e3
                    clear hos hnv m0 m1 m2 m3 fr b0 b1 b2 b13 b14 b15 b16 b17
                    have hcmp := fun w => msg_neq_same ⟨#[]⟩ ⟨#[]⟩ 0 false w
                    have HYH := Lib.hid hyh
                    clear hyh hyw hs9 hb9 hp9
                    go_quiet (fail)
                    go_wp2_with fail
                    go_roundw
                    case rel => exact ⟨k + 1, _, by go_num, by omega, by rw [HSN.out, HYH.out], by rw [HSN.out]; exact ⟨HY9.out.se.below (below_draws _), HY9.out.ok, HY9.out.box, HY9.out.off, HY9.out.hi⟩⟩
                    case measure => simp [intOf]; omega
                · have HMB : Hid (mayB x.conn x.p = false) := Lib.hid (by unfold mayB; rw [decide_eq_false ht1, Bool.and_false])
                  have HTY := Lib.hid ht1
                  clear ht1
                  have h3b : (x.kind % 16 == 3) = false := by rw [beq_eq_false_iff_ne]; omega
                  have h3c : decide (x.kind % 16 < 3) = true := decide_eq_true H3.out
                  have h4c : (x.kind % 16 == 4) = false := by rw [beq_eq_false_iff_ne]; omega
                  have hcn : decide (0 < x.conn) = true := decide_eq_true (by omega)
                  have hty : (x.p.ty == 1) = false := by rw [beq_eq_false_iff_ne]; exact HTY.out
                  go_wp2_with (first
                    | (refine wpList_load_row rfl 56 _ rfl wr.heap.size rfl 56 AC.toArray _ _ HXB.out Tryd.underlying56 rfl HAS2.out ?_)
                    | fail)
                  refine (HDO.out _ F' (HWA.out.se.below (low_alloc wr _))).mono ?_
                  rintro e w5 ⟨rfl, F5, hr5, hu5⟩
                  obtain ⟨hs5, hv5, ho5⟩ := HWA.out.of (low_alloc wr _) hr5 hu5
                  have hx5 := (hu5.1.block wr.heap.size (by simp) hnb).trans HXB.out
                  clear b0 b1 b2 b13 b14 b15 b16 b17
                  obtain ⟨b0, b1, b2, b13, b14, b15, b16, b17⟩ := HAX.out _ hx5
                  obtain ⟨m0, m1, m2, m3⟩ := cells4 hv5
                  have fr := fun k => frozen_of_row _ _ k _ _ hv5
                  have hnv : wr.heap.size ≠ vb := by omega
                  have hos : ∀ (k j : Nat) (X : World) (v : Value), (X.setCell ⟨vb, k, none⟩ v).cell? ⟨wr.heap.size, j, none⟩ = X.cell? ⟨wr.heap.size, j, none⟩ := fun k j X v => World.cell?_of_block (heap_setCell_other X _ _ _ hnv)
                  have HS5 := Lib.hid hs5
                  have HV5 := Lib.hid hv5
                  have HO5 := Lib.hid ho5
                  clear hr5 hu5 hs5 hv5 ho5 hx5
                  have hyh : (doS win most x z).has = z.has := by rw [HDW.out.1, if_pos H3.out, if_neg (by rw [HMB.out]; decide)]
                  have hyw : (doS win most x z).will = z.will := by rw [HDW.out.2, if_pos H3.out, if_neg (by rw [HMB.out]; decide)]
                  have hs9 : Se W (w5) s win most (doS win most x z) F5 := HS5.out
                  have hb9 : (w5).heap[vb]? = some (.cells #[.string (z.will).t, .string (z.will).p, .int .u8 (z.will).q, .bool (z.will).r] 30 (0, 0)) := HV5.out
                  go_upto_region 25 with fail
                  have HY9 : Hid (WillAt W w5 s vb win most (doS win most x z) F5) := Lib.hid ⟨hs9, HWO.out, by rw [hyw]; exact hb9, HO5.out, HWA.out.hi⟩
                  obtain ⟨_, _, _, _, _, _, hp9, -⟩ := hs9.rep
                  obtain ⟨-, -, -, r3, r4, r5, r6, r7, -⟩ := hp9.cells
                  rw [hyw] at r3 r4 r5 r6
                  rw [hyh] at r7
                  obtain ⟨e0, e1, e2, e3⟩ := cells4 hb9
                  clear hos hnv m0 m1 m2 m3 fr b0 b1 b2 b13 b14 b15 b16 b17
                  have hcmp := fun w => msg_neq_same (z.will).t (z.will).p (z.will).q (z.will).r w
                  have HYH := Lib.hid hyh
                  clear hyh hyw hs9 hb9 hp9
                  go_quiet (fail)
                  go_wp2_with fail
                  go_roundw
                  case rel => exact ⟨k + 1, _, by go_num, by omega, by rw [HSN.out, HYH.out], by rw [HSN.out]; exact ⟨HY9.out.se.below (below_draws _), HY9.out.ok, HY9.out.box, HY9.out.off, HY9.out.hi⟩⟩
                  case measure => simp [intOf]; omega
            · by_cases h4 : x.kind % 16 = 4
              · skip
                have h3b : (x.kind % 16 == 3) = false := by rw [beq_eq_false_iff_ne]; omega
                have h3c : decide (x.kind % 16 < 3) = false := decide_eq_false (by omega)
                have h4c : (x.kind % 16 == 4) = true := by simp [h4]
                go_wp2_with (first
                  | (refine wpList_load_row rfl 56 _ rfl wr.heap.size rfl 56 AC.toArray _ _ HXB.out Tryd.underlying56 rfl HAS2.out ?_)
                  | fail)
                refine (HDO.out _ F' (HWA.out.se.below (low_alloc wr _))).mono ?_
                rintro e w5 ⟨rfl, F5, hr5, hu5⟩
                obtain ⟨hs5, hv5, ho5⟩ := HWA.out.of (low_alloc wr _) hr5 hu5
                have hx5 := (hu5.1.block wr.heap.size (by simp) hnb).trans HXB.out
                clear b0 b1 b2 b13 b14 b15 b16 b17
                obtain ⟨b0, b1, b2, b13, b14, b15, b16, b17⟩ := HAX.out _ hx5
                obtain ⟨m0, m1, m2, m3⟩ := cells4 hv5
                have fr := fun k => frozen_of_row _ _ k _ _ hv5
                have hnv : wr.heap.size ≠ vb := by omega
                have hos : ∀ (k j : Nat) (X : World) (v : Value), (X.setCell ⟨vb, k, none⟩ v).cell? ⟨wr.heap.size, j, none⟩ = X.cell? ⟨wr.heap.size, j, none⟩ := fun k j X v => World.cell?_of_block (heap_setCell_other X _ _ _ hnv)
                have HS5 := Lib.hid hs5
                have HV5 := Lib.hid hv5
                have HO5 := Lib.hid ho5
                clear hr5 hu5 hs5 hv5 ho5 hx5
                have hyh : (doS win most x z).has = false := by rw [HDW.out.1, if_neg (by omega), if_pos (by omega)]
                have hyw : (doS win most x z).will = Msg.none := by rw [HDW.out.2, if_neg (by omega), if_pos (by omega)]
                have hs9 : Se W ((((w5.setCell ⟨vb, 0, none⟩ (.string ⟨#[]⟩)).setCell ⟨vb, 1, none⟩ (.string ⟨#[]⟩)).setCell ⟨vb, 2, none⟩ (.int .u8 0)).setCell ⟨vb, 3, none⟩ (.bool false)) s win most (doS win most x z) F5 := HS5.out.box (set4_box ⟨#[]⟩ ⟨#[]⟩ 0 false HV5.out).2 HO5.out HWA.out.hi
                have hb9 : ((((w5.setCell ⟨vb, 0, none⟩ (.string ⟨#[]⟩)).setCell ⟨vb, 1, none⟩ (.string ⟨#[]⟩)).setCell ⟨vb, 2, none⟩ (.int .u8 0)).setCell ⟨vb, 3, none⟩ (.bool false)).heap[vb]? = some (.cells #[.string (Msg.none).t, .string (Msg.none).p, .int .u8 (Msg.none).q, .bool (Msg.none).r] 30 (0, 0)) := (set4_box ⟨#[]⟩ ⟨#[]⟩ 0 false HV5.out).1
                go_upto_region 25 with fail
                generalize (((w5.setCell ⟨vb, 0, none⟩ (.string ⟨#[]⟩)).setCell ⟨vb, 1, none⟩ (.string ⟨#[]⟩)).setCell ⟨vb, 2, none⟩ (.int .u8 0)).setCell ⟨vb, 3, none⟩ (.bool false) = W9 at *
                have HY9 : Hid (WillAt W W9 s vb win most (doS win most x z) F5) := Lib.hid ⟨hs9, HWO.out, by rw [hyw]; exact hb9, HO5.out, HWA.out.hi⟩
                obtain ⟨_, _, _, _, _, _, hp9, -⟩ := hs9.rep
                obtain ⟨-, -, -, r3, r4, r5, r6, r7, -⟩ := hp9.cells
                rw [hyw] at r3 r4 r5 r6
                rw [hyh] at r7
                obtain ⟨e0, e1, e2, e3⟩ := cells4 hb9
                dsimp only [Msg.none] at r3 r4 r5 r6 e0 e1 e2 e3
                clear hos hnv m0 m1 m2 m3 fr b0 b1 b2 b13 b14 b15 b16 b17
                have hcmp := fun w => msg_neq_same ⟨#[]⟩ ⟨#[]⟩ 0 false w
                have HYH := Lib.hid hyh
                clear hyh hyw hs9 hb9 hp9
                go_quiet (fail)
                go_wp2_with fail
                go_roundw
                case rel => exact ⟨k + 1, _, by go_num, by omega, by rw [HSN.out, HYH.out], by rw [HSN.out]; exact ⟨HY9.out.se.below (below_draws _), HY9.out.ok, HY9.out.box, HY9.out.off, HY9.out.hi⟩⟩
                case measure => simp [intOf]; omega
              · skip
                have h3b : (x.kind % 16 == 3) = false := by rw [beq_eq_false_iff_ne]; omega
                have h3c : decide (x.kind % 16 < 3) = false := decide_eq_false (by omega)
                have h4c : (x.kind % 16 == 4) = false := by rw [beq_eq_false_iff_ne]; omega
                go_wp2_with (first
                  | (refine wpList_load_row rfl 56 _ rfl wr.heap.size rfl 56 AC.toArray _ _ HXB.out Tryd.underlying56 rfl HAS2.out ?_)
                  | fail)
                refine (HDO.out _ F' (HWA.out.se.below (low_alloc wr _))).mono ?_
                rintro e w5 ⟨rfl, F5, hr5, hu5⟩
                obtain ⟨hs5, hv5, ho5⟩ := HWA.out.of (low_alloc wr _) hr5 hu5
                have hx5 := (hu5.1.block wr.heap.size (by simp) hnb).trans HXB.out
                clear b0 b1 b2 b13 b14 b15 b16 b17
                obtain ⟨b0, b1, b2, b13, b14, b15, b16, b17⟩ := HAX.out _ hx5
                obtain ⟨m0, m1, m2, m3⟩ := cells4 hv5
                have fr := fun k => frozen_of_row _ _ k _ _ hv5
                have hnv : wr.heap.size ≠ vb := by omega
                have hos : ∀ (k j : Nat) (X : World) (v : Value), (X.setCell ⟨vb, k, none⟩ v).cell? ⟨wr.heap.size, j, none⟩ = X.cell? ⟨wr.heap.size, j, none⟩ := fun k j X v => World.cell?_of_block (heap_setCell_other X _ _ _ hnv)
                have HS5 := Lib.hid hs5
                have HV5 := Lib.hid hv5
                have HO5 := Lib.hid ho5
                clear hr5 hu5 hs5 hv5 ho5 hx5
                have hyh : (doS win most x z).has = z.has := by rw [HDW.out.1, if_neg (by omega), if_neg (by omega)]
                have hyw : (doS win most x z).will = z.will := by rw [HDW.out.2, if_neg (by omega), if_neg (by omega)]
                have hs9 : Se W (w5) s win most (doS win most x z) F5 := HS5.out
                have hb9 : (w5).heap[vb]? = some (.cells #[.string (z.will).t, .string (z.will).p, .int .u8 (z.will).q, .bool (z.will).r] 30 (0, 0)) := HV5.out
                go_upto_region 25 with fail
                have HY9 : Hid (WillAt W w5 s vb win most (doS win most x z) F5) := Lib.hid ⟨hs9, HWO.out, by rw [hyw]; exact hb9, HO5.out, HWA.out.hi⟩
                obtain ⟨_, _, _, _, _, _, hp9, -⟩ := hs9.rep
                obtain ⟨-, -, -, r3, r4, r5, r6, r7, -⟩ := hp9.cells
                rw [hyw] at r3 r4 r5 r6
                rw [hyh] at r7
                obtain ⟨e0, e1, e2, e3⟩ := cells4 hb9
                clear hos hnv m0 m1 m2 m3 fr b0 b1 b2 b13 b14 b15 b16 b17
                have hcmp := fun w => msg_neq_same (z.will).t (z.will).p (z.will).q (z.will).r w
                have HYH := Lib.hid hyh
                clear hyh hyw hs9 hb9 hp9
                go_quiet (fail)
                go_wp2_with fail
                go_roundw
                case rel => exact ⟨k + 1, _, by go_num, by omega, by rw [HSN.out, HYH.out], by rw [HSN.out]; exact ⟨HY9.out.se.below (below_draws _), HY9.out.ok, HY9.out.box, HY9.out.off, HY9.out.hi⟩⟩
                case measure => simp [intOf]; omega
        · have hkl : ¬ (k : Int) < l.length := by omega
          have hbel := hwa.se.bel
          have HBE := Lib.hid hbel
          clear hwa hbel
          go_wp2_with fail
          refine (HAW.out _ HBE.out).mono ?_
          rintro e w5 ⟨rfl, hk5⟩
          have HF := Lib.hid (bnext HBE.out (Nat.le_refl _) hk5)
          clear hk5
          go_wp2_with fail
          go_ret
          exact ⟨rfl, HF.out⟩
    · have hbad : most < 1 ∨ 1024 < most ∨ win < 1 ∨ 1024 < win := by omega
      refine (sesnew_bad ⟨#[99]⟩ a1 a2 a3 most win _ hbad).mono ?_
      rintro e w3 ⟨rfl, hk3⟩
      have HB3 := Lib.hid (bnext HB1.out (Nat.le_refl _) hk3)
      clear hk3 hbad hcfg g0 g1 g2 g3 g4
      go_wp2_with fail
      refine (HAW.out _ HB3.out).mono ?_
      rintro e w5 ⟨rfl, hk5⟩
      have HF := Lib.hid (bnext HB3.out (Nat.le_refl _) hk5)
      clear hk5
      go_wp2_with fail
      go_ret
      exact ⟨rfl, HF.out⟩
end Go.Proofs.YtmkhagmjpbfieaaDoor
