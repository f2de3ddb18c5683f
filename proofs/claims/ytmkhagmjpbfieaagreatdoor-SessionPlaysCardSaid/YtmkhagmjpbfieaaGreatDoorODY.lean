/- The document's table: Pump walked. (Printed by gen_dpump.py.) The document's table: Pump walked. (Printed by gen_dpump.py.) The document's table: what an Ack comes to. The document's table: Ack walked. (Printed by gen_dack.py.) The document's table: Resume walked. (Printed by gen_dres.py.) -/
import Derived.Test.YtmkhagmjpbfieaaGreatDoorODX
import Derived.Test.YtmkhagmjpbfieaaGreatDoorOutY
import Derived.Test.YtmkhagmjpbfieaaGreatDoorOutX
namespace Go.Proofs.YtmkhagmjpbfieaaGreatDoor
section
open Go Go.RowKit

theorem DTRep.lens {w : World} {t : Nat} {win most : Int} {o : OT} {F : List Nat} (h : DTRep w t win most o F) : o.wait.length ≤ 1024 ∧ o.row.length ≤ 1024 := by
  obtain ⟨q, v, FQ, h, hr, h1, h2, -, -⟩ := h
  have := h.queue.le
  have := hr.len
  omega
theorem msg_size' (m : Msg) : (Tryz.prog.info? 34).map (·.size) = some m.cells.toArray.size := show _ = some 4 by kernel_rfl
theorem msg_one' (m : Msg) : m.cells.toArray.all (·.oneCell') = true := by simp [Msg.cells, Value.oneCell']
/-- what a round of Pump finds -/
structure DPumpAt (w wr : World) (t : Nat) (win most : Int) (F : List Nat) (o : OT) (v : Value) (ps : List Pkt) (wait : List Msg) (row : List Sent) (F' : List Nat) : Prop where
  own : wr.ownsRow w.heap.size 37 24 v ps.length (pksV ps)
  rep : DTRep wr t win most ⟨wait, row⟩ F'
  off : Off F' v.ownBlock.toList
  upd : Upd F F' w wr
  eq : pumpO win o.wait o.row = (ps ++ (pumpO win wait row).1, (pumpO win wait row).2)
  len : ps.length + wait.length ≤ o.wait.length
  cap0 : o.wait.length ≤ 1024
theorem DPumpAt.cap {w wr : World} {t : Nat} {win most : Int} {F F' : List Nat} {o : OT} {v : Value} {ps : List Pkt} {wait : List Msg} {row : List Sent} (h : DPumpAt w wr t win most F o v ps wait row F') : ps.length ≤ 4096 := by
  have := h.len; have := h.cap0; omega
theorem DPumpAt.fin {w wr w2 : World} {t : Nat} {win most : Int} {F F' : List Nat} {o : OT} {v : Value} {ps : List Pkt} {wait : List Msg} {row : List Sent} (h : DPumpAt w wr t win most F o v ps wait row F') (he : pumpO win wait row = ([], ⟨wait, row⟩)) (hb : Below wr.heap.size wr w2) :
    ∃ v' F', Ending.returned v = .returned v' ∧ w2.ownsRow w.heap.size 37 24 v' (pumpO win o.wait o.row).1.length (pksV (pumpO win o.wait o.row).1) ∧ DTRep w2 t win most (pumpO win o.wait o.row).2 F' ∧ Upd F F' w w2 ∧ Off F' v'.ownBlock.toList := by
  refine ⟨v, F', rfl, ?_, ?_, h.upd.next hb, h.off⟩
  · rw [h.eq, he, List.append_nil]
    exact ownsRow_local h.own fun k hk => hb.block k (h.own.lt k hk).2
  · rw [h.eq, he]
    exact h.rep.below hb
section
variable {w wr W2 w3 w4 w5 : World} {t : Nat} {win most : Int} {F F1 F2 : List Nat} {o : OT} {v v5 : Value} {ps : List Pkt} {m : Msg} {r : List Msg} {row row2 : List Sent} {x : Pkt}
/-- the row of packets, and the table, ahead of the append -/
theorem DPumpAt.mid (h : DPumpAt w wr t win most F o v ps (m :: r) row F1) (hb : Below wr.heap.size wr W2) (hu : Upd F1 F2 W2 w3) (hr : DTRep w3 t win most ⟨r, row2⟩ F2) (hb3 : Below w3.heap.size w3 w4) :
    w4.ownsRow w.heap.size 37 24 v ps.length (pksV ps) ∧ w.heap.size ≤ w4.heap.size ∧ (∀ k ∈ F2, k < w4.heap.size) ∧ Off F2 v.ownBlock.toList ∧ ps.length ≤ 4096 := by
  have hv : ∀ k ∈ v.ownBlock.toList, k < W2.heap.size := fun k hk => Nat.lt_of_lt_of_le (h.own.lt k (Option.mem_toList.1 hk)).2 hb.size
  have o2 := ownsRow_local (w' := W2) h.own fun k hk => hb.block k (h.own.lt k hk).2
  have o3 := own_upd o2 hu h.off
  have o4 := ownsRow_local (w' := w4) o3 fun k hk => hb3.block k (o3.lt k hk).2
  have s1 := h.upd.1.size
  have s2 := hb.size
  have s3 := hu.1.size
  have s4 := hb3.size
  refine ⟨o4, by omega, fun k hk => Nat.lt_of_lt_of_le (hr.lt k hk) s4, hu.off h.off hv, ?_⟩
  exact h.cap
theorem DPumpAt.step (h : DPumpAt w wr t win most F o v ps (m :: r) row F1) (hb : Below wr.heap.size wr W2) (hu : Upd F1 F2 W2 w3) (hr : DTRep w3 t win most ⟨r, row2⟩ F2) (hb3 : Below w3.heap.size w3 w4)
    (ho : w5.ownsRow w.heap.size 37 24 v5 (ps ++ [x]).length (pksV (ps ++ [x]))) (hoff : Off F2 v5.ownBlock.toList) (hm : Mod v.ownBlock.toList w4 w5) (he : pumpO win (m :: r) row = (x :: (pumpO win r row2).1, (pumpO win r row2).2)) :
    DPumpAt w w5 t win most F o v5 (ps ++ [x]) r row2 F2 := by
  obtain ⟨-, -, -, h4, -⟩ := h.mid hb hu hr hb3
  refine ⟨ho, (hr.below hb3).mod hm fun k hk hk' => h4 k hk hk', hoff, ?_, ?_, ?_, ?_⟩
  · exact (((h.upd.next hb).trans' hu).next hb3).extra hm fun k hk => (h.own.lt k (Option.mem_toList.1 hk)).1
  · rw [h.eq, he]
    simp
  · have := h.len
    simp at this ⊢
    omega
  · exact h.cap0
end
noncomputable def dpReg (k : Nat) : Code := (Tryz.f42.body.bind (regionOf k)).getD .skip
set_option maxRecDepth 100000 in
set_option maxHeartbeats 4000000 in
theorem dp_r10 (mb : Nat) (m : Msg) (id : Int) (v : Value) (B : Nat) (ps : List Pkt) (F : List Nat) (w : World) (ho : w.ownsRow B 37 24 v ps.length (pksV ps)) (hB : B ≤ w.heap.size) (hF : ∀ k ∈ F, k < w.heap.size) (hv : Off F v.ownBlock.toList) (hl : ps.length ≤ 4096) (hX : w.heap[mb]? = some (.cells m.cells.toArray 34 (0, 0)))
    {f0 f1 f2 f5 f7 f8 f9 f10 f11 f12 f13 f14 f15 f16 f17 f18 f19 f20 f21 f22 f23 f24 f25 f26 f27 f28 f29 f30 f31 f32 f33 f34 f35 f36 f37 f38 f39 f40 f41 f42 f43 f44 f45 f46 f47 f48 f49 f50 f51 f52 f53 f54 f55 f56 f57 f58 f59 f60 f61 f62 f63 f64 f65 f66 f67 f68 f69 f70 f71 f72 f73 f74 f75 f76 f77 f78 f79 f80 : Value} {Q : Exit → Act → World → Prop}
    (hQ : ∀ ⦃d74 d75 d76 d77 d78 d79 : Value⦄ (w' : World) (v' : Value), w'.ownsRow B 37 24 v' (ps ++ [pubK m id false]).length (pksV (ps ++ [pubK m id false])) → Off F v'.ownBlock.toList → Mod v.ownBlock.toList w w' → Q .normal ⟨#[f0, f1, f2, v', .pointer (some ⟨mb, 0, none⟩), f5, .int .u16 id, f7, f8, f9, f10, f11, f12, f13, f14, f15, f16, f17, f18, f19, f20, f21, f22, f23, f24, f25, f26, f27, f28, f29, f30, f31, f32, f33, f34, f35, f36, f37, f38, f39, f40, f41, f42, f43, f44, f45, f46, f47, f48, f49, f50, f51, f52, f53, f54, f55, f56, f57, f58, f59, f60, f61, f62, f63, f64, f65, f66, f67, f68, f69, f70, f71, f72, f73, d74, d75, d76, d77, d78, d79, f80], []⟩ w') :
    Code.wp Tryz.prog (dpReg 10) Q ⟨#[f0, f1, f2, v, .pointer (some ⟨mb, 0, none⟩), f5, .int .u16 id, f7, f8, f9, f10, f11, f12, f13, f14, f15, f16, f17, f18, f19, f20, f21, f22, f23, f24, f25, f26, f27, f28, f29, f30, f31, f32, f33, f34, f35, f36, f37, f38, f39, f40, f41, f42, f43, f44, f45, f46, f47, f48, f49, f50, f51, f52, f53, f54, f55, f56, f57, f58, f59, f60, f61, f62, f63, f64, f65, f66, f67, f68, f69, f70, f71, f72, f73, f74, f75, f76, f77, f78, f79, f80], []⟩ w := by
  dsimp only at hQ ⊢
  conv => arg 2; whnf
  have g0 := cell_of_row _ _ 0 _ _ _ hX
  have g1 := cell_of_row _ _ 1 _ _ _ hX
  have g2 := cell_of_row _ _ 2 _ _ _ hX
  have g3 := cell_of_row _ _ 3 _ _ _ hX
  simp only [Msg.cells, List.getElem?_toArray, List.getElem?_cons_zero, List.getElem?_cons_succ] at g0 g1 g2 g3
  have HONE := Lib.hid (one13_any m id w)
  unfold Msg.val at HONE
  have HOWN := Lib.hid ho
  have HBS := Lib.hid (build_pk (pubK m id false))
  have H24 : Hid ((pubK m id false).cells.toArray.size = 1 * 24) := Lib.hid rfl
  have H1 : Hid (∀ u ∈ (pubK m id false).cells.toArray.toList, u.oneCell' = true) := Lib.hid (by simpa [pksV] using pks_one [pubK m id false])
  have HKC : Hid (pksV ps ++ (pubK m id false).cells.toArray.toList = pksV (ps ++ [pubK m id false])) := Lib.hid (by rw [← pksV_append]; simp [pksV])
  have HQ := Lib.hid hQ
  have HV := Lib.hid hv
  have HFF := Lib.hid hF
  generalize (pubK m id false).cells = XL at *
  clear ho hX hQ hv hF
  go_wp2_with fail
  refine HONE.out.mono ?_
  rintro e w1 ⟨rfl, hk⟩
  have HB1 := Lib.hid hk
  have hs1 := hk.size
  have HOW1 := Lib.hid (ownsRow_lowF HOWN.out hk)
  clear hk g0 g1 g2 g3
  go_wp2_with (first
    | (refine wpList_build1 HBS.out rfl _ rfl rfl _ rfl w1.heap.size rfl ?_)
    | (at_builtin; refine wpList_appR T_pkt (HOW1.out.alloc (.cells XL.toArray 37)) (row_new w1 XL 37) (m := 1) rfl rfl rfl rfl _ rfl (by simpa using H24.out) (by omega) (by simpa using H1.out) (by omega) (by omega) (by simp; omega) ?_; intro g cap w6 hown6 hg6 hi6 hlt6; have HO6 := Lib.hid hown6; have HG6 := Lib.hid hg6; have HI6 := Lib.hid hi6; clear hown6 hg6 hi6 hlt6)
    | fail)
  have hvl : ∀ k ∈ v.ownBlock.toList, k < w.heap.size := fun k hk => (HOWN.out.lt k (Option.mem_toList.1 hk)).2
  refine HQ.out _ _ (by
    rw [List.length_append, ← HKC.out]
    exact HO6.out) (fun k hk hk' => ?_) ((Mod.of_below (HB1.out.alloc hs1 _) _).grown HG6.out fun j hj => .inl (Option.mem_toList.2 hj))
  simp only [Value.ownBlock, Option.toList_some, List.mem_singleton] at hk'
  subst hk'
  rcases HI6.out with h | h
  · exact HV.out _ hk (Option.mem_toList.2 h)
  · have := HFF.out _ hk
    simp at h
    omega
end
section
open Go Go.RowKit

set_option maxRecDepth 100000 in
set_option maxHeartbeats 4000000 in
theorem dpump_any (t : Nat) (win most : Int) (o : OT) (F : List Nat) (w : World) (h : DTRep w t win most o F) :
    Calls Tryz.prog 42 #[.pointer (some ⟨t, 0, none⟩)] w fun e w' => ∃ v F', e = .returned v ∧ w'.ownsRow w.heap.size 37 24 v (pumpO win o.wait o.row).1.length (pksV (pumpO win o.wait o.row).1) ∧ DTRep w' t win most (pumpO win o.wait o.row).2 F' ∧ Upd F F' w w' ∧ Off F' v.ownBlock.toList := by
  have HH := Lib.hid h
  have hlen := h.lens.1
  clear h
  go_enter Tryz.func42, Tryz.ntmps42
  go_wp2_with fail
  go_loopg [3] o.wait.length (fun gg v wr => ∃ (ps : List Pkt) (wait : List Msg) (row : List Sent) (F' : List Nat), wait.length ≤ gg ∧ DPumpAt w wr t win most F o v ps wait row F')
  case atStart => exact ⟨[], o.wait, o.row, F, Nat.le_refl _, ⟨World.ownsRow_nil _ _ _ _, HH.out, fun k _ => by simp [Value.ownBlock], Upd.refl _ _, by simp, by simp, hlen⟩⟩
  case round =>
    obtain ⟨ps, wait, row, F1, hgg, hP⟩ := hrel
    have HP := Lib.hid hP
    have hl2 := hP.len
    obtain ⟨q, rv, FQ, hp, hr, hw1, hw2, hwk, rfl⟩ := hP.rep
    obtain ⟨c0, c1, c2⟩ := hp.cells
    obtain ⟨ra, rc, rfl, -, -, -⟩ := ownsRow_row hp.own
    obtain ⟨va, vc, rfl, -, -, -⟩ := ownsRow_row hP.own
    obtain ⟨qv, hq0, hqo, -⟩ := hp.queue
    obtain ⟨qa, qc, rfl, hqr, -, -⟩ := ownsRow_row hqo
    obtain ⟨d0, -⟩ := cells2 hq0
    have HPP := Lib.hid hp
    have HR := Lib.hid hr
    have HWK := Lib.hid hwk
    have hrl := hr.len
    clear hP hp hr hwk hq0 hqo
    cases wait with
    | nil =>
      have HE : Hid (pumpO win [] row = ([], ⟨[], row⟩)) := Lib.hid rfl
      clear hqr
      go_wp2_with fail
      go_quiet (fail)
      go_wp2_with fail
      go_ret
      exact HP.out.fin HE.out (below_draws _)
    | cons m r =>
      have hm := HWK.out m (by simp)
      obtain ⟨qb, qo, rfl, cq⟩ := hqr.at (show (msgs (m :: r))[2]? = some (.int .u8 m.q) from rfl)
      have hl0 : 0 < (m :: r).length := by simp
      have HML : Hid ((m :: r).length = r.length + 1) := Lib.hid rfl
      clear hqr
      generalize hrn : (m :: r).length = rn at *
      clear hrn
      by_cases hq : 0 < m.q
      · have hq1 : (m.q == 0) = false := by rw [beq_eq_false_iff_ne]; omega
        by_cases hfull : win ≤ (row.length : Int)
        · have HE := Lib.hid (pump_full (r := r) hq hfull)
          have hlf : ¬ (row.length : Int) < win := by omega
          have hlfd : decide ((row.length : Int) < win) = false := decide_eq_false hlf
          clear hlf
          go_wp2_with fail
          go_quiet (fail)
          go_wp2_with fail
          go_ret
          exact HP.out.fin HE.out (below_draws _)
        · have HE := Lib.hid (pump_take (r := r) hq hfull)
          have hlfd : decide ((row.length : Int) < win) = true := decide_eq_true (by omega)
          go_wp2_with fail
          go_quiet (fail)
          go_wp2_with fail
          refine (rpop_some q m r most FQ _ (HPP.out.queue.below (below_draws nq))).mono ?_
          rintro e w2 ⟨rfl, FQ2, hq2, hu2⟩
          obtain ⟨hp2, hud2⟩ := (HPP.out.below (below_draws nq)).turnQ hq2 hu2
          have HP2 := Lib.hid hp2
          have HU2 := Lib.hid hud2
          have hxm := heap_alloc_new w2 (.cells m.cells.toArray 34)
          have HXM := Lib.hid hxm
          have hg2 : (w2.alloc (.cells m.cells.toArray 34)).cell? ⟨w2.heap.size, 2, none⟩ = some (.int .u8 m.q) := cell_of_row _ _ 2 _ _ _ hxm
          have HB3 := Lib.hid (low_alloc w2 (.cells m.cells.toArray 34))
          have HMZ := Lib.hid (msg_size' m)
          have HM4 : Hid ((4 : Nat) = m.cells.toArray.size) := Lib.hid rfl
          have HM1 := Lib.hid (msg_one' m)
          have HWR : Hid (WaitOk r) := Lib.hid (fun x hx => HWK.out x (List.mem_cons_of_mem _ hx))
          have HLG : Hid (r.length < rn) := Lib.hid (by have := HML.out; omega)
          clear hp2 hud2 hq2 hu2 hxm
          unfold Msg.val
          have HQ2 : Hid (m.q ≤ 2) := Lib.hid (by
            have := hm.1
            unfold mayP at this
            simp only [Bool.and_eq_true, decide_eq_true_eq] at this
            exact this.2)
          have HDR : Hid (DTRep w2 t win most ⟨r, row⟩ (dtFoot t (.slice ra row.length rc) FQ2)) := Lib.hid ⟨q, _, FQ2, HP2.out, HR.out, hw1, hw2, HWR.out, rfl⟩
          have HDR4 := Lib.hid (HDR.out.below HB3.out)
          go_wp2_with (first
            | (refine wpList_store_newTo rfl 34 _ _ rfl rfl w2.heap.size rfl m.cells.toArray _ rfl rfl HMZ.out HM4.out HM1.out ?_)
            | fail)
          refine (dfree_any t win most ⟨r, row⟩ _ _ HDR4.out).mono ?_
          rintro e w5 ⟨rfl, hk5⟩
          have HB5 : Hid (Below w2.heap.size w2 w5) := Lib.hid (HB3.out.trans (hk5.mono HB3.out.size))
          have HP5 := Lib.hid (HP2.out.below HB5.out)
          have HX5 := Lib.hid ((hk5.block w2.heap.size (by simp)).trans HXM.out)
          clear hk5 hg2
          obtain ⟨-, -, c52⟩ := HP5.out.cells
          obtain ⟨_, _, e5, hr5, -, -⟩ := ownsRow_row HP5.out.own
          cases e5
          have HR5 := Lib.hid hr5
          have HLD := Lib.hid (dsV_len row)
          have HOD := Lib.hid (ds_one row)
          have htl5 := HP5.out.ltt
          clear hr5
          generalize hID : leastFree (idsOf row) = idn at *
          have HID := Lib.hid hID
          clear hID
          go_upto_region 9 with (first
            | (at_builtin; refine wpList_spread (m := row.length) (w0 := w5) (B := w5.heap.size) T_ds (World.ownsRow_nil w5 _ _ _) (Below.refl _ _) (Nat.le_refl _) HR5.out rfl rfl rfl rfl _ rfl HLD.out HOD.out (by omega) (by omega) ?_; intro v6 w6 hown6 hb6 hg6)
            | fail)
          clear hg6 c52
          have HX6 := Lib.hid ((hb6.block w2.heap.size (Array.getElem?_eq_some_iff.1 HX5.out).1).trans HX5.out)
          have g0 := cell_of_row _ _ 0 _ _ _ HX6.out
          have g1 := cell_of_row _ _ 1 _ _ _ HX6.out
          have g2 := cell_of_row _ _ 2 _ _ _ HX6.out
          have g3 := cell_of_row _ _ 3 _ _ _ HX6.out
          simp only [Msg.cells, List.getElem?_toArray, List.getElem?_cons_zero, List.getElem?_cons_succ] at g0 g1 g2 g3
          have hd1 : IntKind.u8.wrap (4 + m.q) = 4 + m.q := by have := HQ2.out; rw [IntKind.wrap_u8]; omega
          have hd2 : IntKind.u8.wrap (4 + m.q - 1) = dueOf m := by
            have := HQ2.out
            rw [IntKind.wrap_u8]
            unfold dueOf
            by_cases h2 : m.q = 2
            · rw [if_pos h2]; omega
            · rw [if_neg h2]; omega
          have HOW6 := Lib.hid (ownsRow_lowF hown6 (low_alloc w6 (.cells ([Value.string m.t, .string m.p, .int .u8 m.q, .bool m.r, .int .u16 (idn : Int), .int .u8 (dueOf m)]).toArray 125)))
          have HLOW6 := Lib.hid (hb6.alloc hb6.size (.cells ([Value.string m.t, .string m.p, .int .u8 m.q, .bool m.r, .int .u16 (idn : Int), .int .u8 (dueOf m)]).toArray 125))
          have HLIT := Lib.hid (row_new w6 [Value.string m.t, .string m.p, .int .u8 m.q, .bool m.r, .int .u16 (idn : Int), .int .u8 (dueOf m)] 125)
          have HOL : Hid (∀ u ∈ [Value.string m.t, .string m.p, .int .u8 m.q, .bool m.r, .int .u16 (idn : Int), .int .u8 (dueOf m)], u.oneCell' = true) := Lib.hid (by simp [Value.oneCell'])
          clear hown6 hb6
          go_upto_region 10 with (first
            | (at_builtin; refine wpList_spread (m := 1) (w0 := w5) (B := w5.heap.size) T_ds HOW6.out HLOW6.out (Nat.le_refl _) HLIT.out rfl rfl rfl rfl _ rfl rfl HOL.out (by omega) (by omega) ?_; intro v7 w7 hown7 hb7 hg7; obtain ⟨a7, c7, rfl, -, -, -⟩ := ownsRow_row hown7; have HOW7 := Lib.hid hown7; have HB7 := Lib.hid hb7; have f7 := frozen_of_row _ _ 2 _ _ ((hb7.block t htl5).trans HP5.out.hd); have p7 := cell_of_row _ _ 2 _ _ _ ((hb7.block t htl5).trans HP5.out.hd); clear hown7 hb7 hg7)
            | fail)
          clear f7 p7 g0 g1 g2 g3 hd1 hd2
          replace HOW7 := HOW7.out
          rw [Nat.zero_add, List.nil_append] at HOW7
          replace HOW7 := Lib.hid HOW7
          have hne : (Value.slice a7 (row.length + 1) c7).ownBlock ≠ some t := fun e => by have := (HOW7.out.lt t e).1; omega
          obtain ⟨h8, hu8⟩ := HP5.out.turnR (w' := w7.setCell ⟨t, 2, none⟩ (.slice a7 (row.length + 1) c7)) (row' := row ++ [⟨m, idn, dueOf m⟩]) (v' := .slice a7 (row.length + 1) c7) ((Mod.of_below HB7.out _).setCell (.inl (by simp)) _) (by simpa using heap_setCell_same w7 t 2 _ _ (.slice a7 (row.length + 1) c7) ((HB7.out.block t htl5).trans HP5.out.hd))
            (by
              have h9 := ownsRow_setCell_other (ownsRow_mono HOW7.out (Nat.zero_le _)) (a := ⟨t, 2, none⟩) hne (.slice a7 (row.length + 1) c7)
              rw [List.length_append, ← dsV_append, show dsV [(⟨m, idn, dueOf m⟩ : Sent)] = [Value.string m.t, .string m.p, .int .u8 m.q, .bool m.r, .int .u16 (idn : Int), .int .u8 (dueOf m)] by simp [dsV, dsC, Msg.cells]]
              simpa using h9) (fun k hk => .inr (HOW7.out.lt k (Option.mem_toList.1 hk)).1)
          have H8 := Lib.hid h8
          have HU8 := Lib.hid ((HU2.out.next HB5.out).trans' hu8)
          have HX8 := Lib.hid ((heap_setCell_other w7 ⟨t, 2, none⟩ _ (.slice a7 (row.length + 1) c7) (show w2.heap.size ≠ t by have := HP2.out.ltt; omega)).trans ((HB7.out.block w2.heap.size (Array.getElem?_eq_some_iff.1 HX5.out).1).trans HX5.out))
          clear h8 hu8 hne
          generalize w7.setCell ⟨t, 2, none⟩ (.slice a7 (row.length + 1) c7) = w8 at *
          have HDR8 : Hid (DTRep w8 t win most ⟨r, row ++ [⟨m, idn, dueOf m⟩]⟩ (dtFoot t (.slice a7 (row.length + 1) c7) FQ2)) := Lib.hid ⟨q, _, FQ2, H8.out, by rw [← HID.out]; exact HR.out.take hw2 hq HQ2.out (by omega), hw1, hw2, HWR.out, rfl⟩
          have HMID := Lib.hid (HP.out.mid (below_draws nq) HU8.out HDR8.out (Below.refl _ _))
          refine dp_r10 w2.heap.size m idn (.slice va ps.length vc) w.heap.size ps _ _ HMID.out.1 HMID.out.2.1 HMID.out.2.2.1 HMID.out.2.2.2.1 HMID.out.2.2.2.2 HX8.out ?_
          intro d74 d75 d76 d77 d78 d79 w9 v9 ho9 hoff9 hm9
          dsimp only
          have HS := Lib.hid (HP.out.step (below_draws nq) HU8.out HDR8.out (Below.refl _ _) ho9 hoff9 hm9 HE.out)
          clear ho9 hoff9 hm9
          go_wp2_with fail
          go_roundg r.length
          case measure => have := HLG.out; omega
          case rel => exact ⟨_, r, _, _, Nat.le_refl _, HS.out⟩
      · have hq1 : (m.q == 0) = true := by rw [beq_iff_eq]; omega
        have HE := Lib.hid (pump_zero (win := win) (r := r) (row := row) hq)
        go_wp2_with fail
        go_quiet (fail)
        go_wp2_with fail
        refine (rpop_some q m r most FQ _ (HPP.out.queue.below (below_draws nq))).mono ?_
        rintro e w2 ⟨rfl, FQ2, hq2, hu2⟩
        obtain ⟨hp2, hud2⟩ := (HPP.out.below (below_draws nq)).turnQ hq2 hu2
        have HP2 := Lib.hid hp2
        have HU2 := Lib.hid hud2
        have hxm := heap_alloc_new w2 (.cells m.cells.toArray 34)
        have HXM := Lib.hid hxm
        have hg2 : (w2.alloc (.cells m.cells.toArray 34)).cell? ⟨w2.heap.size, 2, none⟩ = some (.int .u8 m.q) := cell_of_row _ _ 2 _ _ _ hxm
        have HB3 := Lib.hid (low_alloc w2 (.cells m.cells.toArray 34))
        have HMZ := Lib.hid (msg_size' m)
        have HM4 : Hid ((4 : Nat) = m.cells.toArray.size) := Lib.hid rfl
        have HM1 := Lib.hid (msg_one' m)
        have HWR : Hid (WaitOk r) := Lib.hid (fun x hx => HWK.out x (List.mem_cons_of_mem _ hx))
        have HLG : Hid (r.length < rn) := Lib.hid (by have := HML.out; omega)
        clear hp2 hud2 hq2 hu2 hxm
        unfold Msg.val
        have HDR : Hid (DTRep w2 t win most ⟨r, row⟩ (dtFoot t (.slice ra row.length rc) FQ2)) := Lib.hid ⟨q, _, FQ2, HP2.out, HR.out, hw1, hw2, HWR.out, rfl⟩
        have HMID := Lib.hid (HP.out.mid (below_draws nq) HU2.out HDR.out HB3.out)
        go_upto_region 10 with (first
          | (refine wpList_store_newTo rfl 34 _ _ rfl rfl w2.heap.size rfl m.cells.toArray _ rfl rfl HMZ.out HM4.out HM1.out ?_)
          | fail)
        clear hg2
        generalize w2.alloc (.cells m.cells.toArray 34) = w4 at *
        refine dp_r10 w2.heap.size m 0 (.slice va ps.length vc) w.heap.size ps _ _ HMID.out.1 HMID.out.2.1 HMID.out.2.2.1 HMID.out.2.2.2.1 HMID.out.2.2.2.2 HXM.out ?_
        intro d74 d75 d76 d77 d78 d79 w9 v9 ho9 hoff9 hm9
        dsimp only
        have HS := Lib.hid (HP.out.step (below_draws nq) HU2.out HDR.out HB3.out ho9 hoff9 hm9 HE.out)
        clear ho9 hoff9 hm9
        go_wp2_with fail
        go_roundg r.length
        case measure => have := HLG.out; omega
        case rel => exact ⟨_, r, row, _, Nat.le_refl _, HS.out⟩
end
section
open Go Go.RowKit

theorem flat_take {α : Type} {mk : α → List Value} {m : Nat} (hm : ∀ x, (mk x).length = m) (l : List α) (k : Nat) : (l.flatMap mk).take (k * m) = (l.take k).flatMap mk := by
  induction l generalizing k with
  | nil => simp
  | cons x r ih =>
    cases k with
    | zero => simp
    | succ k =>
      rw [List.flatMap_cons, List.take_succ_cons, List.flatMap_cons, List.take_append, hm, show (k + 1) * m - m = k * m by rw [Nat.succ_mul]; omega, ih, List.take_of_length_le (by rw [hm, Nat.succ_mul]; omega)]
theorem flat_drop {α : Type} {mk : α → List Value} {m : Nat} (hm : ∀ x, (mk x).length = m) (l : List α) (k : Nat) : (l.flatMap mk).drop (k * m) = (l.drop k).flatMap mk := by
  induction l generalizing k with
  | nil => simp
  | cons x r ih =>
    cases k with
    | zero => simp
    | succ k =>
      rw [List.flatMap_cons, List.drop_succ_cons, List.drop_append, hm, show (k + 1) * m - m = k * m by rw [Nat.succ_mul]; omega, ih, List.drop_eq_nil_of_le (by rw [hm, Nat.succ_mul]; omega), List.nil_append]
theorem dsV_set (l : List Sent) (k : Nat) (hk : k < l.length) (d : Int) : (dsV l).set (k * 6 + 5) (.int .u8 d) = dsV (l.set k ⟨l[k].m, l[k].id, d⟩) := by
  have hx : ∀ (y : Sent) (r : List Sent), dsV (y :: r) = dsC y ++ dsV r := fun y r => by simp [dsV]
  induction l generalizing k with
  | nil => simp at hk
  | cons x r ih =>
    cases k with
    | zero =>
      rw [List.set_cons_zero, hx, hx, List.set_append_left _ _ (by rw [dsC_len]; decide)]
      rfl
    | succ k =>
      rw [List.set_cons_succ, hx, hx, List.set_append_right _ _ (by rw [dsC_len]; omega), dsC_len, show (k + 1) * 6 + 5 - 6 = k * 6 + 5 by omega, ih k (by simpa using hk)]
      simp
theorem dsV_erase (l : List Sent) (k : Nat) : (dsV l).take (k * 6) ++ (dsV l).drop ((k + 1) * 6) = dsV (l.eraseIdx k) := by
  unfold dsV
  rw [flat_take dsC_len, flat_drop dsC_len, ← List.flatMap_append, List.eraseIdx_eq_take_drop_succ]
def actsO (ty id : Int) (x : Sent) : Prop := (x.id : Int) = id ∧ ((ty = 5 ∧ x.due ≠ 4) ∨ ty = x.due)
theorem place_at {row : List Sent} (hn : (idsOf row).Nodup) {i : Nat} (hi : i < row.length) {id : Int} (he : (row[i].id : Int) = id) : placeO id row = some i := by
  unfold placeO
  refine List.findIdx?_eq_some_iff_getElem.2 ⟨hi, by simpa using he, fun j hj => ?_⟩
  have hl : (idsOf row).length = row.length := by simp [idsOf]
  have h1 := (List.nodup_iff_pairwise_ne.1 hn)
  have h2 := List.pairwise_iff_getElem.1 h1 j i (by omega) (by omega) hj
  simp only [idsOf, List.getElem_map] at h2
  simp only [beq_eq_false_iff_ne, ne_eq, Bool.not_eq_true]
  omega
theorem ack_rest {ty id : Int} {o : OT} (h : ∀ x ∈ o.row, ¬ actsO ty id x) (hd : ∀ x ∈ o.row, x.due = 4 ∨ x.due = 5 ∨ x.due = 7) : ackO ty id o = (([], false), o) := by
  cases hpl : placeO id o.row with
  | none => exact ack_none hpl
  | some k =>
    obtain ⟨hk, hid, -⟩ := place_some hpl
    have hn := h _ (List.getElem_mem hk)
    have hdd := hd _ (List.getElem_mem hk)
    unfold actsO at hn
    rw [ack_some hk hpl, if_neg (fun e => hn ⟨hid, .inl ⟨e.1, by omega⟩⟩), if_neg (fun e => hn ⟨hid, .inr e⟩)]
theorem ack_turn {ty id : Int} {o : OT} {i : Nat} (hn : (idsOf o.row).Nodup) (hi : i < o.row.length) (he : (o.row[i].id : Int) = id) (h5 : ty = 5) (hd : o.row[i].due = 5 ∨ o.row[i].due = 7) : ackO ty id o = (([relK id], true), ⟨o.wait, o.row.set i ⟨o.row[i].m, o.row[i].id, 7⟩⟩) := by
  rw [ack_some hi (place_at hn hi he), if_pos ⟨h5, hd⟩]
theorem ack_del {ty id : Int} {o : OT} {i : Nat} (hn : (idsOf o.row).Nodup) (hi : i < o.row.length) (he : (o.row[i].id : Int) = id) (h5 : ¬ (ty = 5 ∧ (o.row[i].due = 5 ∨ o.row[i].due = 7))) (hd : ty = o.row[i].due) : ackO ty id o = (([], true), ⟨o.wait, o.row.eraseIdx i⟩) := by
  rw [ack_some hi (place_at hn hi he), if_neg h5, if_pos hd]
theorem ds_size (x : Sent) : (Tryz.prog.info? 125).map (·.size) = some (dsC x).toArray.size := show _ = some 6 by kernel_rfl
theorem ds_one1 (x : Sent) : (dsC x).toArray.all (·.oneCell') = true := by simp [dsC, Msg.cells, Value.oneCell']
/-- what an Ack comes to -/
def DAckDone (w w' : World) (t : Nat) (win most : Int) (F : List Nat) (e : Ending) (r : (List Pkt × Bool) × OT) : Prop :=
  ∃ v F', e = .returned (.tuple #[v, .bool r.1.2]) ∧ w'.ownsRow w.heap.size 37 24 v r.1.1.length (pksV r.1.1) ∧ DTRep w' t win most r.2 F' ∧ Upd F F' w w' ∧ Off F' v.ownBlock.toList
theorem dack_nil {w w' : World} {t : Nat} {win most : Int} {F : List Nat} {o : OT} (h : DTRep w t win most o F) (hb : Below w.heap.size w w') : DAckDone w w' t win most F (.returned (.tuple #[.slice none 0 0, .bool false])) (([], false), o) :=
  ⟨_, F, rfl, World.ownsRow_nil _ _ _ _, h.below hb, Upd.of_below hb, fun k _ => by simp [Value.ownBlock]⟩
theorem dack_rel {w w3 : World} {t : Nat} {win most : Int} {F F' : List Nat} {o : OT} {x : Pkt} {RL : List Value} (h : pksV [x] = RL) (hl : RL.length = 24) (hr : DTRep w3 t win most o F') (hu : Upd F F' w w3) {n : Nat} (hn : n = w3.heap.size) :
    DAckDone w (w3.alloc (.cells RL.toArray 37)) t win most F (.returned (.tuple #[.slice (some ⟨n, 0, none⟩) 1 1, .bool true])) (([x], true), o) := by
  subst hn
  refine ⟨_, F', rfl, ⟨by simp [pksV_len], .inr ⟨w3.heap.size, 1, RL.toArray, rfl, hu.1.size, heap_alloc_new _ _, Nat.le_refl _, by decide, by simpa using hl, ?_⟩⟩, hr.below (low_alloc _ _), hu.next (low_alloc _ _), fun k hk hk' => ?_⟩
  · rw [h, List.take_of_length_le (by simp [hl])]
  · simp only [Value.ownBlock, Option.toList_some, List.mem_singleton] at hk'
    have := hr.lt k hk
    omega
end
section
open Go Go.RowKit

set_option maxRecDepth 100000 in
set_option maxHeartbeats 4000000 in
theorem dack_any (t : Nat) (win most : Int) (o : OT) (F : List Nat) (pk : Pkt) (w : World) (h : DTRep w t win most o F) :
    Calls Tryz.prog 44 #[.pointer (some ⟨t, 0, none⟩), .agg pk.cells.toArray] w fun e w' => DAckDone w w' t win most F e (ackO pk.ty pk.id o) := by
  have hb := low_alloc w (.cells pk.cells.toArray 37)
  have hX := heap_alloc_new w (.cells pk.cells.toArray 37)
  have hnF : w.heap.size ∉ F := fun hk => by have := h.lt _ hk; omega
  have HH := Lib.hid h
  have hrl := h.lens.2
  generalize pk.cells.toArray.size = PSZ at *
  obtain ⟨W, hW⟩ : ∃ W, w.alloc (.cells pk.cells.toArray 37) = W := ⟨_, rfl⟩
  have hWs : W.heap.size = w.heap.size + 1 := by rw [← hW]; simp
  rw [hW] at hb hX
  obtain ⟨q, v0, FQ, hp, hr, hw1, hw2, hwk, rfl⟩ := h.below hb
  have HPX : Hid (∀ X, Below W.heap.size W X → X.cell? ⟨w.heap.size, 0, none⟩ = some (.int .u8 pk.ty) ∧ X.cell? ⟨w.heap.size, 4, none⟩ = some (.int .u16 pk.id)) := Lib.hid (fun X hX2 => by
    obtain ⟨x0, -, -, -, x4, -, -⟩ := pk_cells ((hX2.block w.heap.size (by omega)).trans hX)
    exact ⟨x0, x4⟩)
  have HP := Lib.hid hp
  have HB := Lib.hid hb
  have HR := Lib.hid hr
  have HWK := Lib.hid hwk
  have HNF := Lib.hid hnF
  have HRST := Lib.hid (fun (h : ∀ x ∈ o.row, ¬ actsO pk.ty pk.id x) => ack_rest h (fun x hx => (hr.due x hx).1))
  have HWS := Lib.hid hWs
  clear h hX hb hr hwk hnF hWs hp
  generalize pk.cells.toArray = PC at *
  generalize pk.ty = ty at *
  generalize pk.id = pid at *
  go_enter Tryz.func44, Tryz.ntmps44
  go_upto_region 1 with fail
  try rw [hW]
  clear hW
  go_wp2_with fail
  go_loopw [6] (fun iv wr => ∃ i : Nat, iv = .int .i64 i ∧ i ≤ o.row.length ∧ Below W.heap.size W wr ∧ ∀ j (_ : j < i) (hjl : j < o.row.length), ¬ actsO ty pid o.row[j]) (fun i _ => (o.row.length - intOf i).toNat)
  case atStart => exact ⟨0, rfl, by omega, Below.refl _ _, fun j hj => absurd hj (Nat.not_lt_zero j)⟩
  case round =>
    obtain ⟨i, rfl, hi, hbr, hno⟩ := hrel
    have HNO := Lib.hid hno
    have HBR := Lib.hid hbr
    have HP5 := Lib.hid (HP.out.below hbr)
    obtain ⟨-, -, c2⟩ := HP5.out.cells
    clear hbr hno
    by_cases hlt : i < o.row.length
    · obtain ⟨g, rc, rfl⟩ := ownsRow_slot HP5.out.own (by omega)
      obtain ⟨a0, c0', e0, hrow, hnc, -⟩ := ownsRow_row HP5.out.own
      cases e0
      have hi0 : (0 : Int) ≤ i := by omega
      have hil : (i : Int) < o.row.length := by omega
      have hw1i : IntKind.i64.wrap ((i : Int) + 1) = (i : Int) + 1 := w_i64 _ (by omega) (by omega)
      obtain ⟨_, _, e1, r0, r1, r2, r3, r4, r5⟩ := ds_row hrow hlt
      cases e1
      simp only [Nat.zero_add] at r0 r1 r2 r3 r4 r5
      have HTU := Lib.hid (fun h1 h2 h3 => ack_turn (ty := ty) (id := pid) HR.out.nd hlt h1 h2 h3)
      have HDE := Lib.hid (fun h1 h2 h3 => ack_del (ty := ty) (id := pid) HR.out.nd hlt h1 h2 h3)
      have HTN := Lib.hid (fun h => HR.out.turn hlt h)
      have HER := Lib.hid (HR.out.erase i)
      have HDUE := Lib.hid (HR.out.due _ (List.getElem_mem hlt)).1
      have HSE := Lib.hid (dsV_set o.row i hlt 7)
      have HSL : Hid ((o.row.set i ⟨o.row[i].m, o.row[i].id, 7⟩).length = o.row.length) := Lib.hid (by simp)
      have HDV := Lib.hid (dsV_erase o.row i)
      have HEL : Hid (i + (o.row.length - (i + 1)) = (o.row.eraseIdx i).length) := Lib.hid (by rw [List.length_eraseIdx]; simp [hlt]; omega)
      have HACT : Hid (actsO ty pid o.row[i] ↔ ((o.row[i].id : Int) = pid ∧ ((ty = 5 ∧ o.row[i].due ≠ 4) ∨ ty = o.row[i].due))) := Lib.hid Iff.rfl
      have HMZ := Lib.hid (ds_size o.row[i])
      have HM6 : Hid ((6 : Nat) = (dsC o.row[i]).toArray.size) := Lib.hid rfl
      have HM1 := Lib.hid (ds_one1 o.row[i])
      have hxb := heap_alloc_new wr (.cells (dsC o.row[i]).toArray 125)
      have hbb := low_alloc wr (.cells (dsC o.row[i]).toArray 125)
      have z4 : (wr.alloc (.cells (dsC o.row[i]).toArray 125)).cell? ⟨wr.heap.size, 4, none⟩ = some (.int .u16 (o.row[i].id : Nat)) := cell_of_row _ _ 4 _ _ _ hxb
      have z5 : (wr.alloc (.cells (dsC o.row[i]).toArray 125)).cell? ⟨wr.heap.size, 5, none⟩ = some (.int .u8 o.row[i].due) := cell_of_row _ _ 5 _ _ _ hxb
      have HB4 := Lib.hid (HBR.out.trans (hbb.mono HBR.out.size))
      have HBW4 : Hid (Below w.heap.size w (wr.alloc (.cells (dsC o.row[i]).toArray 125))) := Lib.hid (bnext HB.out (Nat.le_refl _) HB4.out)
      have HP4 := Lib.hid (HP5.out.below hbb)
      have HROW4 := Lib.hid (hrow.below hbb (Nat.le_refl _))
      obtain ⟨p0, p4⟩ := HPX.out _ HB4.out
      have HNA1 : Hid (∀ y, o.row[i]? = some y → o.row[i] = y) := Lib.hid (fun y e => by rw [List.getElem?_eq_getElem hlt] at e; exact Option.some.inj e)
      clear HNA1 hxb hbb hrow
      have HNAI := Lib.hid (fun (h : ¬ actsO ty pid o.row[i]) => h)
      generalize (o.row.set i ⟨o.row[i].m, o.row[i].id, 7⟩) = HRW at *
      generalize o.row.eraseIdx i = HRE at *
      go_upto_region 5 with (first
        | (refine wpList_store_newTo rfl 125 _ _ rfl rfl wr.heap.size rfl (dsC o.row[i]).toArray _ rfl rfl HMZ.out HM6.out HM1.out ?_)
        | fail)
      clear r0 r1 r2 r3 r4 r5 c2
      generalize wr.alloc (.cells (dsC o.row[i]).toArray 125) = w4 at *
      obtain ⟨-, -, c2⟩ := HP4.out.cells
      generalize hxi : o.row[i].id = xid at *
      generalize hxd : o.row[i].due = xd at *
      replace hxi := Lib.hid hxi
      replace hxd := Lib.hid hxd
      by_cases hid : (xid : Int) = pid
      · rw [hid] at z4
        by_cases hty : ty = 5
        · have htb : (ty == 5) = true := by rw [beq_iff_eq]; exact hty
          by_cases hd4 : xd = 4
          · have hdb : (xd == 4) = true := by rw [beq_iff_eq]; exact hd4
            have htd : (ty == xd) = false := by rw [beq_eq_false_iff_ne]; omega
            have HNA : Hid (¬ actsO ty pid o.row[i]) := Lib.hid (fun h => by have := HACT.out.1 h; omega)
            clear hty hd4
            go_wp2_with fail
            go_roundw
            case rel => exact ⟨i + 1, by go_num, by omega, HB4.out, fun j hj hjl => by
              rcases Nat.lt_succ_iff_lt_or_eq.1 hj with h | rfl
              · exact HNO.out j h hjl
              · exact HNA.out⟩
            case measure => simp [intOf]; omega
          · have hdb : (xd == 4) = false := by rw [beq_eq_false_iff_ne]; exact hd4
            have HD57 : xd = 5 ∨ xd = 7 := by have := HDUE.out; omega
            have HBU := Lib.hid (fun (_ : Unit) => built_rel pid)
            have HBS := Lib.hid (build_pk (relK pid))
            have HRP : Hid (pksV [relK pid] = (relK pid).cells) := Lib.hid (by simp [pksV])
            have HRC : Hid ((relK pid).cells.length = 24) := Lib.hid rfl
            generalize hrl2 : (relK pid).cells = RL at *
            clear hrl2
            have HAE := Lib.hid (HTU.out hid hty HD57)
            obtain ⟨_, _, e9, -, -, -, -, -, r59⟩ := ds_row HROW4.out hlt
            cases e9
            simp only [Nat.zero_add] at r59
            have hof := HP4.out.own
            have fz := ownsRow_free hof (i * 6 + 5)
            have hs2 := ownsRow_set hof (i * 6 + 5) (.int .u8 7)
            rw [HSE.out] at hs2
            clear hof
            obtain ⟨h3, hu3⟩ := HP4.out.turnR (row' := HRW) (v' := .slice (some ⟨g, 0, none⟩) o.row.length rc) (w' := w4.setCell ⟨g, i * 6 + 5, none⟩ (.int .u8 7)) ((Mod.refl _ _).setCell (.inl (by simp [Value.ownBlock])) _) ((heap_setCell_other w4 ⟨g, i * 6 + 5, none⟩ t (.int .u8 7) (fun e => HP4.out.tv (by rw [e]; simp [Value.ownBlock]))).trans HP4.out.hd) (by rw [HSL.out]; exact hs2) (fun k hk => .inl hk)
            have HR3 : Hid (DTRep (w4.setCell ⟨g, i * 6 + 5, none⟩ (.int .u8 7)) t win most ⟨o.wait, HRW⟩ (dtFoot t (.slice (some ⟨g, 0, none⟩) o.row.length rc) FQ)) := Lib.hid ⟨q, _, FQ, h3, HTN.out HD57, hw1, hw2, HWK.out, rfl⟩
            have HU3 := Lib.hid (Upd.pre HBW4.out hu3)
            have hgb : wr.heap.size ≠ g := fun e => by have := HP5.out.ltv g (by simp [Value.ownBlock]); omega
            have hgp : w.heap.size ≠ g := fun e => HNF.out (mem_dtFoot.2 (.inr (.inr (by rw [e]; simp [Value.ownBlock]))))
            have z4' : (w4.setCell ⟨g, i * 6 + 5, none⟩ (.int .u8 7)).cell? ⟨wr.heap.size, 4, none⟩ = some (.int .u16 pid) := by
              rw [World.cell?_of_block (w := w4) (heap_setCell_other w4 ⟨g, i * 6 + 5, none⟩ _ _ hgb)]; exact z4
            clear h3 hu3 hs2
            go_wp2_with (first
              | (refine wpList_buildBy rfl 37 _ rfl _ rfl RL.toArray [(0, .int .u8 6), (4, .int .u16 pid)] (by kernel_rfl) (HBU.out ()) ?_)
              | (refine wpList_build1 HBS.out rfl _ rfl rfl _ rfl _ rfl ?_)
              | fail)
            go_ret2
            rw [HAE.out]
            exact dack_rel (n := w4.heap.size) HRP.out HRC.out HR3.out HU3.out (by simp)
        · have htb : (ty == 5) = false := by rw [beq_eq_false_iff_ne]; exact hty
          have hn5 : ¬ (ty = 5 ∧ (xd = 5 ∨ xd = 7)) := fun e => hty e.1
          by_cases hdu : ty = xd
          · have htd : (ty == xd) = true := by rw [beq_iff_eq]; exact hdu
            have HAE := Lib.hid (HDE.out hid hn5 hdu)
            obtain ⟨⟨s1, hs1, hr1⟩, -⟩ := slice_run Tryz.underlying112 (sz := 6) (by kernel_rfl) (some (⟨g, 0, none⟩ : Addr)) o.row.length rc i (by omega) (by omega)
            obtain ⟨-, s2, hs2, hr2⟩ := slice_run Tryz.underlying112 (sz := 6) (by kernel_rfl) (some (⟨g, 0, none⟩ : Addr)) o.row.length rc (i + 1) (by omega) (by omega)
            have hci : (((i + 1 : Nat)) : Int) = (i : Int) + 1 := by omega
            simp only [hci] at hs2
            clear hci
            have HR1 := Lib.hid (hr1 w4 _ HROW4.out)
            have HR2 := Lib.hid (hr2 w4 _ HROW4.out (by rw [dsV_len]))
            have HL1 : Hid (((dsV o.row).take (i * 6)).length = i * 6) := Lib.hid (by rw [List.length_take, dsV_len]; omega)
            have HL2 : Hid (((dsV o.row).drop ((i + 1) * 6)).length = (o.row.length - (i + 1)) * 6) := Lib.hid (by rw [List.length_drop, dsV_len]; omega)
            have HO1 : Hid (∀ u ∈ (dsV o.row).take (i * 6), u.oneCell' = true) := Lib.hid (fun u hu => ds_one o.row u (List.mem_of_mem_take hu))
            have HO2 : Hid (∀ u ∈ (dsV o.row).drop ((i + 1) * 6), u.oneCell' = true) := Lib.hid (fun u hu => ds_one o.row u (List.mem_of_mem_drop hu))
            have htl4 := HP4.out.ltt
            clear hr1 hr2
            go_upto_region 12 with (first
              | (at_builtin; refine wpList_spread (m := i) (w0 := w4) (B := w4.heap.size) T_ds (World.ownsRow_nil w4 _ _ _) (Below.refl _ _) (Nat.le_refl _) HR1.out rfl rfl rfl rfl _ rfl HL1.out HO1.out (by omega) (by omega) ?_; intro v6 w6 hown6 hb6 hg6)
              | fail)
            clear hg6 c2
            have c2 := cell_of_row _ _ 2 _ _ _ ((hb6.block t htl4).trans HP4.out.hd)
            have HOW6 := Lib.hid hown6
            have HB6 := Lib.hid hb6
            have HR26 := Lib.hid (HR2.out.below hb6 (Nat.le_refl _))
            clear hown6 hb6
            go_upto_region 13 with (first
              | (at_builtin; refine wpList_spread (m := o.row.length - (i + 1)) (w0 := w4) (B := w4.heap.size) T_ds HOW6.out HB6.out (Nat.le_refl _) HR26.out rfl rfl rfl rfl _ rfl HL2.out HO2.out (by omega) (by omega) ?_; intro v7 w7 hown7 hb7 hg7; obtain ⟨a7, c7, rfl, -, -, -⟩ := ownsRow_row hown7; have HOW7 := Lib.hid hown7; have HB7 := Lib.hid hb7; have f7 := frozen_of_row _ _ 2 _ _ ((hb7.block t htl4).trans HP4.out.hd); have p7 := cell_of_row _ _ 2 _ _ _ ((hb7.block t htl4).trans HP4.out.hd); clear hown7 hb7 hg7)
              | fail)
            clear f7 p7 c2
            replace HOW7 := HOW7.out
            rw [Nat.zero_add, List.nil_append, HDV.out] at HOW7
            have hnl : i + (o.row.length - (i + 1)) = HRE.length := HEL.out
            rw [hnl] at HOW7
            replace HOW7 := Lib.hid HOW7
            have hne : (Value.slice a7 HRE.length c7).ownBlock ≠ some t := fun e => by have := (HOW7.out.lt t e).1; omega
            obtain ⟨h8, hu8⟩ := HP4.out.turnR (w' := w7.setCell ⟨t, 2, none⟩ (.slice a7 HRE.length c7)) (row' := HRE) (v' := .slice a7 HRE.length c7) ((Mod.of_below HB7.out _).setCell (.inl (by simp)) _) (by simpa using heap_setCell_same w7 t 2 _ _ (.slice a7 HRE.length c7) ((HB7.out.block t htl4).trans HP4.out.hd))
              (ownsRow_setCell_other (ownsRow_mono HOW7.out (Nat.zero_le _)) (a := ⟨t, 2, none⟩) hne (.slice a7 HRE.length c7)) (fun k hk => .inr (HOW7.out.lt k (Option.mem_toList.1 hk)).1)
            have H8 := Lib.hid h8
            have HU8 := Lib.hid (Upd.pre HBW4.out hu8)
            clear h8 hu8 hne
            rw [hnl]
            go_wp2_with fail
            go_ret2
            rw [HAE.out]
            exact ⟨.slice none 0 0, _, rfl, World.ownsRow_nil _ _ _ _, ⟨q, _, FQ, H8.out, HER.out, hw1, hw2, HWK.out, rfl⟩, HU8.out, fun k _ => by simp [Value.ownBlock]⟩
          · have htd : (ty == xd) = false := by rw [beq_eq_false_iff_ne]; exact hdu
            have HNA : Hid (¬ actsO ty pid o.row[i]) := Lib.hid (fun h => by have := HACT.out.1 h; omega)
            go_wp2_with fail
            go_roundw
            case rel => exact ⟨i + 1, by go_num, by omega, HB4.out, fun j hj hjl => by
              rcases Nat.lt_succ_iff_lt_or_eq.1 hj with h | rfl
              · exact HNO.out j h hjl
              · exact HNA.out⟩
            case measure => simp [intOf]; omega
      · have hidb : ((xid : Int) == pid) = false := by rw [beq_eq_false_iff_ne]; exact hid
        have HNA : Hid (¬ actsO ty pid o.row[i]) := Lib.hid (fun h => hid (HACT.out.1 h).1)
        go_wp2_with fail
        go_roundw
        case rel => exact ⟨i + 1, by go_num, by omega, HB4.out, fun j hj hjl => by
          rcases Nat.lt_succ_iff_lt_or_eq.1 hj with h | rfl
          · exact HNO.out j h hjl
          · exact HNA.out⟩
        case measure => simp [intOf]; omega
    · have hil : ¬ (i : Int) < o.row.length := by omega
      obtain ⟨ra, rc, rfl, -, -, -⟩ := ownsRow_row HP5.out.own
      have HAE := Lib.hid (HRST.out fun x hx => by
        obtain ⟨j, hj, rfl⟩ := List.mem_iff_getElem.1 hx
        exact HNO.out j (by omega) hj)
      go_wp2_with fail
      go_ret2
      rw [HAE.out]
      exact dack_nil HH.out (bnext HB.out (Nat.le_refl _) HBR.out)
end
section
open Go Go.RowKit

noncomputable def resReg (k : Nat) : Code := (Tryz.f50.body.bind (regionOf k)).getD .skip
set_option maxRecDepth 100000 in
set_option maxHeartbeats 4000000 in
theorem res_r5 (t g o n rc i : Nat) (m : Msg) (id : Nat) (w : World) (hi : i < n) (hS : ∀ X, Below w.heap.size w X → X.cell? ⟨t, 2, none⟩ = some (.slice (some ⟨g, o, none⟩) n rc) ∧ X.cell? ⟨g, o + i * 6, none⟩ = some (.string m.t) ∧ X.cell? ⟨g, o + i * 6 + 1, none⟩ = some (.string m.p) ∧ X.cell? ⟨g, o + i * 6 + 2, none⟩ = some (.int .u8 m.q) ∧ X.cell? ⟨g, o + i * 6 + 3, none⟩ = some (.bool m.r) ∧ X.cell? ⟨g, o + i * 6 + 4, none⟩ = some (.int .u16 (id : Nat)))
    {f1 f2 f3 f5 f6 f7 f8 f9 f10 f11 f12 f13 f14 f15 f16 f17 f18 f19 f20 f21 f22 f23 f24 f25 f26 f27 f28 f29 f30 f31 f32 f33 f34 f35 f36 f37 f38 f39 f40 f41 f42 f43 f44 f45 f46 f47 f48 f49 f50 f51 f52 f53 f54 f55 : Value} {Q : Exit → Act → World → Prop} (hQp : QuietP Q)
    (hQ : ∀ ⦃d15 d16 d17 d18 d19 d20 d21 d22 d23 d24 d25 d26 d27 d28 d29 d30 d31 : Value⦄ (w' : World) (pb : Nat), Below w.heap.size w w' → w.heap.size ≤ pb → w'.heap[pb]? = some (.cells (pubK m id false).cells.toArray 37 (0, 0)) → Q .normal ⟨#[.pointer (some ⟨t, 0, none⟩), f1, f2, f3, .int .i64 i, .pointer (some ⟨pb, 0, none⟩), f6, f7, f8, f9, f10, f11, f12, f13, f14, d15, d16, d17, d18, d19, d20, d21, d22, d23, d24, d25, d26, d27, d28, d29, d30, d31, f32, f33, f34, f35, f36, f37, f38, f39, f40, f41, f42, f43, f44, f45, f46, f47, f48, f49, f50, f51, f52, f53, f54, f55], []⟩ w') :
    Code.wp Tryz.prog (resReg 5) Q ⟨#[.pointer (some ⟨t, 0, none⟩), f1, f2, f3, .int .i64 i, f5, f6, f7, f8, f9, f10, f11, f12, f13, f14, f15, f16, f17, f18, f19, f20, f21, f22, f23, f24, f25, f26, f27, f28, f29, f30, f31, f32, f33, f34, f35, f36, f37, f38, f39, f40, f41, f42, f43, f44, f45, f46, f47, f48, f49, f50, f51, f52, f53, f54, f55], []⟩ w := by
  dsimp only at hQ ⊢
  conv => arg 2; whnf
  have HS := Lib.hid hS
  have HQ := Lib.hid hQ
  have hi0 : (0 : Int) ≤ i := by omega
  have hil : (i : Int) < n := by omega
  have HONE := Lib.hid (fun X => one13_any m (id : Int) X)
  unfold Msg.val at HONE
  have HLS := Lib.hid (pk_size (pubK m (id : Int) false))
  have HF1 := Lib.hid (pk_one (pubK m (id : Int) false))
  have H24 : Hid ((24 : Nat) = (pubK m (id : Int) false).cells.toArray.size) := Lib.hid rfl
  clear hS hQ
  generalize (pubK m (id : Int) false).cells = XL at *
  refine wp_region_held_drew (S := fun X => X.cell? ⟨t, 2, none⟩ = some (.slice (some ⟨g, o, none⟩) n rc) ∧ X.cell? ⟨g, o + i * 6, none⟩ = some (.string m.t) ∧ X.cell? ⟨g, o + i * 6 + 1, none⟩ = some (.string m.p) ∧ X.cell? ⟨g, o + i * 6 + 2, none⟩ = some (.int .u8 m.q) ∧ X.cell? ⟨g, o + i * 6 + 3, none⟩ = some (.bool m.r) ∧ X.cell? ⟨g, o + i * 6 + 4, none⟩ = some (.int .u16 (id : Nat))) (by kernel_rfl) (HS.out _ (by first | exact (Below.refl _ _).drew | exact Below.refl _ _)) (fun hHeld => ?_)
  refine tk 0 (v := ?_) ?_ hHeld ?_ (hQ := fun _ _ _ h => hQp _ _ _ _ h rfl); rotate_left; · (intro w0 hS0; (try dsimp only at hS0); go_simp; try with_reducible rfl)
  simp only [tks]
  refine tk 1 (v := ?_) ?_ hHeld ?_ (hQ := fun _ _ _ h => hQp _ _ _ _ h rfl); rotate_left; · (intro w0 hS0; (try dsimp only at hS0); go_simp; try with_reducible rfl)
  simp only [tks]
  refine tk 2 (v := ?_) ?_ hHeld ?_ (hQ := fun _ _ _ h => hQp _ _ _ _ h rfl); rotate_left; · (intro w0 hS0; (try dsimp only at hS0); go_simp; try with_reducible rfl)
  simp only [tks]
  refine tk 3 (v := ?_) ?_ hHeld ?_ (hQ := fun _ _ _ h => hQp _ _ _ _ h rfl); rotate_left; · (intro w0 hS0; (try dsimp only at hS0); go_simp; try with_reducible rfl)
  simp only [tks]
  refine tk 4 (v := ?_) ?_ hHeld ?_ (hQ := fun _ _ _ h => hQp _ _ _ _ h rfl); rotate_left; · (intro w0 hS0; (try dsimp only at hS0); go_simp; try with_reducible rfl)
  simp only [tks]
  refine tk 5 (v := ?_) ?_ hHeld ?_ (hQ := fun _ _ _ h => hQp _ _ _ _ h rfl); rotate_left; · (intro w0 hS0; (try dsimp only at hS0); go_simp; try with_reducible rfl)
  simp only [tks]
  refine tk 6 (v := ?_) ?_ hHeld ?_ (hQ := fun _ _ _ h => hQp _ _ _ _ h rfl); rotate_left; · (intro w0 hS0; (try dsimp only at hS0); go_simp; try with_reducible rfl)
  simp only [tks]
  refine tk 7 (v := ?_) ?_ hHeld ?_ (hQ := fun _ _ _ h => hQp _ _ _ _ h rfl); rotate_left; · (intro w0 hS0; (try dsimp only at hS0); go_simp; try with_reducible rfl)
  simp only [tks]
  refine tk 8 (v := ?_) ?_ hHeld ?_ (hQ := fun _ _ _ h => hQp _ _ _ _ h rfl); rotate_left; · (intro w0 hS0; (try dsimp only at hS0); go_simp; try with_reducible rfl)
  simp only [tks]
  refine tk 9 (v := ?_) ?_ hHeld ?_ (hQ := fun _ _ _ h => hQp _ _ _ _ h rfl); rotate_left; · (intro w0 hS0; (try dsimp only at hS0); go_simp; try with_reducible rfl)
  simp only [tks]
  refine tk 10 (v := ?_) ?_ hHeld ?_ (hQ := fun _ _ _ h => hQp _ _ _ _ h rfl); rotate_left; · (intro w0 hS0; (try dsimp only at hS0); go_simp; try with_reducible rfl)
  simp only [tks]
  refine tk 11 (v := ?_) ?_ hHeld ?_ (hQ := fun _ _ _ h => hQp _ _ _ _ h rfl); rotate_left; · (intro w0 hS0; (try dsimp only at hS0); go_simp; try with_reducible rfl)
  simp only [tks]
  refine tk 12 (v := ?_) ?_ hHeld ?_ (hQ := fun _ _ _ h => hQp _ _ _ _ h rfl); rotate_left; · (intro w0 hS0; (try dsimp only at hS0); go_simp; try with_reducible rfl)
  simp only [tks]
  refine tk 13 (v := ?_) ?_ hHeld ?_ (hQ := fun _ _ _ h => hQp _ _ _ _ h rfl); rotate_left; · (intro w0 hS0; (try dsimp only at hS0); go_simp; try with_reducible rfl)
  simp only [tks]
  refine tk 14 (v := ?_) ?_ hHeld ?_ (hQ := fun _ _ _ h => hQp _ _ _ _ h rfl); rotate_left; · (intro w0 hS0; (try dsimp only at hS0); go_simp; try with_reducible rfl)
  simp only [tks]
  refine tk 15 (v := ?_) ?_ hHeld ?_ (hQ := fun _ _ _ h => hQp _ _ _ _ h rfl); rotate_left; · (intro w0 hS0; (try dsimp only at hS0); go_simp; try with_reducible rfl)
  simp only [tks]
  refine wpAnyH_ready (rs := [16, 17]) (by kernel_rfl) (by simp) ?_
  refine AllReadyH.cons rfl (fun K hK => ?_) (AllReadyH.cons rfl (fun K hK => ?_) AllReadyH.nil)
  · rw [if_pos (by rfl)]
    go_simp
    go_at_call 75
    refine (HONE.out _).mono ?_
    rintro e w1 ⟨rfl, hk⟩
    have HB1 : Hid (Below w.heap.size w w1) := Lib.hid ((Below.refl _ _).drew.trans hk)
    clear hk
    refine hK.out _ _ (HS.out _ HB1.out) (fun hHeld => ?_)
    refine wpAnyH_ready (rs := [17]) (by kernel_rfl) (by simp) ?_
    refine AllReadyH.cons rfl (fun K hK => ?_) AllReadyH.nil
    rw [if_pos (by rfl)]
    go_simp
    have HB2 := Lib.hid (fun o => HB1.out.alloc HB1.out.size o)
    refine hK.out _ _ (HS.out _ (HB2.out _)) (fun hHeld => ?_)
    refine wpAnyH_ready (rs := [18]) (by kernel_rfl) (by simp) ?_
    refine AllReadyH.cons rfl (fun K hK => ?_) AllReadyH.nil
    rw [if_pos (by rfl)]
    refine wp_store_row 37 _ _ rfl w1.heap.size XL.toArray rfl rfl 37 _ (heap_alloc_new w1 _) HLS.out H24.out HF1.out ?_
    rw [setRow_new]
    refine hK.out _ _ (HS.out _ (HB2.out _)) (fun hHeld => ?_)
    refine wpAnyH_done (by kernel_rfl) ?_ _
    exact HQ.out _ w1.heap.size (HB2.out _) HB1.out.size (heap_alloc_new w1 _)
  · rw [if_pos (by rfl)]
    go_simp
    have HB1 : Hid (∀ o, Below w.heap.size w (w.alloc o).drew) := Lib.hid (fun o => (low_alloc w o).drew)
    have HX1 : Hid (∀ o, (w.alloc o).drew.heap[w.heap.size]? = some o) := Lib.hid (fun o => heap_alloc_new w o)
    refine hK.out _ _ (HS.out _ (HB1.out _)) (fun hHeld => ?_)
    refine wpAnyH_ready (rs := [16]) (by kernel_rfl) (by simp) ?_
    refine AllReadyH.cons rfl (fun K hK => ?_) AllReadyH.nil
    rw [if_pos (by rfl)]
    go_simp
    go_at_call 75
    refine (HONE.out _).mono ?_
    rintro e w1 ⟨rfl, hk⟩
    have HB2 : Hid (Below w.heap.size w w1) := Lib.hid (bnext (HB1.out _) (Nat.le_refl _) hk)
    have HX2 := Lib.hid ((hk.block w.heap.size (Array.getElem?_eq_some_iff.1 (HX1.out _)).1).trans (HX1.out _))
    clear hk
    refine hK.out _ _ (HS.out _ HB2.out) (fun hHeld => ?_)
    refine wpAnyH_ready (rs := [18]) (by kernel_rfl) (by simp) ?_
    refine AllReadyH.cons rfl (fun K hK => ?_) AllReadyH.nil
    rw [if_pos (by rfl)]
    refine wp_store_row 37 _ _ rfl w.heap.size XL.toArray rfl rfl 37 _ HX2.out HLS.out H24.out HF1.out ?_
    refine hK.out _ _ (HS.out _ (setRow_low HB2.out (Nat.le_refl _) _)) (fun hHeld => ?_)
    refine wpAnyH_done (by kernel_rfl) ?_ _
    exact HQ.out _ w.heap.size (setRow_low HB2.out (Nat.le_refl _) _) (Nat.le_refl _) (setRow_heap _ _ _ _ _ _ HX2.out)
theorem grow10 {w w1 w2 : World} {B : Nat} {v : Value} {n : Nat} {e : TypeId} {size : Nat} {xs : List Value} (ho : w.ownsRow B e size v n xs) (hB : B ≤ w.heap.size) (hb : Below w.heap.size w w1) (hg : w1.grownBy w2 v.ownBlock) : Below B w w2 :=
  ((Mod.of_below hb v.ownBlock.toList).grown hg fun _ hj => .inl (Option.mem_toList.2 hj)).below hB fun k hk => (ho.lt k (Option.mem_toList.1 hk)).1
set_option maxRecDepth 100000 in
set_option maxHeartbeats 4000000 in
theorem dresume_any (t : Nat) (win most : Int) (o : OT) (F : List Nat) (w : World) (h : DTRep w t win most o F) :
    Calls Tryz.prog 50 #[.pointer (some ⟨t, 0, none⟩)] w fun e w' => ∃ v, e = .returned v ∧ w'.ownsRow w.heap.size 37 24 v (resumeO o).length (pksV (resumeO o)) ∧ Below w.heap.size w w' := by
  have hrl := h.lens.2
  obtain ⟨q, v0, FQ, hp, -⟩ := h
  obtain ⟨ra, rc, rfl, hrow, -, -⟩ := ownsRow_row hp.own
  have HR : Hid (∀ X, Below w.heap.size w X → X.cell? ⟨t, 2, none⟩ = some (.slice ra o.row.length rc) ∧ Row X ra (dsV o.row)) := Lib.hid (fun X hX => ⟨(hp.below hX).cells.2.2, hrow.below hX (Nat.le_refl _)⟩)
  clear hp hrow
  go_enter Tryz.func50, Tryz.ntmps50
  go_wp2_with fail
  go_loopw [3, 4] (fun v iv wr => ∃ k : Nat, iv = .int .i64 k ∧ k ≤ o.row.length ∧ Below w.heap.size w wr ∧ wr.ownsRow w.heap.size 37 24 v k (pksV ((resumeO o).take k))) (fun _ i _ => (o.row.length - intOf i).toNat)
  case atStart => exact ⟨0, rfl, by omega, Below.refl _ _, by simpa [pksV] using World.ownsRow_nil _ _ _ _⟩
  case round =>
    obtain ⟨k, rfl, hk, hbr, hown⟩ := hrel
    obtain ⟨va, vc, rfl, -, -, -⟩ := ownsRow_row hown
    obtain ⟨c2, hrw⟩ := HR.out _ hbr
    have HBR := Lib.hid hbr
    have HOWN := Lib.hid hown
    by_cases hlt : k < o.row.length
    · have hk0 : (0 : Int) ≤ k := by omega
      have hkl : (k : Int) < o.row.length := by omega
      have hw1 : IntKind.i64.wrap ((k : Int) + 1) = (k : Int) + 1 := w_i64 _ (by omega) (by omega)
      have HTK : Hid (pksV ((resumeO o).take (k + 1)) = pksV ((resumeO o).take k) ++ (againK o.row[k]).cells) := Lib.hid (by
        have : k < (resumeO o).length := by unfold resumeO; simpa using hlt
        rw [List.take_succ_eq_append_getElem this, ← pksV_append]
        simp [pksV, resumeO])
      have HAG : Hid (againK o.row[k] = if o.row[k].due = 7 then relK o.row[k].id else pubK o.row[k].m o.row[k].id true) := Lib.hid rfl
      obtain ⟨g, og, rfl, -⟩ := ds_row hrw hlt
      have HSX : Hid (∀ X, Below wr.heap.size wr X → (X.cell? ⟨t, 2, none⟩ = some (.slice (some ⟨g, og, none⟩) o.row.length rc) ∧ X.cell? ⟨g, og + k * 6, none⟩ = some (.string o.row[k].m.t) ∧ X.cell? ⟨g, og + k * 6 + 1, none⟩ = some (.string o.row[k].m.p) ∧ X.cell? ⟨g, og + k * 6 + 2, none⟩ = some (.int .u8 o.row[k].m.q) ∧ X.cell? ⟨g, og + k * 6 + 3, none⟩ = some (.bool o.row[k].m.r) ∧ X.cell? ⟨g, og + k * 6 + 4, none⟩ = some (.int .u16 (o.row[k].id : Nat))) ∧ X.cell? ⟨g, og + k * 6 + 5, none⟩ = some (.int .u8 o.row[k].due)) := Lib.hid (fun X hX => by
        obtain ⟨ct, hr'⟩ := HR.out X (hbr.trans (hX.mono hbr.size))
        obtain ⟨b', o', e, e0, e1, e2, e3, e4, e5⟩ := ds_row hr' hlt
        cases e
        exact ⟨⟨ct, e0, e1, e2, e3, e4⟩, e5⟩)
      generalize pksV ((resumeO o).take k) = V at *
      generalize o.row[k] = x at *
      clear hbr hown hrw
      go_upto_region 5 with fail
      clear c2
      refine res_r5 t g og o.row.length rc k x.m x.id wr hlt (fun X hX => (HSX.out X hX).1) ?_ ?_
      · repeat' (first | exact quiet_body | refine quiet_then ?_ | refine quiet_block ?_)
      intro d15 d16 d17 d18 d19 d20 d21 d22 d23 d24 d25 d26 d27 d28 d29 d30 d31 w5 pb hb5 hpb hx5
      dsimp only
      have HB5 := Lib.hid hb5
      have hp1 : w5.cell? ⟨pb, 1, none⟩ = some (.bool false) := cell_of_row _ _ 1 _ _ _ hx5
      have fp := frozen_of_row _ _ 1 _ _ hx5
      have hx6 := heap_setCell_same w5 pb 1 _ _ (.bool true) hx5
      have hpd : (pubK x.m x.id false).cells.toArray.setIfInBounds 1 (.bool true) = (pubK x.m x.id true).cells.toArray := rfl
      rw [hpd] at hx6
      have HB6 : Hid (Below wr.heap.size wr (w5.setCell ⟨pb, 1, none⟩ (.bool true))) := Lib.hid (hb5.setCell (p := ⟨pb, 1, none⟩) hpb _)
      have HX6 := Lib.hid hx6
      clear hb5 hx5 hx6 hpd
      obtain ⟨⟨s2, -, -, -, -, s4⟩, s5⟩ := HSX.out _ HB6.out
      go_upto_region 7 with fail
      clear hp1 fp
      generalize w5.setCell ⟨pb, 1, none⟩ (.bool true) = w6 at *
      by_cases hd : x.due = 7
      · have hdb : (x.due == 7) = true := by rw [beq_iff_eq]; exact hd
        have HAE : Hid (againK x = relK x.id) := Lib.hid (by rw [HAG.out, if_pos hd])
        rw [HAE.out] at HTK
        have HBU := Lib.hid (fun (_ : Unit) => built_rel (x.id : Int))
        have BS9 := Lib.hid (build_pk (relK (x.id : Int)))
        have LS9 := Lib.hid (pk_size (relK (x.id : Int)))
        have O19 := Lib.hid (pk_one (relK (x.id : Int)))
        have HS9 : Hid ((relK (x.id : Int)).cells.toArray.size = 1 * 24) := Lib.hid rfl
        have H24 : Hid ((pubK x.m x.id true).cells.toArray.size = (relK (x.id : Int)).cells.toArray.size) := Lib.hid rfl
        have HO9 : Hid (∀ u ∈ (relK (x.id : Int)).cells.toArray.toList, u.oneCell' = true) := Lib.hid (by simpa [pksV] using pks_one [relK (x.id : Int)])
        have hxd : x.due = 7 := hd
        rw [hxd] at s5
        clear hd hxd
        generalize (relK (x.id : Int)).cells = CELLS at *
        generalize (pubK x.m x.id true).cells = PL at *
        have HB9 := Lib.hid (setRow_low (w0 := wr) (w := w6) HB6.out hpb CELLS.toArray)
        have HX9 := Lib.hid (setRow_heap w6 pb _ CELLS.toArray _ _ HX6.out)
        go_upto_region 9 with (first
          | (refine wpList_buildBy rfl 37 _ rfl _ rfl CELLS.toArray [(0, .int .u8 6), (4, .int .u16 (x.id : Nat))] (by kernel_rfl) (HBU.out ()) ?_)
          | (refine wpList_store_rowTo rfl 37 _ _ rfl rfl pb CELLS.toArray rfl rfl 37 _ HX6.out LS9.out H24.out O19.out ?_)
          | fail)
        clear s2 s4 s5
        generalize w6.setRow pb CELLS.toArray = w9 at *
        have HOW9 := Lib.hid (ownsRow_local HOWN.out fun j hj => HB9.out.block j (HOWN.out.lt j hj).2)
        have hs9 := HB9.out.size
        have hkr := HBR.out.size
        go_wp2_with (first
          | (refine wpList_load_row rfl 37 _ rfl pb rfl 37 CELLS.toArray _ _ HX9.out Tryz.underlying37 rfl LS9.out ?_)
          | (refine wpList_build1 BS9.out rfl _ rfl rfl _ rfl w9.heap.size rfl ?_)
          | (at_builtin; refine wpList_appR T_pkt (HOW9.out.alloc (.cells CELLS.toArray 37)) (row_new w9 CELLS 37) (m := 1) rfl rfl rfl rfl _ rfl (by simpa using HS9.out) (by omega) (by simpa using HO9.out) (by omega) (by omega) (by simp; omega) ?_; intro g2 cap w10 hown10 hg10 hi10 hlt10; have HO10 := Lib.hid hown10; have HG10 := Lib.hid hg10; clear hown10 hg10 hi10 hlt10)
          | fail)
        go_roundw
        case rel => exact ⟨k + 1, by go_num, by omega, HBR.out.trans (grow10 HOWN.out HBR.out.size (HB9.out.alloc HB9.out.size _) HG10.out), by rw [HTK.out]; exact HO10.out⟩
        case measure => simp [intOf]; omega
      · have hdb : (x.due == 7) = false := by rw [beq_eq_false_iff_ne]; exact hd
        have HAE : Hid (againK x = pubK x.m x.id true) := Lib.hid (by rw [HAG.out, if_neg hd])
        rw [HAE.out] at HTK
        have BS9 := Lib.hid (build_pk (pubK x.m x.id true))
        have LS9 := Lib.hid (pk_size (pubK x.m x.id true))
        have HS9 : Hid ((pubK x.m x.id true).cells.toArray.size = 1 * 24) := Lib.hid rfl
        have HO9 : Hid (∀ u ∈ (pubK x.m x.id true).cells.toArray.toList, u.oneCell' = true) := Lib.hid (by simpa [pksV] using pks_one [pubK x.m x.id true])
        generalize (pubK x.m x.id true).cells = CELLS at *
        generalize w6 = w9 at *
        have HB9 := HB6
        have HX9 := HX6
        go_upto_region 9 with fail
        clear s2 s4 s5
        have HOW9 := Lib.hid (ownsRow_local HOWN.out fun j hj => HB9.out.block j (HOWN.out.lt j hj).2)
        have hs9 := HB9.out.size
        have hkr := HBR.out.size
        go_wp2_with (first
          | (refine wpList_load_row rfl 37 _ rfl pb rfl 37 CELLS.toArray _ _ HX9.out Tryz.underlying37 rfl LS9.out ?_)
          | (refine wpList_build1 BS9.out rfl _ rfl rfl _ rfl w9.heap.size rfl ?_)
          | (at_builtin; refine wpList_appR T_pkt (HOW9.out.alloc (.cells CELLS.toArray 37)) (row_new w9 CELLS 37) (m := 1) rfl rfl rfl rfl _ rfl (by simpa using HS9.out) (by omega) (by simpa using HO9.out) (by omega) (by omega) (by simp; omega) ?_; intro g2 cap w10 hown10 hg10 hi10 hlt10; have HO10 := Lib.hid hown10; have HG10 := Lib.hid hg10; clear hown10 hg10 hi10 hlt10)
          | fail)
        go_roundw
        case rel => exact ⟨k + 1, by go_num, by omega, HBR.out.trans (grow10 HOWN.out HBR.out.size (HB9.out.alloc HB9.out.size _) HG10.out), by rw [HTK.out]; exact HO10.out⟩
        case measure => simp [intOf]; omega
    · have hkl : ¬ (k : Int) < o.row.length := by omega
      have hkn : k = (resumeO o).length := by unfold resumeO; simp; omega
      rw [hkn, List.take_of_length_le (Nat.le_refl _)] at HOWN
      clear hbr hown
      go_wp2_with fail
      go_ret
      exact ⟨_, rfl, HOWN.out, HBR.out⟩
end
end Go.Proofs.YtmkhagmjpbfieaaGreatDoor
