/- maps.Copy at sets of texts, walked. -/
import Derived.Test.YtcnjgenacpkdbaaDoorRRem2
import Derived.Laws.IdiomRangeMap
namespace Go.Proofs.YtcnjgenacpkdbaaDoor
open Go Go.RowKit Go.Maps

theorem mod_grown {S : List Nat} {w w' : World} {r : Option Nat} (hg : w.grownBy w' r) (hr : ∀ k, r = some k → k ∈ S) : Mod S w w' := (Mod.refl S w).grown hg (fun k hk => .inl (hr k hk))
set_option maxRecDepth 100000 in
set_option maxHeartbeats 4000000 in
theorem mcopy_some (bd bs B : Nat) (Dd : DataW Unit) (g : Str → Bool) (w : World) (hd : w.ownsMap Tryd.prog 9 unitElem bd (Maps.size Dd) Dd) (hs : ClAt w B (some bs) g) (hne : bd ≠ bs) (hroom : Maps.size Dd + B ≤ 4294967296) :
    Calls Tryd.prog 18 #[.map (some bd), .map (some bs)] w fun e w' => e = .returned (.tuple #[]) ∧ ∃ D' : DataW Unit, w'.ownsMap Tryd.prog 9 unitElem bd (Maps.size D') D' ∧ Maps.size D' ≤ Maps.size Dd + B ∧
      (∀ c, Maps.has D' (.string c) = (Maps.has Dd (.string c) || g c)) ∧ Mod [bd] w w' := by
  obtain ⟨Ds, hs, hsB, hsg⟩ := hs
  have hbd := hd.lt
  have hbs := hs.lt
  have HSG := Lib.hid hsg
  clear hsg
  go_enter Tryd.func18, Tryd.ntmps18
  go_wp2_with (first
    | (at_range; refine wpList_range_own _ rfl _ 33 rfl 9 41 kS Tryd.underlying33 unitElem bs _ _ rfl hs ?_; intro w0 hrg0 hg0 hs0)
    | fail)
  go_frame
  go_loopw [8] (fun _ wr => ∃ (left : Lit → Bool) (cnt : Nat) (Dout : DataW Unit), wr.ranges Tryd.prog 9 unitElem bs w.heap.size (Maps.size Ds) Ds left cnt ∧ cnt ≤ Maps.size Ds ∧
      wr.ownsMap Tryd.prog 9 unitElem bd (Maps.size Dd + (Maps.size Ds - cnt)) Dout ∧ (∀ c, Maps.has Dout (.string c) = (Maps.has Dd (.string c) || (Maps.has Ds (.string c) && !left (.string c)))) ∧ Mod [bd] w wr)
    (fun _ wr => wr.rangeLeft bs w.heap.size)
  case atStart =>
    exact ⟨_, _, Dd, hrg0, Nat.le_refl _, (hd.kept hg0 (by simp)).mono (by omega), fun c => by simp, mod_grown hg0 (by simp)⟩
  case round =>
    obtain ⟨left, cnt, Dout, hrg, hcs, hout, hM, hgw⟩ := hrel
    go_wp2_with (first
      | (at_next; refine wpList_next_ranges _ rfl _ rfl 9 kS unitElem id (fun (_ : Unit) => Value.agg #[]) (fun key _ _ => ⟨key, rfl⟩) (fun v y hv => ⟨(), (unitElem_inv hv).1⟩) bs w.heap.size _ _ _ _ rfl hrg ?_ ?_)
      | fail)
    · intro hc0 hl0
      have hfin : ∀ c, Maps.has Dout (.string c) = (Maps.has Dd (.string c) || g c) := fun c => by rw [hM, hl0, HSG.out]; simp
      have HF := Lib.hid (show ∃ D' : DataW Unit, wr.ownsMap Tryd.prog 9 unitElem bd (Maps.size D') D' ∧ Maps.size D' ≤ Maps.size Dd + B ∧ (∀ c, Maps.has D' (.string c) = (Maps.has Dd (.string c) || g c)) ∧ Mod [bd] w wr from ⟨Dout, owns_tightR hout, by have := hout.size_le; omega, hfin, hgw⟩)
      clear hfin hM hgw hout hrg hl0
      go_wp2_with fail
      go_end0
      exact ⟨rfl, HF.out⟩
    · intro x kl yd yp w1 cnt1 hkey hlx hv hat hrg1 hlt hg1 hs1 hen
      obtain ⟨z, rfl, rfl, hzl⟩ := Maps.keyOf_str Tryd.underlying9 hkey
      obtain ⟨rfl, rfl⟩ : yd = .agg [] ∧ yp = [] := by have := (unitElem_inv hv).2; simpa using this
      have hbz : Below w1.heap.size w1 (w1.alloc (.cells #[] 41)) := (Below.refl _ _).alloc (Nat.le_refl _) _
      have hout1 := (hout.kept hg1 (fun e => by have := Option.some.inj e; omega)).alloc (.cells #[] 41)
      have hmx : Maps.size Dd + (Maps.size Ds - cnt) < maxLen := by unfold maxLen; omega
      have hhas : Maps.has Ds (.string z) = true := Maps.has_true_of_atKey hat
      have HM := Lib.hid hM
      have HW := Lib.hid hgw
      have hrg1' := hrg1.alloc (.cells #[] 41)
      have HG1 := Lib.hid hg1
      have HAT := Lib.hid hat
      have HLX := Lib.hid hlx
      clear hat hlx hM hgw hg1
      go_wp2_with (first
        | (at_mapUpdate; refine wpList_mapUpdate_own _ rfl _ _ _ 33 rfl 9 41 kS Tryd.underlying33 unitElem bd _ _ rfl hout1 hmx _ _ _ rfl rfl hkey _ [] unitElem_mk ?_; intro w2 hout2 hg2; go_frame)
        | fail)
      have hrg2 := hrg1'.kept hg2 (fun e => hne (Option.some.inj e).symm) (fun e => by have := Option.some.inj e; omega)
      have hT := hout1.tidy kS
      go_roundw
      case rel =>
        refine ⟨_, cnt1, _, hrg2, by omega, hout2.mono (by omega), fun c => ?_, ?_⟩
        · by_cases e : c = z
          · subst e
            rw [has_put_same hT.isMap (klS _), hhas]
            simp [Lit.sameKey]
          · have ez : (c == z) = false := by simpa using e
            rw [has_put_other (by simpa using e), HM.out]
            simp [Lit.sameKey, ez]
        · exact ((HW.out.grown HG1.out (fun k hk => .inr (by cases hk; exact Nat.le_refl _))).next hbz).grown hg2 (fun k hk => .inl (by cases hk; simp))
      case measure => rw [hrg2.left_eq, hrg.left_eq]; exact hlt
set_option maxHeartbeats 1000000 in
theorem mcopy_nil (bd : Nat) (w : World) : Calls Tryd.prog 18 #[.map (some bd), .map none] w fun e w' => e = .returned (.tuple #[]) ∧ Below w.heap.size w w' := by
  have hrg := run_range_nilMap (P := Tryd.prog) w 33 _ _ Tryd.underlying33
  have hnx : ∀ ty, (Instr.next (.pointer (some ⟨w.heap.size, 0, none⟩)) false ty).run Tryd.prog (w.alloc (.mapIter none 0 #[] 0)) = _ := fun ty => run_next_nilMap _ ty 0 0 #[]
  go_enter Tryd.func18, Tryd.ntmps18
  go_wp2_with fail
  refine wp_loop_rounds 1 ?_
  rw [rounds_succ]
  go_wp2_with fail
  go_end0
  exact ⟨rfl, (Below.refl _ _).alloc (Nat.le_refl _) _⟩
theorem mcopy_any (bd B : Nat) (Dd : DataW Unit) (ps : Option Nat) (g : Str → Bool) (w : World) (hd : w.ownsMap Tryd.prog 9 unitElem bd (Maps.size Dd) Dd) (hs : ClAt w B ps g) (hne : ps ≠ some bd) (hroom : Maps.size Dd + B ≤ 4294967296) :
    Calls Tryd.prog 18 #[.map (some bd), .map ps] w fun e w' => e = .returned (.tuple #[]) ∧ ∃ D' : DataW Unit, w'.ownsMap Tryd.prog 9 unitElem bd (Maps.size D') D' ∧ Maps.size D' ≤ Maps.size Dd + B ∧
      (∀ c, Maps.has D' (.string c) = (Maps.has Dd (.string c) || g c)) ∧ Mod [bd] w w' := by
  cases ps with
  | none =>
    refine (mcopy_nil bd w).mono ?_
    rintro e w' ⟨rfl, hb⟩
    exact ⟨rfl, Dd, owns_block hd (hb.block bd hd.lt), by omega, fun c => by rw [show g c = false from hs c]; simp, Mod.of_below hb _⟩
  | some bs => exact mcopy_some bd bs B Dd g w hd hs (fun e => hne (by rw [e])) hroom
end Go.Proofs.YtcnjgenacpkdbaaDoor
