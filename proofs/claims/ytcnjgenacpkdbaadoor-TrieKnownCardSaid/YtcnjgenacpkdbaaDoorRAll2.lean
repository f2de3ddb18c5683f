/- The trie: All, Of walked whole. -/
import Derived.Test.YtcnjgenacpkdbaaDoorRSort2
namespace Go.Proofs.YtcnjgenacpkdbaaDoor
open Go Go.RowKit Go.Maps Go.Lib Go.Sort

theorem all_env {w : World} {t B : Nat} {hn nn : Int} {nd : Path → Nd} {Ns : List Path} {Hs : List (Path × Str)} (hr : MemRep w t B hn nn nd Ns Hs) :
    AllE w.heap.size w.heap.size (w.heap.size + 1) t B hn nn nd Ns Hs ((w.alloc (.cells #[.slice none 0 0] 29)).alloc (.cells #[.func (.func 23) #[] #[.pointer (some ⟨w.heap.size, 0, none⟩), .pointer (some ⟨w.heap.size + 1, 0, none⟩)]] 52)) ∧ OutAt w.heap.size w.heap.size ((w.alloc (.cells #[.slice none 0 0] 29)).alloc (.cells #[.func (.func 23) #[] #[.pointer (some ⟨w.heap.size, 0, none⟩), .pointer (some ⟨w.heap.size + 1, 0, none⟩)]] 52)) [] ∧ Below w.heap.size w ((w.alloc (.cells #[.slice none 0 0] 29)).alloc (.cells #[.func (.func 23) #[] #[.pointer (some ⟨w.heap.size, 0, none⟩), .pointer (some ⟨w.heap.size + 1, 0, none⟩)]] 52)) := by
  have g1 := heap_alloc_new w (.cells #[.slice none 0 0] 29)
  have b1 : Below w.heap.size w (w.alloc (.cells #[.slice none 0 0] 29)) := (Below.refl _ _).alloc (Nat.le_refl _) _
  have z1 : (w.alloc (.cells #[.slice none 0 0] 29)).heap.size = w.heap.size + 1 := by simp
  generalize (w.alloc (.cells #[.slice none 0 0] 29)) = v1 at *
  have g4 := heap_alloc_new v1 (.cells #[.func (.func 23) #[] #[.pointer (some ⟨w.heap.size, 0, none⟩), .pointer (some ⟨w.heap.size + 1, 0, none⟩)]] 52)
  have b4 : Below v1.heap.size v1 (v1.alloc (.cells #[.func (.func 23) #[] #[.pointer (some ⟨w.heap.size, 0, none⟩), .pointer (some ⟨w.heap.size + 1, 0, none⟩)]] 52)) := (Below.refl _ _).alloc (Nat.le_refl _) _
  have z4 : (v1.alloc (.cells #[.func (.func 23) #[] #[.pointer (some ⟨w.heap.size, 0, none⟩), .pointer (some ⟨w.heap.size + 1, 0, none⟩)]] 52)).heap.size = v1.heap.size + 1 := by simp
  generalize (v1.alloc (.cells #[.func (.func 23) #[] #[.pointer (some ⟨w.heap.size, 0, none⟩), .pointer (some ⟨w.heap.size + 1, 0, none⟩)]] 52)) = v4 at *
  have b04 : Below w.heap.size w v4 := bnext b1 (by omega) b4
  have g1 := (b4.block _ (Array.getElem?_eq_some_iff.1 g1).1).trans g1
  rw [z1] at g4
  refine ⟨⟨hr.keep (fun p hp k hk => b04.block k (hr.lt p hp k hk)), fun p hp k hk => hr.lt p hp k hk, by omega, by omega, g4⟩, ⟨Nat.le_refl _, _, g1, World.ownsRow_nil _ _ _ _⟩, b04⟩

theorem lays_any (blk off size : Nat) (w : World) : CmpLays Tryd.prog 26 #[] hintCells 2 cmpH blk off size w :=
  fun _ _ _ _ x y => closure_any x y _
theorem sort_any (g cap : Nat) (l Gs : List Hint) (w : World) (hH : HoldsK hintCells 2 w g 0 l.toArray) (hg : g < w.heap.size) (hl : l.length < 1000000) (hG : HRising Gs) (hp : l.Perm Gs) :
    Calls Tryd.prog 25 #[.slice (some ⟨g, 0, none⟩) l.length cap, .func (.func 26) #[] #[]] w fun e w' => e = .returned (.tuple #[]) ∧ ∃ n os, w' = sortWorldK hintCells 2 w g 0 n Gs.toArray os := by
  have eg : ∀ args w, (callFunc 26 args).run Tryd.prog w = .ok (.enter 26 args) w := enters_of Tryd.func26 (by kernel_rfl) rfl
  have hz : l.toArray.size = l.length := by simp
  have hsc := AnyQ.slices_SortFunc_total Tryd.sortF25 2 Tryd.isAgg49 Tryd.sizeOf49 hintCells (fun _ => rfl) hint_one cmpH swo_hint 26 #[] g 0 cap l.toArray w
    eg (lays_any g 0 _ w) hH hg (by rw [hz]; omega) tot_hint
  rw [hz] at hsc
  change Calls Tryd.prog 25 _ _ _ at hsc
  have hm : (l.toArray.toList.mergeSort fun x y => !(ltOf cmpH) y x) = Gs := sort_hints hG hp
  rw [hm] at hsc
  exact hsc

set_option maxRecDepth 100000 in
set_option maxHeartbeats 4000000 in
theorem tall_any (t B : Nat) (Ns : List Path) (Hs : List (Path × Str)) (F : List Nat) (w : World) (h : PRep w t B Ns Hs F) (hH : Hs.length < 1000000) (hN : ∀ q ∈ Ns, q.length < 1000000) (hJ : ∀ h ∈ Hs, h.1 ≠ [] ∧ (joinP h.1).length ≤ 1000000) (Gs : List Hint) (hG : HRising Gs) (hp : (Hs.map asHint).Perm Gs) :
    Calls Tryd.prog 12 #[.pointer (some ⟨t, 0, none⟩)] w fun e w' => ∃ v, e = .returned v ∧ w'.ownsRow w.heap.size 49 2 v Gs.length (hintsV Gs) ∧ Below w.heap.size w w' := by
  obtain ⟨nd, hti, hr, -⟩ := h
  have HENV := Lib.hid (all_env hr)
  have HROOT := Lib.hid hr.root
  have HTI := Lib.hid hti
  have HGG := Lib.hid hG
  have HPP := Lib.hid hp
  have HNN := Lib.hid hN
  have HJJ := Lib.hid hJ
  clear hr hti hG hp hN hJ
  go_enter Tryd.func12, Tryd.ntmps12
  go_wp2_with fail
  generalize ((w.alloc (.cells #[.slice none 0 0] 29)).alloc (.cells #[.func (.func 23) #[] #[.pointer (some ⟨w.heap.size, 0, none⟩), .pointer (some ⟨w.heap.size + 1, 0, none⟩)]] 52)) = w5 at *
  obtain ⟨hE, hO, hb5⟩ := HENV.out
  have hti := HTI.out
  have hE' := hE.kept (KH.of_below (bo := w.heap.size) (W1 := w5.drew) hE.size (below_drew1 w5))
  have hO' := hO.below (below_drew1 w5)
  have HC := Lib.hid (all_from _ _ _ t B _ _ nd Ns Hs hti hH HNN.out HJJ.out 1000000 [] [] w5.drew (.slice none 0 0) (fun q hq => by have := HNN.out q hq; simp; omega) hti.root hE' hO' ⟨List.nodup_nil, by simp⟩ (.inl ⟨rfl, rfl⟩))
  rw [HROOT.out] at HC
  have HB5 := Lib.hid (below_drewN hb5 1)
  have HE' := Lib.hid hE'
  have cf := cell_of_row _ _ 0 _ _ _ hE'.self
  have HHN := Lib.hid hti.hn
  clear hE hO hE' hO' hti hb5 HENV
  refine wp_region_held_drew (S := fun W => W.cell? ⟨w.heap.size + 1, 0, none⟩ = some (.func (.func 23) #[] #[.pointer (some ⟨w.heap.size, 0, none⟩), .pointer (some ⟨w.heap.size + 1, 0, none⟩)])) (by kernel_rfl) cf (fun hHeld => ?_)
  refine wpAnyH_take (i := 0) (v := ?_) rfl (by kernel_rfl) (by kernel_rfl) (by kernel_rfl) (fun _ _ _ h => h) (Or.inl ⟨rfl, ?_⟩) hHeld ?_
  rotate_left
  · intro w0 hS0
    try dsimp only at hS0
    go_simp
    try with_reducible rfl
  simp only [List.getElem_toArray, List.getElem_cons_zero, Act.put, List.setIfInBounds_toArray, List.set_cons_zero, List.set_cons_succ]
  refine wpAnyH_take (i := 1) (v := ?_) rfl (by kernel_rfl) (by kernel_rfl) (by kernel_rfl) (fun _ _ _ h => h) (Or.inl ⟨rfl, ?_⟩) hHeld ?_
  rotate_left
  · intro w0 hS0
    try dsimp only at hS0
    go_simp
    try with_reducible rfl
  simp only [List.getElem_toArray, List.getElem_cons_zero, List.getElem_cons_succ, Act.put, List.setIfInBounds_toArray, List.set_cons_zero, List.set_cons_succ]
  refine wpAnyH_take (i := 2) (v := ?_) rfl (by kernel_rfl) (by kernel_rfl) (by kernel_rfl) (fun _ _ _ h => h) (Or.inl ⟨rfl, ?_⟩) hHeld ?_
  rotate_left
  · intro w0 hS0
    try dsimp only at hS0
    go_simp
    try with_reducible rfl
  simp only [List.getElem_toArray, List.getElem_cons_zero, List.getElem_cons_succ, Act.put, List.setIfInBounds_toArray, List.set_cons_zero, List.set_cons_succ]
  refine wpAnyH_take (i := 3) (v := ?_) rfl (by kernel_rfl) (by kernel_rfl) (by kernel_rfl) (fun _ _ _ h => h) (Or.inl ⟨rfl, ?_⟩) hHeld ?_
  rotate_left
  · intro w0 hS0
    try dsimp only at hS0
    go_simp
    try with_reducible rfl
  simp only [List.getElem_toArray, List.getElem_cons_zero, List.getElem_cons_succ, Act.put, List.setIfInBounds_toArray, List.set_cons_zero, List.set_cons_succ]
  refine wpAnyH_ready (rs := [4]) (by kernel_rfl) (by simp) ?_
  refine AllReadyH.cons rfl (fun K hK => ?_) AllReadyH.nil
  rw [if_pos (by rfl)]
  go_simp
  go_at_call 23
  refine HC.out.mono ?_
  rintro e w6 ⟨rfl, new, hO6, hS6, hK6⟩
  refine hK.out _ _ (cell_of_row _ _ 0 _ _ _ (HE'.out.kept hK6).self) (fun hHeld => ?_)
  refine wpAnyH_done (by kernel_rfl) ?_ _
  rw [List.nil_append] at hO6
  have hperm : (new.map asHint).Perm Gs := (List.Perm.map asHint ((List.perm_ext_iff_of_nodup hS6.1 HHN.out).2 (fun x => by obtain ⟨q, c⟩ := x; rw [hS6.2]; simp))).trans HPP.out
  have hb6 : Below w.heap.size w w6 := HB5.out.trans hK6.below
  obtain ⟨-, v, hv, hrow⟩ := hO6
  have hlen : new.length = Gs.length := by simpa using hperm.length_eq
  have hgl : Gs.length < 1000000 := by rw [← HPP.out.length_eq]; simpa using hH
  have cv := cell_of_row _ _ 0 _ _ _ hv
  have HHV := Lib.hid hv
  have HB6 := Lib.hid hb6
  have HPM := Lib.hid hperm
  have HROW := Lib.hid hrow
  clear hS6 hK6 hHeld HC HE' HB5 cf hb6 hperm hv
  rcases id hrow with ⟨hxl, ⟨rfl, hn0⟩ | ⟨g, cap, cur, rfl, hbase, hgb, hnc, hcm, hcs, htk⟩⟩
  · have hg0 : Gs = [] := List.eq_nil_of_length_eq_zero (by omega)
    subst hg0
    have hsc := AnyF.slices_SortFunc_none Tryd.sortF25 none 0 (.func (.func 26) #[] #[]) w6
    change Calls Tryd.prog 25 _ _ _ at hsc
    have HSC := Lib.hid hsc
    clear hsc hrow hxl HROW HPM
    go_wp2_with fail
    refine HSC.out.mono ?_
    rintro e w7 ⟨rfl, rfl⟩
    go_wp2_with fail
    go_ret
    exact ⟨_, rfl, World.ownsRow_nil _ _ _ _, HB6.out⟩
  · have hH6 := holds_hints (l := new.map asHint) hgb (by simpa using htk)
    have hsc := sort_any g cap (new.map asHint) Gs w6 hH6 (Array.getElem?_eq_some_iff.1 hgb).1 (by simp; omega) HGG.out HPM.out
    rw [show (new.map asHint).length = new.length by simp] at hsc
    have HSC := Lib.hid hsc
    have HGB := Lib.hid hgb
    have HNN2 := Lib.hid (show w.heap.size ≤ g ∧ new.length ≤ cap ∧ cap ≤ maxLen ∧ cur.size = cap * 2 from ⟨hbase, hnc, hcm, hcs⟩)
    have HLE := Lib.hid hlen
    have HKK := Lib.hid hK
    clear hsc hH6 hgb htk hxl hrow hbase hnc hcm hcs hlen hgl hH hK
    go_wp2_with fail
    refine HSC.out.mono ?_
    rintro e w7 ⟨rfl, n, os, rfl⟩
    obtain ⟨hbase, hnc, hcm, hcs⟩ := HNN2.out
    have hlen := HLE.out
    obtain ⟨ho, hg⟩ := own_sorted (n := n) (os := os) (l := new.map asHint) (m := Gs) (by simp [hlen]) hbase HGB.out (by simpa using hnc) hcm hcs
    rw [show (new.map asHint).length = Gs.length by simp [hlen]] at ho
    have hv7 := (hg.block _ (Array.getElem?_eq_some_iff.1 HHV.out).1 (fun e => out_ne HHV.out HROW.out (by rw [e]; rfl))).trans HHV.out
    have hb7 := HB6.out.grown hg (HB6.out.size) (fun k hk => by cases hk; exact hbase)
    have HO := Lib.hid ho
    have HB7 := Lib.hid hb7
    have cv7 := cell_of_row _ _ 0 _ _ _ hv7
    clear hg hv7 hb7 ho cv hbase hnc hcm hcs HNN2 hlen
    generalize sortWorldK hintCells 2 w6 g 0 n Gs.toArray os = w7 at *
    go_wp2_with fail
    go_ret
    exact ⟨_, rfl, by rw [HLE.out]; exact HO.out, HB7.out⟩
end Go.Proofs.YtcnjgenacpkdbaaDoor
