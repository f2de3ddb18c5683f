/- The trie: the order of hints: cmp.Compare, cmp.Or, All's comparison walked. The trie: rows of hints in order; the library's sort over a slice of the call's own. The trie: All, Of walked whole. The trie: Of walked. -/
import Derived.Test.YthfdcphecggjeaaGreatDoorQN
import Derived.Sort.Walk0
import Derived.Shelf.SlSortCmp.NoneTotal
import Derived.Sort.OwnSorted
namespace Go.Proofs.YthfdcphecggjeaaGreatDoor
section
open Go Go.RowKit Go.Maps Go.Lib Go.Sort

def cmpS (x y : Str) : Int := if x < y then -1 else if y < x then 1 else 0
def cmpH (x y : Hint) : Int := if cmpS x.1 y.1 = 0 then cmpS x.2 y.2 else cmpS x.1 y.1
theorem nan_any (x : ByteArray) (w : World) : Calls Tryz.prog 108 #[.string x] w fun e w' => e = .returned (.bool false) ∧ w = w' := by
  go_enter Tryz.func108, Tryz.ntmps108
  go_wp2
  go_ret
  exact ⟨by simp, rfl⟩
set_option maxHeartbeats 1000000 in
theorem compare_any (x y : Str) (w : World) : Calls Tryz.prog 80 #[.string ⟨x.toArray⟩, .string ⟨y.toArray⟩] w fun e w' => e = .returned (.int .i64 (cmpS x y)) ∧ w = w' := by
  by_cases ha : x < y
  · have h1 : Op.bytesLess x y = true := by rw [bytesLess_eq]; exact decide_eq_true ha
    have HC : Hid (cmpS x y = -1) := Lib.hid (if_pos ha)
    clear ha
    go_enter Tryz.func80, Tryz.ntmps80
    go_wp2_with (go_at_call 108; refine (nan_any _ _).mono ?_; rintro e w' ⟨rfl, rfl⟩)
    go_ret
    exact ⟨by rw [HC.out]; rfl, rfl⟩
  · have h1 : Op.bytesLess x y = false := by rw [bytesLess_eq]; exact decide_eq_false ha
    by_cases hc : x = y
    · have h2 : (x == y) = true := by simpa using hc
      have HC : Hid (cmpS x y = 0) := Lib.hid (by subst hc; simp [cmpS, List.lt_irrefl])
      clear ha hc
      go_enter Tryz.func80, Tryz.ntmps80
      go_wp2_with (go_at_call 108; refine (nan_any _ _).mono ?_; rintro e w' ⟨rfl, rfl⟩)
      go_ret
      exact ⟨by rw [HC.out]; rfl, rfl⟩
    · have h2 : (x == y) = false := by simpa using hc
      have HC : Hid (cmpS x y = 1) := Lib.hid (by rw [cmpS, if_neg ha, if_pos (slt_tri ha hc)])
      clear ha hc
      go_enter Tryz.func80, Tryz.ntmps80
      go_wp2_with (go_at_call 108; refine (nan_any _ _).mono ?_; rintro e w' ⟨rfl, rfl⟩)
      go_ret
      exact ⟨by rw [HC.out]; rfl, rfl⟩
set_option maxHeartbeats 1000000 in
theorem or_any (a b : Int) (k : Nat) (w : World) (h0 : w.cell? ⟨k, 0, none⟩ = some (.int .i64 a)) (h1 : w.cell? ⟨k, 1, none⟩ = some (.int .i64 b)) :
    Calls Tryz.prog 79 #[.slice (some ⟨k, 0, none⟩) 2 2] w fun e w' => e = .returned (.int .i64 (if a = 0 then b else a)) ∧ w = w' := by
  by_cases ha : a = 0
  · subst ha
    by_cases hb : b = 0
    · subst hb
      go_enter Tryz.func79, Tryz.ntmps79
      go_wp2_with fail
      refine wp_loop_rounds 3 ?_
      rw [rounds_succ]
      go_wp2_with fail
      rw [rounds_succ]
      go_wp2_with fail
      rw [rounds_succ]
      go_wp2_with fail
      go_ret
      exact ⟨rfl, rfl⟩
    · have hb' : (b == 0) = false := by simpa using hb
      go_enter Tryz.func79, Tryz.ntmps79
      go_wp2_with fail
      refine wp_loop_rounds 3 ?_
      rw [rounds_succ]
      go_wp2_with fail
      rw [rounds_succ]
      go_wp2_with fail
      go_ret
      exact ⟨rfl, rfl⟩
  · have ha' : (a == 0) = false := by simpa using ha
    rw [if_neg ha]
    go_enter Tryz.func79, Tryz.ntmps79
    go_wp2_with fail
    refine wp_loop_rounds 3 ?_
    rw [rounds_succ]
    go_wp2_with fail
    go_ret
    exact ⟨rfl, rfl⟩
set_option maxHeartbeats 4000000 in
theorem closure_any (x y : Hint) (W : World) : Calls Tryz.prog 78 #[.agg (hintCells x).toArray, .agg (hintCells y).toArray] W fun e w' => e = .returned (.int .i64 (cmpH x y)) ∧ ∃ q os', w' = grow (W.drewN q) os' := by
  obtain ⟨a, b⟩ := x
  obtain ⟨c, d⟩ := y
  have HX : Hid (cmpH (a, b) (c, d) = if cmpS a c = 0 then cmpS b d else cmpS a c) := Lib.hid rfl
  have g1 := heap_alloc_new W (.cells #[.string ⟨a.toArray⟩, .string ⟨b.toArray⟩] 47)
  have g2 := heap_alloc_new (W.alloc (.cells #[.string ⟨a.toArray⟩, .string ⟨b.toArray⟩] 47)) (.cells #[.string ⟨c.toArray⟩, .string ⟨d.toArray⟩] 47)
  rw [World.size_alloc] at g2
  have g1 := (Below.heap_alloc (W.alloc (.cells #[.string ⟨a.toArray⟩, .string ⟨b.toArray⟩] 47)) (.cells #[.string ⟨c.toArray⟩, .string ⟨d.toArray⟩] 47) W.heap.size (by simp)).trans g1
  have HG : Hid (((W.alloc (.cells #[.string ⟨a.toArray⟩, .string ⟨b.toArray⟩] 47)).alloc (.cells #[.string ⟨c.toArray⟩, .string ⟨d.toArray⟩] 47)).drew.alloc (.cells #[.int .i64 (cmpS a c), .int .i64 (cmpS b d)] 3) = grow (W.drewN 1) #[.cells #[.string ⟨a.toArray⟩, .string ⟨b.toArray⟩] 47, .cells #[.string ⟨c.toArray⟩, .string ⟨d.toArray⟩] 47, .cells #[.int .i64 (cmpS a c), .int .i64 (cmpS b d)] 3]) := Lib.hid (by
    rw [alloc_eq_grow, alloc_eq_grow, alloc_eq_grow, grow_grow]
    show grow (grow (W.drewN 1) _) _ = _
    rw [grow_grow]; rfl)
  have c0 := cell_of_row _ _ 0 _ _ _ g1
  have c1 := cell_of_row _ _ 1 _ _ _ g1
  have d0 := cell_of_row _ _ 0 _ _ _ g2
  have d1 := cell_of_row _ _ 1 _ _ _ g2
  have HS : Hid (∀ o, (((W.alloc (.cells #[.string ⟨a.toArray⟩, .string ⟨b.toArray⟩] 47)).alloc (.cells #[.string ⟨c.toArray⟩, .string ⟨d.toArray⟩] 47)).drew.alloc o).cell? ⟨W.heap.size, 0, none⟩ = some (.string ⟨a.toArray⟩) ∧ (((W.alloc (.cells #[.string ⟨a.toArray⟩, .string ⟨b.toArray⟩] 47)).alloc (.cells #[.string ⟨c.toArray⟩, .string ⟨d.toArray⟩] 47)).drew.alloc o).cell? ⟨W.heap.size, 1, none⟩ = some (.string ⟨b.toArray⟩) ∧ (((W.alloc (.cells #[.string ⟨a.toArray⟩, .string ⟨b.toArray⟩] 47)).alloc (.cells #[.string ⟨c.toArray⟩, .string ⟨d.toArray⟩] 47)).drew.alloc o).cell? ⟨W.heap.size + 1, 0, none⟩ = some (.string ⟨c.toArray⟩) ∧ (((W.alloc (.cells #[.string ⟨a.toArray⟩, .string ⟨b.toArray⟩] 47)).alloc (.cells #[.string ⟨c.toArray⟩, .string ⟨d.toArray⟩] 47)).drew.alloc o).cell? ⟨W.heap.size + 1, 1, none⟩ = some (.string ⟨d.toArray⟩)) := Lib.hid (fun o => by
    have e1 := (Below.heap_alloc (((W.alloc (.cells #[.string ⟨a.toArray⟩, .string ⟨b.toArray⟩] 47)).alloc (.cells #[.string ⟨c.toArray⟩, .string ⟨d.toArray⟩] 47)).drew) o _ (Array.getElem?_eq_some_iff.1 g1).1).trans g1
    have e2 := (Below.heap_alloc (((W.alloc (.cells #[.string ⟨a.toArray⟩, .string ⟨b.toArray⟩] 47)).alloc (.cells #[.string ⟨c.toArray⟩, .string ⟨d.toArray⟩] 47)).drew) o _ (Array.getElem?_eq_some_iff.1 g2).1).trans g2
    exact ⟨cell_of_row _ _ 0 _ _ _ e1, cell_of_row _ _ 1 _ _ _ e1, cell_of_row _ _ 0 _ _ _ e2, cell_of_row _ _ 1 _ _ _ e2⟩)
  unfold hintCells
  rw [HX.out]
  obtain ⟨r, hr⟩ : ∃ r, (if cmpS a c = 0 then cmpS b d else cmpS a c) = r := ⟨_, rfl⟩
  rw [hr]
  have HR := Lib.hid hr
  clear g1 g2 hr
  go_enter Tryz.func78, Tryz.ntmps78
  go_wp2_with fail
  refine wp_region_held_drew (S := fun X => X.cell? ⟨W.heap.size, 0, none⟩ = some (.string ⟨a.toArray⟩) ∧ X.cell? ⟨W.heap.size, 1, none⟩ = some (.string ⟨b.toArray⟩) ∧ X.cell? ⟨W.heap.size + 1, 0, none⟩ = some (.string ⟨c.toArray⟩) ∧ X.cell? ⟨W.heap.size + 1, 1, none⟩ = some (.string ⟨d.toArray⟩)) (by kernel_rfl) ⟨c0, c1, d0, d1⟩ (fun hHeld => ?_)
  refine wpAnyH_take (i := 0) (v := ?_) rfl (by kernel_rfl) (by kernel_rfl) (by kernel_rfl) (fun _ _ _ h => h) (Or.inl ⟨rfl, ?_⟩) hHeld ?_
  rotate_left
  · intro w0 hS0
    try dsimp only at hS0
    go_simp
    try with_reducible rfl
  simp only [List.getElem_toArray, List.getElem_cons_zero, Act.put, List.setIfInBounds_toArray, List.set_cons_zero, List.set_cons_succ]
  refine wpAnyH_take (i := 2) (v := ?_) rfl (by kernel_rfl) (by kernel_rfl) (by kernel_rfl) (fun _ _ _ h => h) (Or.inl ⟨rfl, ?_⟩) hHeld ?_
  rotate_left
  · intro w0 hS0
    try dsimp only at hS0
    go_simp
    try with_reducible rfl
  simp only [List.getElem_toArray, List.getElem_cons_zero, List.getElem_cons_succ, Act.put, List.setIfInBounds_toArray, List.set_cons_zero, List.set_cons_succ]
  refine wpAnyH_take (i := 5) (v := ?_) rfl (by kernel_rfl) (by kernel_rfl) (by kernel_rfl) (fun _ _ _ h => h) (Or.inl ⟨rfl, ?_⟩) hHeld ?_
  rotate_left
  · intro w0 hS0
    try dsimp only at hS0
    go_simp
    try with_reducible rfl
  simp only [List.getElem_toArray, List.getElem_cons_zero, List.getElem_cons_succ, Act.put, List.setIfInBounds_toArray, List.set_cons_zero, List.set_cons_succ]
  refine wpAnyH_take (i := 7) (v := ?_) rfl (by kernel_rfl) (by kernel_rfl) (by kernel_rfl) (fun _ _ _ h => h) (Or.inl ⟨rfl, ?_⟩) hHeld ?_
  rotate_left
  · intro w0 hS0
    try dsimp only at hS0
    go_simp
    try with_reducible rfl
  simp only [List.getElem_toArray, List.getElem_cons_zero, List.getElem_cons_succ, Act.put, List.setIfInBounds_toArray, List.set_cons_zero, List.set_cons_succ]
  refine wpAnyH_take (i := 1) (v := ?_) rfl (by kernel_rfl) (by kernel_rfl) (by kernel_rfl) (fun _ _ _ h => h) (Or.inl ⟨rfl, ?_⟩) hHeld ?_
  rotate_left
  · intro w0 hS0
    try dsimp only at hS0
    go_simp
    try with_reducible rfl
  simp only [List.getElem_toArray, List.getElem_cons_zero, List.getElem_cons_succ, Act.put, List.setIfInBounds_toArray, List.set_cons_zero, List.set_cons_succ]
  refine wpAnyH_take (i := 3) (v := ?_) rfl (by kernel_rfl) (by kernel_rfl) (by kernel_rfl) (fun _ _ _ h => h) (Or.inl ⟨rfl, ?_⟩) hHeld ?_
  rotate_left
  · intro w0 hS0
    try dsimp only at hS0
    go_simp
    try with_reducible rfl
  simp only [List.getElem_toArray, List.getElem_cons_zero, List.getElem_cons_succ, Act.put, List.setIfInBounds_toArray, List.set_cons_zero, List.set_cons_succ]
  refine wpAnyH_take (i := 6) (v := ?_) rfl (by kernel_rfl) (by kernel_rfl) (by kernel_rfl) (fun _ _ _ h => h) (Or.inl ⟨rfl, ?_⟩) hHeld ?_
  rotate_left
  · intro w0 hS0
    try dsimp only at hS0
    go_simp
    try with_reducible rfl
  simp only [List.getElem_toArray, List.getElem_cons_zero, List.getElem_cons_succ, Act.put, List.setIfInBounds_toArray, List.set_cons_zero, List.set_cons_succ]
  refine wpAnyH_take (i := 8) (v := ?_) rfl (by kernel_rfl) (by kernel_rfl) (by kernel_rfl) (fun _ _ _ h => h) (Or.inl ⟨rfl, ?_⟩) hHeld ?_
  rotate_left
  · intro w0 hS0
    try dsimp only at hS0
    go_simp
    try with_reducible rfl
  simp only [List.getElem_toArray, List.getElem_cons_zero, List.getElem_cons_succ, Act.put, List.setIfInBounds_toArray, List.set_cons_zero, List.set_cons_succ]
  clear c0 c1 d0 d1
  generalize ((W.alloc (.cells #[.string ⟨a.toArray⟩, .string ⟨b.toArray⟩] 47)).alloc (.cells #[.string ⟨c.toArray⟩, .string ⟨d.toArray⟩] 47)).drew = Z at *
  refine wpAnyH_ready (rs := [4]) (by kernel_rfl) (by simp) ?_
  refine AllReadyH.cons rfl (fun K hK => ?_) AllReadyH.nil
  rw [if_pos (by rfl)]
  go_simp
  go_at_call 80
  refine (compare_any _ _ _).mono ?_
  rintro e w1 ⟨rfl, rfl⟩
  refine hK.out _ _ hHeld (fun hHeld => ?_)
  refine wpAnyH_ready (rs := [9]) (by kernel_rfl) (by simp) ?_
  refine AllReadyH.cons rfl (fun K hK => ?_) AllReadyH.nil
  rw [if_pos (by rfl)]
  go_simp
  go_at_call 80
  refine (compare_any _ _ _).mono ?_
  rintro e w1 ⟨rfl, rfl⟩
  refine hK.out _ _ hHeld (fun hHeld => ?_)
  refine wpAnyH_ready (rs := [10]) (by kernel_rfl) (by simp) ?_
  refine AllReadyH.cons rfl (fun K hK => ?_) AllReadyH.nil
  rw [if_pos (by rfl)]
  go_simp
  have hn := heap_alloc_new Z (.cells #[.int .i64 (cmpS a c), .int .i64 (cmpS b d)] 3)
  have n0 := cell_of_row _ _ 0 _ _ _ hn
  have n1 := cell_of_row _ _ 1 _ _ _ hn
  simp only [List.getElem?_toArray, List.getElem?_cons_zero, List.getElem?_cons_succ] at n0 n1
  refine hK.out _ _ (HS.out _) (fun hHeld => ?_)
  refine wpAnyH_ready (rs := [11]) (by kernel_rfl) (by simp) ?_
  refine AllReadyH.cons rfl (fun K hK => ?_) AllReadyH.nil
  rw [if_pos (by rfl)]
  go_simp
  go_at_call 79
  have hor := or_any _ _ _ _ n0 n1
  rw [HR.out] at hor
  refine hor.mono ?_
  rintro e w1 ⟨rfl, rfl⟩
  refine hK.out _ _ (HS.out _) (fun hHeld => ?_)
  refine wpAnyH_take (i := 12) (v := ?_) rfl (by kernel_rfl) (by kernel_rfl) (by kernel_rfl) (fun _ _ _ h => h) (Or.inl ⟨rfl, ?_⟩) hHeld ?_
  rotate_left
  · intro w0 hS0
    try dsimp only at hS0
    go_simp
    try with_reducible rfl
  simp only [List.getElem_toArray, List.getElem_cons_zero, List.getElem_cons_succ, Act.put, List.setIfInBounds_toArray, List.set_cons_zero, List.set_cons_succ]
  refine wpAnyH_done (by kernel_rfl) ?_ _
  clear hHeld n0 n1 hn
  go_wp2_with fail
  go_ret
  exact ⟨rfl, 1, _, HG.out⟩
end
section
open Go Go.RowKit Go.Maps Go.Lib Go.Sort

def Ahead (x y : Hint) : Prop := x.1 < y.1 ∨ x.1 = y.1 ∧ x.2 < y.2
instance (x y : Hint) : Decidable (Ahead x y) := inferInstanceAs (Decidable (_ ∨ _))
theorem cmpS_neg {x y : Str} : cmpS x y < 0 ↔ x < y := by
  unfold cmpS
  by_cases h : x < y
  · simp [h]
  · by_cases h' : y < x <;> simp [h, h']
theorem cmpS_zero {x y : Str} : cmpS x y = 0 ↔ x = y := by
  unfold cmpS
  by_cases h : x < y
  · simp only [h, if_true]
    exact ⟨fun e => by omega, fun e => by subst e; exact absurd h (List.lt_irrefl _)⟩
  · by_cases h' : y < x
    · simp only [h, h', if_true, if_false]
      exact ⟨fun e => by omega, fun e => by subst e; exact absurd h' (List.lt_irrefl _)⟩
    · simp only [h, h', if_false, true_iff]
      exact Decidable.byContradiction fun e => h' (slt_tri h e)
theorem cmpH_neg (x y : Hint) : cmpH x y < 0 ↔ Ahead x y := by
  unfold cmpH Ahead
  by_cases h : cmpS x.1 y.1 = 0
  · rw [if_pos h, cmpS_neg]
    have he := cmpS_zero.1 h
    constructor
    · exact fun h2 => .inr ⟨he, h2⟩
    · rintro (h2 | h2)
      · rw [he] at h2; exact absurd h2 (List.lt_irrefl _)
      · exact h2.2
  · rw [if_neg h, cmpS_neg]
    constructor
    · exact .inl
    · rintro (h2 | h2)
      · exact h2
      · exact absurd (cmpS_zero.2 h2.1) h
theorem ltOf_cmpH (x y : Hint) : ltOf cmpH x y = decide (Ahead x y) := decide_eq_decide.2 (cmpH_neg x y)
theorem ahead_irrefl (x : Hint) : ¬ Ahead x x := by
  rintro (h | h)
  · exact List.lt_irrefl _ h
  · exact List.lt_irrefl _ h.2
theorem ahead_trans {x y z : Hint} (h : Ahead x y) (k : Ahead y z) : Ahead x z := by
  rcases h with h | ⟨h1, h2⟩
  · rcases k with k | ⟨k1, k2⟩
    · exact .inl (List.lt_trans h k)
    · exact .inl (k1 ▸ h)
  · rcases k with k | ⟨k1, k2⟩
    · exact .inl (h1 ▸ k)
    · exact .inr ⟨h1.trans k1, List.lt_trans h2 k2⟩
theorem ahead_tri {x y : Hint} (h : ¬ Ahead x y) (hne : x ≠ y) : Ahead y x := by
  by_cases h1 : x.1 = y.1
  · have h2 : ¬ x.2 < y.2 := fun e => h (.inr ⟨h1, e⟩)
    have h3 : x.2 ≠ y.2 := fun e => hne (Prod.ext h1 e)
    exact .inr ⟨h1.symm, slt_tri h2 h3⟩
  · exact .inl (slt_tri (fun e => h (.inl e)) h1)
theorem swo_hint : SWO (ltOf cmpH) where
  irrefl x := by rw [ltOf_cmpH]; exact decide_eq_false (ahead_irrefl x)
  trans x y z h k := by
    rw [ltOf_cmpH, decide_eq_true_eq] at *
    exact ahead_trans h k
  ntrans x y z h k := by
    rw [ltOf_cmpH, decide_eq_false_iff_not] at *
    intro hz
    by_cases e : x = y
    · subst e; exact k hz
    · exact k (ahead_trans (ahead_tri h e) hz)
theorem tot_hint (x y : Hint) (h : ltOf cmpH x y = false) (k : ltOf cmpH y x = false) : x = y := by
  rw [ltOf_cmpH, decide_eq_false_iff_not] at *
  exact Decidable.byContradiction fun e => k (ahead_tri h e)
/-- hints in order, each once -/
def HRising (l : List Hint) : Prop := l.Pairwise Ahead
theorem hrising_nodup {l : List Hint} (h : HRising l) : l.Nodup := List.Pairwise.imp (fun h e => by subst e; exact ahead_irrefl _ h) h
theorem sort_hints {l m : List Hint} (hm : HRising m) (h : l.Perm m) : (l.mergeSort fun x y => !(ltOf cmpH) y x) = m := by
  have hle : ∀ a b, (!(ltOf cmpH) b a) = true ↔ ¬ Ahead b a := fun a b => by rw [ltOf_cmpH]; simp
  have hp : ((l.mergeSort fun x y => !(ltOf cmpH) y x)).Pairwise (fun a b => (!(ltOf cmpH) b a) = true) :=
    List.pairwise_mergeSort (le := fun x y => !(ltOf cmpH) y x) (fun a b c h1 h2 => by
      rw [hle] at *
      intro h3
      by_cases e : b = a
      · subst e; exact h2 h3
      · exact h2 (ahead_trans h3 (ahead_tri h1 e)))
      (fun a b => by
        by_cases h1 : Ahead b a
        · have : (!(ltOf cmpH) a b) = true := (hle b a).2 (fun h2 => ahead_irrefl _ (ahead_trans h1 h2))
          rw [this]; simp
        · rw [(hle a b).2 h1]; rfl) l
  refine List.Perm.eq_of_pairwise (le := fun a b => (!(ltOf cmpH) b a) = true) (fun a b _ _ h1 h2 => by
    rw [hle] at *
    exact Decidable.byContradiction fun e => h2 (ahead_tri h1 (fun e' => e e'.symm))) hp
    (List.Pairwise.imp (fun h1 => (hle _ _).2 (fun h2 => ahead_irrefl _ (ahead_trans h1 h2))) hm) ((List.mergeSort_perm l _).trans h)

theorem flat_hints (l : List Hint) : (flatK hintCells 2 l.toArray).toList = hintsV l := by
  apply List.ext_getElem?
  intro t
  have hs : (flatK hintCells 2 l.toArray).size = l.length * 2 := by simp
  by_cases ht : t < l.length * 2
  · have h1 : (flatK hintCells 2 l.toArray)[t]! = _ := get_flatK hintCells 2 l.toArray t (by simpa using ht)
    have hq : t / 2 < l.length := by omega
    obtain ⟨a1, a2⟩ := hintsV_at hq
    rw [Array.getElem?_toList, Array.getElem?_eq_getElem (by omega), ← getElem!_pos _ t (by omega), h1]
    have hd : l.toArray[t / 2]! = l[t / 2] := by simp [hq]
    rw [hd]
    rcases Nat.mod_two_eq_zero_or_one t with hm | hm
    · rw [hm]
      exact ((congrArg (fun k => (hintsV l)[k]?) (show t = t / 2 * 2 by omega)).trans a1).symm
    · rw [hm]
      exact ((congrArg (fun k => (hintsV l)[k]?) (show t = t / 2 * 2 + 1 by omega)).trans a2).symm
  · rw [List.getElem?_eq_none (by simp; omega), List.getElem?_eq_none (by rw [hintsV_length]; omega)]
theorem hint_one (x : Hint) : ∀ v ∈ hintCells x, v.oneCell' = true := by
  intro v hv
  simp only [hintCells, List.mem_cons, List.not_mem_nil, or_false] at hv
  rcases hv with rfl | rfl <;> rfl
theorem holds_hints {w : World} {g : Nat} {cur : Array Value} {e : TypeId} {l : List Hint} (hb : w.heap[g]? = some (.cells cur e (0, 0))) (ht : cur.toList.take (l.length * 2) = hintsV l) : HoldsK hintCells 2 w g 0 l.toArray := by
  intro j hj
  have hj' : j < l.length * 2 := by simpa using hj
  refine ⟨?_, by simp [World.frozen?, hb]⟩
  have h1 : (cur.toList.take (l.length * 2))[j]? = (flatK hintCells 2 l.toArray).toList[j]? := by rw [ht, flat_hints]
  rw [List.getElem?_take_of_lt hj'] at h1
  simp only [World.cell?, hb, Nat.zero_add]
  simp only [Option.isSome_none, Bool.false_eq_true, if_false]
  rw [← Array.getElem?_toList, h1]
  simp [hj']
theorem own_sorted {w : World} {base g cap n : Nat} {os : Array Obj} {cur : Array Value} {l m : List Hint} (hl : m.length = l.length) (hbase : base ≤ g) (hb : w.heap[g]? = some (.cells cur 47 (0, 0)))
    (h1 : l.length ≤ cap) (h2 : cap ≤ maxLen) (h3 : cur.size = cap * 2) :
    (sortWorldK hintCells 2 w g 0 n m.toArray os).ownsRow base 47 2 (.slice (some ⟨g, 0, none⟩) l.length cap) l.length (hintsV m) ∧ w.grownBy (sortWorldK hintCells 2 w g 0 n m.toArray os) (some g) := by
  have hg : g < w.heap.size := (Array.getElem?_eq_some_iff.1 hb).1
  refine ⟨⟨by rw [hintsV_length, hl], .inr ⟨g, cap, putCells id 0 (flatK hintCells 2 m.toArray) cur, rfl, hbase, ?_, h1, h2, by simp [putCells, h3], ?_⟩⟩, ⟨rfl, rfl, rfl, by simp [sortWorldK, putRowK, putRow, mapBlock, Sort.ahead, grow], fun k hk hne => ?_⟩⟩
  · unfold sortWorldK putRowK
    rw [heap_grow_old _ _ (by simpa [putRow, mapBlock, Sort.ahead] using hg)]
    simp [putRow, mapBlock, Sort.ahead, Array.getElem?_modify, hb, onCells]
  · rw [← flat_hints m]
    apply List.ext_getElem?
    intro j
    by_cases hj : j < l.length * 2
    · rw [List.getElem?_take_of_lt hj, Array.getElem?_toList, Array.getElem?_toList]
      simp [putCells, hl, hj, show j < cur.size by omega]
    · rw [List.getElem?_take_eq_none (by omega), List.getElem?_eq_none (by simp [hl]; omega)]
  · unfold sortWorldK putRowK
    rw [heap_grow_old _ _ (by simpa [putRow, mapBlock, Sort.ahead] using hk)]
    have : g ≠ k := fun e => hne (by rw [e])
    simp [putRow, mapBlock, Sort.ahead, Array.getElem?_modify, this]
end
section
open Go Go.RowKit Go.Maps Go.Lib Go.Sort

theorem all_env {w : World} {t B : Nat} {hn nn : Int} {nd : Path → Nd} {Ns : List Path} {Hs : List (Path × Str)} (hr : MemRep w t B hn nn nd Ns Hs) :
    AllE w.heap.size w.heap.size (w.heap.size + 1) t B hn nn nd Ns Hs ((w.alloc (.cells #[.slice none 0 0] 40)).alloc (.cells #[.func (.func 75) #[] #[.pointer (some ⟨w.heap.size, 0, none⟩), .pointer (some ⟨w.heap.size + 1, 0, none⟩)]] 130)) ∧ OutAt w.heap.size w.heap.size ((w.alloc (.cells #[.slice none 0 0] 40)).alloc (.cells #[.func (.func 75) #[] #[.pointer (some ⟨w.heap.size, 0, none⟩), .pointer (some ⟨w.heap.size + 1, 0, none⟩)]] 130)) [] ∧ Below w.heap.size w ((w.alloc (.cells #[.slice none 0 0] 40)).alloc (.cells #[.func (.func 75) #[] #[.pointer (some ⟨w.heap.size, 0, none⟩), .pointer (some ⟨w.heap.size + 1, 0, none⟩)]] 130)) := by
  have g1 := heap_alloc_new w (.cells #[.slice none 0 0] 40)
  have b1 : Below w.heap.size w (w.alloc (.cells #[.slice none 0 0] 40)) := (Below.refl _ _).alloc (Nat.le_refl _) _
  have z1 : (w.alloc (.cells #[.slice none 0 0] 40)).heap.size = w.heap.size + 1 := by simp
  generalize (w.alloc (.cells #[.slice none 0 0] 40)) = v1 at *
  have g4 := heap_alloc_new v1 (.cells #[.func (.func 75) #[] #[.pointer (some ⟨w.heap.size, 0, none⟩), .pointer (some ⟨w.heap.size + 1, 0, none⟩)]] 130)
  have b4 : Below v1.heap.size v1 (v1.alloc (.cells #[.func (.func 75) #[] #[.pointer (some ⟨w.heap.size, 0, none⟩), .pointer (some ⟨w.heap.size + 1, 0, none⟩)]] 130)) := (Below.refl _ _).alloc (Nat.le_refl _) _
  have z4 : (v1.alloc (.cells #[.func (.func 75) #[] #[.pointer (some ⟨w.heap.size, 0, none⟩), .pointer (some ⟨w.heap.size + 1, 0, none⟩)]] 130)).heap.size = v1.heap.size + 1 := by simp
  generalize (v1.alloc (.cells #[.func (.func 75) #[] #[.pointer (some ⟨w.heap.size, 0, none⟩), .pointer (some ⟨w.heap.size + 1, 0, none⟩)]] 130)) = v4 at *
  have b04 : Below w.heap.size w v4 := bnext b1 (by omega) b4
  have g1 := (b4.block _ (Array.getElem?_eq_some_iff.1 g1).1).trans g1
  rw [z1] at g4
  refine ⟨⟨hr.keep (fun p hp k hk => b04.block k (hr.lt p hp k hk)), fun p hp k hk => hr.lt p hp k hk, by omega, by omega, g4⟩, ⟨Nat.le_refl _, _, g1, World.ownsRow_nil _ _ _ _⟩, b04⟩

theorem lays_any (blk off size : Nat) (w : World) : CmpLays Tryz.prog 78 #[] hintCells 2 cmpH blk off size w :=
  fun _ _ _ _ x y => closure_any x y _
theorem sort_any (g cap : Nat) (l Gs : List Hint) (w : World) (hH : HoldsK hintCells 2 w g 0 l.toArray) (hg : g < w.heap.size) (hl : l.length < 1000000) (hG : HRising Gs) (hp : l.Perm Gs) :
    Calls Tryz.prog 77 #[.slice (some ⟨g, 0, none⟩) l.length cap, .func (.func 78) #[] #[]] w fun e w' => e = .returned (.tuple #[]) ∧ ∃ n os, w' = sortWorldK hintCells 2 w g 0 n Gs.toArray os := by
  have eg : ∀ args w, (callFunc 78 args).run Tryz.prog w = .ok (.enter 78 args) w := enters_of Tryz.func78 (by kernel_rfl) rfl
  have hz : l.toArray.size = l.length := by simp
  have hsc := AnyQ.slices_SortFunc_total Tryz.sortF77 2 Tryz.isAgg47 Tryz.sizeOf47 hintCells (fun _ => rfl) hint_one cmpH swo_hint 78 #[] g 0 cap l.toArray w
    eg (lays_any g 0 _ w) hH hg (by rw [hz]; omega) tot_hint
  rw [hz] at hsc
  change Calls Tryz.prog 77 _ _ _ at hsc
  have hm : (l.toArray.toList.mergeSort fun x y => !(ltOf cmpH) y x) = Gs := sort_hints hG hp
  rw [hm] at hsc
  exact hsc

set_option maxRecDepth 100000 in
set_option maxHeartbeats 4000000 in
theorem tall_any (t B : Nat) (Ns : List Path) (Hs : List (Path × Str)) (F : List Nat) (w : World) (h : PRep w t B Ns Hs F) (hH : Hs.length < 1000000) (hN : ∀ q ∈ Ns, q.length < 1000000) (hJ : ∀ h ∈ Hs, h.1 ≠ [] ∧ (joinP h.1).length ≤ 1000000) (Gs : List Hint) (hG : HRising Gs) (hp : (Hs.map asHint).Perm Gs) :
    Calls Tryz.prog 48 #[.pointer (some ⟨t, 0, none⟩)] w fun e w' => ∃ v, e = .returned v ∧ w'.ownsRow w.heap.size 47 2 v Gs.length (hintsV Gs) ∧ Below w.heap.size w w' := by
  obtain ⟨nd, hti, hr, -⟩ := h
  have HENV := Lib.hid (all_env hr)
  have HROOT := Lib.hid hr.root
  have HTI := Lib.hid hti
  have HGG := Lib.hid hG
  have HPP := Lib.hid hp
  have HNN := Lib.hid hN
  have HJJ := Lib.hid hJ
  clear hr hti hG hp hN hJ
  go_enter Tryz.func48, Tryz.ntmps48
  go_wp2_with fail
  generalize ((w.alloc (.cells #[.slice none 0 0] 40)).alloc (.cells #[.func (.func 75) #[] #[.pointer (some ⟨w.heap.size, 0, none⟩), .pointer (some ⟨w.heap.size + 1, 0, none⟩)]] 130)) = w5 at *
  obtain ⟨hE, hO, hb5⟩ := HENV.out
  have hti := HTI.out
  have hE' := hE.kept (KH.of_below (bo := w.heap.size) (W1 := w5.drew) hE.size (below_drew1 w5))
  have hO' := hO.below (below_drew1 w5)
  have HC := Lib.hid (all_from _ _ _ t B _ _ nd Ns Hs hti hH HNN.out HJJ.out 1000000 [] [] w5.drew (.slice none 0 0) (fun q hq => by have := HNN.out q hq; simp; omega) hti.root hE' hO' ⟨List.nodup_nil, by simp⟩ (.inl ⟨rfl, rfl⟩))
  rw [HROOT.out] at HC
  have HB5 := Lib.hid (below_drewN hb5 1)
  have HE' := Lib.hid hE'
  have cf := cell_of_row _ _ 0 _ _ _ hE'.self
  have HHN := Lib.hid hti.hn
  clear hE hO hE' hO' hti hb5 HENV
  refine wp_region_held_drew (S := fun W => W.cell? ⟨w.heap.size + 1, 0, none⟩ = some (.func (.func 75) #[] #[.pointer (some ⟨w.heap.size, 0, none⟩), .pointer (some ⟨w.heap.size + 1, 0, none⟩)])) (by kernel_rfl) cf (fun hHeld => ?_)
  refine wpAnyH_take (i := 0) (v := ?_) rfl (by kernel_rfl) (by kernel_rfl) (by kernel_rfl) (fun _ _ _ h => h) (Or.inl ⟨rfl, ?_⟩) hHeld ?_
  rotate_left
  · intro w0 hS0
    try dsimp only at hS0
    go_simp
    try with_reducible rfl
  simp only [List.getElem_toArray, List.getElem_cons_zero, Act.put, List.setIfInBounds_toArray, List.set_cons_zero, List.set_cons_succ]
  refine wpAnyH_take (i := 1) (v := ?_) rfl (by kernel_rfl) (by kernel_rfl) (by kernel_rfl) (fun _ _ _ h => h) (Or.inl ⟨rfl, ?_⟩) hHeld ?_
  rotate_left
  · intro w0 hS0
    try dsimp only at hS0
    go_simp
    try with_reducible rfl
  simp only [List.getElem_toArray, List.getElem_cons_zero, List.getElem_cons_succ, Act.put, List.setIfInBounds_toArray, List.set_cons_zero, List.set_cons_succ]
  refine wpAnyH_take (i := 2) (v := ?_) rfl (by kernel_rfl) (by kernel_rfl) (by kernel_rfl) (fun _ _ _ h => h) (Or.inl ⟨rfl, ?_⟩) hHeld ?_
  rotate_left
  · intro w0 hS0
    try dsimp only at hS0
    go_simp
    try with_reducible rfl
  simp only [List.getElem_toArray, List.getElem_cons_zero, List.getElem_cons_succ, Act.put, List.setIfInBounds_toArray, List.set_cons_zero, List.set_cons_succ]
  refine wpAnyH_take (i := 3) (v := ?_) rfl (by kernel_rfl) (by kernel_rfl) (by kernel_rfl) (fun _ _ _ h => h) (Or.inl ⟨rfl, ?_⟩) hHeld ?_
  rotate_left
  · intro w0 hS0
    try dsimp only at hS0
    go_simp
    try with_reducible rfl
  simp only [List.getElem_toArray, List.getElem_cons_zero, List.getElem_cons_succ, Act.put, List.setIfInBounds_toArray, List.set_cons_zero, List.set_cons_succ]
  refine wpAnyH_ready (rs := [4]) (by kernel_rfl) (by simp) ?_
  refine AllReadyH.cons rfl (fun K hK => ?_) AllReadyH.nil
  rw [if_pos (by rfl)]
  go_simp
  go_at_call 75
  refine HC.out.mono ?_
  rintro e w6 ⟨rfl, new, hO6, hS6, hK6⟩
  refine hK.out _ _ (cell_of_row _ _ 0 _ _ _ (HE'.out.kept hK6).self) (fun hHeld => ?_)
  refine wpAnyH_done (by kernel_rfl) ?_ _
  rw [List.nil_append] at hO6
  have hperm : (new.map asHint).Perm Gs := (List.Perm.map asHint ((List.perm_ext_iff_of_nodup hS6.1 HHN.out).2 (fun x => by obtain ⟨q, c⟩ := x; rw [hS6.2]; simp))).trans HPP.out
  have hb6 : Below w.heap.size w w6 := HB5.out.trans hK6.below
  obtain ⟨-, v, hv, hrow⟩ := hO6
  have hlen : new.length = Gs.length := by simpa using hperm.length_eq
  have hgl : Gs.length < 1000000 := by rw [← HPP.out.length_eq]; simpa using hH
  have cv := cell_of_row _ _ 0 _ _ _ hv
  have HHV := Lib.hid hv
  have HB6 := Lib.hid hb6
  have HPM := Lib.hid hperm
  have HROW := Lib.hid hrow
  clear hS6 hK6 hHeld HC HE' HB5 cf hb6 hperm hv
  rcases id hrow with ⟨hxl, ⟨rfl, hn0⟩ | ⟨g, cap, cur, rfl, hbase, hgb, hnc, hcm, hcs, htk⟩⟩
  · have hg0 : Gs = [] := List.eq_nil_of_length_eq_zero (by omega)
    subst hg0
    have hsc := AnyF.slices_SortFunc_none Tryz.sortF77 none 0 (.func (.func 78) #[] #[]) w6
    change Calls Tryz.prog 77 _ _ _ at hsc
    have HSC := Lib.hid hsc
    clear hsc hrow hxl HROW HPM
    go_wp2_with fail
    refine HSC.out.mono ?_
    rintro e w7 ⟨rfl, rfl⟩
    go_wp2_with fail
    go_ret
    exact ⟨_, rfl, World.ownsRow_nil _ _ _ _, HB6.out⟩
  · have hH6 := holds_hints (l := new.map asHint) hgb (by simpa using htk)
    have hsc := sort_any g cap (new.map asHint) Gs w6 hH6 (Array.getElem?_eq_some_iff.1 hgb).1 (by simp; omega) HGG.out HPM.out
    rw [show (new.map asHint).length = new.length by simp] at hsc
    have HSC := Lib.hid hsc
    have HGB := Lib.hid hgb
    have HNN2 := Lib.hid (show w.heap.size ≤ g ∧ new.length ≤ cap ∧ cap ≤ maxLen ∧ cur.size = cap * 2 from ⟨hbase, hnc, hcm, hcs⟩)
    have HLE := Lib.hid hlen
    have HKK := Lib.hid hK
    clear hsc hH6 hgb htk hxl hrow hbase hnc hcm hcs hlen hgl hH hK
    go_wp2_with fail
    refine HSC.out.mono ?_
    rintro e w7 ⟨rfl, n, os, rfl⟩
    obtain ⟨hbase, hnc, hcm, hcs⟩ := HNN2.out
    have hlen := HLE.out
    obtain ⟨ho, hg⟩ := own_sorted (n := n) (os := os) (l := new.map asHint) (m := Gs) (by simp [hlen]) hbase HGB.out (by simpa using hnc) hcm hcs
    rw [show (new.map asHint).length = Gs.length by simp [hlen]] at ho
    have hv7 := (hg.block _ (Array.getElem?_eq_some_iff.1 HHV.out).1 (fun e => out_ne HHV.out HROW.out (by rw [e]; rfl))).trans HHV.out
    have hb7 := HB6.out.grown hg (HB6.out.size) (fun k hk => by cases hk; exact hbase)
    have HO := Lib.hid ho
    have HB7 := Lib.hid hb7
    have cv7 := cell_of_row _ _ 0 _ _ _ hv7
    clear hg hv7 hb7 ho cv hbase hnc hcm hcs HNN2 hlen
    generalize sortWorldK hintCells 2 w6 g 0 n Gs.toArray os = w7 at *
    go_wp2_with fail
    go_ret
    exact ⟨_, rfl, by rw [HLE.out]; exact HO.out, HB7.out⟩
end
section
open Go Go.RowKit Go.Maps Go.Lib Go.Sort

end
end Go.Proofs.YthfdcphecggjeaaGreatDoor
