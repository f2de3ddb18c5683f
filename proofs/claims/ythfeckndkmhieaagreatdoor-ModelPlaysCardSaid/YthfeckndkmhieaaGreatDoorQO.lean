/- Hints: rows of them in memory. No program in sight. The order of hints: cmp.Compare, cmp.Or, Lists' comparison walked. The trie: rows of hints in order; the library's sort over a slice of the call's own. Hints in order: one more. No program in sight. The model: Lists walked. -/
import Derived.Test.YthfeckndkmhieaaGreatDoorQB
import Derived.Sort.Walk0
import Derived.Shelf.SlSortCmp.NoneTotal
import Derived.Sort.OwnSorted
import Derived.Test.YthfeckndkmhieaaGreatDoorQL
namespace Go.Proofs.YthfeckndkmhieaaGreatDoor
section
open Go Go.RowKit

theorem T_hint : ElemT Tryz.prog 47 65 (.agg #[.string ⟨#[]⟩, .string ⟨#[]⟩]) 2 32 := ⟨Tryz.underlying47, by kernel_rfl, rfl, by decide⟩
abbrev Hint := Str × Str
def hintCells (h : Hint) : List Value := [.string ⟨h.1.toArray⟩, .string ⟨h.2.toArray⟩]
def hintsV (l : List Hint) : List Value := l.flatMap hintCells
theorem hintsV_length (l : List Hint) : (hintsV l).length = l.length * 2 := by
  induction l with
  | nil => rfl
  | cons a r ih => simp only [hintsV, List.flatMap_cons, List.length_append, List.length_cons] at *; rw [ih]; simp [hintCells]; omega
theorem hintsV_append (a b : List Hint) : hintsV (a ++ b) = hintsV a ++ hintsV b := List.flatMap_append ..
theorem hintsV_at {l : List Hint} {i : Nat} (h : i < l.length) : (hintsV l)[i * 2]? = some (.string ⟨l[i].1.toArray⟩) ∧ (hintsV l)[i * 2 + 1]? = some (.string ⟨l[i].2.toArray⟩) := by
  induction l generalizing i with
  | nil => simp at h
  | cons a r ih =>
    cases i with
    | zero => exact ⟨rfl, rfl⟩
    | succ i =>
      have := @ih i (by simpa using h)
      rw [show (i + 1) * 2 = i * 2 + 1 + 1 by omega]
      simpa [hintsV, hintCells] using this
theorem nodup_le {α : Type} [DecidableEq α] {l : List α} : ∀ {k : List α}, l.Nodup → (∀ x ∈ l, x ∈ k) → l.length ≤ k.length := by
  induction l with
  | nil => intro k _ _; simp
  | cons a r ih =>
    intro k hn h
    obtain ⟨h1, h2⟩ := List.nodup_cons.1 hn
    have := ih (k := k.erase a) h2 (fun x hx => (List.mem_erase_of_ne (fun (e : x = a) => h1 (by rw [← e]; exact hx))).2 (h x (by simp [hx])))
    have hl := List.length_erase_of_mem (h a (by simp))
    have hp := List.length_pos_of_mem (h a (by simp))
    simp only [List.length_cons]; omega
theorem slt_tri {a b : Str} (h : ¬ a < b) (h' : a ≠ b) : b < a := by
  by_cases h2 : b < a
  · exact h2
  · exact absurd (List.le_antisymm (α := UInt8) (show a ≤ b from h2) (show b ≤ a from h)) h'
theorem hints_row {w : World} {a : Option Addr} {l : List Hint} {k : Nat} (h : Row w a (hintsV l)) (hk : k < l.length) : ∃ b o, a = some ⟨b, o, none⟩ ∧ w.cell? ⟨b, o + k * 2, none⟩ = some (.string ⟨l[k].1.toArray⟩) ∧ w.cell? ⟨b, o + k * 2 + 1, none⟩ = some (.string ⟨l[k].2.toArray⟩) := by
  obtain ⟨h1, h2⟩ := hintsV_at hk
  rcases h with h | ⟨b, o, rfl, hc⟩
  · rw [h] at h1; cases h1
  · exact ⟨b, o, rfl, hc _ _ h1, by have := hc _ _ h2; rwa [← Nat.add_assoc] at this⟩
end
section
open Go Go.RowKit Go.Maps Go.Lib Go.Sort

def cmpS (x y : Str) : Int := if x < y then -1 else if y < x then 1 else 0
def cmpH (x y : Hint) : Int := if cmpS x.1 y.1 = 0 then cmpS x.2 y.2 else cmpS x.1 y.1
theorem nan_any (x : ByteArray) (w : World) : Calls Tryz.prog 57 #[.string x] w fun e w' => e = .returned (.bool false) ∧ w = w' := by
  go_enter Tryz.func57, Tryz.ntmps57
  go_wp2
  go_ret
  exact ⟨by simp, rfl⟩
set_option maxHeartbeats 1000000 in
theorem compare_any (x y : Str) (w : World) : Calls Tryz.prog 38 #[.string ⟨x.toArray⟩, .string ⟨y.toArray⟩] w fun e w' => e = .returned (.int .i64 (cmpS x y)) ∧ w = w' := by
  by_cases ha : x < y
  · have h1 : Op.bytesLess x y = true := by rw [bytesLess_eq]; exact decide_eq_true ha
    have HC : Hid (cmpS x y = -1) := Lib.hid (if_pos ha)
    clear ha
    go_enter Tryz.func38, Tryz.ntmps38
    go_wp2_with (go_at_call 57; refine (nan_any _ _).mono ?_; rintro e w' ⟨rfl, rfl⟩)
    go_ret
    exact ⟨by rw [HC.out]; rfl, rfl⟩
  · have h1 : Op.bytesLess x y = false := by rw [bytesLess_eq]; exact decide_eq_false ha
    by_cases hc : x = y
    · have h2 : (x == y) = true := by simpa using hc
      have HC : Hid (cmpS x y = 0) := Lib.hid (by subst hc; simp [cmpS, List.lt_irrefl])
      clear ha hc
      go_enter Tryz.func38, Tryz.ntmps38
      go_wp2_with (go_at_call 57; refine (nan_any _ _).mono ?_; rintro e w' ⟨rfl, rfl⟩)
      go_ret
      exact ⟨by rw [HC.out]; rfl, rfl⟩
    · have h2 : (x == y) = false := by simpa using hc
      have HC : Hid (cmpS x y = 1) := Lib.hid (by rw [cmpS, if_neg ha, if_pos (slt_tri ha hc)])
      clear ha hc
      go_enter Tryz.func38, Tryz.ntmps38
      go_wp2_with (go_at_call 57; refine (nan_any _ _).mono ?_; rintro e w' ⟨rfl, rfl⟩)
      go_ret
      exact ⟨by rw [HC.out]; rfl, rfl⟩
set_option maxHeartbeats 1000000 in
theorem or_any (a b : Int) (k : Nat) (w : World) (h0 : w.cell? ⟨k, 0, none⟩ = some (.int .i64 a)) (h1 : w.cell? ⟨k, 1, none⟩ = some (.int .i64 b)) :
    Calls Tryz.prog 37 #[.slice (some ⟨k, 0, none⟩) 2 2] w fun e w' => e = .returned (.int .i64 (if a = 0 then b else a)) ∧ w = w' := by
  by_cases ha : a = 0
  · subst ha
    by_cases hb : b = 0
    · subst hb
      go_enter Tryz.func37, Tryz.ntmps37
      go_wp2_with fail
      refine wp_loop_rounds 3 ?_
      rw [rounds_succ]
      go_wp2_with fail
      rw [rounds_succ]
      go_wp2_with fail
      rw [rounds_succ]
      go_wp2_with fail
      go_ret
      exact ⟨rfl, rfl⟩
    · have hb' : (b == 0) = false := by simpa using hb
      go_enter Tryz.func37, Tryz.ntmps37
      go_wp2_with fail
      refine wp_loop_rounds 3 ?_
      rw [rounds_succ]
      go_wp2_with fail
      rw [rounds_succ]
      go_wp2_with fail
      go_ret
      exact ⟨rfl, rfl⟩
  · have ha' : (a == 0) = false := by simpa using ha
    rw [if_neg ha]
    go_enter Tryz.func37, Tryz.ntmps37
    go_wp2_with fail
    refine wp_loop_rounds 3 ?_
    rw [rounds_succ]
    go_wp2_with fail
    go_ret
    exact ⟨rfl, rfl⟩
set_option maxHeartbeats 4000000 in
theorem closure_any (x y : Hint) (W : World) : Calls Tryz.prog 36 #[.agg (hintCells x).toArray, .agg (hintCells y).toArray] W fun e w' => e = .returned (.int .i64 (cmpH x y)) ∧ ∃ q os', w' = grow (W.drewN q) os' := by
  obtain ⟨a, b⟩ := x
  obtain ⟨c, d⟩ := y
  have HX : Hid (cmpH (a, b) (c, d) = if cmpS a c = 0 then cmpS b d else cmpS a c) := Lib.hid rfl
  have g1 := heap_alloc_new W (.cells #[.string ⟨a.toArray⟩, .string ⟨b.toArray⟩] 65)
  have g2 := heap_alloc_new (W.alloc (.cells #[.string ⟨a.toArray⟩, .string ⟨b.toArray⟩] 65)) (.cells #[.string ⟨c.toArray⟩, .string ⟨d.toArray⟩] 65)
  rw [World.size_alloc] at g2
  have g1 := (Below.heap_alloc (W.alloc (.cells #[.string ⟨a.toArray⟩, .string ⟨b.toArray⟩] 65)) (.cells #[.string ⟨c.toArray⟩, .string ⟨d.toArray⟩] 65) W.heap.size (by simp)).trans g1
  have HG : Hid (((W.alloc (.cells #[.string ⟨a.toArray⟩, .string ⟨b.toArray⟩] 65)).alloc (.cells #[.string ⟨c.toArray⟩, .string ⟨d.toArray⟩] 65)).drew.alloc (.cells #[.int .i64 (cmpS a c), .int .i64 (cmpS b d)] 3) = grow (W.drewN 1) #[.cells #[.string ⟨a.toArray⟩, .string ⟨b.toArray⟩] 65, .cells #[.string ⟨c.toArray⟩, .string ⟨d.toArray⟩] 65, .cells #[.int .i64 (cmpS a c), .int .i64 (cmpS b d)] 3]) := Lib.hid (by
    rw [alloc_eq_grow, alloc_eq_grow, alloc_eq_grow, grow_grow]
    show grow (grow (W.drewN 1) _) _ = _
    rw [grow_grow]; rfl)
  have c0 := cell_of_row _ _ 0 _ _ _ g1
  have c1 := cell_of_row _ _ 1 _ _ _ g1
  have d0 := cell_of_row _ _ 0 _ _ _ g2
  have d1 := cell_of_row _ _ 1 _ _ _ g2
  have HS : Hid (∀ o, (((W.alloc (.cells #[.string ⟨a.toArray⟩, .string ⟨b.toArray⟩] 65)).alloc (.cells #[.string ⟨c.toArray⟩, .string ⟨d.toArray⟩] 65)).drew.alloc o).cell? ⟨W.heap.size, 0, none⟩ = some (.string ⟨a.toArray⟩) ∧ (((W.alloc (.cells #[.string ⟨a.toArray⟩, .string ⟨b.toArray⟩] 65)).alloc (.cells #[.string ⟨c.toArray⟩, .string ⟨d.toArray⟩] 65)).drew.alloc o).cell? ⟨W.heap.size, 1, none⟩ = some (.string ⟨b.toArray⟩) ∧ (((W.alloc (.cells #[.string ⟨a.toArray⟩, .string ⟨b.toArray⟩] 65)).alloc (.cells #[.string ⟨c.toArray⟩, .string ⟨d.toArray⟩] 65)).drew.alloc o).cell? ⟨W.heap.size + 1, 0, none⟩ = some (.string ⟨c.toArray⟩) ∧ (((W.alloc (.cells #[.string ⟨a.toArray⟩, .string ⟨b.toArray⟩] 65)).alloc (.cells #[.string ⟨c.toArray⟩, .string ⟨d.toArray⟩] 65)).drew.alloc o).cell? ⟨W.heap.size + 1, 1, none⟩ = some (.string ⟨d.toArray⟩)) := Lib.hid (fun o => by
    have e1 := (Below.heap_alloc (((W.alloc (.cells #[.string ⟨a.toArray⟩, .string ⟨b.toArray⟩] 65)).alloc (.cells #[.string ⟨c.toArray⟩, .string ⟨d.toArray⟩] 65)).drew) o _ (Array.getElem?_eq_some_iff.1 g1).1).trans g1
    have e2 := (Below.heap_alloc (((W.alloc (.cells #[.string ⟨a.toArray⟩, .string ⟨b.toArray⟩] 65)).alloc (.cells #[.string ⟨c.toArray⟩, .string ⟨d.toArray⟩] 65)).drew) o _ (Array.getElem?_eq_some_iff.1 g2).1).trans g2
    exact ⟨cell_of_row _ _ 0 _ _ _ e1, cell_of_row _ _ 1 _ _ _ e1, cell_of_row _ _ 0 _ _ _ e2, cell_of_row _ _ 1 _ _ _ e2⟩)
  unfold hintCells
  rw [HX.out]
  obtain ⟨r, hr⟩ : ∃ r, (if cmpS a c = 0 then cmpS b d else cmpS a c) = r := ⟨_, rfl⟩
  rw [hr]
  have HR := Lib.hid hr
  clear g1 g2 hr
  go_enter Tryz.func36, Tryz.ntmps36
  go_wp2_with fail
  refine wp_region_held_drew (S := fun X => X.cell? ⟨W.heap.size, 0, none⟩ = some (.string ⟨a.toArray⟩) ∧ X.cell? ⟨W.heap.size, 1, none⟩ = some (.string ⟨b.toArray⟩) ∧ X.cell? ⟨W.heap.size + 1, 0, none⟩ = some (.string ⟨c.toArray⟩) ∧ X.cell? ⟨W.heap.size + 1, 1, none⟩ = some (.string ⟨d.toArray⟩)) (by kernel_rfl) ⟨c0, c1, d0, d1⟩ (fun hHeld => ?_)
  refine wpAnyH_take (i := 0) (v := ?_) rfl (by kernel_rfl) (by kernel_rfl) (by kernel_rfl) (fun _ _ _ h => h) (Or.inl ⟨rfl, ?_⟩) hHeld ?_
  rotate_left
  · intro w0 hS0
    try dsimp only at hS0
    go_simp
    try with_reducible rfl
  simp only [List.getElem_toArray, List.getElem_cons_zero, Act.put, List.setIfInBounds_toArray, List.set_cons_zero, List.set_cons_succ]
  refine wpAnyH_take (i := 2) (v := ?_) rfl (by kernel_rfl) (by kernel_rfl) (by kernel_rfl) (fun _ _ _ h => h) (Or.inl ⟨rfl, ?_⟩) hHeld ?_
  rotate_left
  · intro w0 hS0
    try dsimp only at hS0
    go_simp
    try with_reducible rfl
  simp only [List.getElem_toArray, List.getElem_cons_zero, List.getElem_cons_succ, Act.put, List.setIfInBounds_toArray, List.set_cons_zero, List.set_cons_succ]
  refine wpAnyH_take (i := 5) (v := ?_) rfl (by kernel_rfl) (by kernel_rfl) (by kernel_rfl) (fun _ _ _ h => h) (Or.inl ⟨rfl, ?_⟩) hHeld ?_
  rotate_left
  · intro w0 hS0
    try dsimp only at hS0
    go_simp
    try with_reducible rfl
  simp only [List.getElem_toArray, List.getElem_cons_zero, List.getElem_cons_succ, Act.put, List.setIfInBounds_toArray, List.set_cons_zero, List.set_cons_succ]
  refine wpAnyH_take (i := 7) (v := ?_) rfl (by kernel_rfl) (by kernel_rfl) (by kernel_rfl) (fun _ _ _ h => h) (Or.inl ⟨rfl, ?_⟩) hHeld ?_
  rotate_left
  · intro w0 hS0
    try dsimp only at hS0
    go_simp
    try with_reducible rfl
  simp only [List.getElem_toArray, List.getElem_cons_zero, List.getElem_cons_succ, Act.put, List.setIfInBounds_toArray, List.set_cons_zero, List.set_cons_succ]
  refine wpAnyH_take (i := 1) (v := ?_) rfl (by kernel_rfl) (by kernel_rfl) (by kernel_rfl) (fun _ _ _ h => h) (Or.inl ⟨rfl, ?_⟩) hHeld ?_
  rotate_left
  · intro w0 hS0
    try dsimp only at hS0
    go_simp
    try with_reducible rfl
  simp only [List.getElem_toArray, List.getElem_cons_zero, List.getElem_cons_succ, Act.put, List.setIfInBounds_toArray, List.set_cons_zero, List.set_cons_succ]
  refine wpAnyH_take (i := 3) (v := ?_) rfl (by kernel_rfl) (by kernel_rfl) (by kernel_rfl) (fun _ _ _ h => h) (Or.inl ⟨rfl, ?_⟩) hHeld ?_
  rotate_left
  · intro w0 hS0
    try dsimp only at hS0
    go_simp
    try with_reducible rfl
  simp only [List.getElem_toArray, List.getElem_cons_zero, List.getElem_cons_succ, Act.put, List.setIfInBounds_toArray, List.set_cons_zero, List.set_cons_succ]
  refine wpAnyH_take (i := 6) (v := ?_) rfl (by kernel_rfl) (by kernel_rfl) (by kernel_rfl) (fun _ _ _ h => h) (Or.inl ⟨rfl, ?_⟩) hHeld ?_
  rotate_left
  · intro w0 hS0
    try dsimp only at hS0
    go_simp
    try with_reducible rfl
  simp only [List.getElem_toArray, List.getElem_cons_zero, List.getElem_cons_succ, Act.put, List.setIfInBounds_toArray, List.set_cons_zero, List.set_cons_succ]
  refine wpAnyH_take (i := 8) (v := ?_) rfl (by kernel_rfl) (by kernel_rfl) (by kernel_rfl) (fun _ _ _ h => h) (Or.inl ⟨rfl, ?_⟩) hHeld ?_
  rotate_left
  · intro w0 hS0
    try dsimp only at hS0
    go_simp
    try with_reducible rfl
  simp only [List.getElem_toArray, List.getElem_cons_zero, List.getElem_cons_succ, Act.put, List.setIfInBounds_toArray, List.set_cons_zero, List.set_cons_succ]
  clear c0 c1 d0 d1
  generalize ((W.alloc (.cells #[.string ⟨a.toArray⟩, .string ⟨b.toArray⟩] 65)).alloc (.cells #[.string ⟨c.toArray⟩, .string ⟨d.toArray⟩] 65)).drew = Z at *
  refine wpAnyH_ready (rs := [4]) (by kernel_rfl) (by simp) ?_
  refine AllReadyH.cons rfl (fun K hK => ?_) AllReadyH.nil
  rw [if_pos (by rfl)]
  go_simp
  go_at_call 38
  refine (compare_any _ _ _).mono ?_
  rintro e w1 ⟨rfl, rfl⟩
  refine hK.out _ _ hHeld (fun hHeld => ?_)
  refine wpAnyH_ready (rs := [9]) (by kernel_rfl) (by simp) ?_
  refine AllReadyH.cons rfl (fun K hK => ?_) AllReadyH.nil
  rw [if_pos (by rfl)]
  go_simp
  go_at_call 38
  refine (compare_any _ _ _).mono ?_
  rintro e w1 ⟨rfl, rfl⟩
  refine hK.out _ _ hHeld (fun hHeld => ?_)
  refine wpAnyH_ready (rs := [10]) (by kernel_rfl) (by simp) ?_
  refine AllReadyH.cons rfl (fun K hK => ?_) AllReadyH.nil
  rw [if_pos (by rfl)]
  go_simp
  have hn := heap_alloc_new Z (.cells #[.int .i64 (cmpS a c), .int .i64 (cmpS b d)] 3)
  have n0 := cell_of_row _ _ 0 _ _ _ hn
  have n1 := cell_of_row _ _ 1 _ _ _ hn
  simp only [List.getElem?_toArray, List.getElem?_cons_zero, List.getElem?_cons_succ] at n0 n1
  refine hK.out _ _ (HS.out _) (fun hHeld => ?_)
  refine wpAnyH_ready (rs := [11]) (by kernel_rfl) (by simp) ?_
  refine AllReadyH.cons rfl (fun K hK => ?_) AllReadyH.nil
  rw [if_pos (by rfl)]
  go_simp
  go_at_call 37
  have hor := or_any _ _ _ _ n0 n1
  rw [HR.out] at hor
  refine hor.mono ?_
  rintro e w1 ⟨rfl, rfl⟩
  refine hK.out _ _ (HS.out _) (fun hHeld => ?_)
  refine wpAnyH_take (i := 12) (v := ?_) rfl (by kernel_rfl) (by kernel_rfl) (by kernel_rfl) (fun _ _ _ h => h) (Or.inl ⟨rfl, ?_⟩) hHeld ?_
  rotate_left
  · intro w0 hS0
    try dsimp only at hS0
    go_simp
    try with_reducible rfl
  simp only [List.getElem_toArray, List.getElem_cons_zero, List.getElem_cons_succ, Act.put, List.setIfInBounds_toArray, List.set_cons_zero, List.set_cons_succ]
  refine wpAnyH_done (by kernel_rfl) ?_ _
  clear hHeld n0 n1 hn
  go_wp2_with fail
  go_ret
  exact ⟨rfl, 1, _, HG.out⟩
end
section
open Go Go.RowKit Go.Maps Go.Lib Go.Sort

def Ahead (x y : Hint) : Prop := x.1 < y.1 ∨ x.1 = y.1 ∧ x.2 < y.2
instance (x y : Hint) : Decidable (Ahead x y) := inferInstanceAs (Decidable (_ ∨ _))
theorem cmpS_neg {x y : Str} : cmpS x y < 0 ↔ x < y := by
  unfold cmpS
  by_cases h : x < y
  · simp [h]
  · by_cases h' : y < x <;> simp [h, h']
theorem cmpS_zero {x y : Str} : cmpS x y = 0 ↔ x = y := by
  unfold cmpS
  by_cases h : x < y
  · simp only [h, if_true]
    exact ⟨fun e => by omega, fun e => by subst e; exact absurd h (List.lt_irrefl _)⟩
  · by_cases h' : y < x
    · simp only [h, h', if_true, if_false]
      exact ⟨fun e => by omega, fun e => by subst e; exact absurd h' (List.lt_irrefl _)⟩
    · simp only [h, h', if_false, true_iff]
      exact Decidable.byContradiction fun e => h' (slt_tri h e)
theorem cmpH_neg (x y : Hint) : cmpH x y < 0 ↔ Ahead x y := by
  unfold cmpH Ahead
  by_cases h : cmpS x.1 y.1 = 0
  · rw [if_pos h, cmpS_neg]
    have he := cmpS_zero.1 h
    constructor
    · exact fun h2 => .inr ⟨he, h2⟩
    · rintro (h2 | h2)
      · rw [he] at h2; exact absurd h2 (List.lt_irrefl _)
      · exact h2.2
  · rw [if_neg h, cmpS_neg]
    constructor
    · exact .inl
    · rintro (h2 | h2)
      · exact h2
      · exact absurd (cmpS_zero.2 h2.1) h
theorem ltOf_cmpH (x y : Hint) : ltOf cmpH x y = decide (Ahead x y) := decide_eq_decide.2 (cmpH_neg x y)
theorem ahead_irrefl (x : Hint) : ¬ Ahead x x := by
  rintro (h | h)
  · exact List.lt_irrefl _ h
  · exact List.lt_irrefl _ h.2
theorem ahead_trans {x y z : Hint} (h : Ahead x y) (k : Ahead y z) : Ahead x z := by
  rcases h with h | ⟨h1, h2⟩
  · rcases k with k | ⟨k1, k2⟩
    · exact .inl (List.lt_trans h k)
    · exact .inl (k1 ▸ h)
  · rcases k with k | ⟨k1, k2⟩
    · exact .inl (h1 ▸ k)
    · exact .inr ⟨h1.trans k1, List.lt_trans h2 k2⟩
theorem ahead_tri {x y : Hint} (h : ¬ Ahead x y) (hne : x ≠ y) : Ahead y x := by
  by_cases h1 : x.1 = y.1
  · have h2 : ¬ x.2 < y.2 := fun e => h (.inr ⟨h1, e⟩)
    have h3 : x.2 ≠ y.2 := fun e => hne (Prod.ext h1 e)
    exact .inr ⟨h1.symm, slt_tri h2 h3⟩
  · exact .inl (slt_tri (fun e => h (.inl e)) h1)
theorem swo_hint : SWO (ltOf cmpH) where
  irrefl x := by rw [ltOf_cmpH]; exact decide_eq_false (ahead_irrefl x)
  trans x y z h k := by
    rw [ltOf_cmpH, decide_eq_true_eq] at *
    exact ahead_trans h k
  ntrans x y z h k := by
    rw [ltOf_cmpH, decide_eq_false_iff_not] at *
    intro hz
    by_cases e : x = y
    · subst e; exact k hz
    · exact k (ahead_trans (ahead_tri h e) hz)
theorem tot_hint (x y : Hint) (h : ltOf cmpH x y = false) (k : ltOf cmpH y x = false) : x = y := by
  rw [ltOf_cmpH, decide_eq_false_iff_not] at *
  exact Decidable.byContradiction fun e => k (ahead_tri h e)
/-- hints in order, each once -/
def HRising (l : List Hint) : Prop := l.Pairwise Ahead
theorem hrising_nodup {l : List Hint} (h : HRising l) : l.Nodup := List.Pairwise.imp (fun h e => by subst e; exact ahead_irrefl _ h) h
theorem hrising_ext {l m : List Hint} (hl : HRising l) (hm : HRising m) (hp : l.Perm m) : l = m :=
  List.Perm.eq_of_pairwise (le := fun a b => decide (Ahead a b) = true) (fun a b _ _ h1 h2 => by simp only [decide_eq_true_eq] at h1 h2; exact absurd (ahead_trans h1 h2) (ahead_irrefl _)) (List.Pairwise.imp (by simp) hl) (List.Pairwise.imp (by simp) hm) hp
theorem sort_hints {l m : List Hint} (hm : HRising m) (h : l.Perm m) : (l.mergeSort fun x y => !(ltOf cmpH) y x) = m := by
  have hle : ∀ a b, (!(ltOf cmpH) b a) = true ↔ ¬ Ahead b a := fun a b => by rw [ltOf_cmpH]; simp
  have hp : ((l.mergeSort fun x y => !(ltOf cmpH) y x)).Pairwise (fun a b => (!(ltOf cmpH) b a) = true) :=
    List.pairwise_mergeSort (le := fun x y => !(ltOf cmpH) y x) (fun a b c h1 h2 => by
      rw [hle] at *
      intro h3
      by_cases e : b = a
      · subst e; exact h2 h3
      · exact h2 (ahead_trans h3 (ahead_tri h1 e)))
      (fun a b => by
        by_cases h1 : Ahead b a
        · have : (!(ltOf cmpH) a b) = true := (hle b a).2 (fun h2 => ahead_irrefl _ (ahead_trans h1 h2))
          rw [this]; simp
        · rw [(hle a b).2 h1]; rfl) l
  refine List.Perm.eq_of_pairwise (le := fun a b => (!(ltOf cmpH) b a) = true) (fun a b _ _ h1 h2 => by
    rw [hle] at *
    exact Decidable.byContradiction fun e => h2 (ahead_tri h1 (fun e' => e e'.symm))) hp
    (List.Pairwise.imp (fun h1 => (hle _ _).2 (fun h2 => ahead_irrefl _ (ahead_trans h1 h2))) hm) ((List.mergeSort_perm l _).trans h)

theorem flat_hints (l : List Hint) : (flatK hintCells 2 l.toArray).toList = hintsV l := by
  apply List.ext_getElem?
  intro t
  have hs : (flatK hintCells 2 l.toArray).size = l.length * 2 := by simp
  by_cases ht : t < l.length * 2
  · have h1 : (flatK hintCells 2 l.toArray)[t]! = _ := get_flatK hintCells 2 l.toArray t (by simpa using ht)
    have hq : t / 2 < l.length := by omega
    obtain ⟨a1, a2⟩ := hintsV_at hq
    rw [Array.getElem?_toList, Array.getElem?_eq_getElem (by omega), ← getElem!_pos _ t (by omega), h1]
    have hd : l.toArray[t / 2]! = l[t / 2] := by simp [hq]
    rw [hd]
    rcases Nat.mod_two_eq_zero_or_one t with hm | hm
    · rw [hm]
      exact ((congrArg (fun k => (hintsV l)[k]?) (show t = t / 2 * 2 by omega)).trans a1).symm
    · rw [hm]
      exact ((congrArg (fun k => (hintsV l)[k]?) (show t = t / 2 * 2 + 1 by omega)).trans a2).symm
  · rw [List.getElem?_eq_none (by simp; omega), List.getElem?_eq_none (by rw [hintsV_length]; omega)]
theorem hint_one (x : Hint) : ∀ v ∈ hintCells x, v.oneCell' = true := by
  intro v hv
  simp only [hintCells, List.mem_cons, List.not_mem_nil, or_false] at hv
  rcases hv with rfl | rfl <;> rfl
theorem holds_hints {w : World} {g : Nat} {cur : Array Value} {e : TypeId} {l : List Hint} (hb : w.heap[g]? = some (.cells cur e (0, 0))) (ht : cur.toList.take (l.length * 2) = hintsV l) : HoldsK hintCells 2 w g 0 l.toArray := by
  intro j hj
  have hj' : j < l.length * 2 := by simpa using hj
  refine ⟨?_, by simp [World.frozen?, hb]⟩
  have h1 : (cur.toList.take (l.length * 2))[j]? = (flatK hintCells 2 l.toArray).toList[j]? := by rw [ht, flat_hints]
  rw [List.getElem?_take_of_lt hj'] at h1
  simp only [World.cell?, hb, Nat.zero_add]
  simp only [Option.isSome_none, Bool.false_eq_true, if_false]
  rw [← Array.getElem?_toList, h1]
  simp [hj']
theorem own_sorted {w : World} {base g cap n : Nat} {os : Array Obj} {cur : Array Value} {l m : List Hint} (hl : m.length = l.length) (hbase : base ≤ g) (hb : w.heap[g]? = some (.cells cur 65 (0, 0)))
    (h1 : l.length ≤ cap) (h2 : cap ≤ maxLen) (h3 : cur.size = cap * 2) :
    (sortWorldK hintCells 2 w g 0 n m.toArray os).ownsRow base 65 2 (.slice (some ⟨g, 0, none⟩) l.length cap) l.length (hintsV m) ∧ w.grownBy (sortWorldK hintCells 2 w g 0 n m.toArray os) (some g) := by
  have hg : g < w.heap.size := (Array.getElem?_eq_some_iff.1 hb).1
  refine ⟨⟨by rw [hintsV_length, hl], .inr ⟨g, cap, putCells id 0 (flatK hintCells 2 m.toArray) cur, rfl, hbase, ?_, h1, h2, by simp [putCells, h3], ?_⟩⟩, ⟨rfl, rfl, rfl, by simp [sortWorldK, putRowK, putRow, mapBlock, Sort.ahead, grow], fun k hk hne => ?_⟩⟩
  · unfold sortWorldK putRowK
    rw [heap_grow_old _ _ (by simpa [putRow, mapBlock, Sort.ahead] using hg)]
    simp [putRow, mapBlock, Sort.ahead, Array.getElem?_modify, hb, onCells]
  · rw [← flat_hints m]
    apply List.ext_getElem?
    intro j
    by_cases hj : j < l.length * 2
    · rw [List.getElem?_take_of_lt hj, Array.getElem?_toList, Array.getElem?_toList]
      simp [putCells, hl, hj, show j < cur.size by omega]
    · rw [List.getElem?_take_eq_none (by omega), List.getElem?_eq_none (by simp [hl]; omega)]
  · unfold sortWorldK putRowK
    rw [heap_grow_old _ _ (by simpa [putRow, mapBlock, Sort.ahead] using hk)]
    have : g ≠ k := fun e => hne (by rw [e])
    simp [putRow, mapBlock, Sort.ahead, Array.getElem?_modify, this]
end
section
open Go

/-- a hint more, in its place -/
def insH (h : Hint) : List Hint → List Hint
  | [] => [h]
  | y :: r => if Ahead y h then y :: insH h r else h :: y :: r
theorem perm_insH (h : Hint) (l : List Hint) : (insH h l).Perm (h :: l) := by
  induction l with
  | nil => exact List.Perm.refl _
  | cons y r ih =>
    unfold insH
    split
    · exact (ih.cons y).trans (List.Perm.swap h y r)
    · exact List.Perm.refl _
theorem hrising_insH {h : Hint} {l : List Hint} (hl : HRising l) (hn : h ∉ l) : HRising (insH h l) := by
  induction l with
  | nil => exact List.pairwise_singleton _ _
  | cons y r ih =>
    obtain ⟨h1, h2⟩ := List.pairwise_cons.1 hl
    unfold insH
    split
    · rename_i ha
      refine List.pairwise_cons.2 ⟨fun z hz => ?_, ih h2 (fun e => hn (List.mem_cons_of_mem _ e))⟩
      rcases List.mem_cons.1 ((perm_insH h r).mem_iff.1 hz) with rfl | hz
      · exact ha
      · exact h1 z hz
    · rename_i ha
      have hy : Ahead h y := ahead_tri ha (fun e => hn (by rw [e]; exact List.mem_cons_self ..))
      refine List.pairwise_cons.2 ⟨fun z hz => ?_, hl⟩
      rcases List.mem_cons.1 hz with rfl | hz
      · exact hy
      · exact ahead_trans hy (h1 z hz)
/-- hints put in one by one -/
def addAll (l : List Hint) : List Hint := l.foldl (fun acc h => insH h acc) []
theorem addAll_go : ∀ (l acc : List Hint), (l ++ acc).Nodup → HRising acc → HRising (l.foldl (fun acc h => insH h acc) acc) ∧ (l.foldl (fun acc h => insH h acc) acc).Perm (l ++ acc)
  | [], acc, _, h => ⟨h, List.Perm.refl _⟩
  | x :: l, acc, hn, h => by
    rw [List.cons_append, List.nodup_cons] at hn
    have hp := perm_insH x acc
    have h1 := addAll_go l (insH x acc) (by
      refine (List.Perm.nodup_iff (List.Perm.append_left l hp)).2 ?_
      refine (List.Perm.nodup_iff List.perm_middle).2 ?_
      exact List.nodup_cons.2 hn) (hrising_insH h (fun e => hn.1 (List.mem_append.2 (.inr e))))
    refine ⟨h1.1, h1.2.trans ?_⟩
    exact (List.Perm.append_left l hp).trans List.perm_middle
theorem addAll_ok {l : List Hint} (h : l.Nodup) : HRising (addAll l) ∧ (addAll l).Perm l := by
  have := addAll_go l [] (by simpa using h) List.Pairwise.nil
  rw [List.append_nil] at this
  exact this
end
section
open Go Go.RowKit Go.Maps Go.Lib Go.Sort

def hintsOf (c : Str) (l : List SubE) : List Hint := l.map fun y => (y.1, c)
def allHints (st : Seats) : List Hint := st.flatMap fun x => hintsOf x.1 x.2.l
def listsM (st : Seats) : List Hint := addAll (allHints st)
theorem hintsOf_nodup {c : Str} {l : List SubE} (h : SUp l) : (hintsOf c l).Nodup := by
  unfold hintsOf
  rw [List.Nodup, List.pairwise_map]
  exact List.Pairwise.imp (fun hlt e => lt_ne hlt (congrArg Prod.fst e)) h
theorem mem_allHints {st : Seats} {f c : Str} : (f, c) ∈ allHints st ↔ ∃ s, (c, s) ∈ st ∧ f ∈ s.l.map (·.1) := by
  unfold allHints hintsOf
  rw [List.mem_flatMap]
  constructor
  · rintro ⟨⟨d, s⟩, hx, h⟩
    obtain ⟨y, hy, e⟩ := List.mem_map.1 h
    cases e
    exact ⟨s, hx, List.mem_map.2 ⟨y, hy, rfl⟩⟩
  · rintro ⟨s, hx, h⟩
    obtain ⟨y, hy, rfl⟩ := List.mem_map.1 h
    exact ⟨_, hx, List.mem_map.2 ⟨y, hy, rfl⟩⟩
theorem allHints_nodup : ∀ {st : Seats}, KeyU st → (∀ x ∈ st, SUp x.2.l) → (allHints st).Nodup
  | [], _, _ => List.nodup_nil
  | x :: r, hk, hu => by
    unfold KeyU at hk
    rw [List.map_cons, List.nodup_cons] at hk
    have ih := allHints_nodup (st := r) hk.2 (fun y hy => hu y (by simp [hy]))
    unfold allHints at *
    rw [List.flatMap_cons]
    refine List.nodup_append.2 ⟨hintsOf_nodup (hu x (by simp)), ih, ?_⟩
    rintro ⟨f, c⟩ ha b hb rfl
    obtain ⟨y, -, e⟩ := List.mem_map.1 ha
    cases e
    obtain ⟨s, hs, -⟩ := mem_allHints.1 (show (y.1, x.1) ∈ allHints r from hb)
    exact hk.1 (List.mem_map.2 ⟨_, hs, rfl⟩)
theorem listsM_ok {s : MS} (h : MOk s) : HRising (listsM s.seats) ∧ (listsM s.seats).Perm (allHints s.seats) := addAll_ok (allHints_nodup h.key fun x hx => (h.ok x hx).2.2.2)
/-- what is told of the sessions that were gone through -/
def CollM (st : Seats) (left : Lit → Bool) (hs : List Hint) : Prop := hs.Nodup ∧ ∀ f c, (f, c) ∈ hs ↔ ∃ s, lookS c st = some s ∧ left (.string c) = false ∧ f ∈ s.l.map (·.1)
theorem collM_start (st : Seats) {left : Lit → Bool} (h : ∀ c s, lookS c st = some s → left (.string c) = true) : CollM st left [] := ⟨List.nodup_nil, fun f c => ⟨fun h => (by cases h), fun ⟨s, h1, h2, _⟩ => (by rw [h c s h1] at h2; cases h2)⟩⟩
theorem collM_step {st : Seats} {left : Lit → Bool} {hs : List Hint} (h : CollM st left hs) {c : Str} {s : Seat} (hc : lookS c st = some s) (hl : left (.string c) = true) (hU : SUp s.l) :
    CollM st (fun z => left z && !z.sameKey (.string c)) (hs ++ hintsOf c s.l) := by
  refine ⟨List.nodup_append.2 ⟨h.1, hintsOf_nodup hU, ?_⟩, fun f d => ?_⟩
  · rintro ⟨f, d⟩ ha b hb rfl
    obtain ⟨y, -, e⟩ := List.mem_map.1 hb
    cases e
    obtain ⟨_, _, h2, _⟩ := (h.2 _ _).1 ha
    rw [hl] at h2; cases h2
  · rw [List.mem_append, h.2]
    constructor
    · rintro (⟨x, h1, h2, h3⟩ | h1)
      · exact ⟨x, h1, (by show (left _ && _) = false; rw [h2]; rfl), h3⟩
      · obtain ⟨y, hy, e⟩ := List.mem_map.1 h1
        cases e
        exact ⟨s, hc, by simp [Lit.sameKey], List.mem_map.2 ⟨y, hy, rfl⟩⟩
    · rintro ⟨x, h1, h2, h3⟩
      by_cases e : d = c
      · subst e
        rw [hc] at h1
        cases h1
        obtain ⟨y, hy, rfl⟩ := List.mem_map.1 h3
        exact .inr (List.mem_map.2 ⟨y, hy, rfl⟩)
      · refine .inl ⟨x, h1, ?_, h3⟩
        simpa [Lit.sameKey, e] using h2
theorem collM_done {s : MS} (hO : MOk s) {left : Lit → Bool} {hs : List Hint} (h : CollM s.seats left hs) (hl : ∀ kl, left kl = false) : hs.Perm (listsM s.seats) := by
  obtain ⟨-, h2⟩ := listsM_ok hO
  refine List.Perm.trans ?_ h2.symm
  refine (List.perm_ext_iff_of_nodup h.1 (allHints_nodup hO.key fun x hx => (hO.ok x hx).2.2.2)).2 fun ⟨f, c⟩ => ?_
  rw [h.2, mem_allHints]
  constructor
  · rintro ⟨x, h1, -, h3⟩
    exact ⟨x, lookS_mem h1, h3⟩
  · rintro ⟨x, h1, h3⟩
    exact ⟨x, lookS_of_mem hO.key h1, hl _, h3⟩

theorem ranges_keep {k : TypeId} {R : Value → Option (DataW Unit × List MemPlace)} {W W1 : World} {b r n cnt : Nat} {D : DataW Unit} {left : Lit → Bool} (h : W.ranges Tryz.prog k R b r n D left cnt) (h1 : W1.heap[b]? = W.heap[b]?) (h2 : W1.heap[r]? = W.heap[r]?) : W1.ranges Tryz.prog k R b r n D left cnt := by
  obtain ⟨es, clock, since, seen, c0, a1, a2, a3, a4, a5, a6⟩ := h
  exact ⟨es, clock, since, seen, c0, h1.trans a1, a2, a3, a4, h2.trans a5, a6⟩
theorem iter_lt {k : TypeId} {R : Value → Option (DataW Unit × List MemPlace)} {W : World} {b r n cnt : Nat} {D : DataW Unit} {left : Lit → Bool} (h : W.ranges Tryz.prog k R b r n D left cnt) : b < W.heap.size ∧ r < W.heap.size := by
  obtain ⟨es, clock, since, seen, c0, a1, a2, a3, a4, a5, a6⟩ := h
  exact ⟨(Array.getElem?_eq_some_iff.1 a1).1, (Array.getElem?_eq_some_iff.1 a5).1⟩
theorem iter_ne {k : TypeId} {R : Value → Option (DataW Unit × List MemPlace)} {w : World} {b r n : Nat} {D : DataW Unit} {left : Lit → Bool} {cnt base : Nat} {e : TypeId} {size : Nat} {v : Value} {m : Nat} {xs : List Value}
    (h : w.ownsRow base e size v m xs) (hr : w.ranges Tryz.prog k R b r n D left cnt) : some r ≠ v.ownBlock := by
  obtain ⟨_, _, _, _, _, _, _, _, _, hit, _⟩ := hr
  rcases h.2 with ⟨rfl, _⟩ | ⟨g, cap, cur, rfl, _, hb, _⟩
  · simp [Value.ownBlock]
  · intro e1
    have : r = g := by simpa [Value.ownBlock] using e1
    subst this
    rw [hit] at hb
    cases hb
theorem low_ne {w : World} {base : Nat} {e : TypeId} {size : Nat} {v : Value} {n : Nat} {xs : List Value} (h : w.ownsRow base e size v n xs) {b : Nat} (hb : b < base) : some b ≠ v.ownBlock := fun e1 => by
  have := (h.lt b e1.symm).1
  omega
theorem own_ne {w : World} {B B' : Nat} {e e' : TypeId} {s s' n n' : Nat} {v v' : Value} {xs xs' : List Value} (h : w.ownsRow B e s v n xs) (h' : w.ownsRow B' e' s' v' n' xs') (he : e ≠ e') : ∀ k, v.ownBlock = some k → v'.ownBlock ≠ some k := by
  intro k hk hk'
  rcases h.2 with ⟨rfl, _⟩ | ⟨g, cap, cur, rfl, _, hb, _⟩
  · simp [Value.ownBlock] at hk
  · rcases h'.2 with ⟨rfl, _⟩ | ⟨g', cap', cur', rfl, _, hb', _⟩
    · simp [Value.ownBlock] at hk'
    · obtain rfl : g = k := by simpa [Value.ownBlock] using hk
      obtain rfl : g' = g := by simpa [Value.ownBlock] using hk'
      rw [hb] at hb'
      simp at hb'
      exact he hb'.2

theorem wpList_appN {P : Program} {t e : TypeId} {z : Value} {size bytes : Nat} (E : ElemT P t e z size bytes) {w0 w : World} {B : Nat} {v : Value} {n : Nat} {xs : List Value} (hown : w.ownsRow B e size v n xs) (hbel : Below B w0 w) (hB : B ≤ w.heap.size) {nb : Nat} (hnb : nb = w.heap.size)
    {ops : Array Oper} {rest : List Oper} {o : Oper} {a : Act} {Q : Exit → Act → World → Prop} {s x : Operand} {cur : Array Value} {m c : Nat}
    (hgd : o.guard = none) (ho : o.op = .call { callee := .builtin .append, args := #[s, x], argTypes := #[t, t] }) (hs : a.eval s = v) (hx : a.eval x = .slice (some ⟨nb, 0, none⟩) m c)
    (hc : cur.size = m * size) (h1 : ∀ u ∈ cur.toList, u.oneCell' = true) (hbytes : (n + m) * bytes ≤ 140737488355328) (hn : n + m < 140737488355328)
    (h : ∀ v' w', w'.ownsRow B e size v' (n + m) (xs ++ cur.toList) → Below B w0 w' → B ≤ w'.heap.size → (w.alloc (.cells cur e)).grownBy w' v.ownBlock → wpList P ops Q rest (a.put o.dst v') w') : wpList P ops Q (o :: rest) a (w.alloc (.cells cur e)) := by
  subst hnb
  exact wpList_appG E hown hbel hB hgd ho hs hx hc h1 hbytes hn h
theorem mlays_any (blk off size : Nat) (w : World) : CmpLays Tryz.prog 36 #[] hintCells 2 cmpH blk off size w :=
  fun _ _ _ _ x y => closure_any x y _
theorem msort_any (g cap : Nat) (l Gs : List Hint) (w : World) (hH : HoldsK hintCells 2 w g 0 l.toArray) (hg : g < w.heap.size) (hl : l.length < 1000000) (hG : HRising Gs) (hp : l.Perm Gs) :
    Calls Tryz.prog 35 #[.slice (some ⟨g, 0, none⟩) l.length cap, .func (.func 36) #[] #[]] w fun e w' => e = .returned (.tuple #[]) ∧ ∃ n os, w' = sortWorldK hintCells 2 w g 0 n Gs.toArray os := by
  have eg : ∀ args w, (callFunc 36 args).run Tryz.prog w = .ok (.enter 36 args) w := enters_of Tryz.func36 (by kernel_rfl) rfl
  have hz : l.toArray.size = l.length := by simp
  have hsc := AnyQ.slices_SortFunc_total Tryz.sortF35 2 Tryz.isAgg65 Tryz.sizeOf65 hintCells (fun _ => rfl) hint_one cmpH swo_hint 36 #[] g 0 cap l.toArray w
    eg (mlays_any g 0 _ w) hH hg (by rw [hz]; omega) tot_hint
  rw [hz] at hsc
  change Calls Tryz.prog 35 _ _ _ at hsc
  have hm : (l.toArray.toList.mergeSort fun x y => !(ltOf cmpH) y x) = Gs := sort_hints hG hp
  rw [hm] at hsc
  exact hsc
/-- hints of the call's own, sorted -/
theorem mownsort_any (B : Nat) (v : Value) (l Gs : List Hint) (w : World) (hown : w.ownsRow B 65 2 v l.length (hintsV l)) (hl : l.length < 1000000) (hG : HRising Gs) (hp : l.Perm Gs) :
    Calls Tryz.prog 35 #[v, .func (.func 36) #[] #[]] w fun e w' => e = .returned (.tuple #[]) ∧ w'.ownsRow B 65 2 v Gs.length (hintsV Gs) ∧ w.grownBy w' v.ownBlock := by
  have hlen := hp.length_eq
  rcases hown.2 with ⟨rfl, hn0⟩ | ⟨g, cap, cur, rfl, hbase, hgb, hnc, hcm, hcs, htk⟩
  · have hg0 : Gs = [] := List.eq_nil_of_length_eq_zero (by omega)
    subst hg0
    have hsc := AnyF.slices_SortFunc_none Tryz.sortF35 none 0 (.func (.func 36) #[] #[]) w
    change Calls Tryz.prog 35 _ _ _ at hsc
    refine hsc.mono ?_
    rintro e w' ⟨rfl, rfl⟩
    exact ⟨rfl, World.ownsRow_nil _ _ _ _, World.grownBy.refl _ _⟩
  · refine (msort_any g cap l Gs w (holds_hints hgb htk) (Array.getElem?_eq_some_iff.1 hgb).1 hl hG hp).mono ?_
    rintro e w' ⟨rfl, n, os, rfl⟩
    obtain ⟨ho, hg⟩ := own_sorted (n := n) (os := os) (l := l) (m := Gs) hlen.symm hbase hgb hnc hcm hcs
    rw [hlen] at ho ⊢
    exact ⟨rfl, ho, hg⟩
theorem mlists_nil (w : World) : Calls Tryz.prog 15 #[.pointer none] w fun e w' => e = .returned (.slice none 0 0) ∧ w = w' := by
  go_enter Tryz.func15, Tryz.ntmps15
  go_wp2_with fail
  go_ret
  exact ⟨rfl, rfl⟩
theorem hintsOf_len (c : Str) (l : List SubE) : (hintsOf c l).length = l.length := by simp [hintsOf]
set_option maxRecDepth 100000 in
set_option maxHeartbeats 4000000 in
theorem mlists_any (m N : Nat) (s : MS) (F : List Nat) (w : World) (h : MRep w m N s F) (hO : MOk s) (hN : N ≤ 10000) :
    Calls Tryz.prog 15 #[.pointer (some ⟨m, 0, none⟩)] w fun e w' => ∃ v, e = .returned v ∧ w'.ownsRow w.heap.size 65 2 v (listsM s.seats).length (hintsV (listsM s.seats)) ∧ Below w.heap.size w w' ∧ Hid ((listsM s.seats).length ≤ 160000) := by
  obtain ⟨sb, kg, KF, bl, h, -⟩ := h
  have c0 := cell_of_row w m 0 _ _ _ h.top
  simp only [List.getElem?_toArray, List.getElem?_cons_zero] at c0
  obtain ⟨D, hown, hDN, hD⟩ := h.map
  have hsb := hown.lt
  have HFAM := Lib.hid h.fam
  have HD := Lib.hid hD
  have HOK := Lib.hid hO
  have HSB := Lib.hid (fun l => subs_any l)
  have HST : Hid (∀ c s', lookS c s.seats = some s' → Maps.has D (.string c) = true) := Lib.hid (fun c s' hc => by rw [(hD c).1, seatB_some hc]; rfl)
  clear h hO hD
  go_enter Tryz.func15, Tryz.ntmps15
  go_wp2_with (first
    | (at_range; refine wpList_range_own _ rfl _ 42 rfl 9 73 kS Tryz.underlying42 ptrElem sb _ _ rfl hown ?_; intro w0 hrg0 hg0 hs0)
    | fail)
  go_frame
  clear hs0
  go_loopw [3, 4, 5] (fun v _ _ wr => ∃ (left : Lit → Bool) (cnt : Nat) (hs : List Hint), wr.ranges Tryz.prog 9 ptrElem sb w.heap.size (Maps.size D) D left cnt ∧ hs.length + 16 * cnt ≤ 16 * Maps.size D ∧ cnt ≤ Maps.size D ∧
      wr.ownsRow w.heap.size 65 2 v hs.length (hintsV hs) ∧ CollM s.seats left hs ∧ Below w.heap.size w wr)
    (fun _ _ _ wr => wr.rangeLeft sb w.heap.size)
  case atStart => exact ⟨_, _, [], hrg0, by simp, Nat.le_refl _, World.ownsRow_nil _ _ _ _, collM_start _ HST.out, (Below.refl _ _).grown hg0 (Nat.le_refl _) (fun j hj => by cases hj)⟩
  case round =>
    obtain ⟨left, cnt, hs, hrg, hcs, hcs2, hrow, hC, hnx⟩ := hrel
    have HC := Lib.hid hC
    have HNX := Lib.hid hnx
    have HROW := Lib.hid hrow
    clear hC hnx hrow hown
    go_wp2_with (first
      | (at_next; refine wpList_next_ranges _ rfl _ rfl 9 kS ptrElem (fun v => v) (fun v => v) (fun key _ _ => ⟨key, rfl⟩) (fun v y _ => ⟨v, rfl⟩) sb w.heap.size _ _ _ _ rfl hrg ?_ ?_)
      | fail)
    · intro hc0 hl0
      have hP := collM_done HOK.out HC.out hl0
      have HLEN := Lib.hid (show (listsM s.seats).length ≤ 160000 by have := hP.length_eq; omega)
      have HSO := Lib.hid (mownsort_any w.heap.size _ hs (listsM s.seats) wr HROW.out (by omega) (listsM_ok HOK.out).1 hP)
      clear hP hl0 hcs
      go_wp2_with fail
      refine HSO.out.mono ?_
      rintro e w' ⟨rfl, hrow', hgr⟩
      have HR2 := Lib.hid hrow'
      have HB2 := Lib.hid (HNX.out.grown hgr HNX.out.size (fun k hk => (HROW.out.lt k hk).1))
      clear hrow' hgr
      go_wp2_with fail
      go_ret
      exact ⟨_, rfl, HR2.out, HB2.out, HLEN⟩
    · intro x c kl yd yp w2 cnt2 hkey hlk hv hat hrg2 hlt hg2 hs2 hen
      obtain ⟨z, rfl, rfl, hzl⟩ := Maps.keyOf_str Tryz.underlying9 hkey
      have hhas : Maps.has D (.string z) = true := has_true_of_atKey hat
      obtain ⟨x, hx, hxc⟩ : ∃ x, lookS z s.seats = some x ∧ c = .pointer (some ⟨(bl z).1, 0, none⟩) := by
        obtain ⟨h1, h2⟩ := HD.out z
        rw [hhas] at h1
        cases ho : lookS z s.seats with
        | none => rw [seatB_none ho] at h1; cases h1
        | some x =>
          refine ⟨x, rfl, ?_⟩
          have h3 := h2 _ (seatB_some ho) yd
          rw [hat] at h3
          subst h3
          exact ptrElem_inv hv
      subst hxc
      have hb2 := HNX.out.grown hg2 HNX.out.size (fun j hj => by cases hj; exact Nat.le_refl _)
      have hrow2 := HROW.out.kept hg2 (Or.inr (iter_ne HROW.out hrg).symm)
      have hfx := HFAM.out.below seat_local hb2
      obtain ⟨lb, G, d0, -, -, hsr⟩ := (hfx.rep z x hx).cells
      have h16 := hsr.len
      have HSS := Lib.hid (HSB.out lb x.l G w2 hsr)
      have HR2 := Lib.hid hrow2
      have HB2 := Lib.hid hb2
      have HRG := Lib.hid hrg2
      have HRGL := Lib.hid hrg.left_eq
      have HCN := Lib.hid (collM_step HC.out hx hlk (HOK.out.look hx).2.2.2)
      have HLT := Lib.hid hlt
      replace hen : (Instr.entry (.pointer (some ⟨w.heap.size, 0, none⟩))).run Tryz.prog w2 = .ok (.tuple #[.string ⟨z.toArray⟩, .pointer (some ⟨(bl z).1, 0, none⟩)]) w2 := hen
      clear hrg hrg2 hrow2 hsr hfx hx hv hat hkey hlk hb2 hg2 hs2 hhas HROW HNX HC hlt
      go_wp2_with fail
      refine HSS.out.mono ?_
      rintro e w3 ⟨sv, rfl, hsub, hk3⟩
      have HSUB := Lib.hid hsub
      have HRG3 := Lib.hid (ranges_keep HRG.out (hk3.block _ (iter_lt HRG.out).1) (hk3.block _ (iter_lt HRG.out).2))
      have HR3 := Lib.hid (ownsRow_local HR2.out fun k hk => hk3.block k (HR2.out.lt k hk).2)
      have HB3 := Lib.hid (bnext HB2.out (Nat.le_refl _) hk3)
      obtain ⟨sa, sc, rfl, -, hslc, -⟩ := ownsRow_row hsub
      clear hsub hk3 HSS HR2 HRG HB2
      have HHL := Lib.hid (fun l => hintsOf_len z l)
      have hcs3 : hs.length + x.l.length + 16 * cnt2 ≤ 16 * Maps.size D := by have := HLT.out; omega
      have hsz3 := HB3.out.size
      go_wp2_with fail
      go_loopw [3, 26] (fun v i wq => ∃ k : Nat, i = .int .i64 k ∧ k ≤ x.l.length ∧ wq.ranges Tryz.prog 9 ptrElem sb w.heap.size (Maps.size D) D (fun y => left y && !y.sameKey (.string z)) cnt2 ∧
          wq.ownsRow w.heap.size 65 2 v (hs.length + k) (hintsV (hs ++ hintsOf z (x.l.take k))) ∧ wq.ownsRow w2.heap.size 39 2 (.slice sa x.l.length sc) x.l.length (subsV x.l) ∧ Below w.heap.size w wq)
        (fun _ i _ => (x.l.length - intOf i).toNat)
      case atStart => exact ⟨0, rfl, by omega, HRG3.out, by simpa [hintsOf] using HR3.out, HSUB.out, HB3.out⟩
      case round =>
        obtain ⟨k, rfl, hkl, hrgq, hrowq, hsubq, hbq⟩ := hrel
        by_cases hlt : k < x.l.length
        · have hkI : (k : Int) < x.l.length := by omega
          have hk0 : (0 : Int) ≤ k := by omega
          obtain ⟨a1, c1, e1, hr1, -, -⟩ := ownsRow_row hsubq
          cases e1
          obtain ⟨b1, o1, rfl, d0, d1⟩ := subs_row hr1 hlt
          have HTK := Lib.hid (show hs ++ hintsOf z (x.l.take k) ++ [(x.l[k].1, z)] = hs ++ hintsOf z (x.l.take (k + 1)) by
            rw [List.take_succ_eq_append_getElem hlt, hintsOf, hintsOf, List.map_append, List.append_assoc]; rfl)
          generalize x.l[k] = y at *
          obtain ⟨yf, yq⟩ := y
          dsimp only at *
          have hrow2 := hrowq.alloc (.cells #[.string ⟨yf.toArray⟩, .int .u8 yq] 39)
          have hb2 := hbq.alloc hbq.size (.cells #[.string ⟨yf.toArray⟩, .int .u8 yq] 39)
          have hs2 := hb2.size
          have HNB := Lib.hid (show wr.heap.size + 1 = (wr.alloc (.cells #[.string ⟨yf.toArray⟩, .int .u8 yq] 39)).heap.size by simp)
          have n0 := cell_of_row _ _ 0 _ _ _ (heap_alloc_new wr (.cells #[.string ⟨yf.toArray⟩, .int .u8 yq] 39))
          simp only [List.getElem?_toArray, List.getElem?_cons_zero] at n0
          have HFR : Hid (∀ W, (((wr.alloc (.cells #[.string ⟨yf.toArray⟩, .int .u8 yq] 39)).alloc (.cells #[.string ⟨yf.toArray⟩, .string ⟨z.toArray⟩] 65)).grownBy W u3.ownBlock) →
              W.ranges Tryz.prog 9 ptrElem sb w.heap.size (Maps.size D) D (fun y => left y && !y.sameKey (.string z)) cnt2 ∧ W.ownsRow w2.heap.size 39 2 (.slice (some ⟨b1, o1, none⟩) x.l.length sc) x.l.length (subsV x.l)) := Lib.hid (fun W hg => by
            obtain ⟨i1, i2⟩ := iter_lt hrgq
            have ks : ∀ k, k < wr.heap.size → u3.ownBlock ≠ some k → W.heap[k]? = wr.heap[k]? := fun k hk hne => by
              rw [hg.block k (by simp; omega) (fun e => hne e.symm), Below.heap_alloc _ _ _ (by simp; omega), Below.heap_alloc _ _ _ hk]
            refine ⟨ranges_keep hrgq (ks _ i1 fun e => (low_ne hrowq hsb) e.symm) (ks _ i2 fun e => (iter_ne hrowq hrgq) e.symm), ownsRow_local hsubq fun k hk => ks k (hsubq.lt k hk).2 fun e => own_ne hsubq hrowq (by decide) k hk e⟩)
          have hxl : (hs ++ hintsOf z (x.l.take k)).length = hs.length + k := by rw [List.length_append, HHL.out, List.length_take]; omega
          clear hrgq hsubq hr1 hrowq hbq
          go_wp2_with (first | (at_builtin; refine wpList_appN T_hint hrow2 hb2 hs2 HNB.out rfl rfl rfl rfl (by rfl) (by simp [Value.oneCell']) (by omega) (by omega) ?_; intro v' w8 hown' hbel3 hsz3 hg3) | fail)
          obtain ⟨f1, f2⟩ := HFR.out _ hg3
          have HOW := Lib.hid hown'
          clear hown' hg3 hrow2
          go_roundw
          case rel => exact ⟨k + 1, by go_num, by omega, f1, by rw [← HTK.out, hintsV_append]; exact HOW.out, f2, hbel3⟩
          case measure => simp [intOf]; omega
        · obtain rfl : k = x.l.length := by omega
          have hkI : ¬ (x.l.length : Int) < x.l.length := by omega
          rw [List.take_length] at hrowq
          have HROWQ := Lib.hid hrowq
          clear hrowq hsubq
          go_wp2_with fail
          go_roundw
          case rel => exact ⟨_, cnt2, hs ++ hintsOf z x.l, hrgq, by rw [List.length_append, HHL.out]; omega, by omega, by rw [List.length_append, HHL.out]; exact HROWQ.out, HCN.out, hbq⟩
          case measure => rw [hrgq.left_eq, HRGL.out]; exact HLT.out
end
end Go.Proofs.YthfeckndkmhieaaGreatDoor
