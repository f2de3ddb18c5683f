/- The set of ids: New, Knows, First, Rel, Forget walked. -/
import Derived.Test.YtmkhagmjpbfieaaGreatDoorISet
import Derived.Test.YtmkhagmjpbfieaaGreatDoorUS14
namespace Go.Proofs.YtmkhagmjpbfieaaGreatDoor
open Go Go.RowKit Go.Maps

theorem cnew (w : World) : Calls Tryz.prog 29 #[] w fun e w' => ∃ g F, e = .returned (.pointer (some ⟨g, 0, none⟩)) ∧ CRep w' g [] F ∧ Upd [] F w w' := by
  have hmm := @run_makeMap Tryz.prog
  go_enter Tryz.func29, Tryz.ntmps29
  go_wp2_with fail
  go_ret
  refine ⟨w.heap.size + 1, [w.heap.size + 1, w.heap.size], rfl, ⟨w.heap.size, .map [], by simpa using heap_alloc_new (w.alloc (.map #[] 0)) (.cells #[.map (some w.heap.size)] 109), (World.ownsMap_made w _ _ _).alloc _, rfl, fun x _ _ => by simp [Maps.has], by simp, by simp, by omega, rfl⟩, ((Mod.refl _ _).alloc _).alloc _, fun k hk => .inr ?_⟩
  simp at hk
  omega

theorem cknows_any (b : Bool) (g : Nat) (x : Int) (l : List Int) (F : List Nat) (w : World) (h : CRep w g l F) (hx0 : 0 ≤ x) (hx1 : x ≤ 65535) (hb : decide (x ∈ l) = b) :
    Calls Tryz.prog 87 #[.pointer (some ⟨g, 0, none⟩), .int .u16 x] w fun e w' => e = .returned (.bool b) ∧ Below w.heap.size w w' := by
  obtain ⟨m, D, hg, hown, h1, h2, h3, h4, h5, -⟩ := h
  have c0 := cell_of_row w g 0 _ _ _ hg
  simp only [List.getElem?_toArray, List.getElem?_cons_zero] at c0
  have h2x := h2 x hx0 hx1
  rw [hb] at h2x
  have H2 := Lib.hid h2x
  clear h2 h2x hb h1 h3 h4 hg
  go_enter Tryz.func87, Tryz.ntmps87
  go_wp2_with (first | (at_lookup; refine wpList_lookup_own_unit _ rfl _ _ 107 rfl 32 130 kU Tryz.underlying107 (zeroUnit _) m _ D rfl hown _ _ rfl (keyOf_int_mk Tryz.underlying32 (wfU hx0 hx1)) ?_; rw [H2.out]) | fail)
  go_ret
  exact ⟨rfl, (Below.refl _ _).alloc (Nat.le_refl _) _⟩

theorem has_ins {D : DataW Unit} (hD : IsMap D) {l : List Int} (h : ∀ x, 0 ≤ x → x ≤ 65535 → Maps.has D (.int .u16 x) = decide (x ∈ l)) (x : Int) (d : DataW Unit) (y : Int) (h0 : 0 ≤ y) (h1 : y ≤ 65535) : Maps.has (D.put (.int .u16 x) d) (.int .u16 y) = decide (y ∈ ins x l) := by
  by_cases e : y = x
  · subst e
    rw [has_put_same hD (show WideAt.IsKeyLit (.int .u16 y) from trivial)]
    simp [mem_ins]
  · rw [has_put_other (by simpa using e), h y h0 h1]
    simp [mem_ins, e]
theorem has_out {D : DataW Unit} {l : List Int} (h : ∀ x, 0 ≤ x → x ≤ 65535 → Maps.has D (.int .u16 x) = decide (x ∈ l)) (x : Int) (y : Int) (h0 : 0 ≤ y) (h1 : y ≤ 65535) : Maps.has (D.del (.int .u16 x)) (.int .u16 y) = decide (y ∈ out x l) := by
  by_cases e : y = x
  · subst e
    rw [has_del_same]
    simp [mem_out]
  · rw [has_del_other (by simpa using e), h y h0 h1]
    simp [mem_out, e]

theorem eqn : ∀ (w : World) (r : Option Nat), (binOp .eql 107 (.map r) (.map none)).run Tryz.prog w = .ok (.bool r.isNone) w := fun w r => run_eql_map_nil w _ _ _ r Tryz.underlying107
theorem cfirst_no (g : Nat) (x : Int) (l : List Int) (F : List Nat) (w : World) (h : CRep w g l F) (hx0 : 0 ≤ x) (hx1 : x ≤ 65535) (hb : x = 0 ∨ x ∈ l) :
    Calls Tryz.prog 45 #[.pointer (some ⟨g, 0, none⟩), .int .u16 x] w fun e w' => e = .returned (.bool false) ∧ CRep w' g l F ∧ Upd F F w w' := by
  have H := Lib.hid h
  obtain ⟨m, D, hg, -, -⟩ := h
  have c0 := cell_of_row w g 0 _ _ _ hg
  simp only [List.getElem?_toArray, List.getElem?_cons_zero] at c0
  have eqn := eqn
  clear hg
  by_cases hz : x = 0
  · subst hz
    go_enter Tryz.func45, Tryz.ntmps45
    go_wp2_with fail
    go_ret
    exact ⟨rfl, H.out, Mod.refl _ _, fun k hk => .inl hk⟩
  · have hbx : decide (x ∈ l) = true := by rcases hb with h | h <;> simp_all
    have hz' : (x == 0) = false := by simpa using hz
    have HB := Lib.hid hbx
    clear hb hbx hz
    go_enter Tryz.func45, Tryz.ntmps45
    go_wp2_with fail
    refine (cknows_any true g x l F _ H.out hx0 hx1 HB.out).mono ?_
    rintro e w1 ⟨rfl, hk⟩
    go_wp2_with fail
    go_ret
    exact ⟨rfl, H.out.below hk, Mod.of_below hk _, fun k hk => .inl hk⟩

theorem upd_after {F F' : List Nat} {w w1 w2 : World} (hk : Below w.heap.size w w1) (hu : Upd F F' w1 w2) : Upd F F' w w2 :=
  ⟨(Mod.of_below hk F).trans hu.1 (fun _ h => .inl h), fun k h => (hu.2 k h).imp id (fun h => Nat.le_trans hk.size h)⟩
/-- What a store into the map's block leaves. -/
theorem crep_turned {w w' : World} {g m n : Nat} {D : DataW Unit} {l : List Int} (hg : w.heap[g]? = some (.cells #[.map (some m)] 109 (0, 0))) (hne : m ≠ g) (hown : w'.ownsMap Tryz.prog 32 unitElem m n D) (ht : w.grownBy w' (some m))
    (h1 : Maps.size D = l.length) (h2 : ∀ x, 0 ≤ x → x ≤ 65535 → Maps.has D (.int .u16 x) = decide (x ∈ l)) (h3 : l.Pairwise (· < ·)) (h4 : ∀ x ∈ l, 1 ≤ x ∧ x ≤ 65535) : CRep w' g l [g, m] ∧ Upd [g, m] [g, m] w w' :=
  ⟨⟨m, D, by rw [ht.block g (Array.getElem?_eq_some_iff.1 hg).1 (by simpa using fun e => hne e.symm)]; exact hg, owns_tight hown, h1, h2, h3, h4, hne, rfl⟩,
    (Mod.refl _ _).grown ht (fun k hk => by cases hk; left; simp), fun k hk => .inl hk⟩
theorem cfirst_yes (g : Nat) (x : Int) (l : List Int) (F : List Nat) (w : World) (h : CRep w g l F) (hx0 : 1 ≤ x) (hx1 : x ≤ 65535) (hb : x ∉ l) :
    Calls Tryz.prog 45 #[.pointer (some ⟨g, 0, none⟩), .int .u16 x] w fun e w' => e = .returned (.bool true) ∧ CRep w' g (ins x l) F ∧ Upd F F w w' := by
  have H := Lib.hid h
  have hlen := h.len
  obtain ⟨m, D, hg, hown, h1, h2, h3, h4, h5, rfl⟩ := h
  have c0 := cell_of_row w g 0 _ _ _ hg
  simp only [List.getElem?_toArray, List.getElem?_cons_zero] at c0
  have hbx : decide (x ∈ l) = false := by simpa using hb
  have hz' : (x == 0) = false := by simp; omega
  have HB := Lib.hid hbx
  have HS := Lib.hid h1
  have HH := Lib.hid h2
  have HG := Lib.hid hg
  have HN := Lib.hid hb
  have hsz : Maps.size D < maxLen := by unfold maxLen; omega
  have eqn := eqn
  have hx0' : 0 ≤ x := by omega
  clear hb hbx h1 h2 hg
  go_enter Tryz.func45, Tryz.ntmps45
  go_wp2_with fail
  refine (cknows_any false g x l _ _ H.out hx0' hx1 HB.out).mono ?_
  rintro e w1 ⟨rfl, hk⟩
  have hgl : g < w.heap.size := (Array.getElem?_eq_some_iff.1 HG.out).1
  have HG1 := Lib.hid (show w1.heap[g]? = some (.cells #[.map (some m)] 109 (0, 0)) by rw [hk.block g hgl]; exact HG.out)
  have c1 := cell_of_row w1 g 0 _ _ _ HG1.out
  simp only [List.getElem?_toArray, List.getElem?_cons_zero] at c1
  have hown1 := hown.kept (row := none) ⟨hk.os, hk.tape, hk.output, hk.size, fun k hk' _ => hk.block k hk'⟩ (by simp)
  clear c0 hown
  go_wp2_with (first | (at_mapUpdate; refine wpList_mapUpdate_own _ rfl _ _ _ 107 rfl 32 130 kU Tryz.underlying107 _ m _ _ rfl hown1 hsz _ _ _ rfl rfl (keyOf_int_mk Tryz.underlying32 (wfU hx0' hx1)) _ [] unitElem_mk ?_; intro w2 hown2 hgrow2) | fail)
  go_ret
  have hT := hown1.tidy kU
  obtain ⟨r1, r2⟩ := crep_turned (l := ins x l) HG1.out h5 hown2 hgrow2 (by rw [size_put hT, if_neg (by rw [HH.out x hx0' hx1]; simpa using HN.out), length_ins, HS.out]) (fun y hy0 hy1 => has_ins hT.isMap HH.out x _ y hy0 hy1) (ins_sorted h3 HN.out)
    (fun y hy => ((mem_ins x y l).1 hy).elim (fun e => by omega) (fun hy => h4 y hy))
  exact ⟨rfl, r1, upd_after hk r2⟩

theorem crel_no (g : Nat) (x : Int) (l : List Int) (F : List Nat) (w : World) (h : CRep w g l F) (hx0 : 0 ≤ x) (hx1 : x ≤ 65535) (hb : x ∉ l) :
    Calls Tryz.prog 47 #[.pointer (some ⟨g, 0, none⟩), .int .u16 x] w fun e w' => e = .returned (.bool false) ∧ CRep w' g l F ∧ Upd F F w w' := by
  have H := Lib.hid h
  have HB := Lib.hid (show decide (x ∈ l) = false by simpa using hb)
  clear h hb
  go_enter Tryz.func47, Tryz.ntmps47
  go_wp2_with fail
  refine (cknows_any false g x l F _ H.out hx0 hx1 HB.out).mono ?_
  rintro e w1 ⟨rfl, hk⟩
  go_wp2_with fail
  go_ret
  exact ⟨rfl, H.out.below hk, Mod.of_below hk _, fun k hk => .inl hk⟩
theorem crel_yes (g : Nat) (x : Int) (l : List Int) (F : List Nat) (w : World) (h : CRep w g l F) (hx0 : 0 ≤ x) (hx1 : x ≤ 65535) (hb : x ∈ l) :
    Calls Tryz.prog 47 #[.pointer (some ⟨g, 0, none⟩), .int .u16 x] w fun e w' => e = .returned (.bool true) ∧ CRep w' g (out x l) F ∧ Upd F F w w' := by
  have H := Lib.hid h
  obtain ⟨m, D, hg, hown, h1, h2, h3, h4, h5, rfl⟩ := h
  have HB := Lib.hid (show decide (x ∈ l) = true by simpa using hb)
  have HS := Lib.hid h1
  have HH := Lib.hid h2
  have HG := Lib.hid hg
  have HN := Lib.hid hb
  clear hb h1 h2 hg
  go_enter Tryz.func47, Tryz.ntmps47
  go_wp2_with fail
  refine (cknows_any true g x l _ _ H.out hx0 hx1 HB.out).mono ?_
  rintro e w1 ⟨rfl, hk⟩
  have hgl : g < w.heap.size := (Array.getElem?_eq_some_iff.1 HG.out).1
  have HG1 := Lib.hid (show w1.heap[g]? = some (.cells #[.map (some m)] 109 (0, 0)) by rw [hk.block g hgl]; exact HG.out)
  have c1 := cell_of_row w1 g 0 _ _ _ HG1.out
  simp only [List.getElem?_toArray, List.getElem?_cons_zero] at c1
  have hown1 := hown.kept (row := none) ⟨hk.os, hk.tape, hk.output, hk.size, fun k hk' _ => hk.block k hk'⟩ (by simp)
  clear hown
  go_wp2_with (first | (at_delete; refine wpList_delete_own _ rfl _ _ 107 32 rfl 130 kU Tryz.underlying107 _ m _ _ rfl hown1 _ _ rfl (keyOf_int_mk Tryz.underlying32 (wfU hx0 hx1)) ?_; intro w2 hown2 hturn2) | fail)
  go_ret
  have hT := hown1.tidy kU
  obtain ⟨r1, r2⟩ := crep_turned (l := out x l) HG1.out h5 hown2 hturn2.grown (by have := size_del (k := .int .u16 x) hT; rw [if_pos (by rw [HH.out x hx0 hx1]; exact HB.out), HS.out] at this; have := length_out h3 HN.out; omega) (fun y hy0 hy1 => has_out HH.out x y hy0 hy1) (out_sorted h3)
    (fun y hy => h4 y ((mem_out x y l).1 hy).1)
  exact ⟨rfl, r1, upd_after hk r2⟩
theorem cforget (g : Nat) (l : List Int) (F : List Nat) (w : World) (h : CRep w g l F) :
    Calls Tryz.prog 58 #[.pointer (some ⟨g, 0, none⟩)] w fun e w' => e = .returned (.tuple #[]) ∧ CRep w' g [] F ∧ Upd F F w w' := by
  obtain ⟨m, D, hg, hown, h1, h2, h3, h4, h5, rfl⟩ := h
  have c1 := cell_of_row w g 0 _ _ _ hg
  simp only [List.getElem?_toArray, List.getElem?_cons_zero] at c1
  have HG := Lib.hid hg
  clear hg h1 h2 h3 h4
  go_enter Tryz.func58, Tryz.ntmps58
  go_wp2_with (first | (refine wpList_clear_map _ rfl _ 107 32 130 rfl Tryz.underlying107 _ m _ _ rfl hown ?_; intro w2 hown2 hturn2) | fail)
  go_end0
  obtain ⟨r1, r2⟩ := crep_turned (l := []) HG.out h5 hown2 hturn2.grown rfl (fun y hy0 hy1 => by simp [Maps.has]) (by simp) (by simp)
  exact ⟨rfl, r1, r2⟩
end Go.Proofs.YtmkhagmjpbfieaaGreatDoor
