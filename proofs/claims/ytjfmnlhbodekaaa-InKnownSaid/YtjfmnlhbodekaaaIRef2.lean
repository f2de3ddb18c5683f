/- The document's table of ids: First, Rel, Forget walked. -/
import Derived.Test.YtjfmnlhbodekaaaIRef
import Derived.Outline
namespace Go.Proofs.Ytjfmnlhbodekaaa
open Go Go.RowKit Go.Maps

/-- What is left to be gone through, once k ids have been. -/
def InsAt (x : Int) (l : List Int) (k : Nat) (put : Bool) (acc : List Int) : Prop := ins x l = acc ++ (if put = true then l.drop k else ins x (l.drop k))
theorem InsAt.start (x : Int) (l : List Int) : InsAt x l 0 false [] := by simp [InsAt]
theorem InsAt.put {x : Int} {l acc : List Int} {k : Nat} {y : Int} (h : InsAt x l k true acc) (hy : l[k]? = some y) : InsAt x l (k + 1) true (acc ++ [y]) := by
  have hk := (List.getElem?_eq_some_iff.1 hy).1
  unfold InsAt at *
  rw [h, List.drop_eq_getElem_cons hk, (List.getElem?_eq_some_iff.1 hy).2]
  simp
theorem InsAt.here {x : Int} {l acc : List Int} {k : Nat} {y : Int} (h : InsAt x l k false acc) (hy : l[k]? = some y) (hlt : x < y) : InsAt x l (k + 1) true (acc ++ [x] ++ [y]) := by
  have hk := (List.getElem?_eq_some_iff.1 hy).1
  unfold InsAt at *
  rw [h, List.drop_eq_getElem_cons hk, (List.getElem?_eq_some_iff.1 hy).2]
  simp [ins, hlt]
theorem InsAt.on {x : Int} {l acc : List Int} {k : Nat} {y : Int} (h : InsAt x l k false acc) (hy : l[k]? = some y) (hlt : ¬ x < y) : InsAt x l (k + 1) false (acc ++ [y]) := by
  have hk := (List.getElem?_eq_some_iff.1 hy).1
  unfold InsAt at *
  rw [h, List.drop_eq_getElem_cons hk, (List.getElem?_eq_some_iff.1 hy).2]
  simp [ins, hlt]
theorem InsAt.done {x : Int} {l acc : List Int} {k : Nat} (h : InsAt x l k true acc) (hk : l.length ≤ k) : ins x l = acc := by
  unfold InsAt at h; rw [h, List.drop_of_length_le hk]; simp
theorem InsAt.last {x : Int} {l acc : List Int} {k : Nat} (h : InsAt x l k false acc) (hk : l.length ≤ k) : ins x l = acc ++ [x] := by
  unfold InsAt at h; rw [h, List.drop_of_length_le hk]; simp [ins]
theorem out_take {x : Int} {l : List Int} {k : Nat} {y : Int} (hy : l[k]? = some y) : out x (l.take (k + 1)) = out x (l.take k) ++ (if y = x then [] else [y]) := by
  unfold out
  rw [List.take_add_one, hy, List.filter_append]
  congr 1
  by_cases e : y = x <;> simp [e]
theorem length_out_le (x : Int) (l : List Int) : (out x l).length ≤ l.length := List.length_filter_le _ _

/-- The table's row is replaced by one of the call's own. -/
theorem trep_put {w w1 : World} {g : Nat} {l l' : List Int} {F : List Nat} {v : Value} (h : TRep w g l F) (hk : Below w.heap.size w w1) (hown : w1.ownsRow w.heap.size 25 1 v l'.length (u16s l')) :
    ∃ F', TRep (w1.setCell ⟨g, 0, none⟩ v) g l' F' ∧ Upd F F' w (w1.setCell ⟨g, 0, none⟩ v) := by
  have hl := h.lt
  obtain ⟨v0, hg, -, -, rfl⟩ := h
  have hgl := (Array.getElem?_eq_some_iff.1 hg).1
  have hg1 : w1.heap[g]? = some (.cells #[v0] 40 (0, 0)) := by rw [hk.block g hgl]; exact hg
  have hne : v.ownBlock ≠ some g := fun e => by have := (hown.lt g e).1; omega
  refine ⟨g :: v.ownBlock.toList, ⟨v, ?_, ?_, hne, rfl⟩, (Mod.of_below hk _).setCell (.inl (by simp)) _, fun k hk' => ?_⟩
  · rw [heap_setCell_same w1 g 0 _ _ _ hg1]; rfl
  · have hown0 : w1.ownsRow 0 25 1 v l'.length (u16s l') := ⟨hown.1, hown.2.imp id (fun ⟨b, cap, cur, e, _, r⟩ => ⟨b, cap, cur, e, Nat.zero_le _, r⟩)⟩
    exact ownsRow_local hown0 fun k hk' => heap_setCell_other w1 _ _ _ (by rintro rfl; exact hne hk')
  · simp only [List.mem_cons, Option.mem_toList] at hk'
    rcases hk' with rfl | hk'
    · left; simp
    · right; exact (hown.lt k hk').1

theorem tforget (g : Nat) (l : List Int) (F : List Nat) (w : World) (h : TRep w g l F) : Calls Try.prog 18 #[.pointer (some ⟨g, 0, none⟩)] w fun e w' => e = .returned (.tuple #[]) ∧ ∃ F', TRep w' g [] F' ∧ Upd F F' w w' := by
  have H := Lib.hid h
  obtain ⟨v, hg, -, -, -⟩ := h
  have c0 := cell_of_row w g 0 _ _ _ hg
  have f0 := frozen_of_row w g 0 _ _ hg
  simp only [List.getElem?_toArray, List.getElem?_cons_zero] at c0
  clear hg
  go_enter Try.func18, Try.ntmps18
  go_wp2_with fail
  go_end0
  exact ⟨rfl, trep_put H.out (Below.refl _ _) (World.ownsRow_nil _ _ _ _)⟩

theorem tfirst_no (g : Nat) (x : Int) (l : List Int) (F : List Nat) (w : World) (h : TRep w g l F) (hlen : l.length ≤ 1000000) (hb : x = 0 ∨ x ∈ l) :
    Calls Try.prog 16 #[.pointer (some ⟨g, 0, none⟩), .int .u16 x] w fun e w' => e = .returned (.bool false) ∧ w = w' := by
  by_cases hz : x = 0
  · subst hz
    clear h hb
    go_enter Try.func16, Try.ntmps16
    go_wp2_with fail
    go_ret
    exact ⟨rfl, rfl⟩
  · have hz' : (x == 0) = false := by simpa using hz
    have HB := Lib.hid (show decide (x ∈ l) = true by rcases hb with h | h <;> simp_all)
    have H := Lib.hid h
    clear hb h hz
    go_enter Try.func16, Try.ntmps16
    go_wp2_with fail
    refine (tknows_any true g x l F _ H.out hlen HB.out).mono ?_
    rintro e w1 ⟨rfl, rfl⟩
    go_wp2_with fail
    go_ret
    exact ⟨rfl, rfl⟩

set_option maxRecDepth 100000 in
set_option maxHeartbeats 1000000 in
theorem tfirst_yes (g : Nat) (x : Int) (l : List Int) (F : List Nat) (w : World) (h : TRep w g l F) (hlen : l.length ≤ 1000000) (hx : x ≠ 0) (hb : x ∉ l) :
    Calls Try.prog 16 #[.pointer (some ⟨g, 0, none⟩), .int .u16 x] w fun e w' => e = .returned (.bool true) ∧ ∃ F', TRep w' g (ins x l) F' ∧ Upd F F' w w' := by
  have hz' : (x == 0) = false := by simpa using hx
  have HB := Lib.hid (show decide (x ∈ l) = false by simpa using hb)
  have H := Lib.hid h
  obtain ⟨v, hg, hown, -, -⟩ := h
  obtain ⟨a, cap, rfl, hrow, hn, hc⟩ := ownsRow_row hown
  have HG := Lib.hid hg
  have HR := Lib.hid hrow
  clear hg hown hb hrow hx
  have hcell : ∀ wr, Below w.heap.size w wr → wr.cell? ⟨g, 0, none⟩ = some (.slice a l.length cap) ∧ wr.frozen? ⟨g, 0, none⟩ = false := fun wr hk => by
    have hg1 : wr.heap[g]? = _ := (hk.block g (Array.getElem?_eq_some_iff.1 HG.out).1).trans HG.out
    have c0 := cell_of_row wr g 0 _ _ _ hg1
    simp only [List.getElem?_toArray, List.getElem?_cons_zero] at c0
    exact ⟨c0, frozen_of_row wr g 0 _ _ hg1⟩
  have HC := Lib.hid hcell
  clear hcell
  obtain ⟨c0, -⟩ := HC.out w (Below.refl _ _)
  go_enter Try.func16, Try.ntmps16
  go_wp2_with fail
  refine (tknows_any false g x l F _ H.out hlen HB.out).mono ?_
  rintro e w1 ⟨rfl, rfl⟩
  go_wp2_with fail
  go_loopw [5, 6, 7] (fun s p i wr => ∃ (k : Nat) (put : Bool) (acc : List Int), i = .int .i64 k ∧ k ≤ l.length ∧ p = .bool put ∧ wr.ownsRow w.heap.size 25 1 s acc.length (u16s acc) ∧ Below w.heap.size w wr ∧ InsAt x l k put acc ∧ acc.length ≤ k + put.toNat) (fun _ _ i _ => (l.length - intOf i).toNat)
  case atStart => exact ⟨0, false, [], rfl, by omega, rfl, World.ownsRow_nil _ _ _ _, Below.refl _ _, InsAt.start x l, by simp⟩
  case round =>
    obtain ⟨k, put, acc, rfl, hk, rfl, hown, hb, hI, hal⟩ := hrel
    clear c0
    obtain ⟨c0, f0⟩ := HC.out _ hb
    have HI := Lib.hid hI
    have hbs := hb.size
    clear hI
    have hpt : put.toNat ≤ 1 := by cases put <;> decide
    by_cases hlt : k < l.length
    · obtain ⟨b1, o1, rfl, k0⟩ := row_at (HR.out.below hb (Nat.le_refl _)) (k := k) (x := l[k]) (by simp [hlt])
      have hk0 : (0 : Int) ≤ k := by omega
      have hkl : (k : Int) < l.length := by omega
      have HY := Lib.hid (show l[k]? = some l[k] by simp [hlt])
      generalize l[k] = y at *
      cases put with
      | true =>
        simp only [Bool.toNat_true] at hal
        go_wp2_with (first
          | (at_builtin; refine wpList_app T_u16 hown hb hbs rfl rfl rfl rfl (by rfl) (by simp [Value.oneCell']) (by omega) (by omega) ?_; intro v' w3 hown' hbel3 hsz3 hlt3; go_frame)
          | fail)
        refine ⟨⟨k + 1, true, acc ++ [y], by go_num, by omega, rfl, by rw [← u16s_append, List.length_append]; exact hown', hbel3, HI.out.put HY.out, by simp; omega⟩, by simp [intOf]; omega⟩
      | false =>
        simp only [Bool.toNat_false, Nat.add_zero] at hal
        by_cases hxy : x < y
        · go_wp2_with (first
            | (at_builtin; refine wpList_app T_u16 hown hb hbs rfl rfl rfl rfl (by rfl) (by simp [Value.oneCell']) (by omega) (by omega) ?_; intro v' w3 hown' hb' hbs' hlt3; clear hown hb hbs k0 c0 f0 hlt3; have hown := hown'; have hb := hb'; have hbs := hbs'; clear hown' hb' hbs'; obtain ⟨c0, f0⟩ := HC.out _ hb; obtain ⟨b2, o2, he, k0⟩ := row_at (HR.out.below hb (Nat.le_refl _)) HY.out; cases he; go_frame)
            | fail)
          refine ⟨⟨k + 1, true, acc ++ [x] ++ [y], by go_num, by omega, rfl, by rw [← u16s_append, ← u16s_append, List.length_append, List.length_append]; exact hown, hb, HI.out.here HY.out hxy, by simp; omega⟩, by simp [intOf]; omega⟩
        · have hxy' : decide (x < y) = false := by simpa using hxy
          go_wp2_with (first
            | (at_builtin; refine wpList_app T_u16 hown hb hbs rfl rfl rfl rfl (by rfl) (by simp [Value.oneCell']) (by omega) (by omega) ?_; intro v' w3 hown' hbel3 hsz3 hlt3; go_frame)
            | fail)
          refine ⟨⟨k + 1, false, acc ++ [y], by go_num, by omega, rfl, by rw [← u16s_append, List.length_append]; exact hown', hbel3, HI.out.on HY.out hxy, by simp; omega⟩, by simp [intOf]; omega⟩
    · have hkl : ¬ (k : Int) < l.length := by omega
      cases put with
      | true =>
        have HE := Lib.hid (HI.out.done (by omega))
        obtain ⟨a', cap', rfl, -, -, -⟩ := ownsRow_row hown
        go_wp2_with fail
        go_ret
        exact ⟨rfl, trep_put H.out hb (by rw [HE.out]; exact hown)⟩
      | false =>
        have HE := Lib.hid (HI.out.last (by omega))
        go_wp2_with (first
            | (at_builtin; refine wpList_app T_u16 hown hb hbs rfl rfl rfl rfl (by rfl) (by simp [Value.oneCell']) (by omega) (by omega) ?_; intro v' w3 hown' hb3 hsz3 hlt3; clear c0 f0; obtain ⟨c0, f0⟩ := HC.out _ hb3; obtain ⟨a', cap', rfl, -, -, -⟩ := ownsRow_row hown')
            | fail)
        go_ret
        exact ⟨rfl, trep_put H.out hb3 (by rw [HE.out, ← u16s_append, List.length_append]; exact hown')⟩

theorem trel_no (g : Nat) (x : Int) (l : List Int) (F : List Nat) (w : World) (h : TRep w g l F) (hlen : l.length ≤ 1000000) (hb : x ∉ l) :
    Calls Try.prog 17 #[.pointer (some ⟨g, 0, none⟩), .int .u16 x] w fun e w' => e = .returned (.bool false) ∧ w = w' := by
  have HB := Lib.hid (show decide (x ∈ l) = false by simpa using hb)
  have H := Lib.hid h
  clear hb h
  go_enter Try.func17, Try.ntmps17
  go_wp2_with fail
  refine (tknows_any false g x l F _ H.out hlen HB.out).mono ?_
  rintro e w1 ⟨rfl, rfl⟩
  go_wp2_with fail
  go_ret
  exact ⟨rfl, rfl⟩
set_option maxRecDepth 100000 in
set_option maxHeartbeats 1000000 in
theorem trel_yes (g : Nat) (x : Int) (l : List Int) (F : List Nat) (w : World) (h : TRep w g l F) (hlen : l.length ≤ 1000000) (hb : x ∈ l) :
    Calls Try.prog 17 #[.pointer (some ⟨g, 0, none⟩), .int .u16 x] w fun e w' => e = .returned (.bool true) ∧ ∃ F', TRep w' g (out x l) F' ∧ Upd F F' w w' := by
  have HB := Lib.hid (show decide (x ∈ l) = true by simpa using hb)
  have H := Lib.hid h
  obtain ⟨v, hg, hown, -, -⟩ := h
  obtain ⟨a, cap, rfl, hrow, hn, hc⟩ := ownsRow_row hown
  have HG := Lib.hid hg
  have HR := Lib.hid hrow
  clear hg hown hb hrow
  have hcell : ∀ wr, Below w.heap.size w wr → wr.cell? ⟨g, 0, none⟩ = some (.slice a l.length cap) ∧ wr.frozen? ⟨g, 0, none⟩ = false := fun wr hk => by
    have hg1 : wr.heap[g]? = _ := (hk.block g (Array.getElem?_eq_some_iff.1 HG.out).1).trans HG.out
    have c0 := cell_of_row wr g 0 _ _ _ hg1
    simp only [List.getElem?_toArray, List.getElem?_cons_zero] at c0
    exact ⟨c0, frozen_of_row wr g 0 _ _ hg1⟩
  have HC := Lib.hid hcell
  clear hcell
  obtain ⟨c0, -⟩ := HC.out w (Below.refl _ _)
  go_enter Try.func17, Try.ntmps17
  go_wp2_with fail
  refine (tknows_any true g x l F _ H.out hlen HB.out).mono ?_
  rintro e w1 ⟨rfl, rfl⟩
  go_wp2_with fail
  go_loopw [5, 6] (fun s i wr => ∃ (k : Nat), i = .int .i64 k ∧ k ≤ l.length ∧ wr.ownsRow w.heap.size 25 1 s (out x (l.take k)).length (u16s (out x (l.take k))) ∧ Below w.heap.size w wr) (fun _ i _ => (l.length - intOf i).toNat)
  case atStart => exact ⟨0, rfl, by omega, by simpa [out, u16s] using World.ownsRow_nil _ _ _ _, Below.refl _ _⟩
  case round =>
    obtain ⟨k, rfl, hk, hown, hb⟩ := hrel
    clear c0
    obtain ⟨c0, f0⟩ := HC.out _ hb
    have hbs := hb.size
    by_cases hlt : k < l.length
    · obtain ⟨b1, o1, rfl, k0⟩ := row_at (HR.out.below hb (Nat.le_refl _)) (k := k) (x := l[k]) (by simp [hlt])
      have hk0 : (0 : Int) ≤ k := by omega
      have hkl : (k : Int) < l.length := by omega
      have HT := Lib.hid (out_take (x := x) (show l[k]? = some l[k] by simp [hlt]))
      have hal : (out x (l.take k)).length ≤ 1000000 := by have := length_out_le x (l.take k); have := List.length_take_le k l; omega
      generalize out x (l.take k) = acc at *
      generalize l[k] = y at *
      by_cases he : y = x
      · subst he
        have hyy : (y != y) = false := by simp
        go_wp2_with fail
        refine ⟨⟨k + 1, by go_num, by omega, by rw [HT.out]; simpa using hown, hb⟩, by simp [intOf]; omega⟩
      · have hyy : (y != x) = true := by simpa using he
        go_wp2_with (first
          | (at_builtin; refine wpList_app T_u16 hown hb hbs rfl rfl rfl rfl (by rfl) (by simp [Value.oneCell']) (by omega) (by omega) ?_; intro v' w3 hown' hbel3 hsz3 hlt3; go_frame)
          | fail)
        refine ⟨⟨k + 1, by go_num, by omega, by rw [HT.out, if_neg he, ← u16s_append, List.length_append]; exact hown', hbel3⟩, by simp [intOf]; omega⟩
    · have hkl : ¬ (k : Int) < l.length := by omega
      rw [List.take_of_length_le (by omega)] at hown
      obtain ⟨a', cap', rfl, -, -, -⟩ := ownsRow_row hown
      go_wp2_with fail
      go_ret
      exact ⟨rfl, trep_put H.out hb hown⟩
end Go.Proofs.Ytjfmnlhbodekaaa
