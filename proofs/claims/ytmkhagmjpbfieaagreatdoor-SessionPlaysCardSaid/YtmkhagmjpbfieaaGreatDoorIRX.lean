/- The set of ids: Open walked: a range in any order, an append a round, the library's sort. The document's table of ids: walked. The document's table of ids: First, Rel, Forget walked. -/
import Derived.Test.YtmkhagmjpbfieaaGreatDoorICame
import Derived.Outline
namespace Go.Proofs.YtmkhagmjpbfieaaGreatDoor
section
open Go Go.RowKit Go.Maps

/-- no id twice; an id is on the list just where the map has it and it is no longer to come -/
def Coll (D : DataW Unit) (left : Lit → Bool) (ss : List Int) : Prop := ss.Nodup ∧ (∀ x ∈ ss, 0 ≤ x ∧ x ≤ 65535) ∧ ∀ x, x ∈ ss ↔ (Maps.has D (.int .u16 x) = true ∧ left (.int .u16 x) = false)
theorem Coll.start (D : DataW Unit) : Coll D (Maps.has D) [] := ⟨List.nodup_nil, by simp, fun x => by cases Maps.has D (.int .u16 x) <;> simp⟩
theorem Coll.step {D : DataW Unit} {left : Lit → Bool} {ss : List Int} (h : Coll D left ss) {x : Int} {y : DataW Unit} (hx0 : 0 ≤ x) (hx1 : x ≤ 65535) (hlk : left (.int .u16 x) = true) (hat : ∀ zd, D.atKey (.int .u16 x) zd = y) :
    Coll D (fun z => left z && !z.sameKey (.int .u16 x)) (ss ++ [x]) := by
  have hhas : Maps.has D (.int .u16 x) = true := has_true_of_atKey hat
  have hnew : x ∉ ss := fun hx => by have := ((h.2.2 x).1 hx).2; rw [hlk] at this; cases this
  refine ⟨List.nodup_append.2 ⟨h.1, by simp, fun a ha b hb => by simp at hb; subst hb; exact fun e => hnew (e ▸ ha)⟩, ?_, fun y => ?_⟩
  · intro z hz
    simp at hz
    rcases hz with hz | rfl
    · exact h.2.1 z hz
    · exact ⟨hx0, hx1⟩
  · by_cases hy : y = x
    · subst hy; simp [hhas, Lit.sameKey]
    · simp [h.2.2 y, hy, Lit.sameKey]
theorem Coll.perm {D : DataW Unit} {left : Lit → Bool} {ss l : List Int} (h : Coll D left ss) (hl : ∀ kl, left kl = false) (hs : l.Pairwise (· < ·)) (hr : ∀ x ∈ l, 1 ≤ x ∧ x ≤ 65535) (hm : ∀ x, 0 ≤ x → x ≤ 65535 → Maps.has D (.int .u16 x) = decide (x ∈ l)) : ss.Perm l := by
  refine (List.perm_ext_iff_of_nodup h.1 (hs.imp (fun h e => by omega))).2 fun x => ⟨fun hx => ?_, fun hx => ?_⟩
  · have h1 := h.2.1 x hx
    have := ((h.2.2 x).1 hx).1
    rw [hm x h1.1 h1.2] at this
    simpa using this
  · have h1 := hr x hx
    exact (h.2.2 x).2 ⟨by rw [hm x (by omega) h1.2]; simpa using hx, hl _⟩

theorem iter_ne {k : TypeId} {R : Value → Option (DataW Unit × List MemPlace)} {w : World} {b r n : Nat} {D : DataW Unit} {left : Lit → Bool} {cnt base : Nat} {e : TypeId} {size : Nat} {v : Value} {m : Nat} {xs : List Value}
    (h : w.ownsRow base e size v m xs) (hr : w.ranges Tryz.prog k R b r n D left cnt) : some r ≠ v.ownBlock := by
  obtain ⟨_, _, _, _, _, _, _, _, _, hit, _⟩ := hr
  rcases h.2 with ⟨rfl, _⟩ | ⟨g, cap, cur, rfl, _, hb, _⟩
  · simp [Value.ownBlock]
  · intro e1
    have : r = g := by simpa [Value.ownBlock] using e1
    subst this
    rw [hit] at hb
    cases hb
theorem low_ne {w : World} {base : Nat} {e : TypeId} {size : Nat} {v : Value} {n : Nat} {xs : List Value} (h : w.ownsRow base e size v n xs) {b : Nat} (hb : b < base) : some b ≠ v.ownBlock := fun e1 => by
  have := (h.lt b e1.symm).1
  omega

set_option maxRecDepth 100000 in
set_option maxHeartbeats 1000000 in
theorem copen (g : Nat) (l : List Int) (F : List Nat) (w : World) (h : CRep w g l F) :
    Calls Tryz.prog 53 #[.pointer (some ⟨g, 0, none⟩)] w fun e w' => ∃ v, e = .returned v ∧ w'.ownsRow w.heap.size 32 1 v l.length (u16s l) ∧ Below w.heap.size w w' := by
  have hlen := h.len
  obtain ⟨m, D, hg, hown, h1, h2, h3, h4, h5, rfl⟩ := h
  have c1 := cell_of_row w g 0 _ _ _ hg
  simp only [List.getElem?_toArray, List.getElem?_cons_zero] at c1
  have hml := hown.lt
  have HS := Lib.hid h1
  have H2 := Lib.hid h2
  have H3 := Lib.hid h3
  have H4 := Lib.hid h4
  clear hg h1 h2 h3 h4
  obtain ⟨i0, hi, hz0, hz1, hz2⟩ := info_parts T_u16.hi
  go_enter Tryz.func53, Tryz.ntmps53
  go_wp2_with (first
    | (at_range; refine wpList_range_own _ rfl _ 107 rfl 32 130 kU Tryz.underlying107 _ m _ _ rfl hown ?_; intro w0 hrg0 hg0 hs0)
    | fail)
  go_frame
  clear hs0
  go_loopw [3, 4] (fun v _ wr => ∃ (left : Lit → Bool) (cnt : Nat) (ss : List Int), wr.ranges Tryz.prog 32 unitElem m w.heap.size (Maps.size D) D left cnt ∧ ss.length + cnt ≤ l.length ∧
      wr.ownsRow w.heap.size 32 1 v ss.length (u16s ss) ∧ Coll D left ss ∧ Below w.heap.size w wr)
    (fun _ _ wr => wr.rangeLeft m w.heap.size)
  case atStart => exact ⟨_, _, [], hrg0, by rw [HS.out]; simp, World.ownsRow_nil _ _ _ _, Coll.start D, (Below.refl _ _).grown hg0 (Nat.le_refl _) (fun j hj => by cases hj)⟩
  case round =>
    obtain ⟨left, cnt, ss, hrg, hcs, hrow, hC, hnx⟩ := hrel
    go_wp2_with (first
      | (at_next; refine wpList_next_ranges (α := Int) (β := Unit) _ rfl _ rfl 32 kU unitElem (Value.int .u16) (fun _ => .agg #[]) (fun key kl hk => by obtain ⟨x, hx, _⟩ := Maps.keyOf_int_inv Tryz.underlying32 hk; exact ⟨x, hx⟩) (fun v y hv => ⟨(), (unitElem_inv hv).1⟩) m w.heap.size _ _ _ _ rfl hrg ?_ ?_)
      | fail)
    · intro hc0 hl0
      have hP := sort_perm H3.out (hC.perm hl0 H3.out H4.out H2.out)
      have hLL : ss.length = l.length := by rw [← hP]; simp
      have HP := Lib.hid hP
      have HLL := Lib.hid hLL
      have hc := us_own hrow (by omega)
      rw [hP] at hc
      clear hP hLL
      go_wp2_with fail
      refine hc.mono ?_
      rintro e w' ⟨rfl, hrow', hgr⟩
      go_wp2_with fail
      go_ret
      exact ⟨_, rfl, by rw [← HLL.out]; exact hrow', hnx.grown hgr hnx.size (fun k hk => (hrow.lt k hk).1)⟩
    · intro x kl yd yp w2 cnt2 hkey hlk hv hat hrg2 hlt hg2 hs2 hen
      obtain ⟨x', ex, rfl, hwf⟩ := Maps.keyOf_int_inv Tryz.underlying32 hkey
      obtain rfl : x = x' := by simpa using ex
      obtain ⟨hx0, hx1⟩ := wfU_iff hwf
      have hrow2 := hrow.kept hg2 (Or.inr (iter_ne hrow hrg).symm)
      clear hs2 hkey ex
      have hsz2 : w.heap.size ≤ w2.heap.size := Nat.le_trans hnx.size hg2.size
      have hb2 := hnx.grown hg2 hnx.size (fun j hj => by cases hj; exact Nat.le_refl _)
      go_wp2_with (first
        | (at_builtin; refine wpList_appG T_u16 hrow2 hb2 hsz2 rfl rfl rfl rfl (by rfl) (by simp [Value.oneCell']) (by omega) (by omega) ?_; intro v' w3 hown' hbel3 hsz3 hg3; go_frame)
        | fail)
      have hrg3 := (hrg2.alloc (.cells #[.int .u16 x] 32)).kept hg3 (low_ne hrow2 hml) (iter_ne hrow2 hrg2)
      refine ⟨⟨_, cnt2, ss ++ [x], hrg3, by simp; omega, ?_, hC.step hx0 hx1 hlk hat, hbel3⟩, by rw [hrg3.left_eq, hrg.left_eq]; exact hlt⟩
      rw [← u16s_append, List.length_append]
      exact hown'
end
section
open Go Go.RowKit Go.Maps

theorem u16s_at {l : List Int} {k : Nat} {x : Int} (h : l[k]? = some x) : (u16s l)[k]? = some (.int .u16 x) := by simp [u16s, h]
theorem row_at {w : World} {a : Option Addr} {l : List Int} (h : Row w a (u16s l)) {k : Nat} {x : Int} (hx : l[k]? = some x) : ∃ b off, a = some ⟨b, off, none⟩ ∧ w.cell? ⟨b, off + k, none⟩ = some (.int .u16 x) := h.at (u16s_at hx)

/-- A table lies at block g: it has the row l; its blocks are F. -/
def TRep (w : World) (g : Nat) (l : List Int) (F : List Nat) : Prop :=
  ∃ v, w.heap[g]? = some (.cells #[v] 92 (0, 0)) ∧ w.ownsRow 0 32 1 v l.length (u16s l) ∧ v.ownBlock ≠ some g ∧ F = g :: v.ownBlock.toList
theorem TRep.lt {w : World} {g : Nat} {l : List Int} {F : List Nat} (h : TRep w g l F) : ∀ k ∈ F, k < w.heap.size := by
  obtain ⟨v, hg, hown, _, rfl⟩ := h
  intro k hk
  simp only [List.mem_cons, Option.mem_toList] at hk
  rcases hk with rfl | hk
  · exact (Array.getElem?_eq_some_iff.1 hg).1
  · exact (hown.lt k hk).2
theorem TRep.mod {S : List Nat} {w w' : World} {g : Nat} {l : List Int} {F : List Nat} (h : TRep w g l F) (hm : Mod S w w') (hS : ∀ k ∈ F, k ∉ S) : TRep w' g l F := by
  have hl := h.lt
  obtain ⟨v, hg, hown, h1, rfl⟩ := h
  exact ⟨v, by rw [hm.block g (hl g (by simp)) (hS g (by simp))]; exact hg, ownsRow_local hown fun k hk => hm.block k (hl k (by simp [hk])) (hS k (by simp [hk])), h1, rfl⟩
theorem TRep.below {w w' : World} {g : Nat} {l : List Int} {F : List Nat} (h : TRep w g l F) (hk : Below w.heap.size w w') : TRep w' g l F := h.mod (Mod.of_below hk []) (by simp)

theorem tnew (w : World) : Calls Tryz.prog 31 #[] w fun e w' => ∃ g F, e = .returned (.pointer (some ⟨g, 0, none⟩)) ∧ TRep w' g [] F ∧ Upd [] F w w' := by
  go_enter Tryz.func31, Tryz.ntmps31
  go_wp2_with fail
  go_ret
  exact ⟨_, _, rfl, ⟨.slice none 0 0, heap_alloc_new _ _, World.ownsRow_nil _ _ _ _, by simp [Value.ownBlock], rfl⟩, (Mod.refl _ _).alloc _, by simp [Value.ownBlock]⟩

theorem tknows_any (b : Bool) (g : Nat) (x : Int) (l : List Int) (F : List Nat) (w : World) (h : TRep w g l F) (hlen : l.length ≤ 1000000) (hb : decide (x ∈ l) = b) :
    Calls Tryz.prog 88 #[.pointer (some ⟨g, 0, none⟩), .int .u16 x] w fun e w' => e = .returned (.bool b) ∧ w = w' := by
  obtain ⟨v, hg, hown, -, -⟩ := h
  obtain ⟨a, cap, rfl, hrow, hn, hc⟩ := ownsRow_row hown
  have c0 := cell_of_row w g 0 _ _ _ hg
  simp only [List.getElem?_toArray, List.getElem?_cons_zero] at c0
  have HB := Lib.hid hb
  have HR := Lib.hid hrow
  clear hg hown hb hrow
  go_enter Tryz.func88, Tryz.ntmps88
  go_wp2_with fail
  go_loop [5] (fun i => ∃ k : Nat, i = .int .i64 k ∧ k ≤ l.length ∧ x ∉ l.take k) (fun i => (l.length - intOf i).toNat)
  case atStart => exact ⟨0, rfl, by omega, by simp⟩
  case round =>
    obtain ⟨k, rfl, hk, hn⟩ := hrel
    have HN := Lib.hid hn
    clear hn
    by_cases hlt : k < l.length
    · obtain ⟨b1, o1, rfl, k0⟩ := row_at HR.out (k := k) (x := l[k]) (by simp [hlt])
      have hk0 : (0 : Int) ≤ k := by omega
      have hkl : (k : Int) < l.length := by omega
      have HY := Lib.hid (show l[k]? = some l[k] by simp [hlt])
      generalize l[k] = y at *
      by_cases he : y = x
      · subst he
        go_wp2_with fail
        go_ret
        refine ⟨ret_bool ?_, rfl⟩
        rw [← HB.out]
        simp [List.mem_of_getElem? HY.out]
      · have he' : (y == x) = false := by simpa using he
        go_wp2_with fail
        go_round
        case rel =>
          refine ⟨k + 1, by go_num, by omega, ?_⟩
          rw [List.take_add_one, HY.out]
          simp only [Option.toList_some, List.mem_append, List.mem_singleton, not_or]
          exact ⟨HN.out, fun e => he e.symm⟩
        case measure => simp [intOf]; omega
    · have hkl : ¬ (k : Int) < l.length := by omega
      have HF := Lib.hid (show false = b by rw [← HB.out]; have := HN.out; rw [List.take_of_length_le (by omega)] at this; simp [this])
      go_wp2_with fail
      go_ret
      exact ⟨ret_bool HF.out, rfl⟩
end
section
open Go Go.RowKit Go.Maps

/-- What is left to be gone through, once k ids have been. -/
def InsAt (x : Int) (l : List Int) (k : Nat) (put : Bool) (acc : List Int) : Prop := ins x l = acc ++ (if put = true then l.drop k else ins x (l.drop k))
theorem InsAt.start (x : Int) (l : List Int) : InsAt x l 0 false [] := by simp [InsAt]
theorem InsAt.put {x : Int} {l acc : List Int} {k : Nat} {y : Int} (h : InsAt x l k true acc) (hy : l[k]? = some y) : InsAt x l (k + 1) true (acc ++ [y]) := by
  have hk := (List.getElem?_eq_some_iff.1 hy).1
  unfold InsAt at *
  rw [h, List.drop_eq_getElem_cons hk, (List.getElem?_eq_some_iff.1 hy).2]
  simp
theorem InsAt.here {x : Int} {l acc : List Int} {k : Nat} {y : Int} (h : InsAt x l k false acc) (hy : l[k]? = some y) (hlt : x < y) : InsAt x l (k + 1) true (acc ++ [x] ++ [y]) := by
  have hk := (List.getElem?_eq_some_iff.1 hy).1
  unfold InsAt at *
  rw [h, List.drop_eq_getElem_cons hk, (List.getElem?_eq_some_iff.1 hy).2]
  simp [ins, hlt]
theorem InsAt.on {x : Int} {l acc : List Int} {k : Nat} {y : Int} (h : InsAt x l k false acc) (hy : l[k]? = some y) (hlt : ¬ x < y) : InsAt x l (k + 1) false (acc ++ [y]) := by
  have hk := (List.getElem?_eq_some_iff.1 hy).1
  unfold InsAt at *
  rw [h, List.drop_eq_getElem_cons hk, (List.getElem?_eq_some_iff.1 hy).2]
  simp [ins, hlt]
theorem InsAt.done {x : Int} {l acc : List Int} {k : Nat} (h : InsAt x l k true acc) (hk : l.length ≤ k) : ins x l = acc := by
  unfold InsAt at h; rw [h, List.drop_of_length_le hk]; simp
theorem InsAt.last {x : Int} {l acc : List Int} {k : Nat} (h : InsAt x l k false acc) (hk : l.length ≤ k) : ins x l = acc ++ [x] := by
  unfold InsAt at h; rw [h, List.drop_of_length_le hk]; simp [ins]
theorem out_take {x : Int} {l : List Int} {k : Nat} {y : Int} (hy : l[k]? = some y) : out x (l.take (k + 1)) = out x (l.take k) ++ (if y = x then [] else [y]) := by
  unfold out
  rw [List.take_add_one, hy, List.filter_append]
  congr 1
  by_cases e : y = x <;> simp [e]
theorem length_out_le (x : Int) (l : List Int) : (out x l).length ≤ l.length := List.length_filter_le _ _

/-- The table's row is replaced by one of the call's own. -/
theorem trep_put {w w1 : World} {g : Nat} {l l' : List Int} {F : List Nat} {v : Value} (h : TRep w g l F) (hk : Below w.heap.size w w1) (hown : w1.ownsRow w.heap.size 32 1 v l'.length (u16s l')) :
    ∃ F', TRep (w1.setCell ⟨g, 0, none⟩ v) g l' F' ∧ Upd F F' w (w1.setCell ⟨g, 0, none⟩ v) := by
  have hl := h.lt
  obtain ⟨v0, hg, -, -, rfl⟩ := h
  have hgl := (Array.getElem?_eq_some_iff.1 hg).1
  have hg1 : w1.heap[g]? = some (.cells #[v0] 92 (0, 0)) := by rw [hk.block g hgl]; exact hg
  have hne : v.ownBlock ≠ some g := fun e => by have := (hown.lt g e).1; omega
  refine ⟨g :: v.ownBlock.toList, ⟨v, ?_, ?_, hne, rfl⟩, (Mod.of_below hk _).setCell (.inl (by simp)) _, fun k hk' => ?_⟩
  · rw [heap_setCell_same w1 g 0 _ _ _ hg1]; rfl
  · have hown0 : w1.ownsRow 0 32 1 v l'.length (u16s l') := ⟨hown.1, hown.2.imp id (fun ⟨b, cap, cur, e, _, r⟩ => ⟨b, cap, cur, e, Nat.zero_le _, r⟩)⟩
    exact ownsRow_local hown0 fun k hk' => heap_setCell_other w1 _ _ _ (by rintro rfl; exact hne hk')
  · simp only [List.mem_cons, Option.mem_toList] at hk'
    rcases hk' with rfl | hk'
    · left; simp
    · right; exact (hown.lt k hk').1

theorem tforget (g : Nat) (l : List Int) (F : List Nat) (w : World) (h : TRep w g l F) : Calls Tryz.prog 71 #[.pointer (some ⟨g, 0, none⟩)] w fun e w' => e = .returned (.tuple #[]) ∧ ∃ F', TRep w' g [] F' ∧ Upd F F' w w' := by
  have H := Lib.hid h
  obtain ⟨v, hg, -, -, -⟩ := h
  have c0 := cell_of_row w g 0 _ _ _ hg
  have f0 := frozen_of_row w g 0 _ _ hg
  simp only [List.getElem?_toArray, List.getElem?_cons_zero] at c0
  clear hg
  go_enter Tryz.func71, Tryz.ntmps71
  go_wp2_with fail
  go_end0
  exact ⟨rfl, trep_put H.out (Below.refl _ _) (World.ownsRow_nil _ _ _ _)⟩

theorem tfirst_no (g : Nat) (x : Int) (l : List Int) (F : List Nat) (w : World) (h : TRep w g l F) (hlen : l.length ≤ 1000000) (hb : x = 0 ∨ x ∈ l) :
    Calls Tryz.prog 46 #[.pointer (some ⟨g, 0, none⟩), .int .u16 x] w fun e w' => e = .returned (.bool false) ∧ w = w' := by
  by_cases hz : x = 0
  · subst hz
    clear h hb
    go_enter Tryz.func46, Tryz.ntmps46
    go_wp2_with fail
    go_ret
    exact ⟨rfl, rfl⟩
  · have hz' : (x == 0) = false := by simpa using hz
    have HB := Lib.hid (show decide (x ∈ l) = true by rcases hb with h | h <;> simp_all)
    have H := Lib.hid h
    clear hb h hz
    go_enter Tryz.func46, Tryz.ntmps46
    go_wp2_with fail
    refine (tknows_any true g x l F _ H.out hlen HB.out).mono ?_
    rintro e w1 ⟨rfl, rfl⟩
    go_wp2_with fail
    go_ret
    exact ⟨rfl, rfl⟩

set_option maxRecDepth 100000 in
set_option maxHeartbeats 1000000 in
theorem tfirst_yes (g : Nat) (x : Int) (l : List Int) (F : List Nat) (w : World) (h : TRep w g l F) (hlen : l.length ≤ 1000000) (hx : x ≠ 0) (hb : x ∉ l) :
    Calls Tryz.prog 46 #[.pointer (some ⟨g, 0, none⟩), .int .u16 x] w fun e w' => e = .returned (.bool true) ∧ ∃ F', TRep w' g (ins x l) F' ∧ Upd F F' w w' := by
  have hz' : (x == 0) = false := by simpa using hx
  have HB := Lib.hid (show decide (x ∈ l) = false by simpa using hb)
  have H := Lib.hid h
  obtain ⟨v, hg, hown, -, -⟩ := h
  obtain ⟨a, cap, rfl, hrow, hn, hc⟩ := ownsRow_row hown
  have HG := Lib.hid hg
  have HR := Lib.hid hrow
  clear hg hown hb hrow hx
  have hcell : ∀ wr, Below w.heap.size w wr → wr.cell? ⟨g, 0, none⟩ = some (.slice a l.length cap) ∧ wr.frozen? ⟨g, 0, none⟩ = false := fun wr hk => by
    have hg1 : wr.heap[g]? = _ := (hk.block g (Array.getElem?_eq_some_iff.1 HG.out).1).trans HG.out
    have c0 := cell_of_row wr g 0 _ _ _ hg1
    simp only [List.getElem?_toArray, List.getElem?_cons_zero] at c0
    exact ⟨c0, frozen_of_row wr g 0 _ _ hg1⟩
  have HC := Lib.hid hcell
  clear hcell
  obtain ⟨c0, -⟩ := HC.out w (Below.refl _ _)
  go_enter Tryz.func46, Tryz.ntmps46
  go_wp2_with fail
  refine (tknows_any false g x l F _ H.out hlen HB.out).mono ?_
  rintro e w1 ⟨rfl, rfl⟩
  go_wp2_with fail
  go_loopw [5, 6, 7] (fun s p i wr => ∃ (k : Nat) (put : Bool) (acc : List Int), i = .int .i64 k ∧ k ≤ l.length ∧ p = .bool put ∧ wr.ownsRow w.heap.size 32 1 s acc.length (u16s acc) ∧ Below w.heap.size w wr ∧ InsAt x l k put acc ∧ acc.length ≤ k + put.toNat) (fun _ _ i _ => (l.length - intOf i).toNat)
  case atStart => exact ⟨0, false, [], rfl, by omega, rfl, World.ownsRow_nil _ _ _ _, Below.refl _ _, InsAt.start x l, by simp⟩
  case round =>
    obtain ⟨k, put, acc, rfl, hk, rfl, hown, hb, hI, hal⟩ := hrel
    clear c0
    obtain ⟨c0, f0⟩ := HC.out _ hb
    have HI := Lib.hid hI
    have hbs := hb.size
    clear hI
    have hpt : put.toNat ≤ 1 := by cases put <;> decide
    by_cases hlt : k < l.length
    · obtain ⟨b1, o1, rfl, k0⟩ := row_at (HR.out.below hb (Nat.le_refl _)) (k := k) (x := l[k]) (by simp [hlt])
      have hk0 : (0 : Int) ≤ k := by omega
      have hkl : (k : Int) < l.length := by omega
      have HY := Lib.hid (show l[k]? = some l[k] by simp [hlt])
      generalize l[k] = y at *
      cases put with
      | true =>
        simp only [Bool.toNat_true] at hal
        go_wp2_with (first
          | (at_builtin; refine wpList_app T_u16 hown hb hbs rfl rfl rfl rfl (by rfl) (by simp [Value.oneCell']) (by omega) (by omega) ?_; intro v' w3 hown' hbel3 hsz3 hlt3; go_frame)
          | fail)
        refine ⟨⟨k + 1, true, acc ++ [y], by go_num, by omega, rfl, by rw [← u16s_append, List.length_append]; exact hown', hbel3, HI.out.put HY.out, by simp; omega⟩, by simp [intOf]; omega⟩
      | false =>
        simp only [Bool.toNat_false, Nat.add_zero] at hal
        by_cases hxy : x < y
        · go_wp2_with (first
            | (at_builtin; refine wpList_app T_u16 hown hb hbs rfl rfl rfl rfl (by rfl) (by simp [Value.oneCell']) (by omega) (by omega) ?_; intro v' w3 hown' hb' hbs' hlt3; clear hown hb hbs k0 c0 f0 hlt3; have hown := hown'; have hb := hb'; have hbs := hbs'; clear hown' hb' hbs'; obtain ⟨c0, f0⟩ := HC.out _ hb; obtain ⟨b2, o2, he, k0⟩ := row_at (HR.out.below hb (Nat.le_refl _)) HY.out; cases he; go_frame)
            | fail)
          refine ⟨⟨k + 1, true, acc ++ [x] ++ [y], by go_num, by omega, rfl, by rw [← u16s_append, ← u16s_append, List.length_append, List.length_append]; exact hown, hb, HI.out.here HY.out hxy, by simp; omega⟩, by simp [intOf]; omega⟩
        · have hxy' : decide (x < y) = false := by simpa using hxy
          go_wp2_with (first
            | (at_builtin; refine wpList_app T_u16 hown hb hbs rfl rfl rfl rfl (by rfl) (by simp [Value.oneCell']) (by omega) (by omega) ?_; intro v' w3 hown' hbel3 hsz3 hlt3; go_frame)
            | fail)
          refine ⟨⟨k + 1, false, acc ++ [y], by go_num, by omega, rfl, by rw [← u16s_append, List.length_append]; exact hown', hbel3, HI.out.on HY.out hxy, by simp; omega⟩, by simp [intOf]; omega⟩
    · have hkl : ¬ (k : Int) < l.length := by omega
      cases put with
      | true =>
        have HE := Lib.hid (HI.out.done (by omega))
        obtain ⟨a', cap', rfl, -, -, -⟩ := ownsRow_row hown
        go_wp2_with fail
        go_ret
        exact ⟨rfl, trep_put H.out hb (by rw [HE.out]; exact hown)⟩
      | false =>
        have HE := Lib.hid (HI.out.last (by omega))
        go_wp2_with (first
            | (at_builtin; refine wpList_app T_u16 hown hb hbs rfl rfl rfl rfl (by rfl) (by simp [Value.oneCell']) (by omega) (by omega) ?_; intro v' w3 hown' hb3 hsz3 hlt3; clear c0 f0; obtain ⟨c0, f0⟩ := HC.out _ hb3; obtain ⟨a', cap', rfl, -, -, -⟩ := ownsRow_row hown')
            | fail)
        go_ret
        exact ⟨rfl, trep_put H.out hb3 (by rw [HE.out, ← u16s_append, List.length_append]; exact hown')⟩

theorem trel_no (g : Nat) (x : Int) (l : List Int) (F : List Nat) (w : World) (h : TRep w g l F) (hlen : l.length ≤ 1000000) (hb : x ∉ l) :
    Calls Tryz.prog 48 #[.pointer (some ⟨g, 0, none⟩), .int .u16 x] w fun e w' => e = .returned (.bool false) ∧ w = w' := by
  have HB := Lib.hid (show decide (x ∈ l) = false by simpa using hb)
  have H := Lib.hid h
  clear hb h
  go_enter Tryz.func48, Tryz.ntmps48
  go_wp2_with fail
  refine (tknows_any false g x l F _ H.out hlen HB.out).mono ?_
  rintro e w1 ⟨rfl, rfl⟩
  go_wp2_with fail
  go_ret
  exact ⟨rfl, rfl⟩
set_option maxRecDepth 100000 in
set_option maxHeartbeats 1000000 in
theorem trel_yes (g : Nat) (x : Int) (l : List Int) (F : List Nat) (w : World) (h : TRep w g l F) (hlen : l.length ≤ 1000000) (hb : x ∈ l) :
    Calls Tryz.prog 48 #[.pointer (some ⟨g, 0, none⟩), .int .u16 x] w fun e w' => e = .returned (.bool true) ∧ ∃ F', TRep w' g (out x l) F' ∧ Upd F F' w w' := by
  have HB := Lib.hid (show decide (x ∈ l) = true by simpa using hb)
  have H := Lib.hid h
  obtain ⟨v, hg, hown, -, -⟩ := h
  obtain ⟨a, cap, rfl, hrow, hn, hc⟩ := ownsRow_row hown
  have HG := Lib.hid hg
  have HR := Lib.hid hrow
  clear hg hown hb hrow
  have hcell : ∀ wr, Below w.heap.size w wr → wr.cell? ⟨g, 0, none⟩ = some (.slice a l.length cap) ∧ wr.frozen? ⟨g, 0, none⟩ = false := fun wr hk => by
    have hg1 : wr.heap[g]? = _ := (hk.block g (Array.getElem?_eq_some_iff.1 HG.out).1).trans HG.out
    have c0 := cell_of_row wr g 0 _ _ _ hg1
    simp only [List.getElem?_toArray, List.getElem?_cons_zero] at c0
    exact ⟨c0, frozen_of_row wr g 0 _ _ hg1⟩
  have HC := Lib.hid hcell
  clear hcell
  obtain ⟨c0, -⟩ := HC.out w (Below.refl _ _)
  go_enter Tryz.func48, Tryz.ntmps48
  go_wp2_with fail
  refine (tknows_any true g x l F _ H.out hlen HB.out).mono ?_
  rintro e w1 ⟨rfl, rfl⟩
  go_wp2_with fail
  go_loopw [5, 6] (fun s i wr => ∃ (k : Nat), i = .int .i64 k ∧ k ≤ l.length ∧ wr.ownsRow w.heap.size 32 1 s (out x (l.take k)).length (u16s (out x (l.take k))) ∧ Below w.heap.size w wr) (fun _ i _ => (l.length - intOf i).toNat)
  case atStart => exact ⟨0, rfl, by omega, by simpa [out, u16s] using World.ownsRow_nil _ _ _ _, Below.refl _ _⟩
  case round =>
    obtain ⟨k, rfl, hk, hown, hb⟩ := hrel
    clear c0
    obtain ⟨c0, f0⟩ := HC.out _ hb
    have hbs := hb.size
    by_cases hlt : k < l.length
    · obtain ⟨b1, o1, rfl, k0⟩ := row_at (HR.out.below hb (Nat.le_refl _)) (k := k) (x := l[k]) (by simp [hlt])
      have hk0 : (0 : Int) ≤ k := by omega
      have hkl : (k : Int) < l.length := by omega
      have HT := Lib.hid (out_take (x := x) (show l[k]? = some l[k] by simp [hlt]))
      have hal : (out x (l.take k)).length ≤ 1000000 := by have := length_out_le x (l.take k); have := List.length_take_le k l; omega
      generalize out x (l.take k) = acc at *
      generalize l[k] = y at *
      by_cases he : y = x
      · subst he
        have hyy : (y != y) = false := by simp
        go_wp2_with fail
        refine ⟨⟨k + 1, by go_num, by omega, by rw [HT.out]; simpa using hown, hb⟩, by simp [intOf]; omega⟩
      · have hyy : (y != x) = true := by simpa using he
        go_wp2_with (first
          | (at_builtin; refine wpList_app T_u16 hown hb hbs rfl rfl rfl rfl (by rfl) (by simp [Value.oneCell']) (by omega) (by omega) ?_; intro v' w3 hown' hbel3 hsz3 hlt3; go_frame)
          | fail)
        refine ⟨⟨k + 1, by go_num, by omega, by rw [HT.out, if_neg he, ← u16s_append, List.length_append]; exact hown', hbel3⟩, by simp [intOf]; omega⟩
    · have hkl : ¬ (k : Int) < l.length := by omega
      rw [List.take_of_length_le (by omega)] at hown
      obtain ⟨a', cap', rfl, -, -, -⟩ := ownsRow_row hown
      go_wp2_with fail
      go_ret
      exact ⟨rfl, trep_put H.out hb hown⟩
end
end Go.Proofs.YtmkhagmjpbfieaaGreatDoor
