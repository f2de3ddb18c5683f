/- The set of ids: Open walked: a range in any order, an append a round, the library's sort. -/
import Derived.Test.YtmkhagmjpbfieaaGreatDoorICame
namespace Go.Proofs.YtmkhagmjpbfieaaGreatDoor
open Go Go.RowKit Go.Maps

/-- no id twice; an id is on the list just where the map has it and it is no longer to come -/
def Coll (D : DataW Unit) (left : Lit → Bool) (ss : List Int) : Prop := ss.Nodup ∧ (∀ x ∈ ss, 0 ≤ x ∧ x ≤ 65535) ∧ ∀ x, x ∈ ss ↔ (Maps.has D (.int .u16 x) = true ∧ left (.int .u16 x) = false)
theorem Coll.start (D : DataW Unit) : Coll D (Maps.has D) [] := ⟨List.nodup_nil, by simp, fun x => by cases Maps.has D (.int .u16 x) <;> simp⟩
theorem Coll.step {D : DataW Unit} {left : Lit → Bool} {ss : List Int} (h : Coll D left ss) {x : Int} {y : DataW Unit} (hx0 : 0 ≤ x) (hx1 : x ≤ 65535) (hlk : left (.int .u16 x) = true) (hat : ∀ zd, D.atKey (.int .u16 x) zd = y) :
    Coll D (fun z => left z && !z.sameKey (.int .u16 x)) (ss ++ [x]) := by
  have hhas : Maps.has D (.int .u16 x) = true := has_true_of_atKey hat
  have hnew : x ∉ ss := fun hx => by have := ((h.2.2 x).1 hx).2; rw [hlk] at this; cases this
  refine ⟨List.nodup_append.2 ⟨h.1, by simp, fun a ha b hb => by simp at hb; subst hb; exact fun e => hnew (e ▸ ha)⟩, ?_, fun y => ?_⟩
  · intro z hz
    simp at hz
    rcases hz with hz | rfl
    · exact h.2.1 z hz
    · exact ⟨hx0, hx1⟩
  · by_cases hy : y = x
    · subst hy; simp [hhas, Lit.sameKey]
    · simp [h.2.2 y, hy, Lit.sameKey]
theorem Coll.perm {D : DataW Unit} {left : Lit → Bool} {ss l : List Int} (h : Coll D left ss) (hl : ∀ kl, left kl = false) (hs : l.Pairwise (· < ·)) (hr : ∀ x ∈ l, 1 ≤ x ∧ x ≤ 65535) (hm : ∀ x, 0 ≤ x → x ≤ 65535 → Maps.has D (.int .u16 x) = decide (x ∈ l)) : ss.Perm l := by
  refine (List.perm_ext_iff_of_nodup h.1 (hs.imp (fun h e => by omega))).2 fun x => ⟨fun hx => ?_, fun hx => ?_⟩
  · have h1 := h.2.1 x hx
    have := ((h.2.2 x).1 hx).1
    rw [hm x h1.1 h1.2] at this
    simpa using this
  · have h1 := hr x hx
    exact (h.2.2 x).2 ⟨by rw [hm x (by omega) h1.2]; simpa using hx, hl _⟩

theorem iter_ne {k : TypeId} {R : Value → Option (DataW Unit × List MemPlace)} {w : World} {b r n : Nat} {D : DataW Unit} {left : Lit → Bool} {cnt base : Nat} {e : TypeId} {size : Nat} {v : Value} {m : Nat} {xs : List Value}
    (h : w.ownsRow base e size v m xs) (hr : w.ranges Tryz.prog k R b r n D left cnt) : some r ≠ v.ownBlock := by
  obtain ⟨_, _, _, _, _, _, _, _, _, hit, _⟩ := hr
  rcases h.2 with ⟨rfl, _⟩ | ⟨g, cap, cur, rfl, _, hb, _⟩
  · simp [Value.ownBlock]
  · intro e1
    have : r = g := by simpa [Value.ownBlock] using e1
    subst this
    rw [hit] at hb
    cases hb
theorem low_ne {w : World} {base : Nat} {e : TypeId} {size : Nat} {v : Value} {n : Nat} {xs : List Value} (h : w.ownsRow base e size v n xs) {b : Nat} (hb : b < base) : some b ≠ v.ownBlock := fun e1 => by
  have := (h.lt b e1.symm).1
  omega

set_option maxRecDepth 100000 in
set_option maxHeartbeats 1000000 in
theorem copen (g : Nat) (l : List Int) (F : List Nat) (w : World) (h : CRep w g l F) :
    Calls Tryz.prog 53 #[.pointer (some ⟨g, 0, none⟩)] w fun e w' => ∃ v, e = .returned v ∧ w'.ownsRow w.heap.size 32 1 v l.length (u16s l) ∧ Below w.heap.size w w' := by
  have hlen := h.len
  obtain ⟨m, D, hg, hown, h1, h2, h3, h4, h5, rfl⟩ := h
  have c1 := cell_of_row w g 0 _ _ _ hg
  simp only [List.getElem?_toArray, List.getElem?_cons_zero] at c1
  have hml := hown.lt
  have HS := Lib.hid h1
  have H2 := Lib.hid h2
  have H3 := Lib.hid h3
  have H4 := Lib.hid h4
  clear hg h1 h2 h3 h4
  obtain ⟨i0, hi, hz0, hz1, hz2⟩ := info_parts T_u16.hi
  go_enter Tryz.func53, Tryz.ntmps53
  go_wp2_with (first
    | (at_range; refine wpList_range_own _ rfl _ 107 rfl 32 130 kU Tryz.underlying107 _ m _ _ rfl hown ?_; intro w0 hrg0 hg0 hs0)
    | fail)
  go_frame
  clear hs0
  go_loopw [3, 4] (fun v _ wr => ∃ (left : Lit → Bool) (cnt : Nat) (ss : List Int), wr.ranges Tryz.prog 32 unitElem m w.heap.size (Maps.size D) D left cnt ∧ ss.length + cnt ≤ l.length ∧
      wr.ownsRow w.heap.size 32 1 v ss.length (u16s ss) ∧ Coll D left ss ∧ Below w.heap.size w wr)
    (fun _ _ wr => wr.rangeLeft m w.heap.size)
  case atStart => exact ⟨_, _, [], hrg0, by rw [HS.out]; simp, World.ownsRow_nil _ _ _ _, Coll.start D, (Below.refl _ _).grown hg0 (Nat.le_refl _) (fun j hj => by cases hj)⟩
  case round =>
    obtain ⟨left, cnt, ss, hrg, hcs, hrow, hC, hnx⟩ := hrel
    go_wp2_with (first
      | (at_next; refine wpList_next_ranges (α := Int) (β := Unit) _ rfl _ rfl 32 kU unitElem (Value.int .u16) (fun _ => .agg #[]) (fun key kl hk => by obtain ⟨x, hx, _⟩ := Maps.keyOf_int_inv Tryz.underlying32 hk; exact ⟨x, hx⟩) (fun v y hv => ⟨(), (unitElem_inv hv).1⟩) m w.heap.size _ _ _ _ rfl hrg ?_ ?_)
      | fail)
    · intro hc0 hl0
      have hP := sort_perm H3.out (hC.perm hl0 H3.out H4.out H2.out)
      have hLL : ss.length = l.length := by rw [← hP]; simp
      have HP := Lib.hid hP
      have HLL := Lib.hid hLL
      have hc := us_own hrow (by omega)
      rw [hP] at hc
      clear hP hLL
      go_wp2_with fail
      refine hc.mono ?_
      rintro e w' ⟨rfl, hrow', hgr⟩
      go_wp2_with fail
      go_ret
      exact ⟨_, rfl, by rw [← HLL.out]; exact hrow', hnx.grown hgr hnx.size (fun k hk => (hrow.lt k hk).1)⟩
    · intro x kl yd yp w2 cnt2 hkey hlk hv hat hrg2 hlt hg2 hs2 hen
      obtain ⟨x', ex, rfl, hwf⟩ := Maps.keyOf_int_inv Tryz.underlying32 hkey
      obtain rfl : x = x' := by simpa using ex
      obtain ⟨hx0, hx1⟩ := wfU_iff hwf
      have hrow2 := hrow.kept hg2 (Or.inr (iter_ne hrow hrg).symm)
      clear hs2 hkey ex
      have hsz2 : w.heap.size ≤ w2.heap.size := Nat.le_trans hnx.size hg2.size
      have hb2 := hnx.grown hg2 hnx.size (fun j hj => by cases hj; exact Nat.le_refl _)
      go_wp2_with (first
        | (at_builtin; refine wpList_appG T_u16 hrow2 hb2 hsz2 rfl rfl rfl rfl (by rfl) (by simp [Value.oneCell']) (by omega) (by omega) ?_; intro v' w3 hown' hbel3 hsz3 hg3; go_frame)
        | fail)
      have hrg3 := (hrg2.alloc (.cells #[.int .u16 x] 32)).kept hg3 (low_ne hrow2 hml) (iter_ne hrow2 hrg2)
      refine ⟨⟨_, cnt2, ss ++ [x], hrg3, by simp; omega, ?_, hC.step hx0 hx1 hlk hat, hbel3⟩, by rw [hrg3.left_eq, hrg.left_eq]; exact hlt⟩
      rw [← u16s_append, List.length_append]
      exact hown'
end Go.Proofs.YtmkhagmjpbfieaaGreatDoor
