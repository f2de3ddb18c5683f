/- KeepLast: the plain law. No program in sight. -/
import Derived.Test.YtagjlmpmbflmhaaDoorKOne
namespace Go.Proofs.YtagjlmpmbflmhaaDoor
open Go Go.RowKit Go.Maps

theorem put_perm {m : Msg} {L : List Msg} (h : Up L) : (put m L).Perm (m :: del m.k L) := by
  induction L with
  | nil => exact List.Perm.refl _
  | cons y r ih =>
    obtain ⟨h1, h2⟩ := List.pairwise_cons.1 h
    unfold put
    split
    · rename_i hlt
      have : del m.k (y :: r) = y :: r := by
        unfold del
        rw [List.filter_eq_self]
        intro x hx
        simp only [bne_iff_ne, ne_eq]
        rcases List.mem_cons.1 hx with rfl | hx
        · exact fun e => lt_ne hlt e.symm
        · exact fun e => lt_ne (List.lt_trans hlt (h1 x hx)) e.symm
      rw [this]
    · split
      · rename_i hlt he
        have : del m.k (y :: r) = r := by
          unfold del
          rw [List.filter_cons_of_neg (by simp [he]), List.filter_eq_self]
          intro x hx
          simp only [bne_iff_ne, ne_eq]
          exact fun e => lt_ne (he ▸ h1 x hx) e.symm
        rw [this]
      · rename_i hlt he
        have : del m.k (y :: r) = y :: del m.k r := by
          unfold del
          rw [List.filter_cons_of_pos (by simpa using he)]
        rw [this]
        exact ((ih h2).cons y).trans (List.Perm.swap _ _ _)

theorem up_setB {m : Msg} {L : List Msg} (h : Up L) : Up (setB m L) := by
  unfold setB
  split
  · unfold setM
    split
    · exact h.del
    · exact h.put
  · exact h
/-- does a message touch a topic? -/
def hits (t : List UInt8) (x : Msg) : Bool := mayB x && decide (x.k = t)
def lastTo (m : Msg) (xs : List Msg) : Bool := mayB m && xs.all fun x => !hits m.k x
def cntK : List Msg → Nat
  | [] => 0
  | m :: r => (if lastTo m r && decide (m.p.data.toList ≠ []) then 1 else 0) + cntK r
def foldB (k l : List Msg) : List Msg := l.foldl (fun k m => setB m k) k
theorem foldB_up {l : List Msg} : ∀ {k : List Msg}, Up k → Up (foldB k l) := by
  induction l with
  | nil => intro k h; exact h
  | cons m l ih => intro k h; exact ih (up_setB h)
theorem up_nil : Up [] := List.Pairwise.nil
theorem get_setB_no {t : List UInt8} {m : Msg} {L : List Msg} (hU : Up L) (h : hits t m = false) : get t (setB m L) = get t L := by
  unfold setB
  cases hm : mayB m with
  | false => rfl
  | true =>
    have hk : ¬ t = m.k := by
      unfold hits at h
      rw [hm] at h
      simp at h
      exact fun e => h e.symm
    simp only [if_true]
    unfold setM
    split
    · rw [get_del, if_neg hk]
    · rw [get_put hU, if_neg (show ¬ t = m.kept.k from hk)]
theorem get_foldB_no {t : List UInt8} {l : List Msg} : ∀ {k : List Msg}, Up k → (∀ x ∈ l, hits t x = false) → get t (foldB k l) = get t k := by
  induction l with
  | nil => intro k _ _; rfl
  | cons m l ih =>
    intro k hU h
    have h1 := ih (up_setB (m := m) hU) (fun x hx => h x (by simp [hx]))
    show get t (foldB (setB m k) l) = _
    rw [h1, get_setB_no hU (h m (by simp))]
theorem get_setB_same {m : Msg} {L : List Msg} (hU : Up L) (hm : mayB m = true) : get m.k (setB m L) = if m.p.data.toList = [] then none else some m.kept := by
  unfold setB
  simp only [hm, if_true]
  unfold setM
  split
  · rw [get_del]; simp
  · rw [get_put hU, if_pos (show m.k = m.kept.k from rfl)]
theorem made_split (pre : List Msg) (m : Msg) (post : List Msg) : madeL (pre ++ m :: post) = foldB (setB m (madeL pre)) post := by
  simp [madeL, foldB]
theorem up_made (l : List Msg) : Up (madeL l) := foldB_up up_nil
theorem get_last {pre post : List Msg} {m : Msg} (h : lastTo m post = true) : get m.k (madeL (pre ++ m :: post)) = if m.p.data.toList = [] then none else some m.kept := by
  unfold lastTo at h
  simp only [Bool.and_eq_true, List.all_eq_true] at h
  rw [made_split, get_foldB_no (up_setB (up_made pre)) (fun x hx => by simpa using h.2 x hx), get_setB_same (up_made pre) h.1]

theorem len_foldB {l : List Msg} : ∀ {k : List Msg}, Up k → (foldB k l).length = cntK l + (k.filter fun x => l.all fun y => !hits x.k y).length := by
  induction l with
  | nil =>
    intro k _
    show k.length = 0 + (k.filter fun _ => true).length
    rw [List.filter_eq_self.2 (by simp)]; omega
  | cons m l ih =>
    intro k hU
    have h1 := ih (up_setB (m := m) hU)
    show (foldB (setB m k) l).length = _
    rw [h1, show cntK (m :: l) = (if lastTo m l && decide (m.p.data.toList ≠ []) then 1 else 0) + cntK l from rfl]
    unfold setB
    cases hm : mayB m with
    | false =>
      have e1 : lastTo m l = false := by unfold lastTo; rw [hm]; rfl
      have e2 : ∀ t, hits t m = false := fun t => by unfold hits; rw [hm]; rfl
      simp [e1, e2]
    | true =>
      have e2 : ∀ t, hits t m = decide (m.k = t) := fun t => by unfold hits; rw [hm]; rfl
      have e3 : (k.filter fun x => (m :: l).all fun y => !hits x.k y) = (del m.k k).filter fun x => l.all fun y => !hits x.k y := by
        unfold del
        rw [List.filter_filter]
        apply List.filter_congr
        intro x _
        rw [List.all_cons, e2, Bool.and_comm]
        congr 1
        by_cases h : m.k = x.k
        · simp [h]
        · have h' : ¬ x.k = m.k := fun e => h e.symm
          simp [h, h']
      rw [e3]
      simp only [if_true]
      unfold setM
      split
      · rename_i hp; simp [hp]
      · rename_i hp
        have hpm := (put_perm (m := m.kept) hU).filter fun x => l.all fun y => !hits x.k y
        rw [hpm.length_eq, List.filter_cons]
        have e4 : lastTo m l = (l.all fun y => !hits m.kept.k y) := by
          unfold lastTo; rw [hm]; rfl
        rw [e4]
        have e5 : del m.kept.k k = del m.k k := rfl
        rw [e5]
        split
        · simp [*]; omega
        · simp [*]
theorem len_last (l : List Msg) : (madeL l).length = cntK l := by
  have := len_foldB (l := l) up_nil
  simpa [foldB, madeL] using this

theorem lastTo_snoc (m : Msg) (xs : List Msg) (x : Msg) : lastTo m (xs ++ [x]) = (lastTo m xs && !hits m.k x) := by
  unfold lastTo
  rw [List.all_append, Bool.and_assoc]
  simp
theorem cnt_drop {l : List Msg} {k : Nat} (h : k < l.length) : cntK (l.drop k) = (if lastTo l[k] (l.drop (k + 1)) && decide (l[k].p.data.toList ≠ []) then 1 else 0) + cntK (l.drop (k + 1)) := by
  rw [List.drop_eq_getElem_cons h, cntK]
theorem split_at {l : List Msg} {k : Nat} (h : k < l.length) : l = l.take k ++ l[k] :: l.drop (k + 1) := by
  rw [← List.drop_eq_getElem_cons h, List.take_append_drop]
theorem get_at {l : List Msg} {k : Nat} (h : k < l.length) (hl : lastTo l[k] (l.drop (k + 1)) = true) : get l[k].k (madeL l) = if l[k].p.data.toList = [] then none else some l[k].kept := by
  have := get_last (pre := l.take k) hl
  rw [← split_at h] at this
  exact this
end Go.Proofs.YtagjlmpmbflmhaaDoor
