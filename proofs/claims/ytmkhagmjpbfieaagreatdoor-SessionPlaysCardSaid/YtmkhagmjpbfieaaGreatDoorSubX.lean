/- Messages by topics: the plain model. No program in sight. Filters in order, each with a QoS (layer 15): the plain law. No program in sight. -/
import Derived.Test.YtmkhagmjpbfieaaGreatDoorMemX
namespace Go.Proofs.YtmkhagmjpbfieaaGreatDoor
section
open Go Go.RowKit

def Msg.k (m : Msg) : List UInt8 := m.t.data.toList
def put (m : Msg) : List Msg → List Msg
  | [] => [m]
  | y :: r => if m.k < y.k then m :: y :: r else if y.k = m.k then m :: r else y :: put m r
def get (t : List UInt8) (l : List Msg) : Option Msg := l.find? fun m => m.k == t
def del (t : List UInt8) (l : List Msg) : List Msg := l.filter fun m => m.k != t
def Up (l : List Msg) : Prop := l.Pairwise fun a b => a.k < b.k

theorem lt_ne {a b : List UInt8} (h : a < b) : a ≠ b := fun e => List.lt_irrefl b (e ▸ h)
theorem lt_tri {a b : List UInt8} (h : ¬ a < b) (h' : b ≠ a) : b < a := by
  by_cases h2 : b < a
  · exact h2
  · exact absurd (List.le_antisymm (as := b) (bs := a) h h2) h'
theorem mem_put {m x : Msg} {l : List Msg} (h : x ∈ put m l) : x = m ∨ x ∈ l := by
  induction l with
  | nil => simp [put] at h; exact .inl h
  | cons y r ih =>
    unfold put at h
    split at h
    · simp at h; rcases h with h | h | h <;> simp [h]
    · split at h
      · simp at h; rcases h with h | h <;> simp [h]
      · simp at h
        rcases h with h | h
        · simp [h]
        · rcases ih h with h | h <;> simp [h]
theorem Up.put {m : Msg} {l : List Msg} (h : Up l) : Up (put m l) := by
  induction l with
  | nil => exact List.pairwise_singleton _ _
  | cons y r ih =>
    obtain ⟨h1, h2⟩ := List.pairwise_cons.1 h
    unfold Go.Proofs.YtmkhagmjpbfieaaGreatDoor.put
    split
    · rename_i hlt
      refine List.pairwise_cons.2 ⟨fun z hz => ?_, h⟩
      rcases List.mem_cons.1 hz with rfl | hz
      · exact hlt
      · exact List.lt_trans hlt (h1 z hz)
    · split
      · rename_i hlt he
        exact List.pairwise_cons.2 ⟨fun z hz => he ▸ h1 z hz, h2⟩
      · rename_i hlt he
        refine List.pairwise_cons.2 ⟨fun z hz => ?_, ih h2⟩
        rcases mem_put hz with rfl | hz
        · exact lt_tri hlt he
        · exact h1 z hz
theorem Up.del {t : List UInt8} {l : List Msg} (h : Up l) : Up (del t l) := h.filter _
end
section
open Go

abbrev SubE := List UInt8 × Int
def SUp (l : List SubE) : Prop := l.Pairwise (fun a b => a.1 < b.1)
def putE (x : SubE) : List SubE → List SubE
  | [] => [x]
  | y :: r => if y.1 < x.1 then y :: putE x r else if y.1 = x.1 then x :: r else x :: y :: r
def delE (f : List UInt8) (l : List SubE) : List SubE := l.filter fun y => y.1 != f
def hasE (f : List UInt8) (l : List SubE) : Bool := l.any fun y => y.1 == f
theorem putE_cut (x : SubE) : ∀ (l : List SubE) (k : Nat), k ≤ l.length → (∀ y ∈ l.take k, y.1 < x.1) → putE x l = l.take k ++ putE x (l.drop k)
  | l, 0, _, _ => by simp
  | [], k + 1, h, _ => by simp at h
  | y :: r, k + 1, h, hy => by
    have h1 : y.1 < x.1 := hy y (by simp)
    have ih := putE_cut x r k (by simpa using h) (fun z hz => hy z (by simp [hz]))
    rw [List.take_succ_cons, List.drop_succ_cons, List.cons_append, ← ih, putE, if_pos h1]
/-- the filter stands at k: it is put in its place -/
theorem putE_in {x : SubE} {l : List SubE} {k : Nat} (hk : k < l.length) (h : ∀ y ∈ l.take k, y.1 < x.1) (he : l[k].1 = x.1) : putE x l = l.set k x := by
  rw [putE_cut x l k (by omega) h, List.drop_eq_getElem_cons hk, putE, if_neg (by rw [he]; exact List.lt_irrefl _), if_pos he, List.set_eq_take_append_cons_drop, if_pos hk]
/-- it would stand at k -/
theorem putE_new {x : SubE} {l : List SubE} {k : Nat} (hk : k ≤ l.length) (h : ∀ y ∈ l.take k, y.1 < x.1) (hn : ∀ hl : k < l.length, ¬ l[k].1 < x.1 ∧ l[k].1 ≠ x.1) : putE x l = l.take k ++ ([x] ++ l.drop k) := by
  rw [putE_cut x l k hk h]
  by_cases hl : k < l.length
  · rw [List.drop_eq_getElem_cons hl, putE, if_neg (hn hl).1, if_neg (hn hl).2]
    rfl
  · rw [List.drop_eq_nil_of_le (by omega)]
    rfl
theorem SUp.low {l : List SubE} (h : SUp l) {f : List UInt8} {m : Nat} (hm : m < l.length) (hl : l[m].1 < f) : ∀ y ∈ l.take (m + 1), y.1 < f := by
  intro y hy
  rw [List.take_succ_eq_append_getElem hm] at hy
  rcases List.mem_append.1 hy with hy | hy
  · obtain ⟨i, hi, rfl⟩ := List.getElem_of_mem hy
    rw [List.length_take] at hi
    rw [List.getElem_take]
    exact List.lt_trans (List.pairwise_iff_getElem.1 h i m (by omega) hm (by omega)) hl
  · rw [List.mem_singleton.1 hy]; exact hl
theorem SUp.high {l : List SubE} (h : SUp l) {f : List UInt8} {m : Nat} (hm : m < l.length) (hl : ¬ l[m].1 < f) : ∀ y ∈ l.drop m, ¬ y.1 < f := by
  intro y hy hlt
  rw [List.drop_eq_getElem_cons hm] at hy
  rcases List.mem_cons.1 hy with rfl | hy
  · exact hl hlt
  · obtain ⟨i, hi, rfl⟩ := List.getElem_of_mem hy
    rw [List.length_drop] at hi
    rw [List.getElem_drop] at hlt
    exact hl (List.lt_trans (List.pairwise_iff_getElem.1 h m (m + 1 + i) hm (by omega) (by omega)) hlt)
/-- whether a filter is there is seen where it would stand -/
theorem hasE_at {f : List UInt8} {l : List SubE} (h : SUp l) {k : Nat} (hk : k ≤ l.length) (h1 : ∀ y ∈ l.take k, y.1 < f) (h2 : ∀ y ∈ l.drop k, ¬ y.1 < f) : hasE f l = true ↔ ∃ hl : k < l.length, l[k].1 = f := by
  unfold hasE
  rw [List.any_eq_true]
  constructor
  · rintro ⟨y, hy, e⟩
    rw [beq_iff_eq] at e
    rw [← List.take_append_drop k l] at hy
    rcases List.mem_append.1 hy with hy | hy
    · exact absurd e (lt_ne (h1 y hy))
    · by_cases hl : k < l.length
      · refine ⟨hl, ?_⟩
        rw [List.drop_eq_getElem_cons hl] at hy
        rcases List.mem_cons.1 hy with rfl | hy
        · exact e
        · obtain ⟨i, hi, rfl⟩ := List.getElem_of_mem hy
          rw [List.length_drop] at hi
          rw [List.getElem_drop] at e
          have := List.pairwise_iff_getElem.1 h k (k + 1 + i) hl (by omega) (by omega)
          rw [e] at this
          have hm : l[k] ∈ l.drop k := List.mem_iff_getElem?.2 ⟨0, by rw [List.getElem?_drop, Nat.add_zero]; exact List.getElem?_eq_getElem hl⟩
          exact absurd this (h2 _ hm)
      · rw [List.drop_eq_nil_of_le (by omega)] at hy; cases hy
  · rintro ⟨hl, e⟩
    exact ⟨l[k], List.getElem_mem hl, by rw [e]; simp⟩
theorem delE_none {f : List UInt8} {l : List SubE} (h : hasE f l = false) : delE f l = l := by
  unfold delE
  rw [List.filter_eq_self]
  intro y hy
  have := List.any_eq_false.1 h y hy
  simpa using this
theorem delE_at {f : List UInt8} {l : List SubE} (h : SUp l) {k : Nat} (hk : k < l.length) (he : l[k].1 = f) : delE f l = l.take k ++ l.drop (k + 1) := by
  have hs : l = l.take k ++ (l[k] :: l.drop (k + 1)) := by rw [← List.drop_eq_getElem_cons hk, List.take_append_drop]
  have h1 : delE f (l.take k) = l.take k := delE_none (by
    unfold hasE
    rw [List.any_eq_false]
    intro y hy
    obtain ⟨i, hi, rfl⟩ := List.getElem_of_mem hy
    rw [List.length_take] at hi
    rw [List.getElem_take]
    have := List.pairwise_iff_getElem.1 h i k (by omega) hk (by omega)
    rw [he] at this
    simpa using lt_ne this)
  have h2 : delE f (l.drop (k + 1)) = l.drop (k + 1) := delE_none (by
    unfold hasE
    rw [List.any_eq_false]
    intro y hy
    obtain ⟨i, hi, rfl⟩ := List.getElem_of_mem hy
    rw [List.length_drop] at hi
    rw [List.getElem_drop]
    have := List.pairwise_iff_getElem.1 h k (k + 1 + i) hk (by omega) (by omega)
    rw [he] at this
    simpa using fun e => lt_ne this e.symm)
  conv => lhs; rw [hs]
  unfold delE at *
  rw [List.filter_append, List.filter_cons_of_neg (by simpa using he), h1, h2]
theorem mem_putE {x y : SubE} {l : List SubE} (h : y ∈ putE x l) : y = x ∨ y ∈ l := by
  induction l with
  | nil => exact .inl (by simpa [putE] using h)
  | cons z r ih =>
    unfold putE at h
    split at h
    · rcases List.mem_cons.1 h with h | h
      · exact .inr (by simp [h])
      · exact (ih h).imp id (fun h => by simp [h])
    · split at h
      · rcases List.mem_cons.1 h with h | h
        · exact .inl h
        · exact .inr (by simp [h])
      · rcases List.mem_cons.1 h with h | h
        · exact .inl h
        · exact .inr h
theorem sup_put {x : SubE} {l : List SubE} (h : SUp l) : SUp (putE x l) := by
  induction l with
  | nil => exact List.pairwise_singleton _ _
  | cons z r ih =>
    obtain ⟨h1, h2⟩ := List.pairwise_cons.1 h
    unfold putE
    split
    · rename_i hz
      refine List.pairwise_cons.2 ⟨fun y hy => ?_, ih h2⟩
      rcases mem_putE hy with rfl | hy
      · exact hz
      · exact h1 y hy
    · rename_i hz
      split
      · rename_i he
        exact List.pairwise_cons.2 ⟨fun y hy => he ▸ h1 y hy, h2⟩
      · rename_i he
        have hx : x.1 < z.1 := lt_tri hz (fun e => he e.symm)
        refine List.pairwise_cons.2 ⟨fun y hy => ?_, h⟩
        rcases List.mem_cons.1 hy with rfl | hy
        · exact hx
        · exact List.lt_trans hx (h1 y hy)
theorem sup_del {f : List UInt8} {l : List SubE} (h : SUp l) : SUp (delE f l) := List.Pairwise.sublist List.filter_sublist h
/-- the document takes a filter away, and puts it in: that is to put it -/
theorem put_del_E {x : SubE} {l : List SubE} (h : SUp l) : putE x (delE x.1 l) = putE x l := by
  induction l with
  | nil => rfl
  | cons z r ih =>
    obtain ⟨h1, h2⟩ := List.pairwise_cons.1 h
    by_cases he : z.1 = x.1
    · have hd : delE x.1 (z :: r) = r := by
        have := delE_at (f := x.1) h (k := 0) (by simp) he
        simpa using this
      rw [hd]
      conv => rhs; unfold putE
      rw [if_neg (by rw [he]; exact List.lt_irrefl _), if_pos he]
      cases r with
      | nil => rfl
      | cons u v =>
        have hu : x.1 < u.1 := he ▸ h1 u (by simp)
        unfold putE
        rw [if_neg (fun hl => List.lt_irrefl _ (List.lt_trans hu hl)), if_neg (fun e => lt_ne hu e.symm)]
    · have hd : delE x.1 (z :: r) = z :: delE x.1 r := by
        unfold delE
        rw [List.filter_cons_of_pos (by simpa using he)]
      rw [hd]
      unfold putE
      by_cases hz : z.1 < x.1
      · rw [if_pos hz, if_pos hz, ih h2]
      · have hx : x.1 < z.1 := lt_tri hz (fun e => he e.symm)
        have hn : delE x.1 r = r := delE_none (by
          unfold hasE
          rw [List.any_eq_false]
          intro y hy
          simpa using fun e => lt_ne (List.lt_trans hx (h1 y hy)) e.symm)
        rw [if_neg hz, if_neg he, if_neg hz, if_neg he, hn]
theorem len_putE (x : SubE) (l : List SubE) : (putE x l).length ≤ l.length + 1 := by
  induction l with
  | nil => simp [putE]
  | cons z r ih =>
    unfold putE
    split
    · rw [List.length_cons, List.length_cons]; omega
    · split <;> simp
theorem len_delE (f : List UInt8) (l : List SubE) : (delE f l).length ≤ l.length := List.length_filter_le _ _
end
end Go.Proofs.YtmkhagmjpbfieaaGreatDoor
