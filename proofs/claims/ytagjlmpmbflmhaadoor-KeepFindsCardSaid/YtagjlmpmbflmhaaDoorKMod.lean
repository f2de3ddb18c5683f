/- Messages by topics: the plain model. No program in sight. -/
import Derived.Test.YtagjlmpmbflmhaaDoorMem
namespace Go.Proofs.YtagjlmpmbflmhaaDoor
open Go Go.RowKit

def Msg.k (m : Msg) : List UInt8 := m.t.data.toList
def put (m : Msg) : List Msg → List Msg
  | [] => [m]
  | y :: r => if m.k < y.k then m :: y :: r else if y.k = m.k then m :: r else y :: put m r
def get (t : List UInt8) (l : List Msg) : Option Msg := l.find? fun m => m.k == t
def del (t : List UInt8) (l : List Msg) : List Msg := l.filter fun m => m.k != t
def Up (l : List Msg) : Prop := l.Pairwise fun a b => a.k < b.k

theorem lt_ne {a b : List UInt8} (h : a < b) : a ≠ b := fun e => List.lt_irrefl b (e ▸ h)
theorem lt_tri {a b : List UInt8} (h : ¬ a < b) (h' : b ≠ a) : b < a := by
  by_cases h2 : b < a
  · exact h2
  · exact absurd (List.le_antisymm (as := b) (bs := a) h h2) h'
theorem mem_put {m x : Msg} {l : List Msg} (h : x ∈ put m l) : x = m ∨ x ∈ l := by
  induction l with
  | nil => simp [put] at h; exact .inl h
  | cons y r ih =>
    unfold put at h
    split at h
    · simp at h; rcases h with h | h | h <;> simp [h]
    · split at h
      · simp at h; rcases h with h | h <;> simp [h]
      · simp at h
        rcases h with h | h
        · simp [h]
        · rcases ih h with h | h <;> simp [h]
theorem Up.put {m : Msg} {l : List Msg} (h : Up l) : Up (put m l) := by
  induction l with
  | nil => exact List.pairwise_singleton _ _
  | cons y r ih =>
    obtain ⟨h1, h2⟩ := List.pairwise_cons.1 h
    unfold Go.Proofs.YtagjlmpmbflmhaaDoor.put
    split
    · rename_i hlt
      refine List.pairwise_cons.2 ⟨fun z hz => ?_, h⟩
      rcases List.mem_cons.1 hz with rfl | hz
      · exact hlt
      · exact List.lt_trans hlt (h1 z hz)
    · split
      · rename_i hlt he
        exact List.pairwise_cons.2 ⟨fun z hz => he ▸ h1 z hz, h2⟩
      · rename_i hlt he
        refine List.pairwise_cons.2 ⟨fun z hz => ?_, ih h2⟩
        rcases mem_put hz with rfl | hz
        · exact lt_tri hlt he
        · exact h1 z hz
theorem Up.del {t : List UInt8} {l : List Msg} (h : Up l) : Up (del t l) := h.filter _
theorem get_none_of {t : List UInt8} {l : List Msg} (h : ∀ m ∈ l, t < m.k) : get t l = none := by
  unfold get
  rw [List.find?_eq_none]
  intro x hx
  simp only [beq_iff_eq]
  exact fun e => lt_ne (h x hx) e.symm
theorem get_cons (t : List UInt8) (y : Msg) (r : List Msg) : get t (y :: r) = if y.k = t then some y else get t r := by
  unfold get
  by_cases h : y.k = t <;> simp [h]
theorem get_put {m : Msg} {l : List Msg} (h : Up l) (t : List UInt8) : get t (put m l) = if t = m.k then some m else get t l := by
  induction l with
  | nil => rw [put, get_cons]; by_cases h : t = m.k <;> simp [h, eq_comm]
  | cons y r ih =>
    obtain ⟨h1, h2⟩ := List.pairwise_cons.1 h
    unfold put
    split
    · rw [get_cons]; by_cases h : t = m.k <;> simp [h, eq_comm]
    · split
      · rename_i hlt he
        rw [get_cons, get_cons]
        by_cases h : t = m.k
        · simp [h]
        · have : ¬ m.k = t := fun e => h e.symm
          simp [this, he, h]
      · rename_i hlt he
        rw [get_cons, get_cons, ih h2]
        by_cases h : t = m.k
        · subst h; simp [he]
        · simp [h]
theorem get_del (t u : List UInt8) (l : List Msg) : get t (del u l) = if t = u then none else get t l := by
  induction l with
  | nil => simp [del, get]
  | cons y r ih =>
    rw [get_cons]
    unfold del at *
    by_cases h : y.k = u
    · have : (y.k != u) = false := by simp [h]
      rw [List.filter_cons_of_neg (by simp [h]), ih]
      by_cases h' : t = u
      · simp [h']
      · have : ¬ y.k = t := fun e => h' (e.symm.trans h)
        simp [h', this]
    · rw [List.filter_cons_of_pos (by simp [h]), get_cons, ih]
      by_cases h' : t = u
      · subst h'; simp [h]
      · simp [h']
theorem len_put {m : Msg} {l : List Msg} (h : Up l) : (put m l).length = if (get m.k l).isSome then l.length else l.length + 1 := by
  induction l with
  | nil => rfl
  | cons y r ih =>
    obtain ⟨h1, h2⟩ := List.pairwise_cons.1 h
    unfold put
    rw [get_cons]
    split
    · rename_i hlt
      have e : get m.k r = none := get_none_of fun x hx => List.lt_trans hlt (h1 x hx)
      have : ¬ y.k = m.k := fun e => lt_ne hlt e.symm
      simp [this, e]
    · split
      · rename_i he; simp
      · rename_i he
        simp only [List.length_cons, ih h2]
        split <;> simp
theorem len_put_le (m : Msg) (l : List Msg) : (put m l).length ≤ l.length + 1 := by
  induction l with
  | nil => simp [put]
  | cons y r ih =>
    unfold put
    split
    · simp
    · split
      · simp
      · simp; omega
theorem len_del {t : List UInt8} {l : List Msg} (h : Up l) : (del t l).length + (if (get t l).isSome then 1 else 0) = l.length := by
  induction l with
  | nil => rfl
  | cons y r ih =>
    obtain ⟨h1, h2⟩ := List.pairwise_cons.1 h
    have ih := ih h2
    rw [get_cons]
    unfold del at *
    by_cases he : y.k = t
    · have e : get t r = none := get_none_of fun x hx => he ▸ h1 x hx
      rw [List.filter_cons_of_neg (by simp [he])]
      rw [e] at ih
      simp [he] at ih ⊢
      exact ih
    · rw [List.filter_cons_of_pos (by simp [he])]
      simp only [List.length_cons, if_neg he]
      omega
theorem len_del_le (t : List UInt8) (l : List Msg) : (del t l).length ≤ l.length := List.length_filter_le _ _
theorem get_some {t : List UInt8} {l : List Msg} {m : Msg} (h : get t l = some m) : m.k = t ∧ m ∈ l := by
  unfold get at h
  exact ⟨by have := List.find?_some h; simpa using this, List.mem_of_find?_eq_some h⟩
theorem get_of_mem {l : List Msg} {m : Msg} (h : Up l) (hm : m ∈ l) : get m.k l = some m := by
  induction l with
  | nil => simp at hm
  | cons y r ih =>
    obtain ⟨h1, h2⟩ := List.pairwise_cons.1 h
    rw [get_cons]
    rcases List.mem_cons.1 hm with rfl | hm
    · simp
    · have : ¬ y.k = m.k := lt_ne (h1 m hm)
      rw [if_neg this]; exact ih h2 hm
theorem mem_get {l : List Msg} (t : List UInt8) : (get t l).isSome = true ↔ t ∈ l.map Msg.k := by
  unfold get
  simp only [List.find?_isSome, beq_iff_eq, List.mem_map]
theorem Up.keys {l : List Msg} (h : Up l) : (l.map Msg.k).Pairwise (· < ·) := List.pairwise_map.2 h
/-- the library's sort of the keys -/
theorem sort_keys {l : List (List UInt8)} {m : List (List UInt8)} (hm : m.Pairwise (· < ·)) (h : l.Perm m) : (l.mergeSort fun x y => decide (x ≤ y)) = m := by
  have hp : ((l.mergeSort fun x y => decide (x ≤ y))).Pairwise (fun a b => decide (a ≤ b) = true) :=
    List.pairwise_mergeSort (fun a b c h1 h2 => by simp only [decide_eq_true_eq] at *; exact List.le_trans h1 h2) (fun a b => by have := List.le_total a b; simpa using this) l
  refine List.Perm.eq_of_pairwise (le := fun a b => decide (a ≤ b) = true) (fun a b _ _ h1 h2 => by simp only [decide_eq_true_eq] at *; exact List.le_antisymm h1 h2) hp
    (hm.imp (fun h => by simp only [decide_eq_true_eq]; exact List.le_of_lt h)) ((List.mergeSort_perm l _).trans h)
theorem nodup_keys {m : List (List UInt8)} (hm : m.Pairwise (· < ·)) : m.Nodup := hm.imp lt_ne
end Go.Proofs.YtagjlmpmbflmhaaDoor
