/- The document's way to set a message in a row: the plain law. No program in sight. -/
import Derived.Test.YtagjlmpmbflmhaaDoorKMod
namespace Go.Proofs.YtagjlmpmbflmhaaDoor
open Go Go.RowKit

/-- What the document's loop makes of a row; b: the message is in already, or is not to be kept. -/
def refGo (m : Msg) : Bool → List Msg → List Msg
  | b, [] => if b then [] else [m]
  | b, y :: r =>
    if b = false ∧ m.k < y.k then m :: (if y.k = m.k then refGo m true r else y :: refGo m true r)
    else if y.k = m.k then refGo m b r else y :: refGo m b r
theorem refGo_true (m : Msg) (L : List Msg) : refGo m true L = del m.k L := by
  induction L with
  | nil => rfl
  | cons y r ih =>
    unfold refGo
    rw [if_neg (by simp), ih]
    by_cases h : y.k = m.k <;> simp [del, h]
theorem del_none {t : List UInt8} {L : List Msg} (h : ∀ x ∈ L, t < x.k) : del t L = L := by
  unfold del
  rw [List.filter_eq_self]
  intro x hx
  simp only [bne_iff_ne, ne_eq]
  exact fun e => lt_ne (h x hx) e.symm
theorem put_low {m : Msg} {L : List Msg} (h : ∀ x ∈ L, m.k < x.k) : put m L = m :: L := by
  cases L with
  | nil => rfl
  | cons z s => unfold put; rw [if_pos (h z (by simp))]
theorem refGo_false {m : Msg} {L : List Msg} (hU : Up L) : refGo m false L = put m L := by
  induction L with
  | nil => rfl
  | cons y r ih =>
    obtain ⟨h1, h2⟩ := List.pairwise_cons.1 hU
    unfold refGo put
    by_cases hlt : m.k < y.k
    · have hne : ¬ y.k = m.k := fun e => lt_ne hlt e.symm
      rw [if_pos ⟨rfl, hlt⟩, if_pos hlt, if_neg hne, refGo_true, del_none fun x hx => List.lt_trans hlt (h1 x hx)]
    · rw [if_neg (fun h => hlt h.2), if_neg hlt]
      by_cases he : y.k = m.k
      · rw [if_pos he, if_pos he, ih h2, put_low fun x hx => he ▸ h1 x hx]
      · rw [if_neg he, if_neg he, ih h2]
end Go.Proofs.YtagjlmpmbflmhaaDoor
