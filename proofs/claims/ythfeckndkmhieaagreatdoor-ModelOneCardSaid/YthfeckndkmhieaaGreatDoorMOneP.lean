/- ModelOne, ModelBest: the plain law. No program in sight. -/
import Derived.Test.YthfeckndkmhieaaGreatDoorQR
namespace Go.Proofs.YthfeckndkmhieaaGreatDoor
open Go

/-- what is refused, or not done, changes nothing -/
theorem one_same {x : Note} {s : MS} (hO : MOk s) (hO' : MOk (applyM x s).2) (h : x.kind ≠ 2 ∨ (applyM x s).1.2.2 = false) :
    (applyM x s).1.2.1 = false ∧ (∀ d, lookS d (applyM x s).2.seats = lookS d s.seats) ∧ listsM (applyM x s).2.seats = listsM s.seats := by
  suffices hs : (applyM x s).1.2.1 = false ∧ ∀ d, lookS d (applyM x s).2.seats = lookS d s.seats from ⟨hs.1, hs.2, listsM_ext hO' hO hs.2⟩
  by_cases h2 : x.kind = 2
  · obtain ⟨a1, a2, a3⟩ := does_look x s h2
    have hf : (doesO x (lookS x.client.data.toList s.seats)).1.2.2 = false := by
      rw [← a1]
      rcases h with h | h
      · exact absurd h2 h
      · exact h
    have hn := doesO_no hf
    rw [hn] at a1 a3
    refine ⟨by rw [a1], fun d => ?_⟩
    rw [a3]
    split
    · rename_i e; rw [e]
    · rfl
  · by_cases h5 : x.kind = 5
    · rw [keeps_look x s h5]; exact ⟨rfl, fun _ => rfl⟩
    · rw [else_look x s h5 h2]; exact ⟨rfl, fun _ => rfl⟩
theorem one_conn {x : Note} {s : MS} (hO : MOk s) (hO' : MOk (applyM x s).2) (hk : x.kind = 2) (ht : x.pk.ty = 1) (hok : (applyM x s).1.2.2 = true) :
    connOf (lookS x.client.data.toList s.seats) = 0 ∧ connOf (lookS x.client.data.toList (applyM x s).2.seats) = x.conn ∧ ¬ x.conn < 1 ∧ (lookS x.client.data.toList (applyM x s).2.seats).isSome = true ∧
      ((applyM x s).1.2.1 = true → (lookS x.client.data.toList s.seats).isSome = true ∧ x.pk.clean = false) ∧ ((applyM x s).1.2.1 = false → ¬ ∃ h ∈ listsM (applyM x s).2.seats, h.2 = x.client.data.toList) := by
  obtain ⟨a1, a2, a3⟩ := does_look x s hk
  have a4 := a3 x.client.data.toList
  rw [if_pos rfl] at a4
  have hL := fun f => @mem_listsM _ hO' f x.client.data.toList
  rw [a4] at hL ⊢
  rw [a1] at hok ⊢
  unfold doesO at *
  rw [if_pos ht] at *
  by_cases hb : connBad (lookS x.client.data.toList s.seats) x = true
  · rw [if_pos hb] at hok
    cases hok
  · rw [if_neg hb] at *
    have hb' : connBad (lookS x.client.data.toList s.seats) x = false := by simpa using hb
    unfold connBad at hb'
    rw [Bool.or_eq_false_iff] at hb'
    obtain ⟨h1, h2⟩ := hb'
    have hc := of_decide_eq_false h1
    refine ⟨?_, rfl, hc, rfl, fun hp => ?_, fun hp => ?_⟩
    · cases ho : lookS x.client.data.toList s.seats with
      | none => rfl
      | some y =>
        rw [ho] at h2
        have := of_decide_eq_false h2
        have h0 := (hO.look ho).1
        show y.conn = 0
        omega
    · simp only at hp
      unfold connP at hp
      cases ho : lookS x.client.data.toList s.seats with
      | none => rw [ho] at hp; cases hp
      | some y =>
        rw [ho] at hp
        simp only [Bool.and_eq_true, Bool.not_eq_true'] at hp
        exact ⟨rfl, hp.2⟩
    · rintro ⟨⟨f, c⟩, hm, rfl⟩
      obtain ⟨y, hy, hf⟩ := (hL f).1 hm
      cases hy
      simp only at hp
      unfold connS at hf
      rw [hp] at hf
      simp at hf
theorem one_else {x : Note} {s : MS} (hk : x.kind = 2) (ht : x.pk.ty ≠ 1) (hok : (applyM x s).1.2.2 = true) :
    connOf (lookS x.client.data.toList s.seats) = x.conn ∧ ¬ x.conn < 1 ∧ (applyM x s).1.2.1 = false ∧
      ((x.pk.ty = 14 ∨ x.pk.ty = 0) → connOf (lookS x.client.data.toList (applyM x s).2.seats) = 0) ∧ (¬ (x.pk.ty = 14 ∨ x.pk.ty = 0) → connOf (lookS x.client.data.toList (applyM x s).2.seats) = x.conn) := by
  obtain ⟨a1, a2, a3⟩ := does_look x s hk
  have a4 := a3 x.client.data.toList
  rw [if_pos rfl] at a4
  rw [a4]
  rw [a1] at hok ⊢
  unfold doesO at *
  rw [if_neg ht] at *
  cases ho : lookS x.client.data.toList s.seats with
  | none => rw [ho] at hok; cases hok
  | some y =>
    rw [ho] at hok
    simp only at hok ⊢
    by_cases hc : x.conn < 1 ∨ y.conn ≠ x.conn
    · rw [if_pos hc] at hok; cases hok
    · rw [if_neg hc] at hok ⊢
      have hc1 : ¬ x.conn < 1 := fun h => hc (.inl h)
      have hc2 : y.conn = x.conn := Classical.byContradiction fun h => hc (.inr h)
      refine ⟨hc2, hc1, ?_, fun h14 => ?_, fun h14 => ?_⟩
      · split
        · rfl
        split
        · rfl
        split
        · rfl
        · rfl
      · rw [if_neg (by omega), if_neg (by omega), if_pos h14]
        cases y.clean <;> rfl
      · split
        · exact hc2
        split
        · exact hc2
        exact hc2
end Go.Proofs.YthfeckndkmhieaaGreatDoor
