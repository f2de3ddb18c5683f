/- KeepCovers: the plain law, the walk. -/
import Derived.Test.YtagjlmpmbflmhaaDoorKHelp4
namespace Go.Proofs.YtagjlmpmbflmhaaDoor
open Go Go.RowKit Go.Maps

theorem coversL_trans : ∀ (a b n : List (List UInt8)), coversL a b = true → coversL b n = true → coversL a n = true := by
  intro a
  induction a with
  | nil =>
    intro b n h1 h2
    simp only [coversL, List.isEmpty_iff] at h1
    subst h1
    exact h2
  | cons x a ih =>
    intro b n h1 h2
    by_cases hx : x = [35]
    · subst hx
      simp [coversL]
    · cases b with
      | nil => simp [coversL, hx] at h1
      | cons y b =>
        simp only [coversL, Bool.or_eq_true, beq_iff_eq, hx, false_or, Bool.and_eq_true, bne_iff_ne, ne_eq] at h1
        obtain ⟨⟨hy, hxy⟩, h1⟩ := h1
        cases n with
        | nil => simp [coversL, hy] at h2
        | cons z n =>
          simp only [coversL, Bool.or_eq_true, beq_iff_eq, hy, false_or, Bool.and_eq_true, bne_iff_ne, ne_eq] at h2
          obtain ⟨⟨hz, hyz⟩, h2⟩ := h2
          simp only [coversL, Bool.or_eq_true, beq_iff_eq, hx, false_or, Bool.and_eq_true, bne_iff_ne, ne_eq]
          refine ⟨⟨hz, ?_⟩, ih b n h1 h2⟩
          rcases hxy with h | rfl
          · exact .inl h
          · exact hyz
/-- the first level of what begins with no slash begins as it does -/
theorem first_level (c : UInt8) (r : List UInt8) (h : c ≠ 47) : ∃ x t, levels (c :: r) = (c :: x) :: t := by
  obtain ⟨x, t, hx⟩ := List.exists_cons_of_ne_nil (levels_ne r)
  exact ⟨x, t, levels_cons h hx⟩
theorem covers_trans {a b n : List UInt8} (h1 : coversB a b = true) (h2 : coversB b n = true) : coversB a n = true := by
  unfold coversB at *
  simp only [Bool.and_eq_true, Bool.not_eq_true', Bool.and_eq_false_iff] at *
  obtain ⟨⟨⟨fa, fb⟩, w1⟩, c1⟩ := h1
  obtain ⟨⟨⟨-, fn⟩, w2⟩, c2⟩ := h2
  refine ⟨⟨⟨fa, fn⟩, ?_⟩, coversL_trans _ _ _ c1 c2⟩
  rcases w1 with w1 | w1
  · exact .inl w1
  · rcases w2 with w2 | w2
    · right
      -- b begins with no wildcard, nor with '$': so does n
      by_cases hn : n.headD 0 = 36
      · exfalso
        have hnn : ∃ r, n = 36 :: r := by
          cases n with
          | nil => simp at hn
          | cons c r => simp at hn; exact ⟨r, by rw [hn]⟩
        obtain ⟨r, rfl⟩ := hnn
        obtain ⟨x, t, hx⟩ := first_level 36 r (by decide)
        have hbn : b ≠ [] := filterB_ne fb
        obtain ⟨c, s, rfl⟩ := List.exists_cons_of_ne_nil hbn
        rw [hx] at c2
        by_cases hc : c = 47
        · subst hc
          rw [levels_cons_sep] at c2
          simp [coversL] at c2
        · obtain ⟨y, u, hy⟩ := first_level c s hc
          rw [hy] at c2
          unfold wildB at w2
          rw [hy] at w2
          simp only [List.headD_cons, Bool.or_eq_false_iff, beq_eq_false_iff_ne, ne_eq] at w2
          simp only [coversL, Bool.or_eq_true, beq_iff_eq, w2.1, w2.2, false_or, Bool.and_eq_true] at c2
          have := c2.1.2
          simp at this
          simp [this.1] at w1
      · simpa using hn
    · exact .inr w2
theorem match_trans {a b n : List UInt8} (h1 : coversB a b = true) (h2 : matchB b n = true) : matchB a n = true := by
  unfold matchB at *
  simp only [Bool.and_eq_true] at *
  exact ⟨h2.1, covers_trans h1 h2.2⟩
theorem finds_le {a b : List UInt8} (h : coversB a b = true) (l : List Msg) : (finds b l).length ≤ (finds a l).length := by
  unfold finds
  rw [← List.countP_eq_length_filter, ← List.countP_eq_length_filter]
  exact List.countP_mono_left fun m _ hm => match_trans h hm
theorem mem_finds {a : List UInt8} {l : List Msg} {m : Msg} (hm : m ∈ l) : decide (m ∈ finds a l) = matchB a m.k := by
  rw [Bool.eq_iff_iff]; simp [finds, hm]
end Go.Proofs.YtagjlmpmbflmhaaDoor
