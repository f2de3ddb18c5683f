/- The trie told by its hints' texts, in order. -/
import Derived.Test.YtcnjgenacpkdbaaDoorROf
namespace Go.Proofs.YtcnjgenacpkdbaaDoor
open Go

def asPath (g : Hint) : Path × Str := (levels g.1, g.2)
theorem asHint_asPath (g : Hint) : asHint (asPath g) = g := by simp [asHint, asPath, joinP_levels]
theorem asPath_inj {g h : Hint} (e : asPath g = asPath h) : g = h := by rw [← asHint_asPath g, e, asHint_asPath]
theorem asHint_perm {Hs : List (Path × Str)} {Gs : List Hint} (h : Hs.Perm (Gs.map asPath)) : (Hs.map asHint).Perm Gs := by
  have := h.map asHint
  rwa [List.map_map, show asHint ∘ asPath = id from funext asHint_asPath, List.map_id] at this
theorem mem_asPath {Hs : List (Path × Str)} {Gs : List Hint} (h : Hs.Perm (Gs.map asPath)) (s c : Str) : (levels s, c) ∈ Hs ↔ (s, c) ∈ Gs := by
  rw [h.mem_iff, List.mem_map]
  constructor
  · rintro ⟨g, hg, e⟩
    rw [← asPath_inj (h := (s, c)) e]; exact hg
  · intro hg
    exact ⟨_, hg, rfl⟩
/-- a hint more, in its place -/
def insH (h : Hint) : List Hint → List Hint
  | [] => [h]
  | y :: r => if Ahead y h then y :: insH h r else h :: y :: r
theorem perm_insH (h : Hint) (l : List Hint) : (insH h l).Perm (h :: l) := by
  induction l with
  | nil => exact List.Perm.refl _
  | cons y r ih =>
    unfold insH
    split
    · exact (ih.cons y).trans (List.Perm.swap h y r)
    · exact List.Perm.refl _
theorem hrising_insH {h : Hint} {l : List Hint} (hl : HRising l) (hn : h ∉ l) : HRising (insH h l) := by
  induction l with
  | nil => exact List.pairwise_singleton _ _
  | cons y r ih =>
    obtain ⟨h1, h2⟩ := List.pairwise_cons.1 hl
    unfold insH
    split
    · rename_i ha
      refine List.pairwise_cons.2 ⟨fun z hz => ?_, ih h2 (fun e => hn (List.mem_cons_of_mem _ e))⟩
      rcases List.mem_cons.1 ((perm_insH h r).mem_iff.1 hz) with rfl | hz
      · exact ha
      · exact h1 z hz
    · rename_i ha
      have hy : Ahead h y := ahead_tri ha (fun e => hn (by rw [e]; exact List.mem_cons_self ..))
      refine List.pairwise_cons.2 ⟨fun z hz => ?_, hl⟩
      rcases List.mem_cons.1 hz with rfl | hz
      · exact hy
      · exact ahead_trans hy (h1 z hz)
theorem perm_add {Hs : List (Path × Str)} {Gs : List Hint} (h : Hs.Perm (Gs.map asPath)) (g : Hint) : (asPath g :: Hs).Perm ((insH g Gs).map asPath) :=
  (h.cons _).trans ((perm_insH g Gs).symm.map asPath)
theorem perm_rem {Hs : List (Path × Str)} {Gs : List Hint} (h : Hs.Perm (Gs.map asPath)) (g : Hint) : (Hs.erase (asPath g)).Perm ((Gs.erase g).map asPath) := by
  refine (h.erase _).trans ?_
  clear h
  induction Gs with
  | nil => exact List.Perm.refl _
  | cons y r ih =>
    rw [List.map_cons]
    by_cases e : y = g
    · subst e; rw [List.erase_cons_head, List.erase_cons_head]
    · rw [List.erase_cons_tail (by simpa using fun e' => e (asPath_inj e')), List.erase_cons_tail (by simpa using e), List.map_cons]
      exact ih.cons _
theorem hrising_erase {l : List Hint} (hl : HRising l) (g : Hint) : HRising (l.erase g) := List.Pairwise.sublist List.erase_sublist hl
/-- who is told of a name, by hints -/
def toldG (l : List Hint) (s : Str) : List Str := l.foldl (fun out g => if matchB g.1 s then putS g.2 out else out) []
theorem told_fold {s : Str} : ∀ {l : List Hint} {out : List Str}, Rising out → Rising (l.foldl (fun out g => if matchB g.1 s then putS g.2 out else out) out) ∧ ∀ c, c ∈ l.foldl (fun out g => if matchB g.1 s then putS g.2 out else out) out ↔ c ∈ out ∨ ∃ g ∈ l, matchB g.1 s = true ∧ g.2 = c
  | [], out, h => ⟨h, fun c => by simp⟩
  | g :: r, out, h => by
    rw [List.foldl_cons]
    by_cases hm : matchB g.1 s = true
    · rw [if_pos hm]
      obtain ⟨h1, h2⟩ := told_fold (s := s) (l := r) h.putS
      refine ⟨h1, fun c => ?_⟩
      rw [h2, mem_putS]
      constructor
      · rintro ((rfl | h3) | ⟨g', h3, h4⟩)
        · exact .inr ⟨g, by simp, hm, rfl⟩
        · exact .inl h3
        · exact .inr ⟨g', by simp [h3], h4⟩
      · rintro (h3 | ⟨g', h3, h4, rfl⟩)
        · exact .inl (.inr h3)
        · rcases List.mem_cons.1 h3 with rfl | h3
          · exact .inl (.inl rfl)
          · exact .inr ⟨g', h3, h4, rfl⟩
    · rw [if_neg hm]
      obtain ⟨h1, h2⟩ := told_fold (s := s) (l := r) h
      refine ⟨h1, fun c => ?_⟩
      rw [h2]
      constructor
      · rintro (h3 | ⟨g', h3, h4⟩)
        · exact .inl h3
        · exact .inr ⟨g', by simp [h3], h4⟩
      · rintro (h3 | ⟨g', h3, h4, h5⟩)
        · exact .inl h3
        · rcases List.mem_cons.1 h3 with rfl | h3
          · exact absurd h4 hm
          · exact .inr ⟨g', h3, h4, h5⟩
theorem toldG_rising (l : List Hint) (s : Str) : Rising (toldG l s) := (told_fold List.Pairwise.nil).1
theorem mem_toldG {l : List Hint} {s c : Str} : c ∈ toldG l s ↔ ∃ g ∈ l, matchB g.1 s = true ∧ g.2 = c := by
  rw [toldG, (told_fold List.Pairwise.nil).2]; simp
theorem plain_level : ∀ {s : Str}, plainB s = true → ∀ y ∈ levels s, plainB y = true
  | [], _ => by simp [levels, plainB]
  | c :: r, h => by
    have hc : (!wildc c) = true ∧ plainB r = true := by simpa [plainB] using h
    have ih := plain_level hc.2
    intro y hy
    by_cases h47 : c = 47
    · subst h47
      rw [levels_cons_sep] at hy
      rcases List.mem_cons.1 hy with rfl | hy
      · rfl
      · exact ih y hy
    · obtain ⟨x, t, hx⟩ := List.exists_cons_of_ne_nil (levels_ne r)
      rw [levels_cons h47 hx] at hy
      rw [hx] at ih
      rcases List.mem_cons.1 hy with rfl | hy
      · have h1 := ih x (by simp)
        unfold plainB at h1 ⊢
        rw [List.all_cons, h1, hc.1]; rfl
      · exact ih y (by simp [hy])
theorem levelsB_plain : ∀ {l : Path}, (∀ y ∈ l, plainB y = true) → levelsB l = true
  | [], _ => rfl
  | x :: t, h => by
    unfold levelsB
    rw [levelsB_plain (fun y hy => h y (by simp [hy]))]
    unfold levelB
    rw [h x (by simp)]; simp
theorem name_filter {s : Str} (h : nameB s = true) : filterB s = true ∧ ∀ y ∈ levels s, y ≠ [35] ∧ y ≠ [43] := by
  unfold nameB at h
  rw [Bool.and_eq_true, Bool.and_eq_true] at h
  have hp := plain_level h.2
  refine ⟨by unfold filterB; rw [h.1.1, h.1.2, levelsB_plain hp]; rfl, fun y hy => ⟨fun e => ?_, fun e => ?_⟩⟩
  · have := hp y hy; rw [e] at this; simp [plainB, wildc] at this
  · have := hp y hy; rw [e] at this; simp [plainB, wildc] at this
theorem told_eq {Hs : List (Path × Str)} {Gs : List Hint} (h : Hs.Perm (Gs.map asPath)) (hf : ∀ g ∈ Gs, filterB g.1 = true) (s : Str) : toldL Hs s = toldG Gs s := by
  unfold toldL
  by_cases hn : nameB s = true
  · rw [if_pos hn]
    obtain ⟨hfs, hlv⟩ := name_filter hn
    have hv : ∀ x ∈ Hs, levelsB x.1 = true := by
      intro x hx
      obtain ⟨g, hg, rfl⟩ := List.mem_map.1 (h.mem_iff.1 hx)
      have := hf g hg
      unfold filterB at this
      rw [Bool.and_eq_true] at this
      exact this.2
    refine rising_ext rising_tellL (toldG_rising _ _) (fun c => ?_)
    rw [mem_tellL, mem_toldG, tkB_iff hv hlv]
    have hm : ∀ g ∈ Gs, (matchB g.1 s = true ↔ coversL (levels g.1) (levels s) = true ∧ (hidB 0 s = true → (levels g.1).headD [] ≠ [35] ∧ (levels g.1).headD [] ≠ [43])) := by
      intro g hg
      unfold matchB coversB wildB hidB
      rw [hn, hf g hg, hfs]
      simp only [Bool.true_and, Bool.and_eq_true, Bool.not_eq_true', Bool.and_eq_false_iff, Bool.or_eq_false_iff, beq_eq_false_iff_ne, beq_self_eq_true, beq_iff_eq]
      constructor
      · rintro ⟨h1, h2⟩
        exact ⟨h2, fun h3 => h1.elim (fun h4 => ⟨h4.2, h4.1⟩) (fun h4 => absurd h3 h4)⟩
      · rintro ⟨h1, h2⟩
        refine ⟨?_, h1⟩
        by_cases h3 : s.headD 0 = 36
        · exact .inl ⟨(h2 h3).2, (h2 h3).1⟩
        · exact .inr h3
    constructor
    · rintro ⟨⟨f, h1, h2, h3⟩, -⟩
      rw [List.nil_append] at h1
      obtain ⟨g, hg, e⟩ := List.mem_map.1 (h.mem_iff.1 h1)
      have e1 : levels g.1 = f := congrArg Prod.fst e
      have e2 : g.2 = c := congrArg Prod.snd e
      exact ⟨g, hg, (hm g hg).2 (by rw [e1]; exact ⟨h2, h3⟩), e2⟩
    · rintro ⟨g, hg, h1, rfl⟩
      obtain ⟨h2, h3⟩ := (hm g hg).1 h1
      have hmem : (levels g.1, g.2) ∈ Hs := h.mem_iff.2 (List.mem_map.2 ⟨g, hg, rfl⟩)
      exact ⟨⟨levels g.1, by simpa using hmem, h2, h3⟩, _, hmem⟩
  · rw [if_neg hn]
    refine (rising_ext (toldG_rising _ _) List.Pairwise.nil (fun c => ?_)).symm
    rw [mem_toldG]
    constructor
    · rintro ⟨g, -, h1, -⟩
      unfold matchB at h1
      rw [Bool.and_eq_true] at h1
      exact absurd h1.1 hn
    · intro h1; cases h1
end Go.Proofs.YtcnjgenacpkdbaaDoor
