/- Hints in order: one more. No program in sight. The trie told by its hints' texts, in order. The trie's operations, told by hints. -/
import Derived.Test.YthfdcphecggjeaaGreatDoorQO
namespace Go.Proofs.YthfdcphecggjeaaGreatDoor
section
open Go

/-- a hint more, in its place -/
def insH (h : Hint) : List Hint → List Hint
  | [] => [h]
  | y :: r => if Ahead y h then y :: insH h r else h :: y :: r
theorem perm_insH (h : Hint) (l : List Hint) : (insH h l).Perm (h :: l) := by
  induction l with
  | nil => exact List.Perm.refl _
  | cons y r ih =>
    unfold insH
    split
    · exact (ih.cons y).trans (List.Perm.swap h y r)
    · exact List.Perm.refl _
theorem hrising_insH {h : Hint} {l : List Hint} (hl : HRising l) (hn : h ∉ l) : HRising (insH h l) := by
  induction l with
  | nil => exact List.pairwise_singleton _ _
  | cons y r ih =>
    obtain ⟨h1, h2⟩ := List.pairwise_cons.1 hl
    unfold insH
    split
    · rename_i ha
      refine List.pairwise_cons.2 ⟨fun z hz => ?_, ih h2 (fun e => hn (List.mem_cons_of_mem _ e))⟩
      rcases List.mem_cons.1 ((perm_insH h r).mem_iff.1 hz) with rfl | hz
      · exact ha
      · exact h1 z hz
    · rename_i ha
      have hy : Ahead h y := ahead_tri ha (fun e => hn (by rw [e]; exact List.mem_cons_self ..))
      refine List.pairwise_cons.2 ⟨fun z hz => ?_, hl⟩
      rcases List.mem_cons.1 hz with rfl | hz
      · exact hy
      · exact ahead_trans hy (h1 z hz)
end
section
open Go

def asPath (g : Hint) : Path × Str := (levels g.1, g.2)
theorem asHint_asPath (g : Hint) : asHint (asPath g) = g := by simp [asHint, asPath, joinP_levels]
theorem asPath_inj {g h : Hint} (e : asPath g = asPath h) : g = h := by rw [← asHint_asPath g, e, asHint_asPath]
theorem asHint_perm {Hs : List (Path × Str)} {Gs : List Hint} (h : Hs.Perm (Gs.map asPath)) : (Hs.map asHint).Perm Gs := by
  have := h.map asHint
  rwa [List.map_map, show asHint ∘ asPath = id from funext asHint_asPath, List.map_id] at this
theorem mem_asPath {Hs : List (Path × Str)} {Gs : List Hint} (h : Hs.Perm (Gs.map asPath)) (s c : Str) : (levels s, c) ∈ Hs ↔ (s, c) ∈ Gs := by
  rw [h.mem_iff, List.mem_map]
  constructor
  · rintro ⟨g, hg, e⟩
    rw [← asPath_inj (h := (s, c)) e]; exact hg
  · intro hg
    exact ⟨_, hg, rfl⟩
theorem perm_add {Hs : List (Path × Str)} {Gs : List Hint} (h : Hs.Perm (Gs.map asPath)) (g : Hint) : (asPath g :: Hs).Perm ((insH g Gs).map asPath) :=
  (h.cons _).trans ((perm_insH g Gs).symm.map asPath)
theorem perm_rem {Hs : List (Path × Str)} {Gs : List Hint} (h : Hs.Perm (Gs.map asPath)) (g : Hint) : (Hs.erase (asPath g)).Perm ((Gs.erase g).map asPath) := by
  refine (h.erase _).trans ?_
  clear h
  induction Gs with
  | nil => exact List.Perm.refl _
  | cons y r ih =>
    rw [List.map_cons]
    by_cases e : y = g
    · subst e; rw [List.erase_cons_head, List.erase_cons_head]
    · rw [List.erase_cons_tail (by simpa using fun e' => e (asPath_inj e')), List.erase_cons_tail (by simpa using e), List.map_cons]
      exact ih.cons _
theorem hrising_erase {l : List Hint} (hl : HRising l) (g : Hint) : HRising (l.erase g) := List.Pairwise.sublist List.erase_sublist hl
/-- who is told of a name, by hints -/
def toldG (l : List Hint) (s : Str) : List Str := l.foldl (fun out g => if matchB g.1 s then putS g.2 out else out) []
theorem told_fold {s : Str} : ∀ {l : List Hint} {out : List Str}, Rising out → Rising (l.foldl (fun out g => if matchB g.1 s then putS g.2 out else out) out) ∧ ∀ c, c ∈ l.foldl (fun out g => if matchB g.1 s then putS g.2 out else out) out ↔ c ∈ out ∨ ∃ g ∈ l, matchB g.1 s = true ∧ g.2 = c
  | [], out, h => ⟨h, fun c => by simp⟩
  | g :: r, out, h => by
    rw [List.foldl_cons]
    by_cases hm : matchB g.1 s = true
    · rw [if_pos hm]
      obtain ⟨h1, h2⟩ := told_fold (s := s) (l := r) h.putS
      refine ⟨h1, fun c => ?_⟩
      rw [h2, mem_putS]
      constructor
      · rintro ((rfl | h3) | ⟨g', h3, h4⟩)
        · exact .inr ⟨g, by simp, hm, rfl⟩
        · exact .inl h3
        · exact .inr ⟨g', by simp [h3], h4⟩
      · rintro (h3 | ⟨g', h3, h4, rfl⟩)
        · exact .inl (.inr h3)
        · rcases List.mem_cons.1 h3 with rfl | h3
          · exact .inl (.inl rfl)
          · exact .inr ⟨g', h3, h4, rfl⟩
    · rw [if_neg hm]
      obtain ⟨h1, h2⟩ := told_fold (s := s) (l := r) h
      refine ⟨h1, fun c => ?_⟩
      rw [h2]
      constructor
      · rintro (h3 | ⟨g', h3, h4⟩)
        · exact .inl h3
        · exact .inr ⟨g', by simp [h3], h4⟩
      · rintro (h3 | ⟨g', h3, h4, h5⟩)
        · exact .inl h3
        · rcases List.mem_cons.1 h3 with rfl | h3
          · exact absurd h4 hm
          · exact .inr ⟨g', h3, h4, h5⟩
theorem toldG_rising (l : List Hint) (s : Str) : Rising (toldG l s) := (told_fold List.Pairwise.nil).1
theorem mem_toldG {l : List Hint} {s c : Str} : c ∈ toldG l s ↔ ∃ g ∈ l, matchB g.1 s = true ∧ g.2 = c := by
  rw [toldG, (told_fold List.Pairwise.nil).2]; simp
theorem plain_level : ∀ {s : Str}, plainB s = true → ∀ y ∈ levels s, plainB y = true
  | [], _ => by simp [levels, plainB]
  | c :: r, h => by
    have hc : (!wildc c) = true ∧ plainB r = true := by simpa [plainB] using h
    have ih := plain_level hc.2
    intro y hy
    by_cases h47 : c = 47
    · subst h47
      rw [levels_cons_sep] at hy
      rcases List.mem_cons.1 hy with rfl | hy
      · rfl
      · exact ih y hy
    · obtain ⟨x, t, hx⟩ := List.exists_cons_of_ne_nil (levels_ne r)
      rw [levels_cons h47 hx] at hy
      rw [hx] at ih
      rcases List.mem_cons.1 hy with rfl | hy
      · have h1 := ih x (by simp)
        unfold plainB at h1 ⊢
        rw [List.all_cons, h1, hc.1]; rfl
      · exact ih y (by simp [hy])
theorem levelsB_plain : ∀ {l : Path}, (∀ y ∈ l, plainB y = true) → levelsB l = true
  | [], _ => rfl
  | x :: t, h => by
    unfold levelsB
    rw [levelsB_plain (fun y hy => h y (by simp [hy]))]
    unfold levelB
    rw [h x (by simp)]; simp
theorem name_filter {s : Str} (h : nameB s = true) : filterB s = true ∧ ∀ y ∈ levels s, y ≠ [35] ∧ y ≠ [43] := by
  unfold nameB at h
  rw [Bool.and_eq_true, Bool.and_eq_true] at h
  have hp := plain_level h.2
  refine ⟨by unfold filterB; rw [h.1.1, h.1.2, levelsB_plain hp]; rfl, fun y hy => ⟨fun e => ?_, fun e => ?_⟩⟩
  · have := hp y hy; rw [e] at this; simp [plainB, wildc] at this
  · have := hp y hy; rw [e] at this; simp [plainB, wildc] at this
theorem told_eq {Hs : List (Path × Str)} {Gs : List Hint} (h : Hs.Perm (Gs.map asPath)) (hf : ∀ g ∈ Gs, filterB g.1 = true) (s : Str) : toldL Hs s = toldG Gs s := by
  unfold toldL
  by_cases hn : nameB s = true
  · rw [if_pos hn]
    obtain ⟨hfs, hlv⟩ := name_filter hn
    have hv : ∀ x ∈ Hs, levelsB x.1 = true := by
      intro x hx
      obtain ⟨g, hg, rfl⟩ := List.mem_map.1 (h.mem_iff.1 hx)
      have := hf g hg
      unfold filterB at this
      rw [Bool.and_eq_true] at this
      exact this.2
    refine rising_ext rising_tellL (toldG_rising _ _) (fun c => ?_)
    rw [mem_tellL, mem_toldG, tkB_iff hv hlv]
    have hm : ∀ g ∈ Gs, (matchB g.1 s = true ↔ coversL (levels g.1) (levels s) = true ∧ (hidB 0 s = true → (levels g.1).headD [] ≠ [35] ∧ (levels g.1).headD [] ≠ [43])) := by
      intro g hg
      unfold matchB coversB wildB hidB
      rw [hn, hf g hg, hfs]
      simp only [Bool.true_and, Bool.and_eq_true, Bool.not_eq_true', Bool.and_eq_false_iff, Bool.or_eq_false_iff, beq_eq_false_iff_ne, beq_self_eq_true, beq_iff_eq]
      constructor
      · rintro ⟨h1, h2⟩
        exact ⟨h2, fun h3 => h1.elim (fun h4 => ⟨h4.2, h4.1⟩) (fun h4 => absurd h3 h4)⟩
      · rintro ⟨h1, h2⟩
        refine ⟨?_, h1⟩
        by_cases h3 : s.headD 0 = 36
        · exact .inl ⟨(h2 h3).2, (h2 h3).1⟩
        · exact .inr h3
    constructor
    · rintro ⟨⟨f, h1, h2, h3⟩, -⟩
      rw [List.nil_append] at h1
      obtain ⟨g, hg, e⟩ := List.mem_map.1 (h.mem_iff.1 h1)
      have e1 : levels g.1 = f := congrArg Prod.fst e
      have e2 : g.2 = c := congrArg Prod.snd e
      exact ⟨g, hg, (hm g hg).2 (by rw [e1]; exact ⟨h2, h3⟩), e2⟩
    · rintro ⟨g, hg, h1, rfl⟩
      obtain ⟨h2, h3⟩ := (hm g hg).1 h1
      have hmem : (levels g.1, g.2) ∈ Hs := h.mem_iff.2 (List.mem_map.2 ⟨g, hg, rfl⟩)
      exact ⟨⟨levels g.1, by simpa using hmem, h2, h3⟩, _, hmem⟩
  · rw [if_neg hn]
    refine (rising_ext (toldG_rising _ _) List.Pairwise.nil (fun c => ?_)).symm
    rw [mem_toldG]
    constructor
    · rintro ⟨g, -, h1, -⟩
      unfold matchB at h1
      rw [Bool.and_eq_true] at h1
      exact absurd h1.1 hn
    · intro h1; cases h1
end
section
open Go Go.RowKit

theorem len_addN {r : Path} : ∀ {p : Path} {Ns : List Path}, (addN p r Ns).length ≤ Ns.length + r.length := by
  induction r with
  | nil => intro p Ns; exact Nat.le_refl _
  | cons x r ih =>
    intro p Ns
    unfold addN
    refine Nat.le_trans ih ?_
    split
    · rw [List.length_cons]; omega
    · rw [List.length_cons, List.length_cons]; omega
/-- the trie at block t holds the hints Gs and has N nodes; n bounds what was done -/
def HR (n : Nat) (w : World) (t : Nat) (Gs : List Hint) (N : Nat) (F : List Nat) : Prop :=
  ∃ B Ns Hs, PRep w t B Ns Hs F ∧ Hs.Perm (Gs.map asPath) ∧ HRising Gs ∧ (∀ g ∈ Gs, filterB g.1 = true ∧ g.1.length ≤ 300) ∧ B ≤ 400 * n ∧ Ns.length = N ∧ N ≤ 1 + 400 * n ∧ Gs.length ≤ n
theorem HR.below {n t N : Nat} {w w' : World} {Gs : List Hint} {F : List Nat} (h : HR n w t Gs N F) (hb : Below w.heap.size w w') : HR n w' t Gs N F := by
  obtain ⟨B, Ns, Hs, h1, h2⟩ := h
  exact ⟨B, Ns, Hs, h1.below hb, h2⟩
theorem HR.mod {n t N : Nat} {w w' : World} {Gs : List Hint} {F S : List Nat} (h : HR n w t Gs N F) (hm : Mod S w w') (hS : ∀ k ∈ F, k ∉ S) : HR n w' t Gs N F := by
  obtain ⟨B, Ns, Hs, h1, h2⟩ := h
  exact ⟨B, Ns, Hs, h1.mod hm hS, h2⟩
theorem HR.lt {n t N : Nat} {w : World} {Gs : List Hint} {F : List Nat} (h : HR n w t Gs N F) : ∀ k ∈ F, k < w.heap.size := by
  obtain ⟨B, Ns, Hs, h1, -⟩ := h
  exact h1.lt
theorem HR.more {n m t N : Nat} {w : World} {Gs : List Hint} {F : List Nat} (h : HR n w t Gs N F) (hm : n ≤ m) : HR m w t Gs N F := by
  obtain ⟨B, Ns, Hs, h1, h2, h3, h4, h5, h6, h7, h8⟩ := h
  exact ⟨B, Ns, Hs, h1, h2, h3, h4, by omega, h6, by omega, by omega⟩
/-- how many nodes there are is told by the hints -/
theorem HR.nodes {n m t t' N N' : Nat} {w w' : World} {Gs : List Hint} {F F' : List Nat} (h : HR n w t Gs N F) (k : HR m w' t' Gs N' F') : N = N' := by
  obtain ⟨B, Ns, Hs, h1, h2, h3, h4, h5, h6, h7, h8⟩ := h
  obtain ⟨B', Ns', Hs', k1, k2, k3, k4, k5, k6, k7, k8⟩ := k
  have a := h1.tight
  have b := k1.tight
  rw [← h6, ← k6]
  have hp := h2.trans k2.symm
  have := (List.perm_ext_iff_of_nodup a.nn b.nn).2 (fun p => by
    rw [a.mem, b.mem]
    constructor
    · rintro (e | ⟨x, hx, hp'⟩)
      · exact .inl e
      · exact .inr ⟨x, hp.mem_iff.1 hx, hp'⟩
    · rintro (e | ⟨x, hx, hp'⟩)
      · exact .inl e
      · exact .inr ⟨x, hp.mem_iff.2 hx, hp'⟩)
  exact this.length_eq
theorem HR.rising {n t N : Nat} {w : World} {Gs : List Hint} {F : List Nat} (h : HR n w t Gs N F) : HRising Gs := by obtain ⟨B, Ns, Hs, h1, h2, h3, -⟩ := h; exact h3
theorem HR.filters {n t N : Nat} {w : World} {Gs : List Hint} {F : List Nat} (h : HR n w t Gs N F) : ∀ g ∈ Gs, filterB g.1 = true ∧ g.1.length ≤ 300 := by obtain ⟨B, Ns, Hs, h1, h2, h3, h4, -⟩ := h; exact h4
theorem HR.len {n t N : Nat} {w : World} {Gs : List Hint} {F : List Nat} (h : HR n w t Gs N F) : Gs.length ≤ n := by obtain ⟨B, Ns, Hs, h1, h2, h3, h4, h5, h6, h7, h8⟩ := h; exact h8
theorem hnew (w : World) : Calls Tryz.prog 44 #[] w fun e w' => ∃ t F, e = .returned (.pointer (some ⟨t, 0, none⟩)) ∧ HR 0 w' t [] 1 F ∧ Upd [] F w w' :=
  (tnew w).mono fun _ _ ⟨t, F, he, hr, hu⟩ => ⟨t, F, he, ⟨0, [[]], [], hr, List.Perm.refl _, List.Pairwise.nil, by simp, by omega, rfl, by omega, by simp⟩, hu⟩
theorem hmatch (n t N : Nat) (s : ByteArray) (Gs : List Hint) (F : List Nat) (w : World) (h : HR n w t Gs N F) (hT : Tabs w) (hs : s.size ≤ 300) (hn : n ≤ 1000) :
    Calls Tryz.prog 26 #[.pointer (some ⟨t, 0, none⟩), .string s] w fun e w' => ∃ a c, e = .returned (.slice a (toldG Gs s.data.toList).length c) ∧ Row w' a (strs (toldG Gs s.data.toList)) ∧ Below w.heap.size w w' := by
  obtain ⟨B, Ns, Hs, h1, h2, h3, h4, h5, h6, h7, h8⟩ := h
  have hl := h2.length_eq
  rw [List.length_map] at hl
  have := tmatch_any t B s Ns Hs F w h1 hT (by omega) (by omega) (by omega)
  rwa [told_eq h2 (fun g hg => (h4 g hg).1)] at this
theorem HR.small {B n t : Nat} {w : World} {Ns : List Path} {Hs : List (Path × Str)} {Gs : List Hint} {F : List Nat} (h1 : PRep w t B Ns Hs F) (h2 : Hs.Perm (Gs.map asPath)) (h4 : ∀ g ∈ Gs, filterB g.1 = true ∧ g.1.length ≤ 300) (_hn : n ≤ 1000) :
    (∀ q ∈ Ns, q.length < 1000000) ∧ ∀ h ∈ Hs, h.1 ≠ [] ∧ (joinP h.1).length ≤ 1000000 := by
  have key : ∀ h ∈ Hs, h.1 ≠ [] ∧ (joinP h.1).length ≤ 300 ∧ h.1.length ≤ 301 := by
    intro h hh
    obtain ⟨g, hg, rfl⟩ := List.mem_map.1 (h2.mem_iff.1 hh)
    have := h4 g hg
    have hl := levels_len_le g.1
    refine ⟨levels_ne _, ?_, ?_⟩
    · rw [show joinP (asPath g).1 = g.1 from joinP_levels g.1]; exact this.2
    · show (levels g.1).length ≤ 301; omega
  refine ⟨fun q hq => ?_, fun h hh => ⟨(key h hh).1, by have := (key h hh).2.1; omega⟩⟩
  rcases (h1.tight.mem q).1 hq with rfl | ⟨x, hx, hp⟩
  · simp
  · have := hp.length_le
    have := (key x hx).2.2
    omega
theorem hall (n t N : Nat) (Gs : List Hint) (F : List Nat) (w : World) (h : HR n w t Gs N F) (hn : n ≤ 1000) :
    Calls Tryz.prog 48 #[.pointer (some ⟨t, 0, none⟩)] w fun e w' => ∃ v, e = .returned v ∧ w'.ownsRow w.heap.size 47 2 v Gs.length (hintsV Gs) ∧ Below w.heap.size w w' := by
  obtain ⟨B, Ns, Hs, h1, h2, h3, h4, h5, h6, h7, h8⟩ := h
  have hl := h2.length_eq
  rw [List.length_map] at hl
  obtain ⟨a, b⟩ := HR.small h1 h2 h4 hn
  exact tall_any t B Ns Hs F w h1 (by omega) a b Gs h3 (asHint_perm h2)
def addB (Gs : List Hint) (s c : Str) : Bool := filterB s && !decide ((s, c) ∈ Gs)
def addG (Gs : List Hint) (s c : Str) : List Hint := if addB Gs s c then insH (s, c) Gs else Gs
def remB (Gs : List Hint) (s c : Str) : Bool := decide ((s, c) ∈ Gs)
theorem upd_below {F : List Nat} {w w' : World} (hb : Below w.heap.size w w') : Upd F F w w' := ⟨Mod.of_below hb F, fun _ hk => .inl hk⟩
theorem hadd (n t N : Nat) (s c : ByteArray) (Gs : List Hint) (F : List Nat) (w : World) (h : HR n w t Gs N F) (hT : Tabs w) (hs : s.size ≤ 300) (hc : c.size ≤ 300) (hn : n ≤ 1000) :
    Calls Tryz.prog 35 #[.pointer (some ⟨t, 0, none⟩), .string s, .string c] w fun e w' => e = .returned (.bool (addB Gs s.data.toList c.data.toList)) ∧ ∃ N' F', HR (n + 1) w' t (addG Gs s.data.toList c.data.toList) N' F' ∧ Upd F F' w w' := by
  by_cases hf : filterB s.data.toList = true
  · obtain ⟨B, Ns, Hs, h1, h2, h3, h4, h5, h6, h7, h8⟩ := id h
    have hl := h2.length_eq
    rw [List.length_map] at hl
    refine (tadd_yes t B s c Ns Hs F w h1 hT (by omega) (by unfold maxLen; omega) hf (by omega) (by omega) (by omega)).mono ?_
    rintro e w' ⟨rfl, F', hP, hU⟩
    have hmem := mem_asPath h2 s.data.toList c.data.toList
    have hlv := levels_len_le s.data.toList
    rw [show s.data.toList.length = s.size from rfl] at hlv
    have hln := len_addN (p := []) (r := levels s.data.toList) (Ns := Ns)
    by_cases hm : (s.data.toList, c.data.toList) ∈ Gs
    · have hm' := hmem.2 hm
      have hb : addB Gs s.data.toList c.data.toList = false := by simp [addB, hm]
      rw [if_pos hm'] at hP
      refine ⟨by rw [hb]; simp [hm'], (addN [] (levels s.data.toList) Ns).length, F', ⟨_, _, _, hP, ?_⟩, hU⟩
      unfold addG
      rw [hb]
      exact ⟨h2, h3, h4, by omega, rfl, by omega, by simp; omega⟩
    · have hm' : (levels s.data.toList, c.data.toList) ∉ Hs := fun e => hm (hmem.1 e)
      have hb : addB Gs s.data.toList c.data.toList = true := by simp [addB, hm, hf]
      rw [if_neg hm'] at hP
      refine ⟨by rw [hb]; simp [hm'], (addN [] (levels s.data.toList) Ns).length, F', ⟨_, _, _, hP, ?_⟩, hU⟩
      unfold addG
      rw [hb, if_pos rfl]
      refine ⟨perm_add h2 (s.data.toList, c.data.toList), hrising_insH h3 hm, fun g hg => ?_, by omega, rfl, by omega, ?_⟩
      · rcases List.mem_cons.1 ((perm_insH _ _).mem_iff.1 hg) with rfl | hg
        · exact ⟨hf, hs⟩
        · exact h4 g hg
      · rw [(perm_insH _ _).length_eq, List.length_cons]; omega
  · rw [Bool.not_eq_true] at hf
    refine (tadd_no t s c w hT (by omega) hf).mono ?_
    rintro e w' ⟨rfl, hb⟩
    have hb0 : addB Gs s.data.toList c.data.toList = false := by simp [addB, hf]
    refine ⟨by rw [hb0], N, F, ?_, upd_below hb⟩
    unfold addG
    rw [hb0]
    exact (h.below hb).more (by omega)
theorem len_remN (p L : Path) (c : Str) (Ns : List Path) (Hs : List (Path × Str)) : (remN p L c Ns Hs).length ≤ Ns.length := by
  unfold remN
  split
  · exact List.length_filter_le _ _
  · exact Nat.le_refl _
theorem hrem (n t N : Nat) (s c : ByteArray) (Gs : List Hint) (F : List Nat) (w : World) (h : HR n w t Gs N F) (hT : Tabs w) (hs : s.size ≤ 300) (hc : c.size ≤ 300) (hn : n ≤ 1000) :
    Calls Tryz.prog 37 #[.pointer (some ⟨t, 0, none⟩), .string s, .string c] w fun e w' => e = .returned (.bool (remB Gs s.data.toList c.data.toList)) ∧ ∃ N' F', HR n w' t (Gs.erase (s.data.toList, c.data.toList)) N' F' ∧ Upd F F' w w' := by
  by_cases hf : filterB s.data.toList = true
  · obtain ⟨B, Ns, Hs, h1, h2, h3, h4, h5, h6, h7, h8⟩ := id h
    have hl := h2.length_eq
    rw [List.length_map] at hl
    refine (trem_yes t B s c Ns Hs F w h1 hT (by omega) (by unfold maxLen; omega) hf (by omega) (by omega) (by omega)).mono ?_
    rintro e w' ⟨rfl, F', hP, hU⟩
    have hmem := mem_asPath h2 s.data.toList c.data.toList
    have hb : decide ((levels s.data.toList, c.data.toList) ∈ Hs) = remB Gs s.data.toList c.data.toList := decide_eq_decide.2 hmem
    have hln := len_remN [] (levels s.data.toList) c.data.toList Ns Hs
    have hel := (List.erase_sublist (a := (s.data.toList, c.data.toList)) (l := Gs)).length_le
    exact ⟨by rw [hb], (remN [] (levels s.data.toList) c.data.toList Ns Hs).length, F', ⟨_, _, _, hP, perm_rem h2 (s.data.toList, c.data.toList), hrising_erase h3 _, fun g hg => h4 g (List.mem_of_mem_erase hg), h5, rfl, by omega, by omega⟩, hU⟩
  · have hnin : (s.data.toList, c.data.toList) ∉ Gs := fun hg => hf (h.filters _ hg).1
    rw [Bool.not_eq_true] at hf
    refine (trem_no t s c w hT (by omega) hf).mono ?_
    rintro e w' ⟨rfl, hb⟩
    refine ⟨by simp [remB, hnin], N, F, ?_, upd_below hb⟩
    rw [List.erase_of_not_mem hnin]
    exact h.below hb
end
end Go.Proofs.YthfdcphecggjeaaGreatDoor
