/- The trie's operations, told by hints. -/
import Derived.Test.YtcnjgenacpkdbaaDoorRHint
namespace Go.Proofs.YtcnjgenacpkdbaaDoor
open Go Go.RowKit

theorem len_addN {r : Path} : ∀ {p : Path} {Ns : List Path}, (addN p r Ns).length ≤ Ns.length + r.length := by
  induction r with
  | nil => intro p Ns; exact Nat.le_refl _
  | cons x r ih =>
    intro p Ns
    unfold addN
    refine Nat.le_trans ih ?_
    split
    · rw [List.length_cons]; omega
    · rw [List.length_cons, List.length_cons]; omega
/-- the trie at block t holds the hints Gs and has N nodes; n bounds what was done -/
def HR (n : Nat) (w : World) (t : Nat) (Gs : List Hint) (N : Nat) (F : List Nat) : Prop :=
  ∃ B Ns Hs, PRep w t B Ns Hs F ∧ Hs.Perm (Gs.map asPath) ∧ HRising Gs ∧ (∀ g ∈ Gs, filterB g.1 = true ∧ g.1.length ≤ 300) ∧ B ≤ 400 * n ∧ Ns.length = N ∧ N ≤ 1 + 400 * n ∧ Gs.length ≤ n
theorem HR.below {n t N : Nat} {w w' : World} {Gs : List Hint} {F : List Nat} (h : HR n w t Gs N F) (hb : Below w.heap.size w w') : HR n w' t Gs N F := by
  obtain ⟨B, Ns, Hs, h1, h2⟩ := h
  exact ⟨B, Ns, Hs, h1.below hb, h2⟩
theorem HR.mod {n t N : Nat} {w w' : World} {Gs : List Hint} {F S : List Nat} (h : HR n w t Gs N F) (hm : Mod S w w') (hS : ∀ k ∈ F, k ∉ S) : HR n w' t Gs N F := by
  obtain ⟨B, Ns, Hs, h1, h2⟩ := h
  exact ⟨B, Ns, Hs, h1.mod hm hS, h2⟩
theorem HR.lt {n t N : Nat} {w : World} {Gs : List Hint} {F : List Nat} (h : HR n w t Gs N F) : ∀ k ∈ F, k < w.heap.size := by
  obtain ⟨B, Ns, Hs, h1, -⟩ := h
  exact h1.lt
theorem HR.more {n m t N : Nat} {w : World} {Gs : List Hint} {F : List Nat} (h : HR n w t Gs N F) (hm : n ≤ m) : HR m w t Gs N F := by
  obtain ⟨B, Ns, Hs, h1, h2, h3, h4, h5, h6, h7, h8⟩ := h
  exact ⟨B, Ns, Hs, h1, h2, h3, h4, by omega, h6, by omega, by omega⟩
/-- how many nodes there are is told by the hints -/
theorem HR.nodes {n m t t' N N' : Nat} {w w' : World} {Gs : List Hint} {F F' : List Nat} (h : HR n w t Gs N F) (k : HR m w' t' Gs N' F') : N = N' := by
  obtain ⟨B, Ns, Hs, h1, h2, h3, h4, h5, h6, h7, h8⟩ := h
  obtain ⟨B', Ns', Hs', k1, k2, k3, k4, k5, k6, k7, k8⟩ := k
  have a := h1.tight
  have b := k1.tight
  rw [← h6, ← k6]
  have hp := h2.trans k2.symm
  have := (List.perm_ext_iff_of_nodup a.nn b.nn).2 (fun p => by
    rw [a.mem, b.mem]
    constructor
    · rintro (e | ⟨x, hx, hp'⟩)
      · exact .inl e
      · exact .inr ⟨x, hp.mem_iff.1 hx, hp'⟩
    · rintro (e | ⟨x, hx, hp'⟩)
      · exact .inl e
      · exact .inr ⟨x, hp.mem_iff.2 hx, hp'⟩)
  exact this.length_eq
theorem HR.rising {n t N : Nat} {w : World} {Gs : List Hint} {F : List Nat} (h : HR n w t Gs N F) : HRising Gs := by obtain ⟨B, Ns, Hs, h1, h2, h3, -⟩ := h; exact h3
theorem HR.filters {n t N : Nat} {w : World} {Gs : List Hint} {F : List Nat} (h : HR n w t Gs N F) : ∀ g ∈ Gs, filterB g.1 = true ∧ g.1.length ≤ 300 := by obtain ⟨B, Ns, Hs, h1, h2, h3, h4, -⟩ := h; exact h4
theorem HR.len {n t N : Nat} {w : World} {Gs : List Hint} {F : List Nat} (h : HR n w t Gs N F) : Gs.length ≤ n := by obtain ⟨B, Ns, Hs, h1, h2, h3, h4, h5, h6, h7, h8⟩ := h; exact h8
theorem hnew (w : World) : Calls Tryd.prog 13 #[] w fun e w' => ∃ t F, e = .returned (.pointer (some ⟨t, 0, none⟩)) ∧ HR 0 w' t [] 1 F ∧ Upd [] F w w' :=
  (tnew w).mono fun _ _ ⟨t, F, he, hr, hu⟩ => ⟨t, F, he, ⟨0, [[]], [], hr, List.Perm.refl _, List.Pairwise.nil, by simp, by omega, rfl, by omega, by simp⟩, hu⟩
theorem hlen (n t N : Nat) (Gs : List Hint) (F : List Nat) (w : World) (h : HR n w t Gs N F) : Calls Tryd.prog 11 #[.pointer (some ⟨t, 0, none⟩)] w fun e w' => e = .returned (.int .i64 Gs.length) ∧ w = w' := by
  obtain ⟨B, Ns, Hs, h1, h2, -⟩ := h
  have := tlen_any t B Ns Hs F w h1
  rwa [h2.length_eq, List.length_map] at this
theorem hnodes (n t N : Nat) (Gs : List Hint) (F : List Nat) (w : World) (h : HR n w t Gs N F) : Calls Tryd.prog 10 #[.pointer (some ⟨t, 0, none⟩)] w fun e w' => e = .returned (.int .i64 N) ∧ w = w' := by
  obtain ⟨B, Ns, Hs, h1, h2, h3, h4, h5, h6, -⟩ := h
  have := tnodes_any t B Ns Hs F w h1
  rwa [h6] at this
theorem hmatch (n t N : Nat) (s : ByteArray) (Gs : List Hint) (F : List Nat) (w : World) (h : HR n w t Gs N F) (hT : Tabs w) (hs : s.size ≤ 300) (hn : n ≤ 1000) :
    Calls Tryd.prog 6 #[.pointer (some ⟨t, 0, none⟩), .string s] w fun e w' => ∃ a c, e = .returned (.slice a (toldG Gs s.data.toList).length c) ∧ Row w' a (strs (toldG Gs s.data.toList)) ∧ Below w.heap.size w w' := by
  obtain ⟨B, Ns, Hs, h1, h2, h3, h4, h5, h6, h7, h8⟩ := h
  have hl := h2.length_eq
  rw [List.length_map] at hl
  have := tmatch_any t B s Ns Hs F w h1 hT (by omega) (by omega) (by omega)
  rwa [told_eq h2 (fun g hg => (h4 g hg).1)] at this
theorem HR.small {B n t : Nat} {w : World} {Ns : List Path} {Hs : List (Path × Str)} {Gs : List Hint} {F : List Nat} (h1 : PRep w t B Ns Hs F) (h2 : Hs.Perm (Gs.map asPath)) (h4 : ∀ g ∈ Gs, filterB g.1 = true ∧ g.1.length ≤ 300) (_hn : n ≤ 1000) :
    (∀ q ∈ Ns, q.length < 1000000) ∧ ∀ h ∈ Hs, h.1 ≠ [] ∧ (joinP h.1).length ≤ 1000000 := by
  have key : ∀ h ∈ Hs, h.1 ≠ [] ∧ (joinP h.1).length ≤ 300 ∧ h.1.length ≤ 301 := by
    intro h hh
    obtain ⟨g, hg, rfl⟩ := List.mem_map.1 (h2.mem_iff.1 hh)
    have := h4 g hg
    have hl := levels_len_le g.1
    refine ⟨levels_ne _, ?_, ?_⟩
    · rw [show joinP (asPath g).1 = g.1 from joinP_levels g.1]; exact this.2
    · show (levels g.1).length ≤ 301; omega
  refine ⟨fun q hq => ?_, fun h hh => ⟨(key h hh).1, by have := (key h hh).2.1; omega⟩⟩
  rcases (h1.tight.mem q).1 hq with rfl | ⟨x, hx, hp⟩
  · simp
  · have := hp.length_le
    have := (key x hx).2.2
    omega
theorem hall (n t N : Nat) (Gs : List Hint) (F : List Nat) (w : World) (h : HR n w t Gs N F) (hn : n ≤ 1000) :
    Calls Tryd.prog 12 #[.pointer (some ⟨t, 0, none⟩)] w fun e w' => ∃ v, e = .returned v ∧ w'.ownsRow w.heap.size 49 2 v Gs.length (hintsV Gs) ∧ Below w.heap.size w w' := by
  obtain ⟨B, Ns, Hs, h1, h2, h3, h4, h5, h6, h7, h8⟩ := h
  have hl := h2.length_eq
  rw [List.length_map] at hl
  obtain ⟨a, b⟩ := HR.small h1 h2 h4 hn
  exact tall_any t B Ns Hs F w h1 (by omega) a b Gs h3 (asHint_perm h2)
theorem hof (n t N : Nat) (c : ByteArray) (Gs : List Hint) (F : List Nat) (w : World) (h : HR n w t Gs N F) (hn : n ≤ 1000) :
    Calls Tryd.prog 7 #[.pointer (some ⟨t, 0, none⟩), .string c] w fun e w' => ∃ v, e = .returned v ∧ w'.ownsRow w.heap.size 9 1 v (ofL c.data.toList Gs).length (strs (ofL c.data.toList Gs)) ∧ Below w.heap.size w w' := by
  obtain ⟨B, Ns, Hs, h1, h2, h3, h4, h5, h6, h7, h8⟩ := h
  have hl := h2.length_eq
  rw [List.length_map] at hl
  obtain ⟨a, b⟩ := HR.small h1 h2 h4 hn
  exact tof_any t B c Ns Hs F w h1 (by omega) a b Gs h3 (asHint_perm h2)
def addB (Gs : List Hint) (s c : Str) : Bool := filterB s && !decide ((s, c) ∈ Gs)
def addG (Gs : List Hint) (s c : Str) : List Hint := if addB Gs s c then insH (s, c) Gs else Gs
def remB (Gs : List Hint) (s c : Str) : Bool := decide ((s, c) ∈ Gs)
theorem upd_below {F : List Nat} {w w' : World} (hb : Below w.heap.size w w') : Upd F F w w' := ⟨Mod.of_below hb F, fun _ hk => .inl hk⟩
theorem hadd (n t N : Nat) (s c : ByteArray) (Gs : List Hint) (F : List Nat) (w : World) (h : HR n w t Gs N F) (hT : Tabs w) (hs : s.size ≤ 300) (hc : c.size ≤ 300) (hn : n ≤ 1000) :
    Calls Tryd.prog 8 #[.pointer (some ⟨t, 0, none⟩), .string s, .string c] w fun e w' => e = .returned (.bool (addB Gs s.data.toList c.data.toList)) ∧ ∃ N' F', HR (n + 1) w' t (addG Gs s.data.toList c.data.toList) N' F' ∧ Upd F F' w w' := by
  by_cases hf : filterB s.data.toList = true
  · obtain ⟨B, Ns, Hs, h1, h2, h3, h4, h5, h6, h7, h8⟩ := id h
    have hl := h2.length_eq
    rw [List.length_map] at hl
    refine (tadd_yes t B s c Ns Hs F w h1 hT (by omega) (by unfold maxLen; omega) hf (by omega) (by omega) (by omega)).mono ?_
    rintro e w' ⟨rfl, F', hP, hU⟩
    have hmem := mem_asPath h2 s.data.toList c.data.toList
    have hlv := levels_len_le s.data.toList
    rw [show s.data.toList.length = s.size from rfl] at hlv
    have hln := len_addN (p := []) (r := levels s.data.toList) (Ns := Ns)
    by_cases hm : (s.data.toList, c.data.toList) ∈ Gs
    · have hm' := hmem.2 hm
      have hb : addB Gs s.data.toList c.data.toList = false := by simp [addB, hm]
      rw [if_pos hm'] at hP
      refine ⟨by rw [hb]; simp [hm'], (addN [] (levels s.data.toList) Ns).length, F', ⟨_, _, _, hP, ?_⟩, hU⟩
      unfold addG
      rw [hb]
      exact ⟨h2, h3, h4, by omega, rfl, by omega, by simp; omega⟩
    · have hm' : (levels s.data.toList, c.data.toList) ∉ Hs := fun e => hm (hmem.1 e)
      have hb : addB Gs s.data.toList c.data.toList = true := by simp [addB, hm, hf]
      rw [if_neg hm'] at hP
      refine ⟨by rw [hb]; simp [hm'], (addN [] (levels s.data.toList) Ns).length, F', ⟨_, _, _, hP, ?_⟩, hU⟩
      unfold addG
      rw [hb, if_pos rfl]
      refine ⟨perm_add h2 (s.data.toList, c.data.toList), hrising_insH h3 hm, fun g hg => ?_, by omega, rfl, by omega, ?_⟩
      · rcases List.mem_cons.1 ((perm_insH _ _).mem_iff.1 hg) with rfl | hg
        · exact ⟨hf, hs⟩
        · exact h4 g hg
      · rw [(perm_insH _ _).length_eq, List.length_cons]; omega
  · rw [Bool.not_eq_true] at hf
    refine (tadd_no t s c w hT (by omega) hf).mono ?_
    rintro e w' ⟨rfl, hb⟩
    have hb0 : addB Gs s.data.toList c.data.toList = false := by simp [addB, hf]
    refine ⟨by rw [hb0], N, F, ?_, upd_below hb⟩
    unfold addG
    rw [hb0]
    exact (h.below hb).more (by omega)
theorem len_remN (p L : Path) (c : Str) (Ns : List Path) (Hs : List (Path × Str)) : (remN p L c Ns Hs).length ≤ Ns.length := by
  unfold remN
  split
  · exact List.length_filter_le _ _
  · exact Nat.le_refl _
theorem hrem (n t N : Nat) (s c : ByteArray) (Gs : List Hint) (F : List Nat) (w : World) (h : HR n w t Gs N F) (hT : Tabs w) (hs : s.size ≤ 300) (hc : c.size ≤ 300) (hn : n ≤ 1000) :
    Calls Tryd.prog 9 #[.pointer (some ⟨t, 0, none⟩), .string s, .string c] w fun e w' => e = .returned (.bool (remB Gs s.data.toList c.data.toList)) ∧ ∃ N' F', HR n w' t (Gs.erase (s.data.toList, c.data.toList)) N' F' ∧ Upd F F' w w' := by
  by_cases hf : filterB s.data.toList = true
  · obtain ⟨B, Ns, Hs, h1, h2, h3, h4, h5, h6, h7, h8⟩ := id h
    have hl := h2.length_eq
    rw [List.length_map] at hl
    refine (trem_yes t B s c Ns Hs F w h1 hT (by omega) (by unfold maxLen; omega) hf (by omega) (by omega) (by omega)).mono ?_
    rintro e w' ⟨rfl, F', hP, hU⟩
    have hmem := mem_asPath h2 s.data.toList c.data.toList
    have hb : decide ((levels s.data.toList, c.data.toList) ∈ Hs) = remB Gs s.data.toList c.data.toList := decide_eq_decide.2 hmem
    have hln := len_remN [] (levels s.data.toList) c.data.toList Ns Hs
    have hel := (List.erase_sublist (a := (s.data.toList, c.data.toList)) (l := Gs)).length_le
    exact ⟨by rw [hb], (remN [] (levels s.data.toList) c.data.toList Ns Hs).length, F', ⟨_, _, _, hP, perm_rem h2 (s.data.toList, c.data.toList), hrising_erase h3 _, fun g hg => h4 g (List.mem_of_mem_erase hg), h5, rfl, by omega, by omega⟩, hU⟩
  · have hnin : (s.data.toList, c.data.toList) ∉ Gs := fun hg => hf (h.filters _ hg).1
    rw [Bool.not_eq_true] at hf
    refine (trem_no t s c w hT (by omega) hf).mono ?_
    rintro e w' ⟨rfl, hb⟩
    refine ⟨by simp [remB, hnin], N, F, ?_, upd_below hb⟩
    rw [List.erase_of_not_mem hnin]
    exact h.below hb
end Go.Proofs.YtcnjgenacpkdbaaDoor
