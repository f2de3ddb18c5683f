/- Hints by paths: nodes are where their levels lead. The plain model of the trie: Add, Remove. No program in sight. -/
import Derived.Test.YtcnjgenacpkdbaaDoorTopic
namespace Go.Proofs.YtcnjgenacpkdbaaDoor
open Go

abbrev Str := List UInt8
abbrev Path := List Str

structure Tight (Ns : List Path) (Hs : List (Path × Str)) : Prop where
  nn : Ns.Nodup
  hn : Hs.Nodup
  mem : ∀ p, p ∈ Ns ↔ p = [] ∨ ∃ h ∈ Hs, p <+: h.1
theorem Tight.root {Ns : List Path} {Hs : List (Path × Str)} (h : Tight Ns Hs) : [] ∈ Ns := (h.mem _).2 (.inl rfl)
theorem Tight.up {Ns : List Path} {Hs : List (Path × Str)} (h : Tight Ns Hs) {p q : Path} (hq : q ∈ Ns) (hp : p <+: q) : p ∈ Ns := by
  rcases (h.mem q).1 hq with rfl | ⟨x, hx, hxq⟩
  · obtain rfl := List.prefix_nil.1 hp; exact hq
  · exact (h.mem p).2 (.inr ⟨x, hx, hp.trans hxq⟩)
theorem Tight.hint {Ns : List Path} {Hs : List (Path × Str)} (h : Tight Ns Hs) {x : Path × Str} (hx : x ∈ Hs) : x.1 ∈ Ns := (h.mem _).2 (.inr ⟨x, hx, List.prefix_refl _⟩)
theorem tight_nil : Tight [[]] [] := ⟨by simp, List.nodup_nil, fun p => by simp⟩

/-- the nodes on a path are made -/
def addN : Path → Path → List Path → List Path
  | _, [], Ns => Ns
  | p, x :: r, Ns => addN (p ++ [x]) r (if p ++ [x] ∈ Ns then Ns else (p ++ [x]) :: Ns)
theorem mem_addN {q : Path} {r : Path} : ∀ {p : Path} {Ns : List Path}, q ∈ addN p r Ns ↔ q ∈ Ns ∨ ∃ s, s ≠ [] ∧ s <+: r ∧ q = p ++ s := by
  induction r with
  | nil =>
    intro p Ns
    simp only [addN, List.prefix_nil]
    exact ⟨.inl, fun h => h.elim id (fun ⟨s, h1, h2, _⟩ => absurd h2 h1)⟩
  | cons x r ih =>
    intro p Ns
    rw [addN, ih]
    have e : q ∈ (if p ++ [x] ∈ Ns then Ns else (p ++ [x]) :: Ns) ↔ q ∈ Ns ∨ q = p ++ [x] := by
      split
      · rename_i h
        exact ⟨.inl, fun h' => h'.elim id (fun e => e ▸ h)⟩
      · rw [List.mem_cons]; exact Or.comm
    rw [e]
    constructor
    · rintro ((h | h) | ⟨s, h1, h2, h3⟩)
      · exact .inl h
      · exact .inr ⟨[x], by simp, by simp, h⟩
      · exact .inr ⟨x :: s, by simp, by simpa using h2, by rw [h3]; simp⟩
    · rintro (h | ⟨s, h1, h2, h3⟩)
      · exact .inl (.inl h)
      · cases s with
        | nil => exact absurd rfl h1
        | cons y s =>
          obtain ⟨rfl, h2'⟩ := List.cons_prefix_cons.1 h2
          cases s with
          | nil => exact .inl (.inr h3)
          | cons z s => exact .inr ⟨z :: s, by simp, h2', by rw [h3]; simp⟩
theorem nodup_addN {r : Path} : ∀ {p : Path} {Ns : List Path}, Ns.Nodup → (addN p r Ns).Nodup := by
  induction r with
  | nil => intro p Ns h; exact h
  | cons x r ih =>
    intro p Ns h
    rw [addN]
    refine ih ?_
    split
    · exact h
    · rename_i h'; exact List.nodup_cons.2 ⟨h', h⟩
theorem tight_add {Ns : List Path} {Hs : List (Path × Str)} (h : Tight Ns Hs) {ls : Path} {c : Str} (hc : (ls, c) ∉ Hs) : Tight (addN [] ls Ns) ((ls, c) :: Hs) := by
  refine ⟨nodup_addN h.nn, List.nodup_cons.2 ⟨hc, h.hn⟩, fun p => ?_⟩
  rw [mem_addN, h.mem]
  simp only [List.nil_append, List.mem_cons, exists_eq_or_imp]
  constructor
  · rintro ((h1 | h1) | ⟨s, h1, h2, rfl⟩)
    · exact .inl h1
    · exact .inr (.inr h1)
    · exact .inr (.inl h2)
  · rintro (h1 | h1 | h1)
    · exact .inl (.inl h1)
    · by_cases hp : p = []
      · exact .inl (.inl hp)
      · exact .inr ⟨p, hp, h1, rfl⟩
    · exact .inl (.inr h1)
theorem addN_there {r : Path} : ∀ {p : Path} {Ns : List Path}, (∀ s, s <+: r → p ++ s ∈ Ns) → addN p r Ns = Ns := by
  induction r with
  | nil => intro p Ns _; rfl
  | cons x r ih =>
    intro p Ns h
    have hx : p ++ [x] ∈ Ns := h [x] (by simp)
    rw [addN, if_pos hx]
    refine ih fun s hs => ?_
    have := h (x :: s) (by simpa using hs)
    simpa using this
theorem add_there {Ns : List Path} {Hs : List (Path × Str)} (h : Tight Ns Hs) {ls : Path} {c : Str} (hc : (ls, c) ∈ Hs) : addN [] ls Ns = Ns :=
  addN_there fun s hs => by simpa using h.up (h.hint hc) hs
theorem addN_app {r : Path} {y : Str} : ∀ {p : Path} {Ns : List Path}, addN p (r ++ [y]) Ns = (if p ++ r ++ [y] ∈ addN p r Ns then addN p r Ns else (p ++ r ++ [y]) :: addN p r Ns) := by
  induction r with
  | nil => intro p Ns; simp [addN]
  | cons x r ih =>
    intro p Ns
    rw [List.cons_append, addN, addN, ih]
    simp

/-- leads a path to a hint? -/
def live (Hs : List (Path × Str)) (q : Path) : Bool := Hs.any fun h => q.isPrefixOf h.1
theorem live_iff {Hs : List (Path × Str)} {q : Path} : live Hs q = true ↔ ∃ h ∈ Hs, q <+: h.1 := by simp [live]
/-- the nodes without those below p that lead nowhere -/
def cut (p : Path) (Hs : List (Path × Str)) (Ns : List Path) : List Path := Ns.filter fun q => !(p.isPrefixOf q && decide (q ≠ p)) || live Hs q
theorem mem_cut {p : Path} {Hs : List (Path × Str)} {Ns : List Path} {q : Path} : q ∈ cut p Hs Ns ↔ q ∈ Ns ∧ (p <+: q → q ≠ p → live Hs q = true) := by
  unfold cut
  rw [List.mem_filter]
  constructor
  · rintro ⟨h1, h2⟩
    refine ⟨h1, fun h3 h4 => ?_⟩
    have e : p.isPrefixOf q = true := by simpa using h3
    rw [e] at h2
    simpa [h4] using h2
  · rintro ⟨h1, h2⟩
    refine ⟨h1, ?_⟩
    by_cases h3 : p <+: q
    · by_cases h4 : q = p
      · simp [h4]
      · simp [h2 h3 h4]
    · have e : p.isPrefixOf q = false := by rw [Bool.eq_false_iff]; simpa using h3
      simp [e]
/-- what is left of a hint's nodes when it is gone: those that another hint wants -/
theorem on_path {Ns : List Path} {Hs : List (Path × Str)} (h : Tight Ns Hs) {ls : Path} {c : Str} {q : Path} (hq : q ∈ Ns) (h0 : q ≠ []) (hd : live (Hs.erase (ls, c)) q = false) : q <+: ls := by
  rcases (h.mem q).1 hq with rfl | ⟨x, hx, hxq⟩
  · exact absurd rfl h0
  · by_cases e : x = (ls, c)
    · rw [e] at hxq; exact hxq
    · have : live (Hs.erase (ls, c)) q = true := live_iff.2 ⟨x, (List.mem_erase_of_ne e).2 hx, hxq⟩
      rw [this] at hd; cases hd
theorem cut_all {Ns : List Path} {Hs : List (Path × Str)} (h : Tight Ns Hs) {ls : Path} {c : Str} : cut ls (Hs.erase (ls, c)) Ns = Ns := by
  unfold cut
  rw [List.filter_eq_self]
  intro q hq
  by_cases h1 : ls <+: q
  · by_cases h2 : q = ls
    · simp [h2]
    · cases hl : live (Hs.erase (ls, c)) q with
      | true => simp
      | false =>
        have h0 : q ≠ [] := by
          rintro rfl
          exact h2 (List.prefix_nil.1 h1).symm
        have h3 := on_path h hq h0 hl
        exact absurd (List.IsPrefix.eq_of_length h3 (Nat.le_antisymm h3.length_le h1.length_le)) h2
  · have e : ls.isPrefixOf q = false := by rw [Bool.eq_false_iff]; simpa using h1
    simp [e]
/-- the kid that leads nowhere is taken away -/
theorem cut_step {Ns : List Path} {Hs : List (Path × Str)} (h : Tight Ns Hs) {p : Path} {x : Str} {r : Path} {c : Str} :
    cut p (Hs.erase (p ++ x :: r, c)) Ns = if live (Hs.erase (p ++ x :: r, c)) (p ++ [x]) then cut (p ++ [x]) (Hs.erase (p ++ x :: r, c)) Ns else (cut (p ++ [x]) (Hs.erase (p ++ x :: r, c)) Ns).filter fun q => q != p ++ [x] := by
  have key : ∀ q ∈ Ns, live (Hs.erase (p ++ x :: r, c)) q = false → p <+: q → q ≠ p → p ++ [x] <+: q := by
    intro q hq hl hp hne
    have h0 : q ≠ [] := by rintro rfl; exact hne (List.prefix_nil.1 hp).symm
    have h3 := on_path h hq h0 hl
    obtain ⟨s, rfl⟩ := hp
    have h4 := (List.prefix_append_right_inj p).1 h3
    cases s with
    | nil => simp at hne
    | cons y s =>
      obtain ⟨rfl, -⟩ := List.cons_prefix_cons.1 h4
      exact ⟨s, by simp⟩
  have hxp : p <+: p ++ [x] := ⟨[x], rfl⟩
  have hnx : p ++ [x] ≠ p := by simp
  split
  · rename_i hlx
    unfold cut
    refine List.filter_congr fun q hq => ?_
    rw [Bool.eq_iff_iff]
    simp only [Bool.or_eq_true, Bool.not_eq_true', Bool.and_eq_false_imp, List.isPrefixOf_iff_prefix, decide_eq_false_iff_not, ne_eq, Decidable.not_not]
    constructor
    · rintro (h1 | h1)
      · by_cases hl : live (Hs.erase (p ++ x :: r, c)) q = true
        · exact .inr hl
        · refine .inl fun h2 => ?_
          have e := h1 (hxp.trans h2)
          subst e
          exact absurd (List.IsPrefix.length_le h2) (by simp)
      · exact .inr h1
    · rintro (h1 | h1)
      · cases hl : live (Hs.erase (p ++ x :: r, c)) q with
        | true => exact .inr rfl
        | false =>
          refine .inl fun h2 => ?_
          by_cases e : q = p
          · exact e
          · have h3 := h1 (key q hq hl h2 e)
            rw [h3, hlx] at hl; cases hl
      · exact .inr h1
  · rename_i hlx
    unfold cut
    rw [List.filter_filter]
    refine List.filter_congr fun q hq => ?_
    rw [Bool.eq_iff_iff]
    simp only [Bool.or_eq_true, Bool.and_eq_true, Bool.not_eq_true', Bool.and_eq_false_imp, List.isPrefixOf_iff_prefix, decide_eq_false_iff_not, ne_eq, Decidable.not_not, bne_iff_ne]
    constructor
    · rintro (h1 | h1)
      · refine ⟨fun e => ?_, ?_⟩
        · have := h1 (e ▸ hxp)
          exact hnx (e ▸ this)
        · by_cases hl : live (Hs.erase (p ++ x :: r, c)) q = true
          · exact .inr hl
          · refine .inl fun h2 => ?_
            have e := h1 (hxp.trans h2)
            subst e
            exact absurd (List.IsPrefix.length_le h2) (by simp)
      · refine ⟨fun e => ?_, .inr h1⟩
        rw [e] at h1
        exact hlx h1
    · rintro ⟨h0, h1 | h1⟩
      · cases hl : live (Hs.erase (p ++ x :: r, c)) q with
        | true => exact .inr rfl
        | false =>
          refine .inl fun h2 => ?_
          by_cases e : q = p
          · exact e
          · exact absurd (h1 (key q hq hl h2 e)) h0
      · exact .inr h1
theorem tight_rem {Ns : List Path} {Hs : List (Path × Str)} (h : Tight Ns Hs) {ls : Path} {c : Str} : Tight (cut [] (Hs.erase (ls, c)) Ns) (Hs.erase (ls, c)) := by
  refine ⟨h.nn.filter _, h.hn.erase _, fun p => ?_⟩
  rw [mem_cut, h.mem]
  constructor
  · rintro ⟨h1, h2⟩
    by_cases e : p = []
    · exact .inl e
    · exact .inr (live_iff.1 (h2 (List.nil_prefix) e))
  · rintro (h1 | ⟨x, hx, hp⟩)
    · exact ⟨.inl h1, fun _ h3 => absurd h1 h3⟩
    · exact ⟨.inr ⟨x, List.mem_of_mem_erase hx, hp⟩, fun _ _ => live_iff.2 ⟨x, hx, hp⟩⟩
/-- does a node of a trie from which a hint is gone lead nowhere? It has no kid, and no client. -/
theorem dead_iff {Ns : List Path} {Hs : List (Path × Str)} (h : Tight Ns Hs) {ls : Path} {c : Str} {q : Path} :
    live (Hs.erase (ls, c)) q = false ↔ (∀ y, q ++ [y] ∉ cut q (Hs.erase (ls, c)) Ns) ∧ ∀ d, (q, d) ∉ Hs.erase (ls, c) := by
  constructor
  · intro hl
    refine ⟨fun y hy => ?_, fun d hd => ?_⟩
    · have := (mem_cut.1 hy).2 ⟨[y], rfl⟩ (by simp)
      obtain ⟨x, hx, hp⟩ := live_iff.1 this
      have : live (Hs.erase (ls, c)) q = true := live_iff.2 ⟨x, hx, List.IsPrefix.trans ⟨[y], rfl⟩ hp⟩
      rw [this] at hl; cases hl
    · have : live (Hs.erase (ls, c)) q = true := live_iff.2 ⟨_, hd, List.prefix_refl _⟩
      rw [this] at hl; cases hl
  · rintro ⟨h1, h2⟩
    rw [Bool.eq_false_iff]
    intro hl
    obtain ⟨⟨f, d⟩, hx, ⟨s, hs⟩⟩ := live_iff.1 hl
    cases s with
    | nil =>
      simp only [List.append_nil] at hs
      exact h2 d (by rw [hs]; exact hx)
    | cons y s =>
      have hp : q ++ [y] <+: f := ⟨s, by simpa using hs⟩
      exact h1 y (mem_cut.2 ⟨h.up (h.hint (List.mem_of_mem_erase hx)) hp, fun _ _ => live_iff.2 ⟨_, hx, hp⟩⟩)
end Go.Proofs.YtcnjgenacpkdbaaDoor
