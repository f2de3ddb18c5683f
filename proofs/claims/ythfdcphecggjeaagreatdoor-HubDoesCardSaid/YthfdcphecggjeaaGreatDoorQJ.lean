/- Hints by paths: nodes are where their levels lead. The plain model of the trie: Add, Remove. No program in sight. The trie, how it lies in memory: each node by its path. The trie under way: the steps of Add and Remove in memory. -/
import Derived.Test.YthfdcphecggjeaaGreatDoorQG
import Derived.Test.YthfdcphecggjeaaGreatDoorQB
import Derived.Test.YthfdcphecggjeaaGreatDoorQI
import Derived.Maps.OwnSet
import Derived.Maps.Ext
import Derived.Maps.RangeWalk
import Derived.Sort.KeysCollected
namespace Go.Proofs.YthfdcphecggjeaaGreatDoor
section
open Go

abbrev Path := List Str

structure Tight (Ns : List Path) (Hs : List (Path × Str)) : Prop where
  nn : Ns.Nodup
  hn : Hs.Nodup
  mem : ∀ p, p ∈ Ns ↔ p = [] ∨ ∃ h ∈ Hs, p <+: h.1
theorem Tight.root {Ns : List Path} {Hs : List (Path × Str)} (h : Tight Ns Hs) : [] ∈ Ns := (h.mem _).2 (.inl rfl)
theorem Tight.up {Ns : List Path} {Hs : List (Path × Str)} (h : Tight Ns Hs) {p q : Path} (hq : q ∈ Ns) (hp : p <+: q) : p ∈ Ns := by
  rcases (h.mem q).1 hq with rfl | ⟨x, hx, hxq⟩
  · obtain rfl := List.prefix_nil.1 hp; exact hq
  · exact (h.mem p).2 (.inr ⟨x, hx, hp.trans hxq⟩)
theorem Tight.hint {Ns : List Path} {Hs : List (Path × Str)} (h : Tight Ns Hs) {x : Path × Str} (hx : x ∈ Hs) : x.1 ∈ Ns := (h.mem _).2 (.inr ⟨x, hx, List.prefix_refl _⟩)
theorem tight_nil : Tight [[]] [] := ⟨by simp, List.nodup_nil, fun p => by simp⟩

/-- the nodes on a path are made -/
def addN : Path → Path → List Path → List Path
  | _, [], Ns => Ns
  | p, x :: r, Ns => addN (p ++ [x]) r (if p ++ [x] ∈ Ns then Ns else (p ++ [x]) :: Ns)
theorem mem_addN {q : Path} {r : Path} : ∀ {p : Path} {Ns : List Path}, q ∈ addN p r Ns ↔ q ∈ Ns ∨ ∃ s, s ≠ [] ∧ s <+: r ∧ q = p ++ s := by
  induction r with
  | nil =>
    intro p Ns
    simp only [addN, List.prefix_nil]
    exact ⟨.inl, fun h => h.elim id (fun ⟨s, h1, h2, _⟩ => absurd h2 h1)⟩
  | cons x r ih =>
    intro p Ns
    rw [addN, ih]
    have e : q ∈ (if p ++ [x] ∈ Ns then Ns else (p ++ [x]) :: Ns) ↔ q ∈ Ns ∨ q = p ++ [x] := by
      split
      · rename_i h
        exact ⟨.inl, fun h' => h'.elim id (fun e => e ▸ h)⟩
      · rw [List.mem_cons]; exact Or.comm
    rw [e]
    constructor
    · rintro ((h | h) | ⟨s, h1, h2, h3⟩)
      · exact .inl h
      · exact .inr ⟨[x], by simp, by simp, h⟩
      · exact .inr ⟨x :: s, by simp, by simpa using h2, by rw [h3]; simp⟩
    · rintro (h | ⟨s, h1, h2, h3⟩)
      · exact .inl (.inl h)
      · cases s with
        | nil => exact absurd rfl h1
        | cons y s =>
          obtain ⟨rfl, h2'⟩ := List.cons_prefix_cons.1 h2
          cases s with
          | nil => exact .inl (.inr h3)
          | cons z s => exact .inr ⟨z :: s, by simp, h2', by rw [h3]; simp⟩
theorem nodup_addN {r : Path} : ∀ {p : Path} {Ns : List Path}, Ns.Nodup → (addN p r Ns).Nodup := by
  induction r with
  | nil => intro p Ns h; exact h
  | cons x r ih =>
    intro p Ns h
    rw [addN]
    refine ih ?_
    split
    · exact h
    · rename_i h'; exact List.nodup_cons.2 ⟨h', h⟩
theorem tight_add {Ns : List Path} {Hs : List (Path × Str)} (h : Tight Ns Hs) {ls : Path} {c : Str} (hc : (ls, c) ∉ Hs) : Tight (addN [] ls Ns) ((ls, c) :: Hs) := by
  refine ⟨nodup_addN h.nn, List.nodup_cons.2 ⟨hc, h.hn⟩, fun p => ?_⟩
  rw [mem_addN, h.mem]
  simp only [List.nil_append, List.mem_cons, exists_eq_or_imp]
  constructor
  · rintro ((h1 | h1) | ⟨s, h1, h2, rfl⟩)
    · exact .inl h1
    · exact .inr (.inr h1)
    · exact .inr (.inl h2)
  · rintro (h1 | h1 | h1)
    · exact .inl (.inl h1)
    · by_cases hp : p = []
      · exact .inl (.inl hp)
      · exact .inr ⟨p, hp, h1, rfl⟩
    · exact .inl (.inr h1)
theorem addN_there {r : Path} : ∀ {p : Path} {Ns : List Path}, (∀ s, s <+: r → p ++ s ∈ Ns) → addN p r Ns = Ns := by
  induction r with
  | nil => intro p Ns _; rfl
  | cons x r ih =>
    intro p Ns h
    have hx : p ++ [x] ∈ Ns := h [x] (by simp)
    rw [addN, if_pos hx]
    refine ih fun s hs => ?_
    have := h (x :: s) (by simpa using hs)
    simpa using this
theorem add_there {Ns : List Path} {Hs : List (Path × Str)} (h : Tight Ns Hs) {ls : Path} {c : Str} (hc : (ls, c) ∈ Hs) : addN [] ls Ns = Ns :=
  addN_there fun s hs => by simpa using h.up (h.hint hc) hs
theorem addN_app {r : Path} {y : Str} : ∀ {p : Path} {Ns : List Path}, addN p (r ++ [y]) Ns = (if p ++ r ++ [y] ∈ addN p r Ns then addN p r Ns else (p ++ r ++ [y]) :: addN p r Ns) := by
  induction r with
  | nil => intro p Ns; simp [addN]
  | cons x r ih =>
    intro p Ns
    rw [List.cons_append, addN, addN, ih]
    simp

/-- leads a path to a hint? -/
def live (Hs : List (Path × Str)) (q : Path) : Bool := Hs.any fun h => q.isPrefixOf h.1
theorem live_iff {Hs : List (Path × Str)} {q : Path} : live Hs q = true ↔ ∃ h ∈ Hs, q <+: h.1 := by simp [live]
/-- the nodes without those below p that lead nowhere -/
def cut (p : Path) (Hs : List (Path × Str)) (Ns : List Path) : List Path := Ns.filter fun q => !(p.isPrefixOf q && decide (q ≠ p)) || live Hs q
theorem mem_cut {p : Path} {Hs : List (Path × Str)} {Ns : List Path} {q : Path} : q ∈ cut p Hs Ns ↔ q ∈ Ns ∧ (p <+: q → q ≠ p → live Hs q = true) := by
  unfold cut
  rw [List.mem_filter]
  constructor
  · rintro ⟨h1, h2⟩
    refine ⟨h1, fun h3 h4 => ?_⟩
    have e : p.isPrefixOf q = true := by simpa using h3
    rw [e] at h2
    simpa [h4] using h2
  · rintro ⟨h1, h2⟩
    refine ⟨h1, ?_⟩
    by_cases h3 : p <+: q
    · by_cases h4 : q = p
      · simp [h4]
      · simp [h2 h3 h4]
    · have e : p.isPrefixOf q = false := by rw [Bool.eq_false_iff]; simpa using h3
      simp [e]
/-- what is left of a hint's nodes when it is gone: those that another hint wants -/
theorem on_path {Ns : List Path} {Hs : List (Path × Str)} (h : Tight Ns Hs) {ls : Path} {c : Str} {q : Path} (hq : q ∈ Ns) (h0 : q ≠ []) (hd : live (Hs.erase (ls, c)) q = false) : q <+: ls := by
  rcases (h.mem q).1 hq with rfl | ⟨x, hx, hxq⟩
  · exact absurd rfl h0
  · by_cases e : x = (ls, c)
    · rw [e] at hxq; exact hxq
    · have : live (Hs.erase (ls, c)) q = true := live_iff.2 ⟨x, (List.mem_erase_of_ne e).2 hx, hxq⟩
      rw [this] at hd; cases hd
theorem cut_all {Ns : List Path} {Hs : List (Path × Str)} (h : Tight Ns Hs) {ls : Path} {c : Str} : cut ls (Hs.erase (ls, c)) Ns = Ns := by
  unfold cut
  rw [List.filter_eq_self]
  intro q hq
  by_cases h1 : ls <+: q
  · by_cases h2 : q = ls
    · simp [h2]
    · cases hl : live (Hs.erase (ls, c)) q with
      | true => simp
      | false =>
        have h0 : q ≠ [] := by
          rintro rfl
          exact h2 (List.prefix_nil.1 h1).symm
        have h3 := on_path h hq h0 hl
        exact absurd (List.IsPrefix.eq_of_length h3 (Nat.le_antisymm h3.length_le h1.length_le)) h2
  · have e : ls.isPrefixOf q = false := by rw [Bool.eq_false_iff]; simpa using h1
    simp [e]
/-- the kid that leads nowhere is taken away -/
theorem cut_step {Ns : List Path} {Hs : List (Path × Str)} (h : Tight Ns Hs) {p : Path} {x : Str} {r : Path} {c : Str} :
    cut p (Hs.erase (p ++ x :: r, c)) Ns = if live (Hs.erase (p ++ x :: r, c)) (p ++ [x]) then cut (p ++ [x]) (Hs.erase (p ++ x :: r, c)) Ns else (cut (p ++ [x]) (Hs.erase (p ++ x :: r, c)) Ns).filter fun q => q != p ++ [x] := by
  have key : ∀ q ∈ Ns, live (Hs.erase (p ++ x :: r, c)) q = false → p <+: q → q ≠ p → p ++ [x] <+: q := by
    intro q hq hl hp hne
    have h0 : q ≠ [] := by rintro rfl; exact hne (List.prefix_nil.1 hp).symm
    have h3 := on_path h hq h0 hl
    obtain ⟨s, rfl⟩ := hp
    have h4 := (List.prefix_append_right_inj p).1 h3
    cases s with
    | nil => simp at hne
    | cons y s =>
      obtain ⟨rfl, -⟩ := List.cons_prefix_cons.1 h4
      exact ⟨s, by simp⟩
  have hxp : p <+: p ++ [x] := ⟨[x], rfl⟩
  have hnx : p ++ [x] ≠ p := by simp
  split
  · rename_i hlx
    unfold cut
    refine List.filter_congr fun q hq => ?_
    rw [Bool.eq_iff_iff]
    simp only [Bool.or_eq_true, Bool.not_eq_true', Bool.and_eq_false_imp, List.isPrefixOf_iff_prefix, decide_eq_false_iff_not, ne_eq, Decidable.not_not]
    constructor
    · rintro (h1 | h1)
      · by_cases hl : live (Hs.erase (p ++ x :: r, c)) q = true
        · exact .inr hl
        · refine .inl fun h2 => ?_
          have e := h1 (hxp.trans h2)
          subst e
          exact absurd (List.IsPrefix.length_le h2) (by simp)
      · exact .inr h1
    · rintro (h1 | h1)
      · cases hl : live (Hs.erase (p ++ x :: r, c)) q with
        | true => exact .inr rfl
        | false =>
          refine .inl fun h2 => ?_
          by_cases e : q = p
          · exact e
          · have h3 := h1 (key q hq hl h2 e)
            rw [h3, hlx] at hl; cases hl
      · exact .inr h1
  · rename_i hlx
    unfold cut
    rw [List.filter_filter]
    refine List.filter_congr fun q hq => ?_
    rw [Bool.eq_iff_iff]
    simp only [Bool.or_eq_true, Bool.and_eq_true, Bool.not_eq_true', Bool.and_eq_false_imp, List.isPrefixOf_iff_prefix, decide_eq_false_iff_not, ne_eq, Decidable.not_not, bne_iff_ne]
    constructor
    · rintro (h1 | h1)
      · refine ⟨fun e => ?_, ?_⟩
        · have := h1 (e ▸ hxp)
          exact hnx (e ▸ this)
        · by_cases hl : live (Hs.erase (p ++ x :: r, c)) q = true
          · exact .inr hl
          · refine .inl fun h2 => ?_
            have e := h1 (hxp.trans h2)
            subst e
            exact absurd (List.IsPrefix.length_le h2) (by simp)
      · refine ⟨fun e => ?_, .inr h1⟩
        rw [e] at h1
        exact hlx h1
    · rintro ⟨h0, h1 | h1⟩
      · cases hl : live (Hs.erase (p ++ x :: r, c)) q with
        | true => exact .inr rfl
        | false =>
          refine .inl fun h2 => ?_
          by_cases e : q = p
          · exact e
          · exact absurd (h1 (key q hq hl h2 e)) h0
      · exact .inr h1
theorem tight_rem {Ns : List Path} {Hs : List (Path × Str)} (h : Tight Ns Hs) {ls : Path} {c : Str} : Tight (cut [] (Hs.erase (ls, c)) Ns) (Hs.erase (ls, c)) := by
  refine ⟨h.nn.filter _, h.hn.erase _, fun p => ?_⟩
  rw [mem_cut, h.mem]
  constructor
  · rintro ⟨h1, h2⟩
    by_cases e : p = []
    · exact .inl e
    · exact .inr (live_iff.1 (h2 (List.nil_prefix) e))
  · rintro (h1 | ⟨x, hx, hp⟩)
    · exact ⟨.inl h1, fun _ h3 => absurd h1 h3⟩
    · exact ⟨.inr ⟨x, List.mem_of_mem_erase hx, hp⟩, fun _ _ => live_iff.2 ⟨x, hx, hp⟩⟩
/-- does a node of a trie from which a hint is gone lead nowhere? It has no kid, and no client. -/
theorem dead_iff {Ns : List Path} {Hs : List (Path × Str)} (h : Tight Ns Hs) {ls : Path} {c : Str} {q : Path} :
    live (Hs.erase (ls, c)) q = false ↔ (∀ y, q ++ [y] ∉ cut q (Hs.erase (ls, c)) Ns) ∧ ∀ d, (q, d) ∉ Hs.erase (ls, c) := by
  constructor
  · intro hl
    refine ⟨fun y hy => ?_, fun d hd => ?_⟩
    · have := (mem_cut.1 hy).2 ⟨[y], rfl⟩ (by simp)
      obtain ⟨x, hx, hp⟩ := live_iff.1 this
      have : live (Hs.erase (ls, c)) q = true := live_iff.2 ⟨x, hx, List.IsPrefix.trans ⟨[y], rfl⟩ hp⟩
      rw [this] at hl; cases hl
    · have : live (Hs.erase (ls, c)) q = true := live_iff.2 ⟨_, hd, List.prefix_refl _⟩
      rw [this] at hl; cases hl
  · rintro ⟨h1, h2⟩
    rw [Bool.eq_false_iff]
    intro hl
    obtain ⟨⟨f, d⟩, hx, ⟨s, hs⟩⟩ := live_iff.1 hl
    cases s with
    | nil =>
      simp only [List.append_nil] at hs
      exact h2 d (by rw [hs]; exact hx)
    | cons y s =>
      have hp : q ++ [y] <+: f := ⟨s, by simpa using hs⟩
      exact h1 y (mem_cut.2 ⟨h.up (h.hint (List.mem_of_mem_erase hx)) hp, fun _ _ => live_iff.2 ⟨_, hx, hp⟩⟩)
end
section
open Go Go.RowKit Go.Maps

theorem zeroPtr (w : World) : (zeroValue 102).run Tryz.prog w = .ok (.pointer none) w := by kernel_rfl
theorem zeroMark (w : World) : (zeroValue 108).run Tryz.prog w = .ok (.agg #[]) w := by kernel_rfl
/-- a map of kids, or none: f says which block a level's kid has -/
def KidsAt (w : World) (B : Nat) (kb : Option Nat) (f : Str → Option Nat) : Prop :=
  match kb with
  | none => ∀ x, f x = none
  | some m => ∃ D, w.ownsMap Tryz.prog 9 ptrElem m (Maps.size D) D ∧ Maps.size D ≤ B ∧ ∀ x, Maps.has D (.string x) = (f x).isSome ∧ ∀ b, f x = some b → ∀ z, D.atKey (.string x) z = ptrDat b
/-- a map of clients, or none -/
def ClAt (w : World) (B : Nat) (cb : Option Nat) (g : Str → Bool) : Prop :=
  match cb with
  | none => ∀ c, g c = false
  | some m => ∃ D : DataW Unit, w.ownsMap Tryz.prog 9 unitElem m (Maps.size D) D ∧ Maps.size D ≤ B ∧ ∀ c, Maps.has D (.string c) = g c
theorem KidsAt.of {w w' : World} {B B' : Nat} {kb : Option Nat} {f f' : Str → Option Nat} (h : KidsAt w B kb f) (hb : ∀ m, kb = some m → w'.heap[m]? = w.heap[m]?) (hB : B ≤ B') (hf : ∀ x, f' x = f x) : KidsAt w' B' kb f' := by
  obtain rfl : f' = f := funext hf
  cases kb with
  | none => exact h
  | some m =>
    obtain ⟨D, h1, h2, h3⟩ := h
    exact ⟨D, owns_block h1 (hb m rfl), Nat.le_trans h2 hB, h3⟩
theorem ClAt.of {w w' : World} {B B' : Nat} {cb : Option Nat} {g g' : Str → Bool} (h : ClAt w B cb g) (hb : ∀ m, cb = some m → w'.heap[m]? = w.heap[m]?) (hB : B ≤ B') (hg : ∀ x, g' x = g x) : ClAt w' B' cb g' := by
  obtain rfl : g' = g := funext hg
  cases cb with
  | none => exact h
  | some m =>
    obtain ⟨D, h1, h2, h3⟩ := h
    exact ⟨D, owns_block h1 (hb m rfl), Nat.le_trans h2 hB, h3⟩
theorem KidsAt.look {w : World} {B : Nat} {kb : Option Nat} {f : Str → Option Nat} (h : KidsAt w B kb f) {s : ByteArray} (hs : s.size ≤ maxLen) :
    (Instr.lookup 103 (.map kb) (.string s) false).run Tryz.prog w = .ok (ptrV (f s.data.toList)) w := by
  cases kb with
  | none =>
    rw [Maps.look_nil false kS Tryz.underlying103 (zeroPtr w) (skey hs), show f s.data.toList = none from h _]
    rfl
  | some m =>
    obtain ⟨D, h1, -, h3⟩ := h
    obtain ⟨v, ps, hrun, hv⟩ := h1.lookup kS Tryz.underlying103 (zeroPtr w) (zd := nilDat) (zp := []) rfl (skey hs)
    obtain ⟨h4, h5⟩ := h3 s.data.toList
    rw [hrun]
    cases hf : f s.data.toList with
    | none =>
      rw [hf] at h4
      rw [atKey_of_not_has h4] at hv
      rw [ptrElem_nil hv]; rfl
    | some b =>
      rw [h5 b hf] at hv
      rw [ptrElem_inv hv]; rfl
theorem ClAt.look {w : World} {B : Nat} {cb : Option Nat} {g : Str → Bool} (h : ClAt w B cb g) {s : ByteArray} (hs : s.size ≤ maxLen) :
    (Instr.lookup 100 (.map cb) (.string s) true).run Tryz.prog w = .ok (.tuple #[.agg #[], .bool (g s.data.toList)]) w := by
  cases cb with
  | none =>
    rw [Maps.look_nil true kS Tryz.underlying100 (zeroMark w) (skey hs), show g s.data.toList = false from h _]
    rfl
  | some m =>
    obtain ⟨D, h1, -, h3⟩ := h
    obtain ⟨v, ps, hrun, hv⟩ := h1.look_ok kS Tryz.underlying100 (zeroMark w) (zd := .agg []) (zp := []) unitElem_mk (skey hs)
    obtain ⟨rfl, -⟩ := unitElem_inv hv
    rw [hrun, h3]
theorem size_zero {D : DataW Unit} (hD : IsMap D) (h : Maps.size D = 0) : ∀ k, Maps.has D k = false := by
  obtain ⟨es, rfl⟩ := hD
  intro k
  have : es = [] := by cases es with
    | nil => rfl
    | cons a r => simp [Maps.size] at h
  subst this; rfl
theorem KidsAt.len {w : World} {B : Nat} {kb : Option Nat} {f : Str → Option Nat} (h : KidsAt w B kb f) : ∃ n : Nat, n ≤ B ∧ (n = 0 ↔ ∀ x, f x = none) ∧ ∀ ty W, (∀ m, kb = some m → W.heap[m]? = w.heap[m]?) → (Builtin.len_ #[103] ty #[.map kb]).run Tryz.prog W = .ok (.int .i64 n) W := by
  cases kb with
  | none => exact ⟨0, Nat.zero_le _, ⟨fun _ => h, fun _ => rfl⟩, fun ty W _ => Maps.len_nil Tryz.underlying103 ty⟩
  | some m =>
    obtain ⟨D, h1, h2, h3⟩ := h
    obtain ⟨es, hD, -, hk⟩ := h1.entries kS
    refine ⟨Maps.size D, h2, ⟨fun h0 x => ?_, fun h0 => ?_⟩, fun ty W hW => (owns_block h1 (hW m rfl)).len Tryz.underlying103 ty⟩
    · have := size_zero h1.isMap h0 (.string x)
      rw [(h3 x).1] at this
      simpa using this
    · obtain ⟨es', hD', hko⟩ := h1.keysOf
      obtain rfl : es = es' := by rw [hD] at hD'; simpa using hD'
      subst hD
      cases es with
      | nil => rfl
      | cons a r =>
        obtain ⟨v, hv⟩ := hko a (by simp)
        obtain ⟨x, _, hx, _⟩ := Maps.keyOf_str Tryz.underlying9 hv
        have h4 := (h3 x).1
        rw [h0 x, Maps.has_eq] at h4
        simp [hx, Lit.sameKey] at h4
theorem ClAt.len {w : World} {B : Nat} {cb : Option Nat} {g : Str → Bool} (h : ClAt w B cb g) : ∃ n : Nat, n ≤ B ∧ (n = 0 ↔ ∀ x, g x = false) ∧ ∀ ty W, (∀ m, cb = some m → W.heap[m]? = w.heap[m]?) → (Builtin.len_ #[100] ty #[.map cb]).run Tryz.prog W = .ok (.int .i64 n) W := by
  cases cb with
  | none => exact ⟨0, Nat.zero_le _, ⟨fun _ => h, fun _ => rfl⟩, fun ty W _ => Maps.len_nil Tryz.underlying100 ty⟩
  | some m =>
    obtain ⟨D, h1, h2, h3⟩ := h
    obtain ⟨es, hD, -, hk⟩ := h1.entries kS
    refine ⟨Maps.size D, h2, ⟨fun h0 x => ?_, fun h0 => ?_⟩, fun ty W hW => (owns_block h1 (hW m rfl)).len Tryz.underlying100 ty⟩
    · have := size_zero h1.isMap h0 (.string x)
      rw [h3 x] at this
      exact this
    · obtain ⟨es', hD', hko⟩ := h1.keysOf
      obtain rfl : es = es' := by rw [hD] at hD'; simpa using hD'
      subst hD
      cases es with
      | nil => rfl
      | cons a r =>
        obtain ⟨v, hv⟩ := hko a (by simp)
        obtain ⟨x, _, hx, _⟩ := Maps.keyOf_str Tryz.underlying9 hv
        have h4 := h3 x
        rw [h0 x, Maps.has_eq] at h4
        simp [hx, Lit.sameKey] at h4

structure Nd where
  b : Nat
  kb : Option Nat
  cb : Option Nat
def Nd.blocks (n : Nd) : List Nat := n.b :: (n.kb.toList ++ n.cb.toList)
def Nd.cells (n : Nd) (p : Path) (hn nn : Int) : Array Value := if p = [] then #[.map n.kb, .map n.cb, .int .i64 hn, .int .i64 nn] else #[.map n.kb, .map n.cb]
def Nd.ty (p : Path) : TypeId := if p = [] then 110 else 105
def kidOf (nd : Path → Nd) (Ns : List Path) (p : Path) (x : Str) : Option Nat := if p ++ [x] ∈ Ns then some (nd (p ++ [x])).b else none
def updN (nd : Path → Nd) (p : Path) (n : Nd) : Path → Nd := fun q => if q = p then n else nd q
theorem updN_same {nd : Path → Nd} {p : Path} {n : Nd} : updN nd p n p = n := by simp [updN]
theorem updN_other {nd : Path → Nd} {p q : Path} {n : Nd} (h : q ≠ p) : updN nd p n q = nd q := by simp [updN, h]

structure MemRep (w : World) (t B : Nat) (hn nn : Int) (nd : Path → Nd) (Ns : List Path) (Hs : List (Path × Str)) : Prop where
  root : (nd []).b = t
  has0 : [] ∈ Ns
  cell : ∀ p ∈ Ns, w.heap[(nd p).b]? = some (.cells ((nd p).cells p hn nn) (Nd.ty p) (0, 0))
  kids : ∀ p ∈ Ns, KidsAt w B (nd p).kb (kidOf nd Ns p)
  cls : ∀ p ∈ Ns, ClAt w B (nd p).cb (fun c => decide ((p, c) ∈ Hs))
  inj : ∀ p ∈ Ns, ∀ q ∈ Ns, ∀ k ∈ (nd p).blocks, k ∈ (nd q).blocks → p = q
  dis : ∀ p ∈ Ns, (nd p).blocks.Nodup
theorem MemRep.lt {w : World} {t B : Nat} {hn nn : Int} {nd : Path → Nd} {Ns : List Path} {Hs : List (Path × Str)} (h : MemRep w t B hn nn nd Ns Hs) : ∀ p ∈ Ns, ∀ k ∈ (nd p).blocks, k < w.heap.size := by
  intro p hp k hk
  simp only [Nd.blocks, List.mem_cons, List.mem_append, Option.mem_toList] at hk
  rcases hk with rfl | hk | hk
  · exact (Array.getElem?_eq_some_iff.1 (h.cell p hp)).1
  · have := h.kids p hp
    rw [hk] at this
    obtain ⟨D, h1, -⟩ := this
    exact h1.lt
  · have := h.cls p hp
    rw [hk] at this
    obtain ⟨D, h1, -⟩ := this
    exact h1.lt
theorem MemRep.keep {w w' : World} {t B : Nat} {hn nn : Int} {nd : Path → Nd} {Ns : List Path} {Hs : List (Path × Str)} (h : MemRep w t B hn nn nd Ns Hs) (hs : ∀ p ∈ Ns, ∀ k ∈ (nd p).blocks, w'.heap[k]? = w.heap[k]?) : MemRep w' t B hn nn nd Ns Hs :=
  ⟨h.root, h.has0, fun p hp => (hs p hp _ (by simp [Nd.blocks])).trans (h.cell p hp), fun p hp => (h.kids p hp).of (fun m hm => hs p hp m (by simp [Nd.blocks, hm])) (Nat.le_refl _) (fun _ => rfl),
    fun p hp => (h.cls p hp).of (fun m hm => hs p hp m (by simp [Nd.blocks, hm])) (Nat.le_refl _) (fun _ => rfl), h.inj, h.dis⟩
theorem cells_at {n : Nd} {p : Path} {hn nn : Int} : (n.cells p hn nn)[0]? = some (.map n.kb) ∧ (n.cells p hn nn)[1]? = some (.map n.cb) := by
  unfold Nd.cells
  split <;> exact ⟨rfl, rfl⟩
theorem MemRep.c0 {w : World} {t B : Nat} {hn nn : Int} {nd : Path → Nd} {Ns : List Path} {Hs : List (Path × Str)} (h : MemRep w t B hn nn nd Ns Hs) {p : Path} (hp : p ∈ Ns) : w.cell? ⟨(nd p).b, 0, none⟩ = some (.map (nd p).kb) := by
  rw [cell_of_row w (nd p).b 0 _ _ _ (h.cell p hp)]; exact cells_at.1
theorem MemRep.c1 {w : World} {t B : Nat} {hn nn : Int} {nd : Path → Nd} {Ns : List Path} {Hs : List (Path × Str)} (h : MemRep w t B hn nn nd Ns Hs) {p : Path} (hp : p ∈ Ns) : w.cell? ⟨(nd p).b, 1, none⟩ = some (.map (nd p).cb) := by
  rw [cell_of_row w (nd p).b 1 _ _ _ (h.cell p hp)]; exact cells_at.2
theorem MemRep.c2 {w : World} {t B : Nat} {hn nn : Int} {nd : Path → Nd} {Ns : List Path} {Hs : List (Path × Str)} (h : MemRep w t B hn nn nd Ns Hs) : w.cell? ⟨t, 2, none⟩ = some (.int .i64 hn) ∧ w.cell? ⟨t, 3, none⟩ = some (.int .i64 nn) := by
  have h0 := h.cell [] h.has0
  rw [h.root] at h0
  rw [cell_of_row w t 2 _ _ _ h0, cell_of_row w t 3 _ _ _ h0]
  exact ⟨rfl, rfl⟩
theorem MemRep.fz {w : World} {t B : Nat} {hn nn : Int} {nd : Path → Nd} {Ns : List Path} {Hs : List (Path × Str)} (h : MemRep w t B hn nn nd Ns Hs) {p : Path} (hp : p ∈ Ns) (o : Nat) : w.frozen? ⟨(nd p).b, o, none⟩ = false :=
  frozen_of_row w (nd p).b o _ _ (h.cell p hp)
theorem kidOf_upd {nd : Path → Nd} {Ns : List Path} {p q : Path} {n : Nd} (hb : n.b = (nd p).b) (x : Str) : kidOf (updN nd p n) Ns q x = kidOf nd Ns q x := by
  unfold kidOf
  by_cases e : q ++ [x] = p
  · rw [e, updN_same, hb]
  · rw [updN_other e]
/-- one node's own blocks are turned -/
theorem MemRep.turn {w w' : World} {t B B' : Nat} {hn nn hn' nn' : Int} {nd : Path → Nd} {Ns : List Path} {Hs Hs' : List (Path × Str)} (h : MemRep w t B hn nn nd Ns Hs) {p : Path} (hp : p ∈ Ns) (n' : Nd) (hb : n'.b = (nd p).b) (hB : B ≤ B')
    (hm : Mod (nd p).blocks w w') (hcell : w'.heap[(nd p).b]? = some (.cells (n'.cells p hn' nn') (Nd.ty p) (0, 0))) (hk : KidsAt w' B' n'.kb (kidOf nd Ns p)) (hc : ClAt w' B' n'.cb (fun c => decide ((p, c) ∈ Hs')))
    (hnew : ∀ k ∈ n'.blocks, k ∈ (nd p).blocks ∨ w.heap.size ≤ k) (hdis : n'.blocks.Nodup) (hroot : p ≠ [] → hn' = hn ∧ nn' = nn) (hHs : ∀ q c, q ≠ p → ((q, c) ∈ Hs' ↔ (q, c) ∈ Hs)) :
    MemRep w' t B' hn' nn' (updN nd p n') Ns Hs' := by
  have hoth : ∀ q ∈ Ns, q ≠ p → ∀ k ∈ (nd q).blocks, w'.heap[k]? = w.heap[k]? := fun q hq hqp k hk => hm.block k (h.lt q hq k hk) (fun hk' => hqp (h.inj q hq p hp k hk hk'))
  have hnb : ∀ q ∈ Ns, q ≠ p → ∀ k ∈ (nd q).blocks, k ∉ n'.blocks := fun q hq hqp k hk hk' => by
    rcases hnew k hk' with h1 | h1
    · exact hqp (h.inj q hq p hp k hk h1)
    · have := h.lt q hq k hk; omega
  refine ⟨?_, h.has0, fun q hq => ?_, fun q hq => ?_, fun q hq => ?_, fun q hq r hr k hk hk' => ?_, fun q hq => ?_⟩
  · by_cases e : [] = p
    · rw [← e, updN_same, hb, ← e]; exact h.root
    · rw [updN_other e]; exact h.root
  · by_cases e : q = p
    · subst e; rw [updN_same, hb]; exact hcell
    · rw [updN_other e, hoth q hq e _ (by simp [Nd.blocks]), h.cell q hq]
      by_cases hp0 : p = []
      · have : q ≠ [] := fun e' => e (e'.trans hp0.symm)
        simp [Nd.cells, this]
      · rw [(hroot hp0).1, (hroot hp0).2]
  · by_cases e : q = p
    · subst e; rw [updN_same]
      exact hk.of (fun _ _ => rfl) (Nat.le_refl _) (fun x => kidOf_upd hb x)
    · rw [updN_other e]
      exact (h.kids q hq).of (fun m hm' => hoth q hq e m (by simp [Nd.blocks, hm'])) hB (fun x => kidOf_upd hb x)
  · by_cases e : q = p
    · subst e; rw [updN_same]; exact hc
    · rw [updN_other e]
      exact (h.cls q hq).of (fun m hm' => hoth q hq e m (by simp [Nd.blocks, hm'])) hB (fun c => by rw [decide_eq_decide]; exact hHs q c e)
  · by_cases e : q = p
    · by_cases e' : r = p
      · rw [e, e']
      · subst e
        rw [updN_same] at hk
        rw [updN_other e'] at hk'
        exact absurd hk (hnb r hr e' k hk')
    · by_cases e' : r = p
      · subst e'
        rw [updN_same] at hk'
        rw [updN_other e] at hk
        exact absurd hk' (hnb q hq e k hk)
      · rw [updN_other e] at hk
        rw [updN_other e'] at hk'
        exact h.inj q hq r hr k hk hk'
  · by_cases e : q = p
    · subst e; rw [updN_same]; exact hdis
    · rw [updN_other e]; exact h.dis q hq
theorem app_inj {p q : Path} {x y : Str} (h : p ++ [x] = q ++ [y]) : p = q ∧ x = y := by
  have := List.append_inj' h rfl
  exact ⟨this.1, by simpa using this.2⟩
/-- a kid more -/
theorem MemRep.addKid {w w' : World} {t B B' : Nat} {hn nn : Int} {nd : Path → Nd} {Ns : List Path} {Hs : List (Path × Str)} (h : MemRep w t B hn nn nd Ns Hs) {p : Path} (hp : p ∈ Ns) {x : Str} (hx : p ++ [x] ∉ Ns) (hx2 : ∀ y, p ++ [x] ++ [y] ∉ Ns) (hHs : ∀ c, (p ++ [x], c) ∉ Hs)
    {m b' : Nat} (hkb : (nd p).kb = some m) (hB : B ≤ B') (hm : Mod [m] w w') (hb' : w.heap.size ≤ b') (hcell : w'.heap[b']? = some (.cells #[.map none, .map none] 105 (0, 0)))
    (hkk : KidsAt w' B' (some m) (fun y => if y = x then some b' else kidOf nd Ns p y)) : MemRep w' t B' hn nn (updN nd (p ++ [x]) ⟨b', none, none⟩) ((p ++ [x]) :: Ns) Hs := by
  have hne : ∀ q ∈ Ns, q ≠ p ++ [x] := fun q hq e => hx (e ▸ hq)
  have hmp : m ∈ (nd p).blocks := by simp [Nd.blocks, hkb]
  have hoth : ∀ q ∈ Ns, ∀ k ∈ (nd q).blocks, k ≠ m → w'.heap[k]? = w.heap[k]? := fun q hq k hk hkm => hm.block k (h.lt q hq k hk) (by simpa using hkm)
  have hbn : ∀ q ∈ Ns, b' ∉ (nd q).blocks := fun q hq hk => by have := h.lt q hq b' hk; omega
  have hn0 : p ++ [x] ≠ [] := by simp
  have hnb : (⟨b', none, none⟩ : Nd).blocks = [b'] := rfl
  have hkid : ∀ q ∈ Ns, q ≠ p → ∀ y, kidOf (updN nd (p ++ [x]) ⟨b', none, none⟩) ((p ++ [x]) :: Ns) q y = kidOf nd Ns q y := fun q _ hqp y => by
    have e : q ++ [y] ≠ p ++ [x] := fun e => hqp (app_inj e).1
    simp only [kidOf, List.mem_cons, e, false_or, updN_other e]
  refine ⟨?_, by simp [h.has0], fun q hq => ?_, fun q hq => ?_, fun q hq => ?_, fun q hq r hr k hk hk' => ?_, fun q hq => ?_⟩
  · rw [updN_other hn0.symm]; exact h.root
  · rcases List.mem_cons.1 hq with rfl | hq1
    · rw [updN_same]; simpa [Nd.cells, Nd.ty] using hcell
    · rw [updN_other (hne q hq1)]
      refine (hoth q hq1 _ (by simp [Nd.blocks]) ?_).trans (h.cell q hq1)
      intro e
      have h1 := h.dis q hq1
      have h2 : q = p := h.inj q hq1 p hp (nd q).b (by simp [Nd.blocks]) (by rw [e]; exact hmp)
      subst h2
      rw [Nd.blocks, hkb, e] at h1
      simp at h1
  · rcases List.mem_cons.1 hq with rfl | hq1
    · rw [updN_same]
      intro y
      unfold kidOf
      rw [if_neg]
      simp only [List.mem_cons, not_or]
      exact ⟨by simp, hx2 y⟩
    · rw [updN_other (hne q hq1)]
      by_cases e : q = p
      · subst e
        rw [hkb]
        refine hkk.of (fun _ _ => rfl) (Nat.le_refl _) (fun y => ?_)
        unfold kidOf
        by_cases ey : y = x
        · subst ey; simp [updN_same]
        · have e' : q ++ [y] ≠ q ++ [x] := fun e => ey (app_inj e).2
          simp only [List.mem_cons, e', false_or, updN_other e', ey, if_false]
      · refine (h.kids q hq1).of (fun m' hm' => hoth q hq1 m' (by simp [Nd.blocks, hm']) ?_) hB (fun y => hkid q hq1 e y)
        rintro rfl
        exact e (h.inj q hq1 p hp m' (by simp [Nd.blocks, hm']) hmp)
  · rcases List.mem_cons.1 hq with rfl | hq1
    · rw [updN_same]
      intro c
      simpa using hHs c
    · rw [updN_other (hne q hq1)]
      refine (h.cls q hq1).of (fun m' hm' => hoth q hq1 m' (by simp [Nd.blocks, hm']) ?_) hB (fun _ => rfl)
      rintro rfl
      have h2 : q = p := h.inj q hq1 p hp m' (by simp [Nd.blocks, hm']) hmp
      subst h2
      have h1 := h.dis q hq1
      rw [Nd.blocks, hkb, hm'] at h1
      simp at h1
  · rcases List.mem_cons.1 hq with rfl | hq1
    · rcases List.mem_cons.1 hr with rfl | hr1
      · rfl
      · rw [updN_same, hnb] at hk
        rw [updN_other (hne r hr1)] at hk'
        obtain rfl := List.mem_singleton.1 hk
        exact absurd hk' (hbn r hr1)
    · rcases List.mem_cons.1 hr with rfl | hr1
      · rw [updN_same, hnb] at hk'
        rw [updN_other (hne q hq1)] at hk
        obtain rfl := List.mem_singleton.1 hk'
        exact absurd hk (hbn q hq1)
      · rw [updN_other (hne q hq1)] at hk
        rw [updN_other (hne r hr1)] at hk'
        exact h.inj q hq1 r hr1 k hk hk'
  · rcases List.mem_cons.1 hq with rfl | hq1
    · rw [updN_same, hnb]; simp
    · rw [updN_other (hne q hq1)]; exact h.dis q hq1
/-- a kid less -/
theorem MemRep.dropKid {w w' : World} {t B : Nat} {hn nn : Int} {nd : Path → Nd} {Ns : List Path} {Hs : List (Path × Str)} (h : MemRep w t B hn nn nd Ns Hs) {p : Path} (hp : p ∈ Ns) {x : Str}
    {m : Nat} (hkb : (nd p).kb = some m) (hm : Mod [m] w w') (hk : KidsAt w' B (some m) (fun y => if y = x then none else kidOf nd Ns p y)) : MemRep w' t B hn nn nd (Ns.filter fun q => q != p ++ [x]) Hs := by
  have hmp : m ∈ (nd p).blocks := by simp [Nd.blocks, hkb]
  have hoth : ∀ q ∈ Ns, ∀ k ∈ (nd q).blocks, k ≠ m → w'.heap[k]? = w.heap[k]? := fun q hq k hk hkm => hm.block k (h.lt q hq k hk) (by simpa using hkm)
  have hin : ∀ q, q ∈ (Ns.filter fun q => q != p ++ [x]) → q ∈ Ns := fun q hq => (List.mem_filter.1 hq).1
  have hkid : ∀ q y, kidOf nd (Ns.filter fun q => q != p ++ [x]) q y = if q ++ [y] = p ++ [x] then none else kidOf nd Ns q y := fun q y => by
    unfold kidOf
    by_cases e : q ++ [y] = p ++ [x]
    · simp [e]
    · simp [e, List.mem_filter]
  refine ⟨h.root, by simp [List.mem_filter, h.has0], fun q hq => ?_, fun q hq => ?_, fun q hq => ?_, fun q hq r hr => h.inj q (hin q hq) r (hin r hr), fun q hq => h.dis q (hin q hq)⟩
  · have hq' := hin q hq
    refine (hoth q hq' _ (by simp [Nd.blocks]) ?_).trans (h.cell q hq')
    intro e
    have h1 := h.dis q hq'
    have h2 : q = p := h.inj q hq' p hp (nd q).b (by simp [Nd.blocks]) (by rw [e]; exact hmp)
    subst h2
    rw [Nd.blocks, hkb, e] at h1
    simp at h1
  · have hq' := hin q hq
    by_cases e : q = p
    · subst e
      rw [hkb]
      refine hk.of (fun _ _ => rfl) (Nat.le_refl _) (fun y => ?_)
      rw [hkid]
      by_cases ey : y = x
      · simp [ey]
      · have e' : q ++ [y] ≠ q ++ [x] := fun e => ey (app_inj e).2
        rw [if_neg e', if_neg ey]
    · refine (h.kids q hq').of (fun m' hm' => hoth q hq' m' (by simp [Nd.blocks, hm']) ?_) (Nat.le_refl _) (fun y => ?_)
      · rintro rfl
        exact e (h.inj q hq' p hp m' (by simp [Nd.blocks, hm']) hmp)
      · rw [hkid, if_neg (fun e' => e (app_inj e').1)]
  · have hq' := hin q hq
    refine (h.cls q hq').of (fun m' hm' => hoth q hq' m' (by simp [Nd.blocks, hm']) ?_) (Nat.le_refl _) (fun _ => rfl)
    rintro rfl
    have h2 : q = p := h.inj q hq' p hp m' (by simp [Nd.blocks, hm']) hmp
    subst h2
    have h1 := h.dis q hq'
    rw [Nd.blocks, hkb, hm'] at h1
    simp at h1
end
section
open Go Go.RowKit Go.Maps

/-- the trie, behind a start whose blocks F0 (and new ones) alone were turned -/
structure TS (w0 : World) (F0 : List Nat) (w : World) (t B : Nat) (hn nn : Int) (nd : Path → Nd) (Ns : List Path) (Hs : List (Path × Str)) : Prop where
  rep : MemRep w t B hn nn nd Ns Hs
  mod : Mod F0 w0 w
  ft : ∀ p ∈ Ns, ∀ k ∈ (nd p).blocks, k ∈ F0 ∨ w0.heap.size ≤ k
variable {w0 w : World} {F0 : List Nat} {t B : Nat} {hn nn : Int} {nd : Path → Nd} {Ns : List Path} {Hs : List (Path × Str)}
theorem TS.below {w' : World} (h : TS w0 F0 w t B hn nn nd Ns Hs) (hk : Below w.heap.size w w') : TS w0 F0 w' t B hn nn nd Ns Hs :=
  ⟨h.rep.keep (fun p hp k hk' => hk.block k (h.rep.lt p hp k hk')), h.mod.next hk, h.ft⟩
theorem TS.drewN (h : TS w0 F0 w t B hn nn nd Ns Hs) (n : Nat) : TS w0 F0 (w.drewN n) t B hn nn nd Ns Hs := h.below (below_drewN (Below.refl _ _) n)
theorem TS.modS {w' : World} {S : List Nat} (h : TS w0 F0 w t B hn nn nd Ns Hs) (hm : Mod S w w') (hS : ∀ k ∈ S, ∃ p ∈ Ns, k ∈ (nd p).blocks) : Mod F0 w0 w' :=
  h.mod.trans hm fun k hk => by obtain ⟨p, hp, hkp⟩ := hS k hk; exact h.ft p hp k hkp
theorem blocks_b (n : Nd) : n.b ∈ n.blocks := by simp [Nd.blocks]
theorem blocks_kb {n : Nd} {m : Nat} (h : n.kb = some m) : m ∈ n.blocks := by simp [Nd.blocks, h]
theorem blocks_cb {n : Nd} {m : Nat} (h : n.cb = some m) : m ∈ n.blocks := by simp [Nd.blocks, h]

/-- one node's own blocks are turned -/
theorem TS.turn {w' : World} {B' : Nat} {hn' nn' : Int} {Hs' : List (Path × Str)} (h : TS w0 F0 w t B hn nn nd Ns Hs) {p : Path} (hp : p ∈ Ns) (n' : Nd) (hb : n'.b = (nd p).b) (hB : B ≤ B')
    (hm : Mod (nd p).blocks w w') (hcell : w'.heap[(nd p).b]? = some (.cells (n'.cells p hn' nn') (Nd.ty p) (0, 0))) (hk : KidsAt w' B' n'.kb (kidOf nd Ns p)) (hc : ClAt w' B' n'.cb (fun c => decide ((p, c) ∈ Hs')))
    (hnew : ∀ k ∈ n'.blocks, k ∈ (nd p).blocks ∨ w.heap.size ≤ k) (hdis : n'.blocks.Nodup) (hroot : p ≠ [] → hn' = hn ∧ nn' = nn) (hHs : ∀ q c, q ≠ p → ((q, c) ∈ Hs' ↔ (q, c) ∈ Hs)) :
    TS w0 F0 w' t B' hn' nn' (updN nd p n') Ns Hs' := by
  refine ⟨h.rep.turn hp n' hb hB hm hcell hk hc hnew hdis hroot hHs, h.modS hm (fun k hk => ⟨p, hp, hk⟩), fun q hq k hk => ?_⟩
  by_cases e : q = p
  · subst e
    rw [updN_same] at hk
    rcases hnew k hk with h1 | h1
    · exact h.ft q hq k h1
    · right; have := h.mod.size; omega
  · rw [updN_other e] at hk; exact h.ft q hq k hk
theorem cells_set0 {n : Nd} {p : Path} {v : Option Nat} : (n.cells p hn nn).setIfInBounds 0 (.map v) = ({ n with kb := v } : Nd).cells p hn nn := by
  unfold Nd.cells; split <;> rfl
theorem cells_set1 {n : Nd} {p : Path} {v : Option Nat} : (n.cells p hn nn).setIfInBounds 1 (.map v) = ({ n with cb := v } : Nd).cells p hn nn := by
  unfold Nd.cells; split <;> rfl
theorem mod_new (w : World) (o : Obj) (b : Nat) (off : Nat) (v : Value) (S : List Nat) (hb : b ∈ S) : Mod S w ((w.alloc o).setCell ⟨b, off, none⟩ v) := ((Mod.refl S w).alloc o).setCell (.inl hb) v

/-- 'n.kids = map[string]*node{}' -/
theorem TS.newKids (h : TS w0 F0 w t B hn nn nd Ns Hs) {p : Path} (hp : p ∈ Ns) (hkb : (nd p).kb = none) :
    TS w0 F0 ((w.alloc (.map #[] 0)).setCell ⟨(nd p).b, 0, none⟩ (.map (some w.heap.size))) t B hn nn (updN nd p { nd p with kb := some w.heap.size }) Ns Hs := by
  have hlt := h.rep.lt p hp
  have hbl := hlt _ (blocks_b _)
  have hc0 : (w.alloc (.map #[] 0)).heap[(nd p).b]? = some (.cells ((nd p).cells p hn nn) (Nd.ty p) (0, 0)) := (Below.heap_alloc _ _ _ hbl).trans (h.rep.cell p hp)
  have hd := h.rep.dis p hp
  have hkn : ∀ x, kidOf nd Ns p x = none := by have := h.rep.kids p hp; rw [hkb] at this; exact this
  refine h.turn hp { nd p with kb := some w.heap.size } rfl (Nat.le_refl _) (mod_new w _ _ _ _ _ (blocks_b _)) ?_ ?_ ?_ ?_ ?_ (fun _ => ⟨rfl, rfl⟩) (fun _ _ _ => Iff.rfl)
  · rw [heap_setCell_same _ _ 0 _ _ _ hc0, cells_set0]
  · refine ⟨.map [], ?_, Nat.zero_le _, fun x => ⟨by rw [hkn]; rfl, fun b hb => by rw [hkn] at hb; cases hb⟩⟩
    exact (World.ownsMap_made w _ _ _).setCell (a := ⟨(nd p).b, 0, none⟩) (by show w.heap.size ≠ (nd p).b; omega) _
  · refine (h.rep.cls p hp).of (fun m hm => ?_) (Nat.le_refl _) (fun _ => rfl)
    have hml := hlt m (blocks_cb hm)
    rw [Below.heap_setCell _ _ _ _ ?_, Below.heap_alloc _ _ _ hml]
    show m ≠ (nd p).b
    rintro rfl
    rw [Nd.blocks, hm] at hd
    simp at hd
  · intro k hk
    simp only [Nd.blocks, Option.toList_some, List.cons_append, List.nil_append, List.mem_cons] at hk ⊢
    rcases hk with h1 | h1 | h1
    · exact .inl (.inl h1)
    · exact .inr (by omega)
    · exact .inl (.inr (List.mem_append.2 (.inr h1)))
  · rw [Nd.blocks, hkb] at hd
    simp only [Nd.blocks, Option.toList_some, Option.toList_none, List.nil_append, List.cons_append, List.nodup_cons, List.mem_cons, not_or] at hd ⊢
    refine ⟨⟨by omega, hd.1⟩, fun hk => ?_, hd.2⟩
    have := hlt w.heap.size (by simp only [Nd.blocks, List.mem_cons, List.mem_append]; exact .inr (.inr hk))
    omega
/-- 'n.clients = map[string]mark{}' -/
theorem TS.newCl (h : TS w0 F0 w t B hn nn nd Ns Hs) {p : Path} (hp : p ∈ Ns) (hcb : (nd p).cb = none) :
    TS w0 F0 ((w.alloc (.map #[] 0)).setCell ⟨(nd p).b, 1, none⟩ (.map (some w.heap.size))) t B hn nn (updN nd p { nd p with cb := some w.heap.size }) Ns Hs := by
  have hlt := h.rep.lt p hp
  have hbl := hlt _ (blocks_b _)
  have hc0 : (w.alloc (.map #[] 0)).heap[(nd p).b]? = some (.cells ((nd p).cells p hn nn) (Nd.ty p) (0, 0)) := (Below.heap_alloc _ _ _ hbl).trans (h.rep.cell p hp)
  have hd := h.rep.dis p hp
  have hkn : ∀ c, decide ((p, c) ∈ Hs) = false := by have := h.rep.cls p hp; rw [hcb] at this; exact this
  refine h.turn hp { nd p with cb := some w.heap.size } rfl (Nat.le_refl _) (mod_new w _ _ _ _ _ (blocks_b _)) ?_ ?_ ?_ ?_ ?_ (fun _ => ⟨rfl, rfl⟩) (fun _ _ _ => Iff.rfl)
  · rw [heap_setCell_same _ _ 1 _ _ _ hc0, cells_set1]
  · refine (h.rep.kids p hp).of (fun m hm => ?_) (Nat.le_refl _) (fun _ => rfl)
    have hml := hlt m (blocks_kb hm)
    rw [Below.heap_setCell _ _ _ _ ?_, Below.heap_alloc _ _ _ hml]
    show m ≠ (nd p).b
    rintro rfl
    rw [Nd.blocks, hm] at hd
    simp at hd
  · refine ⟨.map [], ?_, Nat.zero_le _, fun x => (hkn x).symm⟩
    exact (World.ownsMap_made w _ _ _).setCell (a := ⟨(nd p).b, 1, none⟩) (by show w.heap.size ≠ (nd p).b; omega) _
  · intro k hk
    simp only [Nd.blocks, Option.toList_some, List.mem_cons, List.mem_append, List.not_mem_nil, or_false] at hk ⊢
    rcases hk with h1 | h1 | h1
    · exact .inl (.inl h1)
    · exact .inl (.inr (.inl h1))
    · exact .inr (by omega)
  · rw [Nd.blocks, hcb] at hd
    simp only [Nd.blocks, Option.toList_some, Option.toList_none, List.append_nil, List.nodup_cons, List.mem_append, List.mem_singleton, not_or, List.nodup_append] at hd ⊢
    refine ⟨⟨hd.1, by omega⟩, hd.2, by simp, fun a ha b hb e => ?_⟩
    have := hlt a (by simp only [Nd.blocks, List.mem_cons, List.mem_append]; exact .inr (.inl ha))
    omega
/-- 'n.kids[x] = &node{}' -/
theorem TS.addKid (h : TS w0 F0 w t B hn nn nd Ns Hs) {p : Path} (hp : p ∈ Ns) {x : Str} (hx : p ++ [x] ∉ Ns) (hx2 : ∀ y, p ++ [x] ++ [y] ∉ Ns) (hHs : ∀ c, (p ++ [x], c) ∉ Hs)
    {m n : Nat} (hkb : (nd p).kb = some m) {D : DataW Unit} (hD1 : w.ownsMap Tryz.prog 9 ptrElem m (Maps.size D) D) (hD2 : Maps.size D ≤ B) (hD3 : ∀ x, Maps.has D (.string x) = (kidOf nd Ns p x).isSome ∧ ∀ b, kidOf nd Ns p x = some b → ∀ z, D.atKey (.string x) z = ptrDat b)
    {w2 : World} (hown2 : w2.ownsMap Tryz.prog 9 ptrElem m n (D.put (.string x) (ptrDat w.heap.size))) (hg : (w.alloc (.cells #[.map none, .map none] 105)).grownBy w2 (some m)) :
    TS w0 F0 w2 t (B + 1) hn nn (updN nd (p ++ [x]) ⟨w.heap.size, none, none⟩) ((p ++ [x]) :: Ns) Hs := by
  have hT := hD1.tidy kS
  have hm : Mod [m] w w2 := ((Mod.refl [m] w).alloc _).grown hg (fun k hk => by cases hk; left; simp)
  have hml := h.rep.lt p hp m (blocks_kb hkb)
  refine ⟨h.rep.addKid hp hx hx2 hHs hkb (Nat.le_succ _) hm (Nat.le_refl _) ?_ ?_, h.modS hm (fun k hk => ⟨p, hp, by obtain rfl := List.mem_singleton.1 hk; exact blocks_kb hkb⟩), fun q hq k hk => ?_⟩
  · rw [hg.block _ (by simp) (by simp; omega)]; exact heap_alloc_new w _
  · refine ⟨_, owns_tightR hown2, ?_, fun y => ?_⟩
    · rw [size_put hT]
      split <;> omega
    · by_cases e : y = x
      · subst e
        refine ⟨by rw [has_put_same hT.isMap (klS _)]; simp, fun b hb z => ?_⟩
        simp only [if_true, Option.some.injEq] at hb
        rw [atKey_put_same hT.isMap (klS _), hb]
      · refine ⟨by rw [has_put_other (by simpa using e)]; simp only [if_neg e]; exact (hD3 y).1, fun b hb z => ?_⟩
        simp only [if_neg e] at hb
        rw [atKey_put_other (by simpa using e)]
        exact (hD3 y).2 b hb z
  · rcases List.mem_cons.1 hq with rfl | hq1
    · rw [updN_same] at hk
      obtain rfl := List.mem_singleton.1 (show k ∈ [w.heap.size] from hk)
      exact .inr h.mod.size
    · rw [updN_other (show q ≠ p ++ [x] from fun e => hx (by rw [← e]; exact hq1))] at hk
      exact h.ft q hq1 k hk
/-- 'n.clients[client] = mark{}' -/
theorem TS.addCl (h : TS w0 F0 w t B hn nn nd Ns Hs) {p : Path} (hp : p ∈ Ns) {c : Str} {m n : Nat} (hcb : (nd p).cb = some m) {D : DataW Unit} (hD1 : w.ownsMap Tryz.prog 9 unitElem m (Maps.size D) D) (hD2 : Maps.size D ≤ B) (hD3 : ∀ x, Maps.has D (.string x) = decide ((p, x) ∈ Hs))
    {w2 : World} (hown2 : w2.ownsMap Tryz.prog 9 unitElem m n (D.put (.string c) (.agg []))) (hg : w.grownBy w2 (some m)) :
    TS w0 F0 w2 t (B + 1) hn nn nd Ns ((p, c) :: Hs) := by
  have hT := hD1.tidy kS
  have hm : Mod [m] w w2 := (Mod.refl [m] w).grown hg (fun k hk => by cases hk; left; simp)
  have hd := h.rep.dis p hp
  have hbne : (nd p).b ≠ m := by
    intro e
    rw [Nd.blocks, hcb, e] at hd
    simp at hd
  have e := h.turn (w' := w2) (B' := B + 1) (hn' := hn) (nn' := nn) (Hs' := (p, c) :: Hs) hp (nd p) rfl (Nat.le_succ _) (hm.mono (fun k hk => by obtain rfl := List.mem_singleton.1 hk; exact blocks_cb hcb)) ?_ ?_ ?_ (fun k hk => .inl hk) hd (fun _ => ⟨rfl, rfl⟩) (fun q d hq => by simp [hq])
  · have : updN nd p (nd p) = nd := by
      funext q
      by_cases e : q = p
      · rw [e, updN_same]
      · rw [updN_other e]
    rw [this] at e
    exact e
  · rw [hm.block _ (h.rep.lt p hp _ (blocks_b _)) (by simpa using hbne)]; exact h.rep.cell p hp
  · refine (h.rep.kids p hp).of (fun m' hm' => hm.block _ (h.rep.lt p hp _ (blocks_kb hm')) ?_) (Nat.le_succ _) (fun _ => rfl)
    simp only [List.mem_singleton]
    rintro rfl
    rw [Nd.blocks, hcb, hm'] at hd
    simp at hd
  · rw [hcb]
    refine ⟨_, owns_tightR hown2, ?_, fun y => ?_⟩
    · rw [size_put hT]
      split <;> omega
    · by_cases e : y = c
      · subst e; rw [has_put_same hT.isMap (klS _)]; simp
      · rw [has_put_other (by simpa using e), hD3]
        simp [e]
/-- 'delete(n.clients, client)' -/
theorem TS.delCl (h : TS w0 F0 w t B hn nn nd Ns Hs) {p : Path} (hp : p ∈ Ns) {c : Str} {m n : Nat} (hcb : (nd p).cb = some m) {D : DataW Unit} (hD1 : w.ownsMap Tryz.prog 9 unitElem m (Maps.size D) D) (hD2 : Maps.size D ≤ B) (hD3 : ∀ x, Maps.has D (.string x) = decide ((p, x) ∈ Hs))
    {w2 : World} (hown2 : w2.ownsMap Tryz.prog 9 unitElem m n (D.del (.string c))) (hg : w.grownBy w2 (some m)) (hnd : Hs.Nodup) :
    TS w0 F0 w2 t B hn nn nd Ns (Hs.erase (p, c)) := by
  have hT := hD1.tidy kS
  have hm : Mod [m] w w2 := (Mod.refl [m] w).grown hg (fun k hk => by cases hk; left; simp)
  have hd := h.rep.dis p hp
  have hbne : (nd p).b ≠ m := by
    intro e
    rw [Nd.blocks, hcb, e] at hd
    simp at hd
  have e := h.turn (w' := w2) (B' := B) (hn' := hn) (nn' := nn) (Hs' := Hs.erase (p, c)) hp (nd p) rfl (Nat.le_refl _) (hm.mono (fun k hk => by obtain rfl := List.mem_singleton.1 hk; exact blocks_cb hcb)) ?_ ?_ ?_ (fun k hk => .inl hk) hd (fun _ => ⟨rfl, rfl⟩) (fun q d hq => by rw [hnd.mem_erase_iff]; simp [hq])
  · have : updN nd p (nd p) = nd := by
      funext q
      by_cases e : q = p
      · rw [e, updN_same]
      · rw [updN_other e]
    rw [this] at e
    exact e
  · rw [hm.block _ (h.rep.lt p hp _ (blocks_b _)) (by simpa using hbne)]; exact h.rep.cell p hp
  · refine (h.rep.kids p hp).of (fun m' hm' => hm.block _ (h.rep.lt p hp _ (blocks_kb hm')) ?_) (Nat.le_refl _) (fun _ => rfl)
    simp only [List.mem_singleton]
    rintro rfl
    rw [Nd.blocks, hcb, hm'] at hd
    simp at hd
  · rw [hcb]
    refine ⟨_, owns_tightR hown2, ?_, fun y => ?_⟩
    · have := size_del (k := .string c) hT
      omega
    · by_cases e : y = c
      · subst e; rw [has_del_same]; simp [hnd.mem_erase_iff]
      · rw [has_del_other (by simpa using e), hD3, decide_eq_decide, hnd.mem_erase_iff]
        simp [e]
/-- 'delete(n.kids, x)' -/
theorem TS.dropKid (h : TS w0 F0 w t B hn nn nd Ns Hs) {p : Path} (hp : p ∈ Ns) {x : Str} {m n : Nat} (hkb : (nd p).kb = some m) {D : DataW Unit} (hD1 : w.ownsMap Tryz.prog 9 ptrElem m (Maps.size D) D) (hD2 : Maps.size D ≤ B)
    (hD3 : ∀ x, Maps.has D (.string x) = (kidOf nd Ns p x).isSome ∧ ∀ b, kidOf nd Ns p x = some b → ∀ z, D.atKey (.string x) z = ptrDat b)
    {w2 : World} (hown2 : w2.ownsMap Tryz.prog 9 ptrElem m n (D.del (.string x))) (hg : w.grownBy w2 (some m)) :
    TS w0 F0 w2 t B hn nn nd (Ns.filter fun q => q != p ++ [x]) Hs := by
  have hT := hD1.tidy kS
  have hm : Mod [m] w w2 := (Mod.refl [m] w).grown hg (fun k hk => by cases hk; left; simp)
  refine ⟨h.rep.dropKid hp hkb hm ?_, h.modS hm (fun k hk => ⟨p, hp, by obtain rfl := List.mem_singleton.1 hk; exact blocks_kb hkb⟩), fun q hq k hk => h.ft q (List.mem_filter.1 hq).1 k hk⟩
  refine ⟨_, owns_tightR hown2, ?_, fun y => ?_⟩
  · have := size_del (k := .string x) hT
    omega
  · by_cases e : y = x
    · subst e
      refine ⟨by rw [has_del_same]; simp, fun b hb => by simp at hb⟩
    · refine ⟨by rw [has_del_other (by simpa using e)]; simp only [if_neg e]; exact (hD3 y).1, fun b hb z => ?_⟩
      simp only [if_neg e] at hb
      rw [atKey_del_other (by simpa using e)]
      exact (hD3 y).2 b hb z
/-- 't.hints', 't.nodes' are set -/
theorem TS.count (h : TS w0 F0 w t B hn nn nd Ns Hs) (o : Nat) (v : Int) (ho : o = 2 ∨ o = 3) :
    TS w0 F0 (w.setCell ⟨t, o, none⟩ (.int .i64 v)) t B (if o = 2 then v else hn) (if o = 3 then v else nn) nd Ns Hs := by
  have h0 := h.rep.has0
  have hd := h.rep.dis [] h0
  have hr := h.rep.root
  have hm : Mod [t] w (w.setCell ⟨t, o, none⟩ (.int .i64 v)) := (Mod.refl [t] w).setCell (.inl (by simp)) _
  have hc := h.rep.cell [] h0
  rw [hr] at hc
  have e := h.turn (w' := w.setCell ⟨t, o, none⟩ (.int .i64 v)) (B' := B) (hn' := if o = 2 then v else hn) (nn' := if o = 3 then v else nn) (Hs' := Hs) h0 (nd []) rfl (Nat.le_refl _) (hm.mono (fun k hk => by obtain rfl := List.mem_singleton.1 hk; rw [← hr]; exact blocks_b _)) ?_ ?_ ?_ (fun k hk => .inl hk) hd (fun h => absurd rfl h) (fun _ _ _ => Iff.rfl)
  · have : updN nd [] (nd []) = nd := by
      funext q
      by_cases e : q = []
      · rw [e, updN_same]
      · rw [updN_other e]
    rw [this] at e
    exact e
  · rw [hr, heap_setCell_same w t o _ _ _ hc]
    rcases ho with rfl | rfl <;> rfl
  · refine (h.rep.kids [] h0).of (fun m' hm' => ?_) (Nat.le_refl _) (fun _ => rfl)
    rw [Below.heap_setCell]
    show m' ≠ t
    rintro rfl
    rw [Nd.blocks, hr, hm'] at hd
    simp at hd
  · refine (h.rep.cls [] h0).of (fun m' hm' => ?_) (Nat.le_refl _) (fun _ => rfl)
    rw [Below.heap_setCell]
    show m' ≠ t
    rintro rfl
    rw [Nd.blocks, hr, hm'] at hd
    simp at hd
end
end Go.Proofs.YthfdcphecggjeaaGreatDoor
