/- Who is told of a name: the plain law. No program in sight. -/
import Derived.Test.YtcnjgenacpkdbaaDoorRPlain
namespace Go.Proofs.YtcnjgenacpkdbaaDoor
open Go

/-- is a client met on the way from p with levels r (hid: the wild ones are passed over at first)? -/
def tkB (Hs : List (Path × Str)) (c : Str) : Bool → Path → Path → Bool
  | hid, p, [] => (!hid && decide ((p ++ [[35]], c) ∈ Hs)) || decide ((p, c) ∈ Hs)
  | hid, p, x :: r => (!hid && decide ((p ++ [[35]], c) ∈ Hs)) || (!hid && tkB Hs c false (p ++ [[43]]) r) || tkB Hs c false (p ++ [x]) r
theorem tkB_mem {Hs : List (Path × Str)} {c : Str} : ∀ {r : Path} {hid : Bool} {p : Path}, tkB Hs c hid p r = true → ∃ q, p <+: q ∧ (q, c) ∈ Hs := by
  intro r
  induction r with
  | nil =>
    intro hid p h
    simp only [tkB, Bool.or_eq_true, Bool.and_eq_true, decide_eq_true_eq] at h
    rcases h with ⟨-, h⟩ | h
    · exact ⟨_, ⟨_, rfl⟩, h⟩
    · exact ⟨_, List.prefix_refl _, h⟩
  | cons x r ih =>
    intro hid p h
    simp only [tkB, Bool.or_eq_true, Bool.and_eq_true, decide_eq_true_eq] at h
    rcases h with (⟨-, h⟩ | ⟨-, h⟩) | h
    · exact ⟨_, ⟨_, rfl⟩, h⟩
    · obtain ⟨q, h1, h2⟩ := ih h
      exact ⟨q, List.IsPrefix.trans ⟨_, rfl⟩ h1, h2⟩
    · obtain ⟨q, h1, h2⟩ := ih h
      exact ⟨q, List.IsPrefix.trans ⟨_, rfl⟩ h1, h2⟩
theorem tkB_dead {Ns : List Path} {Hs : List (Path × Str)} (h : Tight Ns Hs) {c : Str} {hid : Bool} {p r : Path} (hp : p ∉ Ns) : tkB Hs c hid p r = false := by
  rw [Bool.eq_false_iff]
  intro ht
  obtain ⟨q, h1, h2⟩ := tkB_mem ht
  exact hp (h.up (h.hint h2) h1)
theorem dead_hint {Ns : List Path} {Hs : List (Path × Str)} (h : Tight Ns Hs) {c : Str} {p : Path} (hp : p ∉ Ns) : decide ((p, c) ∈ Hs) = false := by
  rw [decide_eq_false_iff_not]
  exact fun h' => hp (h.hint h')
/-- # stands only at a filter's end -/
theorem hash_end {p a : Path} (h : levelsB (p ++ [35] :: a) = true) : a = [] := by
  induction p with
  | nil =>
    cases a with
    | nil => rfl
    | cons y r => simp [levelsB, levelB, plainB, wildc] at h
  | cons x p ih =>
    rw [List.cons_append, levelsB, Bool.and_eq_true] at h
    exact ih h.2
/-- the way through the trie takes what the filters take -/
theorem tkB_iff {Hs : List (Path × Str)} (hv : ∀ h ∈ Hs, levelsB h.1 = true) {c : Str} : ∀ {r : Path} {hid : Bool} {p : Path}, (∀ y ∈ r, y ≠ [35] ∧ y ≠ [43]) →
    (tkB Hs c hid p r = true ↔ ∃ f, (p ++ f, c) ∈ Hs ∧ coversL f r = true ∧ (hid = true → f.headD [] ≠ [35] ∧ f.headD [] ≠ [43])) := by
  intro r
  induction r with
  | nil =>
    intro hid p _
    simp only [tkB, Bool.or_eq_true, Bool.and_eq_true, Bool.not_eq_true', decide_eq_true_eq]
    constructor
    · rintro (⟨h1, h2⟩ | h)
      · exact ⟨[[35]], h2, by simp [coversL], fun e => by rw [h1] at e; cases e⟩
      · exact ⟨[], by simpa using h, by simp [coversL], fun _ => by simp⟩
    · rintro ⟨f, h1, h2, h3⟩
      cases f with
      | nil => exact .inr (by simpa using h1)
      | cons x a =>
        simp only [coversL, Bool.or_false, beq_iff_eq] at h2
        subst h2
        obtain rfl := hash_end (hv _ h1)
        refine .inl ⟨?_, h1⟩
        cases hid with
        | false => rfl
        | true => exact absurd rfl (h3 rfl).1
  | cons y r ih =>
    intro hid p hr
    have hy := hr y (by simp)
    have hr' : ∀ z ∈ r, z ≠ [35] ∧ z ≠ [43] := fun z hz => hr z (by simp [hz])
    simp only [tkB, Bool.or_eq_true, Bool.and_eq_true, Bool.not_eq_true', decide_eq_true_eq, ih hr', Bool.false_eq_true, false_imp_iff, and_true]
    constructor
    · rintro ((⟨h1, h2⟩ | ⟨h1, f, h2, h3⟩) | ⟨f, h2, h3⟩)
      · exact ⟨[[35]], h2, by simp [coversL], fun e => by rw [h1] at e; cases e⟩
      · exact ⟨[43] :: f, by simpa using h2, by simp [coversL, h3, hy.1], fun e => by rw [h1] at e; cases e⟩
      · exact ⟨y :: f, by simpa using h2, by simp [coversL, h3, hy.1], fun _ => hy⟩
    · rintro ⟨f, h1, h2, h3⟩
      cases f with
      | nil => simp [coversL] at h2
      | cons x a =>
        simp only [coversL, Bool.or_eq_true, Bool.and_eq_true, beq_iff_eq, bne_iff_ne, ne_eq] at h2
        rcases h2 with rfl | ⟨⟨-, rfl | rfl⟩, h4⟩
        · obtain rfl := hash_end (hv _ h1)
          refine .inl (.inl ⟨?_, h1⟩)
          cases hid with
          | false => rfl
          | true => exact absurd rfl (h3 rfl).1
        · refine .inl (.inr ⟨?_, a, by simpa using h1, h4⟩)
          cases hid with
          | false => rfl
          | true => exact absurd rfl (h3 rfl).2
        · exact .inr ⟨a, by simpa using h1, h4⟩
theorem nodup_le {α : Type} [DecidableEq α] {l : List α} : ∀ {k : List α}, l.Nodup → (∀ x ∈ l, x ∈ k) → l.length ≤ k.length := by
  induction l with
  | nil => intro k _ _; simp
  | cons a r ih =>
    intro k hn h
    obtain ⟨h1, h2⟩ := List.nodup_cons.1 hn
    have := ih (k := k.erase a) h2 (fun x hx => (List.mem_erase_of_ne (fun (e : x = a) => h1 (by rw [← e]; exact hx))).2 (h x (by simp [hx])))
    have hl := List.length_erase_of_mem (h a (by simp))
    have hp := List.length_pos_of_mem (h a (by simp))
    simp only [List.length_cons]; omega
end Go.Proofs.YtcnjgenacpkdbaaDoor
