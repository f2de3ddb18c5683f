/- Texts in rising rows. No program in sight. -/
import Derived.Test.YtcnjgenacpkdbaaDoorRMatchP
namespace Go.Proofs.YtcnjgenacpkdbaaDoor
open Go

theorem slt_tri {a b : Str} (h : ¬ a < b) (h' : a ≠ b) : b < a := by
  by_cases h2 : b < a
  · exact h2
  · exact absurd (List.le_antisymm (α := UInt8) (show a ≤ b from h2) (show b ≤ a from h)) h'
def Rising (l : List Str) : Prop := l.Pairwise (· < ·)
def putS (s : Str) : List Str → List Str
  | [] => [s]
  | y :: r => if y < s then y :: putS s r else if y = s then y :: r else s :: y :: r
theorem mem_putS {s x : Str} {l : List Str} : x ∈ putS s l ↔ x = s ∨ x ∈ l := by
  induction l with
  | nil => simp [putS]
  | cons y r ih =>
    unfold putS
    split
    · simp only [List.mem_cons, ih]
      constructor
      · rintro (h | h | h) <;> simp [h]
      · rintro (h | h | h) <;> simp [h]
    · split
      · rename_i h; subst h; simp
      · simp
theorem Rising.putS {s : Str} {l : List Str} (h : Rising l) : Rising (putS s l) := by
  induction l with
  | nil => exact List.pairwise_singleton _ _
  | cons y r ih =>
    obtain ⟨h1, h2⟩ := List.pairwise_cons.1 h
    unfold Go.Proofs.YtcnjgenacpkdbaaDoor.putS
    split
    · rename_i hlt
      refine List.pairwise_cons.2 ⟨fun z hz => ?_, ih h2⟩
      rcases mem_putS.1 hz with rfl | hz
      · exact hlt
      · exact h1 z hz
    · split
      · exact h
      · rename_i h3 h4
        refine List.pairwise_cons.2 ⟨fun z hz => ?_, h⟩
        have h5 := slt_tri h3 h4
        rcases List.mem_cons.1 hz with rfl | hz
        · exact h5
        · exact List.lt_trans h5 (h1 z hz)
theorem rising_ext {l m : List Str} (hl : Rising l) (hm : Rising m) (h : ∀ x, x ∈ l ↔ x ∈ m) : l = m := by
  have n1 : l.Nodup := hl.imp (fun h e => by subst e; exact List.lt_irrefl _ h)
  have n2 : m.Nodup := hm.imp (fun h e => by subst e; exact List.lt_irrefl _ h)
  exact List.Perm.eq_of_pairwise (le := fun a b => decide (a < b) = true) (fun a b _ _ h1 h2 => by simp only [decide_eq_true_eq] at h1 h2; exact absurd (List.lt_trans h1 h2) (List.lt_irrefl _)) (hl.imp (by simp)) (hm.imp (by simp)) ((List.perm_ext_iff_of_nodup n1 n2).2 h)
theorem rising_nodup {l : List Str} (hl : Rising l) : l.Nodup := hl.imp (fun h e => by subst e; exact List.lt_irrefl _ h)
/-- the texts that g takes, rising, each once -/
def tellL (g : Str → Bool) : List (Path × Str) → List Str
  | [] => []
  | h :: r => if g h.2 then putS h.2 (tellL g r) else tellL g r
theorem mem_tellL {g : Str → Bool} {c : Str} {Hs : List (Path × Str)} : c ∈ tellL g Hs ↔ g c = true ∧ ∃ q, (q, c) ∈ Hs := by
  induction Hs with
  | nil => simp [tellL]
  | cons h r ih =>
    obtain ⟨q, d⟩ := h
    unfold tellL
    by_cases hg : g d = true
    · rw [if_pos hg, mem_putS, ih]
      constructor
      · rintro (rfl | ⟨h1, q', h2⟩)
        · exact ⟨hg, q, by simp⟩
        · exact ⟨h1, q', by simp [h2]⟩
      · rintro ⟨h1, q', h2⟩
        rcases List.mem_cons.1 h2 with h2 | h2
        · exact .inl (by simpa using congrArg Prod.snd h2)
        · exact .inr ⟨h1, q', h2⟩
    · rw [if_neg hg, ih]
      constructor
      · rintro ⟨h1, q', h2⟩; exact ⟨h1, q', by simp [h2]⟩
      · rintro ⟨h1, q', h2⟩
        rcases List.mem_cons.1 h2 with h2 | h2
        · have e : c = d := by simpa using congrArg Prod.snd h2
          rw [e] at h1; exact absurd h1 hg
        · exact ⟨h1, q', h2⟩
theorem rising_tellL {g : Str → Bool} {Hs : List (Path × Str)} : Rising (tellL g Hs) := by
  induction Hs with
  | nil => exact List.Pairwise.nil
  | cons h r ih =>
    unfold tellL
    split
    · exact ih.putS
    · exact ih
theorem len_tellL {g : Str → Bool} {Hs : List (Path × Str)} : (tellL g Hs).length ≤ Hs.length := by
  have := nodup_le (k := Hs.map (·.2)) (rising_nodup (rising_tellL (g := g) (Hs := Hs))) (fun c hc => by obtain ⟨-, q, h⟩ := mem_tellL.1 hc; exact List.mem_map.2 ⟨_, h, rfl⟩)
  simpa using this
/-- the library's sort -/
theorem sort_rising {l m : List Str} (hm : Rising m) (h : l.Perm m) : (l.mergeSort fun x y => decide (x ≤ y)) = m := by
  have hp : ((l.mergeSort fun x y => decide (x ≤ y))).Pairwise (fun a b => decide (a ≤ b) = true) :=
    List.pairwise_mergeSort (fun a b c h1 h2 => by simp only [decide_eq_true_eq] at *; exact List.le_trans h1 h2) (fun a b => by have := List.le_total a b; simpa using this) l
  refine List.Perm.eq_of_pairwise (le := fun a b => decide (a ≤ b) = true) (fun a b _ _ h1 h2 => by simp only [decide_eq_true_eq] at *; exact List.le_antisymm h1 h2) hp
    (hm.imp (fun h => by simp only [decide_eq_true_eq]; exact List.le_of_lt h)) ((List.mergeSort_perm l _).trans h)
end Go.Proofs.YtcnjgenacpkdbaaDoor
