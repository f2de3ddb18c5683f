/- Topic names and filters, as plain functions on bytes. No program in sight. -/
import Derived.Test.YtcnjgenacpkdbaaDoorTUtf
import Derived.Lib.Split
import Derived.Lib.SplitLaws
import Derived.Lib.IndexAny
namespace Go.Proofs.YtcnjgenacpkdbaaDoor
open Go

def levels : List UInt8 → List (List UInt8)
  | [] => [[]]
  | c :: r => if c = 47 then [] :: levels r else (c :: (levels r).headD []) :: (levels r).tail
theorem levels_ne (l : List UInt8) : levels l ≠ [] := by
  cases l with
  | nil => simp [levels]
  | cons c r => unfold levels; split <;> simp
theorem levels_cons_sep (r : List UInt8) : levels (47 :: r) = [] :: levels r := by simp [levels]
theorem levels_cons {c : UInt8} (h : c ≠ 47) {r x : List UInt8} {t : List (List UInt8)} (hr : levels r = x :: t) : levels (c :: r) = (c :: x) :: t := by simp [levels, h, hr]
theorem levels_snoc_sep (l : List UInt8) : levels (l ++ [47]) = levels l ++ [[]] := by
  induction l with
  | nil => simp [levels]
  | cons c r ih =>
    by_cases h : c = 47
    · subst h; rw [List.cons_append, levels_cons_sep, levels_cons_sep, ih]; rfl
    · obtain ⟨x, t, hx⟩ := List.exists_cons_of_ne_nil (levels_ne r)
      rw [List.cons_append, levels_cons h hx, levels_cons h (x := x) (t := t ++ [[]]) (by rw [ih, hx]; rfl)]; rfl
theorem levels_snoc {c : UInt8} (hc : c ≠ 47) (l : List UInt8) : ∀ (t : List (List UInt8)) (x : List UInt8), levels l = t ++ [x] → levels (l ++ [c]) = t ++ [x ++ [c]] := by
  induction l with
  | nil =>
    intro t x h
    have : t = [] ∧ x = [] := by
      cases t with
      | nil => simp [levels] at h; simp [h]
      | cons a t => simp [levels] at h
    obtain ⟨rfl, rfl⟩ := this
    simp [levels, hc]
  | cons d r ih =>
    intro t x h
    by_cases hd : d = 47
    · subst hd
      rw [levels_cons_sep] at h
      rw [List.cons_append, levels_cons_sep]
      cases t with
      | nil =>
        simp at h
        exact absurd h.2 (levels_ne r)
      | cons a t =>
        simp at h
        obtain ⟨rfl, h⟩ := h
        rw [ih t x h]; rfl
    · obtain ⟨y, s, hy⟩ := List.exists_cons_of_ne_nil (levels_ne r)
      rw [levels_cons hd hy] at h
      rw [List.cons_append]
      cases t with
      | nil =>
        simp at h
        obtain ⟨rfl, rfl⟩ := h
        have := ih [] y hy
        rw [levels_cons hd this]; rfl
      | cons a t =>
        simp at h
        obtain ⟨rfl, rfl⟩ := h
        have := ih (y :: t) x hy
        rw [levels_cons hd (x := y) (t := t ++ [x ++ [c]]) (by rw [this]; rfl)]; rfl
theorem levels_len_le (l : List UInt8) : (levels l).length ≤ l.length + 1 := by
  induction l with
  | nil => simp [levels]
  | cons c r ih =>
    by_cases h : c = 47
    · subst h; rw [levels_cons_sep]; simp; omega
    · obtain ⟨x, t, hx⟩ := List.exists_cons_of_ne_nil (levels_ne r)
      rw [levels_cons h hx]; rw [hx] at ih; simp at ih ⊢; omega
/-- how long all levels are together -/
theorem levels_sum (l : List UInt8) : ∀ x ∈ levels l, x.length ≤ l.length := by
  induction l with
  | nil => simp [levels]
  | cons c r ih =>
    by_cases h : c = 47
    · subst h; rw [levels_cons_sep]
      intro x hx
      rcases List.mem_cons.1 hx with rfl | hx
      · simp
      · have := ih x hx; simp; omega
    · obtain ⟨y, t, hy⟩ := List.exists_cons_of_ne_nil (levels_ne r)
      rw [levels_cons h hy]
      rw [hy] at ih
      intro x hx
      rcases List.mem_cons.1 hx with rfl | hx
      · have := ih y (by simp); simp; omega
      · have := ih x (by simp [hx]); simp; omega

theorem index_sep (r : List UInt8) : Lib.index (47 :: r) [47] = 0 := by unfold Lib.index; simp
theorem index_cons {c : UInt8} (h : c ≠ 47) (r : List UInt8) : Lib.index (c :: r) [47] = if Lib.index r [47] == -1 then -1 else Lib.index r [47] + 1 := by
  conv => lhs; unfold Lib.index
  have : ([47] : List UInt8).isPrefixOf (c :: r) = false := by simp [List.isPrefixOf]; exact fun e => h e.symm
  rw [this]; simp
theorem splitK_levels (l : List UInt8) : Lib.splitK [47] 0 (Lib.count l [47]) l = levels l := by
  induction l with
  | nil => rw [Lib.count_miss (by rfl)]; rfl
  | cons c r ih =>
    by_cases h : c = 47
    · subst h
      have h0 := index_sep r
      rw [Lib.count_hit (i := 0) (by simp) h0, Nat.add_comm, Lib.splitK, levels_cons_sep, h0]
      have hz : ((0 : Int) == -1) = false := by decide
      simp [hz, ih]
    · have hi := index_cons h r
      rcases Lib.index_spec r [47] with ⟨hm, _⟩ | ⟨i, hm, _⟩
      · rw [hm] at hi
        rw [Lib.count_miss hm] at ih
        rw [Lib.count_miss (by simpa using hi)]
        have e : levels r = [r] := ih.symm
        rw [levels_cons h e]; rfl
      · have hne : (Lib.index r [47] == -1) = false := by rw [hm, beq_eq_false_iff_ne]; omega
        rw [hne] at hi
        have hi' : Lib.index (c :: r) [47] = ((i + 1 : Nat) : Int) := by rw [hi, hm]; simp
        rw [Lib.count_hit (i := i) (by simp) hm, Nat.add_comm, Lib.splitK, hm] at ih
        rw [Lib.count_hit (i := i + 1) (by simp) hi', Nat.add_comm, Lib.splitK, hi']
        have z1 : ((((i : Nat) : Int)) == -1) = false := by rw [beq_eq_false_iff_ne]; omega
        have z2 : ((((i + 1 : Nat) : Int)) == -1) = false := by rw [beq_eq_false_iff_ne]; omega
        rw [z1] at ih
        rw [z2]
        simp only [Bool.false_eq_true, if_false, Int.toNat_natCast, List.length_singleton, Nat.add_zero] at ih ⊢
        rw [levels_cons h ih.symm]
        simp [List.take_succ_cons, List.drop_succ_cons]

/-- is a byte wild? -/
def wildc (c : UInt8) : Bool := c == 43 || c == 35
def plainB (l : List UInt8) : Bool := l.all fun c => !wildc c
def validB (l : List UInt8) : Bool := decide (0 ≤ cntI l)
def nameB (l : List UInt8) : Bool := !l.isEmpty && validB l && plainB l
def levelB (x : List UInt8) (last : Bool) : Bool := x == [43] || (x == [35] && last) || plainB x
def levelsB : List (List UInt8) → Bool
  | [] => true
  | x :: t => levelB x t.isEmpty && levelsB t
def filterB (l : List UInt8) : Bool := !l.isEmpty && validB l && levelsB (levels l)
def wildB (l : List UInt8) : Bool := (levels l).headD [] == [43] || (levels l).headD [] == [35]
def coversL : List (List UInt8) → List (List UInt8) → Bool
  | [], b => b.isEmpty
  | x :: a, b => x == [35] || match b with
    | [] => false
    | y :: b => y != [35] && (x == [43] || x == y) && coversL a b
def coversB (a b : List UInt8) : Bool := filterB a && filterB b && !(wildB a && b.headD 0 == 36) && coversL (levels a) (levels b)
def matchB (f n : List UInt8) : Bool := nameB n && coversB f n
end Go.Proofs.YtcnjgenacpkdbaaDoor
