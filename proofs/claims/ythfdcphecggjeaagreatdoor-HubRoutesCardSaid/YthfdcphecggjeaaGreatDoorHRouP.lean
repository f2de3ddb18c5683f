/- The hub's laws: who is told by a Route. No program in sight. -/
import Derived.Test.YthfdcphecggjeaaGreatDoorQX
namespace Go.Proofs.YthfdcphecggjeaaGreatDoor
open Go

def toldM (H : List HMail) : List Str := H.flatMap (·.clients)
theorem at1_count (n : Nat) (cs : List Str) (c : Str) (k : Nat) : (at1 n cs k).count c = if homeN n c = k then cs.count c else 0 := by
  unfold at1
  by_cases h : homeN n c = k
  · rw [if_pos h, List.count_filter (by simpa using h)]
  · rw [if_neg h, List.count_eq_zero]
    intro hm
    exact h (by simpa using (List.mem_filter.1 hm).2)
theorem send_told (n : Nat) (x : Item) (cs : List Str) (k : Nat) : toldM (sendM n x cs k) = (List.range k).flatMap (at1 n cs) := by
  induction k with
  | zero => rfl
  | succ k ih =>
    rw [sendM_succ, List.range_succ, List.flatMap_append, ← ih]
    unfold toldM
    rw [List.flatMap_append]
    congr 1
    by_cases h : (at1 n cs k).isEmpty = true
    · rw [if_pos h]; simpa using h
    · rw [if_neg h]; simp [toM]
theorem count_range (n : Nat) (cs : List Str) (c : Str) (k : Nat) : ((List.range k).flatMap (at1 n cs)).count c = if homeN n c < k then cs.count c else 0 := by
  induction k with
  | zero => simp
  | succ k ih =>
    rw [List.range_succ, List.flatMap_append, List.count_append, ih, List.flatMap_cons, List.flatMap_nil, List.append_nil, at1_count]
    by_cases h : homeN n c < k
    · rw [if_pos h, if_neg (by omega), if_pos (by omega)]; rfl
    · by_cases h2 : homeN n c = k
      · rw [if_neg h, if_pos h2, if_pos (by omega)]; omega
      · rw [if_neg h, if_neg h2, if_neg (by omega)]
/-- each client is told just once -/
theorem send_count {n : Nat} (h1 : 1 ≤ n) (h2 : n ≤ 64) (x : Item) {cs : List Str} (hc : cs.Nodup) (c : Str) : (toldM (sendM n x cs 64)).count c = if c ∈ cs then 1 else 0 := by
  rw [send_told, count_range, if_pos (Nat.lt_of_lt_of_le (homeN_lt h1 c) h2)]
  by_cases h : c ∈ cs
  · rw [if_pos h, hc.count, if_pos h]
  · rw [if_neg h, List.count_eq_zero.2 h]
theorem send_mem {n : Nat} {x : Item} {cs : List Str} {k : Nat} {h : HMail} (hm : h ∈ sendM n x cs k) : ∃ w, w < k ∧ at1 n cs w ≠ [] ∧ h = toM n x cs w := by
  unfold sendM at hm
  obtain ⟨w, hw, rfl⟩ := List.mem_map.1 hm
  obtain ⟨h1, h2⟩ := List.mem_filter.1 hw
  exact ⟨w, List.mem_range.1 h1, by simpa using h2, rfl⟩
theorem send_up (n : Nat) (x : Item) (cs : List Str) (k : Nat) : (sendM n x cs k).Pairwise fun a b => a.dest < b.dest := by
  unfold sendM
  rw [List.pairwise_map]
  refine List.Pairwise.imp ?_ (List.pairwise_lt_range.filter _)
  intro a b h
  show (a : Int) < b
  omega
theorem at1_home {n : Nat} {cs : List Str} {w : Nat} {c : Str} (h : c ∈ at1 n cs w) : homeN n c = w ∧ c ∈ cs := by
  unfold at1 at h
  obtain ⟨h1, h2⟩ := List.mem_filter.1 h
  exact ⟨by simpa using h2, h1⟩
theorem toldG_nodup (l : List Hint) (s : Str) : (toldG l s).Nodup := by
  refine List.Pairwise.imp ?_ (toldG_rising l s)
  rintro a b h rfl
  exact absurd h (by simp)
end Go.Proofs.YthfdcphecggjeaaGreatDoor
