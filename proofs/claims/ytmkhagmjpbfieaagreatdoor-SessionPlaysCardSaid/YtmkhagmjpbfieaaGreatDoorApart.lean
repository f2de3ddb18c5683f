/- Things of several parts, each with blocks of its own. No program in sight. -/
import Derived.Test.YtmkhagmjpbfieaaGreatDoorMemX
namespace Go.Proofs.YtmkhagmjpbfieaaGreatDoor
open Go Go.RowKit

def Off (F G : List Nat) : Prop := ∀ k ∈ F, k ∉ G
theorem Off.symm {F G : List Nat} (h : Off F G) : Off G F := fun k hk hk' => h k hk' hk
/-- footprints that have no block in common -/
def Apart (Fs : List (List Nat)) : Prop := ∀ (i j : Nat) (A B : List Nat), i ≠ j → Fs[i]? = some A → Fs[j]? = some B → Off A B
theorem mem_flat {Fs : List (List Nat)} {i : Nat} {A : List Nat} (h : Fs[i]? = some A) {k : Nat} (hk : k ∈ A) : k ∈ Fs.flatten := List.mem_flatten.2 ⟨A, List.mem_of_getElem? h, hk⟩
theorem set_at {Fs : List (List Nat)} {i j : Nat} {A B : List Nat} (h : (Fs.set i A)[j]? = some B) : (j = i ∧ B = A) ∨ (j ≠ i ∧ Fs[j]? = some B) := by
  rw [List.getElem?_set] at h
  split at h
  · rename_i e
    split at h
    · exact .inl ⟨e.symm, (Option.some.inj h).symm⟩
    · cases h
  · rename_i e
    exact .inr ⟨fun h => e h.symm, h⟩
/-- one part is turned: the others stay, and all is apart as before -/
theorem Apart.set {Fs : List (List Nat)} (h : Apart Fs) {i : Nat} {A A' : List Nat} {w w1 w' : World} (hi : Fs[i]? = some A) (hb : w.heap.size ≤ w1.heap.size) (hu : Upd A A' w1 w') (hlt : ∀ k ∈ Fs.flatten, k < w.heap.size) :
    Apart (Fs.set i A') ∧ ∀ j B, j ≠ i → Fs[j]? = some B → ∀ k ∈ B, k ∉ A := by
  refine ⟨fun j j' B B' hj h1 h2 => ?_, fun j B hj hB k hk hk' => h j i B A hj hB hi k hk hk'⟩
  have new : ∀ q B, q ≠ i → Fs[q]? = some B → Off A' B := fun q B hq hB k hk hk' => by
    rcases hu.2 k hk with h3 | h3
    · exact h i q A B (fun e => hq e.symm) hi hB k h3 hk'
    · have := hlt k (mem_flat hB hk'); omega
  rcases set_at h1 with ⟨e1, b1⟩ | ⟨e1, h1⟩
  · rcases set_at h2 with ⟨e2, -⟩ | ⟨e2, h2⟩
    · exact absurd (e1.trans e2.symm) hj
    · rw [b1]; exact new j' B' e2 h2
  · rcases set_at h2 with ⟨e2, b2⟩ | ⟨e2, h2⟩
    · rw [b2]; exact (new j B e1 h1).symm
    · exact h j j' B B' hj h1 h2
theorem Upd.pre {F F' : List Nat} {w w1 w' : World} (hb : Below w.heap.size w w1) (hu : Upd F F' w1 w') : Upd F F' w w' :=
  ⟨(Mod.of_below hb F).trans hu.1 fun _ hk => .inl hk, fun k hk => (hu.2 k hk).imp id fun h => Nat.le_trans hb.size h⟩
theorem Upd.trans' {F F1 F2 : List Nat} {w w1 w2 : World} (h : Upd F F1 w w1) (hu : Upd F1 F2 w1 w2) : Upd F F2 w w2 :=
  ⟨h.1.trans hu.1 h.2, fun k hk => (hu.2 k hk).elim (h.2 k) fun h1 => .inr (Nat.le_trans h.1.size h1)⟩
theorem Upd.next {F F1 : List Nat} {w w1 w2 : World} (h : Upd F F1 w w1) (hb : Below w1.heap.size w1 w2) : Upd F F1 w w2 := ⟨h.1.next hb, h.2⟩
theorem Upd.refl (F : List Nat) (w : World) : Upd F F w w := ⟨Mod.refl _ _, fun _ h => .inl h⟩
theorem Upd.of_below {F : List Nat} {w w' : World} (hb : Below w.heap.size w w') : Upd F F w w' := ⟨Mod.of_below hb F, fun _ h => .inl h⟩
end Go.Proofs.YtmkhagmjpbfieaaGreatDoor
