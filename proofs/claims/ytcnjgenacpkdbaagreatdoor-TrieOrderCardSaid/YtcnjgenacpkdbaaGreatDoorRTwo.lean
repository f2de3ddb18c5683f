/- The trie's laws: two tries side by side; hints in another order. No program in sight but the representation. -/
import Derived.Test.YtcnjgenacpkdbaaGreatDoorRSmall
namespace Go.Proofs.YtcnjgenacpkdbaaGreatDoor
open Go Go.RowKit

structure Two (w0 w : World) (n t : Nat) (Gs : List Hint) (N : Nat) (F : List Nat) (m u : Nat) (Us : List Hint) (M : Nat) (G : List Nat) : Prop where
  a : Tr w0 w n t Gs N F
  b : Tr w0 w m u Us M G
  dis : ∀ k ∈ F, k ∉ G
theorem Two.below {w0 w w' : World} {n t N m u M : Nat} {Gs Us : List Hint} {F G : List Nat} (h : Two w0 w n t Gs N F m u Us M G) (hk : Below w.heap.size w w') : Two w0 w' n t Gs N F m u Us M G := ⟨h.a.below hk, h.b.below hk, h.dis⟩
theorem Two.start {w0 w w' : World} {n t N m u M : Nat} {Gs Us : List Hint} {F G : List Nat} (h : Tr w0 w n t Gs N F) (hc : HR m w' u Us M G) (hu : Upd [] G w w') : Two w0 w' n t Gs N F m u Us M G := by
  refine ⟨⟨h.c.mod hu.1 (fun k _ => by simp), h.fF, (updb h.bel (Nat.le_refl _) (by simp) hu).1⟩, Tr.start h.bel hc hu, fun k hk hg => ?_⟩
  have := h.c.lt k hk
  rcases hu.2 k hg with h | h
  · cases h
  · omega
theorem Two.updB {w0 w w' : World} {n t N m u M m' M' : Nat} {Gs Us Us' : List Hint} {F G G' : List Nat} (h : Two w0 w n t Gs N F m u Us M G) (hc : HR m' w' u Us' M' G') (hu : Upd G G' w w') : Two w0 w' n t Gs N F m' u Us' M' G' := by
  have hb := h.b.upd hc hu
  refine ⟨⟨h.a.c.mod hu.1 h.dis, h.a.fF, hb.bel⟩, hb, fun k hk hg => ?_⟩
  have := h.a.c.lt k hk
  rcases hu.2 k hg with h' | h'
  · exact h.dis k hk h'
  · omega
theorem Two.symm {w0 w : World} {n t N m u M : Nat} {Gs Us : List Hint} {F G : List Nat} (h : Two w0 w n t Gs N F m u Us M G) : Two w0 w m u Us M G n t Gs N F := ⟨h.b, h.a, fun k hk hg => h.dis k hg hk⟩
theorem Beside.mod {w w' : World} {F G G' : List Nat} {a : Option Addr} {xs : List Value} (h : Beside w F a xs) (h' : Beside w G a xs) (hu : Upd G G' w w') : Beside w' F a xs := by
  rcases h with h | ⟨b, o, ha, h1, h2, h3⟩
  · exact .inl h
  · rcases h' with h' | ⟨b', o', ha', h1', h2', h3'⟩
    · exact .inl h'
    · rw [ha] at ha'
      cases ha'
      have hr := (Beside.upd (.inr ⟨b, o, ha, h1', h2, h3⟩) hu).row
      exact .inr ⟨b, o, ha, h1, Nat.lt_of_lt_of_le h2 hu.1.size, hr⟩

/-- a row from another place on -/
def rot (d : Nat) (l : List Hint) : List Hint := l.drop (d % l.length) ++ l.take (d % l.length)
theorem rot_perm (d : Nat) (l : List Hint) : (rot d l).Perm l := by
  have := (List.perm_append_comm (l₁ := l.drop (d % l.length)) (l₂ := l.take (d % l.length)))
  rwa [List.take_append_drop] at this
theorem rot_at {d : Nat} {l : List Hint} {i : Nat} (hi : i < l.length) (hk : (i + d) % l.length < l.length) : (rot d l)[i]? = some l[(i + d) % l.length] := by
  have hm : d % l.length < l.length := Nat.mod_lt _ (by omega)
  have he : (i + d) % l.length = (i + d % l.length) % l.length := by rw [Nat.add_mod, Nat.add_mod i (d % l.length), Nat.mod_mod]
  unfold rot
  generalize d % l.length = r at *
  by_cases h : i < l.length - r
  · rw [List.getElem?_append_left (by simp; omega), List.getElem?_drop]
    have : (i + d) % l.length = r + i := by rw [he, Nat.mod_eq_of_lt (by omega)]; omega
    simp only [this]
    exact List.getElem?_eq_getElem (by omega)
  · rw [List.getElem?_append_right (by simp; omega), List.length_drop, List.getElem?_take_of_lt (by omega)]
    have : (i + d) % l.length = i - (l.length - r) := by
      rw [he, show i + r = i - (l.length - r) + l.length by omega, Nat.add_mod_right, Nat.mod_eq_of_lt (by omega)]
    simp only [this]
    exact List.getElem?_eq_getElem (by omega)
theorem rot_len (d : Nat) (l : List Hint) : (rot d l).length = l.length := (rot_perm d l).length_eq
theorem rot_nodup {d : Nat} {l : List Hint} (h : HRising l) : (rot d l).Nodup := ((rot_perm d l).nodup_iff).2 (hrising_nodup h)

theorem mem_ofL {f c : Str} {l : List Hint} : f ∈ ofL c l ↔ (f, c) ∈ l := by
  unfold ofL
  simp only [List.mem_map, List.mem_filter, beq_iff_eq]
  constructor
  · rintro ⟨⟨a, b⟩, ⟨h, rfl⟩, rfl⟩; exact h
  · intro h; exact ⟨_, ⟨h, rfl⟩, rfl⟩
theorem turn_add {f c : Str} {l : List Hint} (h : HRising l) (hn : (f, c) ∉ l) : (insH (f, c) l).erase (f, c) = l :=
  hrising_ext (hrising_erase (hrising_insH h hn) _) h (((perm_insH (f, c) l).erase _).trans (by rw [List.erase_cons_head]))
theorem turn_rem {f c : Str} {l : List Hint} (h : HRising l) (hm : (f, c) ∈ l) : (f, c) ∉ l.erase (f, c) ∧ insH (f, c) (l.erase (f, c)) = l := by
  have hn : (f, c) ∉ l.erase (f, c) := fun e => by
    have := (List.Nodup.mem_erase_iff (hrising_nodup h)).1 e
    exact this.1 rfl
  exact ⟨hn, hrising_ext (hrising_insH (hrising_erase h _) hn) h ((perm_insH _ _).trans (List.perm_cons_erase hm).symm)⟩
end Go.Proofs.YtcnjgenacpkdbaaGreatDoor
