/- As the text of this name, but for a seat that lacks the functions of the document (TrieKnown). -/
import Derived.Test.YtcnjgenacpkdbaaDoorRSame
namespace Go.Proofs.YtcnjgenacpkdbaaDoor
open Go Go.RowKit
/-- a trie of the call's own -/
structure Tr (w0 w : World) (n t : Nat) (Gs : List Hint) (N : Nat) (F : List Nat) : Prop where
  c : HR n w t Gs N F
  fF : ∀ k ∈ F, w0.heap.size ≤ k
  bel : Below w0.heap.size w0 w
theorem updb {F F' : List Nat} {w w1 w2 : World} {B : Nat} (hb : Below B w w1) (hB : B ≤ w.heap.size) (hF : ∀ k ∈ F, B ≤ k) (hu : Upd F F' w1 w2) : Below B w w2 ∧ ∀ k ∈ F', B ≤ k :=
  ⟨hb.trans (hu.1.below (Nat.le_trans hB hb.size) hF), fun k hk => by
    rcases hu.2 k hk with h | h
    · exact hF k h
    · have := hb.size; omega⟩
theorem Tr.upd {w0 w w' : World} {n n' t t' N N' : Nat} {Gs Gs' : List Hint} {F F' : List Nat} (h : Tr w0 w n t Gs N F) (hc : HR n' w' t' Gs' N' F') (hu : Upd F F' w w') : Tr w0 w' n' t' Gs' N' F' := by
  obtain ⟨h1, h2⟩ := updb h.bel (Nat.le_refl _) h.fF hu
  exact ⟨hc, h2, h1⟩
theorem Tr.below {w0 w w' : World} {n t N : Nat} {Gs : List Hint} {F : List Nat} (h : Tr w0 w n t Gs N F) (hk : Below w.heap.size w w') : Tr w0 w' n t Gs N F := ⟨h.c.below hk, h.fF, h.bel.trans (hk.mono h.bel.size)⟩
theorem Tr.drewN {w0 w : World} {n t N : Nat} {Gs : List Hint} {F : List Nat} (h : Tr w0 w n t Gs N F) (m : Nat) : Tr w0 (w.drewN m) n t Gs N F := h.below (below_drewN (Below.refl _ _) m)
theorem Tr.start {w0 w w' : World} {n t N : Nat} {Gs : List Hint} {F : List Nat} (hb : Below w0.heap.size w0 w) (h : HR n w' t Gs N F) (hu : Upd [] F w w') : Tr w0 w' n t Gs N F := by
  obtain ⟨h1, h2⟩ := updb hb (Nat.le_refl _) (by simp) hu
  exact ⟨h, h2, h1⟩
theorem Tr.tabs {w0 w : World} {n t N : Nat} {Gs : List Hint} {F : List Nat} (h : Tr w0 w n t Gs N F) (hT : Tabs w0) : Tabs w := hT.below h.bel
theorem Tr.to {w0 w1 w : World} {n t N : Nat} {Gs : List Hint} {F : List Nat} (h : Tr w1 w n t Gs N F) (hb : Below w0.heap.size w0 w1) : Tr w0 w n t Gs N F :=
  ⟨h.c, fun k hk => Nat.le_trans hb.size (h.fF k hk), hb.trans (h.bel.mono hb.size)⟩
theorem Tr.more {w0 w : World} {n m t N : Nat} {Gs : List Hint} {F : List Nat} (h : Tr w0 w n t Gs N F) (hm : n ≤ m) : Tr w0 w m t Gs N F := ⟨h.c.more hm, h.fF, h.bel⟩

/-- a row beside what F holds -/
def Beside (w : World) (F : List Nat) (a : Option Addr) (xs : List Value) : Prop :=
  xs = [] ∨ ∃ b o, a = some ⟨b, o, none⟩ ∧ b ∉ F ∧ b < w.heap.size ∧ Row w a xs
theorem Beside.row {w : World} {F : List Nat} {a : Option Addr} {xs : List Value} (h : Beside w F a xs) : Row w a xs := by
  rcases h with h | ⟨b, o, -, -, -, h⟩
  · exact .inl h
  · exact h
theorem Beside.upd {w w' : World} {F F' : List Nat} {a : Option Addr} {xs : List Value} (h : Beside w F a xs) (hu : Upd F F' w w') : Beside w' F' a xs := by
  rcases h with h | ⟨b, o, ha, h1, h2, h3⟩
  · exact .inl h
  · refine .inr ⟨b, o, ha, fun hk => ?_, Nat.lt_of_lt_of_le h2 hu.1.size, ?_⟩
    · rcases hu.2 b hk with h | h
      · exact h1 h
      · omega
    · rcases h3 with h3 | ⟨b', o', ha', hc⟩
      · exact .inl h3
      · subst ha'
        cases ha
        exact .inr ⟨_, _, rfl, fun i v hi => by rw [World.cell?_of_block (w := w) (hu.1.block _ h2 h1)]; exact hc i v hi⟩
theorem Beside.below {w w' : World} {F : List Nat} {a : Option Addr} {xs : List Value} (h : Beside w F a xs) (hb : Below w.heap.size w w') : Beside w' F a xs := h.upd (upd_below hb)
theorem Beside.own {w : World} {F : List Nat} {v : Value} {m : Nat} {T : TypeId} {sz : Nat} {xs : List Value} {B : Nat} (h : w.ownsRow B T sz v m xs) (hF : ∀ k ∈ F, k < B) : ∃ a c, v = .slice a m c ∧ Beside w F a xs := by
  obtain ⟨a, c, rfl, hr, -, -⟩ := ownsRow_row h
  refine ⟨a, c, rfl, ?_⟩
  rcases h.2 with ⟨e, hn⟩ | ⟨g, cap, cur, e, hb, hg, -⟩
  · cases e
    rcases hr with hr | ⟨b, o, e, -⟩
    · exact .inl hr
    · cases e
  · cases e
    exact .inr ⟨g, 0, rfl, fun hk => by have := hF g hk; omega, (Array.getElem?_eq_some_iff.1 hg).1, hr⟩

theorem add_x (t N n : Nat) (s c : ByteArray) (b : Bool) (Gs Gs' : List Hint) (w0 : World) (F : List Nat) (w : World) (h : Tr w0 w n t Gs N F) (hT : Tabs w0) (hs : s.size ≤ 300) (hc : c.size ≤ 300) (hn : n ≤ 1000) (hb : addB Gs s.data.toList c.data.toList = b) (hg : addG Gs s.data.toList c.data.toList = Gs') :
    Calls Tryd.prog 8 #[.pointer (some ⟨t, 0, none⟩), .string s, .string c] w fun e w' => e = .returned (.bool b) ∧ ∃ N' F', Tr w0 w' (n + 1) t Gs' N' F' ∧ Upd F F' w w' := by
  subst hb hg
  exact (hadd n t N s c Gs F w h.c (h.tabs hT) hs hc hn).mono fun e w' ⟨he, N', F', h1, h2⟩ => ⟨he, N', F', h.upd h1 h2, h2⟩
theorem rem_x (t N n : Nat) (s c : ByteArray) (b : Bool) (Gs Gs' : List Hint) (w0 : World) (F : List Nat) (w : World) (h : Tr w0 w n t Gs N F) (hT : Tabs w0) (hs : s.size ≤ 300) (hc : c.size ≤ 300) (hn : n ≤ 1000) (hb : decide ((s.data.toList, c.data.toList) ∈ Gs) = b) (hg : Gs.erase (s.data.toList, c.data.toList) = Gs') :
    Calls Tryd.prog 9 #[.pointer (some ⟨t, 0, none⟩), .string s, .string c] w fun e w' => e = .returned (.bool b) ∧ ∃ N' F', Tr w0 w' n t Gs' N' F' ∧ Upd F F' w w' := by
  subst hb hg
  exact (hrem n t N s c Gs F w h.c (h.tabs hT) hs hc hn).mono fun e w' ⟨he, N', F', h1, h2⟩ => ⟨he, N', F', h.upd h1 h2, h2⟩
theorem match_x (t N n : Nat) (s : ByteArray) (T : List Str) (Gs : List Hint) (w0 : World) (F : List Nat) (w : World) (h : Tr w0 w n t Gs N F) (hT : Tabs w0) (hs : s.size ≤ 300) (hn : n ≤ 1000) (ht : toldG Gs s.data.toList = T) :
    Calls Tryd.prog 6 #[.pointer (some ⟨t, 0, none⟩), .string s] w fun e w' => ∃ a c, e = .returned (.slice a T.length c) ∧ Row w' a (strs T) ∧ Below w.heap.size w w' := by
  subst ht
  exact hmatch n t N s Gs F w h.c (h.tabs hT) hs hn
end Go.Proofs.YtcnjgenacpkdbaaDoor
