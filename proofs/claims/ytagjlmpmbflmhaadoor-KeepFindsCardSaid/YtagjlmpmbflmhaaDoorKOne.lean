/- KeepOne: the plain law, and what lives beside what is kept. -/
import Derived.Test.YtagjlmpmbflmhaaDoorKCovers2
namespace Go.Proofs.YtagjlmpmbflmhaaDoor
open Go Go.RowKit Go.Maps

theorem get_setB_other {m x : Msg} {L : List Msg} (hU : Up L) (hx : x ∈ L) (h : x.k ≠ m.k ∨ mayB m = false) : get x.k (setB m L) = some x := by
  have hg := get_of_mem hU hx
  unfold setB
  cases hm : mayB m with
  | false => simpa using hg
  | true =>
    have hk : ¬ x.k = m.k := by
      rcases h with h | h
      · exact h
      · rw [hm] at h; cases h
    simp only [if_true]
    unfold setM
    split
    · rw [get_del, if_neg hk]; exact hg
    · rw [get_put hU, if_neg (show ¬ x.k = m.kept.k from hk)]; exact hg
theorem del_put {m : Msg} {L : List Msg} : del m.k (put m L) = del m.k L := by
  induction L with
  | nil => simp [put, del]
  | cons y r ih =>
    unfold put
    split
    · simp [del]
    · split
      · rename_i he; simp [del, he]
      · rename_i he
        unfold del at *
        rw [List.filter_cons_of_pos (by simpa using he), List.filter_cons_of_pos (by simpa using he), ih]
theorem del_del (t : List UInt8) (L : List Msg) : del t (del t L) = del t L := by simp [del, List.filter_filter]
theorem del_setB {m : Msg} {L : List Msg} : del m.k (setB m L) = del m.k L := by
  unfold setB
  split
  · unfold setM
    split
    · exact del_del _ _
    · exact del_put (m := m.kept)
  · rfl
theorem setB_gone {t p : ByteArray} {q : Int} {r : Bool} {L : List Msg} (h : mayB ⟨t, p, q, r⟩ = true) : mayB ⟨t, ⟨#[]⟩, q, r⟩ = true ∧ setB ⟨t, ⟨#[]⟩, q, r⟩ L = del t.data.toList L := by
  have h' : mayB ⟨t, ⟨#[]⟩, q, r⟩ = true := h
  refine ⟨h', ?_⟩
  unfold setB
  rw [h']; rfl
theorem setB_no {m : Msg} {L : List Msg} (h : mayB m = false) : setB m L = L := by unfold setB; rw [h]; rfl

/-- What is kept, and a row of the call's own beside it. -/
structure Side (w0 w : World) (g : Nat) (l : List Msg) (F : List Nat) (v : Value) (xs : List Msg) : Prop where
  o : One w0 w g l F
  row : w.ownsRow 0 33 4 v xs.length (msgs xs)
  own : ∀ k, v.ownBlock = some k → k ∉ F ∧ w0.heap.size ≤ k
theorem Side.below {w0 w w' : World} {g : Nat} {l : List Msg} {F : List Nat} {v : Value} {xs : List Msg} (h : Side w0 w g l F v xs) (hk : Below w.heap.size w w') : Side w0 w' g l F v xs :=
  ⟨h.o.below hk, ownsRow_low h.row hk, h.own⟩
theorem Side.upd {w0 w w' : World} {g : Nat} {l l' : List Msg} {F : List Nat} {v : Value} {xs : List Msg} (h : Side w0 w g l F v xs) (hc : KRep w' g l' F) (hu : Upd F F w w') : Side w0 w' g l' F v xs :=
  ⟨h.o.upd hc hu, ownsRow_local h.row fun k hk => hu.1.block k (h.row.lt k hk).2 (h.own k hk).1, h.own⟩
theorem Side.read {w0 w : World} {g : Nat} {l : List Msg} {F : List Nat} {v : Value} {xs : List Msg} (h : Side w0 w g l F v xs) : ∃ a c, v = .slice a xs.length c ∧ Row w a (msgs xs) := by
  obtain ⟨a, c, rfl, hr, -, -⟩ := ownsRow_row h.row
  exact ⟨a, c, rfl, hr⟩
theorem Side.start {w0 w w' : World} {g : Nat} {l : List Msg} {F : List Nat} {v : Value} {xs : List Msg} (h : One w0 w g l F) (hk : Below w.heap.size w w') (hr : w'.ownsRow w.heap.size 33 4 v xs.length (msgs xs)) : Side w0 w' g l F v xs :=
  ⟨h.below hk, row_base hr (Nat.zero_le _), fun k hk' => ⟨fun hF => by have := h.c.lt k hF; have := (hr.lt k hk').1; omega, by have := (hr.lt k hk').1; have := h.bel.size; omega⟩⟩
theorem Side.drewN {w0 w : World} {g : Nat} {l : List Msg} {F : List Nat} {v : Value} {xs : List Msg} (h : Side w0 w g l F v xs) (n : Nat) : Side w0 (w.drewN n) g l F v xs := h.below (below_drewN (Below.refl _ _) n)
theorem Side.rebase {w0 W1 w : World} {g : Nat} {l : List Msg} {F : List Nat} {v : Value} {xs : List Msg} (h : Side W1 w g l F v xs) (hb : Below w0.heap.size w0 W1) : Side w0 w g l F v xs :=
  ⟨⟨h.o.c, fun k hk => Nat.le_trans hb.size (h.o.fF k hk), hb.trans (h.o.bel.mono hb.size)⟩, h.row, fun k hk => ⟨(h.own k hk).1, Nat.le_trans hb.size (h.own k hk).2⟩⟩
theorem Side.poke {w0 w : World} {g : Nat} {l : List Msg} {F : List Nat} {v : Value} {xs : List Msg} (h : Side w0 w g l F v xs) {p : Addr} (hp : w0.heap.size ≤ p.block) (hF : p.block ∉ F) (hv : v.ownBlock ≠ some p.block) (u : Value) : Side w0 (w.setCell p u) g l F v xs := by
  have hm : Mod [p.block] w (w.setCell p u) := (Mod.refl _ _).setCell (.inl (by simp)) u
  exact ⟨⟨h.o.c.mod hm (fun k hk he => by obtain rfl := List.mem_singleton.1 he; exact hF hk), h.o.fF, h.o.bel.trans (hm.below h.o.bel.size (fun k hk => by obtain rfl := List.mem_singleton.1 hk; exact hp))⟩,
    ownsRow_local h.row fun k hk => hm.block k (h.row.lt k hk).2 (fun he => by obtain rfl := List.mem_singleton.1 he; exact hv hk), h.own⟩
theorem great_n (b : Bool) (n : Nat) (a : Option Addr) (c : Nat) (l : List Msg) (w : World) (ha : Row w a (msgs l)) (hn : l.length = n) (hl : l.length ≤ maxLen) (hb : greatB l = b) :
    Calls Tryd.prog 9 #[.slice a n c] w fun e w' => e = .returned (.bool b) ∧ w = w' := by subst hn; exact great_u b a c l w ha hl hb
theorem kget_some (g : Nat) (n : ByteArray) (x : Msg) (l : List Msg) (F : List Nat) (w : World) (h : KRep w g l F) (hn : n.size ≤ maxLen) (hg : get n.data.toList l = some x) :
    Calls Tryd.prog 22 #[.pointer (some ⟨g, 0, none⟩), .string n] w fun e w' => e = .returned (.tuple #[.agg #[.string x.t, .string x.p, .int .u8 x.q, .bool x.r], .bool true]) ∧ Below w.heap.size w w' := by
  have := kget_any g n l F w h hn
  rw [hg] at this
  exact this
theorem kget_o (g : Nat) (n : ByteArray) (l : List Msg) (F : List Nat) (w : World) (h : KRep w g l F) (hn : n.size ≤ maxLen) :
    ∃ (t p : ByteArray) (q : Int) (r b : Bool), Calls Tryd.prog 22 #[.pointer (some ⟨g, 0, none⟩), .string n] w fun e w' => e = .returned (.tuple #[.agg #[.string t, .string p, .int .u8 q, .bool r], .bool b]) ∧ Below w.heap.size w w' :=
  ⟨_, _, _, _, _, kget_any g n l F w h hn⟩
end Go.Proofs.YtagjlmpmbflmhaaDoor
