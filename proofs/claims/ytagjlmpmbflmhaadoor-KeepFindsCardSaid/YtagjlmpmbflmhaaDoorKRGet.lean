/- The document's answer for what is kept: Get walked; both Sets at once. -/
import Derived.Test.YtagjlmpmbflmhaaDoorKRSet
namespace Go.Proofs.YtagjlmpmbflmhaaDoor
open Go Go.RowKit Go.Maps

theorem rget_any (g : Nat) (n : ByteArray) (l : List Msg) (G : List Nat) (w : World) (h : RRep w g l G) (hl : l.length < 1000000) :
    Calls Tryd.prog 26 #[.pointer (some ⟨g, 0, none⟩), .string n] w fun e w' => e = .returned (.tuple #[(orNone (get n.data.toList l)).val, .bool (get n.data.toList l).isSome]) ∧ Below w.heap.size w w' := by
  have hb : Below w.heap.size w (w.alloc (.cells #[.string ⟨#[]⟩, .string ⟨#[]⟩, .int .u8 0, .bool false] 33)) := (Below.refl _ _).alloc (Nat.le_refl _) _
  obtain ⟨a, c, -, c0, hrow⟩ := (h.below hb).open
  have HR := Lib.hid hrow
  clear h hrow
  go_enter Tryd.func26, Tryd.ntmps26
  go_wp2_with fail
  go_loopw [6] (fun i wr => ∃ k : Nat, i = .int .i64 k ∧ k ≤ l.length ∧ wr = w.alloc (.cells #[.string ⟨#[]⟩, .string ⟨#[]⟩, .int .u8 0, .bool false] 33) ∧ get n.data.toList l = get n.data.toList (l.drop k)) (fun i _ => (l.length - intOf i).toNat)
  case atStart => exact ⟨0, rfl, by omega, rfl, by simp⟩
  case round =>
    obtain ⟨k, rfl, hk, rfl, hg⟩ := hrel
    have HGT := Lib.hid hg
    clear hg
    by_cases hlt : k < l.length
    · obtain ⟨b1, o1, rfl, k0, k1, k2, k3⟩ := msgs_row HR.out (k := k) (m := l[k]) (by simp [hlt])
      have hk0 : (0 : Int) ≤ k := by omega
      have hkl : (k : Int) < l.length := by omega
      have hgy : l[k].t = n → get n.data.toList l = some l[k] := fun e => by
        rw [HGT.out, List.drop_eq_getElem_cons hlt, get_cons, if_pos (show l[k].k = n.data.toList by rw [← e]; rfl)]
      have hgn : ¬ l[k].t = n → get n.data.toList l = get n.data.toList (l.drop (k + 1)) := fun e => by
        rw [HGT.out, List.drop_eq_getElem_cons hlt, get_cons, if_neg (show ¬ l[k].k = n.data.toList from fun h => e (ba_ext h))]
      generalize l[k] = y at *
      obtain ⟨yt, yp, yq, yr⟩ := y
      dsimp only [Msg.k] at *
      by_cases hc : yt = n
      · subst hc
        have HG2 := Lib.hid (hgy rfl)
        clear hgy hgn HGT
        go_wp2_with fail
        exact bodyPost_ret (results_row_tmp rfl rfl (heap_alloc_new w _) Tryd.underlying33 rfl msg_size) rfl ⟨by rw [HG2.out]; rfl, (Below.refl _ _).alloc (Nat.le_refl _) _⟩
      · have hne : ¬ yt.toList = n.toList := fun e => hc (ba_toList.1 e)
        have hneb : (yt.toList == n.toList) = false := by simpa using hne
        have HG2 := Lib.hid (hgn hc)
        clear hgy hgn HGT hc
        go_wp2_with fail
        go_roundw
        case rel => exact ⟨k + 1, by go_num, by omega, trivial, HG2.out⟩
        case measure => simp [intOf]; omega
    · have hkl : ¬ (k : Int) < l.length := by omega
      have HG2 := Lib.hid (show get n.data.toList l = none by rw [HGT.out, List.drop_eq_nil_of_le (by omega)]; rfl)
      clear HGT
      go_wp2_with fail
      exact bodyPost_ret (results_row_tmp rfl rfl (heap_alloc_new w _) Tryd.underlying33 rfl msg_size) rfl ⟨by rw [HG2.out]; rfl, (Below.refl _ _).alloc (Nat.le_refl _) _⟩

theorem rset_no (g : Nat) (m : Msg) (w : World) (hs : m.t.size < 4294967281) (hq : 0 ≤ m.q) (hq2 : m.q < 256) (hm : mayB m = false) :
    Calls Tryd.prog 13 #[.pointer (some ⟨g, 0, none⟩), .agg #[.string m.t, .string m.p, .int .u8 m.q, .bool m.r]] w fun e w' => e = .returned (.bool false) ∧ Below w.heap.size w w' := by
  have hb : Below w.heap.size w (w.alloc (.cells #[.string m.t, .string m.p, .int .u8 m.q, .bool m.r] 33)) := (Below.refl _ _).alloc (Nat.le_refl _) _
  have HBW := Lib.hid hb
  have HM := Lib.hid (fun W => rmay_any m W hs hq hq2)
  rw [hm] at HM
  clear hb
  obtain ⟨t, p, q, r⟩ := m
  dsimp only at *
  go_enter Tryd.func13, Tryd.ntmps13
  go_wp2_with fail
  refine (HM.out _).mono ?_
  rintro e w1 ⟨rfl, hk⟩
  have HK := Lib.hid (bnext HBW.out (by simp) hk)
  clear hk
  go_wp2_with fail
  go_ret
  exact ⟨rfl, HK.out⟩
theorem rset_u (b : Bool) (g : Nat) (m : Msg) (l : List Msg) (G : List Nat) (w : World) (h : RRep w g l G) (hU : Up l) (hm : m.ok) (hl : l.length < 1000000) (hb : mayB m = b) :
    Calls Tryd.prog 13 #[.pointer (some ⟨g, 0, none⟩), .agg #[.string m.t, .string m.p, .int .u8 m.q, .bool m.r]] w fun e w' => e = .returned (.bool b) ∧ ∃ G', RRep w' g (setB m l) G' ∧ Upd G G' w w' := by
  obtain ⟨h1, h2, h3, h4⟩ := hm
  cases b with
  | false =>
    refine (rset_no g m w (by omega) h3 h4 hb).mono ?_
    rintro e w' ⟨rfl, hk⟩
    refine ⟨rfl, G, ?_, Mod.of_below hk _, fun k hk => .inl hk⟩
    rw [setB_no hb]; exact h.below hk
  | true =>
    have : setB m l = setM m l := by unfold setB; rw [hb]; rfl
    rw [this]
    exact rset_yes g m l G w h hU (by omega) h3 h4 hb hl

/-- What is kept, and the document's, side by side. -/
structure Duo (w0 w : World) (g : Nat) (L : List Msg) (F : List Nat) (r : Nat) (R : List Msg) (G : List Nat) : Prop where
  c : KRep w g L F
  d : RRep w r R G
  fF : ∀ k ∈ F, w0.heap.size ≤ k
  fG : ∀ k ∈ G, w0.heap.size ≤ k
  ap : ∀ k ∈ F, k ∉ G
  bel : Below w0.heap.size w0 w
theorem Duo.below {w0 w w' : World} {g : Nat} {L : List Msg} {F : List Nat} {r : Nat} {R : List Msg} {G : List Nat} (h : Duo w0 w g L F r R G) (hk : Below w.heap.size w w') : Duo w0 w' g L F r R G :=
  ⟨h.c.below hk, h.d.below hk, h.fF, h.fG, h.ap, bnext h.bel (Nat.le_refl _) hk⟩
theorem Duo.drewN {w0 w : World} {g : Nat} {L : List Msg} {F : List Nat} {r : Nat} {R : List Msg} {G : List Nat} (h : Duo w0 w g L F r R G) (n : Nat) : Duo w0 (w.drewN n) g L F r R G := h.below (below_drewN (Below.refl _ _) n)
theorem Duo.updK {w0 w w' : World} {g : Nat} {L L' : List Msg} {F : List Nat} {r : Nat} {R : List Msg} {G : List Nat} (h : Duo w0 w g L F r R G) (hc : KRep w' g L' F) (hu : Upd F F w w') : Duo w0 w' g L' F r R G := by
  obtain ⟨h1, -⟩ := upd_below h.bel (Nat.le_refl _) h.fF hu
  exact ⟨hc, h.d.mod hu.1 (fun k hk hF => h.ap k hF hk), h.fF, h.fG, h.ap, h1⟩
theorem Duo.updR {w0 w w' : World} {g : Nat} {L : List Msg} {F : List Nat} {r : Nat} {R R' : List Msg} {G G' : List Nat} (h : Duo w0 w g L F r R G) (hc : RRep w' r R' G') (hu : Upd G G' w w') : Duo w0 w' g L F r R' G' := by
  obtain ⟨h1, h2⟩ := upd_below h.bel (Nat.le_refl _) h.fG hu
  refine ⟨h.c.mod hu.1 h.ap, hc, h.fF, h2, fun k hk hG => ?_, h1⟩
  rcases hu.2 k hG with h | h'
  · exact Duo.ap ‹_› k hk h
  · have := h.c.lt k hk; omega
theorem Duo.tabs {w0 w : World} {g : Nat} {L : List Msg} {F : List Nat} {r : Nat} {R : List Msg} {G : List Nat} (h : Duo w0 w g L F r R G) (hT : Tabs w0) : Tabs w := hT.below h.bel
theorem rrep_new (w : World) : RRep (w.alloc (.cells #[.slice none 0 0] 30)) w.heap.size [] [w.heap.size] :=
  ⟨.slice none 0 0, heap_alloc_new _ _, World.ownsRow_nil _ _ _ _, by simp [Value.ownBlock], rfl⟩
theorem Duo.start {w0 w : World} {g : Nat} {L : List Msg} {F : List Nat} (h : One w0 w g L F) : Duo w0 (w.alloc (.cells #[.slice none 0 0] 30)) g L F w.heap.size [] [w.heap.size] := by
  have hb : Below w.heap.size w (w.alloc (.cells #[.slice none 0 0] 30)) := (Below.refl _ _).alloc (Nat.le_refl _) _
  have h1 := h.below hb
  refine ⟨h1.c, rrep_new w, h1.fF, fun k hk => ?_, fun k hk hk' => ?_, h1.bel⟩
  · obtain rfl := List.mem_singleton.1 hk; exact h.bel.size
  · obtain rfl := List.mem_singleton.1 hk'
    exact absurd (h.c.lt _ hk) (Nat.lt_irrefl _)
theorem up_madeL (l : List Msg) : Up (madeL l) := by
  have : ∀ (l k : List Msg), Up k → Up (l.foldl (fun k m => setB m k) k) := by
    intro l
    induction l with
    | nil => intro k h; exact h
    | cons m l ih =>
      intro k h
      exact ih _ (up_setB h)
  exact this l [] List.Pairwise.nil
end Go.Proofs.YtagjlmpmbflmhaaDoor
