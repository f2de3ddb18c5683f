/- The trie's laws: a trie of the call's own, and rows beside it; made walked. -/
import Derived.Test.YtcnjgenacpkdbaaGreatDoorRAct
namespace Go.Proofs.YtcnjgenacpkdbaaGreatDoor
open Go Go.RowKit

/-- a trie of the call's own -/
structure Tr (w0 w : World) (n t : Nat) (Gs : List Hint) (N : Nat) (F : List Nat) : Prop where
  c : HR n w t Gs N F
  fF : ∀ k ∈ F, w0.heap.size ≤ k
  bel : Below w0.heap.size w0 w
theorem updb {F F' : List Nat} {w w1 w2 : World} {B : Nat} (hb : Below B w w1) (hB : B ≤ w.heap.size) (hF : ∀ k ∈ F, B ≤ k) (hu : Upd F F' w1 w2) : Below B w w2 ∧ ∀ k ∈ F', B ≤ k :=
  ⟨hb.trans (hu.1.below (Nat.le_trans hB hb.size) hF), fun k hk => by
    rcases hu.2 k hk with h | h
    · exact hF k h
    · have := hb.size; omega⟩
theorem Tr.upd {w0 w w' : World} {n n' t t' N N' : Nat} {Gs Gs' : List Hint} {F F' : List Nat} (h : Tr w0 w n t Gs N F) (hc : HR n' w' t' Gs' N' F') (hu : Upd F F' w w') : Tr w0 w' n' t' Gs' N' F' := by
  obtain ⟨h1, h2⟩ := updb h.bel (Nat.le_refl _) h.fF hu
  exact ⟨hc, h2, h1⟩
theorem Tr.below {w0 w w' : World} {n t N : Nat} {Gs : List Hint} {F : List Nat} (h : Tr w0 w n t Gs N F) (hk : Below w.heap.size w w') : Tr w0 w' n t Gs N F := ⟨h.c.below hk, h.fF, h.bel.trans (hk.mono h.bel.size)⟩
theorem Tr.drewN {w0 w : World} {n t N : Nat} {Gs : List Hint} {F : List Nat} (h : Tr w0 w n t Gs N F) (m : Nat) : Tr w0 (w.drewN m) n t Gs N F := h.below (below_drewN (Below.refl _ _) m)
theorem Tr.start {w0 w w' : World} {n t N : Nat} {Gs : List Hint} {F : List Nat} (hb : Below w0.heap.size w0 w) (h : HR n w' t Gs N F) (hu : Upd [] F w w') : Tr w0 w' n t Gs N F := by
  obtain ⟨h1, h2⟩ := updb hb (Nat.le_refl _) (by simp) hu
  exact ⟨h, h2, h1⟩
theorem Tr.tabs {w0 w : World} {n t N : Nat} {Gs : List Hint} {F : List Nat} (h : Tr w0 w n t Gs N F) (hT : Tabs w0) : Tabs w := hT.below h.bel
theorem Tr.to {w0 w1 w : World} {n t N : Nat} {Gs : List Hint} {F : List Nat} (h : Tr w1 w n t Gs N F) (hb : Below w0.heap.size w0 w1) : Tr w0 w n t Gs N F :=
  ⟨h.c, fun k hk => Nat.le_trans hb.size (h.fF k hk), hb.trans (h.bel.mono hb.size)⟩
theorem Tr.more {w0 w : World} {n m t N : Nat} {Gs : List Hint} {F : List Nat} (h : Tr w0 w n t Gs N F) (hm : n ≤ m) : Tr w0 w m t Gs N F := ⟨h.c.more hm, h.fF, h.bel⟩

/-- a row beside what F holds -/
def Beside (w : World) (F : List Nat) (a : Option Addr) (xs : List Value) : Prop :=
  xs = [] ∨ ∃ b o, a = some ⟨b, o, none⟩ ∧ b ∉ F ∧ b < w.heap.size ∧ Row w a xs
theorem Beside.row {w : World} {F : List Nat} {a : Option Addr} {xs : List Value} (h : Beside w F a xs) : Row w a xs := by
  rcases h with h | ⟨b, o, -, -, -, h⟩
  · exact .inl h
  · exact h
theorem Beside.upd {w w' : World} {F F' : List Nat} {a : Option Addr} {xs : List Value} (h : Beside w F a xs) (hu : Upd F F' w w') : Beside w' F' a xs := by
  rcases h with h | ⟨b, o, ha, h1, h2, h3⟩
  · exact .inl h
  · refine .inr ⟨b, o, ha, fun hk => ?_, Nat.lt_of_lt_of_le h2 hu.1.size, ?_⟩
    · rcases hu.2 b hk with h | h
      · exact h1 h
      · omega
    · rcases h3 with h3 | ⟨b', o', ha', hc⟩
      · exact .inl h3
      · subst ha'
        cases ha
        exact .inr ⟨_, _, rfl, fun i v hi => by rw [World.cell?_of_block (w := w) (hu.1.block _ h2 h1)]; exact hc i v hi⟩
theorem Beside.below {w w' : World} {F : List Nat} {a : Option Addr} {xs : List Value} (h : Beside w F a xs) (hb : Below w.heap.size w w') : Beside w' F a xs := h.upd (upd_below hb)
theorem Beside.own {w : World} {F : List Nat} {v : Value} {m : Nat} {T : TypeId} {sz : Nat} {xs : List Value} {B : Nat} (h : w.ownsRow B T sz v m xs) (hF : ∀ k ∈ F, k < B) : ∃ a c, v = .slice a m c ∧ Beside w F a xs := by
  obtain ⟨a, c, rfl, hr, -, -⟩ := ownsRow_row h
  refine ⟨a, c, rfl, ?_⟩
  rcases h.2 with ⟨e, hn⟩ | ⟨g, cap, cur, e, hb, hg, -⟩
  · cases e
    rcases hr with hr | ⟨b, o, e, -⟩
    · exact .inl hr
    · cases e
  · cases e
    exact .inr ⟨g, 0, rfl, fun hk => by have := hF g hk; omega, (Array.getElem?_eq_some_iff.1 hg).1, hr⟩

theorem add_x (t N n : Nat) (s c : ByteArray) (b : Bool) (Gs Gs' : List Hint) (w0 : World) (F : List Nat) (w : World) (h : Tr w0 w n t Gs N F) (hT : Tabs w0) (hs : s.size ≤ 300) (hc : c.size ≤ 300) (hn : n ≤ 1000) (hb : addB Gs s.data.toList c.data.toList = b) (hg : addG Gs s.data.toList c.data.toList = Gs') :
    Calls Tryz.prog 15 #[.pointer (some ⟨t, 0, none⟩), .string s, .string c] w fun e w' => e = .returned (.bool b) ∧ ∃ N' F', Tr w0 w' (n + 1) t Gs' N' F' ∧ Upd F F' w w' := by
  subst hb hg
  exact (hadd n t N s c Gs F w h.c (h.tabs hT) hs hc hn).mono fun e w' ⟨he, N', F', h1, h2⟩ => ⟨he, N', F', h.upd h1 h2, h2⟩
theorem rem_x (t N n : Nat) (s c : ByteArray) (b : Bool) (Gs Gs' : List Hint) (w0 : World) (F : List Nat) (w : World) (h : Tr w0 w n t Gs N F) (hT : Tabs w0) (hs : s.size ≤ 300) (hc : c.size ≤ 300) (hn : n ≤ 1000) (hb : decide ((s.data.toList, c.data.toList) ∈ Gs) = b) (hg : Gs.erase (s.data.toList, c.data.toList) = Gs') :
    Calls Tryz.prog 19 #[.pointer (some ⟨t, 0, none⟩), .string s, .string c] w fun e w' => e = .returned (.bool b) ∧ ∃ N' F', Tr w0 w' n t Gs' N' F' ∧ Upd F F' w w' := by
  subst hb hg
  exact (hrem n t N s c Gs F w h.c (h.tabs hT) hs hc hn).mono fun e w' ⟨he, N', F', h1, h2⟩ => ⟨he, N', F', h.upd h1 h2, h2⟩
theorem match_x (t N n : Nat) (s : ByteArray) (T : List Str) (Gs : List Hint) (w0 : World) (F : List Nat) (w : World) (h : Tr w0 w n t Gs N F) (hT : Tabs w0) (hs : s.size ≤ 300) (hn : n ≤ 1000) (ht : toldG Gs s.data.toList = T) :
    Calls Tryz.prog 18 #[.pointer (some ⟨t, 0, none⟩), .string s] w fun e w' => ∃ a c, e = .returned (.slice a T.length c) ∧ Row w' a (strs T) ∧ Below w.heap.size w w' := by
  subst ht
  exact hmatch n t N s Gs F w h.c (h.tabs hT) hs hn
/-- what an act makes of the hints -/
def actG (Gs : List Hint) (x : Act) : List Hint :=
  if x.d = 0 then addG Gs x.f.data.toList x.c.data.toList else if x.d = 1 then Gs.erase (x.f.data.toList, x.c.data.toList) else Gs
def madeG (l : List Act) : List Hint := l.foldl actG []
theorem madeG_snoc (l : List Act) (x : Act) : madeG (l ++ [x]) = actG (madeG l) x := by simp [madeG]
def Act.ok (x : Act) : Prop := x.f.size ≤ 300 ∧ x.c.size ≤ 300 ∧ x.m.size ≤ 300
def allOk (l : List Act) : Prop := ∀ x ∈ l, x.ok
theorem great_ok {l : List Act} (h : greatB l = false) : allOk l ∧ l.length ≤ 60 := by
  unfold greatB at h
  rw [Bool.or_eq_false_iff] at h
  refine ⟨fun x hx => ?_, by simpa using h.2⟩
  have := List.any_eq_false.1 h.1 x hx
  unfold bigA at this
  simp at this
  unfold Act.ok
  omega

set_option maxRecDepth 100000 in
set_option maxHeartbeats 2000000 in
theorem made_any (a : Option Addr) (c : Nat) (l : List Act) (w : World) (ha : Row w a (actsV l)) (hT : Tabs w) (hl : l.length ≤ 60) (hok : allOk l) :
    Calls Tryz.prog 14 #[.slice a l.length c] w fun e w' => ∃ t N F, e = .returned (.pointer (some ⟨t, 0, none⟩)) ∧ Tr w w' 60 t (madeG l) N F := by
  have HA := Lib.hid ha
  have HT := Lib.hid hT
  have HOK := Lib.hid hok
  clear ha hT hok
  go_enter Tryz.func14, Tryz.ntmps14
  go_wp2_with fail
  refine (hnew _).mono ?_
  rintro e w1 ⟨t, F, rfl, hq, hu⟩
  have hO := Tr.start (Below.refl w.heap.size w) hq hu
  clear hq hu
  go_wp2_with fail
  go_loopw [4] (fun i wr => ∃ k : Nat, i = .int .i64 k ∧ k ≤ l.length ∧ ∃ N F, Tr w wr k t (madeG (l.take k)) N F) (fun i _ => (l.length - intOf i).toNat)
  case atStart => exact ⟨0, rfl, by omega, _, _, by simpa [madeG] using hO⟩
  case round =>
    obtain ⟨k, rfl, hk, N, F2, hW⟩ := hrel
    clear hO
    by_cases hlt : k < l.length
    · obtain ⟨b1, o1, rfl, k0, k1, k2, k3⟩ := acts_row (HA.out.below hW.bel (Nat.le_refl _)) hlt
      have hk0 : (0 : Int) ≤ k := by omega
      have hkl : (k : Int) < l.length := by omega
      have HK := Lib.hid (show k ≤ 1000 by omega)
      have HC := Lib.hid (fun w' (hb : Below w.heap.size w w') => by
        obtain ⟨b2, o2, e, -, j1, j2, -⟩ := acts_row (HA.out.below hb (Nat.le_refl _)) hlt
        cases e
        exact And.intro j1 j2)
      have HO1 := Lib.hid (HOK.out l[k] (List.getElem_mem hlt))
      have HS := Lib.hid (show madeG (l.take (k + 1)) = actG (madeG (l.take k)) l[k] by rw [List.take_succ_eq_append_getElem hlt, madeG_snoc])
      generalize l[k] = x at *
      generalize madeG (l.take k) = G at *
      obtain ⟨G2, hg2⟩ : ∃ G2, madeG (l.take (k + 1)) = G2 := ⟨_, rfl⟩
      rw [hg2] at HS
      have HG2 := Lib.hid hg2
      clear hg2
      obtain ⟨xd, xf, xc, xm⟩ := x
      have HW := Lib.hid hW
      dsimp only at k0 k1 k2 k3 HC
      replace HO1 : Hid (xf.size ≤ 300 ∧ xc.size ≤ 300 ∧ xm.size ≤ 300) := HO1
      have HG : Hid ((if xd = 0 then addG G xf.data.toList xc.data.toList else if xd = 1 then G.erase (xf.data.toList, xc.data.toList) else G) = G2) := Lib.hid HS.out.symm
      clear HS
      by_cases h0 : xd = 0
      · subst h0
        rw [if_pos rfl] at HG
        obtain ⟨ba, hba⟩ : ∃ b, addB G xf.data.toList xc.data.toList = b := ⟨_, rfl⟩
        have HBA := Lib.hid hba
        clear hba
        go_wp2_with fail
        go_region_held3 (fun w' => w'.cell? ⟨b1, o1 + k * 4 + 1, none⟩ = some (.string xf) ∧ w'.cell? ⟨b1, o1 + k * 4 + 2, none⟩ = some (.string xc)) (first | exact sA | go_keep) (first
          | (go_at_call 15; refine (add_x t N k xf xc ba G G2 w F2 _ ?_ HT.out HO1.out.1 HO1.out.2.1 HK.out HBA.out HG.out).mono ?_; (first | exact hW | exact hW.drewN _); rintro e w3 ⟨rfl, N', F', hW3, -⟩; have sA := HC.out _ hW3.bel))
        have HW3 := Lib.hid hW3
        clear sA hW hW3
        go_wp2_with fail
        go_roundw
        case rel => exact ⟨k + 1, by go_num, by omega, _, _, by rw [HG2.out]; exact HW3.out⟩
        case measure => simp [intOf]; omega
      · have h0' : (xd == 0) = false := by simpa using h0
        rw [if_neg h0] at HG
        by_cases h1 : xd = 1
        · subst h1
          rw [if_pos rfl] at HG
          obtain ⟨ba, hba⟩ : ∃ b, decide ((xf.data.toList, xc.data.toList) ∈ G) = b := ⟨_, rfl⟩
          have HBA := Lib.hid hba
          clear hba h0
          go_wp2_with fail
          go_region_held3 (fun w' => w'.cell? ⟨b1, o1 + k * 4 + 1, none⟩ = some (.string xf) ∧ w'.cell? ⟨b1, o1 + k * 4 + 2, none⟩ = some (.string xc)) (first | exact sA | go_keep) (first
            | (go_at_call 19; refine (rem_x t N k xf xc ba G G2 w F2 _ ?_ HT.out HO1.out.1 HO1.out.2.1 HK.out HBA.out HG.out).mono ?_; (first | exact hW | exact hW.drewN _); rintro e w3 ⟨rfl, N', F', hW3, -⟩; have sA := HC.out _ hW3.bel))
          have HW3 := Lib.hid hW3
          clear sA hW hW3
          go_wp2_with fail
          go_roundw
          case rel => exact ⟨k + 1, by go_num, by omega, _, _, by rw [HG2.out]; exact HW3.out.more (by omega)⟩
          case measure => simp [intOf]; omega
        · have h1' : (xd == 1) = false := by simpa using h1
          rw [if_neg h1] at HG
          clear h0 h1 hW
          go_wp2_with fail
          go_roundw
          case rel => exact ⟨k + 1, by go_num, by omega, _, _, by rw [HG2.out, ← HG.out]; exact HW.out.more (by omega)⟩
          case measure => simp [intOf]; omega
    · have hkl : ¬ (k : Int) < l.length := by omega
      rw [List.take_of_length_le (by omega)] at hW
      have HW := Lib.hid (hW.more (m := 60) (by omega))
      clear hW
      go_wp2_with fail
      go_ret
      exact ⟨t, rfl, N, F2, HW.out⟩
end Go.Proofs.YtcnjgenacpkdbaaGreatDoor
