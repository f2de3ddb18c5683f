/- The trie's laws: a trie of the call's own, small, awake, two tries, their helpers, walked. -/
import Derived.Test.YtcnjgenacpkdbaaGreatDoorRAct
import Derived.Test.YtcnjgenacpkdbaaGreatDoorKTopic3
namespace Go.Proofs.YtcnjgenacpkdbaaGreatDoor
section
open Go Go.RowKit

/-- a trie of the call's own -/
structure Tr (w0 w : World) (n t : Nat) (Gs : List Hint) (N : Nat) (F : List Nat) : Prop where
  c : HR n w t Gs N F
  fF : ∀ k ∈ F, w0.heap.size ≤ k
  bel : Below w0.heap.size w0 w
theorem updb {F F' : List Nat} {w w1 w2 : World} {B : Nat} (hb : Below B w w1) (hB : B ≤ w.heap.size) (hF : ∀ k ∈ F, B ≤ k) (hu : Upd F F' w1 w2) : Below B w w2 ∧ ∀ k ∈ F', B ≤ k :=
  ⟨hb.trans (hu.1.below (Nat.le_trans hB hb.size) hF), fun k hk => by
    rcases hu.2 k hk with h | h
    · exact hF k h
    · have := hb.size; omega⟩
theorem Tr.upd {w0 w w' : World} {n n' t t' N N' : Nat} {Gs Gs' : List Hint} {F F' : List Nat} (h : Tr w0 w n t Gs N F) (hc : HR n' w' t' Gs' N' F') (hu : Upd F F' w w') : Tr w0 w' n' t' Gs' N' F' := by
  obtain ⟨h1, h2⟩ := updb h.bel (Nat.le_refl _) h.fF hu
  exact ⟨hc, h2, h1⟩
theorem Tr.below {w0 w w' : World} {n t N : Nat} {Gs : List Hint} {F : List Nat} (h : Tr w0 w n t Gs N F) (hk : Below w.heap.size w w') : Tr w0 w' n t Gs N F := ⟨h.c.below hk, h.fF, h.bel.trans (hk.mono h.bel.size)⟩
theorem Tr.drewN {w0 w : World} {n t N : Nat} {Gs : List Hint} {F : List Nat} (h : Tr w0 w n t Gs N F) (m : Nat) : Tr w0 (w.drewN m) n t Gs N F := h.below (below_drewN (Below.refl _ _) m)
theorem Tr.start {w0 w w' : World} {n t N : Nat} {Gs : List Hint} {F : List Nat} (hb : Below w0.heap.size w0 w) (h : HR n w' t Gs N F) (hu : Upd [] F w w') : Tr w0 w' n t Gs N F := by
  obtain ⟨h1, h2⟩ := updb hb (Nat.le_refl _) (by simp) hu
  exact ⟨h, h2, h1⟩
theorem Tr.tabs {w0 w : World} {n t N : Nat} {Gs : List Hint} {F : List Nat} (h : Tr w0 w n t Gs N F) (hT : Tabs w0) : Tabs w := hT.below h.bel
theorem Tr.to {w0 w1 w : World} {n t N : Nat} {Gs : List Hint} {F : List Nat} (h : Tr w1 w n t Gs N F) (hb : Below w0.heap.size w0 w1) : Tr w0 w n t Gs N F :=
  ⟨h.c, fun k hk => Nat.le_trans hb.size (h.fF k hk), hb.trans (h.bel.mono hb.size)⟩
theorem Tr.more {w0 w : World} {n m t N : Nat} {Gs : List Hint} {F : List Nat} (h : Tr w0 w n t Gs N F) (hm : n ≤ m) : Tr w0 w m t Gs N F := ⟨h.c.more hm, h.fF, h.bel⟩

/-- a row beside what F holds -/
def Beside (w : World) (F : List Nat) (a : Option Addr) (xs : List Value) : Prop :=
  xs = [] ∨ ∃ b o, a = some ⟨b, o, none⟩ ∧ b ∉ F ∧ b < w.heap.size ∧ Row w a xs
theorem Beside.row {w : World} {F : List Nat} {a : Option Addr} {xs : List Value} (h : Beside w F a xs) : Row w a xs := by
  rcases h with h | ⟨b, o, -, -, -, h⟩
  · exact .inl h
  · exact h
theorem Beside.upd {w w' : World} {F F' : List Nat} {a : Option Addr} {xs : List Value} (h : Beside w F a xs) (hu : Upd F F' w w') : Beside w' F' a xs := by
  rcases h with h | ⟨b, o, ha, h1, h2, h3⟩
  · exact .inl h
  · refine .inr ⟨b, o, ha, fun hk => ?_, Nat.lt_of_lt_of_le h2 hu.1.size, ?_⟩
    · rcases hu.2 b hk with h | h
      · exact h1 h
      · omega
    · rcases h3 with h3 | ⟨b', o', ha', hc⟩
      · exact .inl h3
      · subst ha'
        cases ha
        exact .inr ⟨_, _, rfl, fun i v hi => by rw [World.cell?_of_block (w := w) (hu.1.block _ h2 h1)]; exact hc i v hi⟩
theorem Beside.below {w w' : World} {F : List Nat} {a : Option Addr} {xs : List Value} (h : Beside w F a xs) (hb : Below w.heap.size w w') : Beside w' F a xs := h.upd (upd_below hb)
theorem Beside.own {w : World} {F : List Nat} {v : Value} {m : Nat} {T : TypeId} {sz : Nat} {xs : List Value} {B : Nat} (h : w.ownsRow B T sz v m xs) (hF : ∀ k ∈ F, k < B) : ∃ a c, v = .slice a m c ∧ Beside w F a xs := by
  obtain ⟨a, c, rfl, hr, -, -⟩ := ownsRow_row h
  refine ⟨a, c, rfl, ?_⟩
  rcases h.2 with ⟨e, hn⟩ | ⟨g, cap, cur, e, hb, hg, -⟩
  · cases e
    rcases hr with hr | ⟨b, o, e, -⟩
    · exact .inl hr
    · cases e
  · cases e
    exact .inr ⟨g, 0, rfl, fun hk => by have := hF g hk; omega, (Array.getElem?_eq_some_iff.1 hg).1, hr⟩

theorem add_x (t N n : Nat) (s c : ByteArray) (b : Bool) (Gs Gs' : List Hint) (w0 : World) (F : List Nat) (w : World) (h : Tr w0 w n t Gs N F) (hT : Tabs w0) (hs : s.size ≤ 300) (hc : c.size ≤ 300) (hn : n ≤ 1000) (hb : addB Gs s.data.toList c.data.toList = b) (hg : addG Gs s.data.toList c.data.toList = Gs') :
    Calls Tryz.prog 15 #[.pointer (some ⟨t, 0, none⟩), .string s, .string c] w fun e w' => e = .returned (.bool b) ∧ ∃ N' F', Tr w0 w' (n + 1) t Gs' N' F' ∧ Upd F F' w w' := by
  subst hb hg
  exact (hadd n t N s c Gs F w h.c (h.tabs hT) hs hc hn).mono fun e w' ⟨he, N', F', h1, h2⟩ => ⟨he, N', F', h.upd h1 h2, h2⟩
theorem rem_x (t N n : Nat) (s c : ByteArray) (b : Bool) (Gs Gs' : List Hint) (w0 : World) (F : List Nat) (w : World) (h : Tr w0 w n t Gs N F) (hT : Tabs w0) (hs : s.size ≤ 300) (hc : c.size ≤ 300) (hn : n ≤ 1000) (hb : decide ((s.data.toList, c.data.toList) ∈ Gs) = b) (hg : Gs.erase (s.data.toList, c.data.toList) = Gs') :
    Calls Tryz.prog 19 #[.pointer (some ⟨t, 0, none⟩), .string s, .string c] w fun e w' => e = .returned (.bool b) ∧ ∃ N' F', Tr w0 w' n t Gs' N' F' ∧ Upd F F' w w' := by
  subst hb hg
  exact (hrem n t N s c Gs F w h.c (h.tabs hT) hs hc hn).mono fun e w' ⟨he, N', F', h1, h2⟩ => ⟨he, N', F', h.upd h1 h2, h2⟩
theorem match_x (t N n : Nat) (s : ByteArray) (T : List Str) (Gs : List Hint) (w0 : World) (F : List Nat) (w : World) (h : Tr w0 w n t Gs N F) (hT : Tabs w0) (hs : s.size ≤ 300) (hn : n ≤ 1000) (ht : toldG Gs s.data.toList = T) :
    Calls Tryz.prog 18 #[.pointer (some ⟨t, 0, none⟩), .string s] w fun e w' => ∃ a c, e = .returned (.slice a T.length c) ∧ Row w' a (strs T) ∧ Below w.heap.size w w' := by
  subst ht
  exact hmatch n t N s Gs F w h.c (h.tabs hT) hs hn
/-- what an act makes of the hints -/
def actG (Gs : List Hint) (x : Act) : List Hint :=
  if x.d = 0 then addG Gs x.f.data.toList x.c.data.toList else if x.d = 1 then Gs.erase (x.f.data.toList, x.c.data.toList) else Gs
def madeG (l : List Act) : List Hint := l.foldl actG []
theorem madeG_snoc (l : List Act) (x : Act) : madeG (l ++ [x]) = actG (madeG l) x := by simp [madeG]
def Act.ok (x : Act) : Prop := x.f.size ≤ 300 ∧ x.c.size ≤ 300 ∧ x.m.size ≤ 300
def allOk (l : List Act) : Prop := ∀ x ∈ l, x.ok
theorem great_ok {l : List Act} (h : greatB l = false) : allOk l ∧ l.length ≤ 60 := by
  unfold greatB at h
  rw [Bool.or_eq_false_iff] at h
  refine ⟨fun x hx => ?_, by simpa using h.2⟩
  have := List.any_eq_false.1 h.1 x hx
  unfold bigA at this
  simp at this
  unfold Act.ok
  omega

set_option maxRecDepth 100000 in
set_option maxHeartbeats 2000000 in
theorem made_any (a : Option Addr) (c : Nat) (l : List Act) (w : World) (ha : Row w a (actsV l)) (hT : Tabs w) (hl : l.length ≤ 60) (hok : allOk l) :
    Calls Tryz.prog 14 #[.slice a l.length c] w fun e w' => ∃ t N F, e = .returned (.pointer (some ⟨t, 0, none⟩)) ∧ Tr w w' 60 t (madeG l) N F := by
  have HA := Lib.hid ha
  have HT := Lib.hid hT
  have HOK := Lib.hid hok
  clear ha hT hok
  go_enter Tryz.func14, Tryz.ntmps14
  go_wp2_with fail
  refine (hnew _).mono ?_
  rintro e w1 ⟨t, F, rfl, hq, hu⟩
  have hO := Tr.start (Below.refl w.heap.size w) hq hu
  clear hq hu
  go_wp2_with fail
  go_loopw [4] (fun i wr => ∃ k : Nat, i = .int .i64 k ∧ k ≤ l.length ∧ ∃ N F, Tr w wr k t (madeG (l.take k)) N F) (fun i _ => (l.length - intOf i).toNat)
  case atStart => exact ⟨0, rfl, by omega, _, _, by simpa [madeG] using hO⟩
  case round =>
    obtain ⟨k, rfl, hk, N, F2, hW⟩ := hrel
    clear hO
    by_cases hlt : k < l.length
    · obtain ⟨b1, o1, rfl, k0, k1, k2, k3⟩ := acts_row (HA.out.below hW.bel (Nat.le_refl _)) hlt
      have hk0 : (0 : Int) ≤ k := by omega
      have hkl : (k : Int) < l.length := by omega
      have HK := Lib.hid (show k ≤ 1000 by omega)
      have HC := Lib.hid (fun w' (hb : Below w.heap.size w w') => by
        obtain ⟨b2, o2, e, -, j1, j2, -⟩ := acts_row (HA.out.below hb (Nat.le_refl _)) hlt
        cases e
        exact And.intro j1 j2)
      have HO1 := Lib.hid (HOK.out l[k] (List.getElem_mem hlt))
      have HS := Lib.hid (show madeG (l.take (k + 1)) = actG (madeG (l.take k)) l[k] by rw [List.take_succ_eq_append_getElem hlt, madeG_snoc])
      generalize l[k] = x at *
      generalize madeG (l.take k) = G at *
      obtain ⟨G2, hg2⟩ : ∃ G2, madeG (l.take (k + 1)) = G2 := ⟨_, rfl⟩
      rw [hg2] at HS
      have HG2 := Lib.hid hg2
      clear hg2
      obtain ⟨xd, xf, xc, xm⟩ := x
      have HW := Lib.hid hW
      dsimp only at k0 k1 k2 k3 HC
      replace HO1 : Hid (xf.size ≤ 300 ∧ xc.size ≤ 300 ∧ xm.size ≤ 300) := HO1
      have HG : Hid ((if xd = 0 then addG G xf.data.toList xc.data.toList else if xd = 1 then G.erase (xf.data.toList, xc.data.toList) else G) = G2) := Lib.hid HS.out.symm
      clear HS
      by_cases h0 : xd = 0
      · subst h0
        rw [if_pos rfl] at HG
        obtain ⟨ba, hba⟩ : ∃ b, addB G xf.data.toList xc.data.toList = b := ⟨_, rfl⟩
        have HBA := Lib.hid hba
        clear hba
        go_wp2_with fail
        go_region_held3 (fun w' => w'.cell? ⟨b1, o1 + k * 4 + 1, none⟩ = some (.string xf) ∧ w'.cell? ⟨b1, o1 + k * 4 + 2, none⟩ = some (.string xc)) (first | exact sA | go_keep) (first
          | (go_at_call 15; refine (add_x t N k xf xc ba G G2 w F2 _ ?_ HT.out HO1.out.1 HO1.out.2.1 HK.out HBA.out HG.out).mono ?_; (first | exact hW | exact hW.drewN _); rintro e w3 ⟨rfl, N', F', hW3, -⟩; have sA := HC.out _ hW3.bel))
        have HW3 := Lib.hid hW3
        clear sA hW hW3
        go_wp2_with fail
        go_roundw
        case rel => exact ⟨k + 1, by go_num, by omega, _, _, by rw [HG2.out]; exact HW3.out⟩
        case measure => simp [intOf]; omega
      · have h0' : (xd == 0) = false := by simpa using h0
        rw [if_neg h0] at HG
        by_cases h1 : xd = 1
        · subst h1
          rw [if_pos rfl] at HG
          obtain ⟨ba, hba⟩ : ∃ b, decide ((xf.data.toList, xc.data.toList) ∈ G) = b := ⟨_, rfl⟩
          have HBA := Lib.hid hba
          clear hba h0
          go_wp2_with fail
          go_region_held3 (fun w' => w'.cell? ⟨b1, o1 + k * 4 + 1, none⟩ = some (.string xf) ∧ w'.cell? ⟨b1, o1 + k * 4 + 2, none⟩ = some (.string xc)) (first | exact sA | go_keep) (first
            | (go_at_call 19; refine (rem_x t N k xf xc ba G G2 w F2 _ ?_ HT.out HO1.out.1 HO1.out.2.1 HK.out HBA.out HG.out).mono ?_; (first | exact hW | exact hW.drewN _); rintro e w3 ⟨rfl, N', F', hW3, -⟩; have sA := HC.out _ hW3.bel))
          have HW3 := Lib.hid hW3
          clear sA hW hW3
          go_wp2_with fail
          go_roundw
          case rel => exact ⟨k + 1, by go_num, by omega, _, _, by rw [HG2.out]; exact HW3.out.more (by omega)⟩
          case measure => simp [intOf]; omega
        · have h1' : (xd == 1) = false := by simpa using h1
          rw [if_neg h1] at HG
          clear h0 h1 hW
          go_wp2_with fail
          go_roundw
          case rel => exact ⟨k + 1, by go_num, by omega, _, _, by rw [HG2.out, ← HG.out]; exact HW.out.more (by omega)⟩
          case measure => simp [intOf]; omega
    · have hkl : ¬ (k : Int) < l.length := by omega
      rw [List.take_of_length_le (by omega)] at hW
      have HW := Lib.hid (hW.more (m := 60) (by omega))
      clear hW
      go_wp2_with fail
      go_ret
      exact ⟨t, rfl, N, F2, HW.out⟩
end
section
open Go Go.RowKit

def prefs : Path → List Path
  | [] => [[]]
  | x :: r => [] :: (prefs r).map (x :: ·)
theorem mem_prefs {p q : Path} : q ∈ prefs p ↔ q <+: p := by
  induction p generalizing q with
  | nil => simp [prefs, List.prefix_nil]
  | cons x r ih =>
    cases q with
    | nil => simp [prefs]
    | cons y s =>
      simp only [prefs, List.mem_cons, List.mem_map, List.cons_prefix_cons, reduceCtorEq, false_or]
      constructor
      · rintro ⟨z, hz, e⟩
        cases e
        exact ⟨rfl, ih.1 hz⟩
      · rintro ⟨rfl, h⟩
        exact ⟨s, ih.2 h, rfl⟩
def ndp : List Path → List Path
  | [] => []
  | x :: r => if x ∈ ndp r then ndp r else x :: ndp r
theorem mem_ndp {x : Path} {l : List Path} : x ∈ ndp l ↔ x ∈ l := by
  induction l with
  | nil => simp [ndp]
  | cons y r ih =>
    unfold ndp
    split
    · rename_i h
      rw [ih, List.mem_cons]
      constructor
      · exact .inr
      · rintro (rfl | h')
        · exact ih.1 h
        · exact h'
    · rw [List.mem_cons, List.mem_cons, ih]
theorem nodup_ndp (l : List Path) : (ndp l).Nodup := by
  induction l with
  | nil => exact List.nodup_nil
  | cons y r ih =>
    unfold ndp
    split
    · exact ih
    · rename_i h
      exact List.nodup_cons.2 ⟨h, ih⟩
/-- the nodes that hints have -/
def pathsOf (Gs : List Hint) : List Path := ndp ([] :: Gs.flatMap fun g => prefs (levels g.1))
def nodesOf (Gs : List Hint) : Nat := (pathsOf Gs).length
theorem mem_pathsOf {Gs : List Hint} {p : Path} : p ∈ pathsOf Gs ↔ p = [] ∨ ∃ g ∈ Gs, p <+: levels g.1 := by
  unfold pathsOf
  rw [mem_ndp, List.mem_cons, List.mem_flatMap]
  simp only [mem_prefs]
theorem HR.count {n t N : Nat} {w : World} {Gs : List Hint} {F : List Nat} (h : HR n w t Gs N F) : N = nodesOf Gs := by
  obtain ⟨B, Ns, Hs, h1, h2, h3, h4, h5, h6, h7, h8⟩ := h
  have a := h1.tight
  rw [← h6]
  refine ((List.perm_ext_iff_of_nodup a.nn (nodup_ndp _)).2 (fun p => ?_)).length_eq
  rw [a.mem]
  refine Iff.trans ?_ (mem_pathsOf (Gs := Gs)).symm
  constructor
  · rintro (e | ⟨x, hx, hp'⟩)
    · exact .inl e
    · obtain ⟨g, hg, rfl⟩ := List.mem_map.1 (h2.mem_iff.1 hx)
      exact .inr ⟨g, hg, hp'⟩
  · rintro (e | ⟨g, hg, hp'⟩)
    · exact .inl e
    · exact .inr ⟨asPath g, h2.mem_iff.2 (List.mem_map.2 ⟨g, hg, rfl⟩), hp'⟩

def smallG : List Hint := [([35], [122]), ([97, 47, 35], [120]), ([97, 47, 35], [121]), ([97, 47, 43], [120])]
theorem nodes_x (t N n M : Nat) (Gs : List Hint) (w0 : World) (F : List Nat) (w : World) (h : Tr w0 w n t Gs N F) (hM : nodesOf Gs = M) :
    Calls Tryz.prog 16 #[.pointer (some ⟨t, 0, none⟩)] w fun e w' => e = .returned (.int .i64 M) ∧ w = w' := by
  have := hnodes n t N Gs F w h.c
  rwa [h.c.count, hM] at this
theorem add_s1 : addB [] [97, 47, 43] [120] = true ∧ addG [] [97, 47, 43] [120] = [([97, 47, 43], [120])] := by decide +kernel
theorem add_s2 : addB [([97, 47, 43], [120])] [97, 47, 35] [121] = true ∧ addG [([97, 47, 43], [120])] [97, 47, 35] [121] = [([97, 47, 35], [121]), ([97, 47, 43], [120])] := by decide +kernel
theorem add_s3 : addB [([97, 47, 35], [121]), ([97, 47, 43], [120])] [97, 47, 35] [120] = true ∧ addG [([97, 47, 35], [121]), ([97, 47, 43], [120])] [97, 47, 35] [120] = [([97, 47, 35], [120]), ([97, 47, 35], [121]), ([97, 47, 43], [120])] := by decide +kernel
theorem add_s4 : addB [([97, 47, 35], [120]), ([97, 47, 35], [121]), ([97, 47, 43], [120])] [35] [122] = true ∧ addG [([97, 47, 35], [120]), ([97, 47, 35], [121]), ([97, 47, 43], [120])] [35] [122] = smallG := by decide +kernel
theorem told_s : toldG smallG [97, 47, 98] = [[120], [121], [122]] := by decide +kernel
theorem nodes_s : nodesOf smallG = 5 := by decide +kernel

set_option maxRecDepth 100000 in
set_option maxHeartbeats 2000000 in
theorem small_any (w : World) (hT : Tabs w) : Calls Tryz.prog 26 #[] w fun e w' => ∃ t N F, e = .returned (.pointer (some ⟨t, 0, none⟩)) ∧ Tr w w' 4 t smallG N F := by
  have HT := Lib.hid hT
  clear hT
  go_enter Tryz.func26, Tryz.ntmps26
  go_wp2_with fail
  refine (hnew _).mono ?_
  rintro e w1 ⟨t, F, rfl, hq, hu⟩
  have HO := Lib.hid (Tr.start (Below.refl w.heap.size w) hq hu)
  clear hq hu
  go_wp2_with fail
  refine (add_x t _ 0 ⟨#[97, 47, 43]⟩ ⟨#[120]⟩ true _ _ w F _ HO.out HT.out (by decide) (by decide) (by omega) add_s1.1 add_s1.2).mono ?_
  rintro e w2 ⟨rfl, N2, F2, hq, -⟩
  replace HO := Lib.hid hq
  clear hq
  go_wp2_with fail
  refine (add_x t _ _ ⟨#[97, 47, 35]⟩ ⟨#[121]⟩ true _ _ w F2 _ HO.out HT.out (by decide) (by decide) (by omega) add_s2.1 add_s2.2).mono ?_
  rintro e w3 ⟨rfl, N3, F3, hq, -⟩
  replace HO := Lib.hid hq
  clear hq
  go_wp2_with fail
  refine (add_x t _ _ ⟨#[97, 47, 35]⟩ ⟨#[120]⟩ true _ _ w F3 _ HO.out HT.out (by decide) (by decide) (by omega) add_s3.1 add_s3.2).mono ?_
  rintro e w4 ⟨rfl, N4, F4, hq, -⟩
  replace HO := Lib.hid hq
  clear hq
  go_wp2_with fail
  refine (add_x t _ _ ⟨#[35]⟩ ⟨#[122]⟩ true _ _ w F4 _ HO.out HT.out (by decide) (by decide) (by omega) add_s4.1 add_s4.2).mono ?_
  rintro e w5 ⟨rfl, N5, F5, hq, -⟩
  replace HO := Lib.hid hq
  clear hq
  go_wp2_with fail
  go_ret
  exact ⟨t, N5, F5, rfl, HO.out⟩
end
section
open Go Go.RowKit

structure Two (w0 w : World) (n t : Nat) (Gs : List Hint) (N : Nat) (F : List Nat) (m u : Nat) (Us : List Hint) (M : Nat) (G : List Nat) : Prop where
  a : Tr w0 w n t Gs N F
  b : Tr w0 w m u Us M G
  dis : ∀ k ∈ F, k ∉ G
theorem Two.below {w0 w w' : World} {n t N m u M : Nat} {Gs Us : List Hint} {F G : List Nat} (h : Two w0 w n t Gs N F m u Us M G) (hk : Below w.heap.size w w') : Two w0 w' n t Gs N F m u Us M G := ⟨h.a.below hk, h.b.below hk, h.dis⟩
theorem Two.start {w0 w w' : World} {n t N m u M : Nat} {Gs Us : List Hint} {F G : List Nat} (h : Tr w0 w n t Gs N F) (hc : HR m w' u Us M G) (hu : Upd [] G w w') : Two w0 w' n t Gs N F m u Us M G := by
  refine ⟨⟨h.c.mod hu.1 (fun k _ => by simp), h.fF, (updb h.bel (Nat.le_refl _) (by simp) hu).1⟩, Tr.start h.bel hc hu, fun k hk hg => ?_⟩
  have := h.c.lt k hk
  rcases hu.2 k hg with h | h
  · cases h
  · omega
theorem Two.updB {w0 w w' : World} {n t N m u M m' M' : Nat} {Gs Us Us' : List Hint} {F G G' : List Nat} (h : Two w0 w n t Gs N F m u Us M G) (hc : HR m' w' u Us' M' G') (hu : Upd G G' w w') : Two w0 w' n t Gs N F m' u Us' M' G' := by
  have hb := h.b.upd hc hu
  refine ⟨⟨h.a.c.mod hu.1 h.dis, h.a.fF, hb.bel⟩, hb, fun k hk hg => ?_⟩
  have := h.a.c.lt k hk
  rcases hu.2 k hg with h' | h'
  · exact h.dis k hk h'
  · omega
theorem Two.symm {w0 w : World} {n t N m u M : Nat} {Gs Us : List Hint} {F G : List Nat} (h : Two w0 w n t Gs N F m u Us M G) : Two w0 w m u Us M G n t Gs N F := ⟨h.b, h.a, fun k hk hg => h.dis k hg hk⟩
theorem Beside.mod {w w' : World} {F G G' : List Nat} {a : Option Addr} {xs : List Value} (h : Beside w F a xs) (h' : Beside w G a xs) (hu : Upd G G' w w') : Beside w' F a xs := by
  rcases h with h | ⟨b, o, ha, h1, h2, h3⟩
  · exact .inl h
  · rcases h' with h' | ⟨b', o', ha', h1', h2', h3'⟩
    · exact .inl h'
    · rw [ha] at ha'
      cases ha'
      have hr := (Beside.upd (.inr ⟨b, o, ha, h1', h2, h3⟩) hu).row
      exact .inr ⟨b, o, ha, h1, Nat.lt_of_lt_of_le h2 hu.1.size, hr⟩

/-- a row from another place on -/
def rot (d : Nat) (l : List Hint) : List Hint := l.drop (d % l.length) ++ l.take (d % l.length)
theorem rot_perm (d : Nat) (l : List Hint) : (rot d l).Perm l := by
  have := (List.perm_append_comm (l₁ := l.drop (d % l.length)) (l₂ := l.take (d % l.length)))
  rwa [List.take_append_drop] at this
theorem rot_at {d : Nat} {l : List Hint} {i : Nat} (hi : i < l.length) (hk : (i + d) % l.length < l.length) : (rot d l)[i]? = some l[(i + d) % l.length] := by
  have hm : d % l.length < l.length := Nat.mod_lt _ (by omega)
  have he : (i + d) % l.length = (i + d % l.length) % l.length := by rw [Nat.add_mod, Nat.add_mod i (d % l.length), Nat.mod_mod]
  unfold rot
  generalize d % l.length = r at *
  by_cases h : i < l.length - r
  · rw [List.getElem?_append_left (by simp; omega), List.getElem?_drop]
    have : (i + d) % l.length = r + i := by rw [he, Nat.mod_eq_of_lt (by omega)]; omega
    simp only [this]
    exact List.getElem?_eq_getElem (by omega)
  · rw [List.getElem?_append_right (by simp; omega), List.length_drop, List.getElem?_take_of_lt (by omega)]
    have : (i + d) % l.length = i - (l.length - r) := by
      rw [he, show i + r = i - (l.length - r) + l.length by omega, Nat.add_mod_right, Nat.mod_eq_of_lt (by omega)]
    simp only [this]
    exact List.getElem?_eq_getElem (by omega)
theorem rot_len (d : Nat) (l : List Hint) : (rot d l).length = l.length := (rot_perm d l).length_eq
theorem rot_nodup {d : Nat} {l : List Hint} (h : HRising l) : (rot d l).Nodup := ((rot_perm d l).nodup_iff).2 (hrising_nodup h)

theorem mem_ofL {f c : Str} {l : List Hint} : f ∈ ofL c l ↔ (f, c) ∈ l := by
  unfold ofL
  simp only [List.mem_map, List.mem_filter, beq_iff_eq]
  constructor
  · rintro ⟨⟨a, b⟩, ⟨h, rfl⟩, rfl⟩; exact h
  · intro h; exact ⟨_, ⟨h, rfl⟩, rfl⟩
theorem turn_add {f c : Str} {l : List Hint} (h : HRising l) (hn : (f, c) ∉ l) : (insH (f, c) l).erase (f, c) = l :=
  hrising_ext (hrising_erase (hrising_insH h hn) _) h (((perm_insH (f, c) l).erase _).trans (by rw [List.erase_cons_head]))
theorem turn_rem {f c : Str} {l : List Hint} (h : HRising l) (hm : (f, c) ∈ l) : (f, c) ∉ l.erase (f, c) ∧ insH (f, c) (l.erase (f, c)) = l := by
  have hn : (f, c) ∉ l.erase (f, c) := fun e => by
    have := (List.Nodup.mem_erase_iff (hrising_nodup h)).1 e
    exact this.1 rfl
  exact ⟨hn, hrising_ext (hrising_insH (hrising_erase h _) hn) h ((perm_insH _ _).trans (List.perm_cons_erase hm).symm)⟩
end
section
open Go Go.RowKit

theorem all_x (t N n : Nat) (Gs : List Hint) (w0 : World) (F : List Nat) (w : World) (h : Tr w0 w n t Gs N F) (hn : n ≤ 1000) :
    Calls Tryz.prog 13 #[.pointer (some ⟨t, 0, none⟩)] w fun e w' => ∃ a c, e = .returned (.slice a Gs.length c) ∧ Beside w' F a (hintsV Gs) ∧ Below w.heap.size w w' :=
  (hall n t N Gs F w h.c hn).mono fun e w' ⟨v, he, hown, hb⟩ => by
    obtain ⟨a, c, rfl, hB⟩ := Beside.own hown (h.c.lt)
    exact ⟨a, c, he, hB, hb⟩
theorem of_x (t N n : Nat) (c : ByteArray) (L : List Str) (Gs : List Hint) (w0 : World) (F : List Nat) (w : World) (h : Tr w0 w n t Gs N F) (hn : n ≤ 1000) (hL : ofL c.data.toList Gs = L) :
    Calls Tryz.prog 21 #[.pointer (some ⟨t, 0, none⟩), .string c] w fun e w' => ∃ a c, e = .returned (.slice a L.length c) ∧ Row w' a (strs L) ∧ Below w.heap.size w w' := by
  subst hL
  exact (hof n t N c Gs F w h.c hn).mono fun e w' ⟨v, he, hown, hb⟩ => by
    obtain ⟨a, c, rfl, hr, -, -⟩ := ownsRow_row hown
    exact ⟨a, c, he, hr, hb⟩
theorem len_x (t N n m : Nat) (Gs : List Hint) (w0 : World) (F : List Nat) (w : World) (h : Tr w0 w n t Gs N F) (hm : Gs.length = m) :
    Calls Tryz.prog 20 #[.pointer (some ⟨t, 0, none⟩)] w fun e w' => e = .returned (.int .i64 m) ∧ w = w' := by
  subst hm
  exact hlen n t N Gs F w h.c
theorem has_x (b : Bool) (a : Option Addr) (m n : Nat) (l : List Str) (c : ByteArray) (w : World) (ha : Row w a (strs l)) (hl : l.length ≤ 1000000) (hm : l.length = m) (hb : decide (c.data.toList ∈ l) = b) :
    Calls Tryz.prog 23 #[.slice a m n, .string c] w fun e w' => e = .returned (.bool b) ∧ w = w' := by
  subst hb hm
  exact has_any a n l c w ha hl
theorem sameH_x (bb : Bool) (a b : Option Addr) (c d n k : Nat) (l m : List Hint) (w : World) (ha : Row w a (hintsV l)) (hb : Row w b (hintsV m)) (hm : m.length ≤ 100000) (hn : l.length = n) (hk : m.length = k) (hbb : decide (l = m) = bb) :
    Calls Tryz.prog 12 #[.slice a n c, .slice b k d] w fun e w' => e = .returned (.bool bb) ∧ ∃ n, w' = w.drewN n := by
  subst hn hk
  exact sameH_any bb a b c d l m w ha hb hm hbb

set_option maxRecDepth 100000 in
set_option maxHeartbeats 2000000 in
theorem awake_true (w : World) (hT : Tabs w) : Calls Tryz.prog 9 #[] w fun e w' => e = .returned (.bool true) ∧ Below w.heap.size w w' := by
  have HT := Lib.hid hT
  have HSM := Lib.hid (small_any w hT)
  clear hT
  go_enter Tryz.func9, Tryz.ntmps9
  go_wp2_with fail
  refine HSM.out.mono ?_
  rintro e w1 ⟨t, N, F, rfl, hO⟩
  have HO := Lib.hid hO
  clear hO
  go_wp2_with fail
  refine (match_x t N 4 ⟨#[97, 47, 98]⟩ [[120], [121], [122]] _ w F _ HO.out HT.out (by decide) (by omega) told_s).mono ?_
  rintro e w2 ⟨a, c, rfl, hr, hk⟩
  replace HO := Lib.hid (HO.out.below hk)
  have HR := Lib.hid hr
  clear hk hr
  go_wp2_with fail
  have hb3 : Below w2.heap.size w2 (w2.alloc (.cells (strs [[120], [121], [122]]).toArray 9)) := (Below.refl _ _).alloc (Nat.le_refl _) _
  refine (sameT_any true a (some ⟨w2.heap.size, 0, none⟩) c 3 [[120], [121], [122]] [[120], [121], [122]] (w2.alloc (.cells (strs [[120], [121], [122]]).toArray 9)) (HR.out.below hb3 (Nat.le_refl _)) (row_new w2 (strs [[120], [121], [122]]) 9) (by decide) (by decide)).mono ?_
  rintro e w3 ⟨rfl, nd, rfl⟩
  replace HO := Lib.hid ((HO.out.below hb3).drewN nd)
  clear hb3
  generalize (w2.alloc (.cells (strs [[120], [121], [122]]).toArray 9)).drewN nd = W at *
  go_wp2_with fail
  refine (len_x t N 4 4 smallG w F W HO.out rfl).mono ?_
  rintro e w4 ⟨rfl, rfl⟩
  go_wp2_with fail
  refine (nodes_x t N 4 5 smallG w F W HO.out nodes_s).mono ?_
  rintro e w5 ⟨rfl, rfl⟩
  go_wp2_with fail
  go_ret
  exact ⟨rfl, HO.out.bel⟩
end
end Go.Proofs.YtcnjgenacpkdbaaGreatDoor
