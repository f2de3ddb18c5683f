/- The laws' own helpers, walked: made, said. -/
import Derived.Test.YtagjlmpmbflmhaaDoorKHelp
namespace Go.Proofs.YtagjlmpmbflmhaaDoor
open Go Go.RowKit Go.Maps

/-- a message whose texts are small, as the types have it -/
def Msg.ok (m : Msg) : Prop := m.t.size ≤ 300 ∧ m.p.size ≤ 300 ∧ 0 ≤ m.q ∧ m.q < 256
def allOk (l : List Msg) : Prop := ∀ m ∈ l, m.ok
theorem allOk_setB {m : Msg} {l : List Msg} (hm : m.ok) (hl : allOk l) : allOk (setB m l) := by
  unfold setB
  split
  · unfold setM
    split
    · intro x hx; exact hl x (List.mem_filter.1 hx).1
    · intro x hx
      rcases mem_put hx with rfl | hx
      · exact hm
      · exact hl x hx
  · exact hl
theorem len_setB (m : Msg) (l : List Msg) : (setB m l).length ≤ l.length + 1 := by
  unfold setB
  split
  · unfold setM
    split
    · have := len_del_le m.k l; omega
    · exact len_put_le _ _
  · omega
/-- What is kept, of the call's own. -/
structure One (w0 w : World) (g : Nat) (l : List Msg) (F : List Nat) : Prop where
  c : KRep w g l F
  fF : ∀ k ∈ F, w0.heap.size ≤ k
  bel : Below w0.heap.size w0 w
theorem upd_below {F F' : List Nat} {w w1 w2 : World} {B : Nat} (hb : Below B w w1) (hB : B ≤ w.heap.size) (hF : ∀ k ∈ F, B ≤ k) (hu : Upd F F' w1 w2) : Below B w w2 ∧ ∀ k ∈ F', B ≤ k :=
  ⟨hb.trans (hu.1.below (Nat.le_trans hB hb.size) hF), fun k hk => by
    rcases hu.2 k hk with h | h
    · exact hF k h
    · have := hb.size; omega⟩
theorem One.upd {w0 w w' : World} {g : Nat} {l l' : List Msg} {F F' : List Nat} (h : One w0 w g l F) (hc : KRep w' g l' F') (hu : Upd F F' w w') : One w0 w' g l' F' := by
  obtain ⟨h1, h2⟩ := upd_below h.bel (Nat.le_refl _) h.fF hu
  exact ⟨hc, h2, h1⟩
theorem One.below {w0 w w' : World} {g : Nat} {l : List Msg} {F : List Nat} (h : One w0 w g l F) (hk : Below w.heap.size w w') : One w0 w' g l F := ⟨h.c.below hk, h.fF, bnext h.bel (Nat.le_refl _) hk⟩
theorem One.drewN {w0 w : World} {g : Nat} {l : List Msg} {F : List Nat} (h : One w0 w g l F) (n : Nat) : One w0 (w.drewN n) g l F := ⟨h.c.drewN n, h.fF, below_drewN h.bel n⟩
theorem One.start {w0 w w' : World} {g : Nat} {l : List Msg} {F : List Nat} (hb : Below w0.heap.size w0 w) (h : KRep w' g l F) (hu : Upd [] F w w') : One w0 w' g l F := by
  obtain ⟨h1, h2⟩ := upd_below hb (Nat.le_refl _) (by simp) hu
  exact ⟨h, h2, h1⟩
theorem One.tabs {w0 w : World} {g : Nat} {l : List Msg} {F : List Nat} (h : One w0 w g l F) (hT : Tabs w0) : Tabs w := hT.below h.bel

theorem kset_u (b : Bool) (g : Nat) (m : Msg) (l : List Msg) (F : List Nat) (w : World) (h : KRep w g l F) (hT : Tabs w) (hm : m.ok) (hl : l.length < 1000000) (hb : mayB m = b) :
    Calls Tryd.prog 12 #[.pointer (some ⟨g, 0, none⟩), .agg #[.string m.t, .string m.p, .int .u8 m.q, .bool m.r]] w fun e w' => e = .returned (.bool b) ∧ KRep w' g (setB m l) F ∧ Upd F F w w' := by
  obtain ⟨h1, h2, h3, h4⟩ := hm
  cases b with
  | false =>
    refine (kset_no g m w hT (by omega) h3 h4 hb).mono ?_
    rintro e w' ⟨rfl, hk⟩
    refine ⟨rfl, ?_, Mod.of_below hk _, fun k hk => .inl hk⟩
    have : setB m l = l := by unfold setB; rw [hb]; rfl
    rw [this]; exact h.below hk
  | true =>
    have : setB m l = setM m l := by unfold setB; rw [hb]; rfl
    rw [this]
    exact kset_yes g m l F w h hT (by omega) h3 h4 hb hl

def madeL (l : List Msg) : List Msg := l.foldl (fun k m => setB m k) []
theorem madeL_snoc (l : List Msg) (m : Msg) : madeL (l ++ [m]) = setB m (madeL l) := by simp [madeL]
theorem len_fold (l : List Msg) : ∀ k : List Msg, (l.foldl (fun k m => setB m k) k).length ≤ k.length + l.length := by
  induction l with
  | nil => intro k; simp
  | cons m l ih => intro k; have := ih (setB m k); have := len_setB m k; simp at *; omega
theorem ok_fold {l : List Msg} (h : allOk l) : ∀ k : List Msg, allOk k → allOk (l.foldl (fun k m => setB m k) k) := by
  induction l with
  | nil => intro k hk; exact hk
  | cons m l ih => intro k hk; exact ih (fun x hx => h x (by simp [hx])) _ (allOk_setB (h m (by simp)) hk)
theorem len_made (l : List Msg) : (madeL l).length ≤ l.length := by have := len_fold l []; simpa [madeL] using this
theorem ok_made {l : List Msg} (h : allOk l) : allOk (madeL l) := ok_fold h [] (by simp [allOk])

set_option maxRecDepth 100000 in
set_option maxHeartbeats 2000000 in
theorem made_any (a : Option Addr) (c : Nat) (l : List Msg) (w : World) (ha : Row w a (msgs l)) (hT : Tabs w) (hl : l.length ≤ 100000) (hok : allOk l) :
    Calls Tryd.prog 18 #[.slice a l.length c] w fun e w' => ∃ g F, e = .returned (.pointer (some ⟨g, 0, none⟩)) ∧ One w w' g (madeL l) F := by
  have HA := Lib.hid ha
  have HT := Lib.hid hT
  have HOK := Lib.hid hok
  clear ha hT hok
  go_enter Tryd.func18, Tryd.ntmps18
  go_wp2_with fail
  refine (knew _).mono ?_
  rintro e w1 ⟨g, F, rfl, hq, hu⟩
  have hO := One.start (Below.refl w.heap.size w) hq hu
  clear hq hu
  go_wp2_with fail
  go_loopw [4] (fun i wr => ∃ k : Nat, i = .int .i64 k ∧ k ≤ l.length ∧ One w wr g (madeL (l.take k)) F) (fun i _ => (l.length - intOf i).toNat)
  case atStart => exact ⟨0, rfl, by omega, by simpa [madeL] using hO⟩
  case round =>
    obtain ⟨k, rfl, hk, hW⟩ := hrel
    clear hO
    by_cases hlt : k < l.length
    · obtain ⟨b1, o1, rfl, k0, k1, k2, k3⟩ := msgs_row (HA.out.below hW.bel (Nat.le_refl _)) (k := k) (m := l[k]) (by simp [hlt])
      have hk0 : (0 : Int) ≤ k := by omega
      have hkl : (k : Int) < l.length := by omega
      have HLN := Lib.hid (show (madeL (l.take k)).length < 1000000 by have := len_made (l.take k); rw [List.length_take] at this; omega)
      have HO1 := Lib.hid (HOK.out l[k] (List.getElem_mem hlt))
      have HS := Lib.hid (show madeL (l.take (k + 1)) = setB l[k] (madeL (l.take k)) by rw [List.take_succ_eq_append_getElem hlt, madeL_snoc])
      generalize l[k] = x at *
      have HSET := Lib.hid (kset_u (mayB x) g x _ F wr hW.c (hW.tabs HT.out) HO1.out HLN.out rfl)
      have HW := Lib.hid hW
      clear hW
      obtain ⟨xt, xp, xq, xr⟩ := x
      dsimp only at k0 k1 k2 k3 HSET
      go_wp2_with fail
      refine HSET.out.mono ?_
      rintro e w3 ⟨rfl, hq, hu⟩
      have HW3 := Lib.hid (HW.out.upd hq hu)
      go_wp2_with fail
      go_roundw
      case rel => exact ⟨k + 1, by go_num, by omega, by rw [HS.out]; exact HW3.out⟩
      case measure => simp [intOf]; omega
    · have hkl : ¬ (k : Int) < l.length := by omega
      rw [List.take_of_length_le (by omega)] at hW
      go_wp2_with fail
      go_ret
      exact ⟨g, rfl, F, hW⟩
end Go.Proofs.YtagjlmpmbflmhaaDoor
