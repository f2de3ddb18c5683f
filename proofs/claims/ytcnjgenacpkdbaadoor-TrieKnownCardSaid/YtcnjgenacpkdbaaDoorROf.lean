/- The trie: Of walked. -/
import Derived.Test.YtcnjgenacpkdbaaDoorRAll2
namespace Go.Proofs.YtcnjgenacpkdbaaDoor
open Go Go.RowKit Go.Maps Go.Lib Go.Sort

theorem hints_row {w : World} {a : Option Addr} {l : List Hint} {k : Nat} (h : Row w a (hintsV l)) (hk : k < l.length) : ∃ b o, a = some ⟨b, o, none⟩ ∧ w.cell? ⟨b, o + k * 2, none⟩ = some (.string ⟨l[k].1.toArray⟩) ∧ w.cell? ⟨b, o + k * 2 + 1, none⟩ = some (.string ⟨l[k].2.toArray⟩) := by
  obtain ⟨h1, h2⟩ := hintsV_at hk
  rcases h with h | ⟨b, o, rfl, hc⟩
  · rw [h] at h1; cases h1
  · exact ⟨b, o, rfl, hc _ _ h1, by have := hc _ _ h2; rwa [← Nat.add_assoc] at this⟩
/-- a client's filters -/
def ofL (c : Str) (l : List Hint) : List Str := (l.filter fun h => h.2 == c).map (·.1)
theorem row_base {W : World} {base base' : Nat} {e : TypeId} {size : Nat} {v : Value} {k : Nat} {xs : List Value} (h : W.ownsRow base e size v k xs) (hb : base' ≤ base) : W.ownsRow base' e size v k xs := by
  refine ⟨h.1, ?_⟩
  rcases h.2 with hn | ⟨b, cap, cur, rfl, hb', rest⟩
  · exact .inl hn
  · exact .inr ⟨b, cap, cur, rfl, Nat.le_trans hb hb', rest⟩
theorem ofL_step {c : Str} {l : List Hint} {k : Nat} (hk : k < l.length) : ofL c (l.take (k + 1)) = if l[k].2 == c then ofL c (l.take k) ++ [l[k].1] else ofL c (l.take k) := by
  rw [List.take_succ_eq_append_getElem hk]
  unfold ofL
  rw [List.filter_append, List.map_append]
  by_cases h : (l[k].2 == c) = true
  · simp [h]
  · simp [h]
theorem ofL_len (c : Str) (l : List Hint) (k : Nat) : (ofL c (l.take k)).length ≤ k := by
  unfold ofL
  rw [List.length_map]
  exact Nat.le_trans (List.length_filter_le _ _) (by simp; omega)
theorem strs_app2 (a b : List Str) : strs (a ++ b) = strs a ++ strs b := by simp [strs]

set_option maxRecDepth 100000 in
set_option maxHeartbeats 4000000 in
theorem tof_any (t B : Nat) (c : ByteArray) (Ns : List Path) (Hs : List (Path × Str)) (F : List Nat) (w : World) (h : PRep w t B Ns Hs F) (hH : Hs.length < 1000000) (hN : ∀ q ∈ Ns, q.length < 1000000) (hJ : ∀ h ∈ Hs, h.1 ≠ [] ∧ (joinP h.1).length ≤ 1000000) (Gs : List Hint) (hG : HRising Gs) (hp : (Hs.map asHint).Perm Gs) :
    Calls Tryd.prog 7 #[.pointer (some ⟨t, 0, none⟩), .string c] w fun e w' => ∃ v, e = .returned v ∧ w'.ownsRow w.heap.size 9 1 v (ofL c.data.toList Gs).length (strs (ofL c.data.toList Gs)) ∧ Below w.heap.size w w' := by
  have HALL := Lib.hid (tall_any t B Ns Hs F w h hH hN hJ Gs hG hp)
  have hgl : Gs.length < 1000000 := by rw [← hp.length_eq]; simpa using hH
  clear h hN hJ hG hp hH
  go_enter Tryd.func7, Tryd.ntmps7
  go_wp2_with fail
  refine HALL.out.mono ?_
  rintro e w1 ⟨v, rfl, hown, hb1⟩
  obtain ⟨a, cap, rfl, hra, -, -⟩ := ownsRow_row hown
  have HA := Lib.hid hra
  have HB1 := Lib.hid hb1
  clear hown hra hb1
  go_wp2_with fail
  go_loopw [5, 11] (fun u i wr => ∃ k : Nat, i = .int .i64 k ∧ k ≤ Gs.length ∧ wr.ownsRow w1.heap.size 9 1 u (ofL c.data.toList (Gs.take k)).length (strs (ofL c.data.toList (Gs.take k))) ∧ Below w1.heap.size w1 wr) (fun _ i _ => (Gs.length - intOf i).toNat)
  case atStart => exact ⟨0, rfl, by omega, by simpa [ofL, strs] using World.ownsRow_nil w1 w1.heap.size 9 1, Below.refl _ _⟩
  case round =>
    obtain ⟨k, rfl, hk, hown, hb⟩ := hrel
    have hsz := hb.size
    obtain ⟨a2, cap2, rfl, -, -, -⟩ := ownsRow_row hown
    by_cases hlt : k < Gs.length
    · obtain ⟨b1, o1, rfl, k0, k1⟩ := hints_row (HA.out.below hb (Nat.le_refl _)) hlt
      have HST := Lib.hid (ofL_step (c := c.data.toList) hlt)
      have hln := ofL_len c.data.toList Gs k
      have hk0 : (0 : Int) ≤ k := by omega
      have hkl : (k : Int) < Gs.length := by omega
      generalize Gs[k] = x at *
      obtain ⟨xf, xc⟩ := x
      simp only at k0 k1
      obtain ⟨b, hbq⟩ : ∃ b, (xc == c.data.toList) = b := ⟨_, rfl⟩
      have hq : (xc == c.toList) = b := by rw [Lib.toList_data]; exact hbq
      have HBQ := Lib.hid hbq
      clear hbq
      have hb2 : Below w1.heap.size w1 (wr.alloc (.cells #[.string ⟨xf.toArray⟩, .string ⟨xc.toArray⟩] 49)) := hb.alloc hsz _
      have hown2 := hown.alloc (.cells #[.string ⟨xf.toArray⟩, .string ⟨xc.toArray⟩] 49)
      have hsz2 : w1.heap.size ≤ (wr.alloc (.cells #[.string ⟨xf.toArray⟩, .string ⟨xc.toArray⟩] 49)).heap.size := by simp; omega
      have hw1 : IntKind.i64.wrap ((k : Int) + 1) = (k : Int) + 1 := w_i64 _ (by omega) (by omega)
      have HO2 := Lib.hid hown2
      have HB2 := Lib.hid hb2
      cases b with
      | false =>
        rw [HBQ.out, if_neg (by simp)] at HST
        clear hown hb hb2 hown2
        go_wp2_with fail
        go_roundw
        case rel => exact ⟨k + 1, rfl, by omega, by rw [HST.out]; exact HO2.out, HB2.out⟩
        case measure => simp [intOf]; omega
      | true =>
        rw [HBQ.out, if_pos rfl] at HST
        clear hown hb
        go_wp2_with (first
          | (at_builtin; refine wpList_app (m := 1) (c := 1) (cur := #[.string ⟨xf.toArray⟩]) T_strs hown2 hb2 hsz2 rfl rfl rfl (by rw [World.size_alloc]; rfl) (by rfl) (by simp [Value.oneCell']) (by omega) (by omega) ?_; intro v' w3 hown' hbel3 hsz3 hlt3; go_frame)
          | fail)
        go_roundw
        case rel => exact ⟨k + 1, rfl, by omega, by rw [HST.out, List.length_append, strs_app2]; exact hown', hbel3⟩
        case measure => simp [intOf]; omega
    · have hge : k = Gs.length := by omega
      subst hge
      simp only [List.take_length] at hown ⊢
      have HO := Lib.hid (row_base hown HB1.out.size)
      have HB := Lib.hid (bnext HB1.out (Nat.le_refl _) hb)
      have hn : ((Gs.length : Int) < Gs.length) = False := by simp
      clear hown hb
      go_wp2_with fail
      go_ret
      exact ⟨_, rfl, HO.out, HB.out⟩
end Go.Proofs.YtcnjgenacpkdbaaDoor
