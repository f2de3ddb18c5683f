/- text.Count and text.Valid, by the plain count of characters. -/
import Derived.Test.YtcnjgenacpkdbaaDoorTUtf
import Derived.Test.YtcnjgenacpkdbaaDoorKTabs
import Derived.Lib.OthersKept
namespace Go.Proofs.YtcnjgenacpkdbaaDoor
open Go Go.RowKit Go.Lib

theorem whole_any (s : ByteArray) (w : World) (hT : Tabs w) :
    Calls Tryd.prog 58 #[.string s] w fun e w' => e = .returned (.bool (decide (1 < (Lib.decodeGo s).2))) ∧ Below w.heap.size w w' := by
  obtain ⟨R, hR⟩ : ∃ R, (Lib.decodeGo s).1 = R := ⟨_, rfl⟩
  obtain ⟨K, hK⟩ : ∃ K, (Lib.decodeGo s).2 = K := ⟨_, rfl⟩
  have cS := Tryd.utf8_DecodeRuneInString s w hT.1
  rw [hR, hK] at cS
  rw [hK]
  have HC := Lib.hid cS
  clear cS hR hK
  go_enter Tryd.func58, Tryd.ntmps58
  go_wp2_with fail
  refine HC.out.mono ?_
  rintro e w' ⟨rfl, hb⟩
  go_wp2_with fail
  go_ret
  exact ⟨ret_bool (decide_eq_decide.2 (by omega)), hb⟩

theorem whole_at (b : Bool) (s : ByteArray) (p : Nat) (w : World) (hT : Tabs w) (hp : p < s.size) (hb : decide (1 < (Utf8.decode s p).2) = b) :
    Calls Tryd.prog 58 #[.string (s.extract p s.size)] w fun e w' => e = .returned (.bool b) ∧ Below w.heap.size w w' := by
  rw [← hb, ← decodeGo_tail s p hp]
  exact whole_any _ w hT
theorem below_at' {w w' : World} {p : Nat} {x : Obj} (h : w.heap[p]? = some x) (hk : Below w.heap.size w w') : w'.heap[p]? = some x := by
  rw [hk.block p (Array.getElem?_eq_some_iff.1 h).1]; exact h
def leftAt (it n : Nat) (w : World) : Nat := match w.heap[it]? with
  | some (.stringIter _ p) => n - p
  | _ => 0
theorem leftAt_of {it n p : Nat} {w : World} {s : ByteArray} (h : w.heap[it]? = some (.stringIter s p)) : leftAt it n w = n - p := by rw [leftAt, h]

set_option maxRecDepth 100000 in
set_option maxHeartbeats 4000000 in
theorem count_any (s : ByteArray) (w : World) (hT : Tabs w) (hbig : s.size ≤ 9223372036854775807) :
    Calls Tryd.prog 40 #[.string s] w fun e w' => e = .returned (.int .i64 (cntI s.data.toList)) ∧ Below w.heap.size w w' := by
  have hlen : s.data.toList.length = s.size := rfl
  by_cases hlong : 65535 < s.size
  · have HL := Lib.hid (cntI_long (l := s.data.toList) (by omega))
    have hl' : (65535 : Int) < s.size := by omega
    go_enter Tryd.func40, Tryd.ntmps40
    go_wp2_with fail
    go_ret
    exact ⟨by rw [HL.out]; rfl, Below.refl _ _⟩
  have hl' : ¬ (65535 : Int) < s.size := by omega
  have hl'' : decide ((65535 : Int) < s.size) = false := decide_eq_false hl'
  have HT := Lib.hid hT
  clear hT
  go_enter Tryd.func40, Tryd.ntmps40
  go_wp2_with fail
  generalize hit : w.heap.size = it
  have hi0 : (w.iter s 0).heap[it]? = some (.stringIter s 0) := by rw [← hit]; exact World.iter_heap w s 0
  have hb0 : Below it w (w.iter s 0) := by rw [← hit]; exact (Below.refl _ _).alloc (Nat.le_refl _) _
  go_loopw [3] (fun n wr => ∃ k p : Nat, n = .int .i64 k ∧ k ≤ p ∧ p ≤ s.size ∧ wr.heap[it]? = some (.stringIter s p) ∧ Below it w wr ∧ Hid (cnt s.data.toList = (cnt (s.data.toList.drop p)).map (· + k))) (fun _ wr => leftAt it s.size wr)
  case atStart => exact ⟨0, 0, rfl, Nat.le_refl _, Nat.zero_le _, hi0, hb0, by unfold Hid; rw [List.drop_zero]; cases cnt s.data.toList <;> rfl⟩
  case round =>
    obtain ⟨k, p, rfl, hkp, hp, hi, hb, HN⟩ := hrel
    clear hi0 hb0
    by_cases hlt : p < s.size
    · have hnx := fun ty => run_next_any_at (P := Tryd.prog) wr it s p ty hi hlt
      have hd := cw_decode s p
      have hsm := decode_small s p
      have hat := cnt_at HN.out (by omega)
      have hi2 := iterAt_heap wr it s p (p + (Utf8.decode s p).2) hi
      have hb2 := below_iterAt hb (Nat.le_refl it) s (p + (Utf8.decode s p).2)
      have hT2 : Tabs (wr.iterAt it s (p + (Utf8.decode s p).2)) := HT.out.below (by rw [hit]; exact hb2)
      have hw := fun b => whole_at b s p _ hT2 hlt
      have hm0 : leftAt it s.size wr = s.size - p := leftAt_of hi
      have hcl := cw_le (s.data.toList.drop p)
      rw [List.length_drop, hlen] at hcl
      generalize (Utf8.decode s p).1 = c at *
      generalize (Utf8.decode s p).2 = K at *
      generalize wr.iterAt it s (p + K) = W2 at *
      have hp0 : (0 : Int) ≤ p := by omega
      have hps : (p : Int) ≤ s.size := by omega
      by_cases hc : cw (s.data.toList.drop p) = 0
      · have HF := Lib.hid (cntI_none (hat.1 hc))
        clear hat
        rcases hd.1 hc with rfl | ⟨rfl, rfl⟩
        · clear hd hc hw
          go_wp2_with fail
          go_ret
          exact ⟨by rw [HF.out]; rfl, by rw [hit]; exact hb2⟩
        · clear hd hc
          have HW := Lib.hid (hw false rfl)
          clear hw
          go_wp2_with fail
          refine HW.out.mono ?_
          rintro e w6 ⟨rfl, hk⟩
          have hb3 := bnext hb2 (by have := hb.size; have h2 := (Array.getElem?_eq_some_iff.1 hi2).1; omega) hk
          go_wp2_with fail
          go_ret
          exact ⟨by rw [HF.out]; rfl, by rw [hit]; exact hb3⟩
      · obtain ⟨hc0, rfl, hcw⟩ := hd.2 hc
        have HF := Lib.hid (hat.2 hc)
        clear hat hd
        generalize cw (s.data.toList.drop p) = m at *
        by_cases hcr : c = 65533
        · subst hcr
          have HW := Lib.hid (hw true (decide_eq_true (hcw rfl)))
          clear hw
          go_wp2_with fail
          refine HW.out.mono ?_
          rintro e w6 ⟨rfl, hk⟩
          have hi3 := below_at' hi2 hk
          have hb3 := bnext hb2 (by have := hb.size; have h2 := (Array.getElem?_eq_some_iff.1 hi2).1; omega) hk
          have hm1 : leftAt it s.size w6 = s.size - (p + m) := leftAt_of hi3
          go_wp2_with fail
          go_roundw
          case rel => exact ⟨k + 1, p + m, by go_num, by omega, by omega, hi3, hb3, HF⟩
          case measure => rw [hm0, hm1]; omega
        · have hc0b : ((c : Int) == 0) = false := by simp [hc0]
          have hcrb : ((c : Int) == 65533) = false := by simp; omega
          have hm1 : leftAt it s.size W2 = s.size - (p + m) := leftAt_of hi2
          go_wp2_with fail
          go_roundw
          case rel => exact ⟨k + 1, p + m, by go_num, by omega, by omega, hi2, hb2, HF⟩
          case measure => rw [hm0, hm1]; omega
    · have hnx := fun ty => run_next_end_at (P := Tryd.prog) wr it s p ty hi hlt
      have HF := Lib.hid (cntI_some (l := s.data.toList) (n := k) (by omega) (by rw [HN.out, List.drop_eq_nil_of_le (by omega), cnt_nil]; simp))
      go_wp2_with fail
      go_ret
      exact ⟨by rw [HF.out]; rfl, by rw [hit]; exact hb⟩
/-- are the bytes a text? -/
def validI (l : List UInt8) : Bool := decide (0 ≤ cntI l)
theorem valid_any (s : ByteArray) (w : World) (hT : Tabs w) (hbig : s.size ≤ 9223372036854775807) :
    Calls Tryd.prog 29 #[.string s] w fun e w' => e = .returned (.bool (validI s.data.toList)) ∧ Below w.heap.size w w' := by
  have HC := Lib.hid (count_any s w hT hbig)
  obtain ⟨n, hn⟩ : ∃ n, cntI s.data.toList = n := ⟨_, rfl⟩
  rw [validI]
  rw [hn] at HC ⊢
  go_enter Tryd.func29, Tryd.ntmps29
  go_wp2_with fail
  refine HC.out.mono ?_
  rintro e w' ⟨rfl, hb⟩
  go_wp2_with fail
  go_ret
  exact ⟨rfl, hb⟩
end Go.Proofs.YtcnjgenacpkdbaaDoor
