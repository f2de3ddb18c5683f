/- TextFields' walk. -/
import Derived.Test.YtjpefeopfbgnhaaDoorTAwake
import Derived.Test.YtjpefeopfbgnhaaDoorOpen
namespace Go.Proofs.YtjpefeopfbgnhaaDoor
open Go Go.RowKit

theorem flat_str : Flat Tryd.prog 9 (fun s : ByteArray => [Value.string s]) (fun s => s.size ≤ maxLen) := flat_string Tryd.underlying9
theorem str_len (s : ByteArray) : ([Value.string s] : List Value).length = Tryd.prog.cellsOf 9 := (show (1 : Nat) = Tryd.prog.cellsOf 9 from by kernel_rfl)
theorem str_pos : 0 < Tryd.prog.cellsOf 9 := by rw [← str_len ⟨#[]⟩]; exact Nat.succ_pos _
theorem strs_flat (ls : List ByteArray) : (ls.flatMap fun s => [Value.string s]) = strs ls := by
  induction ls with
  | nil => rfl
  | cons s r ih => rw [List.flatMap_cons, ih]; rfl
theorem puts_of (r : ByteArray) (er : Int) (a : Option Addr) (cap : Nat) (ls : List ByteArray) (w : World) (hT : Tabs w) (hr : Row w a (strs ls)) (hn : ls.length ≤ 1000) (hbig : ∀ s ∈ ls, s.size ≤ 9223372036854775807) (h : (⟨(putsM ls).toArray⟩ : ByteArray) = r ∧ putsE ls = er) :
    Calls Tryd.prog 12 #[.slice a ls.length cap] w fun e w' => e = .returned (.tuple #[.string r, .int .i64 er]) ∧ Below w.heap.size w w' := by
  rw [← h.1, ← h.2]; exact put_any a cap ls w hT hr hn hbig
theorem rputs_of (r : ByteArray) (er : Int) (a : Option Addr) (cap : Nat) (ls : List ByteArray) (w : World) (hr : Row w a (strs ls)) (hn : ls.length ≤ 1000) (hbig : ∀ s ∈ ls, s.size ≤ 9223372036854775807) (h : (⟨(putsM ls).toArray⟩ : ByteArray) = r ∧ putsE ls = er) :
    Calls Tryd.prog 18 #[.slice a ls.length cap] w fun e w' => e = .returned (.tuple #[.string r, .int .i64 er]) ∧ Below w.heap.size w w' := by
  rw [← h.1, ← h.2]; exact rput_any a cap ls w hr hn hbig
theorem putData_of (r : ByteArray) (er : Int) (s : ByteArray) (w : World) (hbig : s.size ≤ 9223372036854775807) (h : (⟨(putM s.data.toList).toArray⟩ : ByteArray) = r ∧ putE s.data.toList = er) :
    Calls Tryd.prog 13 #[.string s] w fun e w' => e = .returned (.tuple #[.string r, .int .i64 er]) ∧ Below w.heap.size w w' := by
  rw [← h.1, ← h.2]; exact putData_any s w hbig
theorem rputData_of (r : ByteArray) (er : Int) (s : ByteArray) (w : World) (hbig : s.size ≤ 9223372036854775807) (h : (⟨(putM s.data.toList).toArray⟩ : ByteArray) = r ∧ putE s.data.toList = er) :
    Calls Tryd.prog 19 #[.string s] w fun e w' => e = .returned (.tuple #[.string r, .int .i64 er]) ∧ Below w.heap.size w w' := by
  rw [← h.1, ← h.2]; exact rputData_any s w hbig
theorem rget_s (r : ByteArray) (u er : Int) (s : ByteArray) (w : World) (hbig : s.size ≤ 9223372036854775807) (h : (⟨(txM s.data.toList).toArray⟩ : ByteArray) = r ∧ txU s.data.toList = u ∧ txE s.data.toList = er) :
    Calls Tryd.prog 21 #[.string s] w fun e w' => e = .returned (.tuple #[.string r, .int .i64 u, .int .i64 er]) ∧ Below w.heap.size w w' := by
  rw [← h.1, ← h.2.1, ← h.2.2]; exact rget_any s w hbig
theorem rgetData_s (r : ByteArray) (u er : Int) (s : ByteArray) (w : World) (hbig : s.size ≤ 9223372036854775807) (h : (⟨(getM s.data.toList).toArray⟩ : ByteArray) = r ∧ getU s.data.toList = u ∧ getE s.data.toList = er) :
    Calls Tryd.prog 23 #[.string s] w fun e w' => e = .returned (.tuple #[.string r, .int .i64 u, .int .i64 er]) ∧ Below w.heap.size w w' := by
  rw [← h.1, ← h.2.1, ← h.2.2]; exact rgetData_any s w hbig

set_option maxRecDepth 100000 in
set_option maxHeartbeats 4000000 in
theorem fields_true (a : Option Addr) (cap : Nat) (ls : List ByteArray) (s : ByteArray) (w : World) (hT : Tabs w) (hr : Row w a (strs ls)) (hbig : ∀ s ∈ ls, s.size ≤ 9223372036854775807) (hs : s.size ≤ 9223372036854775807) :
    Calls Tryd.prog 5 #[.slice a ls.length cap, .string s] w fun e w' => e = .returned (.bool true) ∧ Below w.heap.size w w' := by
  have HT := Lib.hid hT
  have HR := Lib.hid hr
  have HB := Lib.hid hbig
  clear hT hr hbig
  have hb : Below w.heap.size w w := Below.refl _ _
  by_cases h20 : (20 : Int) < ls.length
  · skip
    go_enter Tryd.func5, Tryd.ntmps5
    go_wp2_with fail
    refine (awake_true _ HT.out).mono ?_
    rintro e w1 ⟨rfl, hk⟩
    replace hb := bnext hb (Nat.le_refl _) hk
    clear hk
    go_wp2_with fail
    go_ret
    exact ⟨rfl, hb⟩
  have h20b : decide ((20 : Int) < ls.length) = false := decide_eq_false h20
  by_cases hg : 3000 < s.size
  · skip
    go_enter Tryd.func5, Tryd.ntmps5
    go_wp2_with fail
    refine (great_of true s w (decide_eq_true hg)).mono ?_
    rintro e w' ⟨rfl, rfl⟩
    go_wp2_with fail
    refine (awake_true _ HT.out).mono ?_
    rintro e w1 ⟨rfl, hk⟩
    replace hb := bnext hb (Nat.le_refl _) hk
    clear hk
    go_wp2_with fail
    go_ret
    exact ⟨rfl, hb⟩
  obtain ⟨p1, p2, hp⟩ : ∃ x y, (⟨(putsM ls).toArray⟩ : ByteArray) = x ∧ putsE ls = y := ⟨_, _, rfl, rfl⟩
  obtain ⟨d1, d2, hd⟩ : ∃ x y, (⟨(putM s.data.toList).toArray⟩ : ByteArray) = x ∧ putE s.data.toList = y := ⟨_, _, rfl, rfl⟩
  obtain ⟨t1, t2, t3, ht⟩ : ∃ x y z, (⟨(txM s.data.toList).toArray⟩ : ByteArray) = x ∧ txU s.data.toList = y ∧ txE s.data.toList = z := ⟨_, _, _, rfl, rfl, rfl⟩
  obtain ⟨u1, u2, u3, hu⟩ : ∃ x y z, (⟨(getM s.data.toList).toArray⟩ : ByteArray) = x ∧ getU s.data.toList = y ∧ getE s.data.toList = z := ⟨_, _, _, rfl, rfl, rfl⟩
  have HP := Lib.hid hp
  have HD := Lib.hid hd
  have HX := Lib.hid ht
  have HU := Lib.hid hu
  clear hp hd ht hu
  go_enter Tryd.func5, Tryd.ntmps5
  go_wp2_with fail
  refine (great_of false s w (decide_eq_false hg)).mono ?_
  rintro e w' ⟨rfl, rfl⟩
  go_wp2_with fail
  clear hb
  go_loopw [5] (fun i wr => ∃ k : Nat, i = .int .i64 k ∧ k ≤ ls.length ∧ wr = w) (fun i _ => (ls.length - intOf i).toNat)
  case atStart => exact ⟨0, rfl, by omega, rfl⟩
  case round =>
    obtain ⟨k, rfl, hk, rfl⟩ := hrel
    by_cases hlt : k < ls.length
    · obtain ⟨x, hx⟩ : ∃ x, ls[k]? = some x := ⟨ls[k], by simp [hlt]⟩
      obtain ⟨b, off, rfl, hcell⟩ := HR.out.at (j := k) (u := .string x) (by simp [strs, hx])
      have hk0 : (0 : Int) ≤ k := by omega
      have hkl : (k : Int) < ls.length := by omega
      clear hx
      have hb : Below wr.heap.size wr wr := Below.refl _ _
      by_cases hgx : 3000 < x.size
      · skip
        go_wp2_with fail
        refine (great_of true x _ (decide_eq_true hgx)).mono ?_
        rintro e w' ⟨rfl, rfl⟩
        go_wp2_with fail
        refine (awake_true _ HT.out).mono ?_
        rintro e w1 ⟨rfl, hk⟩
        replace hb := bnext hb (Nat.le_refl _) hk
        clear hk
        go_wp2_with fail
        go_ret
        exact ⟨rfl, hb⟩
      · skip
        go_wp2_with fail
        refine (great_of false x _ (decide_eq_false hgx)).mono ?_
        rintro e w' ⟨rfl, rfl⟩
        clear hb
        go_wp2_with fail
        go_roundw
        case rel => exact ⟨k + 1, by go_num, by omega, trivial⟩
        case measure => simp [intOf]; omega
    · have hkl : ¬ (k : Int) < ls.length := by omega
      have hb : Below wr.heap.size wr wr := Below.refl _ _
      go_wp2_with fail
      refine (puts_of p1 p2 _ _ ls _ HT.out HR.out (by omega) HB.out HP.out).mono ?_
      rintro e w1 ⟨rfl, hk⟩
      replace hb := bnext hb (Nat.le_refl _) hk
      clear hk
      go_wp2_with fail
      refine (rputs_of p1 p2 _ _ ls _ (HR.out.below hb (Nat.le_refl _)) (by omega) HB.out HP.out).mono ?_
      rintro e w2 ⟨rfl, hk⟩
      replace hb := bnext hb (Nat.le_refl _) hk
      clear hk
      go_wp2_with fail
      refine (putData_of d1 d2 s _ hs HD.out).mono ?_
      rintro e w3 ⟨rfl, hk⟩
      replace hb := bnext hb (Nat.le_refl _) hk
      clear hk
      go_wp2_with fail
      refine (rputData_of d1 d2 s _ hs HD.out).mono ?_
      rintro e w4 ⟨rfl, hk⟩
      replace hb := bnext hb (Nat.le_refl _) hk
      clear hk
      go_wp2_with fail
      refine (get_s t1 t2 t3 s _ (HT.out.below hb) hs HX.out).mono ?_
      rintro e w5 ⟨rfl, hk⟩
      replace hb := bnext hb (Nat.le_refl _) hk
      clear hk
      go_wp2_with fail
      refine (rget_s t1 t2 t3 s _ hs HX.out).mono ?_
      rintro e w6 ⟨rfl, hk⟩
      replace hb := bnext hb (Nat.le_refl _) hk
      clear hk
      go_wp2_with fail
      refine (getData_s u1 u2 u3 s _ hs HU.out).mono ?_
      rintro e w7 ⟨rfl, hk⟩
      replace hb := bnext hb (Nat.le_refl _) hk
      clear hk
      go_wp2_with fail
      refine (rgetData_s u1 u2 u3 s _ hs HU.out).mono ?_
      rintro e w8 ⟨rfl, hk⟩
      replace hb := bnext hb (Nat.le_refl _) hk
      clear hk
      go_wp2_with fail
      refine (awake_true _ (HT.out.below hb)).mono ?_
      rintro e w9 ⟨rfl, hk⟩
      replace hb := bnext hb (Nat.le_refl _) hk
      clear hk
      go_wp2_with fail
      go_ret
      exact ⟨rfl, hb⟩
end Go.Proofs.YtjpefeopfbgnhaaDoor
