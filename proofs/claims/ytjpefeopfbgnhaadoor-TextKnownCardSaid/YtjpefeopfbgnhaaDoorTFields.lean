/- The fields of texts and of any bytes: the program's calls and the reference's, by plain functions. -/
import Derived.Test.YtjpefeopfbgnhaaDoorTChar
namespace Go.Proofs.YtjpefeopfbgnhaaDoor
open Go Go.RowKit

theorem str_bytes (s : ByteArray) : (⟨s.data.toList.toArray⟩ : ByteArray) = s := by cases s <;> rfl
theorem extract_mid (s : ByteArray) (a b : Nat) : s.extract a b = ⟨((s.data.toList.drop a).take (b - a)).toArray⟩ := by
  rw [← Lib.extract_data]
theorem size_len (s : ByteArray) : s.data.toList.length = s.size := rfl

set_option maxRecDepth 100000 in
set_option maxHeartbeats 4000000 in
theorem rcount_any (s : ByteArray) (w : World) (hbig : s.size ≤ 9223372036854775807) :
    Calls Tryd.prog 17 #[.string s] w fun e w' => e = .returned (.int .i64 (cntI s.data.toList)) ∧ Below w.heap.size w w' := by
  have hlen : s.data.toList.length = s.size := rfl
  by_cases hlong : 65535 < s.size
  · have HL := Lib.hid (cntI_long (l := s.data.toList) (by omega))
    have hl' : (65535 : Int) < s.size := by omega
    go_enter Tryd.func17, Tryd.ntmps17
    go_wp2_with fail
    go_ret
    exact ⟨by rw [HL.out]; rfl, Below.refl _ _⟩
  have hl' : ¬ (65535 : Int) < s.size := by omega
  have hl'' : decide ((65535 : Int) < s.size) = false := decide_eq_false hl'
  go_enter Tryd.func17, Tryd.ntmps17
  go_wp2_with fail
  go_loopw [3, 4] (fun n at_ wr => ∃ k p : Nat, n = .int .i64 k ∧ at_ = .int .i64 p ∧ k ≤ p ∧ p ≤ s.size ∧ Below w.heap.size w wr ∧ Hid (cnt s.data.toList = (cnt (s.data.toList.drop p)).map (· + k))) (fun _ at_ _ => (s.size - intOf at_).toNat)
  case atStart => exact ⟨0, 0, rfl, rfl, Nat.le_refl _, Nat.zero_le _, Below.refl _ _, by unfold Hid; rw [List.drop_zero]; cases cnt s.data.toList <;> rfl⟩
  case round =>
    obtain ⟨k, p, rfl, rfl, hkp, hp, hb, HN⟩ := hrel
    by_cases hlt : p < s.size
    · have hat := cnt_at HN.out (by omega)
      have hcl := cw_le (s.data.toList.drop p)
      rw [List.length_drop, hlen] at hcl
      have hp0 : (0 : Int) ≤ p := by omega
      have hps : (p : Int) ≤ s.size := by omega
      have hpl : (p : Int) < s.size := by omega
      have hext : (s.extract p s.size).data.toList = s.data.toList.drop p := by
        rw [Lib.extract_data, List.take_of_length_le (by rw [List.length_drop]; exact Nat.le_refl _)]
      have hch := character_any (s.extract p s.size)
      rw [hext] at hch
      have hch2 := fun w => hch w (by rw [Lib.tail_size]; omega) (by rw [Lib.tail_size]; omega)
      have HC := Lib.hid hch2
      clear hch hch2
      generalize cw (s.data.toList.drop p) = m at *
      by_cases hc : m = 0
      · have HF := Lib.hid (cntI_none (hat.1 hc))
        clear hat
        subst hc
        go_wp2_with fail
        refine (HC.out _).mono ?_
        rintro e w6 ⟨c, rfl, hk⟩
        have hb3 := bnext hb (Nat.le_refl _) hk
        go_wp2_with fail
        go_ret
        exact ⟨by rw [HF.out]; rfl, hb3⟩
      · have HF := Lib.hid (hat.2 hc)
        clear hat
        have hmb : ((m : Int) == 0) = false := by simp [hc]
        have hw1 : IntKind.i64.wrap ((p : Int) + m) = ((p + m : Nat) : Int) := by rw [w_i64] <;> omega
        generalize hpm : p + m = q at *
        go_wp2_with fail
        refine (HC.out _).mono ?_
        rintro e w6 ⟨c, rfl, hk⟩
        have hb3 := bnext hb (Nat.le_refl _) hk
        go_wp2_with fail
        go_roundw
        case rel => exact ⟨k + 1, q, by go_num, rfl, by omega, by omega, hb3, HF⟩
        case measure => simp [intOf]; omega
    · have HF := Lib.hid (cntI_some (l := s.data.toList) (n := k) (by omega) (by rw [HN.out, List.drop_eq_nil_of_le (by omega), cnt_nil]; simp))
      have hpl : ¬ (p : Int) < s.size := by omega
      go_wp2_with fail
      go_ret
      exact ⟨by rw [HF.out]; rfl, hb⟩
theorem rvalid_any (s : ByteArray) (w : World) (hbig : s.size ≤ 9223372036854775807) :
    Calls Tryd.prog 16 #[.string s] w fun e w' => e = .returned (.bool (validI s.data.toList)) ∧ Below w.heap.size w w' := by
  have HC := Lib.hid (rcount_any s w hbig)
  obtain ⟨n, hn⟩ : ∃ n, cntI s.data.toList = n := ⟨_, rfl⟩
  rw [validI]
  rw [hn] at HC ⊢
  go_enter Tryd.func16, Tryd.ntmps16
  go_wp2_with fail
  refine HC.out.mono ?_
  rintro e w' ⟨rfl, hb⟩
  go_wp2_with fail
  go_ret
  exact ⟨rfl, hb⟩

/-- the field of any bytes, and the error -/
def putM (l : List UInt8) : List UInt8 := if l.length ≤ 65535 then wordBytes l.length ++ l else []
def putE (l : List UInt8) : Int := if l.length ≤ 65535 then 0 else 3
theorem words1 (n : Int) (a : Option Addr) (cap : Nat) (w : World) (hr : Row w a [.int .i64 n]) :
    Calls Tryd.prog 25 #[.slice a 1 cap] w fun e w' => e = .returned (.tuple #[.string ⟨(wordsM [n]).toArray⟩, .int .i64 (wordsE [n])]) ∧ Below w.heap.size w w' := words_any a cap [n] w hr (by simp)
theorem rwords1 (n : Int) (a : Option Addr) (cap : Nat) (w : World) (hr : Row w a [.int .i64 n]) :
    Calls Tryd.prog 27 #[.slice a 1 cap] w fun e w' => e = .returned (.tuple #[.string ⟨(wordsM [n]).toArray⟩, .int .i64 (wordsE [n])]) ∧ Below w.heap.size w w' := rwords_any a cap [n] w hr (by simp)
theorem putData_any (s : ByteArray) (w : World) (hbig : s.size ≤ 9223372036854775807) :
    Calls Tryd.prog 13 #[.string s] w fun e w' => e = .returned (.tuple #[.string ⟨(putM s.data.toList).toArray⟩, .int .i64 (putE s.data.toList)]) ∧ Below w.heap.size w w' := by
  by_cases h : s.size ≤ 65535
  · have HP := Lib.hid (show putM s.data.toList = wordBytes s.size ++ s.data.toList ∧ putE s.data.toList = 0 from ⟨if_pos h, if_pos h⟩)
    have HW := Lib.hid (show wordsM [(s.size : Int)] = wordBytes s.size ∧ wordsE [(s.size : Int)] = 0 by
      have : [(s.size : Int)].all isWord = true := by simp [isWord]; omega
      exact ⟨by simp [wordsM, this], by simp [wordsE, this]⟩)
    go_enter Tryd.func13, Tryd.ntmps13
    go_wp2_with fail
    refine (words1 _ _ _ _ (row_new w [.int .i64 (s.size : Int)] 3)).mono ?_
    rintro e w' ⟨rfl, hb⟩
    rw [HW.out.1, HW.out.2]
    have hcat : ¬ 9223372036854775807 < (wordBytes (s.size : Int)).length + s.size := by simp [wordBytes]; omega
    go_wp2_with fail
    go_ret2
    exact ⟨by rw [HP.out.1, HP.out.2, ← mk_append, str_bytes]; rfl, ((Below.refl w.heap.size w).alloc (Nat.le_refl _) _).trans (hb.mono (by simp))⟩
  · have HP := Lib.hid (show putM s.data.toList = [] ∧ putE s.data.toList = 3 from ⟨if_neg h, if_neg h⟩)
    have HW := Lib.hid (show wordsM [(s.size : Int)] = [] ∧ wordsE [(s.size : Int)] = 1 by
      have : [(s.size : Int)].all isWord = false := by simp [isWord]; omega
      exact ⟨by simp [wordsM, this], by simp [wordsE, this]⟩)
    go_enter Tryd.func13, Tryd.ntmps13
    go_wp2_with fail
    refine (words1 _ _ _ _ (row_new w [.int .i64 (s.size : Int)] 3)).mono ?_
    rintro e w' ⟨rfl, hb⟩
    rw [HW.out.1, HW.out.2]
    go_wp2_with fail
    go_ret2
    exact ⟨by rw [HP.out.1, HP.out.2]; rfl, ((Below.refl w.heap.size w).alloc (Nat.le_refl _) _).trans (hb.mono (by simp))⟩
theorem rputData_any (s : ByteArray) (w : World) (hbig : s.size ≤ 9223372036854775807) :
    Calls Tryd.prog 19 #[.string s] w fun e w' => e = .returned (.tuple #[.string ⟨(putM s.data.toList).toArray⟩, .int .i64 (putE s.data.toList)]) ∧ Below w.heap.size w w' := by
  by_cases h : s.size ≤ 65535
  · have HP := Lib.hid (show putM s.data.toList = wordBytes s.size ++ s.data.toList ∧ putE s.data.toList = 0 from ⟨if_pos h, if_pos h⟩)
    have HW := Lib.hid (show wordsM [(s.size : Int)] = wordBytes s.size ∧ wordsE [(s.size : Int)] = 0 by
      have : [(s.size : Int)].all isWord = true := by simp [isWord]; omega
      exact ⟨by simp [wordsM, this], by simp [wordsE, this]⟩)
    go_enter Tryd.func19, Tryd.ntmps19
    go_wp2_with fail
    refine (rwords1 _ _ _ _ (row_new w [.int .i64 (s.size : Int)] 3)).mono ?_
    rintro e w' ⟨rfl, hb⟩
    rw [HW.out.1, HW.out.2]
    have hcat : ¬ 9223372036854775807 < (wordBytes (s.size : Int)).length + s.size := by simp [wordBytes]; omega
    go_wp2_with fail
    go_ret2
    exact ⟨by rw [HP.out.1, HP.out.2, ← mk_append, str_bytes]; rfl, ((Below.refl w.heap.size w).alloc (Nat.le_refl _) _).trans (hb.mono (by simp))⟩
  · have HP := Lib.hid (show putM s.data.toList = [] ∧ putE s.data.toList = 3 from ⟨if_neg h, if_neg h⟩)
    have HW := Lib.hid (show wordsM [(s.size : Int)] = [] ∧ wordsE [(s.size : Int)] = 1 by
      have : [(s.size : Int)].all isWord = false := by simp [isWord]; omega
      exact ⟨by simp [wordsM, this], by simp [wordsE, this]⟩)
    go_enter Tryd.func19, Tryd.ntmps19
    go_wp2_with fail
    refine (rwords1 _ _ _ _ (row_new w [.int .i64 (s.size : Int)] 3)).mono ?_
    rintro e w' ⟨rfl, hb⟩
    rw [HW.out.1, HW.out.2]
    go_wp2_with fail
    go_ret2
    exact ⟨by rw [HP.out.1, HP.out.2]; rfl, ((Below.refl w.heap.size w).alloc (Nat.le_refl _) _).trans (hb.mono (by simp))⟩

/-- the bytes in the field with which bytes begin: they, how many are used, the error -/
def fieldN (l : List UInt8) : Nat := at0 l 0 * 256 + at0 l 1
def getOk (l : List UInt8) : Bool := decide (2 ≤ l.length ∧ 2 + fieldN l ≤ l.length)
def getM (l : List UInt8) : List UInt8 := if getOk l = true then (l.drop 2).take (fieldN l) else []
def getU (l : List UInt8) : Int := if getOk l = true then 2 + fieldN l else 0
def getE (l : List UInt8) : Int := if getOk l = true then 0 else 2
def got (l : List UInt8) (u e : Int) : Value := .tuple #[.string ⟨l.toArray⟩, .int .i64 u, .int .i64 e]
theorem read_short (s : ByteArray) (h : s.size < 2) : int3 (readWordM s.data.toList) = .tuple #[.int .i64 0, .int .i64 0, .int .i64 2] := by rw [readWordM_short s h]; rfl
theorem read_long (s : ByteArray) (h : ¬ s.size < 2) : int3 (readWordM s.data.toList) = .tuple #[.int .i64 (fieldN s.data.toList : Int), .int .i64 2, .int .i64 0] := by
  rw [readWordM_long s (by omega) (by omega), get_nat, get_nat]; simp [int3, fieldN]
theorem getData_any (s : ByteArray) (w : World) (hbig : s.size ≤ 9223372036854775807) :
    Calls Tryd.prog 22 #[.string s] w fun e w' => e = .returned (got (getM s.data.toList) (getU s.data.toList) (getE s.data.toList)) ∧ Below w.heap.size w w' := by
  have hf : fieldN s.data.toList < 65536 := by unfold fieldN; have := at0_lt s.data.toList 0; have := at0_lt s.data.toList 1; omega
  have HC := Lib.hid (readWord_any s w hbig)
  by_cases h2 : s.size < 2
  · have hok : getOk s.data.toList = false := decide_eq_false (by rw [size_len]; omega)
    have HG := Lib.hid (show getM s.data.toList = [] ∧ getU s.data.toList = 0 ∧ getE s.data.toList = 2 from ⟨by rw [getM, hok]; rfl, by rw [getU, hok]; rfl, by rw [getE, hok]; rfl⟩)
    rw [read_short s h2] at HC
    clear hok hf
    go_enter Tryd.func22, Tryd.ntmps22
    go_wp2_with fail
    refine HC.out.mono ?_
    rintro e w' ⟨rfl, hb⟩
    go_wp2_with fail
    go_ret3
    exact ⟨by rw [HG.out.1, HG.out.2.1, HG.out.2.2]; rfl, hb⟩
  · rw [read_long s h2] at HC
    by_cases hl : s.size < 2 + fieldN s.data.toList
    · have hok : getOk s.data.toList = false := decide_eq_false (by rw [size_len]; omega)
      have HG := Lib.hid (show getM s.data.toList = [] ∧ getU s.data.toList = 0 ∧ getE s.data.toList = 2 from ⟨by rw [getM, hok]; rfl, by rw [getU, hok]; rfl, by rw [getE, hok]; rfl⟩)
      clear hok
      generalize fieldN s.data.toList = n at *
      have hw1 : IntKind.i64.wrap ((s.size : Int) - 2) = (s.size : Int) - 2 := w_i64 _ (by omega) (by omega)
      have hlt : (s.size : Int) - 2 < n := by omega
      go_enter Tryd.func22, Tryd.ntmps22
      go_wp2_with fail
      refine HC.out.mono ?_
      rintro e w' ⟨rfl, hb⟩
      go_wp2_with fail
      go_ret3
      exact ⟨by rw [HG.out.1, HG.out.2.1, HG.out.2.2]; rfl, hb⟩
    · have hok : getOk s.data.toList = true := decide_eq_true (by rw [size_len]; omega)
      have HG := Lib.hid (show getM s.data.toList = (s.data.toList.drop 2).take (fieldN s.data.toList) ∧ getU s.data.toList = 2 + fieldN s.data.toList ∧ getE s.data.toList = 0 from ⟨by rw [getM, hok]; rfl, by rw [getU, hok]; rfl, by rw [getE, hok]; rfl⟩)
      clear hok
      generalize fieldN s.data.toList = n at *
      have HX := Lib.hid (show s.extract 2 (2 + n) = ⟨((s.data.toList.drop 2).take n).toArray⟩ by rw [extract_mid, Nat.add_sub_cancel_left])
      have hw1 : IntKind.i64.wrap ((s.size : Int) - 2) = (s.size : Int) - 2 := w_i64 _ (by omega) (by omega)
      have hlt : ¬ (s.size : Int) - 2 < n := by omega
      obtain ⟨m, hm⟩ : ∃ m, 2 + n = m := ⟨_, rfl⟩
      have hw2 : IntKind.i64.wrap (2 + (n : Int)) = (m : Int) := by rw [w_i64] <;> omega
      have hm0 : (2 : Int) ≤ m := by omega
      have hml : (m : Int) ≤ s.size := by omega
      rw [hm] at HX
      go_enter Tryd.func22, Tryd.ntmps22
      go_wp2_with fail
      refine HC.out.mono ?_
      rintro e w' ⟨rfl, hb⟩
      go_wp2_with fail
      go_ret3
      exact ⟨by rw [HG.out.1, HG.out.2.1, HG.out.2.2, got, ← HX.out, show (2 : Int) + n = m by omega]; rfl, hb⟩
end Go.Proofs.YtjpefeopfbgnhaaDoor
