import Derived.Test.YtmnhbbhcilbnoaaNumRef
namespace Go.Proofs.Ytmnhbbhcilbnoaa
open Go Go.RowKit

theorem lenM_length (n : Int) : ((lenM n).length : Int) = sizeM n := by
  unfold lenM
  by_cases hz : sizeM n = 0
  · simp [hz]
  · obtain ⟨h0, h1⟩ : 0 ≤ n ∧ n ≤ 268435455 := by unfold sizeM at hz; split at hz <;> first | omega | simp at hz
    rw [if_neg hz]; exact dig_len n h0 h1

theorem writes_true (n : Int) (l : List UInt8) (x : Int) (h : lenM n = l) (h' : lenE n = x) (w : World) :
    Calls Try.prog 9 #[.int .i64 n, .string ⟨l.toArray⟩, .int .i64 x] w fun e w' => e = .returned (.bool true) ∧ Below w.heap.size w w' := by
  subst h; subst h'
  have hl : (sizeM n == ((lenM n).length : Int)) = true := by rw [lenM_length]; simp
  go_enter Try.func9, Try.ntmps9
  go_wp2_with fail
  refine (len_any _ _).mono ?_
  rintro e w1 ⟨rfl, hb⟩
  go_wp2_with fail
  refine (size_any _ _).mono ?_
  rintro e w2 ⟨rfl, rfl⟩
  go_wp2_with fail
  go_ret
  exact ⟨rfl, hb⟩

theorem reads_true (s : ByteArray) (l : List UInt8) (n u x : Int) (hs : s = ⟨l.toArray⟩) (h : readLenM l = (n, u, x)) (hbig : l.length ≤ 1000000) (w : World) :
    Calls Try.prog 10 #[.string s, .int .i64 n, .int .i64 u, .int .i64 x] w fun e w' => e = .returned (.bool true) ∧ Below w.heap.size w w' := by
  have hsz : s.size ≤ 9223372036854775807 := by rw [hs]; show l.length ≤ _; omega
  have H := Lib.hid (show int3 (readLenM s.data.toList) = .tuple #[.int .i64 n, .int .i64 u, .int .i64 x] by rw [hs]; show int3 (readLenM l) = _; rw [h]; rfl)
  clear hs h
  go_enter Try.func10, Try.ntmps10
  go_wp2_with fail
  refine (readLen_any _ _ hsz).mono ?_
  rintro e w1 ⟨rfl, rfl⟩
  rw [H.out]
  go_wp2_with fail
  go_ret
  exact ⟨rfl, Below.refl _ _⟩

theorem words_of (a : Option Addr) (cap : Nat) (l : List Int) (b : List UInt8) (x : Int) (w : World) (hr : Row w a (ints l)) (hlen : l.length ≤ 1000000) (h : wordsM l = b) (h' : wordsE l = x) :
    Calls Try.prog 11 #[.slice a l.length cap] w fun e w' => e = .returned (.tuple #[.string ⟨b.toArray⟩, .int .i64 x]) ∧ Below w.heap.size w w' := by
  subst h; subst h'; exact words_any a cap l w hr hlen
theorem readWord_of (s : ByteArray) (l : List UInt8) (n u x : Int) (w : World) (hs : s = ⟨l.toArray⟩) (hbig : l.length ≤ 1000000) (h : readWordM l = (n, u, x)) :
    Calls Try.prog 12 #[.string s] w fun e w' => e = .returned (.tuple #[.int .i64 n, .int .i64 u, .int .i64 x]) ∧ Below w.heap.size w w' := by
  have := readWord_any s w (by rw [hs]; show l.length ≤ _; omega)
  rw [hs, show readWordM (⟨l.toArray⟩ : ByteArray).data.toList = (n, u, x) from h] at this
  rw [hs]; exact this

theorem great_any (s : ByteArray) (w : World) :
    Calls Try.prog 14 #[.string s] w fun e w' => e = .returned (.bool (decide ((2000 : Int) < s.size))) ∧ w = w' := by
  go_enter Try.func14, Try.ntmps14
  go_wp2_with fail
  go_ret
  exact ⟨rfl, rfl⟩

set_option maxHeartbeats 1000000 in
theorem awake_true (w : World) :
    Calls Try.prog 13 #[] w fun e w' => e = .returned (.bool true) ∧ Below w.heap.size w w' := by
  go_enter Try.func13, Try.ntmps13
  go_wp2_with fail
  refine (words_any _ _ [1, 65535] _ (row_new _ _ _) (by simp)).mono ?_
  rintro e w1 ⟨rfl, hk⟩
  have hb := bnext ((Below.refl _ _).alloc (Nat.le_refl _) _) (Nat.le_refl _) hk
  clear hk
  rw [show wordsM [1, 65535] = [0, 1, 255, 255] from by decide, show wordsE [1, 65535] = 0 from by decide]
  go_wp2_with fail
  refine (readWord_any _ _ (by decide)).mono ?_
  rintro e w2 ⟨rfl, hk⟩
  replace hb := bnext hb (Nat.le_refl _) hk
  clear hk
  have e1 : readWordM ([1, 2, 3].toArray : Array UInt8).toList = (258, 2, 0) := by decide
  simp only [e1, int3]
  clear e1
  go_wp2_with fail
  refine (writes_true 128 [128, 1] 0 (by decide) (by decide) _).mono ?_
  rintro e w3 ⟨rfl, hk⟩
  replace hb := bnext hb (Nat.le_refl _) hk
  clear hk
  go_wp2_with fail
  refine (writes_true (-1) [] 1 (by decide) (by decide) _).mono ?_
  rintro e w4 ⟨rfl, hk⟩
  replace hb := bnext hb (Nat.le_refl _) hk
  clear hk
  go_wp2_with fail
  refine (reads_true _ [128, 1, 153] 128 2 0 rfl (by decide) (by decide) _).mono ?_
  rintro e w5 ⟨rfl, hk⟩
  replace hb := bnext hb (Nat.le_refl _) hk
  clear hk
  go_wp2_with fail
  refine (reads_true _ [128, 128] 0 0 2 rfl (by decide) (by decide) _).mono ?_
  rintro e w6 ⟨rfl, hk⟩
  replace hb := bnext hb (Nat.le_refl _) hk
  clear hk
  go_wp2_with fail
  go_ret
  exact ⟨rfl, hb⟩
end Go.Proofs.Ytmnhbbhcilbnoaa
