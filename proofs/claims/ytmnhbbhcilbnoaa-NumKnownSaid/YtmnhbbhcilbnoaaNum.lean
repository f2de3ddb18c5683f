import Derived.Test.YtmnhbbhcilbnoaaRows
import Derived.Test.YtmnhbbhcilbnoaaLib
namespace Go.Proofs.Ytmnhbbhcilbnoaa
open Go Go.RowKit

theorem T_u8 : ElemT Try.prog 42 5 (.int .u8 0) 1 1 := ⟨Try.underlying42, by kernel_rfl, rfl, by decide⟩
theorem str_u8 {w : World} {B : Nat} {v : Value} {n : Nat} {l : List UInt8} (hown : w.ownsRow B 5 1 v n (u8s l)) : (convert 42 9 v).run Try.prog w = .ok (.string ⟨l.toArray⟩) w :=
  run_string_own Try.underlying42 Try.underlying5 Try.underlying9 hown

theorem str_new1 (w : World) (x : Int) : (convert 42 9 (.slice (some ⟨w.heap.size, 0, none⟩) 1 1)).run Try.prog (w.alloc (.cells #[.int .u8 x] 5)) = .ok (.string ⟨#[UInt8.ofNat x.toNat]⟩) (w.alloc (.cells #[.int .u8 x] 5)) :=
  run_string_new Try.underlying42 Try.underlying5 Try.underlying9 [x] 1 w
theorem str_new2 (w : World) (x y : Int) : (convert 42 9 (.slice (some ⟨w.heap.size, 0, none⟩) 2 2)).run Try.prog (w.alloc (.cells #[.int .u8 x, .int .u8 y] 5)) = .ok (.string ⟨#[UInt8.ofNat x.toNat, UInt8.ofNat y.toNat]⟩) (w.alloc (.cells #[.int .u8 x, .int .u8 y] 5)) :=
  run_string_new Try.underlying42 Try.underlying5 Try.underlying9 [x, y] 2 w

/-- the number of bytes of a length -/
def sizeM (n : Int) : Int := if n < 0 ∨ n > 268435455 then 0 else if n < 128 then 1 else if n < 16384 then 2 else if n < 2097152 then 3 else 4

theorem sizeM_bd (n : Int) (h0 : 0 ≤ n) (h1 : n ≤ 268435455) : 1 ≤ sizeM n ∧ sizeM n ≤ 4 := by unfold sizeM; repeat' split <;> omega
theorem sizeM_one (x : Int) (h0 : 0 ≤ x) (h1 : x < 128) : sizeM x = 1 := by unfold sizeM; rw [if_neg (by omega), if_pos h1]
theorem sizeM_step (x : Int) (h0 : 128 ≤ x) (h1 : x ≤ 268435455) : sizeM x = sizeM (x / 128) + 1 := by unfold sizeM; repeat' split <;> omega

set_option maxHeartbeats 400000 in
theorem size_any (n : Int) (w : World)  :
    Calls Try.prog 19 #[.int .i64 n] w fun e w' => e = .returned (.int .i64 (sizeM n)) ∧ w = w' := by
  by_cases hn : n < 0
  · go_enter Try.func19, Try.ntmps19
    go_wp2
    go_ret
    exact ⟨by simp [sizeM, hn], rfl⟩
  · by_cases hm : n > 268435455
    · go_enter Try.func19, Try.ntmps19
      go_wp2
      go_ret
      exact ⟨by simp [sizeM, hm], rfl⟩
    · go_enter Try.func19, Try.ntmps19
      go_wp2
      obtain ⟨h1, h4⟩ := sizeM_bd n (by omega) (by omega)
      go_loop [0, 3] (fun a s => ∃ x k : Int, a = .int .i64 x ∧ s = .int .i64 k ∧ 0 ≤ x ∧ x ≤ 268435455 ∧ 1 ≤ k ∧ k ≤ 4 ∧ k + sizeM x = sizeM n + 1) (fun a _ => (intOf a).toNat)
      case atStart => exact ⟨n, 1, rfl, rfl, by omega, by omega, by omega, by omega, by omega⟩
      case round =>
        obtain ⟨x, k, rfl, rfl, x0, x1, k0, k1, hk⟩ := hrel
        have Hk := Lib.hid hk
        clear hk
        by_cases hx : x < 128
        · go_wp2
          go_ret
          refine ⟨?_, rfl⟩
          have := Hk.out
          have e := sizeM_one x x0 hx
          exact ret_int (by omega)
        · have E := Lib.hid (sizeM_step x (by omega) x1)
          have h3 : k ≤ 3 := by have := Hk.out; have := E.out; have := (sizeM_bd (x / 128) (by omega) (by omega)).1; omega
          go_wp2
          go_round
          case rel => exact ⟨x / 128, k + 1, rfl, rfl, by omega, by omega, by omega, by omega, by have := Hk.out; have := E.out; omega⟩
          case measure => simp [intOf]; omega

/-- the shortest bytes of a length -/
def dig : Nat → Nat → List UInt8
  | 0, n => [UInt8.ofNat n]
  | k + 1, n => if n < 128 then [UInt8.ofNat n] else UInt8.ofNat (n % 128 + 128) :: dig k (n / 128)
theorem dig_small (k n : Nat) (h : n < 128) : dig k n = [UInt8.ofNat n] := by cases k <;> simp [dig, h]
theorem dig_big (k n : Nat) (h : 128 ≤ n) : dig (k + 1) n = UInt8.ofNat (n % 128 + 128) :: dig k (n / 128) := by simp [dig]; omega
theorem u8s_one (x : Int) (h0 : 0 ≤ x) (h1 : x < 256) : [Value.int .u8 x] = u8s [UInt8.ofNat x.toNat] := by simp [u8s]; omega

def lenM (n : Int) : List UInt8 := if sizeM n = 0 then [] else dig 3 n.toNat
def lenE (n : Int) : Int := if sizeM n = 0 then 1 else 0

set_option maxHeartbeats 400000 in
theorem len_any (n : Int) (w : World) :
    Calls Try.prog 15 #[.int .i64 n] w fun e w' => e = .returned (.tuple #[.string ⟨(lenM n).toArray⟩, .int .i64 (lenE n)]) ∧ Below w.heap.size w w' := by
  have hmk : ∀ w, (Instr.makeSlice 42 (.int .i64 0) (.int .i64 4)).run Try.prog w = .ok (.slice (some ⟨w.heap.size, 0, none⟩) 0 4) (w.alloc (.cells #[.int .u8 0,.int .u8 0,.int .u8 0,.int .u8 0] 5)) := fun _ => by kernel_rfl
  by_cases hz : sizeM n = 0
  · go_enter Try.func15, Try.ntmps15
    go_wp2_with fail
    refine (size_any _ _).mono ?_
    rintro e w1 ⟨rfl, rfl⟩
    rw [hz]
    go_wp2_with fail
    go_ret2
    exact ⟨by simp [lenM, lenE, hz], Below.refl _ _⟩
  obtain ⟨h0, h1⟩ : 0 ≤ n ∧ n ≤ 268435455 := by unfold sizeM at hz; split at hz <;> first | omega | simp at hz
  have hs : (sizeM n == 0) = false := by simp [hz]
  have HF := Lib.hid (show lenM n = dig 3 n.toNat ∧ lenE n = 0 from ⟨by simp [lenM, hz], by simp [lenE, hz]⟩)
  clear hz
  go_enter Try.func15, Try.ntmps15
  go_wp2_with fail
  refine (size_any _ _).mono ?_
  rintro e w1 ⟨rfl, rfl⟩
  go_wp2_with fail
  go_loopw [0, 5] (fun a s wr => ∃ (x : Int) (k : Nat) (pre : List UInt8), a = .int .i64 x ∧ 0 ≤ x ∧ x ≤ 268435455 ∧ x < 128 * 128 ^ k ∧ k ≤ 3 ∧ pre.length + k = 3 ∧ wr.ownsRow w.heap.size 5 1 s pre.length (u8s pre) ∧ Hid (pre ++ dig k x.toNat = dig 3 n.toNat) ∧ Below w.heap.size w wr) (fun a _ _ => (intOf a).toNat)
  case atStart =>
    refine ⟨n, 3, [], rfl, h0, h1, by omega, by omega, rfl, ?_, rfl, (Below.refl _ _).alloc (Nat.le_refl _) _⟩
    exact World.ownsRow_made _ _ _ (by simp) (by unfold maxLen; omega) (by simp)
  case round =>
    obtain ⟨x, k, pre, rfl, hx0, hxm, hx1, hk, hp, hown, HD, hbel⟩ := hrel
    have hs0 := hbel.size
    by_cases hx : x < 128
    · go_wp2_with (at_builtin; refine wpList_app T_u8 hown hbel hs0 rfl rfl rfl rfl rfl (by simp [Value.oneCell']) (by omega) (by omega) ?_)
      intro v' w' hown' hbel' _ _
      have hown2 : w'.ownsRow w.heap.size 5 1 v' (pre.length + 1) (u8s (pre ++ [UInt8.ofNat x.toNat])) := by
        rw [← u8s_append, ← u8s_one x hx0 (by omega)]; exact hown'
      have hstr := str_u8 hown2
      go_wp2_with fail
      go_ret2
      refine ⟨?_, hbel'⟩
      have := HD.out
      rw [dig_small k x.toNat (by omega)] at this
      rw [HF.out.1, HF.out.2, ← this]
      rfl
    · go_wp2_with (at_builtin; refine wpList_app T_u8 hown hbel hs0 rfl rfl rfl rfl rfl (by simp [Value.oneCell']) (by omega) (by omega) ?_)
      intro v' w' hown' hbel' _ _
      obtain ⟨k, rfl⟩ : ∃ j, k = j + 1 := ⟨k - 1, by cases k <;> omega⟩
      have hown2 : w'.ownsRow w.heap.size 5 1 v' (pre ++ [UInt8.ofNat (x % 128 + 128).toNat]).length (u8s (pre ++ [UInt8.ofNat (x % 128 + 128).toNat])) := by
        rw [← u8s_append, ← u8s_one _ (by omega) (by omega), List.length_append]; exact hown'
      have HD2 : Hid ((pre ++ [UInt8.ofNat (x % 128 + 128).toNat]) ++ dig k (x / 128).toNat = dig 3 n.toNat) := by
        have := HD.out
        rw [dig_big k x.toNat (by omega)] at this
        unfold Hid
        rw [← this, List.append_assoc]
        have e1 : (x % 128 + 128).toNat = x.toNat % 128 + 128 := by omega
        have e2 : (x / 128).toNat = x.toNat / 128 := by omega
        rw [e1, e2]; rfl
      clear HD hown hown' hmk
      go_wp2_with fail
      go_roundw
      case rel => exact ⟨x / 128, k, _, rfl, by omega, by omega, by have e : (128 : Int) ^ (k + 1) = 128 ^ k * 128 := Int.pow_succ ..; rw [e] at hx1; omega, by omega, by simp; omega, hown2, HD2, hbel'⟩
      case measure => simp [intOf]; omega

/-- the length with which bytes begin: k more digits may come -/
def rdl : Nat → Int → Int → Int → List UInt8 → Int × Int × Int
  | 0, _, _, _, _ => (0, 0, 4)
  | _ + 1, _, _, _, [] => (0, 0, 2)
  | k + 1, used, n, sc, c :: r => if c.toNat < 128 then (n + ((c.toNat : Int) % 128) * sc, used + 1, 0) else rdl k (used + 1) (n + ((c.toNat : Int) % 128) * sc) (sc * 128) r
def readLenM (l : List UInt8) : Int × Int × Int := rdl 4 0 0 1 l

theorem drop_cons_get (s : ByteArray) (k : Nat) (h : k < s.size) : s.data.toList.drop k = s[k] :: s.data.toList.drop (k + 1) :=
  List.drop_eq_getElem_cons (by simpa using h)
theorem byte_lt (c : UInt8) : (c.toNat : Int) < 256 := by have := c.toNat_lt; omega

/-- three numbers as a result -/
def int3 (r : Int × Int × Int) : Value := .tuple #[.int .i64 r.1, .int .i64 r.2.1, .int .i64 r.2.2]

set_option maxRecDepth 100000 in
set_option maxHeartbeats 400000 in
theorem readLen_any (s : ByteArray) (w : World) (hbig : s.size ≤ 9223372036854775807) :
    Calls Try.prog 17 #[.string s] w fun e w' => e = .returned (int3 (readLenM s.data.toList)) ∧ w = w' := by
  go_enter Try.func17, Try.ntmps17
  go_wp2_with fail
  go_loop [2, 3, 5] (fun a u sc => ∃ (n m : Int) (k : Nat), a = .int .i64 n ∧ u = .int .i64 k ∧ sc = .int .i64 m ∧ k ≤ 4 ∧ k ≤ s.size ∧ 0 ≤ n ∧ n < m ∧ m ≤ 268435456 ∧ Hid (m = 128 ^ k) ∧ Hid (rdl (4 - k) k n m (s.data.toList.drop k) = readLenM s.data.toList)) (fun _ u _ => (4 - intOf u).toNat)
  case atStart => exact ⟨0, 1, 0, rfl, rfl, rfl, by omega, by omega, by omega, by omega, by omega, rfl, rfl⟩
  case round =>
    obtain ⟨n, m, k, rfl, rfl, rfl, hk4, hks, hn0, hnm, hm, HM, HR⟩ := hrel
    by_cases hk : k < 4
    · obtain ⟨j, hj⟩ : ∃ j, 4 - k = j + 1 := ⟨3 - k, by omega⟩
      by_cases hks' : k < s.size
      · have hb := byte_lt s[k]
        have hm2 : m ≤ 2097152 := by have := HM.out; have h3 : k = 0 ∨ k = 1 ∨ k = 2 ∨ k = 3 := by omega
                                     rcases h3 with rfl | rfl | rfl | rfl <;> simp at this <;> omega
        have hmul : 0 ≤ ((s[k].toNat : Int) % 128) * m ∧ ((s[k].toNat : Int) % 128) * m ≤ 127 * m := ⟨Int.mul_nonneg (by omega) (by omega), Int.mul_le_mul_of_nonneg_right (by omega) (by omega)⟩
        obtain ⟨hmul0, hmul1⟩ := hmul
        have HR2 := HR.out
        rw [drop_cons_get s k hks', hj, rdl] at HR2
        by_cases hc : s[k].toNat < 128
        · rw [if_pos hc] at HR2
          have HR3 := Lib.hid HR2
          clear HR2 hj
          go_wp2
          go_ret3
          exact ⟨by rw [← HR3.out]; rfl, rfl⟩
        · rw [if_neg hc] at HR2
          have HR3 := Lib.hid HR2
          have HJ := Lib.hid hj
          clear HR2 hj
          have hkk : k + 1 ≤ 4 := hk
          go_wp2
          go_round
          case rel => exact ⟨n + ((s[k].toNat : Int) % 128) * m, m * 128, k + 1, rfl, by go_num, rfl, by omega, by omega, by omega, by omega, by omega, by have := HM.out; unfold Hid; rw [this, Int.pow_succ], by have h := HR3.out; have e : 4 - (k + 1) = j := by {have := HJ.out; omega}; unfold Hid; rw [e]; exact h⟩
          case measure => simp [intOf]; omega
      · have hke : (k : Int) = s.size := by omega
        have HR2 := HR.out
        rw [List.drop_eq_nil_of_le (by simpa using hks'), hj, rdl] at HR2
        have HR3 := Lib.hid HR2
        have hkb : ((k : Int) == (s.size : Int)) = true := by simp; omega
        clear HR2 hj hke
        go_wp2
        go_ret3
        exact ⟨by rw [← HR3.out]; rfl, rfl⟩
    · have e4 : 4 - k = 0 := by omega
      have HR2 := HR.out
      rw [e4, rdl] at HR2
      have HR3 := Lib.hid HR2
      clear HR2 e4
      go_wp2
      go_ret3
      exact ⟨by rw [← HR3.out]; rfl, rfl⟩

def isWord (x : Int) : Bool := decide (0 ≤ x ∧ x ≤ 65535)
def wordBytes (x : Int) : List UInt8 := [UInt8.ofNat (x.toNat / 256), UInt8.ofNat (x.toNat % 256)]
def wordsM (l : List Int) : List UInt8 := if l.all isWord then l.flatMap wordBytes else []
def wordsE (l : List Int) : Int := if l.all isWord then 0 else 1
theorem wordsM_length (l : List Int) : (l.flatMap wordBytes).length = 2 * l.length := by
  induction l with
  | nil => rfl
  | cons x r ih => simp [wordBytes, ih]; omega
theorem wordBytes_vals (x : Int) (h0 : 0 ≤ x) (h1 : x ≤ 65535) : [Value.int .u8 (x / 256), Value.int .u8 (x % 256)] = u8s (wordBytes x) := by simp [u8s, wordBytes]; omega
theorem take_snoc {α : Type} (l : List α) (k : Nat) (x : α) (h : l[k]? = some x) : l.take (k + 1) = l.take k ++ [x] := by
  obtain ⟨hk, rfl⟩ := List.getElem?_eq_some_iff.1 h
  exact List.take_succ_eq_append_getElem hk
theorem all_not {α : Type} (p : α → Bool) (l : List α) (k : Nat) (x : α) (h : l[k]? = some x) (hp : p x = false) : l.all p = false := by
  rw [List.all_eq_false]
  exact ⟨x, List.mem_of_getElem? h, by simp [hp]⟩

set_option maxRecDepth 100000 in
set_option maxHeartbeats 400000 in
theorem words_any (a : Option Addr) (cap : Nat) (l : List Int) (w : World) (hr : Row w a (ints l)) (hlen : l.length ≤ 1000000) :
    Calls Try.prog 11 #[.slice a l.length cap] w fun e w' => e = .returned (.tuple #[.string ⟨(wordsM l).toArray⟩, .int .i64 (wordsE l)]) ∧ Below w.heap.size w w' := by
  go_enter Try.func11, Try.ntmps11
  go_wp2_with (at_make; refine wpList_mk T_u8 (Below.refl w.heap.size w) (Nat.le_refl _) rfl rfl rfl rfl (by omega) (by omega) (by omega) ?_)
  intro v' w' hown hbel hB
  go_wp2_with fail
  go_loopw [4, 13] (fun s i wr => ∃ (k : Nat), i = .int .i64 k ∧ k ≤ l.length ∧ wr.ownsRow w.heap.size 5 1 s (2 * k) (u8s ((l.take k).flatMap wordBytes)) ∧ Hid ((l.take k).all isWord = true) ∧ Below w.heap.size w wr) (fun _ i _ => (l.length - intOf i).toNat)
  case atStart => exact ⟨0, rfl, by omega, hown, rfl, hbel⟩
  case round =>
    clear hown hbel hB
    obtain ⟨k, rfl, hk, hown, HA, hbel⟩ := hrel
    have hs0 := hbel.size
    by_cases hlt : k < l.length
    · obtain ⟨x, hx⟩ : ∃ x, l[k]? = some x := ⟨l[k], by simp [hlt]⟩
      obtain ⟨b, off, rfl, hcell⟩ := (hr.below hbel (Nat.le_refl _)).at (j := k) (u := .int .i64 x) (by simp [ints, hx])
      have HX := Lib.hid hx
      clear hx hr
      by_cases hw : 0 ≤ x ∧ x ≤ 65535
      · obtain ⟨hw0, hw1⟩ := hw
        go_wp2_with (at_builtin; refine wpList_app T_u8 hown hbel hs0 rfl rfl rfl rfl rfl ?_ (by omega) (by omega) ?_)
        · simp [Value.oneCell']
        intro v' w' hown' hbel' _ _
        have hown2 : w'.ownsRow w.heap.size 5 1 v' (2 * (k + 1)) (u8s ((l.take (k + 1)).flatMap wordBytes)) := by
          rw [take_snoc l k x HX.out, List.flatMap_append, ← u8s_append, List.flatMap_singleton, ← wordBytes_vals x hw0 hw1]; exact hown'
        have HA2 : Hid ((l.take (k + 1)).all isWord = true) := by
          unfold Hid; rw [take_snoc l k x HX.out, List.all_append, HA.out]; simp [isWord, hw0, hw1]
        clear hown hown' HA
        go_wp2_with fail
        go_roundw
        case rel => exact ⟨k + 1, by go_num, by omega, hown2, HA2, hbel'⟩
        case measure => simp [intOf]; omega
      · have HF : Hid (wordsM l = [] ∧ wordsE l = 1) := by
          have := all_not isWord l k x HX.out (by simp [isWord]; omega)
          exact ⟨by simp [wordsM, this], by simp [wordsE, this]⟩
        by_cases hw0 : x < 0
        · go_wp2_with fail
          go_ret2
          exact ⟨by rw [HF.out.1, HF.out.2]; rfl, hbel⟩
        · have hw1 : 65535 < x := by omega
          clear hw
          go_wp2_with fail
          go_ret2
          exact ⟨by rw [HF.out.1, HF.out.2]; rfl, hbel⟩
    · obtain rfl : k = l.length := by omega
      have HF : Hid (wordsM l = l.flatMap wordBytes ∧ wordsE l = 0) := by
        have := HA.out
        rw [List.take_length] at this
        exact ⟨by simp only [wordsM, this, if_true], by simp only [wordsE, this, if_true]⟩
      rw [List.take_length] at hown
      have hstr := str_u8 hown
      clear hr
      go_wp2_with fail
      go_ret2
      exact ⟨by rw [HF.out.1, HF.out.2]; rfl, hbel⟩

def readWordM (l : List UInt8) : Int × Int × Int := match l with
  | a :: b :: _ => ((a.toNat : Int) * (256 : Int) + (b.toNat : Int), 2, 0)
  | _ => (0, 0, 2)

theorem readWordM_short (s : ByteArray) (h : s.size < 2) : readWordM s.data.toList = (0, 0, 2) := by
  have h' : s.data.toList.length < 2 := by simpa using h
  unfold readWordM
  split
  · rename_i hl; rw [hl] at h'; simp at h'; omega
  · rfl
theorem readWordM_long (s : ByteArray) (h0 : 0 < s.size) (h1 : 1 < s.size) : readWordM s.data.toList = ((s[0].toNat : Int) * (256 : Int) + (s[1].toNat : Int), 2, 0) := by
  have e := drop_cons_get s 0 h0
  rw [drop_cons_get s 1 h1, List.drop_zero] at e
  rw [e]; rfl

theorem readWord_any (s : ByteArray) (w : World) (hbig : s.size ≤ 9223372036854775807) :
    Calls Try.prog 12 #[.string s] w fun e w' => e = .returned (int3 (readWordM s.data.toList)) ∧ Below w.heap.size w w' := by
  by_cases h2 : s.size < 2
  · have HM := Lib.hid (readWordM_short s h2)
    go_enter Try.func12, Try.ntmps12
    go_wp2_with fail
    go_ret3
    exact ⟨by rw [HM.out]; rfl, Below.refl _ _⟩
  · have h0 : 0 < s.size := by omega
    have h1 : 1 < s.size := by omega
    have h0' : (0 : Int) < s.size := by omega
    have h1' : (1 : Int) < s.size := by omega
    have HM := Lib.hid (readWordM_long s h0 h1)
    go_enter Try.func12, Try.ntmps12
    go_wp2_with fail
    go_quiet (fail)
    go_wp2_with fail
    go_ret3
    exact ⟨by rw [HM.out, ← or_word _ _ s[0].toNat_lt s[1].toNat_lt]; rfl, below_draws _⟩
end Go.Proofs.Ytmnhbbhcilbnoaa
