import Derived.Test.YtjpefeopfbgnhaaDoorRows
import Derived.Test.YtjpefeopfbgnhaaDoorLib
namespace Go.Proofs.YtjpefeopfbgnhaaDoor
open Go Go.RowKit

theorem T_u8 : ElemT Tryd.prog 26 5 (.int .u8 0) 1 1 := ⟨Tryd.underlying26, by kernel_rfl, rfl, by decide⟩
theorem str_u8 {w : World} {B : Nat} {v : Value} {n : Nat} {l : List UInt8} (hown : w.ownsRow B 5 1 v n (u8s l)) : (convert 26 9 v).run Tryd.prog w = .ok (.string ⟨l.toArray⟩) w :=
  run_string_own Tryd.underlying26 Tryd.underlying5 Tryd.underlying9 hown

theorem str_new1 (w : World) (x : Int) : (convert 26 9 (.slice (some ⟨w.heap.size, 0, none⟩) 1 1)).run Tryd.prog (w.alloc (.cells #[.int .u8 x] 5)) = .ok (.string ⟨#[UInt8.ofNat x.toNat]⟩) (w.alloc (.cells #[.int .u8 x] 5)) :=
  run_string_new Tryd.underlying26 Tryd.underlying5 Tryd.underlying9 [x] 1 w
theorem str_new2 (w : World) (x y : Int) : (convert 26 9 (.slice (some ⟨w.heap.size, 0, none⟩) 2 2)).run Tryd.prog (w.alloc (.cells #[.int .u8 x, .int .u8 y] 5)) = .ok (.string ⟨#[UInt8.ofNat x.toNat, UInt8.ofNat y.toNat]⟩) (w.alloc (.cells #[.int .u8 x, .int .u8 y] 5)) :=
  run_string_new Tryd.underlying26 Tryd.underlying5 Tryd.underlying9 [x, y] 2 w

theorem u8s_one (x : Int) (h0 : 0 ≤ x) (h1 : x < 256) : [Value.int .u8 x] = u8s [UInt8.ofNat x.toNat] := by simp [u8s]; omega
theorem drop_cons_get (s : ByteArray) (k : Nat) (h : k < s.size) : s.data.toList.drop k = s[k] :: s.data.toList.drop (k + 1) :=
  List.drop_eq_getElem_cons (by simpa using h)
theorem byte_lt (c : UInt8) : (c.toNat : Int) < 256 := by have := c.toNat_lt; omega

/-- three numbers as a result -/
def int3 (r : Int × Int × Int) : Value := .tuple #[.int .i64 r.1, .int .i64 r.2.1, .int .i64 r.2.2]
theorem bget (s : ByteArray) (k : Nat) (h : k < s.size) : s.data.toList[k]? = some s[k] := by
  have := drop_cons_get s k h
  rw [← List.head?_drop, this]; rfl

def isWord (x : Int) : Bool := decide (0 ≤ x ∧ x ≤ 65535)
def wordBytes (x : Int) : List UInt8 := [UInt8.ofNat (x.toNat / 256), UInt8.ofNat (x.toNat % 256)]
def wordsM (l : List Int) : List UInt8 := if l.all isWord then l.flatMap wordBytes else []
def wordsE (l : List Int) : Int := if l.all isWord then 0 else 1
theorem wordsM_length (l : List Int) : (l.flatMap wordBytes).length = 2 * l.length := by
  induction l with
  | nil => rfl
  | cons x r ih => simp [wordBytes, ih]; omega
theorem wordBytes_vals (x : Int) (h0 : 0 ≤ x) (h1 : x ≤ 65535) : [Value.int .u8 (x / 256), Value.int .u8 (x % 256)] = u8s (wordBytes x) := by simp [u8s, wordBytes]; omega
theorem take_snoc {α : Type} (l : List α) (k : Nat) (x : α) (h : l[k]? = some x) : l.take (k + 1) = l.take k ++ [x] := by
  obtain ⟨hk, rfl⟩ := List.getElem?_eq_some_iff.1 h
  exact List.take_succ_eq_append_getElem hk
theorem all_not {α : Type} (p : α → Bool) (l : List α) (k : Nat) (x : α) (h : l[k]? = some x) (hp : p x = false) : l.all p = false := by
  rw [List.all_eq_false]
  exact ⟨x, List.mem_of_getElem? h, by simp [hp]⟩

set_option maxRecDepth 100000 in
set_option maxHeartbeats 400000 in
theorem words_any (a : Option Addr) (cap : Nat) (l : List Int) (w : World) (hr : Row w a (ints l)) (hlen : l.length ≤ 1000000) :
    Calls Tryd.prog 25 #[.slice a l.length cap] w fun e w' => e = .returned (.tuple #[.string ⟨(wordsM l).toArray⟩, .int .i64 (wordsE l)]) ∧ Below w.heap.size w w' := by
  go_enter Tryd.func25, Tryd.ntmps25
  go_wp2_with (at_make; refine wpList_mk T_u8 (Below.refl w.heap.size w) (Nat.le_refl _) rfl rfl rfl rfl (by omega) (by omega) (by omega) ?_)
  intro v' w' hown hbel hB
  go_wp2_with fail
  go_loopw [4, 13] (fun s i wr => ∃ (k : Nat), i = .int .i64 k ∧ k ≤ l.length ∧ wr.ownsRow w.heap.size 5 1 s (2 * k) (u8s ((l.take k).flatMap wordBytes)) ∧ Hid ((l.take k).all isWord = true) ∧ Below w.heap.size w wr) (fun _ i _ => (l.length - intOf i).toNat)
  case atStart => exact ⟨0, rfl, by omega, hown, rfl, hbel⟩
  case round =>
    clear hown hbel hB
    obtain ⟨k, rfl, hk, hown, HA, hbel⟩ := hrel
    have hs0 := hbel.size
    by_cases hlt : k < l.length
    · obtain ⟨x, hx⟩ : ∃ x, l[k]? = some x := ⟨l[k], by simp [hlt]⟩
      obtain ⟨b, off, rfl, hcell⟩ := (hr.below hbel (Nat.le_refl _)).at (j := k) (u := .int .i64 x) (by simp [ints, hx])
      have HX := Lib.hid hx
      clear hx hr
      by_cases hw : 0 ≤ x ∧ x ≤ 65535
      · obtain ⟨hw0, hw1⟩ := hw
        go_wp2_with (at_builtin; refine wpList_app T_u8 hown hbel hs0 rfl rfl rfl rfl rfl ?_ (by omega) (by omega) ?_)
        · simp [Value.oneCell']
        intro v' w' hown' hbel' _ _
        have hown2 : w'.ownsRow w.heap.size 5 1 v' (2 * (k + 1)) (u8s ((l.take (k + 1)).flatMap wordBytes)) := by
          rw [take_snoc l k x HX.out, List.flatMap_append, ← u8s_append, List.flatMap_singleton, ← wordBytes_vals x hw0 hw1]; exact hown'
        have HA2 : Hid ((l.take (k + 1)).all isWord = true) := by
          unfold Hid; rw [take_snoc l k x HX.out, List.all_append, HA.out]; simp [isWord, hw0, hw1]
        clear hown hown' HA
        go_wp2_with fail
        go_roundw
        case rel => exact ⟨k + 1, by go_num, by omega, hown2, HA2, hbel'⟩
        case measure => simp [intOf]; omega
      · have HF : Hid (wordsM l = [] ∧ wordsE l = 1) := by
          have := all_not isWord l k x HX.out (by simp [isWord]; omega)
          exact ⟨by simp [wordsM, this], by simp [wordsE, this]⟩
        by_cases hw0 : x < 0
        · go_wp2_with fail
          go_ret2
          exact ⟨by rw [HF.out.1, HF.out.2]; rfl, hbel⟩
        · have hw1 : 65535 < x := by omega
          clear hw
          go_wp2_with fail
          go_ret2
          exact ⟨by rw [HF.out.1, HF.out.2]; rfl, hbel⟩
    · obtain rfl : k = l.length := by omega
      have HF : Hid (wordsM l = l.flatMap wordBytes ∧ wordsE l = 0) := by
        have := HA.out
        rw [List.take_length] at this
        exact ⟨by simp only [wordsM, this, if_true], by simp only [wordsE, this, if_true]⟩
      rw [List.take_length] at hown
      have hstr := str_u8 hown
      clear hr
      go_wp2_with fail
      go_ret2
      exact ⟨by rw [HF.out.1, HF.out.2]; rfl, hbel⟩

def readWordM (l : List UInt8) : Int × Int × Int := match l with
  | a :: b :: _ => ((a.toNat : Int) * (256 : Int) + (b.toNat : Int), 2, 0)
  | _ => (0, 0, 2)

theorem readWordM_short (s : ByteArray) (h : s.size < 2) : readWordM s.data.toList = (0, 0, 2) := by
  have h' : s.data.toList.length < 2 := by simpa using h
  unfold readWordM
  split
  · rename_i hl; rw [hl] at h'; simp at h'; omega
  · rfl
theorem readWordM_long (s : ByteArray) (h0 : 0 < s.size) (h1 : 1 < s.size) : readWordM s.data.toList = ((s[0].toNat : Int) * (256 : Int) + (s[1].toNat : Int), 2, 0) := by
  have e := drop_cons_get s 0 h0
  rw [drop_cons_get s 1 h1, List.drop_zero] at e
  rw [e]; rfl

theorem readWord_any (s : ByteArray) (w : World) (hbig : s.size ≤ 9223372036854775807) :
    Calls Tryd.prog 28 #[.string s] w fun e w' => e = .returned (int3 (readWordM s.data.toList)) ∧ Below w.heap.size w w' := by
  by_cases h2 : s.size < 2
  · have HM := Lib.hid (readWordM_short s h2)
    go_enter Tryd.func28, Tryd.ntmps28
    go_wp2_with fail
    go_ret3
    exact ⟨by rw [HM.out]; rfl, Below.refl _ _⟩
  · have h0 : 0 < s.size := by omega
    have h1 : 1 < s.size := by omega
    have h0' : (0 : Int) < s.size := by omega
    have h1' : (1 : Int) < s.size := by omega
    have HM := Lib.hid (readWordM_long s h0 h1)
    go_enter Tryd.func28, Tryd.ntmps28
    go_wp2_with fail
    go_quiet (fail)
    go_wp2_with fail
    go_ret3
    exact ⟨by rw [HM.out, ← or_word _ _ s[0].toNat_lt s[1].toNat_lt]; rfl, below_draws _⟩

set_option maxRecDepth 100000 in
set_option maxHeartbeats 400000 in
theorem rwords_any (a : Option Addr) (cap : Nat) (l : List Int) (w : World) (hr : Row w a (ints l)) (hlen : l.length ≤ 1000000) :
    Calls Tryd.prog 27 #[.slice a l.length cap] w fun e w' => e = .returned (.tuple #[.string ⟨(wordsM l).toArray⟩, .int .i64 (wordsE l)]) ∧ Below w.heap.size w w' := by
  go_enter Tryd.func27, Tryd.ntmps27
  go_wp2_with fail
  go_loopw [4, 5] (fun s i wr => ∃ (k : Nat) (pre : List UInt8), s = .string ⟨pre.toArray⟩ ∧ i = .int .i64 k ∧ k ≤ l.length ∧ pre.length ≤ 2000000 ∧ Hid (pre = (l.take k).flatMap wordBytes) ∧ Hid ((l.take k).all isWord = true) ∧ Below w.heap.size w wr) (fun _ i _ => (l.length - intOf i).toNat)
  case atStart => exact ⟨0, [], rfl, rfl, by omega, by simp, rfl, rfl, Below.refl _ _⟩
  case round =>
    obtain ⟨k, pre, rfl, rfl, hk, hpl, HP, HA, hbel⟩ := hrel
    by_cases hlt : k < l.length
    · obtain ⟨x, hx⟩ : ∃ x, l[k]? = some x := ⟨l[k], by simp [hlt]⟩
      obtain ⟨b, off, rfl, hcell⟩ := (hr.below hbel (Nat.le_refl _)).at (j := k) (u := .int .i64 x) (by simp [ints, hx])
      have HX := Lib.hid hx
      clear hx hr
      by_cases hw0 : x < 0
      · have HF : Hid (wordsM l = [] ∧ wordsE l = 1) := by
          have := all_not isWord l k x HX.out (by simp [isWord]; omega)
          exact ⟨by simp [wordsM, this], by simp [wordsE, this]⟩
        go_wp2_with fail
        go_ret2
        exact ⟨ret2 (v_str (b := wordsM l) HF.out.1.symm) (v_int HF.out.2.symm), hbel⟩
      by_cases hw1 : 65535 < x
      · have HF : Hid (wordsM l = [] ∧ wordsE l = 1) := by
          have := all_not isWord l k x HX.out (by simp [isWord]; omega)
          exact ⟨by simp [wordsM, this], by simp [wordsE, this]⟩
        go_wp2_with fail
        go_ret2
        exact ⟨ret2 (v_str (b := wordsM l) HF.out.1.symm) (v_int HF.out.2.symm), hbel⟩
      · have HA2 : Hid ((l.take (k + 1)).all isWord = true) := by
          unfold Hid; rw [take_snoc l k x HX.out, List.all_append, HA.out]; simp [isWord]; omega
        have H2 := Lib.hid (show pre ++ [UInt8.ofNat (x / 256).toNat, UInt8.ofNat (x % 256).toNat] = (l.take (k + 1)).flatMap wordBytes by
          rw [HP.out, take_snoc l k x HX.out, List.flatMap_append, List.flatMap_singleton]; congr 1
          have e1 : (x / 256).toNat = x.toNat / 256 := by omega
          have e2 : (x % 256).toNat = x.toNat % 256 := by omega
          rw [e1, e2]; rfl)
        clear HA
        have hkl : (k : Int) < l.length := by omega
        have hk0 : (0 : Int) ≤ k := by omega
        have hlb := World.block_lt_of_cell? wr _ hcell
        have hconv : ∀ (w : World) (x y : Int), (convert 26 9 (.slice (some ⟨w.heap.size, 0, none⟩) 2 2)).run Tryd.prog (w.alloc (.cells #[.int .u8 x, .int .u8 y] 5)).drew = .ok (.string ⟨#[UInt8.ofNat x.toNat, UInt8.ofNat y.toNat]⟩) (w.alloc (.cells #[.int .u8 x, .int .u8 y] 5)).drew := fun w x y => str_new2 w.drew x y
        have e1 : x.tdiv 256 = x / 256 := Int.tdiv_eq_ediv_of_nonneg (by omega)
        have e2 : IntKind.i64.wrap (x / 256) = x / 256 := w_i64 _ (by omega) (by omega)
        have e3 : IntKind.u8.wrap (x / 256) = x / 256 := w_u8 _ (by omega) (by omega)
        have e4 : x.tmod 256 = x % 256 := Int.tmod_eq_emod_of_nonneg (by omega)
        have e5 : IntKind.u8.wrap (x % 256) = x % 256 := w_u8 _ (by omega) (by omega)
        go_wp2_with fail
        go_region_with ((fail))
        all_goals
          clear hconv e1 e2 e3 e4 e5
          go_wp2_with fail
          go_roundw
          case rel => exact ⟨k + 1, _, v_app H2.out, by go_num, by omega, by rw [wordsM_length]; simp; omega, rfl, HA2, (hbel.alloc hbel.size _).drew⟩
          case measure => simp [intOf]; omega
    · obtain rfl : k = l.length := by omega
      have HF : Hid (wordsM l = l.flatMap wordBytes ∧ wordsE l = 0) := by
        have := HA.out
        rw [List.take_length] at this
        exact ⟨by simp only [wordsM, this, if_true], by simp only [wordsE, this, if_true]⟩
      clear hr
      go_wp2_with fail
      go_ret2
      exact ⟨ret2 (v_str (by rw [HF.out.1, HP.out, List.take_length])) (v_int HF.out.2.symm), hbel⟩

theorem rreadWord_any (s : ByteArray) (w : World) (hbig : s.size ≤ 9223372036854775807) :
    Calls Tryd.prog 29 #[.string s] w fun e w' => e = .returned (int3 (readWordM s.data.toList)) ∧ Below w.heap.size w w' := by
  by_cases h2 : s.size < 2
  · have HM := Lib.hid (readWordM_short s h2)
    go_enter Tryd.func29, Tryd.ntmps29
    go_wp2_with fail
    go_ret3
    exact ⟨by rw [HM.out]; rfl, Below.refl _ _⟩
  · have h0 : 0 < s.size := by omega
    have h1 : 1 < s.size := by omega
    have h0' : (0 : Int) < s.size := by omega
    have h1' : (1 : Int) < s.size := by omega
    have HM := Lib.hid (readWordM_long s h0 h1)
    go_enter Tryd.func29, Tryd.ntmps29
    go_wp2_with fail
    go_quiet (fail)
    go_wp2_with fail
    go_ret3
    refine ⟨?_, below_draws _⟩
    rw [HM.out]
    exact ret3 (v_int (add_word _ _ s[0].toNat_lt s[1].toNat_lt)) rfl rfl
end Go.Proofs.YtjpefeopfbgnhaaDoor
