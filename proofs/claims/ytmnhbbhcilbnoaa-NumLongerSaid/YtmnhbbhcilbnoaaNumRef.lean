import Derived.Test.YtmnhbbhcilbnoaaNum
namespace Go.Proofs.Ytmnhbbhcilbnoaa
open Go Go.RowKit

set_option maxHeartbeats 400000 in
theorem power_any (k : Int) (w : World) (h0 : 0 ≤ k) (h4 : k ≤ 4) :
    Calls Try.prog 23 #[.int .i64 k] w fun e w' => e = .returned (.int .i64 (128 ^ k.toNat)) ∧ w = w' := by
  go_enter Try.func23, Try.ntmps23
  go_wp2_with fail
  go_loop [3, 4] (fun p i => ∃ j m : Int, p = .int .i64 m ∧ i = .int .i64 j ∧ 0 ≤ j ∧ j ≤ k ∧ 1 ≤ m ∧ m ≤ 268435456 ∧ Hid (m = 128 ^ j.toNat)) (fun _ i => (k - intOf i).toNat)
  case atStart => exact ⟨0, 1, rfl, rfl, by omega, by omega, by omega, by omega, rfl⟩
  case round =>
    obtain ⟨j, m, rfl, rfl, j0, jk, m0, m1, HM⟩ := hrel
    by_cases hj : j < k
    · go_wp2_with fail
      go_round
      case rel =>
        have h3 : j = 0 ∨ j = 1 ∨ j = 2 ∨ j = 3 := by omega
        have := HM.out
        refine ⟨j + 1, m * 128, rfl, rfl, by omega, by omega, by omega, ?_, ?_⟩
        · rcases h3 with rfl | rfl | rfl | rfl <;> simp at this <;> omega
        · unfold Hid; rw [this, show (j + 1).toNat = j.toNat + 1 by omega, Int.pow_succ]
      case measure => simp [intOf]; omega
    · obtain rfl : j = k := by omega
      go_wp2_with fail
      go_ret
      exact ⟨ret_int HM.out, rfl⟩

set_option maxHeartbeats 400000 in
theorem rsize_any (n : Int) (w : World)  :
    Calls Try.prog 20 #[.int .i64 n] w fun e w' => e = .returned (.int .i64 (sizeM n)) ∧ w = w' := by
  by_cases hn : n < 0
  · go_enter Try.func20, Try.ntmps20
    go_wp2
    go_ret
    exact ⟨by simp [sizeM, hn], rfl⟩
  by_cases hm : n > 268435455
  · go_enter Try.func20, Try.ntmps20
    go_wp2
    go_ret
    exact ⟨by simp [sizeM, hm], rfl⟩
  go_enter Try.func20, Try.ntmps20
  go_wp2_with fail
  go_loop [3] (fun c => ∃ k : Int, c = .int .i64 k ∧ 1 ≤ k ∧ k ≤ 4 ∧ sizeM n ≤ k) (fun c => (intOf c).toNat)
  case atStart => exact ⟨4, rfl, by omega, by omega, (sizeM_bd n (by omega) (by omega)).2⟩
  case round =>
    obtain ⟨k, rfl, k0, k4, hk⟩ := hrel
    have Hk := Lib.hid hk
    clear hk
    have h1 : k = 1 ∨ k = 2 ∨ k = 3 ∨ k = 4 := by omega
    rcases h1 with rfl | rfl | rfl | rfl
    · go_wp2_with fail
      go_ret
      have := Hk.out
      have := (sizeM_bd n (by omega) (by omega)).1
      exact ⟨ret_int (by omega), rfl⟩
    · by_cases hc : n < 128
      · go_wp2_with fail
        refine (power_any 1 _ (by omega) (by omega)).mono ?_
        rintro e w1 ⟨rfl, rfl⟩
        go_wp2_with fail
        go_round
        case rel => exact ⟨1, rfl, by omega, by omega, by rw [sizeM_one n (by omega) hc]; omega⟩
        case measure => simp [intOf]
      · go_wp2_with fail
        refine (power_any 1 _ (by omega) (by omega)).mono ?_
        rintro e w1 ⟨rfl, rfl⟩
        go_wp2_with fail
        go_ret
        exact ⟨ret_int (by have := Hk.out; unfold sizeM at *; repeat' split <;> omega), rfl⟩
    · by_cases hc : n < 16384
      · go_wp2_with fail
        refine (power_any 2 _ (by omega) (by omega)).mono ?_
        rintro e w1 ⟨rfl, rfl⟩
        go_wp2_with fail
        go_round
        case rel => exact ⟨2, rfl, by omega, by omega, by unfold sizeM; repeat' split <;> omega⟩
        case measure => simp [intOf]
      · go_wp2_with fail
        refine (power_any 2 _ (by omega) (by omega)).mono ?_
        rintro e w1 ⟨rfl, rfl⟩
        go_wp2_with fail
        go_ret
        exact ⟨ret_int (by have := Hk.out; unfold sizeM at *; repeat' split <;> omega), rfl⟩
    · by_cases hc : n < 2097152
      · go_wp2_with fail
        refine (power_any 3 _ (by omega) (by omega)).mono ?_
        rintro e w1 ⟨rfl, rfl⟩
        go_wp2_with fail
        go_round
        case rel => exact ⟨3, rfl, by omega, by omega, by unfold sizeM; repeat' split <;> omega⟩
        case measure => simp [intOf]
      · go_wp2_with fail
        refine (power_any 3 _ (by omega) (by omega)).mono ?_
        rintro e w1 ⟨rfl, rfl⟩
        go_wp2_with fail
        go_ret
        exact ⟨ret_int (by have := Hk.out; unfold sizeM at *; repeat' split <;> omega), rfl⟩

theorem dig_len (n : Int) (h0 : 0 ≤ n) (h1 : n ≤ 268435455) : ((dig 3 n.toNat).length : Int) = sizeM n := by
  obtain ⟨m, rfl⟩ := Int.eq_ofNat_of_zero_le h0
  rw [Int.toNat_natCast]
  by_cases c1 : m < 128
  · rw [dig_small _ _ c1, sizeM_one _ h0 (by omega)]; rfl
  rw [dig_big _ _ (by omega), sizeM_step _ (by omega) h1]
  by_cases c2 : m / 128 < 128
  · rw [dig_small _ _ c2, sizeM_one _ (by omega) (by omega)]; rfl
  rw [dig_big _ _ (by omega), sizeM_step _ (by omega) (by omega)]
  by_cases c3 : m / 128 / 128 < 128
  · rw [dig_small _ _ c3, sizeM_one _ (by omega) (by omega)]; rfl
  rw [dig_big _ _ (by omega), sizeM_step _ (by omega) (by omega), dig_small _ _ (by omega), sizeM_one _ (by omega) (by omega)]; rfl
theorem dig_pos (f n : Nat) : 0 < (dig f n).length := by cases f <;> simp only [dig] <;> (try split) <;> simp
theorem dig_at (f : Nat) : ∀ (n k : Nat), n < 128 ^ (f + 1) → k < (dig f n).length →
    (dig f n)[k]? = some (UInt8.ofNat (n / 128 ^ k % 128 + if k + 1 < (dig f n).length then 128 else 0)) := by
  induction f with
  | zero =>
    intro n k hn hk
    simp [dig] at hk ⊢
    subst hk
    simp at hn ⊢
    rw [Nat.mod_eq_of_lt hn]
  | succ f ih =>
    intro n k hn hk
    by_cases h : n < 128
    · rw [dig_small _ n h] at hk ⊢
      simp at hk
      subst hk
      simp [Nat.mod_eq_of_lt h]
    · rw [dig_big f n (by omega)] at hk ⊢
      have hp := dig_pos f (n / 128)
      cases k with
      | zero => simp [hp]
      | succ k =>
        simp only [List.length_cons, List.getElem?_cons_succ] at hk ⊢
        have hlt : n / 128 < 128 ^ (f + 1) := by
          rw [Nat.pow_succ] at hn; omega
        rw [ih (n / 128) k hlt (by omega), Nat.div_div_eq_div_mul, ← Nat.pow_succ']
        simp
theorem dig_get (n : Int) (h0 : 0 ≤ n) (h1 : n ≤ 268435455) (k : Nat) (hk : (k : Int) < sizeM n) :
    (dig 3 n.toNat)[k]? = some (UInt8.ofNat (n / 128 ^ k % 128 + if (k : Int) < sizeM n - 1 then 128 else 0).toNat) := by
  have hl := dig_len n h0 h1
  rw [dig_at 3 n.toNat k (by omega) (by omega)]
  obtain ⟨m, rfl⟩ := Int.eq_ofNat_of_zero_le h0
  rw [Int.toNat_natCast] at *
  have e : ((m : Int) / 128 ^ k % 128) = ((m / 128 ^ k % 128 : Nat) : Int) := by simp
  rw [e]
  by_cases c : (k : Int) < sizeM m - 1
  · rw [if_pos c, if_pos (by omega)]; congr 2
  · rw [if_neg c, if_neg (by omega)]; congr 2

set_option maxHeartbeats 400000 in
theorem rlen_any (n : Int) (w : World) (h0 : -9223372036854775808 ≤ n) (h1 : n ≤ 9223372036854775807) :
    Calls Try.prog 16 #[.int .i64 n] w fun e w' => e = .returned (.tuple #[.string ⟨(lenM n).toArray⟩, .int .i64 (lenE n)]) ∧ Below w.heap.size w w' := by
  by_cases hz : sizeM n = 0
  · go_enter Try.func16, Try.ntmps16
    go_wp2_with fail
    refine (rsize_any _ _).mono ?_
    rintro e w1 ⟨rfl, rfl⟩
    rw [hz]
    go_wp2_with fail
    go_ret2
    exact ⟨by simp [lenM, lenE, hz], Below.refl _ _⟩
  obtain ⟨h0, h1⟩ : 0 ≤ n ∧ n ≤ 268435455 := by unfold sizeM at hz; split at hz <;> first | omega | simp at hz
  have hs : (sizeM n == 0) = false := by simp [hz]
  have HF := Lib.hid (show lenM n = dig 3 n.toNat ∧ lenE n = 0 from ⟨by simp [lenM, hz], by simp [lenE, hz]⟩)
  clear hz
  obtain ⟨b1, b4⟩ := sizeM_bd n h0 h1
  go_enter Try.func16, Try.ntmps16
  go_wp2_with fail
  refine (rsize_any _ _).mono ?_
  rintro e w1 ⟨rfl, rfl⟩
  go_wp2_with fail
  go_loopw [5, 6] (fun s i wr => ∃ (k : Nat), s = .string ⟨((dig 3 n.toNat).take k).toArray⟩ ∧ i = .int .i64 k ∧ (k : Int) ≤ sizeM n ∧ Below w.heap.size w wr) (fun _ i _ => (4 - intOf i).toNat)
  case atStart => exact ⟨0, rfl, rfl, by omega, Below.refl _ _⟩
  case round =>
    obtain ⟨k, rfl, rfl, hk, hbel⟩ := hrel
    by_cases hlt : (k : Int) < sizeM n
    · have G := Lib.hid (dig_get n h0 h1 k hlt)
      go_wp2_with fail
      refine (power_any _ _ (by omega) (by omega)).mono ?_
      rintro e w1 ⟨rfl, rfl⟩
      rw [Int.toNat_natCast]
      have hp : 1 ≤ (128 : Int) ^ k ∧ (128 : Int) ^ k ≤ 2097152 := by
        have h3 : k = 0 ∨ k = 1 ∨ k = 2 ∨ k = 3 := by omega
        rcases h3 with rfl | rfl | rfl | rfl <;> decide
      obtain ⟨hp0, hp1⟩ := hp
      generalize hP : (128 : Int) ^ k = p at *
      have HP := Lib.hid hP
      clear hP
      have hq0 : 0 ≤ n / p := Int.ediv_nonneg h0 (by omega)
      have hq1 : n / p ≤ 268435455 := Int.le_trans (Int.ediv_le_self _ h0) h1
      by_cases hl : (k : Int) < sizeM n - 1
      · have G2 := Lib.hid (show (dig 3 n.toNat).take (k + 1) = (dig 3 n.toNat).take k ++ [UInt8.ofNat (n / p % 128 + 128).toNat] from by
          have := G.out; rw [if_pos hl] at this; exact take_snoc _ _ _ this)
        go_wp2_with fail
        simp only [str_new1]
        go_wp2_with fail
        go_roundw
        case rel => exact ⟨k + 1, v_app G2.out.symm, by go_num, by omega, hbel.alloc hbel.size _⟩
        case measure => simp [intOf]; omega
      · have G2 := Lib.hid (show (dig 3 n.toNat).take (k + 1) = (dig 3 n.toNat).take k ++ [UInt8.ofNat (n / p % 128).toNat] from by
          have := G.out; rw [if_neg hl, Int.add_zero] at this; exact take_snoc _ _ _ this)
        go_wp2_with fail
        simp only [str_new1]
        go_wp2_with fail
        go_roundw
        case rel => exact ⟨k + 1, v_app G2.out.symm, by go_num, by omega, hbel.alloc hbel.size _⟩
        case measure => simp [intOf]; omega
    · have HL := Lib.hid (dig_len n h0 h1)
      go_wp2_with fail
      go_ret2
      exact ⟨ret2 (v_str (by rw [HF.out.1, List.take_of_length_le (by have := HL.out; omega)])) (v_int HF.out.2.symm), hbel⟩

/-- the number that digits are, the least first -/
def val : List UInt8 → Int
  | [] => 0
  | c :: r => (c.toNat : Int) % 128 + 128 * val r
theorem val_snoc (l : List UInt8) (c : UInt8) : val (l ++ [c]) = val l + (c.toNat : Int) % 128 * 128 ^ l.length := by
  induction l with
  | nil => simp [val]
  | cons x r ih =>
    rw [List.cons_append, val, val, ih, List.length_cons, Int.pow_succ, Int.mul_add, Int.add_assoc]
    congr 2
    rw [Int.mul_comm (128 ^ r.length) 128, Int.mul_left_comm]
theorem val_bd (l : List UInt8) : 0 ≤ val l ∧ val l < 128 ^ l.length := by
  induction l with
  | nil => simp [val]
  | cons x r ih => rw [val, List.length_cons, Int.pow_succ]; omega
/-- how many bytes are 128 or more, from the beginning -/
def lead : List UInt8 → Nat
  | [] => 0
  | c :: r => if c.toNat < 128 then 0 else lead r + 1
theorem lead_le (l : List UInt8) : lead l ≤ l.length := by
  induction l with
  | nil => simp [lead]
  | cons c r ih => simp only [lead, List.length_cons]; split <;> omega
theorem lead_at (l : List UInt8) : ∀ (k : Nat) (c : UInt8), k ≤ lead l → l[k]? = some c → (c.toNat < 128 → lead l = k) ∧ (¬ c.toNat < 128 → k + 1 ≤ lead l) := by
  induction l with
  | nil => intro k c _ h; simp at h
  | cons x r ih =>
    intro k c hk hc
    cases k with
    | zero =>
      simp at hc
      subst hc
      simp only [lead]
      constructor <;> intro h <;> simp [h]
    | succ k =>
      simp only [lead] at hk ⊢
      split at hk
      · omega
      · rename_i hx
        rw [if_neg hx]
        have := ih k c (by omega) (by simpa using hc)
        exact ⟨fun h => by have := this.1 h; omega, fun h => by have := this.2 h; omega⟩
theorem rdl_eq (f : Nat) : ∀ (used n sc : Int) (l : List UInt8), rdl f used n sc l = if f ≤ lead l then (0, 0, 4) else if lead l = l.length then (0, 0, 2) else (n + sc * val (l.take (lead l + 1)), used + lead l + 1, 0) := by
  induction f with
  | zero => intros; simp [rdl]
  | succ f ih =>
    intro used n sc l
    cases l with
    | nil => simp [rdl, lead]
    | cons c r =>
      rw [rdl]
      by_cases hc : c.toNat < 128
      · simp [hc, lead, val, Int.mul_comm]
      · simp only [hc, if_false, lead, ih, List.length_cons, Nat.add_le_add_iff_right, Nat.add_right_cancel_iff, List.take_succ_cons, val]
        split
        · rfl
        · split
          · rfl
          · congr 1
            · rw [Int.mul_add, Int.mul_assoc, Int.add_assoc, Int.mul_comm sc, Int.mul_comm sc (_ % _), Int.mul_assoc]
            · congr 1; omega
theorem readLenM_eq (l : List UInt8) : readLenM l = if 4 ≤ lead l then (0, 0, 4) else if lead l = l.length then (0, 0, 2) else (val (l.take (lead l + 1)), (lead l : Int) + 1, 0) := by
  rw [readLenM, rdl_eq]; simp

theorem bget (s : ByteArray) (k : Nat) (h : k < s.size) : s.data.toList[k]? = some s[k] := by
  have := drop_cons_get s k h
  rw [← List.head?_drop, this]; rfl

set_option maxRecDepth 100000 in
set_option maxHeartbeats 800000 in
theorem rreadLen_any (s : ByteArray) (w : World) (hbig : s.size ≤ 9223372036854775807) :
    Calls Try.prog 18 #[.string s] w fun e w' => e = .returned (int3 (readLenM s.data.toList)) ∧ Below w.heap.size w w' := by
  have hll := lead_le s.data.toList
  have hls : s.data.toList.length = s.size := by simp
  rw [hls] at hll
  obtain ⟨q, hq⟩ : ∃ q, q = lead s.data.toList := ⟨_, rfl⟩
  rw [← hq] at hll
  have HQ := Lib.hid hq
  have HL := Lib.hid hls
  clear hq hls
  have HB := Lib.hid hbig
  go_enter Try.func18, Try.ntmps18
  go_wp2_with fail
  go_loop [5] (fun a => ∃ k : Nat, a = .int .i64 k ∧ k ≤ q) (fun a => (s.size - intOf a).toNat)
  case atStart => exact ⟨0, rfl, by omega⟩
  case round =>
    obtain ⟨k, rfl, hk⟩ := hrel
    have hend : k = q → True := fun _ => trivial
    by_cases hlt : k < s.size
    · have hb := byte_lt s[k]
      have hat := lead_at s.data.toList k s[k] (by rw [← HQ.out]; exact hk) (bget s k hlt)
      rw [← HQ.out] at hat
      by_cases hc : s[k].toNat < 128
      · obtain rfl : k = q := (hat.1 hc).symm
        clear hat
        by_cases h4 : 4 ≤ k
        · have HF := Lib.hid (show readLenM s.data.toList = (0, 0, 4) by rw [readLenM_eq, if_pos (by have := HQ.out; omega)])
          go_wp2_with fail
          go_ret3
          exact ⟨by rw [HF.out]; rfl, Below.refl _ _⟩
        · have HF := Lib.hid (show readLenM s.data.toList = (val (s.data.toList.take (k + 1)), (k : Int) + 1, 0) by
            rw [readLenM_eq, if_neg (by have := HQ.out; omega), if_neg (by have := HQ.out; have := HL.out; omega), ← HQ.out])
          have hne : ((k : Int) == (s.size : Int)) = false := by simp; omega
          go_wp2_with fail
          go_loopw [6, 7] (fun n i wr => ∃ (m : Int) (j : Nat), n = .int .i64 m ∧ i = .int .i64 j ∧ j ≤ k + 1 ∧ 0 ≤ m ∧ m ≤ 268435455 ∧ Hid (m = val (s.data.toList.take j)) ∧ Below w.heap.size w wr) (fun _ i _ => (k + 1 - intOf i).toNat)
          case atStart => exact ⟨0, 0, rfl, rfl, by omega, by omega, by omega, rfl, Below.refl _ _⟩
          case round =>
            obtain ⟨m, j, rfl, rfl, hj, hm0, hm1, HM, hbel⟩ := hrel
            by_cases hjk : j ≤ k
            · have hjs : j < s.size := by omega
              have hjs' : (j : Int) < s.size := by omega
              have hj0 : (0 : Int) ≤ j := by omega
              have hbj := byte_lt s[j]
              have HT := Lib.hid (take_snoc _ _ _ (bget s j hjs))
              have hlen : (s.data.toList.take j).length = j := by have := HL.out; simp; omega
              have hv := val_snoc (s.data.toList.take j) s[j]
              rw [← HT.out, hlen, ← HM.out] at hv
              have hvb := val_bd (s.data.toList.take (j + 1))
              have hlen1 : (s.data.toList.take (j + 1)).length = j + 1 := by have := HL.out; simp; omega
              rw [hlen1] at hvb
              have hp : (128 : Int) ^ (j + 1) ≤ 268435456 := by
                have h3 : j = 0 ∨ j = 1 ∨ j = 2 ∨ j = 3 := by omega
                rcases h3 with rfl | rfl | rfl | rfl <;> decide
              have hb0 : 0 ≤ val (s.data.toList.take (j + 1)) ∧ val (s.data.toList.take (j + 1)) ≤ 268435455 := by omega
              clear hvb hp hlen hlen1
              have HV := Lib.hid hv
              clear hv
              go_wp2_with fail
              go_quiet ((go_at_call 23; exact quiet_eq (power_any _ _ (by omega) (by omega))))
              go_wp2_with fail
              go_roundw
              case rel =>
                have hP : 0 ≤ (s[j].toNat : Int) % 128 * 128 ^ j := Int.mul_nonneg (by omega) (Int.pow_nonneg (by omega))
                have hv := HV.out
                obtain ⟨hb0, hb1⟩ := hb0
                refine ⟨_, j + 1, v_int ?_, by go_num, by omega, hb0, hb1, rfl, below_drewN hbel _⟩
                rw [IntWalk.wrap64_in ((s[j].toNat : Int) % 128 * 128 ^ j) ⟨by omega, by omega⟩, ← hv, IntWalk.wrap64_in _ ⟨by omega, by omega⟩]
              case measure => simp [intOf]; omega
            · obtain rfl : j = k + 1 := by omega
              go_wp2_with fail
              go_ret3
              exact ⟨by rw [HF.out, ← HM.out]; rfl, hbel⟩
      · have := hat.2 hc
        clear hat
        go_wp2_with fail
        go_round
        case rel => exact ⟨k + 1, by go_num, by omega⟩
        case measure => simp [intOf]; omega
    · obtain rfl : k = q := by omega
      by_cases h4 : 4 ≤ k
      · have HF := Lib.hid (show readLenM s.data.toList = (0, 0, 4) by rw [readLenM_eq, if_pos (by have := HQ.out; omega)])
        go_wp2_with fail
        go_ret3
        exact ⟨by rw [HF.out]; rfl, Below.refl _ _⟩
      · have HF := Lib.hid (show readLenM s.data.toList = (0, 0, 2) by
          rw [readLenM_eq, if_neg (by have := HQ.out; omega), if_pos (by have := HQ.out; have := HL.out; omega)])
        have hne : ((k : Int) == (s.size : Int)) = true := by simp; omega
        go_wp2_with fail
        go_ret3
        exact ⟨by rw [HF.out]; rfl, Below.refl _ _⟩

set_option maxRecDepth 100000 in
set_option maxHeartbeats 400000 in
theorem rwords_any (a : Option Addr) (cap : Nat) (l : List Int) (w : World) (hr : Row w a (ints l)) (hlen : l.length ≤ 1000000) :
    Calls Try.prog 21 #[.slice a l.length cap] w fun e w' => e = .returned (.tuple #[.string ⟨(wordsM l).toArray⟩, .int .i64 (wordsE l)]) ∧ Below w.heap.size w w' := by
  go_enter Try.func21, Try.ntmps21
  go_wp2_with fail
  go_loopw [4, 5] (fun s i wr => ∃ (k : Nat) (pre : List UInt8), s = .string ⟨pre.toArray⟩ ∧ i = .int .i64 k ∧ k ≤ l.length ∧ pre.length ≤ 2000000 ∧ Hid (pre = (l.take k).flatMap wordBytes) ∧ Hid ((l.take k).all isWord = true) ∧ Below w.heap.size w wr) (fun _ i _ => (l.length - intOf i).toNat)
  case atStart => exact ⟨0, [], rfl, rfl, by omega, by simp, rfl, rfl, Below.refl _ _⟩
  case round =>
    obtain ⟨k, pre, rfl, rfl, hk, hpl, HP, HA, hbel⟩ := hrel
    by_cases hlt : k < l.length
    · obtain ⟨x, hx⟩ : ∃ x, l[k]? = some x := ⟨l[k], by simp [hlt]⟩
      obtain ⟨b, off, rfl, hcell⟩ := (hr.below hbel (Nat.le_refl _)).at (j := k) (u := .int .i64 x) (by simp [ints, hx])
      have HX := Lib.hid hx
      clear hx hr
      by_cases hw0 : x < 0
      · have HF : Hid (wordsM l = [] ∧ wordsE l = 1) := by
          have := all_not isWord l k x HX.out (by simp [isWord]; omega)
          exact ⟨by simp [wordsM, this], by simp [wordsE, this]⟩
        go_wp2_with fail
        go_ret2
        exact ⟨ret2 (v_str (b := wordsM l) HF.out.1.symm) (v_int HF.out.2.symm), hbel⟩
      by_cases hw1 : 65535 < x
      · have HF : Hid (wordsM l = [] ∧ wordsE l = 1) := by
          have := all_not isWord l k x HX.out (by simp [isWord]; omega)
          exact ⟨by simp [wordsM, this], by simp [wordsE, this]⟩
        go_wp2_with fail
        go_ret2
        exact ⟨ret2 (v_str (b := wordsM l) HF.out.1.symm) (v_int HF.out.2.symm), hbel⟩
      · have HA2 : Hid ((l.take (k + 1)).all isWord = true) := by
          unfold Hid; rw [take_snoc l k x HX.out, List.all_append, HA.out]; simp [isWord]; omega
        have H2 := Lib.hid (show pre ++ [UInt8.ofNat (x / 256).toNat, UInt8.ofNat (x % 256).toNat] = (l.take (k + 1)).flatMap wordBytes by
          rw [HP.out, take_snoc l k x HX.out, List.flatMap_append, List.flatMap_singleton]; congr 1
          have e1 : (x / 256).toNat = x.toNat / 256 := by omega
          have e2 : (x % 256).toNat = x.toNat % 256 := by omega
          rw [e1, e2]; rfl)
        clear HA
        have hkl : (k : Int) < l.length := by omega
        have hk0 : (0 : Int) ≤ k := by omega
        have hlb := World.block_lt_of_cell? wr _ hcell
        have hconv : ∀ (w : World) (x y : Int), (convert 42 9 (.slice (some ⟨w.heap.size, 0, none⟩) 2 2)).run Try.prog (w.alloc (.cells #[.int .u8 x, .int .u8 y] 5)).drew = .ok (.string ⟨#[UInt8.ofNat x.toNat, UInt8.ofNat y.toNat]⟩) (w.alloc (.cells #[.int .u8 x, .int .u8 y] 5)).drew := fun w x y => str_new2 w.drew x y
        have e1 : x.tdiv 256 = x / 256 := Int.tdiv_eq_ediv_of_nonneg (by omega)
        have e2 : IntKind.i64.wrap (x / 256) = x / 256 := w_i64 _ (by omega) (by omega)
        have e3 : IntKind.u8.wrap (x / 256) = x / 256 := w_u8 _ (by omega) (by omega)
        have e4 : x.tmod 256 = x % 256 := Int.tmod_eq_emod_of_nonneg (by omega)
        have e5 : IntKind.u8.wrap (x % 256) = x % 256 := w_u8 _ (by omega) (by omega)
        go_wp2_with fail
        go_region_with ((fail))
        all_goals
          clear hconv e1 e2 e3 e4 e5
          go_wp2_with fail
          go_roundw
          case rel => exact ⟨k + 1, _, v_app H2.out, by go_num, by omega, by rw [wordsM_length]; simp; omega, rfl, HA2, (hbel.alloc hbel.size _).drew⟩
          case measure => simp [intOf]; omega
    · obtain rfl : k = l.length := by omega
      have HF : Hid (wordsM l = l.flatMap wordBytes ∧ wordsE l = 0) := by
        have := HA.out
        rw [List.take_length] at this
        exact ⟨by simp only [wordsM, this, if_true], by simp only [wordsE, this, if_true]⟩
      clear hr
      go_wp2_with fail
      go_ret2
      exact ⟨ret2 (v_str (by rw [HF.out.1, HP.out, List.take_length])) (v_int HF.out.2.symm), hbel⟩

theorem rreadWord_any (s : ByteArray) (w : World) (hbig : s.size ≤ 9223372036854775807) :
    Calls Try.prog 22 #[.string s] w fun e w' => e = .returned (int3 (readWordM s.data.toList)) ∧ Below w.heap.size w w' := by
  by_cases h2 : s.size < 2
  · have HM := Lib.hid (readWordM_short s h2)
    go_enter Try.func22, Try.ntmps22
    go_wp2_with fail
    go_ret3
    exact ⟨by rw [HM.out]; rfl, Below.refl _ _⟩
  · have h0 : 0 < s.size := by omega
    have h1 : 1 < s.size := by omega
    have h0' : (0 : Int) < s.size := by omega
    have h1' : (1 : Int) < s.size := by omega
    have HM := Lib.hid (readWordM_long s h0 h1)
    go_enter Try.func22, Try.ntmps22
    go_wp2_with fail
    go_quiet (fail)
    go_wp2_with fail
    go_ret3
    refine ⟨?_, below_draws _⟩
    rw [HM.out]
    exact ret3 (v_int (add_word _ _ s[0].toNat_lt s[1].toNat_lt)) rfl rfl
end Go.Proofs.Ytmnhbbhcilbnoaa
