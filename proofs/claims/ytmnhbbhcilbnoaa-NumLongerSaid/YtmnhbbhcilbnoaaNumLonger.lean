import Derived.Test.YtmnhbbhcilbnoaaNumPlain
namespace Go.Proofs.Ytmnhbbhcilbnoaa
open Go Go.RowKit

theorem index_at (s : ByteArray) (k : Nat) (x : UInt8) (h : s.data.toList[k]? = some x) (w : World) : (Instr.index 9 (.string s) (.int .i64 (k : Int))).run Try.prog w = .ok (.int .u8 (x.toNat : Int)) w := by
  obtain ⟨hk, hx⟩ := List.getElem?_eq_some_iff.1 h
  have hs : s[k]? = some x := by
    rw [getElem?_pos s k (by simpa using hk)]; exact congrArg some hx
  simp [Instr.index, asIntOf, run_underlying Try.underlying9, hs]

set_option maxRecDepth 100000 in
set_option maxHeartbeats 2000000 in
theorem longer_true (s : ByteArray) (w : World) (hbig : s.size ≤ 9223372036854775807) :
    Calls Try.prog 7 #[.string s] w fun e w' => e = .returned (.bool true) ∧ Below w.heap.size w w' := by
  by_cases hg : (2000 : Int) < s.size
  · have hg' : decide ((2000 : Int) < s.size) = true := by simpa using hg
    go_enter Try.func7, Try.ntmps7
    go_wp2_with fail
    refine (great_any _ _).mono ?_
    rintro e w' ⟨rfl, rfl⟩
    rw [hg']
    go_wp2_with fail
    refine (awake_true _).mono ?_
    rintro e w1 ⟨rfl, hb⟩
    go_wp2_with fail
    go_ret
    exact ⟨rfl, hb⟩
  have hg' : decide ((2000 : Int) < s.size) = false := by simpa using hg
  by_cases h4 : 4 ≤ lead s.data.toList
  · have R := Lib.hid (show int3 (readLenM s.data.toList) = .tuple #[.int .i64 0, .int .i64 0, .int .i64 4] by rw [readLenM_eq, if_pos h4]; rfl)
    clear h4
    go_enter Try.func7, Try.ntmps7
    go_wp2_with fail
    refine (great_any _ _).mono ?_
    rintro e w' ⟨rfl, rfl⟩
    rw [hg']
    go_wp2_with fail
    refine (readLen_any _ _ hbig).mono ?_
    rintro e w' ⟨rfl, rfl⟩
    rw [R.out]
    go_wp2_with fail
    refine (awake_true _).mono ?_
    rintro e w1 ⟨rfl, hb⟩
    go_wp2_with fail
    go_ret
    exact ⟨rfl, hb⟩
  by_cases hl : lead s.data.toList = s.data.toList.length
  · have R := Lib.hid (show int3 (readLenM s.data.toList) = .tuple #[.int .i64 0, .int .i64 0, .int .i64 2] by rw [readLenM_eq, if_neg h4, if_pos hl]; rfl)
    clear h4 hl
    go_enter Try.func7, Try.ntmps7
    go_wp2_with fail
    refine (great_any _ _).mono ?_
    rintro e w' ⟨rfl, rfl⟩
    rw [hg']
    go_wp2_with fail
    refine (readLen_any _ _ hbig).mono ?_
    rintro e w' ⟨rfl, rfl⟩
    rw [R.out]
    go_wp2_with fail
    refine (awake_true _).mono ?_
    rintro e w1 ⟨rfl, hb⟩
    go_wp2_with fail
    go_ret
    exact ⟨rfl, hb⟩
  obtain ⟨p, x, e1, e2, e3, hx, e4, e5, hv0, hv1, e6⟩ := readLen_split s.data.toList h4 hl
  have hle := lead_le s.data.toList
  have hsz : s.data.toList.length = s.size := by simp
  have hps : p.length < s.size := by omega
  have hp4 : p.length < 4 := by omega
  obtain ⟨n, hn⟩ : ∃ n, n = val (p ++ [x]) := ⟨_, rfl⟩
  rw [← hn] at hv0 hv1
  have hn1 : n ≤ 268435455 := by
    have h3 : p.length = 0 ∨ p.length = 1 ∨ p.length = 2 ∨ p.length = 3 := by omega
    rcases h3 with h | h | h | h <;> rw [h] at hv1 <;> simp at hv1 <;> omega
  have R := Lib.hid (show int3 (readLenM s.data.toList) = .tuple #[.int .i64 n, .int .i64 ((p.length : Int) + 1), .int .i64 0] by rw [e6, hn]; rfl)
  have hsm : sizeM n ≤ ((p.length + 1 : Nat) : Int) := sizeM_le n (p.length + 1) (by omega) (by omega) hv1
  obtain ⟨d1, d2, d3, d4⟩ := lenM_in n hv0 hn1
  have d5 := lenM_length n
  have d6 := dig_lead 3 n.toNat [] (by omega)
  have d7 := dig_val 3 n.toNat (by omega)
  rw [List.append_nil, ← d1] at d6
  rw [← d1] at d7
  obtain ⟨q, y, f1, f2, f3⟩ := enc_split (lenM n) d6
  rw [f1] at d3 d4 d5 d7
  rw [List.length_append] at d3 d4 d5
  simp only [List.length_cons, List.length_nil] at d3 d4 d5
  have hqp : q.length ≤ p.length := by omega
  have F1 := Lib.hid f1
  have F2 := Lib.hid f2
  have D2 := Lib.hid d2
  have D7 := Lib.hid (show val (q ++ [y]) = n by rw [d7]; omega)
  have HN := Lib.hid hn
  have E1 := Lib.hid (show s.data.toList.take (p.length + 1) = p ++ [x] by rw [e2]; exact e1)
  have E3 := Lib.hid e3
  have E4 := Lib.hid (show s.data.toList[p.length]? = some x by rw [e2]; exact e4)
  have E5 := Lib.hid (show s.data.toList.take p.length = p by rw [e2]; exact e5)
  clear e1 e2 e3 e4 e5 e6 hle hsz d1 d2 d6 d7 f1 f2 hn hv1 hsm d5 h4 hl
  go_enter Try.func7, Try.ntmps7
  go_wp2_with fail
  refine (great_any _ _).mono ?_
  rintro e w' ⟨rfl, rfl⟩
  rw [hg']
  clear hg'
  go_wp2_with fail
  refine (readLen_any _ _ hbig).mono ?_
  rintro e w' ⟨rfl, rfl⟩
  rw [R.out]
  go_wp2_with fail
  refine (len_any _ _).mono ?_
  rintro e w1 ⟨rfl, hb⟩
  rw [D2.out, F1.out]
  have hidx := index_at ⟨(q ++ [y]).toArray⟩ q.length y (by simp)
  have b1 : decide ((p.length : Int) + 1 < 1) = false := by simp; omega
  have b2 : decide ((s.size : Int) < (p.length : Int) + 1) = false := by simp; omega
  have b3 : decide ((4 : Int) < (p.length : Int) + 1) = false := by simp; omega
  have b4 : decide (p.length < q.length) = false := by simp; omega
  have b5 : decide ((q.length : Int) + 1 < 1) = false := by simp; omega
  go_wp2_with fail
  clear hidx b1 b2 b3 b4 b5
  go_loopw [6, 8] (fun t l wr => ∃ (q : List UInt8) (y : UInt8), t = .string ⟨(q ++ [y]).toArray⟩ ∧ l = .int .u8 (y.toNat : Int) ∧ q.length ≤ p.length ∧ (y.toNat : Int) < 128 ∧ Hid (lead q = q.length) ∧ Hid (val (q ++ [y]) = n) ∧ Below w.heap.size w wr) (fun t _ _ => 5 - strLen t)
  case atStart => exact ⟨q, y, rfl, rfl, hqp, by omega, F2, D7, hb⟩
  case round =>
    clear hb F1 F2 D7
    obtain ⟨q, y, rfl, rfl, hqp, hy, HQ, HV, hb⟩ := hrel
    by_cases hlt : q.length < p.length
    · have hq0 : (0 : Int) ≤ q.length := by omega
      have e0 : IntKind.i64.wrap (q.length : Int) = q.length := w_i64 _ (by omega) (by omega)
      have e1 : IntKind.i64.wrap ((q.length : Int) + 1 - 1) = q.length := by rw [Int.add_sub_cancel]; exact e0
      have e2 : IntKind.u8.wrap ((y.toNat : Int) + 128) = (y.toNat : Int) + 128 := w_u8 _ (by omega) (by omega)
      have hconv : ∀ (w : World) (x y : Int), (convert 42 9 (.slice (some ⟨w.heap.size, 0, none⟩) 2 2)).run Try.prog (w.alloc (.cells #[.int .u8 x, .int .u8 y] 5)).drew = .ok (.string ⟨#[UInt8.ofNat x.toNat, UInt8.ofNat y.toNat]⟩) (w.alloc (.cells #[.int .u8 x, .int .u8 y] 5)).drew := fun w x y => str_new2 w.drew x y
      go_wp2_with fail
      go_region_with ((fail))
      all_goals
        clear hconv e0 e1 e2
        go_wp2_with fail
        have e : UInt8.ofNat (y.toNat + 128) = y + 128 := by apply UInt8.toNat_inj.1; simp
        refine ⟨⟨q ++ [y + 128], 0, v_cut (q := q) (r := [y]) (m := [y + 128, 0]) (c := (q ++ [y + 128]) ++ [0]) rfl (by simp), rfl, by simp; omega, by decide, by rw [← e]; exact lead_more q y HQ.out (by omega), by rw [List.append_assoc, ← e]; exact (val_more q y (by omega)).trans HV.out, (hb.alloc hb.size _).drew⟩, ?_⟩
        show 5 - ((⟨(q ++ [y]).toArray⟩ : ByteArray).extract 0 q.length ++ ⟨[y + 128, 0].toArray⟩).size < 5 - (⟨(q ++ [y]).toArray⟩ : ByteArray).size
        rw [extract_pre, append_size]
        show 5 - (q.length + 2) < 5 - (q ++ [y]).length
        rw [List.length_append]; show 5 - (q.length + 2) < 5 - (q.length + 1); omega
    · have hqp' : q.length = p.length := by omega
      have T := Lib.hid (enc_uniq q p y x HQ.out E3.out (by omega) hx hqp' (by rw [HV.out, HN.out]))
      have hsl1 : ∀ w, (Instr.slice 9 (.string s) none (some (.int .i64 ((p.length : Int) + 1))) none).run Try.prog w = .ok (.string ⟨(q ++ [y]).toArray⟩) w := fun w => by
        rw [run_slice_string_h (P := Try.prog) w 9 s Try.underlying9 .i64 ((p.length : Int) + 1) (by omega) (by omega), extract_take, T.out, ← E1.out]; rfl
      have hsl2 : ∀ w, (Instr.slice 9 (.string s) none (some (.int .i64 (p.length : Int))) none).run Try.prog w = .ok (.string ⟨p.toArray⟩) w := fun w => by
        rw [run_slice_string_h (P := Try.prog) w 9 s Try.underlying9 .i64 (p.length : Int) (by omega) (by omega), extract_take, Int.toNat_natCast, E5.out]
      have hidx := index_at s p.length x E4.out
      have e0 : IntKind.i64.wrap (p.length : Int) = p.length := w_i64 _ (by omega) (by omega)
      have e1 : IntKind.i64.wrap ((p.length : Int) + 1 - 1) = p.length := by rw [Int.add_sub_cancel]; exact e0
      have e2 : IntKind.u8.wrap ((x.toNat : Int) + 128) = (x.toNat : Int) + 128 := w_u8 _ (by omega) (by omega)
      have hconv : ∀ (w : World) (x y : Int), (convert 42 9 (.slice (some ⟨w.heap.size, 0, none⟩) 2 2)).run Try.prog (w.alloc (.cells #[.int .u8 x, .int .u8 y] 5)).drew = .ok (.string ⟨#[UInt8.ofNat x.toNat, UInt8.ofNat y.toNat]⟩) (w.alloc (.cells #[.int .u8 x, .int .u8 y] 5)).drew := fun w x y => str_new2 w.drew x y
      go_wp2_with fail
      go_region_with ((fail))
      all_goals
        clear hconv e0 e1 e2 hsl1 hsl2 hidx
        go_wp2_with fail
        replace hb := (hb.alloc hb.size (.cells #[.int .u8 ((x.toNat : Int) + 128), .int .u8 0] 5)).drew
        have e : UInt8.ofNat (x.toNat + 128) = x + 128 := by apply UInt8.toNat_inj.1; simp
        have hlead : lead (p ++ [x + 128, 0]) = p.length + 1 := by
          rw [lead_app p _ E3.out, ← e, lead, byte_nat _ (by omega), if_neg (by omega)]; rfl
        have hsz : ((⟨p.toArray⟩ : ByteArray) ++ ⟨#[x + 128, 0]⟩).size ≤ 9223372036854775807 := by
          rw [append_size]; show p.length + 2 ≤ _; omega
        have hdat : ((⟨p.toArray⟩ : ByteArray) ++ ⟨#[x + 128, 0]⟩).data.toList = p ++ [x + 128, 0] := append_data p _
        by_cases h3 : p.length = 3
        · have R2 := Lib.hid (show int3 (readLenM ((⟨p.toArray⟩ : ByteArray) ++ ⟨#[x + 128, 0]⟩).data.toList) = .tuple #[.int .i64 0, .int .i64 0, .int .i64 4] by
            rw [hdat, readLenM_eq, if_pos (by omega)]; rfl)
          have u4 : ((p.length : Int) + 1 == 4) = true := by simp; omega
          clear h3 hlead hdat e
          go_wp2_with fail
          refine (readLen_any _ _ hsz).mono ?_
          rintro e w' ⟨rfl, rfl⟩
          rw [R2.out]
          clear hsz
          go_wp2_with fail
          refine (awake_true _).mono ?_
          rintro e w5 ⟨rfl, hk⟩
          replace hb := bnext hb (Nat.le_refl _) hk
          clear hk
          go_wp2_with fail
          go_ret
          exact ⟨rfl, hb⟩
        · have R2 := Lib.hid (show int3 (readLenM ((⟨p.toArray⟩ : ByteArray) ++ ⟨#[x + 128, 0]⟩).data.toList) = .tuple #[.int .i64 n, .int .i64 ((p.length : Int) + 1 + 1), .int .i64 0] by
            rw [hdat, readLenM_eq, if_neg (by omega), if_neg (by rw [hlead]; simp), hlead, List.take_of_length_le (by simp), ← e, val_more p x hx, ← HN.out]; rfl)
          have u4 : ((p.length : Int) + 1 == 4) = false := by simp; omega
          clear h3 hlead hdat e
          go_wp2_with fail
          refine (readLen_any _ _ hsz).mono ?_
          rintro e w' ⟨rfl, rfl⟩
          rw [R2.out]
          clear hsz
          go_wp2_with fail
          refine (awake_true _).mono ?_
          rintro e w5 ⟨rfl, hk⟩
          replace hb := bnext hb (Nat.le_refl _) hk
          clear hk
          go_wp2_with fail
          go_ret
          exact ⟨rfl, hb⟩
end Go.Proofs.Ytmnhbbhcilbnoaa
