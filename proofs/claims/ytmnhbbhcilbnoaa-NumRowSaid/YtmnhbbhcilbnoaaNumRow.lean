import Derived.Test.YtmnhbbhcilbnoaaNumWords
import Derived.Test.YtmnhbbhcilbnoaaNumPlain
namespace Go.Proofs.Ytmnhbbhcilbnoaa
open Go Go.RowKit

theorem ints_append (a b : List Int) : ints a ++ ints b = ints (a ++ b) := by simp [ints]
theorem words_in (l : List Int) (h : l.all isWord = true) : wordsM l = l.flatMap wordBytes ∧ wordsE l = 0 := by simp only [wordsM, wordsE, h, if_true, and_self]
theorem words_out (l : List Int) (h : l.all isWord = false) : wordsM l = [] ∧ wordsE l = 1 := by simp [wordsM, wordsE, h]
theorem drop_words (l : List Int) : ∀ k, (l.flatMap wordBytes).drop (2 * k) = (l.drop k).flatMap wordBytes := by
  induction l with
  | nil => intro k; simp
  | cons x r ih =>
    intro k
    cases k with
    | zero => rfl
    | succ k => rw [List.flatMap_cons, List.drop_succ_cons, ← ih k, show 2 * (k + 1) = (wordBytes x).length + 2 * k by simp [wordBytes]; omega, List.drop_append]; simp
theorem readWord_at (l : List Int) (k : Nat) (x : Int) (h : l[k]? = some x) (hx0 : 0 ≤ x) (hx1 : x ≤ 65535) : readWordM ((l.flatMap wordBytes).drop (2 * k)) = (x, 2, 0) := by
  obtain ⟨hk, hx⟩ := List.getElem?_eq_some_iff.1 h
  rw [drop_words, List.drop_eq_getElem_cons hk, hx, List.flatMap_cons]
  simp only [wordBytes, List.cons_append, readWordM]
  rw [byte_nat _ (by omega), byte_nat _ (by omega)]
  congr 1
  omega
theorem all_get (l : List Int) (h : l.all isWord = true) (k : Nat) (x : Int) (hx : l[k]? = some x) : 0 ≤ x ∧ x ≤ 65535 := by
  have := List.all_eq_true.1 h x (List.mem_of_getElem? hx)
  simpa [isWord] using this

set_option maxRecDepth 100000 in
set_option maxHeartbeats 4000000 in
theorem row_true (a b : Option Addr) (c d : Nat) (la lb : List Int) (w : World) (hra : Row w a (ints la)) (hrb : Row w b (ints lb)) (hla : la.length ≤ 9223372036854775807) (hlb : lb.length ≤ 9223372036854775807) :
    Calls Try.prog 8 #[.slice a la.length c, .slice b lb.length d] w fun e w' => e = .returned (.bool true) ∧ Below w.heap.size w w' := by
  by_cases h3 : 300 < la.length
  · have h3' : (300 : Int) < la.length := by omega
    go_enter Try.func8, Try.ntmps8
    go_wp2_with fail
    refine (awake_true _).mono ?_
    rintro e w1 ⟨rfl, hb⟩
    go_wp2_with fail
    go_ret
    exact ⟨rfl, hb⟩
  have h3' : ¬ (300 : Int) < la.length := by omega
  by_cases h4 : 300 < lb.length
  · have h4' : (300 : Int) < lb.length := by omega
    go_enter Try.func8, Try.ntmps8
    go_wp2_with fail
    refine (awake_true _).mono ?_
    rintro e w1 ⟨rfl, hb⟩
    go_wp2_with fail
    go_ret
    exact ⟨rfl, hb⟩
  have h4' : ¬ (300 : Int) < lb.length := by omega
  have d3 : decide ((300 : Int) < la.length) = false := by simp; omega
  have d4 : decide ((300 : Int) < lb.length) = false := by simp; omega
  go_enter Try.func8, Try.ntmps8
  go_wp2_with (at_builtin; refine wpList_appRow T_int (World.ownsRow_nil w w.heap.size _ _) (Below.refl _ _) (Nat.le_refl _) hra rfl rfl rfl rfl (by rw [ints_length]; omega) (ints_one la) (by omega) (by omega) ?_)
  intro v1 w1 hown hb _
  clear d3 d4
  go_wp2_with (at_builtin; refine wpList_appRow T_int hown hb (by assumption) (hrb.below hb (Nat.le_refl _)) rfl rfl rfl rfl (by rw [ints_length]; omega) (ints_one lb) (by omega) (by omega) ?_)
  intro v2 w2 hown2 hb2 _
  clear hown hb
  rename Below _ _ _ => hb
  rw [ints_append] at hown2
  obtain ⟨l, hl⟩ : ∃ l, l = la ++ lb := ⟨_, rfl⟩
  rw [← hl, show la.length + lb.length = l.length by rw [hl, List.length_append]] at hown2
  have hll : l.length ≤ 600 := by rw [hl, List.length_append]; omega
  have HL := Lib.hid hl
  clear hl
  obtain ⟨al, cl, rfl, hrl, -, -⟩ := ownsRow_row hown2
  clear hown2
  go_wp2_with fail
  go_loopw [6, 7] (fun t i wr => ∃ (k : Nat) (p : Bool), t = .bool p ∧ i = .int .i64 k ∧ k ≤ l.length ∧ Hid (p = (l.take k).all isWord) ∧ wr = w2) (fun _ i _ => (l.length - intOf i).toNat)
  case atStart => exact ⟨0, true, rfl, rfl, by omega, rfl, rfl⟩
  case round =>
    obtain ⟨k, p, rfl, rfl, hk, HP, rfl⟩ := hrel
    by_cases hlt : k < l.length
    · obtain ⟨x, hx, hx'⟩ := ints_at l k hlt
      obtain ⟨b', off', rfl, hc2⟩ := hrl.at hx
      have hk0 : (0 : Int) ≤ k := by omega
      have hkl : (k : Int) < l.length := by omega
      have HX := Lib.hid (take_snoc l k x hx')
      clear hx hx' hrl
      cases p with
      | false =>
        go_wp2_with fail
        go_roundw
        case rel => exact ⟨k + 1, false, rfl, by go_num, by omega, by unfold Hid; rw [HX.out, List.all_append, ← HP.out]; rfl, trivial⟩
        case measure => simp [intOf]; omega
      | true =>
        by_cases hx0 : 0 ≤ x
        · by_cases hx1 : x ≤ 65535
          · go_wp2_with fail
            go_roundw
            case rel => exact ⟨k + 1, true, rfl, by go_num, by omega, by unfold Hid; rw [HX.out, List.all_append, ← HP.out]; simp [isWord, hx0, hx1], trivial⟩
            case measure => simp [intOf]; omega
          · go_wp2_with fail
            go_roundw
            case rel => exact ⟨k + 1, false, rfl, by go_num, by omega, by unfold Hid; rw [HX.out, List.all_append, ← HP.out]; simp [isWord]; omega, trivial⟩
            case measure => simp [intOf]; omega
        · go_wp2_with fail
          go_roundw
          case rel => exact ⟨k + 1, false, rfl, by go_num, by omega, by unfold Hid; rw [HX.out, List.all_append, ← HP.out]; simp [isWord]; omega, trivial⟩
          case measure => simp [intOf]; omega
    · obtain rfl : k = l.length := by omega
      have HA := Lib.hid (show l.all isWord = p by rw [HP.out, List.take_length])
      clear HP hlt hk
      cases p with
      | false =>
        obtain ⟨m1, m2⟩ := words_out l HA.out
        go_wp2_with fail
        refine (words_any _ _ l _ hrl (by omega)).mono ?_
        rintro e w3 ⟨rfl, hk⟩
        replace hb := bnext hb (Nat.le_refl _) hk
        clear hk
        rw [m1, m2]
        go_wp2_with fail
        refine (awake_true _).mono ?_
        rintro e w4 ⟨rfl, hk⟩
        replace hb := bnext hb (Nat.le_refl _) hk
        clear hk
        go_wp2_with fail
        go_ret
        exact ⟨rfl, hb⟩
      | true =>
        have HAB := HA.out
        rw [HL.out, List.all_append, Bool.and_eq_true] at HAB
        obtain ⟨S, hS⟩ : ∃ S, S = l.flatMap wordBytes := ⟨_, rfl⟩
        obtain ⟨A, hA⟩ : ∃ A, A = la.flatMap wordBytes := ⟨_, rfl⟩
        obtain ⟨B, hB⟩ : ∃ B, B = lb.flatMap wordBytes := ⟨_, rfl⟩
        have M1 := Lib.hid (show wordsM l = S ∧ wordsE l = 0 by rw [hS]; exact words_in l HA.out)
        have M2 := Lib.hid (show wordsM la = A ∧ wordsE la = 0 by rw [hA]; exact words_in la HAB.1)
        have M3 := Lib.hid (show wordsM lb = B ∧ wordsE lb = 0 by rw [hB]; exact words_in lb HAB.2)
        have hSl : S.length = 2 * l.length := by rw [hS, wordsM_length]
        have hal : A.length ≤ 600 := by rw [hA, wordsM_length]; omega
        have hbl : B.length ≤ 600 := by rw [hB, wordsM_length]; omega
        have hcat : (⟨A.toArray⟩ : ByteArray) ++ ⟨B.toArray⟩ = ⟨S.toArray⟩ := by rw [mk_append, hS, hA, hB, HL.out, List.flatMap_append]
        have hlen : ((S.length : Int) != 2 * (l.length : Int)) = false := by simp; omega
        have hS6 : S.length ≤ 1200 := by omega
        have HS := Lib.hid hS
        have HSl := Lib.hid hSl
        clear hS hA hB HAB hSl
        go_wp2_with fail
        refine (words_of _ _ l S 0 _ hrl (by omega) M1.out.1 M1.out.2).mono ?_
        rintro e w3 ⟨rfl, hk⟩
        have hrl3 := hrl.below hk (Nat.le_refl _)
        replace hb := bnext hb (Nat.le_refl _) hk
        clear hk hrl
        go_wp2_with fail
        refine (words_of _ _ la A 0 _ (hra.below hb (Nat.le_refl _)) (by omega) M2.out.1 M2.out.2).mono ?_
        rintro e w4 ⟨rfl, hk⟩
        have hrl4 := hrl3.below hk (Nat.le_refl _)
        replace hb := bnext hb (Nat.le_refl _) hk
        clear hk hrl3
        go_wp2_with fail
        refine (words_of _ _ lb B 0 _ (hrb.below hb (Nat.le_refl _)) (by omega) M3.out.1 M3.out.2).mono ?_
        rintro e w5 ⟨rfl, hk⟩
        have hrl5 := hrl4.below hk (Nat.le_refl _)
        replace hb := bnext hb (Nat.le_refl _) hk
        clear hk hrl4 hra hrb M2 M3
        go_wp2_with fail
        go_loopw [14] (fun i wr => ∃ (k : Nat), i = .int .i64 k ∧ k ≤ l.length ∧ Below w5.heap.size w5 wr) (fun i _ => (l.length - intOf i).toNat)
        case atStart => exact ⟨0, rfl, by omega, Below.refl _ _⟩
        case round =>
          obtain ⟨k, rfl, hk, hbr⟩ := hrel
          by_cases hlt : k < l.length
          · obtain ⟨x, hx, hx'⟩ := ints_at l k hlt
            obtain ⟨hx0, hx1⟩ := all_get l HA.out k x hx'
            have hk0 : (0 : Int) ≤ k := by omega
            have hkl : (k : Int) < l.length := by omega
            have h2k : (2 * (k : Int)) ≤ S.length := by have := HSl.out; omega
            have R := Lib.hid (show ∀ n : Nat, n = S.length → int3 (readWordM ((⟨S.toArray⟩ : ByteArray).extract (2 * k) n).data.toList) = .tuple #[.int .i64 x, .int .i64 2, .int .i64 0] by
              rintro n rfl
              have e : ((⟨S.toArray⟩ : ByteArray).extract (2 * k) S.length).data.toList = S.drop (2 * k) := by simp; exact List.take_of_length_le (by simp)
              rw [e, HS.out, readWord_at l k x hx' hx0 hx1]; rfl)
            clear hx'
            have hsz : ((⟨S.toArray⟩ : ByteArray).extract (2 * k) S.length).size ≤ 9223372036854775807 := by
              rw [ByteArray.size_extract]; show min _ S.length - _ ≤ _; omega
            go_wp2_with fail
            refine (readWord_any _ _ hsz).mono ?_
            rintro e w6 ⟨rfl, hk⟩
            rw [R.out _ rfl]
            clear R hsz
            have hbr2 := bnext hbr (Nat.le_refl _) hk
            clear hbr hk
            obtain ⟨b', off', rfl, hc2⟩ := (hrl5.below hbr2 (Nat.le_refl _)).at hx
            clear hx hrl5
            go_wp2_with fail
            go_roundw
            case rel => exact ⟨k + 1, by go_num, by omega, hbr2⟩
            case measure => simp [intOf]; omega
          · replace hb := bnext hb (Nat.le_refl _) hbr
            clear hbr hrl5
            have e0 : ((S.length : Int).tmod 2) = 0 := by rw [Int.tmod_eq_emod_of_nonneg (by omega)]; have := HSl.out; omega
            have hconv : ∀ (w : World) (x : Int), (convert 42 9 (.slice (some ⟨w.heap.size, 0, none⟩) 1 1)).run Try.prog (w.alloc (.cells #[.int .u8 x] 5)).drew = .ok (.string ⟨#[UInt8.ofNat x.toNat]⟩) (w.alloc (.cells #[.int .u8 x] 5)).drew := fun w x => str_new1 w.drew x
            clear hcat hlen
            go_wp2_with fail
            go_region_with ((go_at_call 12; refine (readWord_of _ [7] 0 0 2 _ (by simp) (by simp) (by decide)).mono ?_; rintro e w6 ⟨rfl, hk⟩))
            replace hb := bnext ((hb.alloc hb.size _).drew) (Nat.le_refl _) hk
            clear hk hconv e0
            go_wp2_with fail
            refine (awake_true _).mono ?_
            rintro e w7 ⟨rfl, hk⟩
            replace hb := bnext hb (Nat.le_refl _) hk
            clear hk
            go_wp2_with fail
            go_ret
            exact ⟨rfl, hb⟩
end Go.Proofs.Ytmnhbbhcilbnoaa
