/- The reference's count of characters. The reference's character, by the plain width. (Printed by gen_char.py.) The fields of texts and of any bytes: the program's calls and the reference's, by plain functions. -/
import Derived.Test.YthfdcphecggjeaaGreatDoorQE
namespace Go.Proofs.YthfdcphecggjeaaGreatDoor
section
open Go Go.RowKit Go.Lib

/-- how many bytes the character has that begins with a byte, by the reference -/
def szN (b : Nat) : Int := if b < 128 then 1 else if b < 192 then 0 else if b < 224 then 2 else if b < 240 then 3 else if b < 248 then 4 else 0
theorem size_any (b : Nat) (n : Int) (w : World) (hb : b < 256) (hn : szN b = n) :
    Calls Tryz.prog 171 #[.int .u8 (b : Int)] w fun e w' => e = .returned (.int .i64 n) ∧ w = w' := by
  subst hn
  unfold szN
  by_cases h1 : b < 128
  · rw [if_pos h1]
    have h1' : (b : Int) < 128 := by omega
    go_enter Tryz.func171, Tryz.ntmps171
    go_wp2_with fail
    go_ret
    exact ⟨rfl, rfl⟩
  rw [if_neg h1]
  by_cases h2 : b < 192
  · rw [if_pos h2]
    have h1' : ¬ (b : Int) < 128 := by omega
    have h2' : ¬ (192 : Int) ≤ b := by omega
    have h3' : ¬ (224 : Int) ≤ b := by omega
    have h4' : ¬ (240 : Int) ≤ b := by omega
    go_enter Tryz.func171, Tryz.ntmps171
    go_wp2_with fail
    go_ret
    exact ⟨rfl, rfl⟩
  rw [if_neg h2]
  have h1' : ¬ (b : Int) < 128 := by omega
  have h2' : (192 : Int) ≤ b := by omega
  by_cases h3 : b < 224
  · rw [if_pos h3]
    have h3' : (b : Int) < 224 := by omega
    go_enter Tryz.func171, Tryz.ntmps171
    go_wp2_with fail
    go_ret
    exact ⟨rfl, rfl⟩
  rw [if_neg h3]
  have h3' : ¬ (b : Int) < 224 := by omega
  have h4' : (224 : Int) ≤ b := by omega
  by_cases h4 : b < 240
  · rw [if_pos h4]
    have h5' : (b : Int) < 240 := by omega
    go_enter Tryz.func171, Tryz.ntmps171
    go_wp2_with fail
    go_ret
    exact ⟨rfl, rfl⟩
  rw [if_neg h4]
  have h5' : ¬ (b : Int) < 240 := by omega
  have h6' : (240 : Int) ≤ b := by omega
  by_cases h5 : b < 248
  · rw [if_pos h5]
    have h7' : (b : Int) < 248 := by omega
    go_enter Tryz.func171, Tryz.ntmps171
    go_wp2_with fail
    go_ret
    exact ⟨rfl, rfl⟩
  · rw [if_neg h5]
    have h7' : ¬ (b : Int) < 248 := by omega
    go_enter Tryz.func171, Tryz.ntmps171
    go_wp2_with fail
    go_ret
    exact ⟨rfl, rfl⟩

def leastN (n : Nat) : Int := if n = 1 then 1 else if n = 2 then 128 else if n = 3 then 2048 else 65536
theorem least_any (n : Nat) (w : World) (h1 : 1 ≤ n) (h4 : n ≤ 4) :
    Calls Tryz.prog 172 #[.int .i64 (n : Int)] w fun e w' => e = .returned (.int .i64 (leastN n)) ∧ Below w.heap.size w w' := by
  rcases (by omega : n = 1 ∨ n = 2 ∨ n = 3 ∨ n = 4) with rfl | rfl | rfl | rfl
  all_goals
    go_enter Tryz.func172, Tryz.ntmps172
    go_wp2_with fail
    go_ret
    exact ⟨rfl, (Below.refl _ _).alloc (Nat.le_refl _) _⟩
end
section
open Go Go.RowKit

theorem least_at (n : Nat) (m : Int) (w : World) (h1 : 1 ≤ n) (h4 : n ≤ 4) (hm : leastN n = m) :
    Calls Tryz.prog 172 #[.int .i64 (n : Int)] w fun e w' => e = .returned (.int .i64 m) ∧ Below w.heap.size w w' := by
  subst hm; exact least_any n w h1 h4
theorem get_nat (s : ByteArray) (i : Nat) (h : i < s.size) : (s[i]'h).toNat = at0 s.data.toList i := (at0_get (bget s i h)).symm
theorem cw_of (s : ByteArray) : cw s.data.toList = cwN s.size (at0 s.data.toList 0) (at0 s.data.toList 1) (at0 s.data.toList 2) (at0 s.data.toList 3) := rfl
def okC (m x : Int) : Prop := m ≤ x ∧ x ≤ 1114111 ∧ ¬ (55296 ≤ x ∧ x ≤ 57343)
theorem cw_sz0 (n b0 b1 b2 b3 : Nat) (h : szN b0 = 0) (hb : b0 < 256) : cwN n b0 b1 b2 b3 = 0 := by
  unfold szN at h
  unfold cwN
  repeat' split at h
  all_goals first | omega | ((repeat' split) <;> omega)
theorem cw_short (n b0 b1 b2 b3 : Nat) (h : (n : Int) < szN b0) (hn : 0 < n) : cwN n b0 b1 b2 b3 = 0 := by
  unfold szN at h
  unfold cwN
  repeat' split at h
  all_goals first | omega | ((repeat' split) <;> omega)
theorem cw_1 (n b0 b1 b2 b3 : Nat) (h : szN b0 = 1) : (1 ≤ b0 → cwN n b0 b1 b2 b3 = 1) ∧ (b0 = 0 → cwN n b0 b1 b2 b3 = 0) ∧ b0 < 128 := by
  unfold szN at h
  unfold cwN
  repeat' split at h
  all_goals first | omega | ((repeat' split) <;> omega)
set_option maxHeartbeats 4000000 in
theorem cw_2 (n b0 b1 b2 b3 : Nat) (h : szN b0 = 2) (hn : (2 : Int) ≤ n) (c1 : 128 ≤ b1 ∧ b1 ≤ 191) : (okC 128 (64 * ((b0 : Int) - 192) + (b1 : Int) - 128) → cwN n b0 b1 b2 b3 = 2) ∧ (¬ okC 128 (64 * ((b0 : Int) - 192) + (b1 : Int) - 128) → cwN n b0 b1 b2 b3 = 0) := by
  unfold szN at h
  have hb : 192 ≤ b0 ∧ b0 < 224 := by
    repeat' split at h
    all_goals omega
  unfold okC cwN
  constructor <;> intro hc <;> (repeat' split) <;> omega
theorem cw_2_no1 (n b0 b1 b2 b3 : Nat) (h : szN b0 = 2) (c : ¬ (128 ≤ b1 ∧ b1 ≤ 191)) : cwN n b0 b1 b2 b3 = 0 := by
  unfold szN at h
  unfold cwN
  repeat' split at h
  all_goals first | omega | ((repeat' split) <;> omega)
set_option maxHeartbeats 4000000 in
theorem cw_3 (n b0 b1 b2 b3 : Nat) (h : szN b0 = 3) (hn : (3 : Int) ≤ n) (c1 : 128 ≤ b1 ∧ b1 ≤ 191) (c2 : 128 ≤ b2 ∧ b2 ≤ 191) : (okC 2048 (64 * (64 * ((b0 : Int) - 224) + (b1 : Int) - 128) + (b2 : Int) - 128) → cwN n b0 b1 b2 b3 = 3) ∧ (¬ okC 2048 (64 * (64 * ((b0 : Int) - 224) + (b1 : Int) - 128) + (b2 : Int) - 128) → cwN n b0 b1 b2 b3 = 0) := by
  unfold szN at h
  have hb : 224 ≤ b0 ∧ b0 < 240 := by
    repeat' split at h
    all_goals omega
  unfold okC cwN
  constructor <;> intro hc <;> (repeat' split) <;> omega
theorem cw_3_no1 (n b0 b1 b2 b3 : Nat) (h : szN b0 = 3) (c : ¬ (128 ≤ b1 ∧ b1 ≤ 191)) : cwN n b0 b1 b2 b3 = 0 := by
  unfold szN at h
  unfold cwN
  repeat' split at h
  all_goals first | omega | ((repeat' split) <;> omega)
theorem cw_3_no2 (n b0 b1 b2 b3 : Nat) (h : szN b0 = 3) (c : ¬ (128 ≤ b2 ∧ b2 ≤ 191)) : cwN n b0 b1 b2 b3 = 0 := by
  unfold szN at h
  unfold cwN
  repeat' split at h
  all_goals first | omega | ((repeat' split) <;> omega)
set_option maxHeartbeats 4000000 in
theorem cw_4 (n b0 b1 b2 b3 : Nat) (h : szN b0 = 4) (hn : (4 : Int) ≤ n) (c1 : 128 ≤ b1 ∧ b1 ≤ 191) (c2 : 128 ≤ b2 ∧ b2 ≤ 191) (c3 : 128 ≤ b3 ∧ b3 ≤ 191) : (okC 65536 (64 * (64 * (64 * ((b0 : Int) - 240) + (b1 : Int) - 128) + (b2 : Int) - 128) + (b3 : Int) - 128) → cwN n b0 b1 b2 b3 = 4) ∧ (¬ okC 65536 (64 * (64 * (64 * ((b0 : Int) - 240) + (b1 : Int) - 128) + (b2 : Int) - 128) + (b3 : Int) - 128) → cwN n b0 b1 b2 b3 = 0) := by
  unfold szN at h
  have hb : 240 ≤ b0 ∧ b0 < 248 := by
    repeat' split at h
    all_goals omega
  unfold okC cwN
  constructor <;> intro hc <;> (repeat' split) <;> omega
theorem cw_4_no1 (n b0 b1 b2 b3 : Nat) (h : szN b0 = 4) (c : ¬ (128 ≤ b1 ∧ b1 ≤ 191)) : cwN n b0 b1 b2 b3 = 0 := by
  unfold szN at h
  unfold cwN
  repeat' split at h
  all_goals first | omega | ((repeat' split) <;> omega)
theorem cw_4_no2 (n b0 b1 b2 b3 : Nat) (h : szN b0 = 4) (c : ¬ (128 ≤ b2 ∧ b2 ≤ 191)) : cwN n b0 b1 b2 b3 = 0 := by
  unfold szN at h
  unfold cwN
  repeat' split at h
  all_goals first | omega | ((repeat' split) <;> omega)
theorem cw_4_no3 (n b0 b1 b2 b3 : Nat) (h : szN b0 = 4) (c : ¬ (128 ≤ b3 ∧ b3 ≤ 191)) : cwN n b0 b1 b2 b3 = 0 := by
  unfold szN at h
  unfold cwN
  repeat' split at h
  all_goals first | omega | ((repeat' split) <;> omega)

set_option maxRecDepth 100000 in
set_option maxHeartbeats 4000000 in
theorem character_any (s : ByteArray) (w : World) (hs : 0 < s.size) (hbig : s.size ≤ 9223372036854775807) :
    Calls Tryz.prog 152 #[.string s] w fun e w' => ∃ c, e = .returned (.tuple #[.int .i64 c, .int .i64 (cw s.data.toList : Int)]) ∧ Below w.heap.size w w' := by
  have hs' : (0 : Int) < s.size := by omega
  have e0 := get_nat s 0 hs
  have HW := Lib.hid (cw_of s)
  have hb0 := at0_lt s.data.toList 0
  have hb1 := at0_lt s.data.toList 1
  have hb2 := at0_lt s.data.toList 2
  have hb3 := at0_lt s.data.toList 3
  have g1 := get_nat s 1
  have g2 := get_nat s 2
  have g3 := get_nat s 3
  generalize cw s.data.toList = R at *
  generalize at0 s.data.toList 0 = b0 at *
  generalize at0 s.data.toList 1 = b1 at *
  generalize at0 s.data.toList 2 = b2 at *
  generalize at0 s.data.toList 3 = b3 at *
  obtain ⟨sz, hsz⟩ : ∃ z, szN b0 = z := ⟨_, rfl⟩
  have hcase : sz = 0 ∨ sz = 1 ∨ sz = 2 ∨ sz = 3 ∨ sz = 4 := by
    rw [← hsz]; unfold szN; (repeat' split) <;> omega
  have HS := Lib.hid hsz
  clear hsz
  by_cases hz : sz = 0
  · subst hz
    have HR := Lib.hid (HW.out.trans (cw_sz0 _ _ _ _ _ HS.out hb0))
    clear g1 g2 g3
    go_enter Tryz.func152, Tryz.ntmps152
    go_wp2_with fail
    refine (size_any b0 0 _ hb0 HS.out).mono ?_
    rintro e w' ⟨rfl, rfl⟩
    go_wp2_with fail
    go_ret2
    first | exact ⟨0, by rw [HR.out]; rfl, Below.refl _ _⟩ | exact ⟨⟨0, by rw [HR.out]; rfl⟩, Below.refl _ _⟩
  have hzb : (sz == 0) = false := by simp [hz]
  by_cases hsh : (s.size : Int) < sz
  · have HR := Lib.hid (HW.out.trans (cw_short _ _ _ _ _ (by rw [HS.out]; exact hsh) hs))
    clear g1 g2 g3
    go_enter Tryz.func152, Tryz.ntmps152
    go_wp2_with fail
    refine (size_any b0 sz _ hb0 HS.out).mono ?_
    rintro e w' ⟨rfl, rfl⟩
    go_wp2_with fail
    go_ret2
    first | exact ⟨0, by rw [HR.out]; rfl, Below.refl _ _⟩ | exact ⟨⟨0, by rw [HR.out]; rfl⟩, Below.refl _ _⟩
  have hshd : decide ((s.size : Int) < sz) = false := decide_eq_false hsh
  rcases hcase with rfl | rfl | rfl | rfl | rfl
  · exact absurd rfl hz
  · have HC := Lib.hid (cw_1 s.size b0 b1 b2 b3 HS.out)
    have hb128 := HC.out.2.2
    clear g1 g2 g3
    by_cases h0 : b0 = 0
    · have HR := Lib.hid (HW.out.trans (HC.out.2.1 h0))
      subst h0
      go_enter Tryz.func152, Tryz.ntmps152
      go_wp2_with fail
      refine (size_any 0 1 _ hb0 HS.out).mono ?_
      rintro e w' ⟨rfl, rfl⟩
      go_wp2_with fail
      go_loopw [5, 6] (fun c i wr => c = .int .i64 0 ∧ i = .int .i64 1 ∧ Below w.heap.size w wr) (fun _ _ _ => 0)
      case atStart => exact ⟨rfl, rfl, Below.refl _ _⟩
      case round =>
        obtain ⟨rfl, rfl, hb⟩ := hrel
        go_wp2_with fail
        refine (least_at 1 1 _ (by omega) (by omega) rfl).mono ?_
        rintro e w' ⟨rfl, hk⟩
        replace hb := bnext hb (Nat.le_refl _) hk
        go_wp2_with fail
        go_ret2
        first | exact ⟨0, by rw [HR.out]; rfl, hb⟩ | exact ⟨⟨0, by rw [HR.out]; rfl⟩, hb⟩
    · have HR := Lib.hid (HW.out.trans (HC.out.1 (by omega)))
      obtain ⟨x, hx⟩ : ∃ x : Int, (b0 : Int) = x := ⟨_, rfl⟩
      have h1 : ¬ x < 1 := by omega
      have h2 : ¬ (1114111 : Int) < x := by omega
      have h3 : ¬ (55296 : Int) ≤ x := by omega
      have h4 : IntKind.i64.wrap x = x := w_i64 _ (by omega) (by omega)
      have hsz1 := fun w => size_any b0 1 w hb0 HS.out
      rw [hx] at hsz1
      clear h0 HC
      go_enter Tryz.func152, Tryz.ntmps152
      go_wp2_with fail
      refine (hsz1 _).mono ?_
      rintro e w' ⟨rfl, rfl⟩
      clear hsz1
      go_wp2_with fail
      go_loopw [5, 6] (fun c i wr => c = .int .i64 x ∧ i = .int .i64 1 ∧ Below w.heap.size w wr) (fun _ _ _ => 0)
      case atStart => exact ⟨rfl, rfl, Below.refl _ _⟩
      case round =>
        obtain ⟨rfl, rfl, hb⟩ := hrel
        go_wp2_with fail
        refine (least_at 1 1 _ (by omega) (by omega) rfl).mono ?_
        rintro e w' ⟨rfl, hk⟩
        replace hb := bnext hb (Nat.le_refl _) hk
        go_wp2_with fail
        go_ret2
        first | exact ⟨x, by rw [HR.out]; rfl, hb⟩ | exact ⟨⟨x, by rw [HR.out]; rfl⟩, hb⟩
  · have hlo : 192 ≤ b0 ∧ b0 < 224 := by
      have h := HS.out
      unfold szN at h
      repeat' split at h
      all_goals omega
    have e1 := g1 (by omega)
    have l1 : (1 : Int) < s.size := by omega
    clear g1 g2 g3
    have hw0 : IntKind.i64.wrap ((b0 : Int) - 192) = (b0 : Int) - 192 := w_i64 _ (by omega) (by omega)
    go_enter Tryz.func152, Tryz.ntmps152
    go_wp2_with fail
    refine (size_any b0 2 _ hb0 HS.out).mono ?_
    rintro e w' ⟨rfl, rfl⟩
    go_wp2_with fail
    go_loopw [5, 6] (fun c i wr => ∃ (k : Nat) (x : Int), c = .int .i64 x ∧ i = .int .i64 k ∧ ((k = 1 ∧ x = ((b0 : Int) - 192)) ∨ (k = 2 ∧ (128 ≤ b1 ∧ b1 ≤ 191) ∧ x = (64 * ((b0 : Int) - 192) + (b1 : Int) - 128))) ∧ Below w.heap.size w wr) (fun _ i _ => (2 - intOf i).toNat)
    case atStart => exact ⟨1, _, rfl, rfl, .inl ⟨rfl, rfl⟩, (Below.refl _ _).alloc (Nat.le_refl _) _⟩
    case round =>
      obtain ⟨k, x, rfl, rfl, hpre, hb⟩ := hrel
      rcases hpre with ⟨rfl, hx⟩ | ⟨rfl, d1, hx⟩
      · by_cases c1 : b1 < 128
        · have c1' : (b1 : Int) < 128 := by omega
          have HR := Lib.hid (HW.out.trans (cw_2_no1 _ _ _ _ _ HS.out (by omega)))
          clear hx
          go_wp2_with fail
          go_ret2
          first | exact ⟨0, by rw [HR.out]; rfl, hb⟩ | exact ⟨⟨0, by rw [HR.out]; rfl⟩, hb⟩
        · have c1' : ¬ (b1 : Int) < 128 := by omega
          by_cases c2 : 191 < b1
          · have c2' : (191 : Int) < b1 := by omega
            have HR := Lib.hid (HW.out.trans (cw_2_no1 _ _ _ _ _ HS.out (by omega)))
            clear hx
            go_wp2_with fail
            go_ret2
            first | exact ⟨0, by rw [HR.out]; rfl, hb⟩ | exact ⟨⟨0, by rw [HR.out]; rfl⟩, hb⟩
          · have c2' : ¬ (191 : Int) < b1 := by omega
            have hw1 : IntKind.i64.wrap (64 * x) = 64 * x := w_i64 _ (by omega) (by omega)
            have hw2 : IntKind.i64.wrap (64 * x + b1) = 64 * x + b1 := w_i64 _ (by omega) (by omega)
            have hw3 : IntKind.i64.wrap (64 * x + b1 - 128) = 64 * x + b1 - 128 := w_i64 _ (by omega) (by omega)
            have hw4 : IntKind.i64.wrap (b1 : Int) = (b1 : Int) := w_i64 _ (by omega) (by omega)
            have HX := Lib.hid hx
            clear hx
            go_wp2_with fail
            go_roundw
            case rel => exact ⟨2, _, rfl, rfl, by have := HX.out; omega, hb⟩
            case measure => simp [intOf]
      · have HC := Lib.hid (cw_2 s.size b0 b1 b2 b3 HS.out (by omega) d1)
        rw [← hx] at HC
        have hxr : -1000000 ≤ x ∧ x ≤ 100000000 := by omega
        clear hx
        have hq : x < 128 ∨ (¬ x < 128 ∧ 1114111 < x) ∨ (¬ x < 128 ∧ ¬ 1114111 < x ∧ 55296 ≤ x ∧ x ≤ 57343) ∨ (¬ x < 128 ∧ ¬ 1114111 < x ∧ 55296 ≤ x ∧ ¬ x ≤ 57343) ∨ (¬ x < 128 ∧ ¬ 1114111 < x ∧ ¬ 55296 ≤ x) := by omega
        rcases hq with p1 | ⟨p1, p2⟩ | ⟨p1, p2, p3, p4⟩ | ⟨p1, p2, p3, p4⟩ | ⟨p1, p2, p3⟩
        · have HR := Lib.hid (HW.out.trans (HC.out.2 (fun h => by have := h.1; omega)))
          clear HC
          go_wp2_with fail
          refine (least_at 2 128 _ (by omega) (by omega) rfl).mono ?_
          rintro e w' ⟨rfl, hk⟩
          replace hb := bnext hb (Nat.le_refl _) hk
          go_wp2_with fail
          go_ret2
          first | exact ⟨_, by rw [HR.out]; rfl, hb⟩ | exact ⟨⟨_, by rw [HR.out]; rfl⟩, hb⟩
        · have HR := Lib.hid (HW.out.trans (HC.out.2 (fun h => by have := h.2.1; omega)))
          clear HC
          go_wp2_with fail
          refine (least_at 2 128 _ (by omega) (by omega) rfl).mono ?_
          rintro e w' ⟨rfl, hk⟩
          replace hb := bnext hb (Nat.le_refl _) hk
          go_wp2_with fail
          go_ret2
          first | exact ⟨_, by rw [HR.out]; rfl, hb⟩ | exact ⟨⟨_, by rw [HR.out]; rfl⟩, hb⟩
        · have HR := Lib.hid (HW.out.trans (HC.out.2 (fun h => h.2.2 ⟨p3, p4⟩)))
          clear HC
          go_wp2_with fail
          refine (least_at 2 128 _ (by omega) (by omega) rfl).mono ?_
          rintro e w' ⟨rfl, hk⟩
          replace hb := bnext hb (Nat.le_refl _) hk
          go_wp2_with fail
          go_ret2
          first | exact ⟨_, by rw [HR.out]; rfl, hb⟩ | exact ⟨⟨_, by rw [HR.out]; rfl⟩, hb⟩
        · have HR := Lib.hid (HW.out.trans (HC.out.1 ⟨by omega, by omega, by omega⟩))
          clear HC
          go_wp2_with fail
          refine (least_at 2 128 _ (by omega) (by omega) rfl).mono ?_
          rintro e w' ⟨rfl, hk⟩
          replace hb := bnext hb (Nat.le_refl _) hk
          go_wp2_with fail
          go_ret2
          first | exact ⟨_, by rw [HR.out]; rfl, hb⟩ | exact ⟨⟨_, by rw [HR.out]; rfl⟩, hb⟩
        · have HR := Lib.hid (HW.out.trans (HC.out.1 ⟨by omega, by omega, by omega⟩))
          clear HC
          go_wp2_with fail
          refine (least_at 2 128 _ (by omega) (by omega) rfl).mono ?_
          rintro e w' ⟨rfl, hk⟩
          replace hb := bnext hb (Nat.le_refl _) hk
          go_wp2_with fail
          go_ret2
          first | exact ⟨_, by rw [HR.out]; rfl, hb⟩ | exact ⟨⟨_, by rw [HR.out]; rfl⟩, hb⟩
  · have hlo : 224 ≤ b0 ∧ b0 < 240 := by
      have h := HS.out
      unfold szN at h
      repeat' split at h
      all_goals omega
    have e1 := g1 (by omega)
    have l1 : (1 : Int) < s.size := by omega
    have e2 := g2 (by omega)
    have l2 : (2 : Int) < s.size := by omega
    clear g1 g2 g3
    have hw0 : IntKind.i64.wrap ((b0 : Int) - 224) = (b0 : Int) - 224 := w_i64 _ (by omega) (by omega)
    go_enter Tryz.func152, Tryz.ntmps152
    go_wp2_with fail
    refine (size_any b0 3 _ hb0 HS.out).mono ?_
    rintro e w' ⟨rfl, rfl⟩
    go_wp2_with fail
    go_loopw [5, 6] (fun c i wr => ∃ (k : Nat) (x : Int), c = .int .i64 x ∧ i = .int .i64 k ∧ ((k = 1 ∧ x = ((b0 : Int) - 224)) ∨ (k = 2 ∧ (128 ≤ b1 ∧ b1 ≤ 191) ∧ x = (64 * ((b0 : Int) - 224) + (b1 : Int) - 128)) ∨ (k = 3 ∧ (128 ≤ b1 ∧ b1 ≤ 191) ∧ (128 ≤ b2 ∧ b2 ≤ 191) ∧ x = (64 * (64 * ((b0 : Int) - 224) + (b1 : Int) - 128) + (b2 : Int) - 128))) ∧ Below w.heap.size w wr) (fun _ i _ => (3 - intOf i).toNat)
    case atStart => exact ⟨1, _, rfl, rfl, .inl ⟨rfl, rfl⟩, (Below.refl _ _).alloc (Nat.le_refl _) _⟩
    case round =>
      obtain ⟨k, x, rfl, rfl, hpre, hb⟩ := hrel
      rcases hpre with ⟨rfl, hx⟩ | ⟨rfl, d1, hx⟩ | ⟨rfl, d1, d2, hx⟩
      · by_cases c1 : b1 < 128
        · have c1' : (b1 : Int) < 128 := by omega
          have HR := Lib.hid (HW.out.trans (cw_3_no1 _ _ _ _ _ HS.out (by omega)))
          clear hx
          go_wp2_with fail
          go_ret2
          first | exact ⟨0, by rw [HR.out]; rfl, hb⟩ | exact ⟨⟨0, by rw [HR.out]; rfl⟩, hb⟩
        · have c1' : ¬ (b1 : Int) < 128 := by omega
          by_cases c2 : 191 < b1
          · have c2' : (191 : Int) < b1 := by omega
            have HR := Lib.hid (HW.out.trans (cw_3_no1 _ _ _ _ _ HS.out (by omega)))
            clear hx
            go_wp2_with fail
            go_ret2
            first | exact ⟨0, by rw [HR.out]; rfl, hb⟩ | exact ⟨⟨0, by rw [HR.out]; rfl⟩, hb⟩
          · have c2' : ¬ (191 : Int) < b1 := by omega
            have hw1 : IntKind.i64.wrap (64 * x) = 64 * x := w_i64 _ (by omega) (by omega)
            have hw2 : IntKind.i64.wrap (64 * x + b1) = 64 * x + b1 := w_i64 _ (by omega) (by omega)
            have hw3 : IntKind.i64.wrap (64 * x + b1 - 128) = 64 * x + b1 - 128 := w_i64 _ (by omega) (by omega)
            have hw4 : IntKind.i64.wrap (b1 : Int) = (b1 : Int) := w_i64 _ (by omega) (by omega)
            have HX := Lib.hid hx
            clear hx
            go_wp2_with fail
            go_roundw
            case rel => exact ⟨2, _, rfl, rfl, by have := HX.out; omega, hb⟩
            case measure => simp [intOf]
      · by_cases c1 : b2 < 128
        · have c1' : (b2 : Int) < 128 := by omega
          have HR := Lib.hid (HW.out.trans (cw_3_no2 _ _ _ _ _ HS.out (by omega)))
          clear hx
          go_wp2_with fail
          go_ret2
          first | exact ⟨0, by rw [HR.out]; rfl, hb⟩ | exact ⟨⟨0, by rw [HR.out]; rfl⟩, hb⟩
        · have c1' : ¬ (b2 : Int) < 128 := by omega
          by_cases c2 : 191 < b2
          · have c2' : (191 : Int) < b2 := by omega
            have HR := Lib.hid (HW.out.trans (cw_3_no2 _ _ _ _ _ HS.out (by omega)))
            clear hx
            go_wp2_with fail
            go_ret2
            first | exact ⟨0, by rw [HR.out]; rfl, hb⟩ | exact ⟨⟨0, by rw [HR.out]; rfl⟩, hb⟩
          · have c2' : ¬ (191 : Int) < b2 := by omega
            have hw1 : IntKind.i64.wrap (64 * x) = 64 * x := w_i64 _ (by omega) (by omega)
            have hw2 : IntKind.i64.wrap (64 * x + b2) = 64 * x + b2 := w_i64 _ (by omega) (by omega)
            have hw3 : IntKind.i64.wrap (64 * x + b2 - 128) = 64 * x + b2 - 128 := w_i64 _ (by omega) (by omega)
            have hw4 : IntKind.i64.wrap (b2 : Int) = (b2 : Int) := w_i64 _ (by omega) (by omega)
            have HX := Lib.hid hx
            clear hx
            go_wp2_with fail
            go_roundw
            case rel => exact ⟨3, _, rfl, rfl, by have := HX.out; omega, hb⟩
            case measure => simp [intOf]
      · have HC := Lib.hid (cw_3 s.size b0 b1 b2 b3 HS.out (by omega) d1 d2)
        rw [← hx] at HC
        have hxr : -1000000 ≤ x ∧ x ≤ 100000000 := by omega
        clear hx
        have hq : x < 2048 ∨ (¬ x < 2048 ∧ 1114111 < x) ∨ (¬ x < 2048 ∧ ¬ 1114111 < x ∧ 55296 ≤ x ∧ x ≤ 57343) ∨ (¬ x < 2048 ∧ ¬ 1114111 < x ∧ 55296 ≤ x ∧ ¬ x ≤ 57343) ∨ (¬ x < 2048 ∧ ¬ 1114111 < x ∧ ¬ 55296 ≤ x) := by omega
        rcases hq with p1 | ⟨p1, p2⟩ | ⟨p1, p2, p3, p4⟩ | ⟨p1, p2, p3, p4⟩ | ⟨p1, p2, p3⟩
        · have HR := Lib.hid (HW.out.trans (HC.out.2 (fun h => by have := h.1; omega)))
          clear HC
          go_wp2_with fail
          refine (least_at 3 2048 _ (by omega) (by omega) rfl).mono ?_
          rintro e w' ⟨rfl, hk⟩
          replace hb := bnext hb (Nat.le_refl _) hk
          go_wp2_with fail
          go_ret2
          first | exact ⟨_, by rw [HR.out]; rfl, hb⟩ | exact ⟨⟨_, by rw [HR.out]; rfl⟩, hb⟩
        · have HR := Lib.hid (HW.out.trans (HC.out.2 (fun h => by have := h.2.1; omega)))
          clear HC
          go_wp2_with fail
          refine (least_at 3 2048 _ (by omega) (by omega) rfl).mono ?_
          rintro e w' ⟨rfl, hk⟩
          replace hb := bnext hb (Nat.le_refl _) hk
          go_wp2_with fail
          go_ret2
          first | exact ⟨_, by rw [HR.out]; rfl, hb⟩ | exact ⟨⟨_, by rw [HR.out]; rfl⟩, hb⟩
        · have HR := Lib.hid (HW.out.trans (HC.out.2 (fun h => h.2.2 ⟨p3, p4⟩)))
          clear HC
          go_wp2_with fail
          refine (least_at 3 2048 _ (by omega) (by omega) rfl).mono ?_
          rintro e w' ⟨rfl, hk⟩
          replace hb := bnext hb (Nat.le_refl _) hk
          go_wp2_with fail
          go_ret2
          first | exact ⟨_, by rw [HR.out]; rfl, hb⟩ | exact ⟨⟨_, by rw [HR.out]; rfl⟩, hb⟩
        · have HR := Lib.hid (HW.out.trans (HC.out.1 ⟨by omega, by omega, by omega⟩))
          clear HC
          go_wp2_with fail
          refine (least_at 3 2048 _ (by omega) (by omega) rfl).mono ?_
          rintro e w' ⟨rfl, hk⟩
          replace hb := bnext hb (Nat.le_refl _) hk
          go_wp2_with fail
          go_ret2
          first | exact ⟨_, by rw [HR.out]; rfl, hb⟩ | exact ⟨⟨_, by rw [HR.out]; rfl⟩, hb⟩
        · have HR := Lib.hid (HW.out.trans (HC.out.1 ⟨by omega, by omega, by omega⟩))
          clear HC
          go_wp2_with fail
          refine (least_at 3 2048 _ (by omega) (by omega) rfl).mono ?_
          rintro e w' ⟨rfl, hk⟩
          replace hb := bnext hb (Nat.le_refl _) hk
          go_wp2_with fail
          go_ret2
          first | exact ⟨_, by rw [HR.out]; rfl, hb⟩ | exact ⟨⟨_, by rw [HR.out]; rfl⟩, hb⟩
  · have hlo : 240 ≤ b0 ∧ b0 < 248 := by
      have h := HS.out
      unfold szN at h
      repeat' split at h
      all_goals omega
    have e1 := g1 (by omega)
    have l1 : (1 : Int) < s.size := by omega
    have e2 := g2 (by omega)
    have l2 : (2 : Int) < s.size := by omega
    have e3 := g3 (by omega)
    have l3 : (3 : Int) < s.size := by omega
    clear g1 g2 g3
    have hw0 : IntKind.i64.wrap ((b0 : Int) - 240) = (b0 : Int) - 240 := w_i64 _ (by omega) (by omega)
    go_enter Tryz.func152, Tryz.ntmps152
    go_wp2_with fail
    refine (size_any b0 4 _ hb0 HS.out).mono ?_
    rintro e w' ⟨rfl, rfl⟩
    go_wp2_with fail
    go_loopw [5, 6] (fun c i wr => ∃ (k : Nat) (x : Int), c = .int .i64 x ∧ i = .int .i64 k ∧ ((k = 1 ∧ x = ((b0 : Int) - 240)) ∨ (k = 2 ∧ (128 ≤ b1 ∧ b1 ≤ 191) ∧ x = (64 * ((b0 : Int) - 240) + (b1 : Int) - 128)) ∨ (k = 3 ∧ (128 ≤ b1 ∧ b1 ≤ 191) ∧ (128 ≤ b2 ∧ b2 ≤ 191) ∧ x = (64 * (64 * ((b0 : Int) - 240) + (b1 : Int) - 128) + (b2 : Int) - 128)) ∨ (k = 4 ∧ (128 ≤ b1 ∧ b1 ≤ 191) ∧ (128 ≤ b2 ∧ b2 ≤ 191) ∧ (128 ≤ b3 ∧ b3 ≤ 191) ∧ x = (64 * (64 * (64 * ((b0 : Int) - 240) + (b1 : Int) - 128) + (b2 : Int) - 128) + (b3 : Int) - 128))) ∧ Below w.heap.size w wr) (fun _ i _ => (4 - intOf i).toNat)
    case atStart => exact ⟨1, _, rfl, rfl, .inl ⟨rfl, rfl⟩, (Below.refl _ _).alloc (Nat.le_refl _) _⟩
    case round =>
      obtain ⟨k, x, rfl, rfl, hpre, hb⟩ := hrel
      rcases hpre with ⟨rfl, hx⟩ | ⟨rfl, d1, hx⟩ | ⟨rfl, d1, d2, hx⟩ | ⟨rfl, d1, d2, d3, hx⟩
      · by_cases c1 : b1 < 128
        · have c1' : (b1 : Int) < 128 := by omega
          have HR := Lib.hid (HW.out.trans (cw_4_no1 _ _ _ _ _ HS.out (by omega)))
          clear hx
          go_wp2_with fail
          go_ret2
          first | exact ⟨0, by rw [HR.out]; rfl, hb⟩ | exact ⟨⟨0, by rw [HR.out]; rfl⟩, hb⟩
        · have c1' : ¬ (b1 : Int) < 128 := by omega
          by_cases c2 : 191 < b1
          · have c2' : (191 : Int) < b1 := by omega
            have HR := Lib.hid (HW.out.trans (cw_4_no1 _ _ _ _ _ HS.out (by omega)))
            clear hx
            go_wp2_with fail
            go_ret2
            first | exact ⟨0, by rw [HR.out]; rfl, hb⟩ | exact ⟨⟨0, by rw [HR.out]; rfl⟩, hb⟩
          · have c2' : ¬ (191 : Int) < b1 := by omega
            have hw1 : IntKind.i64.wrap (64 * x) = 64 * x := w_i64 _ (by omega) (by omega)
            have hw2 : IntKind.i64.wrap (64 * x + b1) = 64 * x + b1 := w_i64 _ (by omega) (by omega)
            have hw3 : IntKind.i64.wrap (64 * x + b1 - 128) = 64 * x + b1 - 128 := w_i64 _ (by omega) (by omega)
            have hw4 : IntKind.i64.wrap (b1 : Int) = (b1 : Int) := w_i64 _ (by omega) (by omega)
            have HX := Lib.hid hx
            clear hx
            go_wp2_with fail
            go_roundw
            case rel => exact ⟨2, _, rfl, rfl, by have := HX.out; omega, hb⟩
            case measure => simp [intOf]
      · by_cases c1 : b2 < 128
        · have c1' : (b2 : Int) < 128 := by omega
          have HR := Lib.hid (HW.out.trans (cw_4_no2 _ _ _ _ _ HS.out (by omega)))
          clear hx
          go_wp2_with fail
          go_ret2
          first | exact ⟨0, by rw [HR.out]; rfl, hb⟩ | exact ⟨⟨0, by rw [HR.out]; rfl⟩, hb⟩
        · have c1' : ¬ (b2 : Int) < 128 := by omega
          by_cases c2 : 191 < b2
          · have c2' : (191 : Int) < b2 := by omega
            have HR := Lib.hid (HW.out.trans (cw_4_no2 _ _ _ _ _ HS.out (by omega)))
            clear hx
            go_wp2_with fail
            go_ret2
            first | exact ⟨0, by rw [HR.out]; rfl, hb⟩ | exact ⟨⟨0, by rw [HR.out]; rfl⟩, hb⟩
          · have c2' : ¬ (191 : Int) < b2 := by omega
            have hw1 : IntKind.i64.wrap (64 * x) = 64 * x := w_i64 _ (by omega) (by omega)
            have hw2 : IntKind.i64.wrap (64 * x + b2) = 64 * x + b2 := w_i64 _ (by omega) (by omega)
            have hw3 : IntKind.i64.wrap (64 * x + b2 - 128) = 64 * x + b2 - 128 := w_i64 _ (by omega) (by omega)
            have hw4 : IntKind.i64.wrap (b2 : Int) = (b2 : Int) := w_i64 _ (by omega) (by omega)
            have HX := Lib.hid hx
            clear hx
            go_wp2_with fail
            go_roundw
            case rel => exact ⟨3, _, rfl, rfl, by have := HX.out; omega, hb⟩
            case measure => simp [intOf]
      · by_cases c1 : b3 < 128
        · have c1' : (b3 : Int) < 128 := by omega
          have HR := Lib.hid (HW.out.trans (cw_4_no3 _ _ _ _ _ HS.out (by omega)))
          clear hx
          go_wp2_with fail
          go_ret2
          first | exact ⟨0, by rw [HR.out]; rfl, hb⟩ | exact ⟨⟨0, by rw [HR.out]; rfl⟩, hb⟩
        · have c1' : ¬ (b3 : Int) < 128 := by omega
          by_cases c2 : 191 < b3
          · have c2' : (191 : Int) < b3 := by omega
            have HR := Lib.hid (HW.out.trans (cw_4_no3 _ _ _ _ _ HS.out (by omega)))
            clear hx
            go_wp2_with fail
            go_ret2
            first | exact ⟨0, by rw [HR.out]; rfl, hb⟩ | exact ⟨⟨0, by rw [HR.out]; rfl⟩, hb⟩
          · have c2' : ¬ (191 : Int) < b3 := by omega
            have hw1 : IntKind.i64.wrap (64 * x) = 64 * x := w_i64 _ (by omega) (by omega)
            have hw2 : IntKind.i64.wrap (64 * x + b3) = 64 * x + b3 := w_i64 _ (by omega) (by omega)
            have hw3 : IntKind.i64.wrap (64 * x + b3 - 128) = 64 * x + b3 - 128 := w_i64 _ (by omega) (by omega)
            have hw4 : IntKind.i64.wrap (b3 : Int) = (b3 : Int) := w_i64 _ (by omega) (by omega)
            have HX := Lib.hid hx
            clear hx
            go_wp2_with fail
            go_roundw
            case rel => exact ⟨4, _, rfl, rfl, by have := HX.out; omega, hb⟩
            case measure => simp [intOf]
      · have HC := Lib.hid (cw_4 s.size b0 b1 b2 b3 HS.out (by omega) d1 d2 d3)
        rw [← hx] at HC
        have hxr : -1000000 ≤ x ∧ x ≤ 100000000 := by omega
        clear hx
        have hq : x < 65536 ∨ (¬ x < 65536 ∧ 1114111 < x) ∨ (¬ x < 65536 ∧ ¬ 1114111 < x ∧ 55296 ≤ x ∧ x ≤ 57343) ∨ (¬ x < 65536 ∧ ¬ 1114111 < x ∧ 55296 ≤ x ∧ ¬ x ≤ 57343) ∨ (¬ x < 65536 ∧ ¬ 1114111 < x ∧ ¬ 55296 ≤ x) := by omega
        rcases hq with p1 | ⟨p1, p2⟩ | ⟨p1, p2, p3, p4⟩ | ⟨p1, p2, p3, p4⟩ | ⟨p1, p2, p3⟩
        · have HR := Lib.hid (HW.out.trans (HC.out.2 (fun h => by have := h.1; omega)))
          clear HC
          go_wp2_with fail
          refine (least_at 4 65536 _ (by omega) (by omega) rfl).mono ?_
          rintro e w' ⟨rfl, hk⟩
          replace hb := bnext hb (Nat.le_refl _) hk
          go_wp2_with fail
          go_ret2
          first | exact ⟨_, by rw [HR.out]; rfl, hb⟩ | exact ⟨⟨_, by rw [HR.out]; rfl⟩, hb⟩
        · have HR := Lib.hid (HW.out.trans (HC.out.2 (fun h => by have := h.2.1; omega)))
          clear HC
          go_wp2_with fail
          refine (least_at 4 65536 _ (by omega) (by omega) rfl).mono ?_
          rintro e w' ⟨rfl, hk⟩
          replace hb := bnext hb (Nat.le_refl _) hk
          go_wp2_with fail
          go_ret2
          first | exact ⟨_, by rw [HR.out]; rfl, hb⟩ | exact ⟨⟨_, by rw [HR.out]; rfl⟩, hb⟩
        · exfalso; omega
        · have HR := Lib.hid (HW.out.trans (HC.out.1 ⟨by omega, by omega, by omega⟩))
          clear HC
          go_wp2_with fail
          refine (least_at 4 65536 _ (by omega) (by omega) rfl).mono ?_
          rintro e w' ⟨rfl, hk⟩
          replace hb := bnext hb (Nat.le_refl _) hk
          go_wp2_with fail
          go_ret2
          first | exact ⟨_, by rw [HR.out]; rfl, hb⟩ | exact ⟨⟨_, by rw [HR.out]; rfl⟩, hb⟩
        · exfalso; omega
end
section
open Go Go.RowKit

set_option maxRecDepth 100000 in
set_option maxHeartbeats 4000000 in
theorem rcount_any (s : ByteArray) (w : World) (hbig : s.size ≤ 9223372036854775807) :
    Calls Tryz.prog 121 #[.string s] w fun e w' => e = .returned (.int .i64 (cntI s.data.toList)) ∧ Below w.heap.size w w' := by
  have hlen : s.data.toList.length = s.size := rfl
  by_cases hlong : 65535 < s.size
  · have HL := Lib.hid (cntI_long (l := s.data.toList) (by omega))
    have hl' : (65535 : Int) < s.size := by omega
    go_enter Tryz.func121, Tryz.ntmps121
    go_wp2_with fail
    go_ret
    exact ⟨by rw [HL.out]; rfl, Below.refl _ _⟩
  have hl' : ¬ (65535 : Int) < s.size := by omega
  have hl'' : decide ((65535 : Int) < s.size) = false := decide_eq_false hl'
  go_enter Tryz.func121, Tryz.ntmps121
  go_wp2_with fail
  go_loopw [3, 4] (fun n at_ wr => ∃ k p : Nat, n = .int .i64 k ∧ at_ = .int .i64 p ∧ k ≤ p ∧ p ≤ s.size ∧ Below w.heap.size w wr ∧ Hid (cnt s.data.toList = (cnt (s.data.toList.drop p)).map (· + k))) (fun _ at_ _ => (s.size - intOf at_).toNat)
  case atStart => exact ⟨0, 0, rfl, rfl, Nat.le_refl _, Nat.zero_le _, Below.refl _ _, by unfold Hid; rw [List.drop_zero]; cases cnt s.data.toList <;> rfl⟩
  case round =>
    obtain ⟨k, p, rfl, rfl, hkp, hp, hb, HN⟩ := hrel
    by_cases hlt : p < s.size
    · have hat := cnt_at HN.out (by omega)
      have hcl := cw_le (s.data.toList.drop p)
      rw [List.length_drop, hlen] at hcl
      have hp0 : (0 : Int) ≤ p := by omega
      have hps : (p : Int) ≤ s.size := by omega
      have hpl : (p : Int) < s.size := by omega
      have hext : (s.extract p s.size).data.toList = s.data.toList.drop p := by
        rw [Lib.extract_data, List.take_of_length_le (by rw [List.length_drop]; exact Nat.le_refl _)]
      have hch := character_any (s.extract p s.size)
      rw [hext] at hch
      have hch2 := fun w => hch w (by rw [Lib.tail_size]; omega) (by rw [Lib.tail_size]; omega)
      have HC := Lib.hid hch2
      clear hch hch2
      generalize cw (s.data.toList.drop p) = m at *
      by_cases hc : m = 0
      · have HF := Lib.hid (cntI_none (hat.1 hc))
        clear hat
        subst hc
        go_wp2_with fail
        refine (HC.out _).mono ?_
        rintro e w6 ⟨c, rfl, hk⟩
        have hb3 := bnext hb (Nat.le_refl _) hk
        go_wp2_with fail
        go_ret
        exact ⟨by rw [HF.out]; rfl, hb3⟩
      · have HF := Lib.hid (hat.2 hc)
        clear hat
        have hmb : ((m : Int) == 0) = false := by simp [hc]
        have hw1 : IntKind.i64.wrap ((p : Int) + m) = ((p + m : Nat) : Int) := by rw [w_i64] <;> omega
        generalize hpm : p + m = q at *
        go_wp2_with fail
        refine (HC.out _).mono ?_
        rintro e w6 ⟨c, rfl, hk⟩
        have hb3 := bnext hb (Nat.le_refl _) hk
        go_wp2_with fail
        go_roundw
        case rel => exact ⟨k + 1, q, by go_num, rfl, by omega, by omega, hb3, HF⟩
        case measure => simp [intOf]; omega
    · have HF := Lib.hid (cntI_some (l := s.data.toList) (n := k) (by omega) (by rw [HN.out, List.drop_eq_nil_of_le (by omega), cnt_nil]; simp))
      have hpl : ¬ (p : Int) < s.size := by omega
      go_wp2_with fail
      go_ret
      exact ⟨by rw [HF.out]; rfl, hb⟩
theorem rvalid_any (s : ByteArray) (w : World) (hbig : s.size ≤ 9223372036854775807) :
    Calls Tryz.prog 100 #[.string s] w fun e w' => e = .returned (.bool (validI s.data.toList)) ∧ Below w.heap.size w w' := by
  have HC := Lib.hid (rcount_any s w hbig)
  obtain ⟨n, hn⟩ : ∃ n, cntI s.data.toList = n := ⟨_, rfl⟩
  rw [validI]
  rw [hn] at HC ⊢
  go_enter Tryz.func100, Tryz.ntmps100
  go_wp2_with fail
  refine HC.out.mono ?_
  rintro e w' ⟨rfl, hb⟩
  go_wp2_with fail
  go_ret
  exact ⟨rfl, hb⟩
end
end Go.Proofs.YthfdcphecggjeaaGreatDoor
