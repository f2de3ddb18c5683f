/- The chapter's examples, and what is too great. -/
import Derived.Test.YtjpefeopfbgnhaaDoorTPut2
namespace Go.Proofs.YtjpefeopfbgnhaaDoor
open Go Go.RowKit

theorem great_s (s : ByteArray) (w : World) : Calls Tryd.prog 15 #[.string s] w fun e w' => e = .returned (.bool (decide (3000 < s.size))) ∧ w = w' := by
  by_cases h : 3000 < s.size
  · have h' : (3000 : Int) < s.size := by omega
    go_enter Tryd.func15, Tryd.ntmps15
    go_wp2_with fail
    go_ret
    exact ⟨ret_bool (by simp [h]), rfl⟩
  · have h' : ¬ (3000 : Int) < s.size := by omega
    go_enter Tryd.func15, Tryd.ntmps15
    go_wp2_with fail
    go_ret
    exact ⟨ret_bool (by simp), rfl⟩
theorem great_of (b : Bool) (s : ByteArray) (w : World) (h : decide (3000 < s.size) = b) : Calls Tryd.prog 15 #[.string s] w fun e w' => e = .returned (.bool b) ∧ w = w' := by
  subst h; exact great_s s w
theorem count_s (n : Int) (s : ByteArray) (w : World) (hT : Tabs w) (hbig : s.size ≤ 9223372036854775807) (h : cntI s.data.toList = n) :
    Calls Tryd.prog 10 #[.string s] w fun e w' => e = .returned (.int .i64 n) ∧ Below w.heap.size w w' := by
  subst h; exact count_any s w hT hbig
theorem rcount_s (n : Int) (s : ByteArray) (w : World) (hbig : s.size ≤ 9223372036854775807) (h : cntI s.data.toList = n) :
    Calls Tryd.prog 17 #[.string s] w fun e w' => e = .returned (.int .i64 n) ∧ Below w.heap.size w w' := by
  subst h; exact rcount_any s w hbig
theorem put1 (x : ByteArray) (r : ByteArray) (er : Int) (a : Option Addr) (cap : Nat) (w : World) (hT : Tabs w) (hr : Row w a [.string x]) (hbig : x.size ≤ 9223372036854775807) (h : (⟨(putsM [x]).toArray⟩ : ByteArray) = r ∧ putsE [x] = er) :
    Calls Tryd.prog 12 #[.slice a 1 cap] w fun e w' => e = .returned (.tuple #[.string r, .int .i64 er]) ∧ Below w.heap.size w w' := by
  rw [← h.1, ← h.2]
  exact put_any a cap [x] w hT hr (by simp) (by intro s hs; obtain rfl := List.mem_singleton.1 hs; exact hbig)
theorem put2 (x y : ByteArray) (r : ByteArray) (er : Int) (a : Option Addr) (cap : Nat) (w : World) (hT : Tabs w) (hr : Row w a [.string x, .string y]) (hx : x.size ≤ 9223372036854775807) (hy : y.size ≤ 9223372036854775807) (h : (⟨(putsM [x, y]).toArray⟩ : ByteArray) = r ∧ putsE [x, y] = er) :
    Calls Tryd.prog 12 #[.slice a 2 cap] w fun e w' => e = .returned (.tuple #[.string r, .int .i64 er]) ∧ Below w.heap.size w w' := by
  rw [← h.1, ← h.2]
  exact put_any a cap [x, y] w hT hr (by simp) (by intro s hs; rcases List.mem_cons.1 hs with rfl | hs; exact hx; (obtain rfl := List.mem_singleton.1 hs; exact hy))
theorem getData_s (r : ByteArray) (u er : Int) (s : ByteArray) (w : World) (hbig : s.size ≤ 9223372036854775807) (h : (⟨(getM s.data.toList).toArray⟩ : ByteArray) = r ∧ getU s.data.toList = u ∧ getE s.data.toList = er) :
    Calls Tryd.prog 22 #[.string s] w fun e w' => e = .returned (.tuple #[.string r, .int .i64 u, .int .i64 er]) ∧ Below w.heap.size w w' := by
  rw [← h.1, ← h.2.1, ← h.2.2]; exact getData_any s w hbig
theorem get_s (r : ByteArray) (u er : Int) (s : ByteArray) (w : World) (hT : Tabs w) (hbig : s.size ≤ 9223372036854775807) (h : (⟨(txM s.data.toList).toArray⟩ : ByteArray) = r ∧ txU s.data.toList = u ∧ txE s.data.toList = er) :
    Calls Tryd.prog 20 #[.string s] w fun e w' => e = .returned (.tuple #[.string r, .int .i64 u, .int .i64 er]) ∧ Below w.heap.size w w' := by
  rw [← h.1, ← h.2.1, ← h.2.2]; exact get_any s w hT hbig
theorem gets_true (s t : ByteArray) (u er : Int) (w : World) (hT : Tabs w) (hbig : s.size ≤ 9223372036854775807) (h : (⟨(txM s.data.toList).toArray⟩ : ByteArray) = t ∧ txU s.data.toList = u ∧ txE s.data.toList = er) :
    Calls Tryd.prog 11 #[.string s, .string t, .int .i64 u, .int .i64 er] w fun e w' => e = .returned (.bool true) ∧ Below w.heap.size w w' := by
  have HC := Lib.hid (get_s t u er s w hT hbig h)
  clear h
  go_enter Tryd.func11, Tryd.ntmps11
  go_wp2_with fail
  refine HC.out.mono ?_
  rintro e w' ⟨rfl, hb⟩
  go_wp2_with fail
  go_ret
  exact ⟨rfl, hb⟩
theorem v1 : okT ⟨#[195, 169]⟩ = true := by decide +kernel
theorem v2 : okT ⟨#[195]⟩ = false := by decide +kernel
theorem c1 : cntI (⟨#[97, 195, 169, 226, 130, 172]⟩ : ByteArray).data.toList = 3 := by decide +kernel
theorem c2 : cntI (⟨#[128]⟩ : ByteArray).data.toList = -1 := by decide +kernel
theorem p1 : putsM [⟨#[77, 81, 84, 84]⟩] = [0, 4, 77, 81, 84, 84] ∧ putsE [⟨#[77, 81, 84, 84]⟩] = 0 := by decide +kernel
theorem p2 : putsM [⟨#[0]⟩] = [] ∧ putsE [⟨#[0]⟩] = 5 := by decide +kernel
theorem g0 : getM [0, 1, 255, 7] = [255] ∧ getU [0, 1, 255, 7] = 3 ∧ getE [0, 1, 255, 7] = 0 := by decide +kernel
theorem g1 : txM [0, 1, 97, 98] = [97] ∧ txU [0, 1, 97, 98] = 3 ∧ txE [0, 1, 97, 98] = 0 := by decide +kernel
theorem g2 : txM [0, 2, 97] = [] ∧ txU [0, 2, 97] = 0 ∧ txE [0, 2, 97] = 2 := by decide +kernel
theorem bytes_of {l m : List UInt8} (h : l = m) : (⟨l.toArray⟩ : ByteArray) = ⟨m.toArray⟩ := by rw [h]

set_option maxRecDepth 100000 in
set_option maxHeartbeats 4000000 in
theorem awake_true (w : World) (hT : Tabs w) : Calls Tryd.prog 14 #[] w fun e w' => e = .returned (.bool true) ∧ Below w.heap.size w w' := by
  have HT := Lib.hid hT
  clear hT
  go_enter Tryd.func14, Tryd.ntmps14
  go_wp2_with fail
  have hb0 : Below w.heap.size w (w.alloc (.cells #[.string ⟨#[77, 81, 84, 84]⟩] 9)) := (Below.refl _ _).alloc (Nat.le_refl _) _
  refine (put1 ⟨#[77, 81, 84, 84]⟩ ⟨#[0, 4, 77, 81, 84, 84]⟩ 0 _ _ _ (HT.out.below hb0) (row_new w [.string ⟨#[77, 81, 84, 84]⟩] 9) (by decide) ⟨bytes_of p1.1, p1.2⟩).mono ?_
  rintro e w1 ⟨rfl, hk⟩
  have hb := bnext hb0 (Nat.le_refl _) hk
  clear hk hb0
  go_wp2_with fail
  replace hb := hb.alloc hb.size (.cells #[.string ⟨#[0]⟩] 9)
  refine (put1 ⟨#[0]⟩ ⟨#[]⟩ 5 _ _ _ (HT.out.below hb) (row_new w1 [.string ⟨#[0]⟩] 9) (by decide) ⟨bytes_of p2.1, p2.2⟩).mono ?_
  rintro e w2 ⟨rfl, hk⟩
  replace hb := bnext hb (Nat.le_refl _) hk
  clear hk
  go_wp2_with fail
  refine (getData_s ⟨#[255]⟩ 3 0 _ _ (by decide) ⟨bytes_of g0.1, g0.2.1, g0.2.2⟩).mono ?_
  rintro e w3 ⟨rfl, hk⟩
  replace hb := bnext hb (Nat.le_refl _) hk
  clear hk
  go_wp2_with fail
  refine (valid_s true _ _ (HT.out.below hb) (by decide) v1).mono ?_
  rintro e w4 ⟨rfl, hk⟩
  replace hb := bnext hb (Nat.le_refl _) hk
  clear hk
  go_wp2_with fail
  refine (valid_s false _ _ (HT.out.below hb) (by decide) v2).mono ?_
  rintro e w5 ⟨rfl, hk⟩
  replace hb := bnext hb (Nat.le_refl _) hk
  clear hk
  go_wp2_with fail
  refine (count_s 3 _ _ (HT.out.below hb) (by decide) c1).mono ?_
  rintro e w6 ⟨rfl, hk⟩
  replace hb := bnext hb (Nat.le_refl _) hk
  clear hk
  go_wp2_with fail
  refine (count_s (-1) _ _ (HT.out.below hb) (by decide) c2).mono ?_
  rintro e w7 ⟨rfl, hk⟩
  replace hb := bnext hb (Nat.le_refl _) hk
  clear hk
  go_wp2_with fail
  refine (gets_true _ _ _ _ _ (HT.out.below hb) (by decide) ⟨bytes_of g1.1, g1.2.1, g1.2.2⟩).mono ?_
  rintro e w8 ⟨rfl, hk⟩
  replace hb := bnext hb (Nat.le_refl _) hk
  clear hk
  go_wp2_with fail
  refine (gets_true _ _ _ _ _ (HT.out.below hb) (by decide) ⟨bytes_of g2.1, g2.2.1, g2.2.2⟩).mono ?_
  rintro e w9 ⟨rfl, hk⟩
  replace hb := bnext hb (Nat.le_refl _) hk
  clear hk
  go_wp2_with fail
  go_ret
  exact ⟨rfl, hb⟩
end Go.Proofs.YtjpefeopfbgnhaaDoor
