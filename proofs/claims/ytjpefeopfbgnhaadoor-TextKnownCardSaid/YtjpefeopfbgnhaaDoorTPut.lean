/- Get and Put of texts: the program's calls and the reference's, by plain functions. -/
import Derived.Test.YtjpefeopfbgnhaaDoorTFields
import Derived.Lib.AppendStr
namespace Go.Proofs.YtjpefeopfbgnhaaDoor
open Go Go.RowKit

theorem rgetData_any (s : ByteArray) (w : World) (hbig : s.size ≤ 9223372036854775807) :
    Calls Tryd.prog 23 #[.string s] w fun e w' => e = .returned (got (getM s.data.toList) (getU s.data.toList) (getE s.data.toList)) ∧ Below w.heap.size w w' := by
  have hf : fieldN s.data.toList < 65536 := by unfold fieldN; have := at0_lt s.data.toList 0; have := at0_lt s.data.toList 1; omega
  have HC := Lib.hid (rreadWord_any s w hbig)
  by_cases h2 : s.size < 2
  · have hok : getOk s.data.toList = false := decide_eq_false (by rw [size_len]; omega)
    have HG := Lib.hid (show getM s.data.toList = [] ∧ getU s.data.toList = 0 ∧ getE s.data.toList = 2 from ⟨by rw [getM, hok]; rfl, by rw [getU, hok]; rfl, by rw [getE, hok]; rfl⟩)
    rw [read_short s h2] at HC
    clear hok hf
    go_enter Tryd.func23, Tryd.ntmps23
    go_wp2_with fail
    refine HC.out.mono ?_
    rintro e w' ⟨rfl, hb⟩
    go_wp2_with fail
    go_ret3
    exact ⟨by rw [HG.out.1, HG.out.2.1, HG.out.2.2]; rfl, hb⟩
  · rw [read_long s h2] at HC
    by_cases hl : s.size < 2 + fieldN s.data.toList
    · have hok : getOk s.data.toList = false := decide_eq_false (by rw [size_len]; omega)
      have HG := Lib.hid (show getM s.data.toList = [] ∧ getU s.data.toList = 0 ∧ getE s.data.toList = 2 from ⟨by rw [getM, hok]; rfl, by rw [getU, hok]; rfl, by rw [getE, hok]; rfl⟩)
      clear hok
      generalize fieldN s.data.toList = n at *
      have hw1 : IntKind.i64.wrap (2 + (n : Int)) = 2 + (n : Int) := w_i64 _ (by omega) (by omega)
      have hlt : (s.size : Int) < 2 + (n : Int) := by omega
      go_enter Tryd.func23, Tryd.ntmps23
      go_wp2_with fail
      refine HC.out.mono ?_
      rintro e w' ⟨rfl, hb⟩
      go_wp2_with fail
      go_ret3
      exact ⟨by rw [HG.out.1, HG.out.2.1, HG.out.2.2]; rfl, hb⟩
    · have hok : getOk s.data.toList = true := decide_eq_true (by rw [size_len]; omega)
      have HG := Lib.hid (show getM s.data.toList = (s.data.toList.drop 2).take (fieldN s.data.toList) ∧ getU s.data.toList = 2 + fieldN s.data.toList ∧ getE s.data.toList = 0 from ⟨by rw [getM, hok]; rfl, by rw [getU, hok]; rfl, by rw [getE, hok]; rfl⟩)
      clear hok
      generalize fieldN s.data.toList = n at *
      have HX := Lib.hid (show s.extract 2 (2 + n) = ⟨((s.data.toList.drop 2).take n).toArray⟩ by rw [extract_mid, Nat.add_sub_cancel_left])
      obtain ⟨m, hm⟩ : ∃ m, 2 + n = m := ⟨_, rfl⟩
      have hw2 : IntKind.i64.wrap (2 + (n : Int)) = (m : Int) := by rw [w_i64] <;> omega
      have hlt : ¬ (s.size : Int) < m := by omega
      have hm0 : (2 : Int) ≤ m := by omega
      have hml : (m : Int) ≤ s.size := by omega
      rw [hm] at HX
      go_enter Tryd.func23, Tryd.ntmps23
      go_wp2_with fail
      refine HC.out.mono ?_
      rintro e w' ⟨rfl, hb⟩
      go_wp2_with fail
      go_ret3
      exact ⟨by rw [HG.out.1, HG.out.2.1, HG.out.2.2, got, ← HX.out, show (2 : Int) + n = m by omega]; rfl, hb⟩

/-- the text in the field with which bytes begin -/
def txM (l : List UInt8) : List UInt8 := if getOk l = true ∧ validI (getM l) = true then getM l else []
def txU (l : List UInt8) : Int := if getOk l = true ∧ validI (getM l) = true then getU l else 0
def txE (l : List UInt8) : Int := if getOk l = true then (if validI (getM l) = true then 0 else 5) else 2
theorem getM_len (l : List UInt8) : (getM l).length ≤ l.length := by
  unfold getM; split
  · rw [List.length_take, List.length_drop]; omega
  · simp
theorem valid_l (l : List UInt8) (w : World) (hT : Tabs w) (h : l.length ≤ 9223372036854775807) :
    Calls Tryd.prog 9 #[.string ⟨l.toArray⟩] w fun e w' => e = .returned (.bool (validI l)) ∧ Below w.heap.size w w' := valid_any ⟨l.toArray⟩ w hT h
theorem rvalid_l (l : List UInt8) (w : World) (h : l.length ≤ 9223372036854775807) :
    Calls Tryd.prog 16 #[.string ⟨l.toArray⟩] w fun e w' => e = .returned (.bool (validI l)) ∧ Below w.heap.size w w' := rvalid_any ⟨l.toArray⟩ w h
theorem get_any (s : ByteArray) (w : World) (hT : Tabs w) (hbig : s.size ≤ 9223372036854775807) :
    Calls Tryd.prog 20 #[.string s] w fun e w' => e = .returned (got (txM s.data.toList) (txU s.data.toList) (txE s.data.toList)) ∧ Below w.heap.size w w' := by
  have HC := Lib.hid (getData_any s w hbig)
  have HG := Lib.hid (show (txM s.data.toList = if getOk s.data.toList = true ∧ validI (getM s.data.toList) = true then getM s.data.toList else []) ∧ (txU s.data.toList = if getOk s.data.toList = true ∧ validI (getM s.data.toList) = true then getU s.data.toList else 0) ∧ (txE s.data.toList = if getOk s.data.toList = true then (if validI (getM s.data.toList) = true then 0 else 5) else 2) from ⟨rfl, rfl, rfl⟩)
  have HE := Lib.hid (show getE s.data.toList = if getOk s.data.toList = true then 0 else 2 from rfl)
  have hml := getM_len s.data.toList
  rw [size_len] at hml
  have HU := Lib.hid (show getOk s.data.toList = false → getM s.data.toList = [] ∧ getU s.data.toList = 0 from fun h => ⟨by rw [getM, h]; rfl, by rw [getU, h]; rfl⟩)
  have HV := Lib.hid (valid_l (getM s.data.toList))
  generalize getM s.data.toList = f at *
  generalize getU s.data.toList = u at *
  generalize getE s.data.toList = er at *
  unfold got at HC ⊢
  cases hok : getOk s.data.toList with
  | false =>
    rw [hok] at HG HE HU
    obtain ⟨hf0, hu0⟩ := HU.out rfl
    subst hf0 hu0
    obtain rfl : er = 2 := HE.out.trans (by simp)
    have HG2 := Lib.hid (show txM s.data.toList = [] ∧ txU s.data.toList = 0 ∧ txE s.data.toList = 2 from ⟨HG.out.1.trans (by simp), HG.out.2.1.trans (by simp), HG.out.2.2.trans (by simp)⟩)
    clear HG HE HU HV hok
    go_enter Tryd.func20, Tryd.ntmps20
    go_wp2_with fail
    refine HC.out.mono ?_
    rintro e w' ⟨rfl, hb⟩
    go_wp2_with fail
    go_ret3
    exact ⟨by rw [HG2.out.1, HG2.out.2.1, HG2.out.2.2]; rfl, hb⟩
  | true =>
    rw [hok] at HG HE
    obtain rfl : er = 0 := HE.out.trans (by simp)
    cases hv : validI f with
    | true =>
      rw [hv] at HG HV
      have HG2 := Lib.hid (show txM s.data.toList = f ∧ txU s.data.toList = u ∧ txE s.data.toList = 0 from ⟨HG.out.1.trans (by simp), HG.out.2.1.trans (by simp), HG.out.2.2.trans (by simp)⟩)
      clear HG HE HU hok hv
      go_enter Tryd.func20, Tryd.ntmps20
      go_wp2_with fail
      refine HC.out.mono ?_
      rintro e w' ⟨rfl, hb⟩
      go_wp2_with fail
      refine (HV.out _ (hT.below hb) (by omega)).mono ?_
      rintro e w2 ⟨rfl, hk⟩
      replace hb := bnext hb (Nat.le_refl _) hk
      go_wp2_with fail
      go_ret3
      exact ⟨by rw [HG2.out.1, HG2.out.2.1, HG2.out.2.2]; rfl, hb⟩
    | false =>
      rw [hv] at HG HV
      have HG2 := Lib.hid (show txM s.data.toList = [] ∧ txU s.data.toList = 0 ∧ txE s.data.toList = 5 from ⟨HG.out.1.trans (by simp), HG.out.2.1.trans (by simp), HG.out.2.2.trans (by simp)⟩)
      clear HG HE HU hok hv
      go_enter Tryd.func20, Tryd.ntmps20
      go_wp2_with fail
      refine HC.out.mono ?_
      rintro e w' ⟨rfl, hb⟩
      go_wp2_with fail
      refine (HV.out _ (hT.below hb) (by omega)).mono ?_
      rintro e w2 ⟨rfl, hk⟩
      replace hb := bnext hb (Nat.le_refl _) hk
      go_wp2_with fail
      go_ret3
      exact ⟨by rw [HG2.out.1, HG2.out.2.1, HG2.out.2.2]; rfl, hb⟩
theorem rget_any (s : ByteArray) (w : World) (hbig : s.size ≤ 9223372036854775807) :
    Calls Tryd.prog 21 #[.string s] w fun e w' => e = .returned (got (txM s.data.toList) (txU s.data.toList) (txE s.data.toList)) ∧ Below w.heap.size w w' := by
  have HC := Lib.hid (rgetData_any s w hbig)
  have HG := Lib.hid (show (txM s.data.toList = if getOk s.data.toList = true ∧ validI (getM s.data.toList) = true then getM s.data.toList else []) ∧ (txU s.data.toList = if getOk s.data.toList = true ∧ validI (getM s.data.toList) = true then getU s.data.toList else 0) ∧ (txE s.data.toList = if getOk s.data.toList = true then (if validI (getM s.data.toList) = true then 0 else 5) else 2) from ⟨rfl, rfl, rfl⟩)
  have HE := Lib.hid (show getE s.data.toList = if getOk s.data.toList = true then 0 else 2 from rfl)
  have hml := getM_len s.data.toList
  rw [size_len] at hml
  have HU := Lib.hid (show getOk s.data.toList = false → getM s.data.toList = [] ∧ getU s.data.toList = 0 from fun h => ⟨by rw [getM, h]; rfl, by rw [getU, h]; rfl⟩)
  have HV := Lib.hid (rvalid_l (getM s.data.toList))
  generalize getM s.data.toList = f at *
  generalize getU s.data.toList = u at *
  generalize getE s.data.toList = er at *
  unfold got at HC ⊢
  cases hok : getOk s.data.toList with
  | false =>
    rw [hok] at HG HE HU
    obtain ⟨hf0, hu0⟩ := HU.out rfl
    subst hf0 hu0
    obtain rfl : er = 2 := HE.out.trans (by simp)
    have HG2 := Lib.hid (show txM s.data.toList = [] ∧ txU s.data.toList = 0 ∧ txE s.data.toList = 2 from ⟨HG.out.1.trans (by simp), HG.out.2.1.trans (by simp), HG.out.2.2.trans (by simp)⟩)
    clear HG HE HU HV hok
    go_enter Tryd.func21, Tryd.ntmps21
    go_wp2_with fail
    refine HC.out.mono ?_
    rintro e w' ⟨rfl, hb⟩
    go_wp2_with fail
    go_ret3
    exact ⟨by rw [HG2.out.1, HG2.out.2.1, HG2.out.2.2]; rfl, hb⟩
  | true =>
    rw [hok] at HG HE
    obtain rfl : er = 0 := HE.out.trans (by simp)
    cases hv : validI f with
    | true =>
      rw [hv] at HG HV
      have HG2 := Lib.hid (show txM s.data.toList = f ∧ txU s.data.toList = u ∧ txE s.data.toList = 0 from ⟨HG.out.1.trans (by simp), HG.out.2.1.trans (by simp), HG.out.2.2.trans (by simp)⟩)
      clear HG HE HU hok hv
      go_enter Tryd.func21, Tryd.ntmps21
      go_wp2_with fail
      refine HC.out.mono ?_
      rintro e w' ⟨rfl, hb⟩
      go_wp2_with fail
      refine (HV.out _ (by omega)).mono ?_
      rintro e w2 ⟨rfl, hk⟩
      replace hb := bnext hb (Nat.le_refl _) hk
      go_wp2_with fail
      go_ret3
      exact ⟨by rw [HG2.out.1, HG2.out.2.1, HG2.out.2.2]; rfl, hb⟩
    | false =>
      rw [hv] at HG HV
      have HG2 := Lib.hid (show txM s.data.toList = [] ∧ txU s.data.toList = 0 ∧ txE s.data.toList = 5 from ⟨HG.out.1.trans (by simp), HG.out.2.1.trans (by simp), HG.out.2.2.trans (by simp)⟩)
      clear HG HE HU hok hv
      go_enter Tryd.func21, Tryd.ntmps21
      go_wp2_with fail
      refine HC.out.mono ?_
      rintro e w' ⟨rfl, hb⟩
      go_wp2_with fail
      refine (HV.out _ (by omega)).mono ?_
      rintro e w2 ⟨rfl, hk⟩
      replace hb := bnext hb (Nat.le_refl _) hk
      go_wp2_with fail
      go_ret3
      exact ⟨by rw [HG2.out.1, HG2.out.2.1, HG2.out.2.2]; rfl, hb⟩
end Go.Proofs.YtjpefeopfbgnhaaDoor
