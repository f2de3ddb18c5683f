/- Put of many texts: the program's call and the reference's. -/
import Derived.Test.YtjpefeopfbgnhaaDoorTPut
namespace Go.Proofs.YtjpefeopfbgnhaaDoor
open Go Go.RowKit

theorem ownsRow_local' {w w' : World} {B : Nat} {e : TypeId} {size n : Nat} {v : Value} {xs : List Value} (h : w.ownsRow B e size v n xs) (hb : Below w.heap.size w w') : w'.ownsRow B e size v n xs := by
  have hl := h.lt
  refine ⟨h.1, ?_⟩
  rcases h.2 with hn | ⟨b, cap, cur, rfl, hB, hgg, rest⟩
  · exact .inl hn
  · exact .inr ⟨b, cap, cur, rfl, hB, by rw [hb.block b (hl b rfl).2]; exact hgg, rest⟩
theorem v_str' {a b : ByteArray} (h : a = b) : Value.string a = .string b := by rw [h]
def strs (ls : List ByteArray) : List Value := ls.map Value.string
def okT (s : ByteArray) : Bool := validI s.data.toList
def fieldOf (s : ByteArray) : List UInt8 := putM s.data.toList
/-- the fields of texts, and the error -/
def putsM (ls : List ByteArray) : List UInt8 := if ls.all okT = true then ls.flatMap fieldOf else []
def putsE (ls : List ByteArray) : Int := if ls.all okT = true then 0 else 5
theorem okT_len {s : ByteArray} (h : okT s = true) : s.size ≤ 65535 := by
  rcases Nat.lt_or_ge 65535 s.size with h1 | h1
  · unfold okT validI at h
    rw [cntI_long (by rw [size_len]; exact h1)] at h
    simp at h
  · exact h1
theorem fieldOf_len (s : ByteArray) : (fieldOf s).length ≤ 65537 := by
  unfold fieldOf putM
  split
  · rw [List.length_append]; simp only [wordBytes, List.length_cons, List.length_nil]; omega
  · simp
theorem fields_len (ls : List ByteArray) : (ls.flatMap fieldOf).length ≤ ls.length * 65537 := by
  induction ls with
  | nil => simp
  | cons s r ih => rw [List.flatMap_cons, List.length_append, List.length_cons, Nat.succ_mul]; have := fieldOf_len s; omega
theorem putE_ok {s : ByteArray} (h : okT s = true) : putE s.data.toList = 0 := if_pos (okT_len h)
theorem putData_s (s : ByteArray) (w : World) (hbig : s.size ≤ 9223372036854775807) (h : okT s = true) :
    Calls Tryd.prog 13 #[.string s] w fun e w' => e = .returned (.tuple #[.string ⟨(fieldOf s).toArray⟩, .int .i64 0]) ∧ Below w.heap.size w w' := by
  have := putData_any s w hbig
  rw [putE_ok h] at this
  exact this
theorem rputData_s (s : ByteArray) (w : World) (hbig : s.size ≤ 9223372036854775807) (h : okT s = true) :
    Calls Tryd.prog 19 #[.string s] w fun e w' => e = .returned (.tuple #[.string ⟨(fieldOf s).toArray⟩, .int .i64 0]) ∧ Below w.heap.size w w' := by
  have := rputData_any s w hbig
  rw [putE_ok h] at this
  exact this
theorem valid_s (b : Bool) (s : ByteArray) (w : World) (hT : Tabs w) (hbig : s.size ≤ 9223372036854775807) (h : okT s = b) :
    Calls Tryd.prog 9 #[.string s] w fun e w' => e = .returned (.bool b) ∧ Below w.heap.size w w' := by
  subst h; exact valid_any s w hT hbig
theorem rvalid_s (b : Bool) (s : ByteArray) (w : World) (hbig : s.size ≤ 9223372036854775807) (h : okT s = b) :
    Calls Tryd.prog 16 #[.string s] w fun e w' => e = .returned (.bool b) ∧ Below w.heap.size w w' := by
  subst h; exact rvalid_any s w hbig

set_option maxRecDepth 100000 in
set_option maxHeartbeats 4000000 in
theorem put_any (a : Option Addr) (cap : Nat) (ls : List ByteArray) (w : World) (hT : Tabs w) (hr : Row w a (strs ls)) (hn : ls.length ≤ 1000) (hbig : ∀ s ∈ ls, s.size ≤ 9223372036854775807) :
    Calls Tryd.prog 12 #[.slice a ls.length cap] w fun e w' => e = .returned (.tuple #[.string ⟨(putsM ls).toArray⟩, .int .i64 (putsE ls)]) ∧ Below w.heap.size w w' := by
  have HT := Lib.hid hT
  have HR0 := Lib.hid hr
  clear hT hr
  have hi : ∃ i, Tryd.prog.info? 5 = some i ∧ i.size = 1 ∧ i.bytes = 1 ∧ i.zero = some (.int .u8 0) := by
    obtain ⟨i, h1, h2, h3, h4⟩ := info_parts T_u8.hi
    exact ⟨i, h1, h3, h4, h2⟩
  go_enter Tryd.func12, Tryd.ntmps12
  go_wp2_with (at_make; refine wpList_mk T_u8 (Below.refl w.heap.size w) (Nat.le_refl _) rfl rfl rfl rfl (by omega) (by omega) (by omega) ?_)
  intro v' w' hown hbel hB
  go_wp2_with fail
  go_loopw [4, 12] (fun s i wr => ∃ (k n : Nat) (pre : List UInt8), i = .int .i64 k ∧ k ≤ ls.length ∧ wr.ownsRow w.heap.size 5 1 s n (u8s pre) ∧ n ≤ k * 65537 ∧ Hid (pre = (ls.take k).flatMap fieldOf) ∧ Hid ((ls.take k).all okT = true) ∧ Below w.heap.size w wr) (fun _ i _ => (ls.length - intOf i).toNat)
  case atStart => exact ⟨0, 0, [], rfl, by omega, hown, by omega, rfl, rfl, hbel⟩
  case round =>
    clear hown hbel hB
    obtain ⟨k, n, pre, rfl, hk, hown, hnk, HP, HA, hb⟩ := hrel
    by_cases hlt : k < ls.length
    · obtain ⟨s, hs⟩ : ∃ s, ls[k]? = some s := ⟨ls[k], by simp [hlt]⟩
      have hsb := hbig s (List.mem_of_getElem? hs)
      obtain ⟨b, off, rfl, hcell⟩ := (HR0.out.below hb (Nat.le_refl _)).at (j := k) (u := .string s) (by simp [strs, hs])
      have HS := Lib.hid hs
      clear hs
      have hk0 : (0 : Int) ≤ k := by omega
      have hkl : (k : Int) < ls.length := by omega
      cases hv : okT s with
      | false =>
        have HV := Lib.hid hv
        have HF := Lib.hid (show putsM ls = [] ∧ putsE ls = 5 by
          have := all_not okT ls k s HS.out hv
          exact ⟨by simp [putsM, this], by simp [putsE, this]⟩)
        clear hv
        go_wp2_with fail
        refine (valid_s false s _ (HT.out.below hb) hsb HV.out).mono ?_
        rintro e w2 ⟨rfl, hk2⟩
        replace hb := bnext hb (Nat.le_refl _) hk2
        go_wp2_with fail
        go_ret2
        exact ⟨by rw [HF.out.1, HF.out.2]; rfl, hb⟩
      | true =>
        have HV := Lib.hid hv
        have hle := okT_len hv
        clear hv
        go_wp2_with fail
        refine (valid_s true s _ (HT.out.below hb) hsb HV.out).mono ?_
        rintro e w2 ⟨rfl, hk2⟩
        have hb2 := bnext hb (Nat.le_refl _) hk2
        have hown2 := ownsRow_local' hown hk2
        go_wp2_with fail
        refine (putData_s s _ hsb HV.out).mono ?_
        rintro e w3 ⟨rfl, hk3⟩
        have hb3 := bnext hb2 (Nat.le_refl _) hk3
        have hown3 := ownsRow_local' hown2 hk3
        clear hown hown2 hb hb2 hk2 hk3 hcell
        have hfl := fieldOf_len s
        have HF := Lib.hid (show fieldOf s = fieldOf s from rfl)
        obtain ⟨fd, hfd⟩ : ∃ fd, fieldOf s = fd := ⟨_, rfl⟩
        rw [hfd] at hfl ⊢
        have HFD := Lib.hid hfd
        clear hfd HF
        obtain ⟨i0, hi1, hi2, hi3, hi4⟩ := hi
        have hs3 := hb3.size
        go_wp2_with (at_builtin; refine Lib.wpList_append_own_string (w := w3) rfl _ _ _ _ rfl w.heap.size 5 i0 Tryd.underlying26 Tryd.underlying9 hi1 hi4 hi2 hi3 _ n _ rfl hown3 ⟨fd.toArray⟩ rfl ?_ ?_ hs3 ?_)
        · show n + fd.length ≤ maxLen
          unfold maxLen; omega
        · show n + fd.length ≤ _
          omega
        intro v4 w4 hown4 hgr _
        have hown5 : w4.ownsRow w.heap.size 5 1 v4 (n + fd.length) (u8s (pre ++ fd)) := by rw [← u8s_append]; exact hown4
        have hb4 : Below w.heap.size w w4 := hb3.grown hgr hs3 (fun k hk => (hown3.lt k hk).1)
        have HP2 : Hid (pre ++ fd = (ls.take (k + 1)).flatMap fieldOf) := by
          unfold Hid; rw [HP.out, take_snoc ls k s HS.out, List.flatMap_append, List.flatMap_singleton, HFD.out]
        have HA2 : Hid ((ls.take (k + 1)).all okT = true) := by
          unfold Hid; rw [take_snoc ls k s HS.out, List.all_append, HA.out]; simp [HV.out]
        have hkk : (k + 1) * 65537 = k * 65537 + 65537 := Nat.succ_mul k 65537
        clear hown3 hown4 hgr HP HA hb3
        go_wp2_with fail
        go_roundw
        case rel => exact ⟨k + 1, n + fd.length, _, by go_num, by omega, hown5, by omega, HP2, HA2, hb4⟩
        case measure => simp [intOf]; omega
    · obtain rfl : k = ls.length := by omega
      have hkl : ¬ (ls.length : Int) < ls.length := by omega
      have HF := Lib.hid (show putsM ls = pre ∧ putsE ls = 0 by
        have h1 := HA.out
        have h2 := HP.out
        rw [List.take_length] at h1 h2
        exact ⟨by simp only [putsM, h1, if_true]; exact h2.symm, by simp only [putsE, h1, if_true]⟩)
      have hstr := str_u8 hown
      go_wp2_with fail
      go_ret2
      exact ⟨by rw [HF.out.1, HF.out.2]; rfl, hb⟩

set_option maxRecDepth 100000 in
set_option maxHeartbeats 4000000 in
theorem rput_any (a : Option Addr) (cap : Nat) (ls : List ByteArray) (w : World) (hr : Row w a (strs ls)) (hn : ls.length ≤ 1000) (hbig : ∀ s ∈ ls, s.size ≤ 9223372036854775807) :
    Calls Tryd.prog 18 #[.slice a ls.length cap] w fun e w' => e = .returned (.tuple #[.string ⟨(putsM ls).toArray⟩, .int .i64 (putsE ls)]) ∧ Below w.heap.size w w' := by
  have HR0 := Lib.hid hr
  clear hr
  go_enter Tryd.func18, Tryd.ntmps18
  go_wp2_with fail
  go_loopw [4, 5] (fun s i wr => ∃ (k : Nat) (pre : List UInt8), s = .string ⟨pre.toArray⟩ ∧ i = .int .i64 k ∧ k ≤ ls.length ∧ pre.length ≤ k * 65537 ∧ Hid (pre = (ls.take k).flatMap fieldOf) ∧ Hid ((ls.take k).all okT = true) ∧ Below w.heap.size w wr) (fun _ i _ => (ls.length - intOf i).toNat)
  case atStart => exact ⟨0, [], rfl, rfl, by omega, by simp, rfl, rfl, Below.refl _ _⟩
  case round =>
    obtain ⟨k, pre, rfl, rfl, hk, hnk, HP, HA, hb⟩ := hrel
    by_cases hlt : k < ls.length
    · obtain ⟨s, hs⟩ : ∃ s, ls[k]? = some s := ⟨ls[k], by simp [hlt]⟩
      have hsb := hbig s (List.mem_of_getElem? hs)
      obtain ⟨b, off, rfl, hcell⟩ := (HR0.out.below hb (Nat.le_refl _)).at (j := k) (u := .string s) (by simp [strs, hs])
      have HS := Lib.hid hs
      have hk0 : (0 : Int) ≤ k := by omega
      have hkl : (k : Int) < ls.length := by omega
      cases hv : okT s with
      | false =>
        have HV := Lib.hid hv
        have HF := Lib.hid (show putsM ls = [] ∧ putsE ls = 5 by
          have := all_not okT ls k s HS.out hv
          exact ⟨by simp [putsM, this], by simp [putsE, this]⟩)
        clear hv hs
        go_wp2_with fail
        refine (rvalid_s false s _ hsb HV.out).mono ?_
        rintro e w2 ⟨rfl, hk2⟩
        replace hb := bnext hb (Nat.le_refl _) hk2
        go_wp2_with fail
        go_ret2
        exact ⟨by rw [HF.out.1, HF.out.2]; rfl, hb⟩
      | true =>
        have HV := Lib.hid hv
        have hle := okT_len hv
        clear hv
        go_wp2_with fail
        refine (rvalid_s true s _ hsb HV.out).mono ?_
        rintro e w2 ⟨rfl, hk2⟩
        have hb2 := bnext hb (Nat.le_refl _) hk2
        clear hcell
        obtain ⟨b5, o5, he, hcell⟩ := (HR0.out.below hb2 (Nat.le_refl _)).at (j := k) (u := .string s) (by simp [strs, hs])
        cases he
        clear hs
        go_wp2_with fail
        refine (rputData_s s _ hsb HV.out).mono ?_
        rintro e w3 ⟨rfl, hk3⟩
        have hb3 := bnext hb2 (Nat.le_refl _) hk3
        clear hb hb2 hk2 hk3 hcell
        have hfl := fieldOf_len s
        obtain ⟨fd, hfd⟩ : ∃ fd, fieldOf s = fd := ⟨_, rfl⟩
        rw [hfd] at hfl ⊢
        have HFD := Lib.hid hfd
        clear hfd
        have hcat : ¬ 9223372036854775807 < pre.length + fd.length := by omega
        have HP2 : Hid (pre ++ fd = (ls.take (k + 1)).flatMap fieldOf) := by
          unfold Hid; rw [HP.out, take_snoc ls k s HS.out, List.flatMap_append, List.flatMap_singleton, HFD.out]
        have HA2 : Hid ((ls.take (k + 1)).all okT = true) := by
          unfold Hid; rw [take_snoc ls k s HS.out, List.all_append, HA.out]; simp [HV.out]
        have hkk : (k + 1) * 65537 = k * 65537 + 65537 := Nat.succ_mul k 65537
        clear HP HA
        go_wp2_with fail
        go_roundw
        case rel => exact ⟨k + 1, pre ++ fd, v_str' (mk_append pre fd), by go_num, by omega, by rw [List.length_append]; omega, HP2, HA2, hb3⟩
        case measure => simp [intOf]; omega
    · obtain rfl : k = ls.length := by omega
      have hkl : ¬ (ls.length : Int) < ls.length := by omega
      have HF := Lib.hid (show putsM ls = pre ∧ putsE ls = 0 by
        have h1 := HA.out
        have h2 := HP.out
        rw [List.take_length] at h1 h2
        exact ⟨by simp only [putsM, h1, if_true]; exact h2.symm, by simp only [putsE, h1, if_true]⟩)
      go_wp2_with fail
      go_ret2
      exact ⟨by rw [HF.out.1, HF.out.2]; rfl, hb⟩
end Go.Proofs.YtjpefeopfbgnhaaDoor
