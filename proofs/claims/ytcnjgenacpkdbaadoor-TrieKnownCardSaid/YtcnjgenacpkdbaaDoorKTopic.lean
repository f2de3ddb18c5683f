/- Topic names and filters, walked: levels, names, filters. -/
import Derived.Test.YtcnjgenacpkdbaaDoorKAny
namespace Go.Proofs.YtcnjgenacpkdbaaDoor
open Go Go.RowKit

def strs (l : List (List UInt8)) : List Value := l.map fun x => Value.string ⟨x.toArray⟩
theorem strs_length (l : List (List UInt8)) : (strs l).length = l.length := by simp [strs]
theorem str_eta (s : ByteArray) : (⟨s.data.toList.toArray⟩ : ByteArray) = s := by cases s; simp
theorem split_cells (s : ByteArray) : (Lib.splitB ⟨#[47]⟩ 0 (Lib.countB s ⟨#[47]⟩) s).map Value.string = strs (levels s.data.toList) := by
  have h := Lib.splitB_data ⟨#[47]⟩ 0 (Lib.countB s ⟨#[47]⟩) s
  have h2 := splitK_levels s.data.toList
  have h3 : (Lib.splitB ⟨#[47]⟩ 0 (Lib.countB s ⟨#[47]⟩) s).map (·.data.toList) = levels s.data.toList := h.trans h2
  rw [← h3, strs, List.map_map]
  apply List.map_congr_left
  intro x _
  simp
theorem split_len (s : ByteArray) : Lib.countB s ⟨#[47]⟩ + 1 = (levels s.data.toList).length := by
  have h : ∀ l : List UInt8, Lib.count l [47] + 1 = (levels l).length := by
    intro l
    induction l with
    | nil => rw [Lib.count_miss (by rfl)]; rfl
    | cons c r ih =>
      by_cases h : c = 47
      · subst h
        rw [Lib.count_hit (i := 0) (by simp) (index_sep r), levels_cons_sep]
        simp at ih ⊢; omega
      · obtain ⟨x, t, hx⟩ := List.exists_cons_of_ne_nil (levels_ne r)
        rw [levels_cons h hx]
        rw [hx] at ih
        have hi := index_cons h r
        rcases Lib.index_spec r [47] with ⟨hm, _⟩ | ⟨i, hm, _⟩
        · rw [hm] at hi
          rw [Lib.count_miss hm] at ih
          rw [Lib.count_miss (by simpa using hi)]
          simpa using ih
        · have hne : (Lib.index r [47] == -1) = false := by rw [hm, beq_eq_false_iff_ne]; omega
          rw [hne] at hi
          have hi' : Lib.index (c :: r) [47] = ((i + 1 : Nat) : Int) := by rw [hi, hm]; simp
          rw [Lib.count_hit (i := i) (by simp) hm] at ih
          rw [Lib.count_hit (i := i + 1) (by simp) hi']
          simpa using ih
  exact h s.data.toList

theorem levels_any (s : ByteArray) (w : World) (hT : Tabs w) (hs : s.size < 4294967281) :
    Calls Tryd.prog 16 #[.string s] w fun e w' => ∃ a c, e = .returned (.slice a (levels s.data.toList).length c) ∧ Row w' a (strs (levels s.data.toList)) ∧ Below w.heap.size w w' := by
  obtain ⟨m, hm⟩ := hT.2
  have hc := Tryd.strings_Split s ⟨#[47]⟩ m w hs hm (by decide)
  rw [split_len, split_cells] at hc
  have HC := Lib.hid hc
  clear hc hm hT
  go_enter Tryd.func16, Tryd.ntmps16
  go_wp2_with fail
  refine HC.out.mono ?_
  rintro e w1 ⟨rfl, rfl⟩
  go_wp2_with fail
  go_ret
  exact ⟨_, _, rfl, row_new _ _ _, (Below.refl _ _).alloc (Nat.le_refl _) _⟩

theorem name_any (s : ByteArray) (w : World) (hT : Tabs w) (hs : s.size < 4294967281) :
    Calls Tryd.prog 15 #[.string s] w fun e w' => e = .returned (.bool (nameB s.data.toList)) ∧ Below w.heap.size w w' := by
  have HT := Lib.hid hT
  clear hT
  by_cases he : s.data.toList = []
  · have h1 : s.toList.isEmpty = true := by rw [Lib.toList_data, he]; rfl
    have h2 : s.toList = [] := by rw [Lib.toList_data, he]
    have HF := Lib.hid (show nameB s.data.toList = false by unfold nameB; rw [he]; rfl)
    clear he
    go_enter Tryd.func15, Tryd.ntmps15
    go_wp2_with fail
    go_ret
    exact ⟨ret_bool HF.out.symm, Below.refl _ _⟩
  · have h1 : s.toList.isEmpty = false := by rw [Lib.toList_data]; simpa using he
    have h2 : (!s.toList.isEmpty) = true := by rw [h1]; rfl
    obtain ⟨v, hv⟩ : ∃ v, validI s.data.toList = v := ⟨_, rfl⟩
    obtain ⟨p, hp⟩ : ∃ p, plainB s.data.toList = p := ⟨_, rfl⟩
    have HF := Lib.hid (show nameB s.data.toList = (v && p) by rw [nameB, List.isEmpty_eq_false_iff.2 he, ← hv, ← hp]; rfl)
    have HV := Lib.hid (show Calls Tryd.prog 29 #[.string s] w fun e w' => e = .returned (.bool v) ∧ Below w.heap.size w w' by rw [← hv]; exact valid_any s w HT.out (by omega))
    have HP := Lib.hid hp
    clear he hv hp
    cases v with
    | false =>
      go_enter Tryd.func15, Tryd.ntmps15
      go_wp2_with fail
      refine HV.out.mono ?_
      rintro e w1 ⟨rfl, hk⟩
      go_wp2_with fail
      go_ret
      exact ⟨ret_bool HF.out.symm, hk⟩
    | true =>
      go_enter Tryd.func15, Tryd.ntmps15
      go_wp2_with fail
      refine HV.out.mono ?_
      rintro e w1 ⟨rfl, hk⟩
      go_wp2_with fail
      refine (cany_u p s w1 hs HP.out).mono ?_
      rintro e w2 ⟨rfl, hk2⟩
      replace hk := bnext hk (Nat.le_refl _) hk2
      go_wp2_with fail
      go_ret
      exact ⟨ret_bool (by rw [HF.out]; simp), hk⟩

theorem slt (l : List UInt8) : (⟨l.toArray⟩ : ByteArray).toList = l := by rw [Lib.toList_data]
theorem level_any (x : List UInt8) (last : Bool) (w : World) (hs : x.length < 4294967281) :
    Calls Tryd.prog 35 #[.string ⟨x.toArray⟩, .bool last] w fun e w' => e = .returned (.bool (levelB x last)) ∧ Below w.heap.size w w' := by
  have e1 := slt x
  obtain ⟨p, hp⟩ : ∃ p, plainB x = p := ⟨_, rfl⟩
  have HP := Lib.hid (fun w => cany_u p ⟨x.toArray⟩ w (by show x.length < _; exact hs) (by simpa using hp))
  by_cases h1 : x = [43]
  · have HF := Lib.hid (show levelB x last = true by unfold levelB; rw [h1]; rfl)
    have q1 : (⟨x.toArray⟩ : ByteArray).toList = [43] := e1.trans h1
    clear h1 e1 hp
    generalize (⟨x.toArray⟩ : ByteArray) = X at *
    go_enter Tryd.func35, Tryd.ntmps35
    go_wp2_with fail
    go_ret
    exact ⟨ret_bool (by rw [HF.out]), Below.refl _ _⟩
  · have q1 : ¬ (⟨x.toArray⟩ : ByteArray).toList = [43] := fun h => h1 (e1.symm.trans h)
    by_cases h2 : x = [35] ∧ last = true
    · obtain ⟨h2, rfl⟩ := h2
      have HF := Lib.hid (show levelB x true = true by unfold levelB; rw [h2]; rfl)
      have q2 : (⟨x.toArray⟩ : ByteArray).toList = [35] := e1.trans h2
      clear h1 e1 hp h2 q1
      generalize (⟨x.toArray⟩ : ByteArray) = X at *
      go_enter Tryd.func35, Tryd.ntmps35
      go_wp2_with fail
      go_ret
      exact ⟨ret_bool (by rw [HF.out]), Below.refl _ _⟩
    · have hb1 : (x == [43]) = false := by simpa using h1
      have hb2 : (x == [35] && last) = false := by cases last <;> simp_all
      have HF := Lib.hid (show levelB x last = p by unfold levelB; rw [hb1, hb2, hp]; rfl)
      have q2 : ¬ ((⟨x.toArray⟩ : ByteArray).toList = [35] ∧ last = true) := fun h => h2 ⟨e1.symm.trans h.1, h.2⟩
      clear h1 e1 hp h2 hb1 hb2
      generalize (⟨x.toArray⟩ : ByteArray) = X at *
      cases last with
      | true =>
        have q3 : ¬ X.toList = [35] := fun h => q2 ⟨h, rfl⟩
        clear q2
        go_enter Tryd.func35, Tryd.ntmps35
        go_wp2_with fail
        refine (HP.out _).mono ?_
        rintro e w1 ⟨rfl, hk⟩
        go_wp2_with fail
        go_ret
        exact ⟨ret_bool (by rw [HF.out]; first | done | (simp; done) | simp [q1]), hk⟩
      | false =>
        clear q2
        by_cases q3 : X.toList = [35]
        · clear q1
          go_enter Tryd.func35, Tryd.ntmps35
          go_wp2_with fail
          refine (HP.out _).mono ?_
          rintro e w1 ⟨rfl, hk⟩
          go_wp2_with fail
          go_ret
          exact ⟨ret_bool (by rw [HF.out]; first | done | (simp; done) | simp [q1]), hk⟩
        · skip
          go_enter Tryd.func35, Tryd.ntmps35
          go_wp2_with fail
          refine (HP.out _).mono ?_
          rintro e w1 ⟨rfl, hk⟩
          go_wp2_with fail
          go_ret
          exact ⟨ret_bool (by rw [HF.out]; first | done | (simp; done) | simp [q1]), hk⟩

theorem strs_at {l : List (List UInt8)} {k : Nat} {x : List UInt8} (h : l[k]? = some x) : (strs l)[k]? = some (.string ⟨x.toArray⟩) := by simp [strs, h]
theorem strs_row {w : World} {a : Option Addr} {l : List (List UInt8)} (h : Row w a (strs l)) {k : Nat} {x : List UInt8} (hx : l[k]? = some x) : ∃ b off, a = some ⟨b, off, none⟩ ∧ w.cell? ⟨b, off + k, none⟩ = some (.string ⟨x.toArray⟩) := h.at (strs_at hx)

set_option maxRecDepth 100000 in
set_option maxHeartbeats 1000000 in
theorem filter_any (s : ByteArray) (w : World) (hT : Tabs w) (hs : s.size < 4294967281) :
    Calls Tryd.prog 21 #[.string s] w fun e w' => e = .returned (.bool (filterB s.data.toList)) ∧ Below w.heap.size w w' := by
  have HT := Lib.hid hT
  clear hT
  by_cases he : s.data.toList = []
  · have h1 : s.toList.isEmpty = true := by rw [Lib.toList_data, he]; rfl
    have h2 : s.toList = [] := by rw [Lib.toList_data, he]
    have HF := Lib.hid (show filterB s.data.toList = false by unfold filterB; rw [he]; rfl)
    clear he
    go_enter Tryd.func21, Tryd.ntmps21
    go_wp2_with fail
    go_ret
    exact ⟨ret_bool HF.out.symm, Below.refl _ _⟩
  · have h1 : s.toList.isEmpty = false := by rw [Lib.toList_data]; exact List.isEmpty_eq_false_iff.2 he
    have h2 : ¬ s.toList = [] := by rw [Lib.toList_data]; exact he
    obtain ⟨v, hv⟩ : ∃ v, validI s.data.toList = v := ⟨_, rfl⟩
    have HF := Lib.hid (show filterB s.data.toList = (v && levelsB (levels s.data.toList)) by rw [filterB, List.isEmpty_eq_false_iff.2 he, ← hv]; rfl)
    have HV := Lib.hid (show Calls Tryd.prog 29 #[.string s] w fun e w' => e = .returned (.bool v) ∧ Below w.heap.size w w' by rw [← hv]; exact valid_any s w HT.out (by omega))
    clear he hv
    cases v with
    | false =>
      go_enter Tryd.func21, Tryd.ntmps21
      go_wp2_with fail
      refine HV.out.mono ?_
      rintro e w1 ⟨rfl, hk⟩
      go_wp2_with fail
      go_ret
      exact ⟨ret_bool HF.out.symm, hk⟩
    | true =>
      have HLS := Lib.hid (levels_sum s.data.toList)
      have HLL := Lib.hid (levels_len_le s.data.toList)
      have hsl : s.data.toList.length = s.size := rfl
      rw [hsl] at HLS HLL
      go_enter Tryd.func21, Tryd.ntmps21
      go_wp2_with fail
      refine HV.out.mono ?_
      rintro e w1 ⟨rfl, hk⟩
      go_wp2_with fail
      refine (levels_any s w1 (HT.out.below hk) hs).mono ?_
      rintro e w2 ⟨a, c, rfl, hr, hk2⟩
      replace hk := bnext hk (Nat.le_refl _) hk2
      have HR := Lib.hid hr
      generalize levels s.data.toList = L at *
      have hLL : L.length ≤ s.size + 1 := HLL.out
      clear hr hk2
      have HK := Lib.hid hk
      clear hk
      go_wp2_with fail
      go_loopw [17] (fun i wr => ∃ k : Nat, i = .int .i64 k ∧ k ≤ L.length ∧ Below w.heap.size w wr ∧ Below w2.heap.size w2 wr ∧ levelsB L = levelsB (L.drop k)) (fun i _ => (L.length - intOf i).toNat)
      case atStart => exact ⟨0, rfl, by omega, HK.out, Below.refl _ _, by simp⟩
      case round =>
        obtain ⟨k, rfl, hkl, hb, hb2, hD⟩ := hrel
        have HD := Lib.hid hD
        clear hD HK
        by_cases hlt : k < L.length
        · have hk0 : (0 : Int) ≤ k := by omega
          have hkL : (k : Int) < L.length := by omega
          obtain ⟨b1, o1, rfl, k0⟩ := strs_row (HR.out.below hb2 (Nat.le_refl _)) (k := k) (x := L[k]) (by simp [hlt])
          have hxl := HLS.out L[k] (List.getElem_mem hlt)
          have HN := Lib.hid (List.drop_eq_getElem_cons hlt)
          generalize L[k] = x at *
          obtain ⟨b, hbl⟩ : ∃ b, decide ((k : Int) = L.length - 1) = b := ⟨_, rfl⟩
          have hbq : ((k : Int) == L.length - 1) = b := by rw [← hbl]; rfl
          have HE := Lib.hid (show (L.drop (k + 1)).isEmpty = b by
            rw [← hbl, Bool.eq_iff_iff]
            simp only [List.isEmpty_iff, List.drop_eq_nil_iff, decide_eq_true_eq]; omega)
          have HLV := Lib.hid (fun w => level_any x b w (by omega))
          obtain ⟨q, hq⟩ : ∃ q, levelB x b = q := ⟨_, rfl⟩
          rw [hq] at HLV
          have HQ := Lib.hid hq
          clear hbl hq
          cases q with
          | true =>
            go_wp2_with fail
            refine (HLV.out _).mono ?_
            rintro e w3 ⟨rfl, hk3⟩
            replace hb := bnext hb (by have := hb.size; omega) hk3
            replace hb2 := bnext hb2 (by have := hb2.size; omega) hk3
            clear hk3 k0
            go_wp2_with fail
            go_roundw
            case rel => exact ⟨k + 1, by go_num, by omega, hb, hb2, by rw [HD.out, HN.out, levelsB, HE.out, HQ.out]; rfl⟩
            case measure => simp [intOf]; omega
          | false =>
            have HFF := Lib.hid (show filterB s.data.toList = false by rw [HF.out, HD.out, HN.out, levelsB, HE.out, HQ.out]; rfl)
            go_wp2_with fail
            refine (HLV.out _).mono ?_
            rintro e w3 ⟨rfl, hk3⟩
            replace hb := bnext hb (by have := hb.size; omega) hk3
            go_wp2_with fail
            go_ret
            exact ⟨ret_bool HFF.out.symm, hb⟩
        · have hkL : ¬ (k : Int) < L.length := by omega
          have HFF := Lib.hid (show filterB s.data.toList = true by rw [HF.out, HD.out, List.drop_eq_nil_of_le (by omega)]; rfl)
          go_wp2_with fail
          go_ret
          exact ⟨ret_bool HFF.out.symm, hb⟩
end Go.Proofs.YtcnjgenacpkdbaaDoor
