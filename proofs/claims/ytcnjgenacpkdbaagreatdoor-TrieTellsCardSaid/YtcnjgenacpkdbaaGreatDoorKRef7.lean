/- The document's topics: levels, plain bytes. -/
import Derived.Test.YtcnjgenacpkdbaaGreatDoorKTopic3
import Derived.StillTailTactics
import Derived.Laws.OwnMore
namespace Go.Proofs.YtcnjgenacpkdbaaGreatDoor
open Go Go.RowKit

theorem T_str : ElemT Tryz.prog 42 9 (.string ⟨#[]⟩) 1 16 := ⟨Tryz.underlying42, by kernel_rfl, rfl, by decide⟩
theorem strs_append (l m : List (List UInt8)) : strs l ++ strs m = strs (l ++ m) := by simp [strs]
theorem strs_set (t : List (List UInt8)) (x y : List UInt8) : (strs (t ++ [x])).set t.length (.string ⟨y.toArray⟩) = strs (t ++ [y]) := by
  simp only [strs, List.map_append, List.map_cons, List.map_nil]
  rw [List.set_append_right _ _ (by simp)]
  simp
theorem strs_last (t : List (List UInt8)) (x : List UInt8) : (strs (t ++ [x]))[t.length]? = some (.string ⟨x.toArray⟩) := by simp [strs]
theorem str_snoc (s : ByteArray) (x : List UInt8) (k : Nat) (h : k < s.size) : (⟨x.toArray⟩ : ByteArray) ++ s.extract k (k + 1) = ⟨(x ++ [s[k]]).toArray⟩ := by
  apply ByteArray.ext
  apply Array.ext'
  have e : (s.data.toList.drop k).take 1 = [s[k]] := by rw [drop_cons_get s k h]; rfl
  simp only [ByteArray.data_append, ByteArray.data_extract, Array.toList_append, Array.toList_extract, List.extract_eq_take_drop, Nat.add_sub_cancel_left]
  rw [e]

def Tells (l : List (List UInt8)) (w : World) (e : Ending) (w' : World) : Prop := ∃ a c, e = .returned (.slice a l.length c) ∧ Row w' a (strs l) ∧ Below w.heap.size w w'
set_option maxRecDepth 100000 in
set_option maxHeartbeats 1000000 in
theorem rlevels_any (s : ByteArray) (w : World) (hs : s.size < 4294967281) :
    Calls Tryz.prog 52 #[.string s] w (Tells (levels s.data.toList) w) := by
  have hlen : s.data.toList.length = s.size := rfl
  have hne : (⟨#[]⟩ : ByteArray) = ⟨([] : List UInt8).toArray⟩ := rfl
  go_enter Tryz.func52, Tryz.ntmps52
  go_wp2_with fail
  have hown0 : (w.alloc (.cells #[.string ⟨#[]⟩] 9)).ownsRow w.heap.size 9 1 (.slice (some ⟨w.heap.size, 0, none⟩) 1 1) 1 (strs [[]]) :=
    ⟨rfl, .inr ⟨w.heap.size, 1, _, rfl, Nat.le_refl _, heap_alloc_new w _, Nat.le_refl _, by unfold maxLen; omega, rfl, rfl⟩⟩
  have HO := Lib.hid hown0
  have HB0 := Lib.hid ((Below.refl w.heap.size w).alloc (Nat.le_refl _) (.cells #[.string ⟨#[]⟩] 9))
  clear hown0 hne
  go_loopw [3, 4] (fun v i wr => ∃ k : Nat, i = .int .i64 k ∧ k ≤ s.size ∧ wr.ownsRow w.heap.size 9 1 v (levels (s.data.toList.take k)).length (strs (levels (s.data.toList.take k))) ∧ Below w.heap.size w wr) (fun _ i _ => (s.size - intOf i).toNat)
  case atStart => exact ⟨0, by go_num, Nat.zero_le _, HO.out, HB0.out⟩
  case round =>
    clear HO HB0
    obtain ⟨k, rfl, hk, hown, hb⟩ := hrel
    have hbs := hb.size
    by_cases hlt : k < s.size
    · have hk0 : (0 : Int) ≤ k := by omega
      have hkl : (k : Int) < s.size := by omega
      have hll := levels_len_le (s.data.toList.take k)
      have htl : (s.data.toList.take k).length ≤ s.size := by rw [List.length_take]; omega
      have HT := Lib.hid (show s.data.toList.take (k + 1) = s.data.toList.take k ++ [s[k]] by rw [List.take_add_one, bget s k hlt]; rfl)
      have HSN := Lib.hid (levels_snoc_sep (s.data.toList.take k))
      have HSC := Lib.hid (fun (hc : s[k] ≠ 47) => levels_snoc hc (s.data.toList.take k))
      have hne := levels_ne (s.data.toList.take k)
      have HSTR := Lib.hid (fun x => str_snoc s x k hlt)
      have hcb := byte_lt s[k]
      have hL : (levels (s.data.toList.take k)).length ≤ s.size + 1 := by omega
      have HLS := Lib.hid (levels_sum (s.data.toList.take k))
      generalize levels (s.data.toList.take k) = L at *
      clear hll
      by_cases hc : s[k] = 47
      · have hcq : ((s[k].toNat : Int) == 47) = true := by rw [hc]; rfl
        have HLV := Lib.hid (show levels (s.data.toList.take (k + 1)) = L ++ [[]] by rw [HT.out, hc, HSN.out])
        clear hc hne
        go_wp2_with (first
          | (at_builtin; refine wpList_app T_str hown hb hbs rfl rfl rfl rfl (by rfl) (by simp [Value.oneCell']) (by omega) (by omega) ?_; intro v' w3 hown' hbel3 hsz3 hlt3; go_frame)
          | fail)
        refine ⟨⟨k + 1, by go_num, by omega, by rw [HLV.out, ← strs_append, List.length_append]; exact hown', hbel3⟩, by simp [intOf]; omega⟩
      · have hcq : ((s[k].toNat : Int) == 47) = false := by
          rw [beq_eq_false_iff_ne]; intro h; exact hc (UInt8.toNat_inj.1 (by simp; omega))
        obtain ⟨t, x, rfl⟩ : ∃ t x, L = t ++ [x] := ⟨L.dropLast, L.getLast hne, (List.dropLast_concat_getLast hne).symm⟩
        have HLV := Lib.hid (show levels (s.data.toList.take (k + 1)) = t ++ [x ++ [s[k]]] by rw [HT.out, HSC.out hc t x rfl])
        have HL2 := Lib.hid (show (t ++ [x]).length = t.length + 1 by simp)
        rw [HL2.out] at hown hL
        rcases hown.2 with ⟨-, hz⟩ | ⟨g, cap, cur, rfl, hgb, hgg, hnc, hcm, hcs, htake⟩
        · omega
        have c0 := hown.cellAt t.length (by omega)
        rw [strs_last] at c0
        have f0 := hown.frozenAt t.length
        have hst := hown.stored t.length (.string ⟨(x ++ [s[k]]).toArray⟩)
        rw [strs_set] at hst
        have HST := Lib.hid hst
        have HX := Lib.hid (HSTR.out x)
        clear hst hgg hcs htake hc hne hown HSTR HSC HSN HT
        generalize hN : t.length + 1 = N at *
        generalize hm : t.length = m at *
        have HN := Lib.hid hN
        have i0 : (0 : Int) ≤ (N : Int) - 1 := by omega
        have i1 : (N : Int) - 1 < (N : Int) := by omega
        have j1 : 1 ≤ N := by omega
        have j2 : (1 : Int) ≤ N := by omega
        have j3 : 0 < N := by omega
        have i2 : ((N : Int) - 1).toNat = m := by omega
        have i3 : IntKind.i64.wrap ((N : Int) - 1) = (N : Int) - 1 := w_i64 _ (by omega) (by omega)
        have i4 : IntKind.i64.wrap ((k : Int) + 1) = (k : Int) + 1 := w_i64 _ (by omega) (by omega)
        have i5 : (k : Int) + 1 ≤ s.size := by omega
        have i6 : (0 : Int) ≤ (k : Int) + 1 := by omega
        have i7 : ((k : Int) + 1).toNat = k + 1 := by omega
        have hsl : ∀ w : World, (Instr.slice 9 (.string s) (some (.int .i64 (k : Int))) (some (.int .i64 ((k : Int) + 1))) none).run Tryz.prog w = .ok (.string (s.extract k (k + 1))) w := fun w => by
          have h := run_slice_string (P := Tryz.prog) (w := w) 9 s .i64 .i64 (k : Int) ((k : Int) + 1) Tryz.underlying9 hk0 (by omega) i5
          rw [Int.toNat_natCast, i7] at h
          exact h
        have hxl := HLS.out x (by simp)
        have hadd : ∀ w : World, (Op.stringOp .add ⟨x.toArray⟩ (s.extract k (k + 1))).run Tryz.prog w = .ok (.string ⟨(x ++ [s[k]]).toArray⟩) w := fun w => by
          rw [run_string_add_sum w _ _ (by rw [ByteArray.size_extract]; show x.length + _ ≤ _; omega), HX.out]
        clear hN hxl htl HLS
        go_wp2_with fail
        go_still_tail 17, (by kernel_rfl)
        change wpList _ _ _ _ _ wr.drew
        go_wp2_with fail
        have hb3 : Below w.heap.size w (wr.setCell ⟨g, m, none⟩ (.string ⟨(x ++ [s[k]]).toArray⟩)) := hb.grown HST.out.2 hbs (fun j hj => by cases hj; exact hgb)
        refine ⟨⟨k + 1, by go_num, by omega, ?_, below_drewN hb3 1⟩, by simp [intOf]; omega⟩
        rw [HLV.out, show (t ++ [x ++ [s[k]]]).length = N by simp [hm]; exact HN.out]
        exact HST.out.1.drew
    · have hkl : ¬ (k : Int) < s.size := by omega
      rw [List.take_of_length_le (by omega)] at hown
      obtain ⟨a, c, rfl, hr, -, -⟩ := ownsRow_row hown
      go_wp2_with fail
      go_ret
      exact ⟨a, c, rfl, hr, hb⟩

theorem rplain_any (s : ByteArray) (w : World) (hs : s.size < 4294967281) :
    Calls Tryz.prog 65 #[.string s] w fun e w' => e = .returned (.bool (plainB s.data.toList)) ∧ w = w' := by
  have hlen : s.data.toList.length = s.size := rfl
  go_enter Tryz.func65, Tryz.ntmps65
  go_wp2_with fail
  go_loop [3] (fun i => ∃ k : Nat, i = .int .i64 k ∧ k ≤ s.size ∧ plainB (s.data.toList.take k) = true) (fun i => (s.size - intOf i).toNat)
  case atStart => exact ⟨0, rfl, Nat.zero_le _, by simp [plainB]⟩
  case round =>
    obtain ⟨k, rfl, hk, hp⟩ := hrel
    have HP := Lib.hid hp
    clear hp
    by_cases hlt : k < s.size
    · have hk0 : (0 : Int) ≤ k := by omega
      have hkl : (k : Int) < s.size := by omega
      have hcb := byte_lt s[k]
      have hw := wildc_nat s[k]
      have HG := Lib.hid (bget s k hlt)
      by_cases h1 : (s[k].toNat : Int) = 43
      · have q1 : ((s[k].toNat : Int) == 43) = true := by simpa using h1
        have HF := Lib.hid (show plainB s.data.toList = false by
          unfold plainB; rw [List.all_eq_false]; exact ⟨s[k], List.mem_of_getElem? HG.out, by rw [hw]; simp [h1]⟩)
        clear h1 hw
        go_wp2_with fail
        go_ret
        exact ⟨ret_bool HF.out.symm, rfl⟩
      · have q1 : ((s[k].toNat : Int) == 43) = false := by simpa using h1
        by_cases h2 : (s[k].toNat : Int) = 35
        · have q2 : ((s[k].toNat : Int) == 35) = true := by simpa using h2
          have HF := Lib.hid (show plainB s.data.toList = false by
            unfold plainB; rw [List.all_eq_false]; exact ⟨s[k], List.mem_of_getElem? HG.out, by rw [hw]; simp [h2]⟩)
          clear h1 hw h2
          go_wp2_with fail
          go_ret
          exact ⟨ret_bool HF.out.symm, rfl⟩
        · have q2 : ((s[k].toNat : Int) == 35) = false := by simpa using h2
          have HF := Lib.hid (show plainB (s.data.toList.take (k + 1)) = true from plain_split (by omega) HP.out fun j hj1 hj2 c hc => by
            obtain rfl : j = k := by omega
            rw [HG.out] at hc
            obtain rfl := Option.some.inj hc
            rw [hw]; simp [h1, h2])
          clear h1 hw h2
          go_wp2_with fail
          go_round
          case rel => exact ⟨k + 1, by go_num, by omega, HF.out⟩
          case measure => simp [intOf]; omega
    · have hkl : ¬ (k : Int) < s.size := by omega
      have HF := Lib.hid (show plainB s.data.toList = true by have := HP.out; rwa [List.take_of_length_le (by omega)] at this)
      go_wp2_with fail
      go_ret
      exact ⟨ret_bool HF.out.symm, rfl⟩

theorem rname_any (s : ByteArray) (w : World) (hs : s.size < 4294967281) :
    Calls Tryz.prog 67 #[.string s] w fun e w' => e = .returned (.bool (nameB s.data.toList)) ∧ Below w.heap.size w w' := by
  by_cases he : s.data.toList = []
  · have h1 : s.size = 0 := by have : s.data.toList.length = s.size := rfl; rw [he] at this; simpa using this.symm
    have h2 : decide ((0 : Int) < s.size) = false := decide_eq_false (by omega)
    have h3 : ¬ 0 < s.size := by omega
    have HF := Lib.hid (show nameB s.data.toList = false by unfold nameB; rw [he]; rfl)
    clear he h1
    go_enter Tryz.func67, Tryz.ntmps67
    go_wp2_with fail
    go_ret
    exact ⟨ret_bool HF.out.symm, Below.refl _ _⟩
  · have h1 : 0 < s.size := by
      have : s.data.toList.length = s.size := rfl
      have := List.length_pos_iff.2 he; omega
    have h2 : (0 : Int) < s.size := by omega
    obtain ⟨v, hv⟩ : ∃ v, validI s.data.toList = v := ⟨_, rfl⟩
    have HF := Lib.hid (show nameB s.data.toList = (v && plainB s.data.toList) by rw [nameB, List.isEmpty_eq_false_iff.2 he, ← hv]; rfl)
    have HV := Lib.hid (rvalid_any s w (by omega))
    rw [hv] at HV
    have HP := Lib.hid (fun w => rplain_any s w hs)
    clear he hv
    cases v with
    | false =>
      go_enter Tryz.func67, Tryz.ntmps67
      go_wp2_with fail
      refine HV.out.mono ?_
      rintro e w1 ⟨rfl, hk⟩
      go_wp2_with fail
      go_ret
      exact ⟨ret_bool HF.out.symm, hk⟩
    | true =>
      go_enter Tryz.func67, Tryz.ntmps67
      go_wp2_with fail
      refine HV.out.mono ?_
      rintro e w1 ⟨rfl, hk⟩
      go_wp2_with fail
      refine (HP.out _).mono ?_
      rintro e w2 ⟨rfl, rfl⟩
      go_wp2_with fail
      go_ret
      exact ⟨ret_bool (by rw [HF.out]; rfl), hk⟩
end Go.Proofs.YtcnjgenacpkdbaaGreatDoor
