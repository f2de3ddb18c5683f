/- The document's topics: levels, plain bytes. The document's topics: filters. The document's topics: Covers, Match. -/
import Derived.Test.YthfdcphecggjeaaGreatDoorQI
import Derived.StillTailTactics
import Derived.Laws.OwnMore
namespace Go.Proofs.YthfdcphecggjeaaGreatDoor
section
open Go Go.RowKit

theorem T_str : ElemT Tryz.prog 33 9 (.string ⟨#[]⟩) 1 16 := ⟨Tryz.underlying33, by kernel_rfl, rfl, by decide⟩
theorem strs_append (l m : List (List UInt8)) : strs l ++ strs m = strs (l ++ m) := by simp [strs]
theorem strs_set (t : List (List UInt8)) (x y : List UInt8) : (strs (t ++ [x])).set t.length (.string ⟨y.toArray⟩) = strs (t ++ [y]) := by
  simp only [strs, List.map_append, List.map_cons, List.map_nil]
  rw [List.set_append_right _ _ (by simp)]
  simp
theorem strs_last (t : List (List UInt8)) (x : List UInt8) : (strs (t ++ [x]))[t.length]? = some (.string ⟨x.toArray⟩) := by simp [strs]
theorem str_snoc (s : ByteArray) (x : List UInt8) (k : Nat) (h : k < s.size) : (⟨x.toArray⟩ : ByteArray) ++ s.extract k (k + 1) = ⟨(x ++ [s[k]]).toArray⟩ := by
  apply ByteArray.ext
  apply Array.ext'
  have e : (s.data.toList.drop k).take 1 = [s[k]] := by rw [drop_cons_get s k h]; rfl
  simp only [ByteArray.data_append, ByteArray.data_extract, Array.toList_append, Array.toList_extract, List.extract_eq_take_drop, Nat.add_sub_cancel_left]
  rw [e]

def Tells (l : List (List UInt8)) (w : World) (e : Ending) (w' : World) : Prop := ∃ a c, e = .returned (.slice a l.length c) ∧ Row w' a (strs l) ∧ Below w.heap.size w w'
set_option maxRecDepth 100000 in
set_option maxHeartbeats 1000000 in
theorem rlevels_any (s : ByteArray) (w : World) (hs : s.size < 4294967281) :
    Calls Tryz.prog 63 #[.string s] w (Tells (levels s.data.toList) w) := by
  have hlen : s.data.toList.length = s.size := rfl
  have hne : (⟨#[]⟩ : ByteArray) = ⟨([] : List UInt8).toArray⟩ := rfl
  go_enter Tryz.func63, Tryz.ntmps63
  go_wp2_with fail
  have hown0 : (w.alloc (.cells #[.string ⟨#[]⟩] 9)).ownsRow w.heap.size 9 1 (.slice (some ⟨w.heap.size, 0, none⟩) 1 1) 1 (strs [[]]) :=
    ⟨rfl, .inr ⟨w.heap.size, 1, _, rfl, Nat.le_refl _, heap_alloc_new w _, Nat.le_refl _, by unfold maxLen; omega, rfl, rfl⟩⟩
  have HO := Lib.hid hown0
  have HB0 := Lib.hid ((Below.refl w.heap.size w).alloc (Nat.le_refl _) (.cells #[.string ⟨#[]⟩] 9))
  clear hown0 hne
  go_loopw [3, 4] (fun v i wr => ∃ k : Nat, i = .int .i64 k ∧ k ≤ s.size ∧ wr.ownsRow w.heap.size 9 1 v (levels (s.data.toList.take k)).length (strs (levels (s.data.toList.take k))) ∧ Below w.heap.size w wr) (fun _ i _ => (s.size - intOf i).toNat)
  case atStart => exact ⟨0, by go_num, Nat.zero_le _, HO.out, HB0.out⟩
  case round =>
    clear HO HB0
    obtain ⟨k, rfl, hk, hown, hb⟩ := hrel
    have hbs := hb.size
    by_cases hlt : k < s.size
    · have hk0 : (0 : Int) ≤ k := by omega
      have hkl : (k : Int) < s.size := by omega
      have hll := levels_len_le (s.data.toList.take k)
      have htl : (s.data.toList.take k).length ≤ s.size := by rw [List.length_take]; omega
      have HT := Lib.hid (show s.data.toList.take (k + 1) = s.data.toList.take k ++ [s[k]] by rw [List.take_add_one, bget s k hlt]; rfl)
      have HSN := Lib.hid (levels_snoc_sep (s.data.toList.take k))
      have HSC := Lib.hid (fun (hc : s[k] ≠ 47) => levels_snoc hc (s.data.toList.take k))
      have hne := levels_ne (s.data.toList.take k)
      have HSTR := Lib.hid (fun x => str_snoc s x k hlt)
      have hcb := byte_lt s[k]
      have hL : (levels (s.data.toList.take k)).length ≤ s.size + 1 := by omega
      have HLS := Lib.hid (levels_sum (s.data.toList.take k))
      generalize levels (s.data.toList.take k) = L at *
      clear hll
      by_cases hc : s[k] = 47
      · have hcq : ((s[k].toNat : Int) == 47) = true := by rw [hc]; rfl
        have HLV := Lib.hid (show levels (s.data.toList.take (k + 1)) = L ++ [[]] by rw [HT.out, hc, HSN.out])
        clear hc hne
        go_wp2_with (first
          | (at_builtin; refine wpList_app T_str hown hb hbs rfl rfl rfl rfl (by rfl) (by simp [Value.oneCell']) (by omega) (by omega) ?_; intro v' w3 hown' hbel3 hsz3 hlt3; go_frame)
          | fail)
        refine ⟨⟨k + 1, by go_num, by omega, by rw [HLV.out, ← strs_append, List.length_append]; exact hown', hbel3⟩, by simp [intOf]; omega⟩
      · have hcq : ((s[k].toNat : Int) == 47) = false := by
          rw [beq_eq_false_iff_ne]; intro h; exact hc (UInt8.toNat_inj.1 (by simp; omega))
        obtain ⟨t, x, rfl⟩ : ∃ t x, L = t ++ [x] := ⟨L.dropLast, L.getLast hne, (List.dropLast_concat_getLast hne).symm⟩
        have HLV := Lib.hid (show levels (s.data.toList.take (k + 1)) = t ++ [x ++ [s[k]]] by rw [HT.out, HSC.out hc t x rfl])
        have HL2 := Lib.hid (show (t ++ [x]).length = t.length + 1 by simp)
        rw [HL2.out] at hown hL
        rcases hown.2 with ⟨-, hz⟩ | ⟨g, cap, cur, rfl, hgb, hgg, hnc, hcm, hcs, htake⟩
        · omega
        have c0 := hown.cellAt t.length (by omega)
        rw [strs_last] at c0
        have f0 := hown.frozenAt t.length
        have hst := hown.stored t.length (.string ⟨(x ++ [s[k]]).toArray⟩)
        rw [strs_set] at hst
        have HST := Lib.hid hst
        have HX := Lib.hid (HSTR.out x)
        clear hst hgg hcs htake hc hne hown HSTR HSC HSN HT
        generalize hN : t.length + 1 = N at *
        generalize hm : t.length = m at *
        have HN := Lib.hid hN
        have i0 : (0 : Int) ≤ (N : Int) - 1 := by omega
        have i1 : (N : Int) - 1 < (N : Int) := by omega
        have j1 : 1 ≤ N := by omega
        have j2 : (1 : Int) ≤ N := by omega
        have j3 : 0 < N := by omega
        have i2 : ((N : Int) - 1).toNat = m := by omega
        have i3 : IntKind.i64.wrap ((N : Int) - 1) = (N : Int) - 1 := w_i64 _ (by omega) (by omega)
        have i4 : IntKind.i64.wrap ((k : Int) + 1) = (k : Int) + 1 := w_i64 _ (by omega) (by omega)
        have i5 : (k : Int) + 1 ≤ s.size := by omega
        have i6 : (0 : Int) ≤ (k : Int) + 1 := by omega
        have i7 : ((k : Int) + 1).toNat = k + 1 := by omega
        have hsl : ∀ w : World, (Instr.slice 9 (.string s) (some (.int .i64 (k : Int))) (some (.int .i64 ((k : Int) + 1))) none).run Tryz.prog w = .ok (.string (s.extract k (k + 1))) w := fun w => by
          have h := run_slice_string (P := Tryz.prog) (w := w) 9 s .i64 .i64 (k : Int) ((k : Int) + 1) Tryz.underlying9 hk0 (by omega) i5
          rw [Int.toNat_natCast, i7] at h
          exact h
        have hxl := HLS.out x (by simp)
        have hadd : ∀ w : World, (Op.stringOp .add ⟨x.toArray⟩ (s.extract k (k + 1))).run Tryz.prog w = .ok (.string ⟨(x ++ [s[k]]).toArray⟩) w := fun w => by
          rw [run_string_add_sum w _ _ (by rw [ByteArray.size_extract]; show x.length + _ ≤ _; omega), HX.out]
        clear hN hxl htl HLS
        go_wp2_with fail
        go_still_tail 17, (by kernel_rfl)
        change wpList _ _ _ _ _ wr.drew
        go_wp2_with fail
        have hb3 : Below w.heap.size w (wr.setCell ⟨g, m, none⟩ (.string ⟨(x ++ [s[k]]).toArray⟩)) := hb.grown HST.out.2 hbs (fun j hj => by cases hj; exact hgb)
        refine ⟨⟨k + 1, by go_num, by omega, ?_, below_drewN hb3 1⟩, by simp [intOf]; omega⟩
        rw [HLV.out, show (t ++ [x ++ [s[k]]]).length = N by simp [hm]; exact HN.out]
        exact HST.out.1.drew
    · have hkl : ¬ (k : Int) < s.size := by omega
      rw [List.take_of_length_le (by omega)] at hown
      obtain ⟨a, c, rfl, hr, -, -⟩ := ownsRow_row hown
      go_wp2_with fail
      go_ret
      exact ⟨a, c, rfl, hr, hb⟩

theorem rplain_any (s : ByteArray) (w : World) (hs : s.size < 4294967281) :
    Calls Tryz.prog 99 #[.string s] w fun e w' => e = .returned (.bool (plainB s.data.toList)) ∧ w = w' := by
  have hlen : s.data.toList.length = s.size := rfl
  go_enter Tryz.func99, Tryz.ntmps99
  go_wp2_with fail
  go_loop [3] (fun i => ∃ k : Nat, i = .int .i64 k ∧ k ≤ s.size ∧ plainB (s.data.toList.take k) = true) (fun i => (s.size - intOf i).toNat)
  case atStart => exact ⟨0, rfl, Nat.zero_le _, by simp [plainB]⟩
  case round =>
    obtain ⟨k, rfl, hk, hp⟩ := hrel
    have HP := Lib.hid hp
    clear hp
    by_cases hlt : k < s.size
    · have hk0 : (0 : Int) ≤ k := by omega
      have hkl : (k : Int) < s.size := by omega
      have hcb := byte_lt s[k]
      have hw := wildc_nat s[k]
      have HG := Lib.hid (bget s k hlt)
      by_cases h1 : (s[k].toNat : Int) = 43
      · have q1 : ((s[k].toNat : Int) == 43) = true := by simpa using h1
        have HF := Lib.hid (show plainB s.data.toList = false by
          unfold plainB; rw [List.all_eq_false]; exact ⟨s[k], List.mem_of_getElem? HG.out, by rw [hw]; simp [h1]⟩)
        clear h1 hw
        go_wp2_with fail
        go_ret
        exact ⟨ret_bool HF.out.symm, rfl⟩
      · have q1 : ((s[k].toNat : Int) == 43) = false := by simpa using h1
        by_cases h2 : (s[k].toNat : Int) = 35
        · have q2 : ((s[k].toNat : Int) == 35) = true := by simpa using h2
          have HF := Lib.hid (show plainB s.data.toList = false by
            unfold plainB; rw [List.all_eq_false]; exact ⟨s[k], List.mem_of_getElem? HG.out, by rw [hw]; simp [h2]⟩)
          clear h1 hw h2
          go_wp2_with fail
          go_ret
          exact ⟨ret_bool HF.out.symm, rfl⟩
        · have q2 : ((s[k].toNat : Int) == 35) = false := by simpa using h2
          have HF := Lib.hid (show plainB (s.data.toList.take (k + 1)) = true from plain_split (by omega) HP.out fun j hj1 hj2 c hc => by
            obtain rfl : j = k := by omega
            rw [HG.out] at hc
            obtain rfl := Option.some.inj hc
            rw [hw]; simp [h1, h2])
          clear h1 hw h2
          go_wp2_with fail
          go_round
          case rel => exact ⟨k + 1, by go_num, by omega, HF.out⟩
          case measure => simp [intOf]; omega
    · have hkl : ¬ (k : Int) < s.size := by omega
      have HF := Lib.hid (show plainB s.data.toList = true by have := HP.out; rwa [List.take_of_length_le (by omega)] at this)
      go_wp2_with fail
      go_ret
      exact ⟨ret_bool HF.out.symm, rfl⟩

theorem rname_any (s : ByteArray) (w : World) (hs : s.size < 4294967281) :
    Calls Tryz.prog 94 #[.string s] w fun e w' => e = .returned (.bool (nameB s.data.toList)) ∧ Below w.heap.size w w' := by
  by_cases he : s.data.toList = []
  · have h1 : s.size = 0 := by have : s.data.toList.length = s.size := rfl; rw [he] at this; simpa using this.symm
    have h2 : decide ((0 : Int) < s.size) = false := decide_eq_false (by omega)
    have h3 : ¬ 0 < s.size := by omega
    have HF := Lib.hid (show nameB s.data.toList = false by unfold nameB; rw [he]; rfl)
    clear he h1
    go_enter Tryz.func94, Tryz.ntmps94
    go_wp2_with fail
    go_ret
    exact ⟨ret_bool HF.out.symm, Below.refl _ _⟩
  · have h1 : 0 < s.size := by
      have : s.data.toList.length = s.size := rfl
      have := List.length_pos_iff.2 he; omega
    have h2 : (0 : Int) < s.size := by omega
    obtain ⟨v, hv⟩ : ∃ v, validI s.data.toList = v := ⟨_, rfl⟩
    have HF := Lib.hid (show nameB s.data.toList = (v && plainB s.data.toList) by rw [nameB, List.isEmpty_eq_false_iff.2 he, ← hv]; rfl)
    have HV := Lib.hid (rvalid_any s w (by omega))
    rw [hv] at HV
    have HP := Lib.hid (fun w => rplain_any s w hs)
    clear he hv
    cases v with
    | false =>
      go_enter Tryz.func94, Tryz.ntmps94
      go_wp2_with fail
      refine HV.out.mono ?_
      rintro e w1 ⟨rfl, hk⟩
      go_wp2_with fail
      go_ret
      exact ⟨ret_bool HF.out.symm, hk⟩
    | true =>
      go_enter Tryz.func94, Tryz.ntmps94
      go_wp2_with fail
      refine HV.out.mono ?_
      rintro e w1 ⟨rfl, hk⟩
      go_wp2_with fail
      refine (HP.out _).mono ?_
      rintro e w2 ⟨rfl, rfl⟩
      go_wp2_with fail
      go_ret
      exact ⟨ret_bool (by rw [HF.out]; rfl), hk⟩
end
section
open Go Go.RowKit

set_option maxRecDepth 100000 in
set_option maxHeartbeats 2000000 in
theorem rfilter_any (s : ByteArray) (w : World) (hs : s.size < 4294967281) :
    Calls Tryz.prog 65 #[.string s] w fun e w' => e = .returned (.bool (filterB s.data.toList)) ∧ Below w.heap.size w w' := by
  have HLV := Lib.hid (rlevels_any s w hs)
  have HLS := Lib.hid (levels_sum s.data.toList)
  have HLL := Lib.hid (levels_len_le s.data.toList)
  have hsl : s.data.toList.length = s.size := rfl
  obtain ⟨v, hv⟩ : ∃ v, validI s.data.toList = v := ⟨_, rfl⟩
  have HV := Lib.hid (fun w => rvalid_any s w (by omega))
  rw [hv] at HV
  have HF := Lib.hid (show filterB s.data.toList = (!s.data.toList.isEmpty && v && levelsB (levels s.data.toList)) by rw [filterB, ← hv]; rfl)
  rw [hsl] at HLS HLL
  clear hv
  generalize levels s.data.toList = L at *
  have hLL : L.length ≤ s.size + 1 := HLL.out
  go_enter Tryz.func65, Tryz.ntmps65
  go_wp2_with fail
  refine HLV.out.mono ?_
  rintro e w1 ⟨a, c, rfl, hr, hk⟩
  have HR := Lib.hid hr
  have HK := Lib.hid hk
  clear hr hk
  go_wp2_with fail
  go_loopw [4] (fun i wr => ∃ k : Nat, i = .int .i64 k ∧ k ≤ L.length ∧ wr = w1 ∧ levelsB L = levelsB (L.drop k)) (fun i _ => (L.length - intOf i).toNat)
  case atStart => exact ⟨0, rfl, by omega, rfl, by simp⟩
  case round =>
    obtain ⟨k, rfl, hkl, rfl, hD⟩ := hrel
    have HD := Lib.hid hD
    clear hD
    by_cases hlt : k < L.length
    · have hk0 : (0 : Int) ≤ k := by omega
      have hkL : (k : Int) < L.length := by omega
      obtain ⟨b1, o1, rfl, k0⟩ := strs_row HR.out (k := k) (x := L[k]) (by simp [hlt])
      have hxl := HLS.out L[k] (List.getElem_mem hlt)
      have HN := Lib.hid (List.drop_eq_getElem_cons hlt)
      generalize L[k] = x at *
      obtain ⟨b, hbl⟩ : ∃ b, decide ((k : Int) < L.length - 1) = b := ⟨_, rfl⟩
      have HE := Lib.hid (show (L.drop (k + 1)).isEmpty = !b by
        rw [← hbl, Bool.eq_iff_iff]
        simp only [List.isEmpty_iff, List.drop_eq_nil_iff, Bool.not_eq_true', decide_eq_false_iff_not]; omega)
      have HP := Lib.hid (fun w => rplain_any ⟨x.toArray⟩ w (show x.length < _ by omega))
      have e1 := slt x
      have eP : (⟨x.toArray⟩ : ByteArray).data.toList = x := rfl
      rw [eP] at HP
      have HSTEP : Hid (levelsB L = (levelB x (!b) && levelsB (L.drop (k + 1)))) := Lib.hid (by rw [HD.out, HN.out, levelsB, HE.out])
      clear HD HN HE eP
      obtain ⟨p, hp⟩ : ∃ p, plainB x = p := ⟨_, rfl⟩
      rw [hp] at HP
      have goon : levelB x (!b) = true → Hid (levelsB L = levelsB (L.drop (k + 1))) := fun h => Lib.hid (by rw [HSTEP.out, h]; rfl)
      have stop : levelB x (!b) = false → Hid (false = filterB s.data.toList) := fun h => Lib.hid (by rw [HF.out, HSTEP.out, h]; simp)
      cases p with
      | true =>
        have HG := goon (by unfold levelB; rw [hp]; simp)
        clear goon stop hp e1 hbl
        go_wp2_with fail
        refine (HP.out _).mono ?_
        rintro e w3 ⟨rfl, rfl⟩
        go_wp2_with fail
        go_roundw
        case rel => exact ⟨k + 1, by go_num, by omega, trivial, HG.out⟩
        case measure => simp [intOf]; omega
      | false =>
        by_cases h1 : x = [43]
        · have q1 : (⟨x.toArray⟩ : ByteArray).toList = [43] := e1.trans h1
          have HG := goon (by unfold levelB; rw [h1]; rfl)
          clear goon stop hp e1 hbl h1 HSTEP
          generalize (⟨x.toArray⟩ : ByteArray) = X at *
          go_wp2_with fail
          refine (HP.out _).mono ?_
          rintro e w3 ⟨rfl, rfl⟩
          go_wp2_with fail
          go_roundw
          case rel => exact ⟨k + 1, by go_num, by omega, trivial, HG.out⟩
          case measure => simp [intOf]; omega
        · have q1 : ¬ (⟨x.toArray⟩ : ByteArray).toList = [43] := fun h => h1 (e1.symm.trans h)
          have q1b : ((⟨x.toArray⟩ : ByteArray).toList == [43]) = false := by simpa using q1
          by_cases h2 : x = [35]
          · have q2 : (⟨x.toArray⟩ : ByteArray).toList = [35] := e1.trans h2
            cases b with
            | true =>
              have HG := stop (by unfold levelB; rw [h2]; rfl)
              clear goon stop hp e1 h1 h2 HSTEP q1 q1b
              generalize (⟨x.toArray⟩ : ByteArray) = X at *
              go_wp2_with fail
              refine (HP.out _).mono ?_
              rintro e w3 ⟨rfl, rfl⟩
              go_wp2_with fail
              go_ret
              exact ⟨ret_bool HG.out, HK.out⟩
            | false =>
              have HG := goon (by unfold levelB; rw [h2]; rfl)
              clear goon stop hp e1 h1 h2 HSTEP q1 q1b
              generalize (⟨x.toArray⟩ : ByteArray) = X at *
              go_wp2_with fail
              refine (HP.out _).mono ?_
              rintro e w3 ⟨rfl, rfl⟩
              go_wp2_with fail
              go_roundw
              case rel => exact ⟨k + 1, by go_num, by omega, trivial, HG.out⟩
              case measure => simp [intOf]; omega
          · have q2 : ¬ (⟨x.toArray⟩ : ByteArray).toList = [35] := fun h => h2 (e1.symm.trans h)
            have q2b : ((⟨x.toArray⟩ : ByteArray).toList == [35]) = false := by simpa using q2
            have HG := stop (by unfold levelB; rw [hp]; simp [h1, h2])
            clear goon stop hp e1 h1 h2 HSTEP hbl
            generalize (⟨x.toArray⟩ : ByteArray) = X at *
            go_wp2_with fail
            refine (HP.out _).mono ?_
            rintro e w3 ⟨rfl, rfl⟩
            go_wp2_with fail
            go_ret
            exact ⟨ret_bool HG.out, HK.out⟩
    · have hkL : ¬ (k : Int) < L.length := by omega
      have HAL := Lib.hid (show levelsB L = true by rw [HD.out, List.drop_eq_nil_of_le (by omega)]; rfl)
      by_cases he : s.data.toList = []
      · have h1 : s.size = 0 := by rw [he] at hsl; simpa using hsl.symm
        have h2 : decide ((0 : Int) < s.size) = false := decide_eq_false (by omega)
        have h3 : ¬ 0 < s.size := by omega
        have HG := Lib.hid (show filterB s.data.toList = false by rw [HF.out, he]; rfl)
        clear he h1
        go_wp2_with fail
        go_ret
        exact ⟨ret_bool HG.out.symm, HK.out⟩
      · have h1 : 0 < s.size := by have := List.length_pos_iff.2 he; omega
        have h2 : (0 : Int) < s.size := by omega
        have HG := Lib.hid (show filterB s.data.toList = v by rw [HF.out, List.isEmpty_eq_false_iff.2 he, HAL.out]; simp)
        clear he
        go_wp2_with fail
        refine (HV.out _).mono ?_
        rintro e w3 ⟨rfl, hk⟩
        have hb := bnext HK.out (by have := HK.out.size; omega) hk
        go_wp2_with fail
        go_ret
        exact ⟨ret_bool HG.out.symm, hb⟩

theorem rwild_any (s : ByteArray) (w : World) (hs : s.size < 4294967281) :
    Calls Tryz.prog 119 #[.string s] w fun e w' => e = .returned (.bool (wildB s.data.toList)) ∧ Below w.heap.size w w' := by
  obtain ⟨x, t, hx⟩ := List.exists_cons_of_ne_nil (levels_ne s.data.toList)
  have HL := Lib.hid (rlevels_any s w hs)
  have HF := Lib.hid (show wildB s.data.toList = (x == [43] || x == [35]) by unfold wildB; rw [hx]; rfl)
  have HX := Lib.hid hx
  have hlp : 0 < (levels s.data.toList).length := by rw [hx]; simp
  generalize levels s.data.toList = L at *
  have hlp' : (0 : Int) < L.length := by omega
  clear hx
  go_enter Tryz.func119, Tryz.ntmps119
  go_wp2_with fail
  refine HL.out.mono ?_
  rintro e w1 ⟨a, c, rfl, hr, hk⟩
  obtain ⟨b1, o1, rfl, k0⟩ := first_row hr HX.out
  clear hr
  have e1 := slt x
  by_cases h1 : x = [43]
  · have q1 : (⟨x.toArray⟩ : ByteArray).toList = [43] := e1.trans h1
    have HB := Lib.hid (show wildB s.data.toList = true by rw [HF.out, h1]; rfl)
    clear h1 e1 HX
    generalize (⟨x.toArray⟩ : ByteArray) = X at *
    go_wp2_with fail
    go_ret
    exact ⟨ret_bool HB.out.symm, hk⟩
  · have q1 : ¬ (⟨x.toArray⟩ : ByteArray).toList = [43] := fun h => h1 (e1.symm.trans h)
    by_cases h2 : x = [35]
    · have q2 : (⟨x.toArray⟩ : ByteArray).toList = [35] := e1.trans h2
      have HB := Lib.hid (show wildB s.data.toList = true by rw [HF.out, h2]; rfl)
      clear h1 e1 HX h2 q1
      generalize (⟨x.toArray⟩ : ByteArray) = X at *
      go_wp2_with fail
      go_ret
      exact ⟨ret_bool HB.out.symm, hk⟩
    · have q2 : ¬ (⟨x.toArray⟩ : ByteArray).toList = [35] := fun h => h2 (e1.symm.trans h)
      have q1b : ((⟨x.toArray⟩ : ByteArray).toList == [43]) = false := by simpa using q1
      have q2b : ((⟨x.toArray⟩ : ByteArray).toList == [35]) = false := by simpa using q2
      have HB := Lib.hid (show wildB s.data.toList = false by rw [HF.out]; simp [h1, h2])
      clear h1 e1 HX h2
      generalize (⟨x.toArray⟩ : ByteArray) = X at *
      go_wp2_with fail
      go_ret
      exact ⟨ret_bool HB.out.symm, hk⟩
end
section
open Go Go.RowKit

set_option maxRecDepth 100000 in
set_option maxHeartbeats 1000000 in
theorem rcovers_any (s t : ByteArray) (w : World) (hs : s.size < 4294967281) (ht : t.size < 4294967281) :
    Calls Tryz.prog 95 #[.string s, .string t] w fun e w' => e = .returned (.bool (coversB s.data.toList t.data.toList)) ∧ Below w.heap.size w w' := by
  obtain ⟨fa, hfa⟩ : ∃ b, filterB s.data.toList = b := ⟨_, rfl⟩
  obtain ⟨fb, hfb⟩ : ∃ b, filterB t.data.toList = b := ⟨_, rfl⟩
  have HFA := Lib.hid (fun w => rfilter_any s w hs)
  have HFB := Lib.hid (fun w => rfilter_any t w ht)
  rw [hfa] at HFA
  rw [hfb] at HFB
  cases fa with
  | false =>
    have HF := Lib.hid (coversB_no1 (b := t.data.toList) hfa)
    clear hfa hfb
    go_enter Tryz.func95, Tryz.ntmps95
    go_wp2_with fail
    refine (HFA.out _).mono ?_
    rintro e w1 ⟨rfl, hk⟩
    go_wp2_with fail
    go_ret
    exact ⟨ret_bool HF.out.symm, hk⟩
  | true =>
    cases fb with
    | false =>
      have HF := Lib.hid (coversB_no2 (a := s.data.toList) hfb)
      clear hfa hfb
      go_enter Tryz.func95, Tryz.ntmps95
      go_wp2_with fail
      refine (HFA.out _).mono ?_
      rintro e w1 ⟨rfl, hk⟩
      go_wp2_with fail
      refine (HFB.out _).mono ?_
      rintro e w2 ⟨rfl, hk2⟩
      replace hk := bnext hk (Nat.le_refl _) hk2
      go_wp2_with fail
      go_ret
      exact ⟨ret_bool HF.out.symm, hk⟩
    | true =>
      obtain ⟨wl, hwl⟩ : ∃ b, wildB s.data.toList = b := ⟨_, rfl⟩
      have HWL := Lib.hid (fun w => rwild_any s w hs)
      rw [hwl] at HWL
      obtain ⟨c, r, hc⟩ := List.exists_cons_of_ne_nil (filterB_ne hfb)
      have hts : 0 < t.size := by
        have : t.data.toList.length = t.size := rfl
        rw [hc] at this; simp at this; omega
      have hts' : (0 : Int) < t.size := by omega
      have hct : t[0]'hts = c := by
        have := bget t 0 hts
        rw [hc] at this; simpa using this.symm
      obtain ⟨d, hd⟩ : ∃ d, (c == 36) = d := ⟨_, rfl⟩
      have HF : Hid (coversB s.data.toList t.data.toList = (!(wl && d) && coversL (levels s.data.toList) (levels t.data.toList))) := Lib.hid (by
        unfold coversB; rw [hfa, hfb, hwl, ← hd, hc]; rfl)
      have hd' : ((c.toNat : Int) == 36) = d := by
        rw [← hd, Bool.eq_iff_iff]; simp only [beq_iff_eq]
        exact ⟨fun h => UInt8.toNat_inj.1 (by simp; omega), fun h => by subst h; rfl⟩
      have hcl := byte_lt c
      have HLA := Lib.hid (fun w => rlevels_any s w hs)
      have HLB := Lib.hid (fun w => rlevels_any t w ht)
      have HLL := Lib.hid (levels_len_le t.data.toList)
      have hsl : t.data.toList.length = t.size := rfl
      rw [hsl] at HLL
      clear hfa hfb hwl hc hd
      generalize levels s.data.toList = LA at *
      generalize levels t.data.toList = LB at *
      go_enter Tryz.func95, Tryz.ntmps95
      go_wp2_with fail
      refine (HFA.out _).mono ?_
      rintro e w1 ⟨rfl, hk⟩
      go_wp2_with fail
      refine (HFB.out _).mono ?_
      rintro e w2 ⟨rfl, hk2⟩
      replace hk := bnext hk (Nat.le_refl _) hk2
      clear hk2
      go_wp2_with fail
      refine (HWL.out _).mono ?_
      rintro e w3 ⟨rfl, hk2⟩
      replace hk := bnext hk (Nat.le_refl _) hk2
      clear hk2
      have HREST : (wl && d) = false → Hid (coversB s.data.toList t.data.toList = coversL LA LB) := fun hz => Lib.hid (by rw [HF.out, hz]; rfl)
      cases wl with
      | false =>
        have HR := HREST rfl
        clear HREST hd'
        go_wp2_with fail
        refine (HLA.out _).mono ?_
        rintro e w4 ⟨p, c1, rfl, hra, hk2⟩
        replace hk := bnext hk (Nat.le_refl _) hk2
        clear hk2
        have HA := Lib.hid hra
        clear hra
        go_wp2_with fail
        refine (HLB.out _).mono ?_
        rintro e w5 ⟨q, c2, rfl, hrb, hk2⟩
        replace hk := bnext hk (Nat.le_refl _) hk2
        have HA := Lib.hid (HA.out.below hk2 (Nat.le_refl _))
        have HB := Lib.hid hrb
        clear hrb hk2
        go_wp2_with fail
        have hLB : (LB.length : Int) < 4294967296 := by have := HLL.out; omega
        clear HFA HFB HLA HLB HF
        go_loopw [7] (fun i wr => ∃ k : Nat, i = .int .i64 k ∧ k ≤ LA.length ∧ k ≤ LB.length ∧ Row wr p (strs LA) ∧ Row wr q (strs LB) ∧ Below w.heap.size w wr ∧ coversL LA LB = coversL (LA.drop k) (LB.drop k)) (fun i _ => (LA.length - intOf i).toNat)
        case atStart => exact ⟨0, rfl, by omega, by omega, HA.out, HB.out, hk, by simp⟩
        case round =>
          obtain ⟨k, rfl, hkA, hkB, hrA, hrB, hbw, hD⟩ := hrel
          have HRA := Lib.hid hrA
          have HRB := Lib.hid hrB
          have HBW := Lib.hid hbw
          clear hrA hrB hbw HA HB hk
          have HD := Lib.hid hD
          clear hD
          by_cases hlt : k < LA.length
          · have hk0 : (0 : Int) ≤ k := by omega
            have hkL : (k : Int) < LA.length := by omega
            obtain ⟨b1, o1, rfl, k0⟩ := strs_row HRA.out (k := k) (x := LA[k]) (by simp [hlt])
            have HDA := Lib.hid (List.drop_eq_getElem_cons hlt)
            generalize LA[k] = x at *
            have ex := slt x
            by_cases hx : x = [35]
            · have HT := Lib.hid (show coversB s.data.toList t.data.toList = true by rw [HR.out, HD.out, HDA.out]; cases LB.drop k <;> simp [coversL, hx])
              have q1 : (⟨x.toArray⟩ : ByteArray).toList = [35] := ex.trans hx
              clear hx ex HD HDA HR
              generalize (⟨x.toArray⟩ : ByteArray) = X at *
              go_wp2_with fail
              go_ret
              exact ⟨ret_bool HT.out.symm, HBW.out⟩
            · have q1 : ¬ (⟨x.toArray⟩ : ByteArray).toList = [35] := fun h => hx (ex.symm.trans h)
              have q1b : ((⟨x.toArray⟩ : ByteArray).toList == [35]) = false := by simpa using q1
              by_cases hltB : k < LB.length
              · have hkM : (k : Int) < LB.length := by omega
                have hkMd : decide ((LB.length : Int) ≤ k) = false := decide_eq_false (by omega)
                have hkMn : decide (LB.length ≤ k) = false := decide_eq_false (by omega)
                obtain ⟨b2, o2, rfl, j0⟩ := strs_row HRB.out (k := k) (x := LB[k]) (by simp [hltB])
                have HDB := Lib.hid (List.drop_eq_getElem_cons hltB)
                generalize LB[k] = y at *
                have ey := slt y
                have HCC : Hid (coversL LA LB = (y != [35] && (x == [43] || x == y) && coversL (LA.drop (k + 1)) (LB.drop (k + 1)))) := Lib.hid (by
                  rw [HD.out, HDA.out, HDB.out, coversL_cc]; simp [hx])
                clear HD HDA HDB
                by_cases hy : y = [35]
                · have HT := Lib.hid (show coversB s.data.toList t.data.toList = false by rw [HR.out, HCC.out]; simp [hy])
                  have q2 : ((⟨y.toArray⟩ : ByteArray).toList == [35]) = true := by simpa using ey.trans hy
                  clear hx hy ex ey HCC HR
                  generalize (⟨x.toArray⟩ : ByteArray) = X at *
                  generalize (⟨y.toArray⟩ : ByteArray) = Y at *
                  go_wp2_with fail
                  go_quiet (fail)
                  go_wp2_with fail
                  go_ret
                  exact ⟨ret_bool HT.out.symm, below_drewN HBW.out _⟩
                · have q2 : ((⟨y.toArray⟩ : ByteArray).toList == [35]) = false := by simpa using fun h => hy (ey.symm.trans h)
                  by_cases hp : x = [43]
                  · have HT := Lib.hid (show coversL LA LB = coversL (LA.drop (k + 1)) (LB.drop (k + 1)) by rw [HCC.out]; simp [hy, hp])
                    have q3 : ((⟨x.toArray⟩ : ByteArray).toList == [43]) = true := by simpa using ex.trans hp
                    clear hx hy hp ex ey HCC
                    generalize (⟨x.toArray⟩ : ByteArray) = X at *
                    generalize (⟨y.toArray⟩ : ByteArray) = Y at *
                    go_wp2_with fail
                    go_quiet (fail)
                    go_wp2_with fail
                    go_roundw
                    case rel => exact ⟨k + 1, by go_num, by omega, by omega, HRA.out.below (below_drewN (Below.refl _ _) nq) (Nat.le_refl _), HRB.out.below (below_drewN (Below.refl _ _) nq) (Nat.le_refl _), below_drewN HBW.out nq, HT.out⟩
                    case measure => simp [intOf]; omega
                  · have q3 : ((⟨x.toArray⟩ : ByteArray).toList == [43]) = false := by simpa using fun h => hp (ex.symm.trans h)
                    by_cases he : x = y
                    · have HT := Lib.hid (show coversL LA LB = coversL (LA.drop (k + 1)) (LB.drop (k + 1)) by rw [HCC.out]; simp [hy, he])
                      have q4 : ((⟨x.toArray⟩ : ByteArray).toList == (⟨y.toArray⟩ : ByteArray).toList) = true := by rw [he]; simp
                      clear hx hy hp he ex ey HCC
                      generalize (⟨x.toArray⟩ : ByteArray) = X at *
                      generalize (⟨y.toArray⟩ : ByteArray) = Y at *
                      go_wp2_with fail
                      go_quiet (fail)
                      go_wp2_with fail
                      go_roundw
                      case rel => exact ⟨k + 1, by go_num, by omega, by omega, HRA.out.below (below_drewN (Below.refl _ _) nq) (Nat.le_refl _), HRB.out.below (below_drewN (Below.refl _ _) nq) (Nat.le_refl _), below_drewN HBW.out nq, HT.out⟩
                      case measure => simp [intOf]; omega
                    · have HT := Lib.hid (show coversB s.data.toList t.data.toList = false by rw [HR.out, HCC.out]; simp [hp, he])
                      have q4 : ((⟨x.toArray⟩ : ByteArray).toList == (⟨y.toArray⟩ : ByteArray).toList) = false := by rw [ex, ey]; simpa using he
                      clear hx hy hp he ex ey HCC HR
                      generalize (⟨x.toArray⟩ : ByteArray) = X at *
                      generalize (⟨y.toArray⟩ : ByteArray) = Y at *
                      go_wp2_with fail
                      go_quiet (fail)
                      go_wp2_with fail
                      go_ret
                      exact ⟨ret_bool HT.out.symm, below_drewN HBW.out _⟩
              · have hkM : (LB.length : Int) ≤ k := by omega
                have hkMd : decide ((LB.length : Int) ≤ k) = true := decide_eq_true hkM
                have hkMn : decide (LB.length ≤ k) = true := decide_eq_true (by omega)
                have HT := Lib.hid (show coversB s.data.toList t.data.toList = false by
                  rw [HR.out, HD.out, HDA.out, List.drop_eq_nil_of_le (by omega : LB.length ≤ k), coversL_nilr]; simpa using hx)
                clear hx ex HD HDA HR
                generalize (⟨x.toArray⟩ : ByteArray) = X at *
                go_wp2_with fail
                go_quiet (fail)
                go_wp2_with fail
                go_ret
                exact ⟨ret_bool HT.out.symm, below_drewN HBW.out _⟩
          · have hkL : ¬ (k : Int) < LA.length := by omega
            have HT := Lib.hid (show decide (((LA.length : Nat) : Int) = (LB.length : Nat)) = coversB s.data.toList t.data.toList by
              rw [HR.out, HD.out, List.drop_eq_nil_of_le (by omega : LA.length ≤ k), coversL_nil, Bool.eq_iff_iff]
              simp; omega)
            go_wp2_with fail
            go_ret
            exact ⟨ret_bool HT.out, HBW.out⟩
      | true =>
        cases d with
        | true =>
          have HFF := Lib.hid (show coversB s.data.toList t.data.toList = false by rw [HF.out]; rfl)
          clear HREST
          go_wp2_with fail
          go_ret
          exact ⟨ret_bool HFF.out.symm, hk⟩
        | false =>
          have HR := HREST rfl
          clear HREST
          go_wp2_with fail
          refine (HLA.out _).mono ?_
          rintro e w4 ⟨p, c1, rfl, hra, hk2⟩
          replace hk := bnext hk (Nat.le_refl _) hk2
          clear hk2
          have HA := Lib.hid hra
          clear hra
          go_wp2_with fail
          refine (HLB.out _).mono ?_
          rintro e w5 ⟨q, c2, rfl, hrb, hk2⟩
          replace hk := bnext hk (Nat.le_refl _) hk2
          have HA := Lib.hid (HA.out.below hk2 (Nat.le_refl _))
          have HB := Lib.hid hrb
          clear hrb hk2
          go_wp2_with fail
          have hLB : (LB.length : Int) < 4294967296 := by have := HLL.out; omega
          clear HFA HFB HLA HLB HF
          go_loopw [7] (fun i wr => ∃ k : Nat, i = .int .i64 k ∧ k ≤ LA.length ∧ k ≤ LB.length ∧ Row wr p (strs LA) ∧ Row wr q (strs LB) ∧ Below w.heap.size w wr ∧ coversL LA LB = coversL (LA.drop k) (LB.drop k)) (fun i _ => (LA.length - intOf i).toNat)
          case atStart => exact ⟨0, rfl, by omega, by omega, HA.out, HB.out, hk, by simp⟩
          case round =>
            obtain ⟨k, rfl, hkA, hkB, hrA, hrB, hbw, hD⟩ := hrel
            have HRA := Lib.hid hrA
            have HRB := Lib.hid hrB
            have HBW := Lib.hid hbw
            clear hrA hrB hbw HA HB hk
            have HD := Lib.hid hD
            clear hD
            by_cases hlt : k < LA.length
            · have hk0 : (0 : Int) ≤ k := by omega
              have hkL : (k : Int) < LA.length := by omega
              obtain ⟨b1, o1, rfl, k0⟩ := strs_row HRA.out (k := k) (x := LA[k]) (by simp [hlt])
              have HDA := Lib.hid (List.drop_eq_getElem_cons hlt)
              generalize LA[k] = x at *
              have ex := slt x
              by_cases hx : x = [35]
              · have HT := Lib.hid (show coversB s.data.toList t.data.toList = true by rw [HR.out, HD.out, HDA.out]; cases LB.drop k <;> simp [coversL, hx])
                have q1 : (⟨x.toArray⟩ : ByteArray).toList = [35] := ex.trans hx
                clear hx ex HD HDA HR
                generalize (⟨x.toArray⟩ : ByteArray) = X at *
                go_wp2_with fail
                go_ret
                exact ⟨ret_bool HT.out.symm, HBW.out⟩
              · have q1 : ¬ (⟨x.toArray⟩ : ByteArray).toList = [35] := fun h => hx (ex.symm.trans h)
                have q1b : ((⟨x.toArray⟩ : ByteArray).toList == [35]) = false := by simpa using q1
                by_cases hltB : k < LB.length
                · have hkM : (k : Int) < LB.length := by omega
                  have hkMd : decide ((LB.length : Int) ≤ k) = false := decide_eq_false (by omega)
                  have hkMn : decide (LB.length ≤ k) = false := decide_eq_false (by omega)
                  obtain ⟨b2, o2, rfl, j0⟩ := strs_row HRB.out (k := k) (x := LB[k]) (by simp [hltB])
                  have HDB := Lib.hid (List.drop_eq_getElem_cons hltB)
                  generalize LB[k] = y at *
                  have ey := slt y
                  have HCC : Hid (coversL LA LB = (y != [35] && (x == [43] || x == y) && coversL (LA.drop (k + 1)) (LB.drop (k + 1)))) := Lib.hid (by
                    rw [HD.out, HDA.out, HDB.out, coversL_cc]; simp [hx])
                  clear HD HDA HDB
                  by_cases hy : y = [35]
                  · have HT := Lib.hid (show coversB s.data.toList t.data.toList = false by rw [HR.out, HCC.out]; simp [hy])
                    have q2 : ((⟨y.toArray⟩ : ByteArray).toList == [35]) = true := by simpa using ey.trans hy
                    clear hx hy ex ey HCC HR
                    generalize (⟨x.toArray⟩ : ByteArray) = X at *
                    generalize (⟨y.toArray⟩ : ByteArray) = Y at *
                    go_wp2_with fail
                    go_quiet (fail)
                    go_wp2_with fail
                    go_ret
                    exact ⟨ret_bool HT.out.symm, below_drewN HBW.out _⟩
                  · have q2 : ((⟨y.toArray⟩ : ByteArray).toList == [35]) = false := by simpa using fun h => hy (ey.symm.trans h)
                    by_cases hp : x = [43]
                    · have HT := Lib.hid (show coversL LA LB = coversL (LA.drop (k + 1)) (LB.drop (k + 1)) by rw [HCC.out]; simp [hy, hp])
                      have q3 : ((⟨x.toArray⟩ : ByteArray).toList == [43]) = true := by simpa using ex.trans hp
                      clear hx hy hp ex ey HCC
                      generalize (⟨x.toArray⟩ : ByteArray) = X at *
                      generalize (⟨y.toArray⟩ : ByteArray) = Y at *
                      go_wp2_with fail
                      go_quiet (fail)
                      go_wp2_with fail
                      go_roundw
                      case rel => exact ⟨k + 1, by go_num, by omega, by omega, HRA.out.below (below_drewN (Below.refl _ _) nq) (Nat.le_refl _), HRB.out.below (below_drewN (Below.refl _ _) nq) (Nat.le_refl _), below_drewN HBW.out nq, HT.out⟩
                      case measure => simp [intOf]; omega
                    · have q3 : ((⟨x.toArray⟩ : ByteArray).toList == [43]) = false := by simpa using fun h => hp (ex.symm.trans h)
                      by_cases he : x = y
                      · have HT := Lib.hid (show coversL LA LB = coversL (LA.drop (k + 1)) (LB.drop (k + 1)) by rw [HCC.out]; simp [hy, he])
                        have q4 : ((⟨x.toArray⟩ : ByteArray).toList == (⟨y.toArray⟩ : ByteArray).toList) = true := by rw [he]; simp
                        clear hx hy hp he ex ey HCC
                        generalize (⟨x.toArray⟩ : ByteArray) = X at *
                        generalize (⟨y.toArray⟩ : ByteArray) = Y at *
                        go_wp2_with fail
                        go_quiet (fail)
                        go_wp2_with fail
                        go_roundw
                        case rel => exact ⟨k + 1, by go_num, by omega, by omega, HRA.out.below (below_drewN (Below.refl _ _) nq) (Nat.le_refl _), HRB.out.below (below_drewN (Below.refl _ _) nq) (Nat.le_refl _), below_drewN HBW.out nq, HT.out⟩
                        case measure => simp [intOf]; omega
                      · have HT := Lib.hid (show coversB s.data.toList t.data.toList = false by rw [HR.out, HCC.out]; simp [hp, he])
                        have q4 : ((⟨x.toArray⟩ : ByteArray).toList == (⟨y.toArray⟩ : ByteArray).toList) = false := by rw [ex, ey]; simpa using he
                        clear hx hy hp he ex ey HCC HR
                        generalize (⟨x.toArray⟩ : ByteArray) = X at *
                        generalize (⟨y.toArray⟩ : ByteArray) = Y at *
                        go_wp2_with fail
                        go_quiet (fail)
                        go_wp2_with fail
                        go_ret
                        exact ⟨ret_bool HT.out.symm, below_drewN HBW.out _⟩
                · have hkM : (LB.length : Int) ≤ k := by omega
                  have hkMd : decide ((LB.length : Int) ≤ k) = true := decide_eq_true hkM
                  have hkMn : decide (LB.length ≤ k) = true := decide_eq_true (by omega)
                  have HT := Lib.hid (show coversB s.data.toList t.data.toList = false by
                    rw [HR.out, HD.out, HDA.out, List.drop_eq_nil_of_le (by omega : LB.length ≤ k), coversL_nilr]; simpa using hx)
                  clear hx ex HD HDA HR
                  generalize (⟨x.toArray⟩ : ByteArray) = X at *
                  go_wp2_with fail
                  go_quiet (fail)
                  go_wp2_with fail
                  go_ret
                  exact ⟨ret_bool HT.out.symm, below_drewN HBW.out _⟩
            · have hkL : ¬ (k : Int) < LA.length := by omega
              have HT := Lib.hid (show decide (((LA.length : Nat) : Int) = (LB.length : Nat)) = coversB s.data.toList t.data.toList by
                rw [HR.out, HD.out, List.drop_eq_nil_of_le (by omega : LA.length ≤ k), coversL_nil, Bool.eq_iff_iff]
                simp; omega)
              go_wp2_with fail
              go_ret
              exact ⟨ret_bool HT.out, HBW.out⟩

theorem rmatch_any (s t : ByteArray) (w : World) (hs : s.size < 4294967281) (ht : t.size < 4294967281) :
    Calls Tryz.prog 60 #[.string s, .string t] w fun e w' => e = .returned (.bool (matchB s.data.toList t.data.toList)) ∧ Below w.heap.size w w' := by
  obtain ⟨n, hn⟩ : ∃ b, nameB t.data.toList = b := ⟨_, rfl⟩
  have HN := Lib.hid (rname_any t w ht)
  rw [hn] at HN
  have HF := Lib.hid (show matchB s.data.toList t.data.toList = (n && coversB s.data.toList t.data.toList) by unfold matchB; rw [hn])
  have HC := Lib.hid (fun w => rcovers_any s t w hs ht)
  clear hn
  cases n with
  | false =>
    go_enter Tryz.func60, Tryz.ntmps60
    go_wp2_with fail
    refine HN.out.mono ?_
    rintro e w1 ⟨rfl, hk⟩
    go_wp2_with fail
    go_ret
    exact ⟨ret_bool HF.out.symm, hk⟩
  | true =>
    go_enter Tryz.func60, Tryz.ntmps60
    go_wp2_with fail
    refine HN.out.mono ?_
    rintro e w1 ⟨rfl, hk⟩
    go_wp2_with fail
    refine (HC.out _).mono ?_
    rintro e w2 ⟨rfl, hk2⟩
    replace hk := bnext hk (Nat.le_refl _) hk2
    go_wp2_with fail
    go_ret
    exact ⟨ret_bool (by rw [HF.out]; rfl), hk⟩
end
end Go.Proofs.YthfdcphecggjeaaGreatDoor
