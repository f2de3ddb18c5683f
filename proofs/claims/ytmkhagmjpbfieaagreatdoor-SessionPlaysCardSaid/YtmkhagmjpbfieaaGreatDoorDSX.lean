/- The document's topics: levels, plain bytes. The document's topics: filters. The document's list of filters (relayhouseref15): how it lies in memory; Has, Drop, Best walked. The document's list of filters: Drop, Best walked. The document's list of filters: Set walked. (Printed by gen_dset.py.) -/
import Derived.Test.YtmkhagmjpbfieaaGreatDoorKTopX
import Derived.Test.YtmkhagmjpbfieaaGreatDoorKRefX
import Derived.StillTailTactics
import Derived.Laws.OwnMore
import Derived.Test.YtmkhagmjpbfieaaGreatDoorSubY
import Derived.Sort.Walk0
namespace Go.Proofs.YtmkhagmjpbfieaaGreatDoor
section
open Go Go.RowKit

theorem T_str : ElemT Tryz.prog 58 9 (.string ⟨#[]⟩) 1 16 := ⟨Tryz.underlying58, by kernel_rfl, rfl, by decide⟩
theorem strs_append (l m : List (List UInt8)) : strs l ++ strs m = strs (l ++ m) := by simp [strs]
theorem strs_set (t : List (List UInt8)) (x y : List UInt8) : (strs (t ++ [x])).set t.length (.string ⟨y.toArray⟩) = strs (t ++ [y]) := by
  simp only [strs, List.map_append, List.map_cons, List.map_nil]
  rw [List.set_append_right _ _ (by simp)]
  simp
theorem strs_last (t : List (List UInt8)) (x : List UInt8) : (strs (t ++ [x]))[t.length]? = some (.string ⟨x.toArray⟩) := by simp [strs]
theorem str_snoc (s : ByteArray) (x : List UInt8) (k : Nat) (h : k < s.size) : (⟨x.toArray⟩ : ByteArray) ++ s.extract k (k + 1) = ⟨(x ++ [s[k]]).toArray⟩ := by
  apply ByteArray.ext
  apply Array.ext'
  have e : (s.data.toList.drop k).take 1 = [s[k]] := by rw [drop_cons_get s k h]; rfl
  simp only [ByteArray.data_append, ByteArray.data_extract, Array.toList_append, Array.toList_extract, List.extract_eq_take_drop, Nat.add_sub_cancel_left]
  rw [e]

def Tells (l : List (List UInt8)) (w : World) (e : Ending) (w' : World) : Prop := ∃ a c, e = .returned (.slice a l.length c) ∧ Row w' a (strs l) ∧ Below w.heap.size w w'
set_option maxRecDepth 100000 in
set_option maxHeartbeats 1000000 in
theorem rlevels_any (s : ByteArray) (w : World) (hs : s.size < 4294967281) :
    Calls Tryz.prog 100 #[.string s] w (Tells (levels s.data.toList) w) := by
  have hlen : s.data.toList.length = s.size := rfl
  have hne : (⟨#[]⟩ : ByteArray) = ⟨([] : List UInt8).toArray⟩ := rfl
  go_enter Tryz.func100, Tryz.ntmps100
  go_wp2_with fail
  have hown0 : (w.alloc (.cells #[.string ⟨#[]⟩] 9)).ownsRow w.heap.size 9 1 (.slice (some ⟨w.heap.size, 0, none⟩) 1 1) 1 (strs [[]]) :=
    ⟨rfl, .inr ⟨w.heap.size, 1, _, rfl, Nat.le_refl _, heap_alloc_new w _, Nat.le_refl _, by unfold maxLen; omega, rfl, rfl⟩⟩
  have HO := Lib.hid hown0
  have HB0 := Lib.hid ((Below.refl w.heap.size w).alloc (Nat.le_refl _) (.cells #[.string ⟨#[]⟩] 9))
  clear hown0 hne
  go_loopw [3, 4] (fun v i wr => ∃ k : Nat, i = .int .i64 k ∧ k ≤ s.size ∧ wr.ownsRow w.heap.size 9 1 v (levels (s.data.toList.take k)).length (strs (levels (s.data.toList.take k))) ∧ Below w.heap.size w wr) (fun _ i _ => (s.size - intOf i).toNat)
  case atStart => exact ⟨0, by go_num, Nat.zero_le _, HO.out, HB0.out⟩
  case round =>
    clear HO HB0
    obtain ⟨k, rfl, hk, hown, hb⟩ := hrel
    have hbs := hb.size
    by_cases hlt : k < s.size
    · have hk0 : (0 : Int) ≤ k := by omega
      have hkl : (k : Int) < s.size := by omega
      have hll := levels_len_le (s.data.toList.take k)
      have htl : (s.data.toList.take k).length ≤ s.size := by rw [List.length_take]; omega
      have HT := Lib.hid (show s.data.toList.take (k + 1) = s.data.toList.take k ++ [s[k]] by rw [List.take_add_one, bget s k hlt]; rfl)
      have HSN := Lib.hid (levels_snoc_sep (s.data.toList.take k))
      have HSC := Lib.hid (fun (hc : s[k] ≠ 47) => levels_snoc hc (s.data.toList.take k))
      have hne := levels_ne (s.data.toList.take k)
      have HSTR := Lib.hid (fun x => str_snoc s x k hlt)
      have hcb := byte_lt s[k]
      have hL : (levels (s.data.toList.take k)).length ≤ s.size + 1 := by omega
      have HLS := Lib.hid (levels_sum (s.data.toList.take k))
      generalize levels (s.data.toList.take k) = L at *
      clear hll
      by_cases hc : s[k] = 47
      · have hcq : ((s[k].toNat : Int) == 47) = true := by rw [hc]; rfl
        have HLV := Lib.hid (show levels (s.data.toList.take (k + 1)) = L ++ [[]] by rw [HT.out, hc, HSN.out])
        clear hc hne
        go_wp2_with (first
          | (at_builtin; refine wpList_app T_str hown hb hbs rfl rfl rfl rfl (by rfl) (by simp [Value.oneCell']) (by omega) (by omega) ?_; intro v' w3 hown' hbel3 hsz3 hlt3; go_frame)
          | fail)
        refine ⟨⟨k + 1, by go_num, by omega, by rw [HLV.out, ← strs_append, List.length_append]; exact hown', hbel3⟩, by simp [intOf]; omega⟩
      · have hcq : ((s[k].toNat : Int) == 47) = false := by
          rw [beq_eq_false_iff_ne]; intro h; exact hc (UInt8.toNat_inj.1 (by simp; omega))
        obtain ⟨t, x, rfl⟩ : ∃ t x, L = t ++ [x] := ⟨L.dropLast, L.getLast hne, (List.dropLast_concat_getLast hne).symm⟩
        have HLV := Lib.hid (show levels (s.data.toList.take (k + 1)) = t ++ [x ++ [s[k]]] by rw [HT.out, HSC.out hc t x rfl])
        have HL2 := Lib.hid (show (t ++ [x]).length = t.length + 1 by simp)
        rw [HL2.out] at hown hL
        rcases hown.2 with ⟨-, hz⟩ | ⟨g, cap, cur, rfl, hgb, hgg, hnc, hcm, hcs, htake⟩
        · omega
        have c0 := hown.cellAt t.length (by omega)
        rw [strs_last] at c0
        have f0 := hown.frozenAt t.length
        have hst := hown.stored t.length (.string ⟨(x ++ [s[k]]).toArray⟩)
        rw [strs_set] at hst
        have HST := Lib.hid hst
        have HX := Lib.hid (HSTR.out x)
        clear hst hgg hcs htake hc hne hown HSTR HSC HSN HT
        generalize hN : t.length + 1 = N at *
        generalize hm : t.length = m at *
        have HN := Lib.hid hN
        have i0 : (0 : Int) ≤ (N : Int) - 1 := by omega
        have i1 : (N : Int) - 1 < (N : Int) := by omega
        have j1 : 1 ≤ N := by omega
        have j2 : (1 : Int) ≤ N := by omega
        have j3 : 0 < N := by omega
        have i2 : ((N : Int) - 1).toNat = m := by omega
        have i3 : IntKind.i64.wrap ((N : Int) - 1) = (N : Int) - 1 := w_i64 _ (by omega) (by omega)
        have i4 : IntKind.i64.wrap ((k : Int) + 1) = (k : Int) + 1 := w_i64 _ (by omega) (by omega)
        have i5 : (k : Int) + 1 ≤ s.size := by omega
        have i6 : (0 : Int) ≤ (k : Int) + 1 := by omega
        have i7 : ((k : Int) + 1).toNat = k + 1 := by omega
        have hsl : ∀ w : World, (Instr.slice 9 (.string s) (some (.int .i64 (k : Int))) (some (.int .i64 ((k : Int) + 1))) none).run Tryz.prog w = .ok (.string (s.extract k (k + 1))) w := fun w => by
          have h := run_slice_string (P := Tryz.prog) (w := w) 9 s .i64 .i64 (k : Int) ((k : Int) + 1) Tryz.underlying9 hk0 (by omega) i5
          rw [Int.toNat_natCast, i7] at h
          exact h
        have hxl := HLS.out x (by simp)
        have hadd : ∀ w : World, (Op.stringOp .add ⟨x.toArray⟩ (s.extract k (k + 1))).run Tryz.prog w = .ok (.string ⟨(x ++ [s[k]]).toArray⟩) w := fun w => by
          rw [run_string_add_sum w _ _ (by rw [ByteArray.size_extract]; show x.length + _ ≤ _; omega), HX.out]
        clear hN hxl htl HLS
        go_wp2_with fail
        go_still_tail 17, (by kernel_rfl)
        change wpList _ _ _ _ _ wr.drew
        go_wp2_with fail
        have hb3 : Below w.heap.size w (wr.setCell ⟨g, m, none⟩ (.string ⟨(x ++ [s[k]]).toArray⟩)) := hb.grown HST.out.2 hbs (fun j hj => by cases hj; exact hgb)
        refine ⟨⟨k + 1, by go_num, by omega, ?_, below_drewN hb3 1⟩, by simp [intOf]; omega⟩
        rw [HLV.out, show (t ++ [x ++ [s[k]]]).length = N by simp [hm]; exact HN.out]
        exact HST.out.1.drew
    · have hkl : ¬ (k : Int) < s.size := by omega
      rw [List.take_of_length_le (by omega)] at hown
      obtain ⟨a, c, rfl, hr, -, -⟩ := ownsRow_row hown
      go_wp2_with fail
      go_ret
      exact ⟨a, c, rfl, hr, hb⟩

theorem rplain_any (s : ByteArray) (w : World) (hs : s.size < 4294967281) :
    Calls Tryz.prog 101 #[.string s] w fun e w' => e = .returned (.bool (plainB s.data.toList)) ∧ w = w' := by
  have hlen : s.data.toList.length = s.size := rfl
  go_enter Tryz.func101, Tryz.ntmps101
  go_wp2_with fail
  go_loop [3] (fun i => ∃ k : Nat, i = .int .i64 k ∧ k ≤ s.size ∧ plainB (s.data.toList.take k) = true) (fun i => (s.size - intOf i).toNat)
  case atStart => exact ⟨0, rfl, Nat.zero_le _, by simp [plainB]⟩
  case round =>
    obtain ⟨k, rfl, hk, hp⟩ := hrel
    have HP := Lib.hid hp
    clear hp
    by_cases hlt : k < s.size
    · have hk0 : (0 : Int) ≤ k := by omega
      have hkl : (k : Int) < s.size := by omega
      have hcb := byte_lt s[k]
      have hw := wildc_nat s[k]
      have HG := Lib.hid (bget s k hlt)
      by_cases h1 : (s[k].toNat : Int) = 43
      · have q1 : ((s[k].toNat : Int) == 43) = true := by simpa using h1
        have HF := Lib.hid (show plainB s.data.toList = false by
          unfold plainB; rw [List.all_eq_false]; exact ⟨s[k], List.mem_of_getElem? HG.out, by rw [hw]; simp [h1]⟩)
        clear h1 hw
        go_wp2_with fail
        go_ret
        exact ⟨ret_bool HF.out.symm, rfl⟩
      · have q1 : ((s[k].toNat : Int) == 43) = false := by simpa using h1
        by_cases h2 : (s[k].toNat : Int) = 35
        · have q2 : ((s[k].toNat : Int) == 35) = true := by simpa using h2
          have HF := Lib.hid (show plainB s.data.toList = false by
            unfold plainB; rw [List.all_eq_false]; exact ⟨s[k], List.mem_of_getElem? HG.out, by rw [hw]; simp [h2]⟩)
          clear h1 hw h2
          go_wp2_with fail
          go_ret
          exact ⟨ret_bool HF.out.symm, rfl⟩
        · have q2 : ((s[k].toNat : Int) == 35) = false := by simpa using h2
          have HF := Lib.hid (show plainB (s.data.toList.take (k + 1)) = true from plain_split (by omega) HP.out fun j hj1 hj2 c hc => by
            obtain rfl : j = k := by omega
            rw [HG.out] at hc
            obtain rfl := Option.some.inj hc
            rw [hw]; simp [h1, h2])
          clear h1 hw h2
          go_wp2_with fail
          go_round
          case rel => exact ⟨k + 1, by go_num, by omega, HF.out⟩
          case measure => simp [intOf]; omega
    · have hkl : ¬ (k : Int) < s.size := by omega
      have HF := Lib.hid (show plainB s.data.toList = true by have := HP.out; rwa [List.take_of_length_le (by omega)] at this)
      go_wp2_with fail
      go_ret
      exact ⟨ret_bool HF.out.symm, rfl⟩
end
section
open Go Go.RowKit

set_option maxRecDepth 100000 in
set_option maxHeartbeats 2000000 in
theorem rfilter_any (s : ByteArray) (w : World) (hs : s.size < 4294967281) :
    Calls Tryz.prog 72 #[.string s] w fun e w' => e = .returned (.bool (filterB s.data.toList)) ∧ Below w.heap.size w w' := by
  have HLV := Lib.hid (rlevels_any s w hs)
  have HLS := Lib.hid (levels_sum s.data.toList)
  have HLL := Lib.hid (levels_len_le s.data.toList)
  have hsl : s.data.toList.length = s.size := rfl
  obtain ⟨v, hv⟩ : ∃ v, validI s.data.toList = v := ⟨_, rfl⟩
  have HV := Lib.hid (fun w => rvalid_any s w (by omega))
  rw [hv] at HV
  have HF := Lib.hid (show filterB s.data.toList = (!s.data.toList.isEmpty && v && levelsB (levels s.data.toList)) by rw [filterB, ← hv]; rfl)
  rw [hsl] at HLS HLL
  clear hv
  generalize levels s.data.toList = L at *
  have hLL : L.length ≤ s.size + 1 := HLL.out
  go_enter Tryz.func72, Tryz.ntmps72
  go_wp2_with fail
  refine HLV.out.mono ?_
  rintro e w1 ⟨a, c, rfl, hr, hk⟩
  have HR := Lib.hid hr
  have HK := Lib.hid hk
  clear hr hk
  go_wp2_with fail
  go_loopw [4] (fun i wr => ∃ k : Nat, i = .int .i64 k ∧ k ≤ L.length ∧ wr = w1 ∧ levelsB L = levelsB (L.drop k)) (fun i _ => (L.length - intOf i).toNat)
  case atStart => exact ⟨0, rfl, by omega, rfl, by simp⟩
  case round =>
    obtain ⟨k, rfl, hkl, rfl, hD⟩ := hrel
    have HD := Lib.hid hD
    clear hD
    by_cases hlt : k < L.length
    · have hk0 : (0 : Int) ≤ k := by omega
      have hkL : (k : Int) < L.length := by omega
      obtain ⟨b1, o1, rfl, k0⟩ := strs_row HR.out (k := k) (x := L[k]) (by simp [hlt])
      have hxl := HLS.out L[k] (List.getElem_mem hlt)
      have HN := Lib.hid (List.drop_eq_getElem_cons hlt)
      generalize L[k] = x at *
      obtain ⟨b, hbl⟩ : ∃ b, decide ((k : Int) < L.length - 1) = b := ⟨_, rfl⟩
      have HE := Lib.hid (show (L.drop (k + 1)).isEmpty = !b by
        rw [← hbl, Bool.eq_iff_iff]
        simp only [List.isEmpty_iff, List.drop_eq_nil_iff, Bool.not_eq_true', decide_eq_false_iff_not]; omega)
      have HP := Lib.hid (fun w => rplain_any ⟨x.toArray⟩ w (show x.length < _ by omega))
      have e1 := slt x
      have eP : (⟨x.toArray⟩ : ByteArray).data.toList = x := rfl
      rw [eP] at HP
      have HSTEP : Hid (levelsB L = (levelB x (!b) && levelsB (L.drop (k + 1)))) := Lib.hid (by rw [HD.out, HN.out, levelsB, HE.out])
      clear HD HN HE eP
      obtain ⟨p, hp⟩ : ∃ p, plainB x = p := ⟨_, rfl⟩
      rw [hp] at HP
      have goon : levelB x (!b) = true → Hid (levelsB L = levelsB (L.drop (k + 1))) := fun h => Lib.hid (by rw [HSTEP.out, h]; rfl)
      have stop : levelB x (!b) = false → Hid (false = filterB s.data.toList) := fun h => Lib.hid (by rw [HF.out, HSTEP.out, h]; simp)
      cases p with
      | true =>
        have HG := goon (by unfold levelB; rw [hp]; simp)
        clear goon stop hp e1 hbl
        go_wp2_with fail
        refine (HP.out _).mono ?_
        rintro e w3 ⟨rfl, rfl⟩
        go_wp2_with fail
        go_roundw
        case rel => exact ⟨k + 1, by go_num, by omega, trivial, HG.out⟩
        case measure => simp [intOf]; omega
      | false =>
        by_cases h1 : x = [43]
        · have q1 : (⟨x.toArray⟩ : ByteArray).toList = [43] := e1.trans h1
          have HG := goon (by unfold levelB; rw [h1]; rfl)
          clear goon stop hp e1 hbl h1 HSTEP
          generalize (⟨x.toArray⟩ : ByteArray) = X at *
          go_wp2_with fail
          refine (HP.out _).mono ?_
          rintro e w3 ⟨rfl, rfl⟩
          go_wp2_with fail
          go_roundw
          case rel => exact ⟨k + 1, by go_num, by omega, trivial, HG.out⟩
          case measure => simp [intOf]; omega
        · have q1 : ¬ (⟨x.toArray⟩ : ByteArray).toList = [43] := fun h => h1 (e1.symm.trans h)
          have q1b : ((⟨x.toArray⟩ : ByteArray).toList == [43]) = false := by simpa using q1
          by_cases h2 : x = [35]
          · have q2 : (⟨x.toArray⟩ : ByteArray).toList = [35] := e1.trans h2
            cases b with
            | true =>
              have HG := stop (by unfold levelB; rw [h2]; rfl)
              clear goon stop hp e1 h1 h2 HSTEP q1 q1b
              generalize (⟨x.toArray⟩ : ByteArray) = X at *
              go_wp2_with fail
              refine (HP.out _).mono ?_
              rintro e w3 ⟨rfl, rfl⟩
              go_wp2_with fail
              go_ret
              exact ⟨ret_bool HG.out, HK.out⟩
            | false =>
              have HG := goon (by unfold levelB; rw [h2]; rfl)
              clear goon stop hp e1 h1 h2 HSTEP q1 q1b
              generalize (⟨x.toArray⟩ : ByteArray) = X at *
              go_wp2_with fail
              refine (HP.out _).mono ?_
              rintro e w3 ⟨rfl, rfl⟩
              go_wp2_with fail
              go_roundw
              case rel => exact ⟨k + 1, by go_num, by omega, trivial, HG.out⟩
              case measure => simp [intOf]; omega
          · have q2 : ¬ (⟨x.toArray⟩ : ByteArray).toList = [35] := fun h => h2 (e1.symm.trans h)
            have q2b : ((⟨x.toArray⟩ : ByteArray).toList == [35]) = false := by simpa using q2
            have HG := stop (by unfold levelB; rw [hp]; simp [h1, h2])
            clear goon stop hp e1 h1 h2 HSTEP hbl
            generalize (⟨x.toArray⟩ : ByteArray) = X at *
            go_wp2_with fail
            refine (HP.out _).mono ?_
            rintro e w3 ⟨rfl, rfl⟩
            go_wp2_with fail
            go_ret
            exact ⟨ret_bool HG.out, HK.out⟩
    · have hkL : ¬ (k : Int) < L.length := by omega
      have HAL := Lib.hid (show levelsB L = true by rw [HD.out, List.drop_eq_nil_of_le (by omega)]; rfl)
      by_cases he : s.data.toList = []
      · have h1 : s.size = 0 := by rw [he] at hsl; simpa using hsl.symm
        have h2 : decide ((0 : Int) < s.size) = false := decide_eq_false (by omega)
        have h3 : ¬ 0 < s.size := by omega
        have HG := Lib.hid (show filterB s.data.toList = false by rw [HF.out, he]; rfl)
        clear he h1
        go_wp2_with fail
        go_ret
        exact ⟨ret_bool HG.out.symm, HK.out⟩
      · have h1 : 0 < s.size := by have := List.length_pos_iff.2 he; omega
        have h2 : (0 : Int) < s.size := by omega
        have HG := Lib.hid (show filterB s.data.toList = v by rw [HF.out, List.isEmpty_eq_false_iff.2 he, HAL.out]; simp)
        clear he
        go_wp2_with fail
        refine (HV.out _).mono ?_
        rintro e w3 ⟨rfl, hk⟩
        have hb := bnext HK.out (by have := HK.out.size; omega) hk
        go_wp2_with fail
        go_ret
        exact ⟨ret_bool HG.out.symm, hb⟩
end
section
open Go Go.RowKit

def DRep (w : World) (b : Nat) (l : List SubE) (F : List Nat) : Prop :=
  ∃ a c G, w.heap[b]? = some (.cells #[.slice a l.length c] 78 (0, 0)) ∧ SRow w a l G ∧ l.length ≤ c ∧ c ≤ maxLen ∧ b ∉ G ∧ SUp l ∧ l.length ≤ 16 ∧ F = b :: G
theorem DRep.up {w : World} {b : Nat} {l : List SubE} {F : List Nat} (h : DRep w b l F) : SUp l := by obtain ⟨_, _, _, -, -, -, -, -, h, -⟩ := h; exact h
theorem DRep.len {w : World} {b : Nat} {l : List SubE} {F : List Nat} (h : DRep w b l F) : l.length ≤ 16 := by obtain ⟨_, _, _, -, -, -, -, -, -, h, -⟩ := h; exact h
theorem drep_local : Local DRep where
  lt := by
    rintro w b s F ⟨a, c, G, hb, hr, -, -, -, -, -, rfl⟩ k hk
    rcases List.mem_cons.1 hk with rfl | hk
    · exact (Array.getElem?_eq_some_iff.1 hb).1
    · exact hr.lt k hk
  keep := by
    rintro w w' b s F ⟨a, c, G, hb, hr, h1, h2, h3, h4, h5, rfl⟩ hk
    exact ⟨a, c, G, (hk b (by simp)).trans hb, hr.keep fun k hk' => hk k (by simp [hk']), h1, h2, h3, h4, h5, rfl⟩
theorem DRep.lt {w : World} {b : Nat} {l : List SubE} {F : List Nat} (h : DRep w b l F) : ∀ k ∈ F, k < w.heap.size := drep_local.lt h
theorem DRep.mod {S : List Nat} {w w' : World} {b : Nat} {l : List SubE} {F : List Nat} (h : DRep w b l F) (hm : Mod S w w') (hS : ∀ k ∈ F, k ∉ S) : DRep w' b l F := drep_local.keep h fun k hk => hm.block k (h.lt k hk) (hS k hk)
theorem DRep.below {w w' : World} {b : Nat} {l : List SubE} {F : List Nat} (h : DRep w b l F) (hk : Below w.heap.size w w') : DRep w' b l F := h.mod (Mod.of_below hk []) (by simp)
theorem DRep.store {w X : World} {b : Nat} {l l' : List SubE} {F G' : List Nat} {a' : Option Addr} {c' : Nat} (h : DRep w b l F) (hX : Below w.heap.size w X) (hr : SRow X a' l' G') (hG : ∀ k ∈ G', w.heap.size ≤ k)
    (hc : l'.length ≤ c') (hcm : c' ≤ maxLen) (hU : SUp l') (h16 : l'.length ≤ 16) (n : Nat) (hn : n = l'.length) :
    X.frozen? ⟨b, 0, none⟩ = false ∧ DRep (X.setCell ⟨b, 0, none⟩ (.slice a' n c')) b l' (b :: G') ∧ Upd F (b :: G') w (X.setCell ⟨b, 0, none⟩ (.slice a' n c')) := by
  subst hn
  obtain ⟨a, c, G, hb, -, -, -, hbG, -, -, rfl⟩ := h
  have hbl := (Array.getElem?_eq_some_iff.1 hb).1
  have hb1 := (hX.block b hbl).trans hb
  have hne : ∀ k ∈ G', k ≠ b := fun k hk => by have := hG k hk; omega
  refine ⟨frozen_of_row X b 0 _ _ hb1, ⟨a', c', G', heap_setCell_same X b 0 _ _ _ hb1, hr.keep (fun k hk => Below.heap_setCell _ _ _ _ (hne k hk)), hc, hcm, fun hin => hne b hin rfl, hU, h16, rfl⟩, (Mod.of_below hX _).setCell (.inl (by simp)) _, fun k hk => ?_⟩
  rcases List.mem_cons.1 hk with rfl | hk
  · exact .inl (by simp)
  · exact .inr (hG k hk)
/-- what is read of it, in each later world -/
theorem DRep.held {w : World} {b : Nat} {l : List SubE} {F : List Nat} (h : DRep w b l F) : ∃ a c, l.length ≤ c ∧ ∀ X : World, Below w.heap.size w X → X.cell? ⟨b, 0, none⟩ = some (.slice a l.length c) ∧ Row X a (subsV l) := by
  obtain ⟨a, c, G, hb, hr, hc, -⟩ := h
  exact ⟨a, c, hc, fun X hX => ⟨cell_of_row X b 0 _ _ _ ((hX.block b (Array.getElem?_eq_some_iff.1 hb).1).trans hb), hr.row.below hX (Nat.le_refl _)⟩⟩
theorem hasE_drop {f : List UInt8} {l : List SubE} {k : Nat} (hk : k < l.length) : hasE f (l.drop k) = (l[k].1 == f || hasE f (l.drop (k + 1))) := by
  rw [List.drop_eq_getElem_cons hk]; rfl
set_option maxRecDepth 100000 in
set_option maxHeartbeats 2000000 in
theorem dhas_any (b : Nat) (l : List SubE) (F : List Nat) (f : List UInt8) (w : World) (h : DRep w b l F) :
    Calls Tryz.prog 73 #[.pointer (some ⟨b, 0, none⟩), .string ⟨f.toArray⟩] w fun e w' => e = .returned (.bool (hasE f l)) ∧ w = w' := by
  have h16 := h.len
  obtain ⟨a, c, -, hH⟩ := h.held
  obtain ⟨cc, hrw⟩ := hH w (Below.refl _ _)
  have HR := Lib.hid hrw
  obtain ⟨bb, hbb⟩ : ∃ z, hasE f l = z := ⟨_, rfl⟩
  rw [hbb]
  have HBB := Lib.hid hbb
  clear h hH hrw hbb
  go_enter Tryz.func73, Tryz.ntmps73
  go_wp2_with fail
  go_loopw [5] (fun i wr => ∃ k : Nat, i = .int .i64 k ∧ k ≤ l.length ∧ wr = w ∧ hasE f (l.drop k) = bb) (fun i _ => (l.length - intOf i).toNat)
  case atStart => exact ⟨0, rfl, by omega, rfl, by simpa using HBB.out⟩
  case round =>
    obtain ⟨k, rfl, hk, rfl, htk⟩ := hrel
    have HTK := Lib.hid htk
    clear htk
    by_cases hlt : k < l.length
    · obtain ⟨b1, o1, rfl, d0, -⟩ := subs_row HR.out hlt
      have hk0 : (0 : Int) ≤ k := by omega
      have hkl : (k : Int) < l.length := by omega
      have HD := Lib.hid (hasE_drop (f := f) hlt)
      rw [HTK.out] at HD
      generalize l[k].1 = yf at *
      by_cases he : yf = f
      · have hq : (yf == f) = true := by simpa using he
        have HF : Hid (true = bb) := Lib.hid (by rw [HD.out, hq]; rfl)
        clear he
        go_wp2_with fail
        go_ret
        exact ⟨ret_bool HF.out, rfl⟩
      · have hq : (yf == f) = false := by simpa using he
        have HF : Hid (hasE f (l.drop (k + 1)) = bb) := Lib.hid (by rw [HD.out, hq]; rfl)
        clear he
        go_wp2_with fail
        go_roundw
        case rel => exact ⟨k + 1, by go_num, by omega, trivial, HF.out⟩
        case measure => simp [intOf]; omega
    · have hkl : ¬ (k : Int) < l.length := by omega
      have HF : Hid (false = bb) := Lib.hid (by rw [← HTK.out, List.drop_eq_nil_of_le (by omega)]; rfl)
      go_wp2_with fail
      go_ret
      exact ⟨ret_bool HF.out, rfl⟩
end
section
open Go Go.RowKit

theorem delE_snoc (f : List UInt8) (l : List SubE) (y : SubE) : delE f (l ++ [y]) = delE f l ++ (if y.1 = f then [] else [y]) := by
  unfold delE
  rw [List.filter_append]
  by_cases h : y.1 = f
  · rw [if_pos h, List.filter_cons_of_neg (by simpa using h)]; rfl
  · rw [if_neg h, List.filter_cons_of_pos (by simpa using h)]; rfl
set_option maxRecDepth 100000 in
set_option maxHeartbeats 2000000 in
theorem ddrop_any (b : Nat) (l : List SubE) (F : List Nat) (f : List UInt8) (w : World) (h : DRep w b l F) :
    Calls Tryz.prog 38 #[.pointer (some ⟨b, 0, none⟩), .string ⟨f.toArray⟩] w fun e w' => e = .returned (.bool (hasE f l)) ∧ ∃ F', DRep w' b (delE f l) F' ∧ Upd F F' w w' := by
  have h16 := h.len
  obtain ⟨a, c, -, hH⟩ := h.held
  have HH := Lib.hid hH
  have HC := Lib.hid (dhas_any b l F f w h)
  obtain ⟨bb, hbb⟩ : ∃ z, hasE f l = z := ⟨_, rfl⟩
  rw [hbb] at HC ⊢
  have HR := Lib.hid h
  clear h hH hbb
  go_enter Tryz.func38, Tryz.ntmps38
  go_wp2_with fail
  refine HC.out.mono ?_
  rintro e w1 ⟨rfl, rfl⟩
  go_wp2_with fail
  go_loopw [6, 7] (fun v i wr => ∃ k : Nat, i = .int .i64 k ∧ k ≤ l.length ∧ wr.ownsRow w.heap.size 39 2 v (delE f (l.take k)).length (subsV (delE f (l.take k))) ∧ Below w.heap.size w wr) (fun _ i _ => (l.length - intOf i).toNat)
  case atStart => exact ⟨0, rfl, by omega, by simpa [delE, subsV] using World.ownsRow_nil _ _ _ _, Below.refl _ _⟩
  case round =>
    obtain ⟨k, rfl, hk, hown, hb⟩ := hrel
    obtain ⟨cc, hrw⟩ := HH.out wr hb
    by_cases hlt : k < l.length
    · obtain ⟨b1, o1, rfl, d0, d1⟩ := subs_row hrw hlt
      have hk0 : (0 : Int) ≤ k := by omega
      have hkl : (k : Int) < l.length := by omega
      have HS := Lib.hid (delE_snoc f (l.take k) l[k])
      rw [← List.take_succ_eq_append_getElem hlt] at HS
      have HL : Hid ((delE f (l.take k)).length ≤ 16) := Lib.hid (Nat.le_trans (len_delE _ _) (by rw [List.length_take]; omega))
      generalize l[k] = y at *
      obtain ⟨yf, yq⟩ := y
      dsimp only at d0 d1 HS
      generalize delE f (l.take k) = V at *
      by_cases he : yf = f
      · have hq : (yf == f) = true := by simpa using he
        rw [if_pos he, List.append_nil] at HS
        clear he hrw
        go_wp2_with fail
        go_roundw
        case rel => exact ⟨k + 1, by go_num, by omega, by rw [HS.out]; exact hown, hb⟩
        case measure => simp [intOf]; omega
      · have hq : (yf == f) = false := by simpa using he
        rw [if_neg he] at HS
        have hvl := HL.out
        have hbs := hb.size
        clear he hrw
        go_wp2_with (first
          | (at_builtin; refine wpList_app (m := 1) T_sub hown hb hbs rfl rfl rfl rfl (by rfl) (by simp [Value.oneCell']) (by omega) (by omega) ?_; intro v' w8 hown' hbel3 hsz3 hlt3; have HOW := Lib.hid hown'; have HBL := Lib.hid hbel3; clear hown hown' hbel3 hsz3 hlt3 hb hbs; go_frame)
          | fail)
        go_roundw
        case rel => exact ⟨k + 1, by go_num, by omega, by rw [HS.out, List.length_append, subsV_append]; exact HOW.out, HBL.out⟩
        case measure => simp [intOf]; omega
    · have hkl : ¬ (k : Int) < l.length := by omega
      rw [List.take_of_length_le (by omega)] at hown
      obtain ⟨av, cv, rfl, h1, h2, h3⟩ := SRow.of_owns hown
      obtain ⟨hfz, hd, hu⟩ := HR.out.store hb h3 (fun k hk => (hown.lt k (by simpa using hk)).1) h1 h2 (sup_del HR.out.up) (by have := len_delE f l; omega) _ rfl
      have HD := Lib.hid (And.intro hd hu)
      clear hd hu h3 hown hrw
      go_wp2_with fail
      go_ret
      exact ⟨rfl, _, HD.out.1, HD.out.2⟩
end
section
open Go Go.RowKit

theorem ownsRow_lowD {w w' : World} {B : Nat} {e : TypeId} {size n : Nat} {v : Value} {xs : List Value} (h : w.ownsRow B e size v n xs) (hb : Below w.heap.size w w') : w'.ownsRow B e size v n xs :=
  ownsRow_local h fun k hk => hb.block k (h.lt k hk).2
theorem len_del_lt {f : List UInt8} {l : List SubE} (h : hasE f l = true) : (delE f l).length < l.length := by
  unfold hasE at h
  obtain ⟨y, hy, e⟩ := List.any_eq_true.1 h
  unfold delE
  exact List.length_filter_lt_length_iff_exists.2 ⟨y, hy, by simpa using e⟩
set_option maxRecDepth 100000 in
set_option maxHeartbeats 8000000 in
theorem dset_any (b : Nat) (l : List SubE) (F : List Nat) (f : List UInt8) (q : Int) (w : World) (h : DRep w b l F) (hf : f.length < 4294967281) (hq0 : 0 ≤ q) (hq1 : q < 256) :
    Calls Tryz.prog 36 #[.pointer (some ⟨b, 0, none⟩), .string ⟨f.toArray⟩, .int .u8 q] w fun e w' => e = .returned (.int .u8 (setC f q l)) ∧ ∃ F', DRep w' b (setE f q l) F' ∧ Upd F F' w w' := by
  have h16 := h.len
  have HD0 := Lib.hid h
  have HNO : Hid (setOk f q l = false → ∀ X, Below w.heap.size w X → 128 = setC f q l ∧ ∃ F', DRep X b (setE f q l) F' ∧ Upd F F' w X) := Lib.hid (fun e X hX => by
    unfold setC setE
    rw [e]
    exact ⟨rfl, F, h.below hX, upd_below hX⟩)
  have HOK : Hid (setOk f q l = (decide (q ≤ 2) && (filterB f && (hasE f l || !decide (l.length = 16))))) := Lib.hid rfl
  obtain ⟨bf, hbf⟩ : ∃ z, filterB f = z := ⟨_, rfl⟩
  obtain ⟨bh, hbh⟩ : ∃ z, hasE f l = z := ⟨_, rfl⟩
  rw [hbf, hbh] at HOK
  have HFIL := Lib.hid (show Calls Tryz.prog 72 #[.string ⟨f.toArray⟩] w fun e w' => e = .returned (.bool bf) ∧ Below w.heap.size w w' by rw [← hbf]; exact rfilter_any ⟨f.toArray⟩ w (by show f.toArray.size < _; simpa using hf))
  have HHAS := Lib.hid (fun X (hX : Below w.heap.size w X) => (show Calls Tryz.prog 73 #[.pointer (some ⟨b, 0, none⟩), .string ⟨f.toArray⟩] X fun e w' => e = .returned (.bool bh) ∧ X = w' by rw [← hbh]; exact dhas_any b l F f X (h.below hX)))
  have HDEL := Lib.hid (fun X (hX : Below w.heap.size w X) => ddrop_any b l F f X (h.below hX))
  obtain ⟨a0, c0, -, hH0⟩ := h.held
  have HH0 := Lib.hid hH0
  have HBH := Lib.hid hbh
  clear hbf hbh h hH0
  by_cases hq2 : 2 < q
  · have HN := Lib.hid (HNO.out (by rw [HOK.out]; simp; omega))
    go_enter Tryz.func36, Tryz.ntmps36
    go_wp2_with fail
    go_ret
    obtain ⟨e1, e2⟩ := HN.out w (Below.refl _ _)
    exact ⟨ret_int e1, e2⟩
  have hq2d : decide (q ≤ 2) = true := by simp; omega
  rw [hq2d] at HOK
  cases bf with
  | false =>
    have HN := Lib.hid (HNO.out (by rw [HOK.out]; rfl))
    clear hq2d
    go_enter Tryz.func36, Tryz.ntmps36
    go_wp2_with fail
    refine HFIL.out.mono ?_
    rintro e w1 ⟨rfl, hk1⟩
    obtain ⟨e1, e2⟩ := HN.out w1 hk1
    have HE := Lib.hid (And.intro e1 e2)
    clear e1 e2 hk1
    go_wp2_with fail
    go_ret
    exact ⟨ret_int HE.out.1, HE.out.2⟩
  | true =>
  by_cases hno : bh = false ∧ l.length = 16
  · obtain ⟨rfl, hl⟩ := hno
    have HN := Lib.hid (HNO.out (by rw [HOK.out, hl]; rfl))
    have hlI : (l.length : Int) = 16 := by omega
    clear hq2d hl
    go_enter Tryz.func36, Tryz.ntmps36
    go_wp2_with fail
    refine HFIL.out.mono ?_
    rintro e w1 ⟨rfl, hk1⟩
    obtain ⟨e1, e2⟩ := HN.out w1 hk1
    have HE := Lib.hid (And.intro e1 e2)
    obtain ⟨cc, -⟩ := HH0.out w1 hk1
    have HK1 := Lib.hid hk1
    clear e1 e2 hk1
    go_wp2_with fail
    refine (HHAS.out w1 HK1.out).mono ?_
    rintro e w2 ⟨rfl, rfl⟩
    go_wp2_with fail
    go_ret
    exact ⟨ret_int HE.out.1, HE.out.2⟩
  have hok : setOk f q l = true := by
    rw [HOK.out]
    cases bh with
    | true => rfl
    | false =>
      have : l.length ≠ 16 := fun e => hno ⟨rfl, e⟩
      simp [this]
  have HE1 := Lib.hid (show setC f q l = q by unfold setC; rw [hok]; rfl)
  have HE2 := Lib.hid (show setE f q l = putE (f, q) l by unfold setE; rw [hok]; rfl)
  have HLEN : Hid ((setE f q l).length ≤ 16) := Lib.hid (by
    rw [HE2.out, ← put_del_E (x := (f, q)) HD0.out.up]
    refine Nat.le_trans (len_putE _ _) ?_
    show (delE f l).length + 1 ≤ 16
    cases bh with
    | true => have := len_del_lt HBH.out; omega
    | false =>
      have h1 : l.length ≠ 16 := fun e => hno ⟨rfl, e⟩
      have := len_delE f l
      omega)
  have HLL : Hid (bh = false → ¬ (16 : Int) ≤ l.length) := Lib.hid (fun e => by
    have : l.length ≠ 16 := fun e2 => hno ⟨e, e2⟩
    omega)
  clear hok hno hq2d HOK HNO
  cases bh <;>
  · first | (have hlI := HLL.out rfl) | skip
    clear HLL
    go_enter Tryz.func36, Tryz.ntmps36
    go_wp2_with fail
    refine HFIL.out.mono ?_
    rintro e w1 ⟨rfl, hk1⟩
    obtain ⟨cc, -⟩ := HH0.out w1 hk1
    have HK1 := Lib.hid hk1
    clear hk1
    go_wp2_with fail
    refine (HHAS.out w1 HK1.out).mono ?_
    rintro e w2 ⟨rfl, rfl⟩
    go_wp2_with fail
    refine (HDEL.out w1 HK1.out).mono ?_
    rintro e w2 ⟨rfl, F2, hd2, hu2⟩
    have HD2 := Lib.hid hd2
    have HU2 := Lib.hid (upd_pre HK1.out hu2)
    obtain ⟨av, cp, hcp, hH⟩ := hd2.held
    have HH := Lib.hid hH
    have HP0 := Lib.hid (put_del_E (x := (f, q)) HD0.out.up)
    have hl2 : (delE f l).length ≤ 16 := hd2.len
    have HND : Hid (∀ (k : Nat) (hl : k < (delE f l).length), (delE f l)[k].1 ≠ f) := Lib.hid (fun k hl e => by
      have := (List.mem_filter.1 (List.getElem_mem hl)).2
      simp at this
      exact this e)
    clear hd2 hu2 hH cc
    obtain ⟨l2, hl2e⟩ : ∃ l2, delE f l = l2 := ⟨_, rfl⟩
    rw [show delE (f, q).1 l = l2 from hl2e] at HP0
    rw [hl2e] at HD2 HND hl2 hcp HH
    clear hl2e
    go_wp2_with fail
    go_loopw [7] (fun i wr => ∃ k : Nat, i = .int .i64 k ∧ k ≤ l2.length ∧ Below w2.heap.size w2 wr ∧ ∀ y ∈ l2.take k, y.1 < f) (fun i _ => (l2.length - intOf i).toNat)
    case atStart => exact ⟨0, rfl, by omega, Below.refl _ _, by simp⟩
    case round =>
      obtain ⟨k, rfl, hk, hbb, htk⟩ := hrel
      have HTK := Lib.hid htk
      clear htk
      obtain ⟨cc, hrwb⟩ := HH.out wr hbb
      by_cases hgo : ∃ hlt : k < l2.length, l2[k].1 < f
      · obtain ⟨hlt, hlf⟩ := hgo
        obtain ⟨b1, o1, rfl, d0, -⟩ := subs_row hrwb hlt
        have hk0 : (0 : Int) ≤ k := by omega
        have hkl : (k : Int) < l2.length := by omega
        have HST : Hid (∀ y ∈ l2.take (k + 1), y.1 < f) := Lib.hid (fun y hy => by
          rw [List.take_succ_eq_append_getElem hlt] at hy
          rcases List.mem_append.1 hy with hy | hy
          · exact HTK.out y hy
          · rw [List.mem_singleton.1 hy]; exact hlf)
        have hq : Op.bytesLess l2[k].1 f = true := by rw [bytesLess_eq]; exact decide_eq_true hlf
        generalize l2[k].1 = yf at *
        have HB := Lib.hid hbb
        clear hlf hrwb hbb
        go_wp2_with fail
        go_roundw
        case rel => exact ⟨k + 1, by go_num, by omega, HB.out, HST.out⟩
        case measure => simp [intOf]; omega
      · have HPUT : Hid (putE (f, q) l = l2.take k ++ ([(f, q)] ++ l2.drop k)) := Lib.hid (by
          rw [← HP0.out]
          exact putE_new hk HTK.out (fun hl => ⟨fun e => hgo ⟨hl, e⟩, HND.out k hl⟩))
        have hkI : (k : Int) ≤ l2.length := by omega
        obtain ⟨wb, hwb⟩ : ∃ wb, wr = wb := ⟨_, rfl⟩
        subst hwb
        by_cases hlt : k < l2.length
        · have hkl : (k : Int) < l2.length := by omega
          have hk0 : (0 : Int) ≤ k := by omega
          have hnl : ¬ l2[k].1 < f := fun e => hgo ⟨hlt, e⟩
          obtain ⟨b1, o1, hav, d0, -⟩ := subs_row hrwb hlt
          have hq : Op.bytesLess l2[k].1 f = false := by rw [bytesLess_eq]; exact decide_eq_false hnl
          generalize l2[k].1 = yf at *
          clear hgo hnl
          obtain ⟨av2, hav2⟩ : ∃ a, av = a := ⟨_, rfl⟩
          rw [hav] at cc
          go_wp2_with fail
          rw [← hav]
          rw [← hav] at cc
          clear hav hav2
          generalize wr = wb at *
          obtain ⟨⟨a1, hs1, hr1⟩, a2, hs2, hr2⟩ := slice_run Tryz.underlying35 (sz := 2) (by kernel_rfl) av l2.length cp k hk hcp
          have HR1 := Lib.hid (hr1 wb _ hrwb)
          have HR2 := Lib.hid (hr2 wb _ hrwb (subsV_length l2))
          have HS : Hid (∀ X : World, Below wb.heap.size wb X → X.cell? ⟨b, 0, none⟩ = some (.slice av l2.length cp)) := Lib.hid (fun X hX => (HH.out X (bnext hbb (Nat.le_refl _) hX)).1)
          have HFIN : Hid (∀ (X : World) (v : Value) (n : Nat), Below wb.heap.size wb X → X.ownsRow wb.heap.size 39 2 v n ((subsV l2).take (k * 2) ++ [.string ⟨f.toArray⟩, .int .u8 q] ++ (subsV l2).drop (k * 2)) → X.frozen? ⟨b, 0, none⟩ = false ∧ Hid (∃ F', DRep (X.setCell ⟨b, 0, none⟩ v) b (setE f q l) F' ∧ Upd F F' w (X.setCell ⟨b, 0, none⟩ v))) := Lib.hid (fun X v n hX ho => by
            have e : (subsV l2).take (k * 2) ++ [.string ⟨f.toArray⟩, .int .u8 q] ++ (subsV l2).drop (k * 2) = subsV (setE f q l) := by
              rw [HE2.out, HPUT.out, show [Value.string ⟨f.toArray⟩, Value.int .u8 q] = subsV [(f, q)] from rfl, subsV_take, subsV_drop, ← subsV_append, ← subsV_append, List.append_assoc]
            rw [e] at ho
            obtain ⟨a', c', rfl, h1, h2, h3⟩ := SRow.of_owns ho
            have hn : n = (setE f q l).length := by have := ho.1; rw [subsV_length] at this; omega
            obtain ⟨q1, q2, q3⟩ := (HD2.out.below hbb).store hX h3 (fun k hk => (ho.lt k (by simpa using hk)).1) h1 h2 (by rw [HE2.out]; exact sup_put HD0.out.up) HLEN.out _ rfl
            exact ⟨q1, Lib.hid ⟨_, q2, upd_trans HU2.out (upd_pre hbb q3)⟩⟩)
          have HL1 := Lib.hid (show ((subsV l2).take (k * 2)).length = k * 2 by rw [List.length_take, subsV_length]; omega)
          have HL2 := Lib.hid (show ((subsV l2).drop (k * 2)).length = (l2.length - k) * 2 by rw [List.length_drop, subsV_length]; omega)
          have HO1 := Lib.hid (fun u (hu : u ∈ (subsV l2).take (k * 2)) => subsV_one l2 u (List.mem_of_mem_take hu))
          have HO2 := Lib.hid (fun u (hu : u ∈ (subsV l2).drop (k * 2)) => subsV_one l2 u (List.mem_of_mem_drop hu))
          have HOL := Lib.hid (show ∀ u ∈ [Value.string ⟨f.toArray⟩, Value.int .u8 q], u.oneCell' = true by simp [Value.oneCell'])
          clear hr1 hr2
          refine wp_region_tail (S := fun X => X.cell? ⟨b, 0, none⟩ = some (.slice av l2.length cp)) 23 (by kernel_rfl) (HS.out _ ((Below.refl _ _).drew)) (fun hHeld => ?_)
          refine ttk 0 (v := ?_) ?_ hHeld ?_; rotate_left; · (intro w0 hS0; (try dsimp only at hS0); go_simp; try with_reducible rfl)
          simp only [tks]
          refine ttk 2 (v := ?_) ?_ hHeld ?_; rotate_left; · (intro w0 hS0; (try dsimp only at hS0); go_simp; try with_reducible rfl)
          simp only [tks]
          refine ttk 3 (v := ?_) ?_ hHeld ?_; rotate_left; · (intro w0 hS0; (try dsimp only at hS0); go_simp; try with_reducible rfl)
          simp only [tks]
          refine ttk 4 (v := ?_) ?_ hHeld ?_; rotate_left; · (intro w0 hS0; (try dsimp only at hS0); go_simp; try with_reducible rfl)
          simp only [tks]
          refine ttk 5 (v := ?_) ?_ hHeld ?_; rotate_left; · (intro w0 hS0; (try dsimp only at hS0); go_simp; try with_reducible rfl)
          simp only [tks]
          refine ttk 6 (v := ?_) ?_ hHeld ?_; rotate_left; · (intro w0 hS0; (try dsimp only at hS0); go_simp; try with_reducible rfl)
          simp only [tks]
          refine ttk 7 (v := ?_) ?_ hHeld ?_; rotate_left; · (intro w0 hS0; (try dsimp only at hS0); go_simp; try with_reducible rfl)
          simp only [tks]
          refine ttk 9 (v := ?_) ?_ hHeld ?_; rotate_left; · (intro w0 hS0; (try dsimp only at hS0); go_simp; try with_reducible rfl)
          simp only [tks]
          refine ttk 10 (v := ?_) ?_ hHeld ?_; rotate_left; · (intro w0 hS0; (try dsimp only at hS0); go_simp; try with_reducible rfl)
          simp only [tks]
          refine ttk 11 (v := ?_) ?_ hHeld ?_; rotate_left; · (intro w0 hS0; (try dsimp only at hS0); go_simp; try with_reducible rfl)
          simp only [tks]
          refine ttk 14 (v := ?_) ?_ hHeld ?_; rotate_left; · (intro w0 hS0; (try dsimp only at hS0); go_simp; try with_reducible rfl)
          simp only [tks]
          refine ttk 15 (v := ?_) ?_ hHeld ?_; rotate_left; · (intro w0 hS0; (try dsimp only at hS0); go_simp; try with_reducible rfl)
          simp only [tks]
          refine ttk 16 (v := ?_) ?_ hHeld ?_; rotate_left; · (intro w0 hS0; (try dsimp only at hS0); go_simp; try with_reducible rfl)
          simp only [tks]
          refine ttk 17 (v := ?_) ?_ hHeld ?_; rotate_left; · (intro w0 hS0; (try dsimp only at hS0); go_simp; try with_reducible rfl)
          simp only [tks]
          refine ttk 18 (v := ?_) ?_ hHeld ?_; rotate_left; · (intro w0 hS0; (try dsimp only at hS0); go_simp; try with_reducible rfl)
          simp only [tks]
          refine ttk 19 (v := ?_) ?_ hHeld ?_; rotate_left; · (intro w0 hS0; (try dsimp only at hS0); go_simp; try with_reducible rfl)
          simp only [tks]
          have hb0 : Below wb.heap.size wb wb.drew := (Below.refl _ _).drew
          refine wpTail.ready (rs := [1, 12]) (by kernel_rfl) (by simp) ?_
          refine AllTail.cons rfl (fun K hK => ?_) (AllTail.cons rfl (fun K hK => ?_) AllTail.nil)
          · rw [if_pos (by rfl)]
            go_simp
            have hb1 := hb0.alloc (hb0.size) (.cells #[] 39)
            have ho1 := own_empty wb.drew 39 wb.heap.size 2 (Nat.le_refl _)
            refine hK.out _ _ (fun _ => HS.out _ hb1) (fun hHeld => ?_)
            replace hHeld := hHeld (by decide)
            refine wpTail.ready (rs := [8, 12]) (by kernel_rfl) (by simp) ?_
            refine AllTail.cons rfl (fun K hK => ?_) (AllTail.cons rfl (fun K hK => ?_) AllTail.nil)
            · refine step_spread' (m := k) T_sub ho1 hb1 (Nat.le_refl _) (HR1.out.below hb1 (Nat.le_refl _)) rfl rfl rfl rfl HL1.out HO1.out ?_ ?_ ?_
              · omega
              · omega
              intro v2 w2 hown2 hb2 hg2
              try simp only [Nat.zero_add, List.nil_append] at hown2
              obtain ⟨av2, cv2, rfl, -, hln2, hcn2⟩ := ownsRow_row hown2
              refine hK.out _ _ (fun _ => HS.out _ hb2) (fun hHeld => ?_)
              replace hHeld := hHeld (by decide)
              refine wpTail.ready (rs := [12]) (by kernel_rfl) (by simp) ?_
              refine AllTail.cons rfl (fun K hK => ?_) AllTail.nil
              rw [if_pos (by rfl)]
              go_simp
              have hbl := hb2.alloc (hb2.size) (.cells #[.string ⟨f.toArray⟩, .int .u8 q] 39)
              have hlit := row_new w2 [.string ⟨f.toArray⟩, .int .u8 q] 39
              refine hK.out _ _ (fun _ => HS.out _ hbl) (fun hHeld => ?_)
              replace hHeld := hHeld (by decide)
              refine wpTail.ready (rs := [13]) (by kernel_rfl) (by simp) ?_
              refine AllTail.cons rfl (fun K hK => ?_) AllTail.nil
              refine step_spread' (m := 1) T_sub (ownsRow_lowD hown2 (low_alloc _ _)) hbl (Nat.le_refl _) hlit rfl rfl rfl rfl rfl HOL.out ?_ ?_ ?_
              · omega
              · omega
              intro v3 w3 hown3 hb3 hg3
              try simp only [Nat.zero_add, List.nil_append] at hown3
              obtain ⟨av3, cv3, rfl, -, hln3, hcn3⟩ := ownsRow_row hown3
              refine hK.out _ _ (fun _ => HS.out _ hb3) (fun hHeld => ?_)
              replace hHeld := hHeld (by decide)
              refine wpTail.ready (rs := [20]) (by kernel_rfl) (by simp) ?_
              refine AllTail.cons rfl (fun K hK => ?_) AllTail.nil
              refine step_spread' (m := (l2.length - k)) T_sub hown3 hb3 (Nat.le_refl _) (HR2.out.below hb3 (Nat.le_refl _)) rfl rfl rfl rfl HL2.out HO2.out ?_ ?_ ?_
              · omega
              · omega
              intro v4 w4 hown4 hb4 hg4
              try simp only [Nat.zero_add, List.nil_append] at hown4
              obtain ⟨av4, cv4, rfl, -, hln4, hcn4⟩ := ownsRow_row hown4
              refine hK.out _ _ (fun _ => HS.out _ hb4) (fun hHeld => ?_)
              replace hHeld := hHeld (by decide)
              refine ttk 21 (v := ?_) ?_ hHeld ?_; rotate_left; · (intro w0 hS0; (try dsimp only at hS0); go_simp; try with_reducible rfl)
              simp only [tks]
              refine ttk 22 (v := ?_) ?_ hHeld ?_; rotate_left; · (intro w0 hS0; (try dsimp only at hS0); go_simp; try with_reducible rfl)
              simp only [tks]
              have x0 := HS.out _ hb4
              obtain ⟨x1, hfin⟩ := HFIN.out _ _ _ hb4 hown4
              refine wpTail.ready (rs := [23]) (by kernel_rfl) (by simp) ?_
              refine AllTail.cons rfl (fun K hK => ?_) AllTail.nil
              rw [if_pos (by rfl)]
              go_simp
              refine hK.out _ _ (fun h => absurd rfl h) (fun _ => ?_)
              refine wpTail.done (by kernel_rfl) ?_ _
              go_wp2_with fail
              go_ret
              exact ⟨ret_int HE1.out.symm, hfin.out⟩
            · rw [if_pos (by rfl)]
              go_simp
              have hbl := hb1.alloc (hb1.size) (.cells #[.string ⟨f.toArray⟩, .int .u8 q] 39)
              have hlit := row_new (wb.drew.alloc (.cells #[] 39)) [.string ⟨f.toArray⟩, .int .u8 q] 39
              rw [show (wb.drew.alloc (.cells #[] 39)).heap.size = wb.heap.size + 1 by simp] at hlit
              refine hK.out _ _ (fun _ => HS.out _ hbl) (fun hHeld => ?_)
              replace hHeld := hHeld (by decide)
              refine wpTail.ready (rs := [8]) (by kernel_rfl) (by simp) ?_
              refine AllTail.cons rfl (fun K hK => ?_) AllTail.nil
              refine step_spread' (m := k) T_sub (ownsRow_lowD ho1 (low_alloc _ _)) hbl (Nat.le_refl _) (HR1.out.below hbl (Nat.le_refl _)) rfl rfl rfl rfl HL1.out HO1.out ?_ ?_ ?_
              · omega
              · omega
              intro v2 w2 hown2 hb2 hg2
              try simp only [Nat.zero_add, List.nil_append] at hown2
              obtain ⟨av2, cv2, rfl, -, hln2, hcn2⟩ := ownsRow_row hown2
              have hlit2 := row_grown hlit hg2 (fun b o e h => by cases e; simp [Value.ownBlock] at h)
              refine hK.out _ _ (fun _ => HS.out _ hb2) (fun hHeld => ?_)
              replace hHeld := hHeld (by decide)
              refine wpTail.ready (rs := [13]) (by kernel_rfl) (by simp) ?_
              refine AllTail.cons rfl (fun K hK => ?_) AllTail.nil
              refine step_spread' (m := 1) T_sub hown2 hb2 (Nat.le_refl _) hlit2 rfl rfl rfl rfl rfl HOL.out ?_ ?_ ?_
              · omega
              · omega
              intro v3 w3 hown3 hb3 hg3
              try simp only [Nat.zero_add, List.nil_append] at hown3
              obtain ⟨av3, cv3, rfl, -, hln3, hcn3⟩ := ownsRow_row hown3
              refine hK.out _ _ (fun _ => HS.out _ hb3) (fun hHeld => ?_)
              replace hHeld := hHeld (by decide)
              refine wpTail.ready (rs := [20]) (by kernel_rfl) (by simp) ?_
              refine AllTail.cons rfl (fun K hK => ?_) AllTail.nil
              refine step_spread' (m := (l2.length - k)) T_sub hown3 hb3 (Nat.le_refl _) (HR2.out.below hb3 (Nat.le_refl _)) rfl rfl rfl rfl HL2.out HO2.out ?_ ?_ ?_
              · omega
              · omega
              intro v4 w4 hown4 hb4 hg4
              try simp only [Nat.zero_add, List.nil_append] at hown4
              obtain ⟨av4, cv4, rfl, -, hln4, hcn4⟩ := ownsRow_row hown4
              refine hK.out _ _ (fun _ => HS.out _ hb4) (fun hHeld => ?_)
              replace hHeld := hHeld (by decide)
              refine ttk 21 (v := ?_) ?_ hHeld ?_; rotate_left; · (intro w0 hS0; (try dsimp only at hS0); go_simp; try with_reducible rfl)
              simp only [tks]
              refine ttk 22 (v := ?_) ?_ hHeld ?_; rotate_left; · (intro w0 hS0; (try dsimp only at hS0); go_simp; try with_reducible rfl)
              simp only [tks]
              have x0 := HS.out _ hb4
              obtain ⟨x1, hfin⟩ := HFIN.out _ _ _ hb4 hown4
              refine wpTail.ready (rs := [23]) (by kernel_rfl) (by simp) ?_
              refine AllTail.cons rfl (fun K hK => ?_) AllTail.nil
              rw [if_pos (by rfl)]
              go_simp
              refine hK.out _ _ (fun h => absurd rfl h) (fun _ => ?_)
              refine wpTail.done (by kernel_rfl) ?_ _
              go_wp2_with fail
              go_ret
              exact ⟨ret_int HE1.out.symm, hfin.out⟩
          · rw [if_pos (by rfl)]
            go_simp
            have hb1 := hb0.alloc (hb0.size) (.cells #[.string ⟨f.toArray⟩, .int .u8 q] 39)
            have hlit := row_new wb.drew [.string ⟨f.toArray⟩, .int .u8 q] 39
            refine hK.out _ _ (fun _ => HS.out _ hb1) (fun hHeld => ?_)
            replace hHeld := hHeld (by decide)
            refine wpTail.ready (rs := [1]) (by kernel_rfl) (by simp) ?_
            refine AllTail.cons rfl (fun K hK => ?_) AllTail.nil
            rw [if_pos (by rfl)]
            go_simp
            have hbl := hb1.alloc (hb1.size) (.cells #[] 39)
            have ho1 := own_empty (wb.drew.alloc (.cells #[.string ⟨f.toArray⟩, .int .u8 q] 39)) 39 wb.heap.size 2 hb1.size
            rw [show (wb.drew.alloc (.cells #[.string ⟨f.toArray⟩, .int .u8 q] 39)).heap.size = wb.heap.size + 1 by simp] at ho1
            refine hK.out _ _ (fun _ => HS.out _ hbl) (fun hHeld => ?_)
            replace hHeld := hHeld (by decide)
            refine wpTail.ready (rs := [8]) (by kernel_rfl) (by simp) ?_
            refine AllTail.cons rfl (fun K hK => ?_) AllTail.nil
            refine step_spread' (m := k) T_sub ho1 hbl (Nat.le_refl _) (HR1.out.below hbl (Nat.le_refl _)) rfl rfl rfl rfl HL1.out HO1.out ?_ ?_ ?_
            · omega
            · omega
            intro v2 w2 hown2 hb2 hg2
            try simp only [Nat.zero_add, List.nil_append] at hown2
            obtain ⟨av2, cv2, rfl, -, hln2, hcn2⟩ := ownsRow_row hown2
            have hlit2 := row_grown (hlit.below (low_alloc _ _) (Nat.le_refl _)) hg2 (fun b o e h => by cases e; simp [Value.ownBlock] at h)
            refine hK.out _ _ (fun _ => HS.out _ hb2) (fun hHeld => ?_)
            replace hHeld := hHeld (by decide)
            refine wpTail.ready (rs := [13]) (by kernel_rfl) (by simp) ?_
            refine AllTail.cons rfl (fun K hK => ?_) AllTail.nil
            refine step_spread' (m := 1) T_sub hown2 hb2 (Nat.le_refl _) hlit2 rfl rfl rfl rfl rfl HOL.out ?_ ?_ ?_
            · omega
            · omega
            intro v3 w3 hown3 hb3 hg3
            try simp only [Nat.zero_add, List.nil_append] at hown3
            obtain ⟨av3, cv3, rfl, -, hln3, hcn3⟩ := ownsRow_row hown3
            refine hK.out _ _ (fun _ => HS.out _ hb3) (fun hHeld => ?_)
            replace hHeld := hHeld (by decide)
            refine wpTail.ready (rs := [20]) (by kernel_rfl) (by simp) ?_
            refine AllTail.cons rfl (fun K hK => ?_) AllTail.nil
            refine step_spread' (m := (l2.length - k)) T_sub hown3 hb3 (Nat.le_refl _) (HR2.out.below hb3 (Nat.le_refl _)) rfl rfl rfl rfl HL2.out HO2.out ?_ ?_ ?_
            · omega
            · omega
            intro v4 w4 hown4 hb4 hg4
            try simp only [Nat.zero_add, List.nil_append] at hown4
            obtain ⟨av4, cv4, rfl, -, hln4, hcn4⟩ := ownsRow_row hown4
            refine hK.out _ _ (fun _ => HS.out _ hb4) (fun hHeld => ?_)
            replace hHeld := hHeld (by decide)
            refine ttk 21 (v := ?_) ?_ hHeld ?_; rotate_left; · (intro w0 hS0; (try dsimp only at hS0); go_simp; try with_reducible rfl)
            simp only [tks]
            refine ttk 22 (v := ?_) ?_ hHeld ?_; rotate_left; · (intro w0 hS0; (try dsimp only at hS0); go_simp; try with_reducible rfl)
            simp only [tks]
            have x0 := HS.out _ hb4
            obtain ⟨x1, hfin⟩ := HFIN.out _ _ _ hb4 hown4
            refine wpTail.ready (rs := [23]) (by kernel_rfl) (by simp) ?_
            refine AllTail.cons rfl (fun K hK => ?_) AllTail.nil
            rw [if_pos (by rfl)]
            go_simp
            refine hK.out _ _ (fun h => absurd rfl h) (fun _ => ?_)
            refine wpTail.done (by kernel_rfl) ?_ _
            go_wp2_with fail
            go_ret
            exact ⟨ret_int HE1.out.symm, hfin.out⟩
        · have hkl : ¬ (k : Int) < l2.length := by omega
          clear hgo
          go_wp2_with fail
          generalize wr = wb at *
          obtain ⟨⟨a1, hs1, hr1⟩, a2, hs2, hr2⟩ := slice_run Tryz.underlying35 (sz := 2) (by kernel_rfl) av l2.length cp k hk hcp
          have HR1 := Lib.hid (hr1 wb _ hrwb)
          have HR2 := Lib.hid (hr2 wb _ hrwb (subsV_length l2))
          have HS : Hid (∀ X : World, Below wb.heap.size wb X → X.cell? ⟨b, 0, none⟩ = some (.slice av l2.length cp)) := Lib.hid (fun X hX => (HH.out X (bnext hbb (Nat.le_refl _) hX)).1)
          have HFIN : Hid (∀ (X : World) (v : Value) (n : Nat), Below wb.heap.size wb X → X.ownsRow wb.heap.size 39 2 v n ((subsV l2).take (k * 2) ++ [.string ⟨f.toArray⟩, .int .u8 q] ++ (subsV l2).drop (k * 2)) → X.frozen? ⟨b, 0, none⟩ = false ∧ Hid (∃ F', DRep (X.setCell ⟨b, 0, none⟩ v) b (setE f q l) F' ∧ Upd F F' w (X.setCell ⟨b, 0, none⟩ v))) := Lib.hid (fun X v n hX ho => by
            have e : (subsV l2).take (k * 2) ++ [.string ⟨f.toArray⟩, .int .u8 q] ++ (subsV l2).drop (k * 2) = subsV (setE f q l) := by
              rw [HE2.out, HPUT.out, show [Value.string ⟨f.toArray⟩, Value.int .u8 q] = subsV [(f, q)] from rfl, subsV_take, subsV_drop, ← subsV_append, ← subsV_append, List.append_assoc]
            rw [e] at ho
            obtain ⟨a', c', rfl, h1, h2, h3⟩ := SRow.of_owns ho
            have hn : n = (setE f q l).length := by have := ho.1; rw [subsV_length] at this; omega
            obtain ⟨q1, q2, q3⟩ := (HD2.out.below hbb).store hX h3 (fun k hk => (ho.lt k (by simpa using hk)).1) h1 h2 (by rw [HE2.out]; exact sup_put HD0.out.up) HLEN.out _ rfl
            exact ⟨q1, Lib.hid ⟨_, q2, upd_trans HU2.out (upd_pre hbb q3)⟩⟩)
          have HL1 := Lib.hid (show ((subsV l2).take (k * 2)).length = k * 2 by rw [List.length_take, subsV_length]; omega)
          have HL2 := Lib.hid (show ((subsV l2).drop (k * 2)).length = (l2.length - k) * 2 by rw [List.length_drop, subsV_length]; omega)
          have HO1 := Lib.hid (fun u (hu : u ∈ (subsV l2).take (k * 2)) => subsV_one l2 u (List.mem_of_mem_take hu))
          have HO2 := Lib.hid (fun u (hu : u ∈ (subsV l2).drop (k * 2)) => subsV_one l2 u (List.mem_of_mem_drop hu))
          have HOL := Lib.hid (show ∀ u ∈ [Value.string ⟨f.toArray⟩, Value.int .u8 q], u.oneCell' = true by simp [Value.oneCell'])
          clear hr1 hr2
          refine wp_region_tail (S := fun X => X.cell? ⟨b, 0, none⟩ = some (.slice av l2.length cp)) 23 (by kernel_rfl) (HS.out _ ((Below.refl _ _).drew)) (fun hHeld => ?_)
          refine ttk 0 (v := ?_) ?_ hHeld ?_; rotate_left; · (intro w0 hS0; (try dsimp only at hS0); go_simp; try with_reducible rfl)
          simp only [tks]
          refine ttk 2 (v := ?_) ?_ hHeld ?_; rotate_left; · (intro w0 hS0; (try dsimp only at hS0); go_simp; try with_reducible rfl)
          simp only [tks]
          refine ttk 3 (v := ?_) ?_ hHeld ?_; rotate_left; · (intro w0 hS0; (try dsimp only at hS0); go_simp; try with_reducible rfl)
          simp only [tks]
          refine ttk 4 (v := ?_) ?_ hHeld ?_; rotate_left; · (intro w0 hS0; (try dsimp only at hS0); go_simp; try with_reducible rfl)
          simp only [tks]
          refine ttk 5 (v := ?_) ?_ hHeld ?_; rotate_left; · (intro w0 hS0; (try dsimp only at hS0); go_simp; try with_reducible rfl)
          simp only [tks]
          refine ttk 6 (v := ?_) ?_ hHeld ?_; rotate_left; · (intro w0 hS0; (try dsimp only at hS0); go_simp; try with_reducible rfl)
          simp only [tks]
          refine ttk 7 (v := ?_) ?_ hHeld ?_; rotate_left; · (intro w0 hS0; (try dsimp only at hS0); go_simp; try with_reducible rfl)
          simp only [tks]
          refine ttk 9 (v := ?_) ?_ hHeld ?_; rotate_left; · (intro w0 hS0; (try dsimp only at hS0); go_simp; try with_reducible rfl)
          simp only [tks]
          refine ttk 10 (v := ?_) ?_ hHeld ?_; rotate_left; · (intro w0 hS0; (try dsimp only at hS0); go_simp; try with_reducible rfl)
          simp only [tks]
          refine ttk 11 (v := ?_) ?_ hHeld ?_; rotate_left; · (intro w0 hS0; (try dsimp only at hS0); go_simp; try with_reducible rfl)
          simp only [tks]
          refine ttk 14 (v := ?_) ?_ hHeld ?_; rotate_left; · (intro w0 hS0; (try dsimp only at hS0); go_simp; try with_reducible rfl)
          simp only [tks]
          refine ttk 15 (v := ?_) ?_ hHeld ?_; rotate_left; · (intro w0 hS0; (try dsimp only at hS0); go_simp; try with_reducible rfl)
          simp only [tks]
          refine ttk 16 (v := ?_) ?_ hHeld ?_; rotate_left; · (intro w0 hS0; (try dsimp only at hS0); go_simp; try with_reducible rfl)
          simp only [tks]
          refine ttk 17 (v := ?_) ?_ hHeld ?_; rotate_left; · (intro w0 hS0; (try dsimp only at hS0); go_simp; try with_reducible rfl)
          simp only [tks]
          refine ttk 18 (v := ?_) ?_ hHeld ?_; rotate_left; · (intro w0 hS0; (try dsimp only at hS0); go_simp; try with_reducible rfl)
          simp only [tks]
          refine ttk 19 (v := ?_) ?_ hHeld ?_; rotate_left; · (intro w0 hS0; (try dsimp only at hS0); go_simp; try with_reducible rfl)
          simp only [tks]
          have hb0 : Below wb.heap.size wb wb.drew := (Below.refl _ _).drew
          refine wpTail.ready (rs := [1, 12]) (by kernel_rfl) (by simp) ?_
          refine AllTail.cons rfl (fun K hK => ?_) (AllTail.cons rfl (fun K hK => ?_) AllTail.nil)
          · rw [if_pos (by rfl)]
            go_simp
            have hb1 := hb0.alloc (hb0.size) (.cells #[] 39)
            have ho1 := own_empty wb.drew 39 wb.heap.size 2 (Nat.le_refl _)
            refine hK.out _ _ (fun _ => HS.out _ hb1) (fun hHeld => ?_)
            replace hHeld := hHeld (by decide)
            refine wpTail.ready (rs := [8, 12]) (by kernel_rfl) (by simp) ?_
            refine AllTail.cons rfl (fun K hK => ?_) (AllTail.cons rfl (fun K hK => ?_) AllTail.nil)
            · refine step_spread' (m := k) T_sub ho1 hb1 (Nat.le_refl _) (HR1.out.below hb1 (Nat.le_refl _)) rfl rfl rfl rfl HL1.out HO1.out ?_ ?_ ?_
              · omega
              · omega
              intro v2 w2 hown2 hb2 hg2
              try simp only [Nat.zero_add, List.nil_append] at hown2
              obtain ⟨av2, cv2, rfl, -, hln2, hcn2⟩ := ownsRow_row hown2
              refine hK.out _ _ (fun _ => HS.out _ hb2) (fun hHeld => ?_)
              replace hHeld := hHeld (by decide)
              refine wpTail.ready (rs := [12]) (by kernel_rfl) (by simp) ?_
              refine AllTail.cons rfl (fun K hK => ?_) AllTail.nil
              rw [if_pos (by rfl)]
              go_simp
              have hbl := hb2.alloc (hb2.size) (.cells #[.string ⟨f.toArray⟩, .int .u8 q] 39)
              have hlit := row_new w2 [.string ⟨f.toArray⟩, .int .u8 q] 39
              refine hK.out _ _ (fun _ => HS.out _ hbl) (fun hHeld => ?_)
              replace hHeld := hHeld (by decide)
              refine wpTail.ready (rs := [13]) (by kernel_rfl) (by simp) ?_
              refine AllTail.cons rfl (fun K hK => ?_) AllTail.nil
              refine step_spread' (m := 1) T_sub (ownsRow_lowD hown2 (low_alloc _ _)) hbl (Nat.le_refl _) hlit rfl rfl rfl rfl rfl HOL.out ?_ ?_ ?_
              · omega
              · omega
              intro v3 w3 hown3 hb3 hg3
              try simp only [Nat.zero_add, List.nil_append] at hown3
              obtain ⟨av3, cv3, rfl, -, hln3, hcn3⟩ := ownsRow_row hown3
              refine hK.out _ _ (fun _ => HS.out _ hb3) (fun hHeld => ?_)
              replace hHeld := hHeld (by decide)
              refine wpTail.ready (rs := [20]) (by kernel_rfl) (by simp) ?_
              refine AllTail.cons rfl (fun K hK => ?_) AllTail.nil
              refine step_spread' (m := (l2.length - k)) T_sub hown3 hb3 (Nat.le_refl _) (HR2.out.below hb3 (Nat.le_refl _)) rfl rfl rfl rfl HL2.out HO2.out ?_ ?_ ?_
              · omega
              · omega
              intro v4 w4 hown4 hb4 hg4
              try simp only [Nat.zero_add, List.nil_append] at hown4
              obtain ⟨av4, cv4, rfl, -, hln4, hcn4⟩ := ownsRow_row hown4
              refine hK.out _ _ (fun _ => HS.out _ hb4) (fun hHeld => ?_)
              replace hHeld := hHeld (by decide)
              refine ttk 21 (v := ?_) ?_ hHeld ?_; rotate_left; · (intro w0 hS0; (try dsimp only at hS0); go_simp; try with_reducible rfl)
              simp only [tks]
              refine ttk 22 (v := ?_) ?_ hHeld ?_; rotate_left; · (intro w0 hS0; (try dsimp only at hS0); go_simp; try with_reducible rfl)
              simp only [tks]
              have x0 := HS.out _ hb4
              obtain ⟨x1, hfin⟩ := HFIN.out _ _ _ hb4 hown4
              refine wpTail.ready (rs := [23]) (by kernel_rfl) (by simp) ?_
              refine AllTail.cons rfl (fun K hK => ?_) AllTail.nil
              rw [if_pos (by rfl)]
              go_simp
              refine hK.out _ _ (fun h => absurd rfl h) (fun _ => ?_)
              refine wpTail.done (by kernel_rfl) ?_ _
              go_wp2_with fail
              go_ret
              exact ⟨ret_int HE1.out.symm, hfin.out⟩
            · rw [if_pos (by rfl)]
              go_simp
              have hbl := hb1.alloc (hb1.size) (.cells #[.string ⟨f.toArray⟩, .int .u8 q] 39)
              have hlit := row_new (wb.drew.alloc (.cells #[] 39)) [.string ⟨f.toArray⟩, .int .u8 q] 39
              rw [show (wb.drew.alloc (.cells #[] 39)).heap.size = wb.heap.size + 1 by simp] at hlit
              refine hK.out _ _ (fun _ => HS.out _ hbl) (fun hHeld => ?_)
              replace hHeld := hHeld (by decide)
              refine wpTail.ready (rs := [8]) (by kernel_rfl) (by simp) ?_
              refine AllTail.cons rfl (fun K hK => ?_) AllTail.nil
              refine step_spread' (m := k) T_sub (ownsRow_lowD ho1 (low_alloc _ _)) hbl (Nat.le_refl _) (HR1.out.below hbl (Nat.le_refl _)) rfl rfl rfl rfl HL1.out HO1.out ?_ ?_ ?_
              · omega
              · omega
              intro v2 w2 hown2 hb2 hg2
              try simp only [Nat.zero_add, List.nil_append] at hown2
              obtain ⟨av2, cv2, rfl, -, hln2, hcn2⟩ := ownsRow_row hown2
              have hlit2 := row_grown hlit hg2 (fun b o e h => by cases e; simp [Value.ownBlock] at h)
              refine hK.out _ _ (fun _ => HS.out _ hb2) (fun hHeld => ?_)
              replace hHeld := hHeld (by decide)
              refine wpTail.ready (rs := [13]) (by kernel_rfl) (by simp) ?_
              refine AllTail.cons rfl (fun K hK => ?_) AllTail.nil
              refine step_spread' (m := 1) T_sub hown2 hb2 (Nat.le_refl _) hlit2 rfl rfl rfl rfl rfl HOL.out ?_ ?_ ?_
              · omega
              · omega
              intro v3 w3 hown3 hb3 hg3
              try simp only [Nat.zero_add, List.nil_append] at hown3
              obtain ⟨av3, cv3, rfl, -, hln3, hcn3⟩ := ownsRow_row hown3
              refine hK.out _ _ (fun _ => HS.out _ hb3) (fun hHeld => ?_)
              replace hHeld := hHeld (by decide)
              refine wpTail.ready (rs := [20]) (by kernel_rfl) (by simp) ?_
              refine AllTail.cons rfl (fun K hK => ?_) AllTail.nil
              refine step_spread' (m := (l2.length - k)) T_sub hown3 hb3 (Nat.le_refl _) (HR2.out.below hb3 (Nat.le_refl _)) rfl rfl rfl rfl HL2.out HO2.out ?_ ?_ ?_
              · omega
              · omega
              intro v4 w4 hown4 hb4 hg4
              try simp only [Nat.zero_add, List.nil_append] at hown4
              obtain ⟨av4, cv4, rfl, -, hln4, hcn4⟩ := ownsRow_row hown4
              refine hK.out _ _ (fun _ => HS.out _ hb4) (fun hHeld => ?_)
              replace hHeld := hHeld (by decide)
              refine ttk 21 (v := ?_) ?_ hHeld ?_; rotate_left; · (intro w0 hS0; (try dsimp only at hS0); go_simp; try with_reducible rfl)
              simp only [tks]
              refine ttk 22 (v := ?_) ?_ hHeld ?_; rotate_left; · (intro w0 hS0; (try dsimp only at hS0); go_simp; try with_reducible rfl)
              simp only [tks]
              have x0 := HS.out _ hb4
              obtain ⟨x1, hfin⟩ := HFIN.out _ _ _ hb4 hown4
              refine wpTail.ready (rs := [23]) (by kernel_rfl) (by simp) ?_
              refine AllTail.cons rfl (fun K hK => ?_) AllTail.nil
              rw [if_pos (by rfl)]
              go_simp
              refine hK.out _ _ (fun h => absurd rfl h) (fun _ => ?_)
              refine wpTail.done (by kernel_rfl) ?_ _
              go_wp2_with fail
              go_ret
              exact ⟨ret_int HE1.out.symm, hfin.out⟩
          · rw [if_pos (by rfl)]
            go_simp
            have hb1 := hb0.alloc (hb0.size) (.cells #[.string ⟨f.toArray⟩, .int .u8 q] 39)
            have hlit := row_new wb.drew [.string ⟨f.toArray⟩, .int .u8 q] 39
            refine hK.out _ _ (fun _ => HS.out _ hb1) (fun hHeld => ?_)
            replace hHeld := hHeld (by decide)
            refine wpTail.ready (rs := [1]) (by kernel_rfl) (by simp) ?_
            refine AllTail.cons rfl (fun K hK => ?_) AllTail.nil
            rw [if_pos (by rfl)]
            go_simp
            have hbl := hb1.alloc (hb1.size) (.cells #[] 39)
            have ho1 := own_empty (wb.drew.alloc (.cells #[.string ⟨f.toArray⟩, .int .u8 q] 39)) 39 wb.heap.size 2 hb1.size
            rw [show (wb.drew.alloc (.cells #[.string ⟨f.toArray⟩, .int .u8 q] 39)).heap.size = wb.heap.size + 1 by simp] at ho1
            refine hK.out _ _ (fun _ => HS.out _ hbl) (fun hHeld => ?_)
            replace hHeld := hHeld (by decide)
            refine wpTail.ready (rs := [8]) (by kernel_rfl) (by simp) ?_
            refine AllTail.cons rfl (fun K hK => ?_) AllTail.nil
            refine step_spread' (m := k) T_sub ho1 hbl (Nat.le_refl _) (HR1.out.below hbl (Nat.le_refl _)) rfl rfl rfl rfl HL1.out HO1.out ?_ ?_ ?_
            · omega
            · omega
            intro v2 w2 hown2 hb2 hg2
            try simp only [Nat.zero_add, List.nil_append] at hown2
            obtain ⟨av2, cv2, rfl, -, hln2, hcn2⟩ := ownsRow_row hown2
            have hlit2 := row_grown (hlit.below (low_alloc _ _) (Nat.le_refl _)) hg2 (fun b o e h => by cases e; simp [Value.ownBlock] at h)
            refine hK.out _ _ (fun _ => HS.out _ hb2) (fun hHeld => ?_)
            replace hHeld := hHeld (by decide)
            refine wpTail.ready (rs := [13]) (by kernel_rfl) (by simp) ?_
            refine AllTail.cons rfl (fun K hK => ?_) AllTail.nil
            refine step_spread' (m := 1) T_sub hown2 hb2 (Nat.le_refl _) hlit2 rfl rfl rfl rfl rfl HOL.out ?_ ?_ ?_
            · omega
            · omega
            intro v3 w3 hown3 hb3 hg3
            try simp only [Nat.zero_add, List.nil_append] at hown3
            obtain ⟨av3, cv3, rfl, -, hln3, hcn3⟩ := ownsRow_row hown3
            refine hK.out _ _ (fun _ => HS.out _ hb3) (fun hHeld => ?_)
            replace hHeld := hHeld (by decide)
            refine wpTail.ready (rs := [20]) (by kernel_rfl) (by simp) ?_
            refine AllTail.cons rfl (fun K hK => ?_) AllTail.nil
            refine step_spread' (m := (l2.length - k)) T_sub hown3 hb3 (Nat.le_refl _) (HR2.out.below hb3 (Nat.le_refl _)) rfl rfl rfl rfl HL2.out HO2.out ?_ ?_ ?_
            · omega
            · omega
            intro v4 w4 hown4 hb4 hg4
            try simp only [Nat.zero_add, List.nil_append] at hown4
            obtain ⟨av4, cv4, rfl, -, hln4, hcn4⟩ := ownsRow_row hown4
            refine hK.out _ _ (fun _ => HS.out _ hb4) (fun hHeld => ?_)
            replace hHeld := hHeld (by decide)
            refine ttk 21 (v := ?_) ?_ hHeld ?_; rotate_left; · (intro w0 hS0; (try dsimp only at hS0); go_simp; try with_reducible rfl)
            simp only [tks]
            refine ttk 22 (v := ?_) ?_ hHeld ?_; rotate_left; · (intro w0 hS0; (try dsimp only at hS0); go_simp; try with_reducible rfl)
            simp only [tks]
            have x0 := HS.out _ hb4
            obtain ⟨x1, hfin⟩ := HFIN.out _ _ _ hb4 hown4
            refine wpTail.ready (rs := [23]) (by kernel_rfl) (by simp) ?_
            refine AllTail.cons rfl (fun K hK => ?_) AllTail.nil
            rw [if_pos (by rfl)]
            go_simp
            refine hK.out _ _ (fun h => absurd rfl h) (fun _ => ?_)
            refine wpTail.done (by kernel_rfl) ?_ _
            go_wp2_with fail
            go_ret
            exact ⟨ret_int HE1.out.symm, hfin.out⟩
end
end Go.Proofs.YtmkhagmjpbfieaaGreatDoor
