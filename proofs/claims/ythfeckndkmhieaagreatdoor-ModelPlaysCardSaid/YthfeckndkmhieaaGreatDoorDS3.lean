/- The document's list of filters: Set walked. (Printed by gen_dset.py.) -/
import Derived.Test.YthfeckndkmhieaaGreatDoorDA
import Derived.Sort.Walk0
namespace Go.Proofs.YthfeckndkmhieaaGreatDoor
open Go Go.RowKit

theorem ownsRow_lowD {w w' : World} {B : Nat} {e : TypeId} {size n : Nat} {v : Value} {xs : List Value} (h : w.ownsRow B e size v n xs) (hb : Below w.heap.size w w') : w'.ownsRow B e size v n xs :=
  ownsRow_local h fun k hk => hb.block k (h.lt k hk).2
theorem len_del_lt {f : List UInt8} {l : List SubE} (h : hasE f l = true) : (delE f l).length < l.length := by
  unfold hasE at h
  obtain ⟨y, hy, e⟩ := List.any_eq_true.1 h
  unfold delE
  exact List.length_filter_lt_length_iff_exists.2 ⟨y, hy, by simpa using e⟩
set_option maxRecDepth 100000 in
set_option maxHeartbeats 8000000 in
theorem dset_any (b : Nat) (l : List SubE) (F : List Nat) (f : List UInt8) (q : Int) (w : World) (h : DRep w b l F) (hf : f.length < 4294967281) (hq0 : 0 ≤ q) (hq1 : q < 256) :
    Calls Tryz.prog 46 #[.pointer (some ⟨b, 0, none⟩), .string ⟨f.toArray⟩, .int .u8 q] w fun e w' => e = .returned (.int .u8 (setC f q l)) ∧ ∃ F', DRep w' b (setE f q l) F' ∧ Upd F F' w w' := by
  have h16 := h.len
  have HD0 := Lib.hid h
  have HNO : Hid (setOk f q l = false → ∀ X, Below w.heap.size w X → 128 = setC f q l ∧ ∃ F', DRep X b (setE f q l) F' ∧ Upd F F' w X) := Lib.hid (fun e X hX => by
    unfold setC setE
    rw [e]
    exact ⟨rfl, F, h.below hX, upd_below hX⟩)
  have HOK : Hid (setOk f q l = (decide (q ≤ 2) && (filterB f && (hasE f l || !decide (l.length = 16))))) := Lib.hid rfl
  obtain ⟨bf, hbf⟩ : ∃ z, filterB f = z := ⟨_, rfl⟩
  obtain ⟨bh, hbh⟩ : ∃ z, hasE f l = z := ⟨_, rfl⟩
  rw [hbf, hbh] at HOK
  have HFIL := Lib.hid (show Calls Tryz.prog 63 #[.string ⟨f.toArray⟩] w fun e w' => e = .returned (.bool bf) ∧ Below w.heap.size w w' by rw [← hbf]; exact rfilter_any ⟨f.toArray⟩ w (by show f.toArray.size < _; simpa using hf))
  have HHAS := Lib.hid (fun X (hX : Below w.heap.size w X) => (show Calls Tryz.prog 64 #[.pointer (some ⟨b, 0, none⟩), .string ⟨f.toArray⟩] X fun e w' => e = .returned (.bool bh) ∧ X = w' by rw [← hbh]; exact dhas_any b l F f X (h.below hX)))
  have HDEL := Lib.hid (fun X (hX : Below w.heap.size w X) => ddrop_any b l F f X (h.below hX))
  obtain ⟨a0, c0, -, hH0⟩ := h.held
  have HH0 := Lib.hid hH0
  have HBH := Lib.hid hbh
  clear hbf hbh h hH0
  by_cases hq2 : 2 < q
  · have HN := Lib.hid (HNO.out (by rw [HOK.out]; simp; omega))
    go_enter Tryz.func46, Tryz.ntmps46
    go_wp2_with fail
    go_ret
    obtain ⟨e1, e2⟩ := HN.out w (Below.refl _ _)
    exact ⟨ret_int e1, e2⟩
  have hq2d : decide (q ≤ 2) = true := by simp; omega
  rw [hq2d] at HOK
  cases bf with
  | false =>
    have HN := Lib.hid (HNO.out (by rw [HOK.out]; rfl))
    clear hq2d
    go_enter Tryz.func46, Tryz.ntmps46
    go_wp2_with fail
    refine HFIL.out.mono ?_
    rintro e w1 ⟨rfl, hk1⟩
    obtain ⟨e1, e2⟩ := HN.out w1 hk1
    have HE := Lib.hid (And.intro e1 e2)
    clear e1 e2 hk1
    go_wp2_with fail
    go_ret
    exact ⟨ret_int HE.out.1, HE.out.2⟩
  | true =>
  by_cases hno : bh = false ∧ l.length = 16
  · obtain ⟨rfl, hl⟩ := hno
    have HN := Lib.hid (HNO.out (by rw [HOK.out, hl]; rfl))
    have hlI : (l.length : Int) = 16 := by omega
    clear hq2d hl
    go_enter Tryz.func46, Tryz.ntmps46
    go_wp2_with fail
    refine HFIL.out.mono ?_
    rintro e w1 ⟨rfl, hk1⟩
    obtain ⟨e1, e2⟩ := HN.out w1 hk1
    have HE := Lib.hid (And.intro e1 e2)
    obtain ⟨cc, -⟩ := HH0.out w1 hk1
    have HK1 := Lib.hid hk1
    clear e1 e2 hk1
    go_wp2_with fail
    refine (HHAS.out w1 HK1.out).mono ?_
    rintro e w2 ⟨rfl, rfl⟩
    go_wp2_with fail
    go_ret
    exact ⟨ret_int HE.out.1, HE.out.2⟩
  have hok : setOk f q l = true := by
    rw [HOK.out]
    cases bh with
    | true => rfl
    | false =>
      have : l.length ≠ 16 := fun e => hno ⟨rfl, e⟩
      simp [this]
  have HE1 := Lib.hid (show setC f q l = q by unfold setC; rw [hok]; rfl)
  have HE2 := Lib.hid (show setE f q l = putE (f, q) l by unfold setE; rw [hok]; rfl)
  have HLEN : Hid ((setE f q l).length ≤ 16) := Lib.hid (by
    rw [HE2.out, ← put_del_E (x := (f, q)) HD0.out.up]
    refine Nat.le_trans (len_putE _ _) ?_
    show (delE f l).length + 1 ≤ 16
    cases bh with
    | true => have := len_del_lt HBH.out; omega
    | false =>
      have h1 : l.length ≠ 16 := fun e => hno ⟨rfl, e⟩
      have := len_delE f l
      omega)
  have HLL : Hid (bh = false → ¬ (16 : Int) ≤ l.length) := Lib.hid (fun e => by
    have : l.length ≠ 16 := fun e2 => hno ⟨e, e2⟩
    omega)
  clear hok hno hq2d HOK HNO
  cases bh <;>
  · first | (have hlI := HLL.out rfl) | skip
    clear HLL
    go_enter Tryz.func46, Tryz.ntmps46
    go_wp2_with fail
    refine HFIL.out.mono ?_
    rintro e w1 ⟨rfl, hk1⟩
    obtain ⟨cc, -⟩ := HH0.out w1 hk1
    have HK1 := Lib.hid hk1
    clear hk1
    go_wp2_with fail
    refine (HHAS.out w1 HK1.out).mono ?_
    rintro e w2 ⟨rfl, rfl⟩
    go_wp2_with fail
    refine (HDEL.out w1 HK1.out).mono ?_
    rintro e w2 ⟨rfl, F2, hd2, hu2⟩
    have HD2 := Lib.hid hd2
    have HU2 := Lib.hid (upd_pre HK1.out hu2)
    obtain ⟨av, cp, hcp, hH⟩ := hd2.held
    have HH := Lib.hid hH
    have HP0 := Lib.hid (put_del_E (x := (f, q)) HD0.out.up)
    have hl2 : (delE f l).length ≤ 16 := hd2.len
    have HND : Hid (∀ (k : Nat) (hl : k < (delE f l).length), (delE f l)[k].1 ≠ f) := Lib.hid (fun k hl e => by
      have := (List.mem_filter.1 (List.getElem_mem hl)).2
      simp at this
      exact this e)
    clear hd2 hu2 hH cc
    obtain ⟨l2, hl2e⟩ : ∃ l2, delE f l = l2 := ⟨_, rfl⟩
    rw [show delE (f, q).1 l = l2 from hl2e] at HP0
    rw [hl2e] at HD2 HND hl2 hcp HH
    clear hl2e
    go_wp2_with fail
    go_loopw [7] (fun i wr => ∃ k : Nat, i = .int .i64 k ∧ k ≤ l2.length ∧ Below w2.heap.size w2 wr ∧ ∀ y ∈ l2.take k, y.1 < f) (fun i _ => (l2.length - intOf i).toNat)
    case atStart => exact ⟨0, rfl, by omega, Below.refl _ _, by simp⟩
    case round =>
      obtain ⟨k, rfl, hk, hbb, htk⟩ := hrel
      have HTK := Lib.hid htk
      clear htk
      obtain ⟨cc, hrwb⟩ := HH.out wr hbb
      by_cases hgo : ∃ hlt : k < l2.length, l2[k].1 < f
      · obtain ⟨hlt, hlf⟩ := hgo
        obtain ⟨b1, o1, rfl, d0, -⟩ := subs_row hrwb hlt
        have hk0 : (0 : Int) ≤ k := by omega
        have hkl : (k : Int) < l2.length := by omega
        have HST : Hid (∀ y ∈ l2.take (k + 1), y.1 < f) := Lib.hid (fun y hy => by
          rw [List.take_succ_eq_append_getElem hlt] at hy
          rcases List.mem_append.1 hy with hy | hy
          · exact HTK.out y hy
          · rw [List.mem_singleton.1 hy]; exact hlf)
        have hq : Op.bytesLess l2[k].1 f = true := by rw [bytesLess_eq]; exact decide_eq_true hlf
        generalize l2[k].1 = yf at *
        have HB := Lib.hid hbb
        clear hlf hrwb hbb
        go_wp2_with fail
        go_roundw
        case rel => exact ⟨k + 1, by go_num, by omega, HB.out, HST.out⟩
        case measure => simp [intOf]; omega
      · have HPUT : Hid (putE (f, q) l = l2.take k ++ ([(f, q)] ++ l2.drop k)) := Lib.hid (by
          rw [← HP0.out]
          exact putE_new hk HTK.out (fun hl => ⟨fun e => hgo ⟨hl, e⟩, HND.out k hl⟩))
        have hkI : (k : Int) ≤ l2.length := by omega
        obtain ⟨wb, hwb⟩ : ∃ wb, wr = wb := ⟨_, rfl⟩
        subst hwb
        by_cases hlt : k < l2.length
        · have hkl : (k : Int) < l2.length := by omega
          have hk0 : (0 : Int) ≤ k := by omega
          have hnl : ¬ l2[k].1 < f := fun e => hgo ⟨hlt, e⟩
          obtain ⟨b1, o1, hav, d0, -⟩ := subs_row hrwb hlt
          have hq : Op.bytesLess l2[k].1 f = false := by rw [bytesLess_eq]; exact decide_eq_false hnl
          generalize l2[k].1 = yf at *
          clear hgo hnl
          obtain ⟨av2, hav2⟩ : ∃ a, av = a := ⟨_, rfl⟩
          rw [hav] at cc
          go_wp2_with fail
          rw [← hav]
          rw [← hav] at cc
          clear hav hav2
          generalize wr = wb at *
          obtain ⟨⟨a1, hs1, hr1⟩, a2, hs2, hr2⟩ := slice_run Tryz.underlying27 (sz := 2) (by kernel_rfl) av l2.length cp k hk hcp
          have HR1 := Lib.hid (hr1 wb _ hrwb)
          have HR2 := Lib.hid (hr2 wb _ hrwb (subsV_length l2))
          have HS : Hid (∀ X : World, Below wb.heap.size wb X → X.cell? ⟨b, 0, none⟩ = some (.slice av l2.length cp)) := Lib.hid (fun X hX => (HH.out X (bnext hbb (Nat.le_refl _) hX)).1)
          have HFIN : Hid (∀ (X : World) (v : Value) (n : Nat), Below wb.heap.size wb X → X.ownsRow wb.heap.size 39 2 v n ((subsV l2).take (k * 2) ++ [.string ⟨f.toArray⟩, .int .u8 q] ++ (subsV l2).drop (k * 2)) → X.frozen? ⟨b, 0, none⟩ = false ∧ Hid (∃ F', DRep (X.setCell ⟨b, 0, none⟩ v) b (setE f q l) F' ∧ Upd F F' w (X.setCell ⟨b, 0, none⟩ v))) := Lib.hid (fun X v n hX ho => by
            have e : (subsV l2).take (k * 2) ++ [.string ⟨f.toArray⟩, .int .u8 q] ++ (subsV l2).drop (k * 2) = subsV (setE f q l) := by
              rw [HE2.out, HPUT.out, show [Value.string ⟨f.toArray⟩, Value.int .u8 q] = subsV [(f, q)] from rfl, subsV_take, subsV_drop, ← subsV_append, ← subsV_append, List.append_assoc]
            rw [e] at ho
            obtain ⟨a', c', rfl, h1, h2, h3⟩ := SRow.of_owns ho
            have hn : n = (setE f q l).length := by have := ho.1; rw [subsV_length] at this; omega
            obtain ⟨q1, q2, q3⟩ := (HD2.out.below hbb).store hX h3 (fun k hk => (ho.lt k (by simpa using hk)).1) h1 h2 (by rw [HE2.out]; exact sup_put HD0.out.up) HLEN.out _ rfl
            exact ⟨q1, Lib.hid ⟨_, q2, upd_trans HU2.out (upd_pre hbb q3)⟩⟩)
          have HL1 := Lib.hid (show ((subsV l2).take (k * 2)).length = k * 2 by rw [List.length_take, subsV_length]; omega)
          have HL2 := Lib.hid (show ((subsV l2).drop (k * 2)).length = (l2.length - k) * 2 by rw [List.length_drop, subsV_length]; omega)
          have HO1 := Lib.hid (fun u (hu : u ∈ (subsV l2).take (k * 2)) => subsV_one l2 u (List.mem_of_mem_take hu))
          have HO2 := Lib.hid (fun u (hu : u ∈ (subsV l2).drop (k * 2)) => subsV_one l2 u (List.mem_of_mem_drop hu))
          have HOL := Lib.hid (show ∀ u ∈ [Value.string ⟨f.toArray⟩, Value.int .u8 q], u.oneCell' = true by simp [Value.oneCell'])
          clear hr1 hr2
          refine wp_region_tail (S := fun X => X.cell? ⟨b, 0, none⟩ = some (.slice av l2.length cp)) 23 (by kernel_rfl) (HS.out _ ((Below.refl _ _).drew)) (fun hHeld => ?_)
          refine wpTail.take (i := 0) (v := ?_) rfl (by kernel_rfl) (by kernel_rfl) (by kernel_rfl) (by kernel_rfl) (by kernel_rfl) (fun _ _ _ h => h) (Or.inl ⟨rfl, ?_⟩) hHeld ?_
          rotate_left
          · intro w0 hS0
            try dsimp only at hS0
            go_simp
            try with_reducible rfl
          simp only [List.getElem_toArray, List.getElem_cons_zero, Act.put, List.setIfInBounds_toArray, List.set_cons_zero, List.set_cons_succ]
          refine wpTail.take (i := 2) (v := ?_) rfl (by kernel_rfl) (by kernel_rfl) (by kernel_rfl) (by kernel_rfl) (by kernel_rfl) (fun _ _ _ h => h) (Or.inl ⟨rfl, ?_⟩) hHeld ?_
          rotate_left
          · intro w0 hS0
            try dsimp only at hS0
            go_simp
            try with_reducible rfl
          simp only [List.getElem_toArray, List.getElem_cons_zero, List.getElem_cons_succ, Act.put, List.setIfInBounds_toArray, List.set_cons_zero, List.set_cons_succ]
          refine wpTail.take (i := 3) (v := ?_) rfl (by kernel_rfl) (by kernel_rfl) (by kernel_rfl) (by kernel_rfl) (by kernel_rfl) (fun _ _ _ h => h) (Or.inl ⟨rfl, ?_⟩) hHeld ?_
          rotate_left
          · intro w0 hS0
            try dsimp only at hS0
            go_simp
            try with_reducible rfl
          simp only [List.getElem_toArray, List.getElem_cons_zero, List.getElem_cons_succ, Act.put, List.setIfInBounds_toArray, List.set_cons_zero, List.set_cons_succ]
          refine wpTail.take (i := 4) (v := ?_) rfl (by kernel_rfl) (by kernel_rfl) (by kernel_rfl) (by kernel_rfl) (by kernel_rfl) (fun _ _ _ h => h) (Or.inl ⟨rfl, ?_⟩) hHeld ?_
          rotate_left
          · intro w0 hS0
            try dsimp only at hS0
            go_simp
            try with_reducible rfl
          simp only [List.getElem_toArray, List.getElem_cons_zero, List.getElem_cons_succ, Act.put, List.setIfInBounds_toArray, List.set_cons_zero, List.set_cons_succ]
          refine wpTail.take (i := 5) (v := ?_) rfl (by kernel_rfl) (by kernel_rfl) (by kernel_rfl) (by kernel_rfl) (by kernel_rfl) (fun _ _ _ h => h) (Or.inl ⟨rfl, ?_⟩) hHeld ?_
          rotate_left
          · intro w0 hS0
            try dsimp only at hS0
            go_simp
            try with_reducible rfl
          simp only [List.getElem_toArray, List.getElem_cons_zero, List.getElem_cons_succ, Act.put, List.setIfInBounds_toArray, List.set_cons_zero, List.set_cons_succ]
          refine wpTail.take (i := 6) (v := ?_) rfl (by kernel_rfl) (by kernel_rfl) (by kernel_rfl) (by kernel_rfl) (by kernel_rfl) (fun _ _ _ h => h) (Or.inl ⟨rfl, ?_⟩) hHeld ?_
          rotate_left
          · intro w0 hS0
            try dsimp only at hS0
            go_simp
            try with_reducible rfl
          simp only [List.getElem_toArray, List.getElem_cons_zero, List.getElem_cons_succ, Act.put, List.setIfInBounds_toArray, List.set_cons_zero, List.set_cons_succ]
          refine wpTail.take (i := 7) (v := ?_) rfl (by kernel_rfl) (by kernel_rfl) (by kernel_rfl) (by kernel_rfl) (by kernel_rfl) (fun _ _ _ h => h) (Or.inl ⟨rfl, ?_⟩) hHeld ?_
          rotate_left
          · intro w0 hS0
            try dsimp only at hS0
            go_simp
            try with_reducible rfl
          simp only [List.getElem_toArray, List.getElem_cons_zero, List.getElem_cons_succ, Act.put, List.setIfInBounds_toArray, List.set_cons_zero, List.set_cons_succ]
          refine wpTail.take (i := 9) (v := ?_) rfl (by kernel_rfl) (by kernel_rfl) (by kernel_rfl) (by kernel_rfl) (by kernel_rfl) (fun _ _ _ h => h) (Or.inl ⟨rfl, ?_⟩) hHeld ?_
          rotate_left
          · intro w0 hS0
            try dsimp only at hS0
            go_simp
            try with_reducible rfl
          simp only [List.getElem_toArray, List.getElem_cons_zero, List.getElem_cons_succ, Act.put, List.setIfInBounds_toArray, List.set_cons_zero, List.set_cons_succ]
          refine wpTail.take (i := 10) (v := ?_) rfl (by kernel_rfl) (by kernel_rfl) (by kernel_rfl) (by kernel_rfl) (by kernel_rfl) (fun _ _ _ h => h) (Or.inl ⟨rfl, ?_⟩) hHeld ?_
          rotate_left
          · intro w0 hS0
            try dsimp only at hS0
            go_simp
            try with_reducible rfl
          simp only [List.getElem_toArray, List.getElem_cons_zero, List.getElem_cons_succ, Act.put, List.setIfInBounds_toArray, List.set_cons_zero, List.set_cons_succ]
          refine wpTail.take (i := 11) (v := ?_) rfl (by kernel_rfl) (by kernel_rfl) (by kernel_rfl) (by kernel_rfl) (by kernel_rfl) (fun _ _ _ h => h) (Or.inl ⟨rfl, ?_⟩) hHeld ?_
          rotate_left
          · intro w0 hS0
            try dsimp only at hS0
            go_simp
            try with_reducible rfl
          simp only [List.getElem_toArray, List.getElem_cons_zero, List.getElem_cons_succ, Act.put, List.setIfInBounds_toArray, List.set_cons_zero, List.set_cons_succ]
          refine wpTail.take (i := 14) (v := ?_) rfl (by kernel_rfl) (by kernel_rfl) (by kernel_rfl) (by kernel_rfl) (by kernel_rfl) (fun _ _ _ h => h) (Or.inl ⟨rfl, ?_⟩) hHeld ?_
          rotate_left
          · intro w0 hS0
            try dsimp only at hS0
            go_simp
            try with_reducible rfl
          simp only [List.getElem_toArray, List.getElem_cons_zero, List.getElem_cons_succ, Act.put, List.setIfInBounds_toArray, List.set_cons_zero, List.set_cons_succ]
          refine wpTail.take (i := 15) (v := ?_) rfl (by kernel_rfl) (by kernel_rfl) (by kernel_rfl) (by kernel_rfl) (by kernel_rfl) (fun _ _ _ h => h) (Or.inl ⟨rfl, ?_⟩) hHeld ?_
          rotate_left
          · intro w0 hS0
            try dsimp only at hS0
            go_simp
            try with_reducible rfl
          simp only [List.getElem_toArray, List.getElem_cons_zero, List.getElem_cons_succ, Act.put, List.setIfInBounds_toArray, List.set_cons_zero, List.set_cons_succ]
          refine wpTail.take (i := 16) (v := ?_) rfl (by kernel_rfl) (by kernel_rfl) (by kernel_rfl) (by kernel_rfl) (by kernel_rfl) (fun _ _ _ h => h) (Or.inl ⟨rfl, ?_⟩) hHeld ?_
          rotate_left
          · intro w0 hS0
            try dsimp only at hS0
            go_simp
            try with_reducible rfl
          simp only [List.getElem_toArray, List.getElem_cons_zero, List.getElem_cons_succ, Act.put, List.setIfInBounds_toArray, List.set_cons_zero, List.set_cons_succ]
          refine wpTail.take (i := 17) (v := ?_) rfl (by kernel_rfl) (by kernel_rfl) (by kernel_rfl) (by kernel_rfl) (by kernel_rfl) (fun _ _ _ h => h) (Or.inl ⟨rfl, ?_⟩) hHeld ?_
          rotate_left
          · intro w0 hS0
            try dsimp only at hS0
            go_simp
            try with_reducible rfl
          simp only [List.getElem_toArray, List.getElem_cons_zero, List.getElem_cons_succ, Act.put, List.setIfInBounds_toArray, List.set_cons_zero, List.set_cons_succ]
          refine wpTail.take (i := 18) (v := ?_) rfl (by kernel_rfl) (by kernel_rfl) (by kernel_rfl) (by kernel_rfl) (by kernel_rfl) (fun _ _ _ h => h) (Or.inl ⟨rfl, ?_⟩) hHeld ?_
          rotate_left
          · intro w0 hS0
            try dsimp only at hS0
            go_simp
            try with_reducible rfl
          simp only [List.getElem_toArray, List.getElem_cons_zero, List.getElem_cons_succ, Act.put, List.setIfInBounds_toArray, List.set_cons_zero, List.set_cons_succ]
          refine wpTail.take (i := 19) (v := ?_) rfl (by kernel_rfl) (by kernel_rfl) (by kernel_rfl) (by kernel_rfl) (by kernel_rfl) (fun _ _ _ h => h) (Or.inl ⟨rfl, ?_⟩) hHeld ?_
          rotate_left
          · intro w0 hS0
            try dsimp only at hS0
            go_simp
            try with_reducible rfl
          simp only [List.getElem_toArray, List.getElem_cons_zero, List.getElem_cons_succ, Act.put, List.setIfInBounds_toArray, List.set_cons_zero, List.set_cons_succ]
          have hb0 : Below wb.heap.size wb wb.drew := (Below.refl _ _).drew
          refine wpTail.ready (rs := [1, 12]) (by kernel_rfl) (by simp) ?_
          refine AllTail.cons rfl (fun K hK => ?_) (AllTail.cons rfl (fun K hK => ?_) AllTail.nil)
          · rw [if_pos (by rfl)]
            go_simp
            have hb1 := hb0.alloc (hb0.size) (.cells #[] 39)
            have ho1 := own_empty wb.drew 39 wb.heap.size 2 (Nat.le_refl _)
            refine hK.out _ _ (fun _ => HS.out _ hb1) (fun hHeld => ?_)
            replace hHeld := hHeld (by decide)
            refine wpTail.ready (rs := [8, 12]) (by kernel_rfl) (by simp) ?_
            refine AllTail.cons rfl (fun K hK => ?_) (AllTail.cons rfl (fun K hK => ?_) AllTail.nil)
            · refine step_spread' (m := k) T_sub ho1 hb1 (Nat.le_refl _) (HR1.out.below hb1 (Nat.le_refl _)) rfl rfl rfl rfl HL1.out HO1.out ?_ ?_ ?_
              · omega
              · omega
              intro v2 w2 hown2 hb2 hg2
              try simp only [Nat.zero_add, List.nil_append] at hown2
              obtain ⟨av2, cv2, rfl, -, hln2, hcn2⟩ := ownsRow_row hown2
              refine hK.out _ _ (fun _ => HS.out _ hb2) (fun hHeld => ?_)
              replace hHeld := hHeld (by decide)
              refine wpTail.ready (rs := [12]) (by kernel_rfl) (by simp) ?_
              refine AllTail.cons rfl (fun K hK => ?_) AllTail.nil
              rw [if_pos (by rfl)]
              go_simp
              have hbl := hb2.alloc (hb2.size) (.cells #[.string ⟨f.toArray⟩, .int .u8 q] 39)
              have hlit := row_new w2 [.string ⟨f.toArray⟩, .int .u8 q] 39
              refine hK.out _ _ (fun _ => HS.out _ hbl) (fun hHeld => ?_)
              replace hHeld := hHeld (by decide)
              refine wpTail.ready (rs := [13]) (by kernel_rfl) (by simp) ?_
              refine AllTail.cons rfl (fun K hK => ?_) AllTail.nil
              refine step_spread' (m := 1) T_sub (ownsRow_lowD hown2 (low_alloc _ _)) hbl (Nat.le_refl _) hlit rfl rfl rfl rfl rfl HOL.out ?_ ?_ ?_
              · omega
              · omega
              intro v3 w3 hown3 hb3 hg3
              try simp only [Nat.zero_add, List.nil_append] at hown3
              obtain ⟨av3, cv3, rfl, -, hln3, hcn3⟩ := ownsRow_row hown3
              refine hK.out _ _ (fun _ => HS.out _ hb3) (fun hHeld => ?_)
              replace hHeld := hHeld (by decide)
              refine wpTail.ready (rs := [20]) (by kernel_rfl) (by simp) ?_
              refine AllTail.cons rfl (fun K hK => ?_) AllTail.nil
              refine step_spread' (m := (l2.length - k)) T_sub hown3 hb3 (Nat.le_refl _) (HR2.out.below hb3 (Nat.le_refl _)) rfl rfl rfl rfl HL2.out HO2.out ?_ ?_ ?_
              · omega
              · omega
              intro v4 w4 hown4 hb4 hg4
              try simp only [Nat.zero_add, List.nil_append] at hown4
              obtain ⟨av4, cv4, rfl, -, hln4, hcn4⟩ := ownsRow_row hown4
              refine hK.out _ _ (fun _ => HS.out _ hb4) (fun hHeld => ?_)
              replace hHeld := hHeld (by decide)
              refine wpTail.take (i := 21) (v := ?_) rfl (by kernel_rfl) (by kernel_rfl) (by kernel_rfl) (by kernel_rfl) (by kernel_rfl) (fun _ _ _ h => h) (Or.inl ⟨rfl, ?_⟩) hHeld ?_
              rotate_left
              · intro w0 hS0
                try dsimp only at hS0
                go_simp
                try with_reducible rfl
              simp only [List.getElem_toArray, List.getElem_cons_zero, List.getElem_cons_succ, Act.put, List.setIfInBounds_toArray, List.set_cons_zero, List.set_cons_succ]
              refine wpTail.take (i := 22) (v := ?_) rfl (by kernel_rfl) (by kernel_rfl) (by kernel_rfl) (by kernel_rfl) (by kernel_rfl) (fun _ _ _ h => h) (Or.inl ⟨rfl, ?_⟩) hHeld ?_
              rotate_left
              · intro w0 hS0
                try dsimp only at hS0
                go_simp
                try with_reducible rfl
              simp only [List.getElem_toArray, List.getElem_cons_zero, List.getElem_cons_succ, Act.put, List.setIfInBounds_toArray, List.set_cons_zero, List.set_cons_succ]
              have x0 := HS.out _ hb4
              obtain ⟨x1, hfin⟩ := HFIN.out _ _ _ hb4 hown4
              refine wpTail.ready (rs := [23]) (by kernel_rfl) (by simp) ?_
              refine AllTail.cons rfl (fun K hK => ?_) AllTail.nil
              rw [if_pos (by rfl)]
              go_simp
              refine hK.out _ _ (fun h => absurd rfl h) (fun _ => ?_)
              refine wpTail.done (by kernel_rfl) ?_ _
              go_wp2_with fail
              go_ret
              exact ⟨ret_int HE1.out.symm, hfin.out⟩
            · rw [if_pos (by rfl)]
              go_simp
              have hbl := hb1.alloc (hb1.size) (.cells #[.string ⟨f.toArray⟩, .int .u8 q] 39)
              have hlit := row_new (wb.drew.alloc (.cells #[] 39)) [.string ⟨f.toArray⟩, .int .u8 q] 39
              rw [show (wb.drew.alloc (.cells #[] 39)).heap.size = wb.heap.size + 1 by simp] at hlit
              refine hK.out _ _ (fun _ => HS.out _ hbl) (fun hHeld => ?_)
              replace hHeld := hHeld (by decide)
              refine wpTail.ready (rs := [8]) (by kernel_rfl) (by simp) ?_
              refine AllTail.cons rfl (fun K hK => ?_) AllTail.nil
              refine step_spread' (m := k) T_sub (ownsRow_lowD ho1 (low_alloc _ _)) hbl (Nat.le_refl _) (HR1.out.below hbl (Nat.le_refl _)) rfl rfl rfl rfl HL1.out HO1.out ?_ ?_ ?_
              · omega
              · omega
              intro v2 w2 hown2 hb2 hg2
              try simp only [Nat.zero_add, List.nil_append] at hown2
              obtain ⟨av2, cv2, rfl, -, hln2, hcn2⟩ := ownsRow_row hown2
              have hlit2 := row_grown hlit hg2 (fun b o e h => by cases e; simp [Value.ownBlock] at h)
              refine hK.out _ _ (fun _ => HS.out _ hb2) (fun hHeld => ?_)
              replace hHeld := hHeld (by decide)
              refine wpTail.ready (rs := [13]) (by kernel_rfl) (by simp) ?_
              refine AllTail.cons rfl (fun K hK => ?_) AllTail.nil
              refine step_spread' (m := 1) T_sub hown2 hb2 (Nat.le_refl _) hlit2 rfl rfl rfl rfl rfl HOL.out ?_ ?_ ?_
              · omega
              · omega
              intro v3 w3 hown3 hb3 hg3
              try simp only [Nat.zero_add, List.nil_append] at hown3
              obtain ⟨av3, cv3, rfl, -, hln3, hcn3⟩ := ownsRow_row hown3
              refine hK.out _ _ (fun _ => HS.out _ hb3) (fun hHeld => ?_)
              replace hHeld := hHeld (by decide)
              refine wpTail.ready (rs := [20]) (by kernel_rfl) (by simp) ?_
              refine AllTail.cons rfl (fun K hK => ?_) AllTail.nil
              refine step_spread' (m := (l2.length - k)) T_sub hown3 hb3 (Nat.le_refl _) (HR2.out.below hb3 (Nat.le_refl _)) rfl rfl rfl rfl HL2.out HO2.out ?_ ?_ ?_
              · omega
              · omega
              intro v4 w4 hown4 hb4 hg4
              try simp only [Nat.zero_add, List.nil_append] at hown4
              obtain ⟨av4, cv4, rfl, -, hln4, hcn4⟩ := ownsRow_row hown4
              refine hK.out _ _ (fun _ => HS.out _ hb4) (fun hHeld => ?_)
              replace hHeld := hHeld (by decide)
              refine wpTail.take (i := 21) (v := ?_) rfl (by kernel_rfl) (by kernel_rfl) (by kernel_rfl) (by kernel_rfl) (by kernel_rfl) (fun _ _ _ h => h) (Or.inl ⟨rfl, ?_⟩) hHeld ?_
              rotate_left
              · intro w0 hS0
                try dsimp only at hS0
                go_simp
                try with_reducible rfl
              simp only [List.getElem_toArray, List.getElem_cons_zero, List.getElem_cons_succ, Act.put, List.setIfInBounds_toArray, List.set_cons_zero, List.set_cons_succ]
              refine wpTail.take (i := 22) (v := ?_) rfl (by kernel_rfl) (by kernel_rfl) (by kernel_rfl) (by kernel_rfl) (by kernel_rfl) (fun _ _ _ h => h) (Or.inl ⟨rfl, ?_⟩) hHeld ?_
              rotate_left
              · intro w0 hS0
                try dsimp only at hS0
                go_simp
                try with_reducible rfl
              simp only [List.getElem_toArray, List.getElem_cons_zero, List.getElem_cons_succ, Act.put, List.setIfInBounds_toArray, List.set_cons_zero, List.set_cons_succ]
              have x0 := HS.out _ hb4
              obtain ⟨x1, hfin⟩ := HFIN.out _ _ _ hb4 hown4
              refine wpTail.ready (rs := [23]) (by kernel_rfl) (by simp) ?_
              refine AllTail.cons rfl (fun K hK => ?_) AllTail.nil
              rw [if_pos (by rfl)]
              go_simp
              refine hK.out _ _ (fun h => absurd rfl h) (fun _ => ?_)
              refine wpTail.done (by kernel_rfl) ?_ _
              go_wp2_with fail
              go_ret
              exact ⟨ret_int HE1.out.symm, hfin.out⟩
          · rw [if_pos (by rfl)]
            go_simp
            have hb1 := hb0.alloc (hb0.size) (.cells #[.string ⟨f.toArray⟩, .int .u8 q] 39)
            have hlit := row_new wb.drew [.string ⟨f.toArray⟩, .int .u8 q] 39
            refine hK.out _ _ (fun _ => HS.out _ hb1) (fun hHeld => ?_)
            replace hHeld := hHeld (by decide)
            refine wpTail.ready (rs := [1]) (by kernel_rfl) (by simp) ?_
            refine AllTail.cons rfl (fun K hK => ?_) AllTail.nil
            rw [if_pos (by rfl)]
            go_simp
            have hbl := hb1.alloc (hb1.size) (.cells #[] 39)
            have ho1 := own_empty (wb.drew.alloc (.cells #[.string ⟨f.toArray⟩, .int .u8 q] 39)) 39 wb.heap.size 2 hb1.size
            rw [show (wb.drew.alloc (.cells #[.string ⟨f.toArray⟩, .int .u8 q] 39)).heap.size = wb.heap.size + 1 by simp] at ho1
            refine hK.out _ _ (fun _ => HS.out _ hbl) (fun hHeld => ?_)
            replace hHeld := hHeld (by decide)
            refine wpTail.ready (rs := [8]) (by kernel_rfl) (by simp) ?_
            refine AllTail.cons rfl (fun K hK => ?_) AllTail.nil
            refine step_spread' (m := k) T_sub ho1 hbl (Nat.le_refl _) (HR1.out.below hbl (Nat.le_refl _)) rfl rfl rfl rfl HL1.out HO1.out ?_ ?_ ?_
            · omega
            · omega
            intro v2 w2 hown2 hb2 hg2
            try simp only [Nat.zero_add, List.nil_append] at hown2
            obtain ⟨av2, cv2, rfl, -, hln2, hcn2⟩ := ownsRow_row hown2
            have hlit2 := row_grown (hlit.below (low_alloc _ _) (Nat.le_refl _)) hg2 (fun b o e h => by cases e; simp [Value.ownBlock] at h)
            refine hK.out _ _ (fun _ => HS.out _ hb2) (fun hHeld => ?_)
            replace hHeld := hHeld (by decide)
            refine wpTail.ready (rs := [13]) (by kernel_rfl) (by simp) ?_
            refine AllTail.cons rfl (fun K hK => ?_) AllTail.nil
            refine step_spread' (m := 1) T_sub hown2 hb2 (Nat.le_refl _) hlit2 rfl rfl rfl rfl rfl HOL.out ?_ ?_ ?_
            · omega
            · omega
            intro v3 w3 hown3 hb3 hg3
            try simp only [Nat.zero_add, List.nil_append] at hown3
            obtain ⟨av3, cv3, rfl, -, hln3, hcn3⟩ := ownsRow_row hown3
            refine hK.out _ _ (fun _ => HS.out _ hb3) (fun hHeld => ?_)
            replace hHeld := hHeld (by decide)
            refine wpTail.ready (rs := [20]) (by kernel_rfl) (by simp) ?_
            refine AllTail.cons rfl (fun K hK => ?_) AllTail.nil
            refine step_spread' (m := (l2.length - k)) T_sub hown3 hb3 (Nat.le_refl _) (HR2.out.below hb3 (Nat.le_refl _)) rfl rfl rfl rfl HL2.out HO2.out ?_ ?_ ?_
            · omega
            · omega
            intro v4 w4 hown4 hb4 hg4
            try simp only [Nat.zero_add, List.nil_append] at hown4
            obtain ⟨av4, cv4, rfl, -, hln4, hcn4⟩ := ownsRow_row hown4
            refine hK.out _ _ (fun _ => HS.out _ hb4) (fun hHeld => ?_)
            replace hHeld := hHeld (by decide)
            refine wpTail.take (i := 21) (v := ?_) rfl (by kernel_rfl) (by kernel_rfl) (by kernel_rfl) (by kernel_rfl) (by kernel_rfl) (fun _ _ _ h => h) (Or.inl ⟨rfl, ?_⟩) hHeld ?_
            rotate_left
            · intro w0 hS0
              try dsimp only at hS0
              go_simp
              try with_reducible rfl
            simp only [List.getElem_toArray, List.getElem_cons_zero, List.getElem_cons_succ, Act.put, List.setIfInBounds_toArray, List.set_cons_zero, List.set_cons_succ]
            refine wpTail.take (i := 22) (v := ?_) rfl (by kernel_rfl) (by kernel_rfl) (by kernel_rfl) (by kernel_rfl) (by kernel_rfl) (fun _ _ _ h => h) (Or.inl ⟨rfl, ?_⟩) hHeld ?_
            rotate_left
            · intro w0 hS0
              try dsimp only at hS0
              go_simp
              try with_reducible rfl
            simp only [List.getElem_toArray, List.getElem_cons_zero, List.getElem_cons_succ, Act.put, List.setIfInBounds_toArray, List.set_cons_zero, List.set_cons_succ]
            have x0 := HS.out _ hb4
            obtain ⟨x1, hfin⟩ := HFIN.out _ _ _ hb4 hown4
            refine wpTail.ready (rs := [23]) (by kernel_rfl) (by simp) ?_
            refine AllTail.cons rfl (fun K hK => ?_) AllTail.nil
            rw [if_pos (by rfl)]
            go_simp
            refine hK.out _ _ (fun h => absurd rfl h) (fun _ => ?_)
            refine wpTail.done (by kernel_rfl) ?_ _
            go_wp2_with fail
            go_ret
            exact ⟨ret_int HE1.out.symm, hfin.out⟩
        · have hkl : ¬ (k : Int) < l2.length := by omega
          clear hgo
          go_wp2_with fail
          generalize wr = wb at *
          obtain ⟨⟨a1, hs1, hr1⟩, a2, hs2, hr2⟩ := slice_run Tryz.underlying27 (sz := 2) (by kernel_rfl) av l2.length cp k hk hcp
          have HR1 := Lib.hid (hr1 wb _ hrwb)
          have HR2 := Lib.hid (hr2 wb _ hrwb (subsV_length l2))
          have HS : Hid (∀ X : World, Below wb.heap.size wb X → X.cell? ⟨b, 0, none⟩ = some (.slice av l2.length cp)) := Lib.hid (fun X hX => (HH.out X (bnext hbb (Nat.le_refl _) hX)).1)
          have HFIN : Hid (∀ (X : World) (v : Value) (n : Nat), Below wb.heap.size wb X → X.ownsRow wb.heap.size 39 2 v n ((subsV l2).take (k * 2) ++ [.string ⟨f.toArray⟩, .int .u8 q] ++ (subsV l2).drop (k * 2)) → X.frozen? ⟨b, 0, none⟩ = false ∧ Hid (∃ F', DRep (X.setCell ⟨b, 0, none⟩ v) b (setE f q l) F' ∧ Upd F F' w (X.setCell ⟨b, 0, none⟩ v))) := Lib.hid (fun X v n hX ho => by
            have e : (subsV l2).take (k * 2) ++ [.string ⟨f.toArray⟩, .int .u8 q] ++ (subsV l2).drop (k * 2) = subsV (setE f q l) := by
              rw [HE2.out, HPUT.out, show [Value.string ⟨f.toArray⟩, Value.int .u8 q] = subsV [(f, q)] from rfl, subsV_take, subsV_drop, ← subsV_append, ← subsV_append, List.append_assoc]
            rw [e] at ho
            obtain ⟨a', c', rfl, h1, h2, h3⟩ := SRow.of_owns ho
            have hn : n = (setE f q l).length := by have := ho.1; rw [subsV_length] at this; omega
            obtain ⟨q1, q2, q3⟩ := (HD2.out.below hbb).store hX h3 (fun k hk => (ho.lt k (by simpa using hk)).1) h1 h2 (by rw [HE2.out]; exact sup_put HD0.out.up) HLEN.out _ rfl
            exact ⟨q1, Lib.hid ⟨_, q2, upd_trans HU2.out (upd_pre hbb q3)⟩⟩)
          have HL1 := Lib.hid (show ((subsV l2).take (k * 2)).length = k * 2 by rw [List.length_take, subsV_length]; omega)
          have HL2 := Lib.hid (show ((subsV l2).drop (k * 2)).length = (l2.length - k) * 2 by rw [List.length_drop, subsV_length]; omega)
          have HO1 := Lib.hid (fun u (hu : u ∈ (subsV l2).take (k * 2)) => subsV_one l2 u (List.mem_of_mem_take hu))
          have HO2 := Lib.hid (fun u (hu : u ∈ (subsV l2).drop (k * 2)) => subsV_one l2 u (List.mem_of_mem_drop hu))
          have HOL := Lib.hid (show ∀ u ∈ [Value.string ⟨f.toArray⟩, Value.int .u8 q], u.oneCell' = true by simp [Value.oneCell'])
          clear hr1 hr2
          refine wp_region_tail (S := fun X => X.cell? ⟨b, 0, none⟩ = some (.slice av l2.length cp)) 23 (by kernel_rfl) (HS.out _ ((Below.refl _ _).drew)) (fun hHeld => ?_)
          refine wpTail.take (i := 0) (v := ?_) rfl (by kernel_rfl) (by kernel_rfl) (by kernel_rfl) (by kernel_rfl) (by kernel_rfl) (fun _ _ _ h => h) (Or.inl ⟨rfl, ?_⟩) hHeld ?_
          rotate_left
          · intro w0 hS0
            try dsimp only at hS0
            go_simp
            try with_reducible rfl
          simp only [List.getElem_toArray, List.getElem_cons_zero, Act.put, List.setIfInBounds_toArray, List.set_cons_zero, List.set_cons_succ]
          refine wpTail.take (i := 2) (v := ?_) rfl (by kernel_rfl) (by kernel_rfl) (by kernel_rfl) (by kernel_rfl) (by kernel_rfl) (fun _ _ _ h => h) (Or.inl ⟨rfl, ?_⟩) hHeld ?_
          rotate_left
          · intro w0 hS0
            try dsimp only at hS0
            go_simp
            try with_reducible rfl
          simp only [List.getElem_toArray, List.getElem_cons_zero, List.getElem_cons_succ, Act.put, List.setIfInBounds_toArray, List.set_cons_zero, List.set_cons_succ]
          refine wpTail.take (i := 3) (v := ?_) rfl (by kernel_rfl) (by kernel_rfl) (by kernel_rfl) (by kernel_rfl) (by kernel_rfl) (fun _ _ _ h => h) (Or.inl ⟨rfl, ?_⟩) hHeld ?_
          rotate_left
          · intro w0 hS0
            try dsimp only at hS0
            go_simp
            try with_reducible rfl
          simp only [List.getElem_toArray, List.getElem_cons_zero, List.getElem_cons_succ, Act.put, List.setIfInBounds_toArray, List.set_cons_zero, List.set_cons_succ]
          refine wpTail.take (i := 4) (v := ?_) rfl (by kernel_rfl) (by kernel_rfl) (by kernel_rfl) (by kernel_rfl) (by kernel_rfl) (fun _ _ _ h => h) (Or.inl ⟨rfl, ?_⟩) hHeld ?_
          rotate_left
          · intro w0 hS0
            try dsimp only at hS0
            go_simp
            try with_reducible rfl
          simp only [List.getElem_toArray, List.getElem_cons_zero, List.getElem_cons_succ, Act.put, List.setIfInBounds_toArray, List.set_cons_zero, List.set_cons_succ]
          refine wpTail.take (i := 5) (v := ?_) rfl (by kernel_rfl) (by kernel_rfl) (by kernel_rfl) (by kernel_rfl) (by kernel_rfl) (fun _ _ _ h => h) (Or.inl ⟨rfl, ?_⟩) hHeld ?_
          rotate_left
          · intro w0 hS0
            try dsimp only at hS0
            go_simp
            try with_reducible rfl
          simp only [List.getElem_toArray, List.getElem_cons_zero, List.getElem_cons_succ, Act.put, List.setIfInBounds_toArray, List.set_cons_zero, List.set_cons_succ]
          refine wpTail.take (i := 6) (v := ?_) rfl (by kernel_rfl) (by kernel_rfl) (by kernel_rfl) (by kernel_rfl) (by kernel_rfl) (fun _ _ _ h => h) (Or.inl ⟨rfl, ?_⟩) hHeld ?_
          rotate_left
          · intro w0 hS0
            try dsimp only at hS0
            go_simp
            try with_reducible rfl
          simp only [List.getElem_toArray, List.getElem_cons_zero, List.getElem_cons_succ, Act.put, List.setIfInBounds_toArray, List.set_cons_zero, List.set_cons_succ]
          refine wpTail.take (i := 7) (v := ?_) rfl (by kernel_rfl) (by kernel_rfl) (by kernel_rfl) (by kernel_rfl) (by kernel_rfl) (fun _ _ _ h => h) (Or.inl ⟨rfl, ?_⟩) hHeld ?_
          rotate_left
          · intro w0 hS0
            try dsimp only at hS0
            go_simp
            try with_reducible rfl
          simp only [List.getElem_toArray, List.getElem_cons_zero, List.getElem_cons_succ, Act.put, List.setIfInBounds_toArray, List.set_cons_zero, List.set_cons_succ]
          refine wpTail.take (i := 9) (v := ?_) rfl (by kernel_rfl) (by kernel_rfl) (by kernel_rfl) (by kernel_rfl) (by kernel_rfl) (fun _ _ _ h => h) (Or.inl ⟨rfl, ?_⟩) hHeld ?_
          rotate_left
          · intro w0 hS0
            try dsimp only at hS0
            go_simp
            try with_reducible rfl
          simp only [List.getElem_toArray, List.getElem_cons_zero, List.getElem_cons_succ, Act.put, List.setIfInBounds_toArray, List.set_cons_zero, List.set_cons_succ]
          refine wpTail.take (i := 10) (v := ?_) rfl (by kernel_rfl) (by kernel_rfl) (by kernel_rfl) (by kernel_rfl) (by kernel_rfl) (fun _ _ _ h => h) (Or.inl ⟨rfl, ?_⟩) hHeld ?_
          rotate_left
          · intro w0 hS0
            try dsimp only at hS0
            go_simp
            try with_reducible rfl
          simp only [List.getElem_toArray, List.getElem_cons_zero, List.getElem_cons_succ, Act.put, List.setIfInBounds_toArray, List.set_cons_zero, List.set_cons_succ]
          refine wpTail.take (i := 11) (v := ?_) rfl (by kernel_rfl) (by kernel_rfl) (by kernel_rfl) (by kernel_rfl) (by kernel_rfl) (fun _ _ _ h => h) (Or.inl ⟨rfl, ?_⟩) hHeld ?_
          rotate_left
          · intro w0 hS0
            try dsimp only at hS0
            go_simp
            try with_reducible rfl
          simp only [List.getElem_toArray, List.getElem_cons_zero, List.getElem_cons_succ, Act.put, List.setIfInBounds_toArray, List.set_cons_zero, List.set_cons_succ]
          refine wpTail.take (i := 14) (v := ?_) rfl (by kernel_rfl) (by kernel_rfl) (by kernel_rfl) (by kernel_rfl) (by kernel_rfl) (fun _ _ _ h => h) (Or.inl ⟨rfl, ?_⟩) hHeld ?_
          rotate_left
          · intro w0 hS0
            try dsimp only at hS0
            go_simp
            try with_reducible rfl
          simp only [List.getElem_toArray, List.getElem_cons_zero, List.getElem_cons_succ, Act.put, List.setIfInBounds_toArray, List.set_cons_zero, List.set_cons_succ]
          refine wpTail.take (i := 15) (v := ?_) rfl (by kernel_rfl) (by kernel_rfl) (by kernel_rfl) (by kernel_rfl) (by kernel_rfl) (fun _ _ _ h => h) (Or.inl ⟨rfl, ?_⟩) hHeld ?_
          rotate_left
          · intro w0 hS0
            try dsimp only at hS0
            go_simp
            try with_reducible rfl
          simp only [List.getElem_toArray, List.getElem_cons_zero, List.getElem_cons_succ, Act.put, List.setIfInBounds_toArray, List.set_cons_zero, List.set_cons_succ]
          refine wpTail.take (i := 16) (v := ?_) rfl (by kernel_rfl) (by kernel_rfl) (by kernel_rfl) (by kernel_rfl) (by kernel_rfl) (fun _ _ _ h => h) (Or.inl ⟨rfl, ?_⟩) hHeld ?_
          rotate_left
          · intro w0 hS0
            try dsimp only at hS0
            go_simp
            try with_reducible rfl
          simp only [List.getElem_toArray, List.getElem_cons_zero, List.getElem_cons_succ, Act.put, List.setIfInBounds_toArray, List.set_cons_zero, List.set_cons_succ]
          refine wpTail.take (i := 17) (v := ?_) rfl (by kernel_rfl) (by kernel_rfl) (by kernel_rfl) (by kernel_rfl) (by kernel_rfl) (fun _ _ _ h => h) (Or.inl ⟨rfl, ?_⟩) hHeld ?_
          rotate_left
          · intro w0 hS0
            try dsimp only at hS0
            go_simp
            try with_reducible rfl
          simp only [List.getElem_toArray, List.getElem_cons_zero, List.getElem_cons_succ, Act.put, List.setIfInBounds_toArray, List.set_cons_zero, List.set_cons_succ]
          refine wpTail.take (i := 18) (v := ?_) rfl (by kernel_rfl) (by kernel_rfl) (by kernel_rfl) (by kernel_rfl) (by kernel_rfl) (fun _ _ _ h => h) (Or.inl ⟨rfl, ?_⟩) hHeld ?_
          rotate_left
          · intro w0 hS0
            try dsimp only at hS0
            go_simp
            try with_reducible rfl
          simp only [List.getElem_toArray, List.getElem_cons_zero, List.getElem_cons_succ, Act.put, List.setIfInBounds_toArray, List.set_cons_zero, List.set_cons_succ]
          refine wpTail.take (i := 19) (v := ?_) rfl (by kernel_rfl) (by kernel_rfl) (by kernel_rfl) (by kernel_rfl) (by kernel_rfl) (fun _ _ _ h => h) (Or.inl ⟨rfl, ?_⟩) hHeld ?_
          rotate_left
          · intro w0 hS0
            try dsimp only at hS0
            go_simp
            try with_reducible rfl
          simp only [List.getElem_toArray, List.getElem_cons_zero, List.getElem_cons_succ, Act.put, List.setIfInBounds_toArray, List.set_cons_zero, List.set_cons_succ]
          have hb0 : Below wb.heap.size wb wb.drew := (Below.refl _ _).drew
          refine wpTail.ready (rs := [1, 12]) (by kernel_rfl) (by simp) ?_
          refine AllTail.cons rfl (fun K hK => ?_) (AllTail.cons rfl (fun K hK => ?_) AllTail.nil)
          · rw [if_pos (by rfl)]
            go_simp
            have hb1 := hb0.alloc (hb0.size) (.cells #[] 39)
            have ho1 := own_empty wb.drew 39 wb.heap.size 2 (Nat.le_refl _)
            refine hK.out _ _ (fun _ => HS.out _ hb1) (fun hHeld => ?_)
            replace hHeld := hHeld (by decide)
            refine wpTail.ready (rs := [8, 12]) (by kernel_rfl) (by simp) ?_
            refine AllTail.cons rfl (fun K hK => ?_) (AllTail.cons rfl (fun K hK => ?_) AllTail.nil)
            · refine step_spread' (m := k) T_sub ho1 hb1 (Nat.le_refl _) (HR1.out.below hb1 (Nat.le_refl _)) rfl rfl rfl rfl HL1.out HO1.out ?_ ?_ ?_
              · omega
              · omega
              intro v2 w2 hown2 hb2 hg2
              try simp only [Nat.zero_add, List.nil_append] at hown2
              obtain ⟨av2, cv2, rfl, -, hln2, hcn2⟩ := ownsRow_row hown2
              refine hK.out _ _ (fun _ => HS.out _ hb2) (fun hHeld => ?_)
              replace hHeld := hHeld (by decide)
              refine wpTail.ready (rs := [12]) (by kernel_rfl) (by simp) ?_
              refine AllTail.cons rfl (fun K hK => ?_) AllTail.nil
              rw [if_pos (by rfl)]
              go_simp
              have hbl := hb2.alloc (hb2.size) (.cells #[.string ⟨f.toArray⟩, .int .u8 q] 39)
              have hlit := row_new w2 [.string ⟨f.toArray⟩, .int .u8 q] 39
              refine hK.out _ _ (fun _ => HS.out _ hbl) (fun hHeld => ?_)
              replace hHeld := hHeld (by decide)
              refine wpTail.ready (rs := [13]) (by kernel_rfl) (by simp) ?_
              refine AllTail.cons rfl (fun K hK => ?_) AllTail.nil
              refine step_spread' (m := 1) T_sub (ownsRow_lowD hown2 (low_alloc _ _)) hbl (Nat.le_refl _) hlit rfl rfl rfl rfl rfl HOL.out ?_ ?_ ?_
              · omega
              · omega
              intro v3 w3 hown3 hb3 hg3
              try simp only [Nat.zero_add, List.nil_append] at hown3
              obtain ⟨av3, cv3, rfl, -, hln3, hcn3⟩ := ownsRow_row hown3
              refine hK.out _ _ (fun _ => HS.out _ hb3) (fun hHeld => ?_)
              replace hHeld := hHeld (by decide)
              refine wpTail.ready (rs := [20]) (by kernel_rfl) (by simp) ?_
              refine AllTail.cons rfl (fun K hK => ?_) AllTail.nil
              refine step_spread' (m := (l2.length - k)) T_sub hown3 hb3 (Nat.le_refl _) (HR2.out.below hb3 (Nat.le_refl _)) rfl rfl rfl rfl HL2.out HO2.out ?_ ?_ ?_
              · omega
              · omega
              intro v4 w4 hown4 hb4 hg4
              try simp only [Nat.zero_add, List.nil_append] at hown4
              obtain ⟨av4, cv4, rfl, -, hln4, hcn4⟩ := ownsRow_row hown4
              refine hK.out _ _ (fun _ => HS.out _ hb4) (fun hHeld => ?_)
              replace hHeld := hHeld (by decide)
              refine wpTail.take (i := 21) (v := ?_) rfl (by kernel_rfl) (by kernel_rfl) (by kernel_rfl) (by kernel_rfl) (by kernel_rfl) (fun _ _ _ h => h) (Or.inl ⟨rfl, ?_⟩) hHeld ?_
              rotate_left
              · intro w0 hS0
                try dsimp only at hS0
                go_simp
                try with_reducible rfl
              simp only [List.getElem_toArray, List.getElem_cons_zero, List.getElem_cons_succ, Act.put, List.setIfInBounds_toArray, List.set_cons_zero, List.set_cons_succ]
              refine wpTail.take (i := 22) (v := ?_) rfl (by kernel_rfl) (by kernel_rfl) (by kernel_rfl) (by kernel_rfl) (by kernel_rfl) (fun _ _ _ h => h) (Or.inl ⟨rfl, ?_⟩) hHeld ?_
              rotate_left
              · intro w0 hS0
                try dsimp only at hS0
                go_simp
                try with_reducible rfl
              simp only [List.getElem_toArray, List.getElem_cons_zero, List.getElem_cons_succ, Act.put, List.setIfInBounds_toArray, List.set_cons_zero, List.set_cons_succ]
              have x0 := HS.out _ hb4
              obtain ⟨x1, hfin⟩ := HFIN.out _ _ _ hb4 hown4
              refine wpTail.ready (rs := [23]) (by kernel_rfl) (by simp) ?_
              refine AllTail.cons rfl (fun K hK => ?_) AllTail.nil
              rw [if_pos (by rfl)]
              go_simp
              refine hK.out _ _ (fun h => absurd rfl h) (fun _ => ?_)
              refine wpTail.done (by kernel_rfl) ?_ _
              go_wp2_with fail
              go_ret
              exact ⟨ret_int HE1.out.symm, hfin.out⟩
            · rw [if_pos (by rfl)]
              go_simp
              have hbl := hb1.alloc (hb1.size) (.cells #[.string ⟨f.toArray⟩, .int .u8 q] 39)
              have hlit := row_new (wb.drew.alloc (.cells #[] 39)) [.string ⟨f.toArray⟩, .int .u8 q] 39
              rw [show (wb.drew.alloc (.cells #[] 39)).heap.size = wb.heap.size + 1 by simp] at hlit
              refine hK.out _ _ (fun _ => HS.out _ hbl) (fun hHeld => ?_)
              replace hHeld := hHeld (by decide)
              refine wpTail.ready (rs := [8]) (by kernel_rfl) (by simp) ?_
              refine AllTail.cons rfl (fun K hK => ?_) AllTail.nil
              refine step_spread' (m := k) T_sub (ownsRow_lowD ho1 (low_alloc _ _)) hbl (Nat.le_refl _) (HR1.out.below hbl (Nat.le_refl _)) rfl rfl rfl rfl HL1.out HO1.out ?_ ?_ ?_
              · omega
              · omega
              intro v2 w2 hown2 hb2 hg2
              try simp only [Nat.zero_add, List.nil_append] at hown2
              obtain ⟨av2, cv2, rfl, -, hln2, hcn2⟩ := ownsRow_row hown2
              have hlit2 := row_grown hlit hg2 (fun b o e h => by cases e; simp [Value.ownBlock] at h)
              refine hK.out _ _ (fun _ => HS.out _ hb2) (fun hHeld => ?_)
              replace hHeld := hHeld (by decide)
              refine wpTail.ready (rs := [13]) (by kernel_rfl) (by simp) ?_
              refine AllTail.cons rfl (fun K hK => ?_) AllTail.nil
              refine step_spread' (m := 1) T_sub hown2 hb2 (Nat.le_refl _) hlit2 rfl rfl rfl rfl rfl HOL.out ?_ ?_ ?_
              · omega
              · omega
              intro v3 w3 hown3 hb3 hg3
              try simp only [Nat.zero_add, List.nil_append] at hown3
              obtain ⟨av3, cv3, rfl, -, hln3, hcn3⟩ := ownsRow_row hown3
              refine hK.out _ _ (fun _ => HS.out _ hb3) (fun hHeld => ?_)
              replace hHeld := hHeld (by decide)
              refine wpTail.ready (rs := [20]) (by kernel_rfl) (by simp) ?_
              refine AllTail.cons rfl (fun K hK => ?_) AllTail.nil
              refine step_spread' (m := (l2.length - k)) T_sub hown3 hb3 (Nat.le_refl _) (HR2.out.below hb3 (Nat.le_refl _)) rfl rfl rfl rfl HL2.out HO2.out ?_ ?_ ?_
              · omega
              · omega
              intro v4 w4 hown4 hb4 hg4
              try simp only [Nat.zero_add, List.nil_append] at hown4
              obtain ⟨av4, cv4, rfl, -, hln4, hcn4⟩ := ownsRow_row hown4
              refine hK.out _ _ (fun _ => HS.out _ hb4) (fun hHeld => ?_)
              replace hHeld := hHeld (by decide)
              refine wpTail.take (i := 21) (v := ?_) rfl (by kernel_rfl) (by kernel_rfl) (by kernel_rfl) (by kernel_rfl) (by kernel_rfl) (fun _ _ _ h => h) (Or.inl ⟨rfl, ?_⟩) hHeld ?_
              rotate_left
              · intro w0 hS0
                try dsimp only at hS0
                go_simp
                try with_reducible rfl
              simp only [List.getElem_toArray, List.getElem_cons_zero, List.getElem_cons_succ, Act.put, List.setIfInBounds_toArray, List.set_cons_zero, List.set_cons_succ]
              refine wpTail.take (i := 22) (v := ?_) rfl (by kernel_rfl) (by kernel_rfl) (by kernel_rfl) (by kernel_rfl) (by kernel_rfl) (fun _ _ _ h => h) (Or.inl ⟨rfl, ?_⟩) hHeld ?_
              rotate_left
              · intro w0 hS0
                try dsimp only at hS0
                go_simp
                try with_reducible rfl
              simp only [List.getElem_toArray, List.getElem_cons_zero, List.getElem_cons_succ, Act.put, List.setIfInBounds_toArray, List.set_cons_zero, List.set_cons_succ]
              have x0 := HS.out _ hb4
              obtain ⟨x1, hfin⟩ := HFIN.out _ _ _ hb4 hown4
              refine wpTail.ready (rs := [23]) (by kernel_rfl) (by simp) ?_
              refine AllTail.cons rfl (fun K hK => ?_) AllTail.nil
              rw [if_pos (by rfl)]
              go_simp
              refine hK.out _ _ (fun h => absurd rfl h) (fun _ => ?_)
              refine wpTail.done (by kernel_rfl) ?_ _
              go_wp2_with fail
              go_ret
              exact ⟨ret_int HE1.out.symm, hfin.out⟩
          · rw [if_pos (by rfl)]
            go_simp
            have hb1 := hb0.alloc (hb0.size) (.cells #[.string ⟨f.toArray⟩, .int .u8 q] 39)
            have hlit := row_new wb.drew [.string ⟨f.toArray⟩, .int .u8 q] 39
            refine hK.out _ _ (fun _ => HS.out _ hb1) (fun hHeld => ?_)
            replace hHeld := hHeld (by decide)
            refine wpTail.ready (rs := [1]) (by kernel_rfl) (by simp) ?_
            refine AllTail.cons rfl (fun K hK => ?_) AllTail.nil
            rw [if_pos (by rfl)]
            go_simp
            have hbl := hb1.alloc (hb1.size) (.cells #[] 39)
            have ho1 := own_empty (wb.drew.alloc (.cells #[.string ⟨f.toArray⟩, .int .u8 q] 39)) 39 wb.heap.size 2 hb1.size
            rw [show (wb.drew.alloc (.cells #[.string ⟨f.toArray⟩, .int .u8 q] 39)).heap.size = wb.heap.size + 1 by simp] at ho1
            refine hK.out _ _ (fun _ => HS.out _ hbl) (fun hHeld => ?_)
            replace hHeld := hHeld (by decide)
            refine wpTail.ready (rs := [8]) (by kernel_rfl) (by simp) ?_
            refine AllTail.cons rfl (fun K hK => ?_) AllTail.nil
            refine step_spread' (m := k) T_sub ho1 hbl (Nat.le_refl _) (HR1.out.below hbl (Nat.le_refl _)) rfl rfl rfl rfl HL1.out HO1.out ?_ ?_ ?_
            · omega
            · omega
            intro v2 w2 hown2 hb2 hg2
            try simp only [Nat.zero_add, List.nil_append] at hown2
            obtain ⟨av2, cv2, rfl, -, hln2, hcn2⟩ := ownsRow_row hown2
            have hlit2 := row_grown (hlit.below (low_alloc _ _) (Nat.le_refl _)) hg2 (fun b o e h => by cases e; simp [Value.ownBlock] at h)
            refine hK.out _ _ (fun _ => HS.out _ hb2) (fun hHeld => ?_)
            replace hHeld := hHeld (by decide)
            refine wpTail.ready (rs := [13]) (by kernel_rfl) (by simp) ?_
            refine AllTail.cons rfl (fun K hK => ?_) AllTail.nil
            refine step_spread' (m := 1) T_sub hown2 hb2 (Nat.le_refl _) hlit2 rfl rfl rfl rfl rfl HOL.out ?_ ?_ ?_
            · omega
            · omega
            intro v3 w3 hown3 hb3 hg3
            try simp only [Nat.zero_add, List.nil_append] at hown3
            obtain ⟨av3, cv3, rfl, -, hln3, hcn3⟩ := ownsRow_row hown3
            refine hK.out _ _ (fun _ => HS.out _ hb3) (fun hHeld => ?_)
            replace hHeld := hHeld (by decide)
            refine wpTail.ready (rs := [20]) (by kernel_rfl) (by simp) ?_
            refine AllTail.cons rfl (fun K hK => ?_) AllTail.nil
            refine step_spread' (m := (l2.length - k)) T_sub hown3 hb3 (Nat.le_refl _) (HR2.out.below hb3 (Nat.le_refl _)) rfl rfl rfl rfl HL2.out HO2.out ?_ ?_ ?_
            · omega
            · omega
            intro v4 w4 hown4 hb4 hg4
            try simp only [Nat.zero_add, List.nil_append] at hown4
            obtain ⟨av4, cv4, rfl, -, hln4, hcn4⟩ := ownsRow_row hown4
            refine hK.out _ _ (fun _ => HS.out _ hb4) (fun hHeld => ?_)
            replace hHeld := hHeld (by decide)
            refine wpTail.take (i := 21) (v := ?_) rfl (by kernel_rfl) (by kernel_rfl) (by kernel_rfl) (by kernel_rfl) (by kernel_rfl) (fun _ _ _ h => h) (Or.inl ⟨rfl, ?_⟩) hHeld ?_
            rotate_left
            · intro w0 hS0
              try dsimp only at hS0
              go_simp
              try with_reducible rfl
            simp only [List.getElem_toArray, List.getElem_cons_zero, List.getElem_cons_succ, Act.put, List.setIfInBounds_toArray, List.set_cons_zero, List.set_cons_succ]
            refine wpTail.take (i := 22) (v := ?_) rfl (by kernel_rfl) (by kernel_rfl) (by kernel_rfl) (by kernel_rfl) (by kernel_rfl) (fun _ _ _ h => h) (Or.inl ⟨rfl, ?_⟩) hHeld ?_
            rotate_left
            · intro w0 hS0
              try dsimp only at hS0
              go_simp
              try with_reducible rfl
            simp only [List.getElem_toArray, List.getElem_cons_zero, List.getElem_cons_succ, Act.put, List.setIfInBounds_toArray, List.set_cons_zero, List.set_cons_succ]
            have x0 := HS.out _ hb4
            obtain ⟨x1, hfin⟩ := HFIN.out _ _ _ hb4 hown4
            refine wpTail.ready (rs := [23]) (by kernel_rfl) (by simp) ?_
            refine AllTail.cons rfl (fun K hK => ?_) AllTail.nil
            rw [if_pos (by rfl)]
            go_simp
            refine hK.out _ _ (fun h => absurd rfl h) (fun _ => ?_)
            refine wpTail.done (by kernel_rfl) ?_ _
            go_wp2_with fail
            go_ret
            exact ⟨ret_int HE1.out.symm, hfin.out⟩
end Go.Proofs.YthfeckndkmhieaaGreatDoor
