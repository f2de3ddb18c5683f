/- The trie: Match's 'from' at a level that is not the last: one way each. (Printed by gen_match.py.) -/
import Derived.Test.YthfdcphecggjeaaGreatDoorQL
namespace Go.Proofs.YthfdcphecggjeaaGreatDoor
open Go Go.RowKit Go.Maps

set_option maxRecDepth 100000 in
set_option maxHeartbeats 8000000 in
theorem mat_succ_1011 (bn bmb bl bf bm t B : Nat) (hn nn : Int) (nd : Path → Nd) (Ns : List Path) (Hs : List (Path × Str)) (nm : ByteArray) (L : Path) (_hti : Tight Ns Hs) (hnm : 0 < nm.size) (hroom : Hs.length + B ≤ 4294967296) (_hLl : L.length < 4294967296) (i : Nat) (p : Path) (w : World) (D : DataW Unit) (hlt : i < L.length) (hxs : (⟨L[i].toArray⟩ : ByteArray).size ≤ maxLen) (hp : p ∈ Ns) (hE : MatE bn bmb bl bf bm t B hn nn nd Ns Hs nm L w) (hM : Met bm Hs w D)
    (HC : Hid (∀ (q : Path) (w : World) (D : DataW Unit), q ∈ Ns → MatE bn bmb bl bf bm t B hn nn nd Ns Hs nm L w → Met bm Hs w D → Calls Tryz.prog 56 #[.pointer (some ⟨(nd q).b, 0, none⟩), .int .i64 ((i : Int) + 1), .pointer (some ⟨bn, 0, none⟩), .pointer (some ⟨bmb, 0, none⟩), .pointer (some ⟨bl, 0, none⟩), .pointer (some ⟨bf, 0, none⟩)] w (MatG bm Hs w D (fun c => tkB Hs c false q (L.drop (i + 1))))))
    (hk35 : p ++ [[35]] ∈ Ns) (hk43 : p ++ [[43]] ∈ Ns) (hkx : p ++ [L[i]] ∈ Ns) (hhd0 : hidB i nm.data.toList = false) :
    Calls Tryz.prog 56 #[.pointer (some ⟨(nd p).b, 0, none⟩), .int .i64 i, .pointer (some ⟨bn, 0, none⟩), .pointer (some ⟨bmb, 0, none⟩), .pointer (some ⟨bl, 0, none⟩), .pointer (some ⟨bf, 0, none⟩)] w
      (MatG bm Hs w D (fun c => tkB Hs c (hidB i nm.data.toList) p (L.drop i))) := by
  have hLi : L.drop i = L[i] :: L.drop (i + 1) := List.drop_eq_getElem_cons hlt
  rw [hLi]
  have h1 : ((i : Int) == L.length) = false := by simp; omega
  have hi0 : (0 : Int) ≤ i := by omega
  have hiL : (i : Int) < L.length := by omega
  have hw1 : IntKind.i64.wrap ((i : Int) + 1) = (i : Int) + 1 := w_i64 _ (by omega) (by omega)
  have HEw := Lib.hid hE
  have HMw := Lib.hid hM
  have HDw := Lib.hid (Mod.refl [bm] w)
  have hcn := hE.cn
  obtain ⟨b0, hb0⟩ : ∃ b, ((i : Int) == 0) = b := ⟨_, rfl⟩
  obtain ⟨bd, hbd⟩ : ∃ b, (((nm[0]'hnm).toNat : Int) == 36) = b := ⟨_, rfl⟩
  obtain ⟨hd, hhd⟩ : ∃ h, hidB i nm.data.toList = h := ⟨_, rfl⟩
  have HHD : Hid ((b0 && bd) = hd) := Lib.hid (by
    rw [← hhd, ← hb0, ← hbd]
    unfold hidB
    congr 1
    · rw [Bool.eq_iff_iff]; simp
    · have h0 := bget nm 0 hnm
      rw [show nm.data.toList.headD 0 = nm[0]'hnm by rw [List.headD_eq_head?_getD, List.head?_eq_getElem?, h0]; rfl, Bool.eq_iff_iff, beq_iff_eq, beq_iff_eq]
      exact ⟨fun h => UInt8.toNat_inj.1 (by simp; omega), fun h => by rw [h]; rfl⟩)
  obtain rfl : hd = false := hhd.symm.trans hhd0
  rw [hhd]
  have hnm0 : (0 : Int) < nm.size := by omega
  have hbl := byte_lt (nm[0]'hnm)
  clear hE hM hhd
  go_enter Tryz.func56, Tryz.ntmps56
  go_upto_region 0 with fail
  go_cut [8] from 12 to 18 (fun h wx => h = .bool false ∧ w = wx)
  case first =>
    cases b0 with
    | false =>
      go_wp2_with fail
      go_meet
      exact ⟨rfl, rfl⟩
    | true =>
      obtain rfl : bd = false := by have := HHD.out; simpa using this
      go_wp2_with fail
      go_meet
      exact ⟨rfl, rfl⟩
  case rest =>
    obtain ⟨rfl, rfl⟩ := hcut
    clear hb0 hbd hcn hnm0 HHD
    obtain ⟨c0w35, hlw35⟩ := HEw.out.kid hp [35] (by show 1 ≤ maxLen; unfold maxLen; omega)
    rw [show kidOf nd Ns p [35] = some (nd (p ++ [[35]])).b from if_pos hk35] at hlw35
    simp only [ptrV] at hlw35
    go_wp2_with fail
    have cm := HEw.out.cm
    have c1 := HEw.out.rep.c1 hk35
    refine wp_region_held_drew (S := fun W => W.cell? ⟨bmb, 0, none⟩ = some (.map (some bm)) ∧ W.cell? ⟨(nd (p ++ [[35]])).b, 1, none⟩ = some (.map (nd (p ++ [[35]])).cb)) (by kernel_rfl) ⟨cm, c1⟩ (fun hHeld => ?_)
    refine wpAnyH_take (i := 0) (v := ?_) rfl (by kernel_rfl) (by kernel_rfl) (by kernel_rfl) (fun _ _ _ h => h) (Or.inl ⟨rfl, ?_⟩) hHeld ?_
    rotate_left
    · intro w0 hS0
      try dsimp only at hS0
      go_simp
      try with_reducible rfl
    simp only [List.getElem_toArray, List.getElem_cons_zero, Act.put, List.setIfInBounds_toArray, List.set_cons_zero, List.set_cons_succ]
    refine wpAnyH_take (i := 1) (v := ?_) rfl (by kernel_rfl) (by kernel_rfl) (by kernel_rfl) (fun _ _ _ h => h) (Or.inl ⟨rfl, ?_⟩) hHeld ?_
    rotate_left
    · intro w0 hS0
      try dsimp only at hS0
      go_simp
      try with_reducible rfl
    simp only [List.getElem_toArray, List.getElem_cons_zero, List.getElem_cons_succ, Act.put, List.setIfInBounds_toArray, List.set_cons_zero, List.set_cons_succ]
    refine wpAnyH_take (i := 2) (v := ?_) rfl (by kernel_rfl) (by kernel_rfl) (by kernel_rfl) (fun _ _ _ h => h) (Or.inl ⟨rfl, ?_⟩) hHeld ?_
    rotate_left
    · intro w0 hS0
      try dsimp only at hS0
      go_simp
      try with_reducible rfl
    simp only [List.getElem_toArray, List.getElem_cons_zero, List.getElem_cons_succ, Act.put, List.setIfInBounds_toArray, List.set_cons_zero, List.set_cons_succ]
    refine wpAnyH_take (i := 3) (v := ?_) rfl (by kernel_rfl) (by kernel_rfl) (by kernel_rfl) (fun _ _ _ h => h) (Or.inl ⟨rfl, ?_⟩) hHeld ?_
    rotate_left
    · intro w0 hS0
      try dsimp only at hS0
      go_simp
      try with_reducible rfl
    simp only [List.getElem_toArray, List.getElem_cons_zero, List.getElem_cons_succ, Act.put, List.setIfInBounds_toArray, List.set_cons_zero, List.set_cons_succ]
    refine wpAnyH_take (i := 4) (v := ?_) rfl (by kernel_rfl) (by kernel_rfl) (by kernel_rfl) (fun _ _ _ h => h) (Or.inl ⟨rfl, ?_⟩) hHeld ?_
    rotate_left
    · intro w0 hS0
      try dsimp only at hS0
      go_simp
      try with_reducible rfl
    simp only [List.getElem_toArray, List.getElem_cons_zero, List.getElem_cons_succ, Act.put, List.setIfInBounds_toArray, List.set_cons_zero, List.set_cons_succ]
    refine wpAnyH_ready (rs := [5]) (by kernel_rfl) (by simp) ?_
    refine AllReadyH.cons rfl (fun K hK => ?_) AllReadyH.nil
    rw [if_pos (by rfl)]
    go_simp
    go_at_call 57
    refine (mat_copy (HEw.out.below (drewN_below _ 1)) (HMw.out.below (drewN_below _ 1)) hk35 hroom).mono ?_
    rintro e wA ⟨rfl, DA, hE, hM, hhwA, hm⟩
    have HEwA := Lib.hid hE
    have HMwA := Lib.hid hM
    have HDwA := Lib.hid (show Mod [bm] w wA from (HDw.out.drewN 1).trans hm (fun _ h => .inl h))
    have HHwA := Lib.hid hhwA
    refine hK.out _ _ ⟨hE.cm, hE.rep.c1 hk35⟩ (fun hHeld => ?_)
    refine wpAnyH_done (by kernel_rfl) ?_ _
    clear hHeld hE hM hm cm c1 hhwA
    obtain ⟨c0wA43, hlwA43⟩ := HEwA.out.kid hp [43] (by show 1 ≤ maxLen; unfold maxLen; omega)
    rw [show kidOf nd Ns p [43] = some (nd (p ++ [[43]])).b from if_pos hk43] at hlwA43
    simp only [ptrV] at hlwA43
    have cfwA := HEwA.out.self
    obtain ⟨caxwA, bxwA, oxwA, clwA, kxwA, c0xwA, hlxwA⟩ := HEwA.out.at hp hlt hxs
    rw [show kidOf nd Ns p L[i] = some (nd (p ++ [L[i]])).b from if_pos hkx] at hlxwA
    simp only [ptrV] at hlxwA
    go_wp2_with fail
    refine (HC.out (p ++ [[43]]) _ DA hk43 HEwA.out HMwA.out).mono ?_
    rintro e wB ⟨rfl, DB, hM, hhwB, hm⟩
    have HEwB := Lib.hid (HEwA.out.mod hm hM.map)
    have HMwB := Lib.hid hM
    have HDwB := Lib.hid (show Mod [bm] w wB from HDwA.out.trans hm (fun _ h => .inl h))
    have HHwB := Lib.hid hhwB
    clear hM hm hhwB
    clear clwA kxwA c0xwA hlxwA cfwA
    have cfwB := HEwB.out.self
    obtain ⟨caxwB, bxwB, oxwB, clwB, kxwB, c0xwB, hlxwB⟩ := HEwB.out.at hp hlt hxs
    rw [show kidOf nd Ns p L[i] = some (nd (p ++ [L[i]])).b from if_pos hkx] at hlxwB
    simp only [ptrV] at hlxwB
    go_wp2_with fail
    go_quiet (fail)
    go_wp2_with fail
    refine (HC.out (p ++ [L[i]]) _ DB hkx (HEwB.out.below (drewN_below _ nq)) (HMwB.out.below (drewN_below _ nq))).mono ?_
    rintro e wC ⟨rfl, DC, hM, hhwC, hm⟩
    have HEwC := Lib.hid ((HEwB.out.below (drewN_below _ nq)).mod hm hM.map)
    have HMwC := Lib.hid hM
    have HDwC := Lib.hid (show Mod [bm] w wC from (HDwB.out.drewN nq).trans hm (fun _ h => .inl h))
    have HHwC := Lib.hid hhwC
    clear hM hm hhwC
    go_wp2_with fail
    go_end0
    exact ⟨rfl, DC, HMwC.out, fun c => by rw [HHwC.out, HHwB.out, HHwA.out]; simp [tkB, Bool.or_assoc], HDwC.out⟩
set_option maxRecDepth 100000 in
set_option maxHeartbeats 8000000 in
theorem mat_succ_1010 (bn bmb bl bf bm t B : Nat) (hn nn : Int) (nd : Path → Nd) (Ns : List Path) (Hs : List (Path × Str)) (nm : ByteArray) (L : Path) (hti : Tight Ns Hs) (hnm : 0 < nm.size) (hroom : Hs.length + B ≤ 4294967296) (_hLl : L.length < 4294967296) (i : Nat) (p : Path) (w : World) (D : DataW Unit) (hlt : i < L.length) (hxs : (⟨L[i].toArray⟩ : ByteArray).size ≤ maxLen) (hp : p ∈ Ns) (hE : MatE bn bmb bl bf bm t B hn nn nd Ns Hs nm L w) (hM : Met bm Hs w D)
    (HC : Hid (∀ (q : Path) (w : World) (D : DataW Unit), q ∈ Ns → MatE bn bmb bl bf bm t B hn nn nd Ns Hs nm L w → Met bm Hs w D → Calls Tryz.prog 56 #[.pointer (some ⟨(nd q).b, 0, none⟩), .int .i64 ((i : Int) + 1), .pointer (some ⟨bn, 0, none⟩), .pointer (some ⟨bmb, 0, none⟩), .pointer (some ⟨bl, 0, none⟩), .pointer (some ⟨bf, 0, none⟩)] w (MatG bm Hs w D (fun c => tkB Hs c false q (L.drop (i + 1))))))
    (hk35 : p ++ [[35]] ∈ Ns) (hk43 : p ++ [[43]] ∈ Ns) (hkx : p ++ [L[i]] ∉ Ns) (hhd0 : hidB i nm.data.toList = false) :
    Calls Tryz.prog 56 #[.pointer (some ⟨(nd p).b, 0, none⟩), .int .i64 i, .pointer (some ⟨bn, 0, none⟩), .pointer (some ⟨bmb, 0, none⟩), .pointer (some ⟨bl, 0, none⟩), .pointer (some ⟨bf, 0, none⟩)] w
      (MatG bm Hs w D (fun c => tkB Hs c (hidB i nm.data.toList) p (L.drop i))) := by
  have hLi : L.drop i = L[i] :: L.drop (i + 1) := List.drop_eq_getElem_cons hlt
  rw [hLi]
  have h1 : ((i : Int) == L.length) = false := by simp; omega
  have hi0 : (0 : Int) ≤ i := by omega
  have hiL : (i : Int) < L.length := by omega
  have hw1 : IntKind.i64.wrap ((i : Int) + 1) = (i : Int) + 1 := w_i64 _ (by omega) (by omega)
  have HEw := Lib.hid hE
  have HMw := Lib.hid hM
  have HDw := Lib.hid (Mod.refl [bm] w)
  have hcn := hE.cn
  obtain ⟨b0, hb0⟩ : ∃ b, ((i : Int) == 0) = b := ⟨_, rfl⟩
  obtain ⟨bd, hbd⟩ : ∃ b, (((nm[0]'hnm).toNat : Int) == 36) = b := ⟨_, rfl⟩
  obtain ⟨hd, hhd⟩ : ∃ h, hidB i nm.data.toList = h := ⟨_, rfl⟩
  have HHD : Hid ((b0 && bd) = hd) := Lib.hid (by
    rw [← hhd, ← hb0, ← hbd]
    unfold hidB
    congr 1
    · rw [Bool.eq_iff_iff]; simp
    · have h0 := bget nm 0 hnm
      rw [show nm.data.toList.headD 0 = nm[0]'hnm by rw [List.headD_eq_head?_getD, List.head?_eq_getElem?, h0]; rfl, Bool.eq_iff_iff, beq_iff_eq, beq_iff_eq]
      exact ⟨fun h => UInt8.toNat_inj.1 (by simp; omega), fun h => by rw [h]; rfl⟩)
  obtain rfl : hd = false := hhd.symm.trans hhd0
  rw [hhd]
  have hnm0 : (0 : Int) < nm.size := by omega
  have hbl := byte_lt (nm[0]'hnm)
  clear hE hM hhd
  go_enter Tryz.func56, Tryz.ntmps56
  go_upto_region 0 with fail
  go_cut [8] from 12 to 18 (fun h wx => h = .bool false ∧ w = wx)
  case first =>
    cases b0 with
    | false =>
      go_wp2_with fail
      go_meet
      exact ⟨rfl, rfl⟩
    | true =>
      obtain rfl : bd = false := by have := HHD.out; simpa using this
      go_wp2_with fail
      go_meet
      exact ⟨rfl, rfl⟩
  case rest =>
    obtain ⟨rfl, rfl⟩ := hcut
    clear hb0 hbd hcn hnm0 HHD
    obtain ⟨c0w35, hlw35⟩ := HEw.out.kid hp [35] (by show 1 ≤ maxLen; unfold maxLen; omega)
    rw [show kidOf nd Ns p [35] = some (nd (p ++ [[35]])).b from if_pos hk35] at hlw35
    simp only [ptrV] at hlw35
    go_wp2_with fail
    have cm := HEw.out.cm
    have c1 := HEw.out.rep.c1 hk35
    refine wp_region_held_drew (S := fun W => W.cell? ⟨bmb, 0, none⟩ = some (.map (some bm)) ∧ W.cell? ⟨(nd (p ++ [[35]])).b, 1, none⟩ = some (.map (nd (p ++ [[35]])).cb)) (by kernel_rfl) ⟨cm, c1⟩ (fun hHeld => ?_)
    refine wpAnyH_take (i := 0) (v := ?_) rfl (by kernel_rfl) (by kernel_rfl) (by kernel_rfl) (fun _ _ _ h => h) (Or.inl ⟨rfl, ?_⟩) hHeld ?_
    rotate_left
    · intro w0 hS0
      try dsimp only at hS0
      go_simp
      try with_reducible rfl
    simp only [List.getElem_toArray, List.getElem_cons_zero, Act.put, List.setIfInBounds_toArray, List.set_cons_zero, List.set_cons_succ]
    refine wpAnyH_take (i := 1) (v := ?_) rfl (by kernel_rfl) (by kernel_rfl) (by kernel_rfl) (fun _ _ _ h => h) (Or.inl ⟨rfl, ?_⟩) hHeld ?_
    rotate_left
    · intro w0 hS0
      try dsimp only at hS0
      go_simp
      try with_reducible rfl
    simp only [List.getElem_toArray, List.getElem_cons_zero, List.getElem_cons_succ, Act.put, List.setIfInBounds_toArray, List.set_cons_zero, List.set_cons_succ]
    refine wpAnyH_take (i := 2) (v := ?_) rfl (by kernel_rfl) (by kernel_rfl) (by kernel_rfl) (fun _ _ _ h => h) (Or.inl ⟨rfl, ?_⟩) hHeld ?_
    rotate_left
    · intro w0 hS0
      try dsimp only at hS0
      go_simp
      try with_reducible rfl
    simp only [List.getElem_toArray, List.getElem_cons_zero, List.getElem_cons_succ, Act.put, List.setIfInBounds_toArray, List.set_cons_zero, List.set_cons_succ]
    refine wpAnyH_take (i := 3) (v := ?_) rfl (by kernel_rfl) (by kernel_rfl) (by kernel_rfl) (fun _ _ _ h => h) (Or.inl ⟨rfl, ?_⟩) hHeld ?_
    rotate_left
    · intro w0 hS0
      try dsimp only at hS0
      go_simp
      try with_reducible rfl
    simp only [List.getElem_toArray, List.getElem_cons_zero, List.getElem_cons_succ, Act.put, List.setIfInBounds_toArray, List.set_cons_zero, List.set_cons_succ]
    refine wpAnyH_take (i := 4) (v := ?_) rfl (by kernel_rfl) (by kernel_rfl) (by kernel_rfl) (fun _ _ _ h => h) (Or.inl ⟨rfl, ?_⟩) hHeld ?_
    rotate_left
    · intro w0 hS0
      try dsimp only at hS0
      go_simp
      try with_reducible rfl
    simp only [List.getElem_toArray, List.getElem_cons_zero, List.getElem_cons_succ, Act.put, List.setIfInBounds_toArray, List.set_cons_zero, List.set_cons_succ]
    refine wpAnyH_ready (rs := [5]) (by kernel_rfl) (by simp) ?_
    refine AllReadyH.cons rfl (fun K hK => ?_) AllReadyH.nil
    rw [if_pos (by rfl)]
    go_simp
    go_at_call 57
    refine (mat_copy (HEw.out.below (drewN_below _ 1)) (HMw.out.below (drewN_below _ 1)) hk35 hroom).mono ?_
    rintro e wA ⟨rfl, DA, hE, hM, hhwA, hm⟩
    have HEwA := Lib.hid hE
    have HMwA := Lib.hid hM
    have HDwA := Lib.hid (show Mod [bm] w wA from (HDw.out.drewN 1).trans hm (fun _ h => .inl h))
    have HHwA := Lib.hid hhwA
    refine hK.out _ _ ⟨hE.cm, hE.rep.c1 hk35⟩ (fun hHeld => ?_)
    refine wpAnyH_done (by kernel_rfl) ?_ _
    clear hHeld hE hM hm cm c1 hhwA
    obtain ⟨c0wA43, hlwA43⟩ := HEwA.out.kid hp [43] (by show 1 ≤ maxLen; unfold maxLen; omega)
    rw [show kidOf nd Ns p [43] = some (nd (p ++ [[43]])).b from if_pos hk43] at hlwA43
    simp only [ptrV] at hlwA43
    have cfwA := HEwA.out.self
    obtain ⟨caxwA, bxwA, oxwA, clwA, kxwA, c0xwA, hlxwA⟩ := HEwA.out.at hp hlt hxs
    rw [show kidOf nd Ns p L[i] = none from if_neg hkx] at hlxwA
    simp only [ptrV] at hlxwA
    go_wp2_with fail
    refine (HC.out (p ++ [[43]]) _ DA hk43 HEwA.out HMwA.out).mono ?_
    rintro e wB ⟨rfl, DB, hM, hhwB, hm⟩
    have HEwB := Lib.hid (HEwA.out.mod hm hM.map)
    have HMwB := Lib.hid hM
    have HDwB := Lib.hid (show Mod [bm] w wB from HDwA.out.trans hm (fun _ h => .inl h))
    have HHwB := Lib.hid hhwB
    clear hM hm hhwB
    clear clwA kxwA c0xwA hlxwA cfwA
    have cfwB := HEwB.out.self
    obtain ⟨caxwB, bxwB, oxwB, clwB, kxwB, c0xwB, hlxwB⟩ := HEwB.out.at hp hlt hxs
    rw [show kidOf nd Ns p L[i] = none from if_neg hkx] at hlxwB
    simp only [ptrV] at hlxwB
    go_wp2_with fail
    go_quiet (fail)
    go_wp2_with fail
    go_end0
    exact ⟨rfl, DB, HMwB.out.below (drewN_below _ _), fun c => by rw [HHwB.out, HHwA.out]; simp [tkB, tkB_dead hti hkx, Bool.or_assoc], HDwB.out.drewN _⟩
set_option maxRecDepth 100000 in
set_option maxHeartbeats 8000000 in
theorem mat_succ_1001 (bn bmb bl bf bm t B : Nat) (hn nn : Int) (nd : Path → Nd) (Ns : List Path) (Hs : List (Path × Str)) (nm : ByteArray) (L : Path) (hti : Tight Ns Hs) (hnm : 0 < nm.size) (hroom : Hs.length + B ≤ 4294967296) (_hLl : L.length < 4294967296) (i : Nat) (p : Path) (w : World) (D : DataW Unit) (hlt : i < L.length) (hxs : (⟨L[i].toArray⟩ : ByteArray).size ≤ maxLen) (hp : p ∈ Ns) (hE : MatE bn bmb bl bf bm t B hn nn nd Ns Hs nm L w) (hM : Met bm Hs w D)
    (HC : Hid (∀ (q : Path) (w : World) (D : DataW Unit), q ∈ Ns → MatE bn bmb bl bf bm t B hn nn nd Ns Hs nm L w → Met bm Hs w D → Calls Tryz.prog 56 #[.pointer (some ⟨(nd q).b, 0, none⟩), .int .i64 ((i : Int) + 1), .pointer (some ⟨bn, 0, none⟩), .pointer (some ⟨bmb, 0, none⟩), .pointer (some ⟨bl, 0, none⟩), .pointer (some ⟨bf, 0, none⟩)] w (MatG bm Hs w D (fun c => tkB Hs c false q (L.drop (i + 1))))))
    (hk35 : p ++ [[35]] ∈ Ns) (hk43 : p ++ [[43]] ∉ Ns) (hkx : p ++ [L[i]] ∈ Ns) (hhd0 : hidB i nm.data.toList = false) :
    Calls Tryz.prog 56 #[.pointer (some ⟨(nd p).b, 0, none⟩), .int .i64 i, .pointer (some ⟨bn, 0, none⟩), .pointer (some ⟨bmb, 0, none⟩), .pointer (some ⟨bl, 0, none⟩), .pointer (some ⟨bf, 0, none⟩)] w
      (MatG bm Hs w D (fun c => tkB Hs c (hidB i nm.data.toList) p (L.drop i))) := by
  have hLi : L.drop i = L[i] :: L.drop (i + 1) := List.drop_eq_getElem_cons hlt
  rw [hLi]
  have h1 : ((i : Int) == L.length) = false := by simp; omega
  have hi0 : (0 : Int) ≤ i := by omega
  have hiL : (i : Int) < L.length := by omega
  have hw1 : IntKind.i64.wrap ((i : Int) + 1) = (i : Int) + 1 := w_i64 _ (by omega) (by omega)
  have HEw := Lib.hid hE
  have HMw := Lib.hid hM
  have HDw := Lib.hid (Mod.refl [bm] w)
  have hcn := hE.cn
  obtain ⟨b0, hb0⟩ : ∃ b, ((i : Int) == 0) = b := ⟨_, rfl⟩
  obtain ⟨bd, hbd⟩ : ∃ b, (((nm[0]'hnm).toNat : Int) == 36) = b := ⟨_, rfl⟩
  obtain ⟨hd, hhd⟩ : ∃ h, hidB i nm.data.toList = h := ⟨_, rfl⟩
  have HHD : Hid ((b0 && bd) = hd) := Lib.hid (by
    rw [← hhd, ← hb0, ← hbd]
    unfold hidB
    congr 1
    · rw [Bool.eq_iff_iff]; simp
    · have h0 := bget nm 0 hnm
      rw [show nm.data.toList.headD 0 = nm[0]'hnm by rw [List.headD_eq_head?_getD, List.head?_eq_getElem?, h0]; rfl, Bool.eq_iff_iff, beq_iff_eq, beq_iff_eq]
      exact ⟨fun h => UInt8.toNat_inj.1 (by simp; omega), fun h => by rw [h]; rfl⟩)
  obtain rfl : hd = false := hhd.symm.trans hhd0
  rw [hhd]
  have hnm0 : (0 : Int) < nm.size := by omega
  have hbl := byte_lt (nm[0]'hnm)
  clear hE hM hhd
  go_enter Tryz.func56, Tryz.ntmps56
  go_upto_region 0 with fail
  go_cut [8] from 12 to 18 (fun h wx => h = .bool false ∧ w = wx)
  case first =>
    cases b0 with
    | false =>
      go_wp2_with fail
      go_meet
      exact ⟨rfl, rfl⟩
    | true =>
      obtain rfl : bd = false := by have := HHD.out; simpa using this
      go_wp2_with fail
      go_meet
      exact ⟨rfl, rfl⟩
  case rest =>
    obtain ⟨rfl, rfl⟩ := hcut
    clear hb0 hbd hcn hnm0 HHD
    obtain ⟨c0w35, hlw35⟩ := HEw.out.kid hp [35] (by show 1 ≤ maxLen; unfold maxLen; omega)
    rw [show kidOf nd Ns p [35] = some (nd (p ++ [[35]])).b from if_pos hk35] at hlw35
    simp only [ptrV] at hlw35
    go_wp2_with fail
    have cm := HEw.out.cm
    have c1 := HEw.out.rep.c1 hk35
    refine wp_region_held_drew (S := fun W => W.cell? ⟨bmb, 0, none⟩ = some (.map (some bm)) ∧ W.cell? ⟨(nd (p ++ [[35]])).b, 1, none⟩ = some (.map (nd (p ++ [[35]])).cb)) (by kernel_rfl) ⟨cm, c1⟩ (fun hHeld => ?_)
    refine wpAnyH_take (i := 0) (v := ?_) rfl (by kernel_rfl) (by kernel_rfl) (by kernel_rfl) (fun _ _ _ h => h) (Or.inl ⟨rfl, ?_⟩) hHeld ?_
    rotate_left
    · intro w0 hS0
      try dsimp only at hS0
      go_simp
      try with_reducible rfl
    simp only [List.getElem_toArray, List.getElem_cons_zero, Act.put, List.setIfInBounds_toArray, List.set_cons_zero, List.set_cons_succ]
    refine wpAnyH_take (i := 1) (v := ?_) rfl (by kernel_rfl) (by kernel_rfl) (by kernel_rfl) (fun _ _ _ h => h) (Or.inl ⟨rfl, ?_⟩) hHeld ?_
    rotate_left
    · intro w0 hS0
      try dsimp only at hS0
      go_simp
      try with_reducible rfl
    simp only [List.getElem_toArray, List.getElem_cons_zero, List.getElem_cons_succ, Act.put, List.setIfInBounds_toArray, List.set_cons_zero, List.set_cons_succ]
    refine wpAnyH_take (i := 2) (v := ?_) rfl (by kernel_rfl) (by kernel_rfl) (by kernel_rfl) (fun _ _ _ h => h) (Or.inl ⟨rfl, ?_⟩) hHeld ?_
    rotate_left
    · intro w0 hS0
      try dsimp only at hS0
      go_simp
      try with_reducible rfl
    simp only [List.getElem_toArray, List.getElem_cons_zero, List.getElem_cons_succ, Act.put, List.setIfInBounds_toArray, List.set_cons_zero, List.set_cons_succ]
    refine wpAnyH_take (i := 3) (v := ?_) rfl (by kernel_rfl) (by kernel_rfl) (by kernel_rfl) (fun _ _ _ h => h) (Or.inl ⟨rfl, ?_⟩) hHeld ?_
    rotate_left
    · intro w0 hS0
      try dsimp only at hS0
      go_simp
      try with_reducible rfl
    simp only [List.getElem_toArray, List.getElem_cons_zero, List.getElem_cons_succ, Act.put, List.setIfInBounds_toArray, List.set_cons_zero, List.set_cons_succ]
    refine wpAnyH_take (i := 4) (v := ?_) rfl (by kernel_rfl) (by kernel_rfl) (by kernel_rfl) (fun _ _ _ h => h) (Or.inl ⟨rfl, ?_⟩) hHeld ?_
    rotate_left
    · intro w0 hS0
      try dsimp only at hS0
      go_simp
      try with_reducible rfl
    simp only [List.getElem_toArray, List.getElem_cons_zero, List.getElem_cons_succ, Act.put, List.setIfInBounds_toArray, List.set_cons_zero, List.set_cons_succ]
    refine wpAnyH_ready (rs := [5]) (by kernel_rfl) (by simp) ?_
    refine AllReadyH.cons rfl (fun K hK => ?_) AllReadyH.nil
    rw [if_pos (by rfl)]
    go_simp
    go_at_call 57
    refine (mat_copy (HEw.out.below (drewN_below _ 1)) (HMw.out.below (drewN_below _ 1)) hk35 hroom).mono ?_
    rintro e wA ⟨rfl, DA, hE, hM, hhwA, hm⟩
    have HEwA := Lib.hid hE
    have HMwA := Lib.hid hM
    have HDwA := Lib.hid (show Mod [bm] w wA from (HDw.out.drewN 1).trans hm (fun _ h => .inl h))
    have HHwA := Lib.hid hhwA
    refine hK.out _ _ ⟨hE.cm, hE.rep.c1 hk35⟩ (fun hHeld => ?_)
    refine wpAnyH_done (by kernel_rfl) ?_ _
    clear hHeld hE hM hm cm c1 hhwA
    obtain ⟨c0wA43, hlwA43⟩ := HEwA.out.kid hp [43] (by show 1 ≤ maxLen; unfold maxLen; omega)
    rw [show kidOf nd Ns p [43] = none from if_neg hk43] at hlwA43
    simp only [ptrV] at hlwA43
    have cfwA := HEwA.out.self
    obtain ⟨caxwA, bxwA, oxwA, clwA, kxwA, c0xwA, hlxwA⟩ := HEwA.out.at hp hlt hxs
    rw [show kidOf nd Ns p L[i] = some (nd (p ++ [L[i]])).b from if_pos hkx] at hlxwA
    simp only [ptrV] at hlxwA
    go_wp2_with fail
    go_quiet (fail)
    go_wp2_with fail
    refine (HC.out (p ++ [L[i]]) _ DA hkx (HEwA.out.below (drewN_below _ nq)) (HMwA.out.below (drewN_below _ nq))).mono ?_
    rintro e wC ⟨rfl, DC, hM, hhwC, hm⟩
    have HEwC := Lib.hid ((HEwA.out.below (drewN_below _ nq)).mod hm hM.map)
    have HMwC := Lib.hid hM
    have HDwC := Lib.hid (show Mod [bm] w wC from (HDwA.out.drewN nq).trans hm (fun _ h => .inl h))
    have HHwC := Lib.hid hhwC
    clear hM hm hhwC
    go_wp2_with fail
    go_end0
    exact ⟨rfl, DC, HMwC.out, fun c => by rw [HHwC.out, HHwA.out]; simp [tkB, tkB_dead hti hk43, Bool.or_assoc], HDwC.out⟩
set_option maxRecDepth 100000 in
set_option maxHeartbeats 8000000 in
theorem mat_succ_1000 (bn bmb bl bf bm t B : Nat) (hn nn : Int) (nd : Path → Nd) (Ns : List Path) (Hs : List (Path × Str)) (nm : ByteArray) (L : Path) (hti : Tight Ns Hs) (hnm : 0 < nm.size) (hroom : Hs.length + B ≤ 4294967296) (_hLl : L.length < 4294967296) (i : Nat) (p : Path) (w : World) (D : DataW Unit) (hlt : i < L.length) (hxs : (⟨L[i].toArray⟩ : ByteArray).size ≤ maxLen) (hp : p ∈ Ns) (hE : MatE bn bmb bl bf bm t B hn nn nd Ns Hs nm L w) (hM : Met bm Hs w D)
    (_HC : Hid (∀ (q : Path) (w : World) (D : DataW Unit), q ∈ Ns → MatE bn bmb bl bf bm t B hn nn nd Ns Hs nm L w → Met bm Hs w D → Calls Tryz.prog 56 #[.pointer (some ⟨(nd q).b, 0, none⟩), .int .i64 ((i : Int) + 1), .pointer (some ⟨bn, 0, none⟩), .pointer (some ⟨bmb, 0, none⟩), .pointer (some ⟨bl, 0, none⟩), .pointer (some ⟨bf, 0, none⟩)] w (MatG bm Hs w D (fun c => tkB Hs c false q (L.drop (i + 1))))))
    (hk35 : p ++ [[35]] ∈ Ns) (hk43 : p ++ [[43]] ∉ Ns) (hkx : p ++ [L[i]] ∉ Ns) (hhd0 : hidB i nm.data.toList = false) :
    Calls Tryz.prog 56 #[.pointer (some ⟨(nd p).b, 0, none⟩), .int .i64 i, .pointer (some ⟨bn, 0, none⟩), .pointer (some ⟨bmb, 0, none⟩), .pointer (some ⟨bl, 0, none⟩), .pointer (some ⟨bf, 0, none⟩)] w
      (MatG bm Hs w D (fun c => tkB Hs c (hidB i nm.data.toList) p (L.drop i))) := by
  have hLi : L.drop i = L[i] :: L.drop (i + 1) := List.drop_eq_getElem_cons hlt
  rw [hLi]
  have h1 : ((i : Int) == L.length) = false := by simp; omega
  have hi0 : (0 : Int) ≤ i := by omega
  have hiL : (i : Int) < L.length := by omega
  have hw1 : IntKind.i64.wrap ((i : Int) + 1) = (i : Int) + 1 := w_i64 _ (by omega) (by omega)
  have HEw := Lib.hid hE
  have HMw := Lib.hid hM
  have HDw := Lib.hid (Mod.refl [bm] w)
  have hcn := hE.cn
  obtain ⟨b0, hb0⟩ : ∃ b, ((i : Int) == 0) = b := ⟨_, rfl⟩
  obtain ⟨bd, hbd⟩ : ∃ b, (((nm[0]'hnm).toNat : Int) == 36) = b := ⟨_, rfl⟩
  obtain ⟨hd, hhd⟩ : ∃ h, hidB i nm.data.toList = h := ⟨_, rfl⟩
  have HHD : Hid ((b0 && bd) = hd) := Lib.hid (by
    rw [← hhd, ← hb0, ← hbd]
    unfold hidB
    congr 1
    · rw [Bool.eq_iff_iff]; simp
    · have h0 := bget nm 0 hnm
      rw [show nm.data.toList.headD 0 = nm[0]'hnm by rw [List.headD_eq_head?_getD, List.head?_eq_getElem?, h0]; rfl, Bool.eq_iff_iff, beq_iff_eq, beq_iff_eq]
      exact ⟨fun h => UInt8.toNat_inj.1 (by simp; omega), fun h => by rw [h]; rfl⟩)
  obtain rfl : hd = false := hhd.symm.trans hhd0
  rw [hhd]
  have hnm0 : (0 : Int) < nm.size := by omega
  have hbl := byte_lt (nm[0]'hnm)
  clear hE hM hhd
  go_enter Tryz.func56, Tryz.ntmps56
  go_upto_region 0 with fail
  go_cut [8] from 12 to 18 (fun h wx => h = .bool false ∧ w = wx)
  case first =>
    cases b0 with
    | false =>
      go_wp2_with fail
      go_meet
      exact ⟨rfl, rfl⟩
    | true =>
      obtain rfl : bd = false := by have := HHD.out; simpa using this
      go_wp2_with fail
      go_meet
      exact ⟨rfl, rfl⟩
  case rest =>
    obtain ⟨rfl, rfl⟩ := hcut
    clear hb0 hbd hcn hnm0 HHD
    obtain ⟨c0w35, hlw35⟩ := HEw.out.kid hp [35] (by show 1 ≤ maxLen; unfold maxLen; omega)
    rw [show kidOf nd Ns p [35] = some (nd (p ++ [[35]])).b from if_pos hk35] at hlw35
    simp only [ptrV] at hlw35
    go_wp2_with fail
    have cm := HEw.out.cm
    have c1 := HEw.out.rep.c1 hk35
    refine wp_region_held_drew (S := fun W => W.cell? ⟨bmb, 0, none⟩ = some (.map (some bm)) ∧ W.cell? ⟨(nd (p ++ [[35]])).b, 1, none⟩ = some (.map (nd (p ++ [[35]])).cb)) (by kernel_rfl) ⟨cm, c1⟩ (fun hHeld => ?_)
    refine wpAnyH_take (i := 0) (v := ?_) rfl (by kernel_rfl) (by kernel_rfl) (by kernel_rfl) (fun _ _ _ h => h) (Or.inl ⟨rfl, ?_⟩) hHeld ?_
    rotate_left
    · intro w0 hS0
      try dsimp only at hS0
      go_simp
      try with_reducible rfl
    simp only [List.getElem_toArray, List.getElem_cons_zero, Act.put, List.setIfInBounds_toArray, List.set_cons_zero, List.set_cons_succ]
    refine wpAnyH_take (i := 1) (v := ?_) rfl (by kernel_rfl) (by kernel_rfl) (by kernel_rfl) (fun _ _ _ h => h) (Or.inl ⟨rfl, ?_⟩) hHeld ?_
    rotate_left
    · intro w0 hS0
      try dsimp only at hS0
      go_simp
      try with_reducible rfl
    simp only [List.getElem_toArray, List.getElem_cons_zero, List.getElem_cons_succ, Act.put, List.setIfInBounds_toArray, List.set_cons_zero, List.set_cons_succ]
    refine wpAnyH_take (i := 2) (v := ?_) rfl (by kernel_rfl) (by kernel_rfl) (by kernel_rfl) (fun _ _ _ h => h) (Or.inl ⟨rfl, ?_⟩) hHeld ?_
    rotate_left
    · intro w0 hS0
      try dsimp only at hS0
      go_simp
      try with_reducible rfl
    simp only [List.getElem_toArray, List.getElem_cons_zero, List.getElem_cons_succ, Act.put, List.setIfInBounds_toArray, List.set_cons_zero, List.set_cons_succ]
    refine wpAnyH_take (i := 3) (v := ?_) rfl (by kernel_rfl) (by kernel_rfl) (by kernel_rfl) (fun _ _ _ h => h) (Or.inl ⟨rfl, ?_⟩) hHeld ?_
    rotate_left
    · intro w0 hS0
      try dsimp only at hS0
      go_simp
      try with_reducible rfl
    simp only [List.getElem_toArray, List.getElem_cons_zero, List.getElem_cons_succ, Act.put, List.setIfInBounds_toArray, List.set_cons_zero, List.set_cons_succ]
    refine wpAnyH_take (i := 4) (v := ?_) rfl (by kernel_rfl) (by kernel_rfl) (by kernel_rfl) (fun _ _ _ h => h) (Or.inl ⟨rfl, ?_⟩) hHeld ?_
    rotate_left
    · intro w0 hS0
      try dsimp only at hS0
      go_simp
      try with_reducible rfl
    simp only [List.getElem_toArray, List.getElem_cons_zero, List.getElem_cons_succ, Act.put, List.setIfInBounds_toArray, List.set_cons_zero, List.set_cons_succ]
    refine wpAnyH_ready (rs := [5]) (by kernel_rfl) (by simp) ?_
    refine AllReadyH.cons rfl (fun K hK => ?_) AllReadyH.nil
    rw [if_pos (by rfl)]
    go_simp
    go_at_call 57
    refine (mat_copy (HEw.out.below (drewN_below _ 1)) (HMw.out.below (drewN_below _ 1)) hk35 hroom).mono ?_
    rintro e wA ⟨rfl, DA, hE, hM, hhwA, hm⟩
    have HEwA := Lib.hid hE
    have HMwA := Lib.hid hM
    have HDwA := Lib.hid (show Mod [bm] w wA from (HDw.out.drewN 1).trans hm (fun _ h => .inl h))
    have HHwA := Lib.hid hhwA
    refine hK.out _ _ ⟨hE.cm, hE.rep.c1 hk35⟩ (fun hHeld => ?_)
    refine wpAnyH_done (by kernel_rfl) ?_ _
    clear hHeld hE hM hm cm c1 hhwA
    obtain ⟨c0wA43, hlwA43⟩ := HEwA.out.kid hp [43] (by show 1 ≤ maxLen; unfold maxLen; omega)
    rw [show kidOf nd Ns p [43] = none from if_neg hk43] at hlwA43
    simp only [ptrV] at hlwA43
    have cfwA := HEwA.out.self
    obtain ⟨caxwA, bxwA, oxwA, clwA, kxwA, c0xwA, hlxwA⟩ := HEwA.out.at hp hlt hxs
    rw [show kidOf nd Ns p L[i] = none from if_neg hkx] at hlxwA
    simp only [ptrV] at hlxwA
    go_wp2_with fail
    go_quiet (fail)
    go_wp2_with fail
    go_end0
    exact ⟨rfl, DA, HMwA.out.below (drewN_below _ _), fun c => by rw [HHwA.out]; simp [tkB, tkB_dead hti hk43, tkB_dead hti hkx], HDwA.out.drewN _⟩
set_option maxRecDepth 100000 in
set_option maxHeartbeats 8000000 in
theorem mat_succ_1111 (bn bmb bl bf bm t B : Nat) (hn nn : Int) (nd : Path → Nd) (Ns : List Path) (Hs : List (Path × Str)) (nm : ByteArray) (L : Path) (_hti : Tight Ns Hs) (hnm : 0 < nm.size) (_hroom : Hs.length + B ≤ 4294967296) (_hLl : L.length < 4294967296) (i : Nat) (p : Path) (w : World) (D : DataW Unit) (hlt : i < L.length) (hxs : (⟨L[i].toArray⟩ : ByteArray).size ≤ maxLen) (hp : p ∈ Ns) (hE : MatE bn bmb bl bf bm t B hn nn nd Ns Hs nm L w) (hM : Met bm Hs w D)
    (HC : Hid (∀ (q : Path) (w : World) (D : DataW Unit), q ∈ Ns → MatE bn bmb bl bf bm t B hn nn nd Ns Hs nm L w → Met bm Hs w D → Calls Tryz.prog 56 #[.pointer (some ⟨(nd q).b, 0, none⟩), .int .i64 ((i : Int) + 1), .pointer (some ⟨bn, 0, none⟩), .pointer (some ⟨bmb, 0, none⟩), .pointer (some ⟨bl, 0, none⟩), .pointer (some ⟨bf, 0, none⟩)] w (MatG bm Hs w D (fun c => tkB Hs c false q (L.drop (i + 1))))))
    (hk35 : p ++ [[35]] ∈ Ns) (hk43 : p ++ [[43]] ∈ Ns) (hkx : p ++ [L[i]] ∈ Ns) (hhd0 : hidB i nm.data.toList = true) :
    Calls Tryz.prog 56 #[.pointer (some ⟨(nd p).b, 0, none⟩), .int .i64 i, .pointer (some ⟨bn, 0, none⟩), .pointer (some ⟨bmb, 0, none⟩), .pointer (some ⟨bl, 0, none⟩), .pointer (some ⟨bf, 0, none⟩)] w
      (MatG bm Hs w D (fun c => tkB Hs c (hidB i nm.data.toList) p (L.drop i))) := by
  have hLi : L.drop i = L[i] :: L.drop (i + 1) := List.drop_eq_getElem_cons hlt
  rw [hLi]
  have h1 : ((i : Int) == L.length) = false := by simp; omega
  have hi0 : (0 : Int) ≤ i := by omega
  have hiL : (i : Int) < L.length := by omega
  have hw1 : IntKind.i64.wrap ((i : Int) + 1) = (i : Int) + 1 := w_i64 _ (by omega) (by omega)
  have HEw := Lib.hid hE
  have HMw := Lib.hid hM
  have HDw := Lib.hid (Mod.refl [bm] w)
  have hcn := hE.cn
  obtain ⟨b0, hb0⟩ : ∃ b, ((i : Int) == 0) = b := ⟨_, rfl⟩
  obtain ⟨bd, hbd⟩ : ∃ b, (((nm[0]'hnm).toNat : Int) == 36) = b := ⟨_, rfl⟩
  obtain ⟨hd, hhd⟩ : ∃ h, hidB i nm.data.toList = h := ⟨_, rfl⟩
  have HHD : Hid ((b0 && bd) = hd) := Lib.hid (by
    rw [← hhd, ← hb0, ← hbd]
    unfold hidB
    congr 1
    · rw [Bool.eq_iff_iff]; simp
    · have h0 := bget nm 0 hnm
      rw [show nm.data.toList.headD 0 = nm[0]'hnm by rw [List.headD_eq_head?_getD, List.head?_eq_getElem?, h0]; rfl, Bool.eq_iff_iff, beq_iff_eq, beq_iff_eq]
      exact ⟨fun h => UInt8.toNat_inj.1 (by simp; omega), fun h => by rw [h]; rfl⟩)
  obtain rfl : hd = true := hhd.symm.trans hhd0
  rw [hhd]
  have hnm0 : (0 : Int) < nm.size := by omega
  have hbl := byte_lt (nm[0]'hnm)
  clear hE hM hhd
  go_enter Tryz.func56, Tryz.ntmps56
  go_upto_region 0 with fail
  go_cut [8] from 12 to 18 (fun h wx => h = .bool true ∧ w = wx)
  case first =>
    obtain ⟨rfl, rfl⟩ : b0 = true ∧ bd = true := by have := HHD.out; simpa using this
    go_wp2_with fail
    go_meet
    exact ⟨rfl, rfl⟩
  case rest =>
    obtain ⟨rfl, rfl⟩ := hcut
    clear hb0 hbd hcn hnm0 HHD
    have cfw := HEw.out.self
    obtain ⟨c0w43, hlw43⟩ := HEw.out.kid hp [43] (by show 1 ≤ maxLen; unfold maxLen; omega)
    rw [show kidOf nd Ns p [43] = some (nd (p ++ [[43]])).b from if_pos hk43] at hlw43
    simp only [ptrV] at hlw43
    obtain ⟨c0w35, hlw35⟩ := HEw.out.kid hp [35] (by show 1 ≤ maxLen; unfold maxLen; omega)
    rw [show kidOf nd Ns p [35] = some (nd (p ++ [[35]])).b from if_pos hk35] at hlw35
    simp only [ptrV] at hlw35
    obtain ⟨caxw, bxw, oxw, clw, kxw, c0xw, hlxw⟩ := HEw.out.at hp hlt hxs
    rw [show kidOf nd Ns p L[i] = some (nd (p ++ [L[i]])).b from if_pos hkx] at hlxw
    simp only [ptrV] at hlxw
    go_wp2_with fail
    go_quiet (fail)
    go_wp2_with fail
    refine (HC.out (p ++ [L[i]]) _ D hkx (HEw.out.below (drewN_below _ nq)) (HMw.out.below (drewN_below _ nq))).mono ?_
    rintro e wC ⟨rfl, DC, hM, hhwC, hm⟩
    have HEwC := Lib.hid ((HEw.out.below (drewN_below _ nq)).mod hm hM.map)
    have HMwC := Lib.hid hM
    have HDwC := Lib.hid (show Mod [bm] w wC from (HDw.out.drewN nq).trans hm (fun _ h => .inl h))
    have HHwC := Lib.hid hhwC
    clear hM hm hhwC
    go_wp2_with fail
    go_end0
    exact ⟨rfl, DC, HMwC.out, fun c => by rw [HHwC.out]; simp [tkB], HDwC.out⟩
set_option maxRecDepth 100000 in
set_option maxHeartbeats 8000000 in
theorem mat_succ_1110 (bn bmb bl bf bm t B : Nat) (hn nn : Int) (nd : Path → Nd) (Ns : List Path) (Hs : List (Path × Str)) (nm : ByteArray) (L : Path) (hti : Tight Ns Hs) (hnm : 0 < nm.size) (_hroom : Hs.length + B ≤ 4294967296) (_hLl : L.length < 4294967296) (i : Nat) (p : Path) (w : World) (D : DataW Unit) (hlt : i < L.length) (hxs : (⟨L[i].toArray⟩ : ByteArray).size ≤ maxLen) (hp : p ∈ Ns) (hE : MatE bn bmb bl bf bm t B hn nn nd Ns Hs nm L w) (hM : Met bm Hs w D)
    (_HC : Hid (∀ (q : Path) (w : World) (D : DataW Unit), q ∈ Ns → MatE bn bmb bl bf bm t B hn nn nd Ns Hs nm L w → Met bm Hs w D → Calls Tryz.prog 56 #[.pointer (some ⟨(nd q).b, 0, none⟩), .int .i64 ((i : Int) + 1), .pointer (some ⟨bn, 0, none⟩), .pointer (some ⟨bmb, 0, none⟩), .pointer (some ⟨bl, 0, none⟩), .pointer (some ⟨bf, 0, none⟩)] w (MatG bm Hs w D (fun c => tkB Hs c false q (L.drop (i + 1))))))
    (hk35 : p ++ [[35]] ∈ Ns) (hk43 : p ++ [[43]] ∈ Ns) (hkx : p ++ [L[i]] ∉ Ns) (hhd0 : hidB i nm.data.toList = true) :
    Calls Tryz.prog 56 #[.pointer (some ⟨(nd p).b, 0, none⟩), .int .i64 i, .pointer (some ⟨bn, 0, none⟩), .pointer (some ⟨bmb, 0, none⟩), .pointer (some ⟨bl, 0, none⟩), .pointer (some ⟨bf, 0, none⟩)] w
      (MatG bm Hs w D (fun c => tkB Hs c (hidB i nm.data.toList) p (L.drop i))) := by
  have hLi : L.drop i = L[i] :: L.drop (i + 1) := List.drop_eq_getElem_cons hlt
  rw [hLi]
  have h1 : ((i : Int) == L.length) = false := by simp; omega
  have hi0 : (0 : Int) ≤ i := by omega
  have hiL : (i : Int) < L.length := by omega
  have hw1 : IntKind.i64.wrap ((i : Int) + 1) = (i : Int) + 1 := w_i64 _ (by omega) (by omega)
  have HEw := Lib.hid hE
  have HMw := Lib.hid hM
  have HDw := Lib.hid (Mod.refl [bm] w)
  have hcn := hE.cn
  obtain ⟨b0, hb0⟩ : ∃ b, ((i : Int) == 0) = b := ⟨_, rfl⟩
  obtain ⟨bd, hbd⟩ : ∃ b, (((nm[0]'hnm).toNat : Int) == 36) = b := ⟨_, rfl⟩
  obtain ⟨hd, hhd⟩ : ∃ h, hidB i nm.data.toList = h := ⟨_, rfl⟩
  have HHD : Hid ((b0 && bd) = hd) := Lib.hid (by
    rw [← hhd, ← hb0, ← hbd]
    unfold hidB
    congr 1
    · rw [Bool.eq_iff_iff]; simp
    · have h0 := bget nm 0 hnm
      rw [show nm.data.toList.headD 0 = nm[0]'hnm by rw [List.headD_eq_head?_getD, List.head?_eq_getElem?, h0]; rfl, Bool.eq_iff_iff, beq_iff_eq, beq_iff_eq]
      exact ⟨fun h => UInt8.toNat_inj.1 (by simp; omega), fun h => by rw [h]; rfl⟩)
  obtain rfl : hd = true := hhd.symm.trans hhd0
  rw [hhd]
  have hnm0 : (0 : Int) < nm.size := by omega
  have hbl := byte_lt (nm[0]'hnm)
  clear hE hM hhd
  go_enter Tryz.func56, Tryz.ntmps56
  go_upto_region 0 with fail
  go_cut [8] from 12 to 18 (fun h wx => h = .bool true ∧ w = wx)
  case first =>
    obtain ⟨rfl, rfl⟩ : b0 = true ∧ bd = true := by have := HHD.out; simpa using this
    go_wp2_with fail
    go_meet
    exact ⟨rfl, rfl⟩
  case rest =>
    obtain ⟨rfl, rfl⟩ := hcut
    clear hb0 hbd hcn hnm0 HHD
    have cfw := HEw.out.self
    obtain ⟨c0w43, hlw43⟩ := HEw.out.kid hp [43] (by show 1 ≤ maxLen; unfold maxLen; omega)
    rw [show kidOf nd Ns p [43] = some (nd (p ++ [[43]])).b from if_pos hk43] at hlw43
    simp only [ptrV] at hlw43
    obtain ⟨c0w35, hlw35⟩ := HEw.out.kid hp [35] (by show 1 ≤ maxLen; unfold maxLen; omega)
    rw [show kidOf nd Ns p [35] = some (nd (p ++ [[35]])).b from if_pos hk35] at hlw35
    simp only [ptrV] at hlw35
    obtain ⟨caxw, bxw, oxw, clw, kxw, c0xw, hlxw⟩ := HEw.out.at hp hlt hxs
    rw [show kidOf nd Ns p L[i] = none from if_neg hkx] at hlxw
    simp only [ptrV] at hlxw
    go_wp2_with fail
    go_quiet (fail)
    go_wp2_with fail
    go_end0
    exact ⟨rfl, D, HMw.out.below (drewN_below _ _), fun c => by simp [tkB, tkB_dead hti hkx], HDw.out.drewN _⟩
set_option maxRecDepth 100000 in
set_option maxHeartbeats 8000000 in
theorem mat_succ_1101 (bn bmb bl bf bm t B : Nat) (hn nn : Int) (nd : Path → Nd) (Ns : List Path) (Hs : List (Path × Str)) (nm : ByteArray) (L : Path) (_hti : Tight Ns Hs) (hnm : 0 < nm.size) (_hroom : Hs.length + B ≤ 4294967296) (_hLl : L.length < 4294967296) (i : Nat) (p : Path) (w : World) (D : DataW Unit) (hlt : i < L.length) (hxs : (⟨L[i].toArray⟩ : ByteArray).size ≤ maxLen) (hp : p ∈ Ns) (hE : MatE bn bmb bl bf bm t B hn nn nd Ns Hs nm L w) (hM : Met bm Hs w D)
    (HC : Hid (∀ (q : Path) (w : World) (D : DataW Unit), q ∈ Ns → MatE bn bmb bl bf bm t B hn nn nd Ns Hs nm L w → Met bm Hs w D → Calls Tryz.prog 56 #[.pointer (some ⟨(nd q).b, 0, none⟩), .int .i64 ((i : Int) + 1), .pointer (some ⟨bn, 0, none⟩), .pointer (some ⟨bmb, 0, none⟩), .pointer (some ⟨bl, 0, none⟩), .pointer (some ⟨bf, 0, none⟩)] w (MatG bm Hs w D (fun c => tkB Hs c false q (L.drop (i + 1))))))
    (hk35 : p ++ [[35]] ∈ Ns) (hk43 : p ++ [[43]] ∉ Ns) (hkx : p ++ [L[i]] ∈ Ns) (hhd0 : hidB i nm.data.toList = true) :
    Calls Tryz.prog 56 #[.pointer (some ⟨(nd p).b, 0, none⟩), .int .i64 i, .pointer (some ⟨bn, 0, none⟩), .pointer (some ⟨bmb, 0, none⟩), .pointer (some ⟨bl, 0, none⟩), .pointer (some ⟨bf, 0, none⟩)] w
      (MatG bm Hs w D (fun c => tkB Hs c (hidB i nm.data.toList) p (L.drop i))) := by
  have hLi : L.drop i = L[i] :: L.drop (i + 1) := List.drop_eq_getElem_cons hlt
  rw [hLi]
  have h1 : ((i : Int) == L.length) = false := by simp; omega
  have hi0 : (0 : Int) ≤ i := by omega
  have hiL : (i : Int) < L.length := by omega
  have hw1 : IntKind.i64.wrap ((i : Int) + 1) = (i : Int) + 1 := w_i64 _ (by omega) (by omega)
  have HEw := Lib.hid hE
  have HMw := Lib.hid hM
  have HDw := Lib.hid (Mod.refl [bm] w)
  have hcn := hE.cn
  obtain ⟨b0, hb0⟩ : ∃ b, ((i : Int) == 0) = b := ⟨_, rfl⟩
  obtain ⟨bd, hbd⟩ : ∃ b, (((nm[0]'hnm).toNat : Int) == 36) = b := ⟨_, rfl⟩
  obtain ⟨hd, hhd⟩ : ∃ h, hidB i nm.data.toList = h := ⟨_, rfl⟩
  have HHD : Hid ((b0 && bd) = hd) := Lib.hid (by
    rw [← hhd, ← hb0, ← hbd]
    unfold hidB
    congr 1
    · rw [Bool.eq_iff_iff]; simp
    · have h0 := bget nm 0 hnm
      rw [show nm.data.toList.headD 0 = nm[0]'hnm by rw [List.headD_eq_head?_getD, List.head?_eq_getElem?, h0]; rfl, Bool.eq_iff_iff, beq_iff_eq, beq_iff_eq]
      exact ⟨fun h => UInt8.toNat_inj.1 (by simp; omega), fun h => by rw [h]; rfl⟩)
  obtain rfl : hd = true := hhd.symm.trans hhd0
  rw [hhd]
  have hnm0 : (0 : Int) < nm.size := by omega
  have hbl := byte_lt (nm[0]'hnm)
  clear hE hM hhd
  go_enter Tryz.func56, Tryz.ntmps56
  go_upto_region 0 with fail
  go_cut [8] from 12 to 18 (fun h wx => h = .bool true ∧ w = wx)
  case first =>
    obtain ⟨rfl, rfl⟩ : b0 = true ∧ bd = true := by have := HHD.out; simpa using this
    go_wp2_with fail
    go_meet
    exact ⟨rfl, rfl⟩
  case rest =>
    obtain ⟨rfl, rfl⟩ := hcut
    clear hb0 hbd hcn hnm0 HHD
    have cfw := HEw.out.self
    obtain ⟨c0w43, hlw43⟩ := HEw.out.kid hp [43] (by show 1 ≤ maxLen; unfold maxLen; omega)
    rw [show kidOf nd Ns p [43] = none from if_neg hk43] at hlw43
    simp only [ptrV] at hlw43
    obtain ⟨c0w35, hlw35⟩ := HEw.out.kid hp [35] (by show 1 ≤ maxLen; unfold maxLen; omega)
    rw [show kidOf nd Ns p [35] = some (nd (p ++ [[35]])).b from if_pos hk35] at hlw35
    simp only [ptrV] at hlw35
    obtain ⟨caxw, bxw, oxw, clw, kxw, c0xw, hlxw⟩ := HEw.out.at hp hlt hxs
    rw [show kidOf nd Ns p L[i] = some (nd (p ++ [L[i]])).b from if_pos hkx] at hlxw
    simp only [ptrV] at hlxw
    go_wp2_with fail
    go_quiet (fail)
    go_wp2_with fail
    refine (HC.out (p ++ [L[i]]) _ D hkx (HEw.out.below (drewN_below _ nq)) (HMw.out.below (drewN_below _ nq))).mono ?_
    rintro e wC ⟨rfl, DC, hM, hhwC, hm⟩
    have HEwC := Lib.hid ((HEw.out.below (drewN_below _ nq)).mod hm hM.map)
    have HMwC := Lib.hid hM
    have HDwC := Lib.hid (show Mod [bm] w wC from (HDw.out.drewN nq).trans hm (fun _ h => .inl h))
    have HHwC := Lib.hid hhwC
    clear hM hm hhwC
    go_wp2_with fail
    go_end0
    exact ⟨rfl, DC, HMwC.out, fun c => by rw [HHwC.out]; simp [tkB], HDwC.out⟩
set_option maxRecDepth 100000 in
set_option maxHeartbeats 8000000 in
theorem mat_succ_1100 (bn bmb bl bf bm t B : Nat) (hn nn : Int) (nd : Path → Nd) (Ns : List Path) (Hs : List (Path × Str)) (nm : ByteArray) (L : Path) (hti : Tight Ns Hs) (hnm : 0 < nm.size) (_hroom : Hs.length + B ≤ 4294967296) (_hLl : L.length < 4294967296) (i : Nat) (p : Path) (w : World) (D : DataW Unit) (hlt : i < L.length) (hxs : (⟨L[i].toArray⟩ : ByteArray).size ≤ maxLen) (hp : p ∈ Ns) (hE : MatE bn bmb bl bf bm t B hn nn nd Ns Hs nm L w) (hM : Met bm Hs w D)
    (_HC : Hid (∀ (q : Path) (w : World) (D : DataW Unit), q ∈ Ns → MatE bn bmb bl bf bm t B hn nn nd Ns Hs nm L w → Met bm Hs w D → Calls Tryz.prog 56 #[.pointer (some ⟨(nd q).b, 0, none⟩), .int .i64 ((i : Int) + 1), .pointer (some ⟨bn, 0, none⟩), .pointer (some ⟨bmb, 0, none⟩), .pointer (some ⟨bl, 0, none⟩), .pointer (some ⟨bf, 0, none⟩)] w (MatG bm Hs w D (fun c => tkB Hs c false q (L.drop (i + 1))))))
    (hk35 : p ++ [[35]] ∈ Ns) (hk43 : p ++ [[43]] ∉ Ns) (hkx : p ++ [L[i]] ∉ Ns) (hhd0 : hidB i nm.data.toList = true) :
    Calls Tryz.prog 56 #[.pointer (some ⟨(nd p).b, 0, none⟩), .int .i64 i, .pointer (some ⟨bn, 0, none⟩), .pointer (some ⟨bmb, 0, none⟩), .pointer (some ⟨bl, 0, none⟩), .pointer (some ⟨bf, 0, none⟩)] w
      (MatG bm Hs w D (fun c => tkB Hs c (hidB i nm.data.toList) p (L.drop i))) := by
  have hLi : L.drop i = L[i] :: L.drop (i + 1) := List.drop_eq_getElem_cons hlt
  rw [hLi]
  have h1 : ((i : Int) == L.length) = false := by simp; omega
  have hi0 : (0 : Int) ≤ i := by omega
  have hiL : (i : Int) < L.length := by omega
  have hw1 : IntKind.i64.wrap ((i : Int) + 1) = (i : Int) + 1 := w_i64 _ (by omega) (by omega)
  have HEw := Lib.hid hE
  have HMw := Lib.hid hM
  have HDw := Lib.hid (Mod.refl [bm] w)
  have hcn := hE.cn
  obtain ⟨b0, hb0⟩ : ∃ b, ((i : Int) == 0) = b := ⟨_, rfl⟩
  obtain ⟨bd, hbd⟩ : ∃ b, (((nm[0]'hnm).toNat : Int) == 36) = b := ⟨_, rfl⟩
  obtain ⟨hd, hhd⟩ : ∃ h, hidB i nm.data.toList = h := ⟨_, rfl⟩
  have HHD : Hid ((b0 && bd) = hd) := Lib.hid (by
    rw [← hhd, ← hb0, ← hbd]
    unfold hidB
    congr 1
    · rw [Bool.eq_iff_iff]; simp
    · have h0 := bget nm 0 hnm
      rw [show nm.data.toList.headD 0 = nm[0]'hnm by rw [List.headD_eq_head?_getD, List.head?_eq_getElem?, h0]; rfl, Bool.eq_iff_iff, beq_iff_eq, beq_iff_eq]
      exact ⟨fun h => UInt8.toNat_inj.1 (by simp; omega), fun h => by rw [h]; rfl⟩)
  obtain rfl : hd = true := hhd.symm.trans hhd0
  rw [hhd]
  have hnm0 : (0 : Int) < nm.size := by omega
  have hbl := byte_lt (nm[0]'hnm)
  clear hE hM hhd
  go_enter Tryz.func56, Tryz.ntmps56
  go_upto_region 0 with fail
  go_cut [8] from 12 to 18 (fun h wx => h = .bool true ∧ w = wx)
  case first =>
    obtain ⟨rfl, rfl⟩ : b0 = true ∧ bd = true := by have := HHD.out; simpa using this
    go_wp2_with fail
    go_meet
    exact ⟨rfl, rfl⟩
  case rest =>
    obtain ⟨rfl, rfl⟩ := hcut
    clear hb0 hbd hcn hnm0 HHD
    have cfw := HEw.out.self
    obtain ⟨c0w43, hlw43⟩ := HEw.out.kid hp [43] (by show 1 ≤ maxLen; unfold maxLen; omega)
    rw [show kidOf nd Ns p [43] = none from if_neg hk43] at hlw43
    simp only [ptrV] at hlw43
    obtain ⟨c0w35, hlw35⟩ := HEw.out.kid hp [35] (by show 1 ≤ maxLen; unfold maxLen; omega)
    rw [show kidOf nd Ns p [35] = some (nd (p ++ [[35]])).b from if_pos hk35] at hlw35
    simp only [ptrV] at hlw35
    obtain ⟨caxw, bxw, oxw, clw, kxw, c0xw, hlxw⟩ := HEw.out.at hp hlt hxs
    rw [show kidOf nd Ns p L[i] = none from if_neg hkx] at hlxw
    simp only [ptrV] at hlxw
    go_wp2_with fail
    go_quiet (fail)
    go_wp2_with fail
    go_end0
    exact ⟨rfl, D, HMw.out.below (drewN_below _ _), fun c => by simp [tkB, tkB_dead hti hkx], HDw.out.drewN _⟩
set_option maxRecDepth 100000 in
set_option maxHeartbeats 8000000 in
theorem mat_succ_0011 (bn bmb bl bf bm t B : Nat) (hn nn : Int) (nd : Path → Nd) (Ns : List Path) (Hs : List (Path × Str)) (nm : ByteArray) (L : Path) (hti : Tight Ns Hs) (hnm : 0 < nm.size) (_hroom : Hs.length + B ≤ 4294967296) (_hLl : L.length < 4294967296) (i : Nat) (p : Path) (w : World) (D : DataW Unit) (hlt : i < L.length) (hxs : (⟨L[i].toArray⟩ : ByteArray).size ≤ maxLen) (hp : p ∈ Ns) (hE : MatE bn bmb bl bf bm t B hn nn nd Ns Hs nm L w) (hM : Met bm Hs w D)
    (HC : Hid (∀ (q : Path) (w : World) (D : DataW Unit), q ∈ Ns → MatE bn bmb bl bf bm t B hn nn nd Ns Hs nm L w → Met bm Hs w D → Calls Tryz.prog 56 #[.pointer (some ⟨(nd q).b, 0, none⟩), .int .i64 ((i : Int) + 1), .pointer (some ⟨bn, 0, none⟩), .pointer (some ⟨bmb, 0, none⟩), .pointer (some ⟨bl, 0, none⟩), .pointer (some ⟨bf, 0, none⟩)] w (MatG bm Hs w D (fun c => tkB Hs c false q (L.drop (i + 1))))))
    (hk35 : p ++ [[35]] ∉ Ns) (hk43 : p ++ [[43]] ∈ Ns) (hkx : p ++ [L[i]] ∈ Ns) (hhd0 : hidB i nm.data.toList = false) :
    Calls Tryz.prog 56 #[.pointer (some ⟨(nd p).b, 0, none⟩), .int .i64 i, .pointer (some ⟨bn, 0, none⟩), .pointer (some ⟨bmb, 0, none⟩), .pointer (some ⟨bl, 0, none⟩), .pointer (some ⟨bf, 0, none⟩)] w
      (MatG bm Hs w D (fun c => tkB Hs c (hidB i nm.data.toList) p (L.drop i))) := by
  have hLi : L.drop i = L[i] :: L.drop (i + 1) := List.drop_eq_getElem_cons hlt
  rw [hLi]
  have h1 : ((i : Int) == L.length) = false := by simp; omega
  have hi0 : (0 : Int) ≤ i := by omega
  have hiL : (i : Int) < L.length := by omega
  have hw1 : IntKind.i64.wrap ((i : Int) + 1) = (i : Int) + 1 := w_i64 _ (by omega) (by omega)
  have HEw := Lib.hid hE
  have HMw := Lib.hid hM
  have HDw := Lib.hid (Mod.refl [bm] w)
  have hcn := hE.cn
  obtain ⟨b0, hb0⟩ : ∃ b, ((i : Int) == 0) = b := ⟨_, rfl⟩
  obtain ⟨bd, hbd⟩ : ∃ b, (((nm[0]'hnm).toNat : Int) == 36) = b := ⟨_, rfl⟩
  obtain ⟨hd, hhd⟩ : ∃ h, hidB i nm.data.toList = h := ⟨_, rfl⟩
  have HHD : Hid ((b0 && bd) = hd) := Lib.hid (by
    rw [← hhd, ← hb0, ← hbd]
    unfold hidB
    congr 1
    · rw [Bool.eq_iff_iff]; simp
    · have h0 := bget nm 0 hnm
      rw [show nm.data.toList.headD 0 = nm[0]'hnm by rw [List.headD_eq_head?_getD, List.head?_eq_getElem?, h0]; rfl, Bool.eq_iff_iff, beq_iff_eq, beq_iff_eq]
      exact ⟨fun h => UInt8.toNat_inj.1 (by simp; omega), fun h => by rw [h]; rfl⟩)
  obtain rfl : hd = false := hhd.symm.trans hhd0
  rw [hhd]
  have hnm0 : (0 : Int) < nm.size := by omega
  have hbl := byte_lt (nm[0]'hnm)
  clear hE hM hhd
  go_enter Tryz.func56, Tryz.ntmps56
  go_upto_region 0 with fail
  go_cut [8] from 12 to 18 (fun h wx => h = .bool false ∧ w = wx)
  case first =>
    cases b0 with
    | false =>
      go_wp2_with fail
      go_meet
      exact ⟨rfl, rfl⟩
    | true =>
      obtain rfl : bd = false := by have := HHD.out; simpa using this
      go_wp2_with fail
      go_meet
      exact ⟨rfl, rfl⟩
  case rest =>
    obtain ⟨rfl, rfl⟩ := hcut
    clear hb0 hbd hcn hnm0 HHD
    have cfw := HEw.out.self
    obtain ⟨c0w43, hlw43⟩ := HEw.out.kid hp [43] (by show 1 ≤ maxLen; unfold maxLen; omega)
    rw [show kidOf nd Ns p [43] = some (nd (p ++ [[43]])).b from if_pos hk43] at hlw43
    simp only [ptrV] at hlw43
    obtain ⟨c0w35, hlw35⟩ := HEw.out.kid hp [35] (by show 1 ≤ maxLen; unfold maxLen; omega)
    rw [show kidOf nd Ns p [35] = none from if_neg hk35] at hlw35
    simp only [ptrV] at hlw35
    obtain ⟨caxw, bxw, oxw, clw, kxw, c0xw, hlxw⟩ := HEw.out.at hp hlt hxs
    rw [show kidOf nd Ns p L[i] = some (nd (p ++ [L[i]])).b from if_pos hkx] at hlxw
    simp only [ptrV] at hlxw
    go_wp2_with fail
    refine (HC.out (p ++ [[43]]) _ D hk43 HEw.out HMw.out).mono ?_
    rintro e wB ⟨rfl, DB, hM, hhwB, hm⟩
    have HEwB := Lib.hid (HEw.out.mod hm hM.map)
    have HMwB := Lib.hid hM
    have HDwB := Lib.hid (show Mod [bm] w wB from HDw.out.trans hm (fun _ h => .inl h))
    have HHwB := Lib.hid hhwB
    clear hM hm hhwB
    clear clw kxw c0xw hlxw cfw
    have cfwB := HEwB.out.self
    obtain ⟨caxwB, bxwB, oxwB, clwB, kxwB, c0xwB, hlxwB⟩ := HEwB.out.at hp hlt hxs
    rw [show kidOf nd Ns p L[i] = some (nd (p ++ [L[i]])).b from if_pos hkx] at hlxwB
    simp only [ptrV] at hlxwB
    go_wp2_with fail
    go_quiet (fail)
    go_wp2_with fail
    refine (HC.out (p ++ [L[i]]) _ DB hkx (HEwB.out.below (drewN_below _ nq)) (HMwB.out.below (drewN_below _ nq))).mono ?_
    rintro e wC ⟨rfl, DC, hM, hhwC, hm⟩
    have HEwC := Lib.hid ((HEwB.out.below (drewN_below _ nq)).mod hm hM.map)
    have HMwC := Lib.hid hM
    have HDwC := Lib.hid (show Mod [bm] w wC from (HDwB.out.drewN nq).trans hm (fun _ h => .inl h))
    have HHwC := Lib.hid hhwC
    clear hM hm hhwC
    go_wp2_with fail
    go_end0
    exact ⟨rfl, DC, HMwC.out, fun c => by rw [HHwC.out, HHwB.out]; simp [tkB, dead_hint hti hk35, Bool.or_assoc], HDwC.out⟩
set_option maxRecDepth 100000 in
set_option maxHeartbeats 8000000 in
theorem mat_succ_0010 (bn bmb bl bf bm t B : Nat) (hn nn : Int) (nd : Path → Nd) (Ns : List Path) (Hs : List (Path × Str)) (nm : ByteArray) (L : Path) (hti : Tight Ns Hs) (hnm : 0 < nm.size) (_hroom : Hs.length + B ≤ 4294967296) (_hLl : L.length < 4294967296) (i : Nat) (p : Path) (w : World) (D : DataW Unit) (hlt : i < L.length) (hxs : (⟨L[i].toArray⟩ : ByteArray).size ≤ maxLen) (hp : p ∈ Ns) (hE : MatE bn bmb bl bf bm t B hn nn nd Ns Hs nm L w) (hM : Met bm Hs w D)
    (HC : Hid (∀ (q : Path) (w : World) (D : DataW Unit), q ∈ Ns → MatE bn bmb bl bf bm t B hn nn nd Ns Hs nm L w → Met bm Hs w D → Calls Tryz.prog 56 #[.pointer (some ⟨(nd q).b, 0, none⟩), .int .i64 ((i : Int) + 1), .pointer (some ⟨bn, 0, none⟩), .pointer (some ⟨bmb, 0, none⟩), .pointer (some ⟨bl, 0, none⟩), .pointer (some ⟨bf, 0, none⟩)] w (MatG bm Hs w D (fun c => tkB Hs c false q (L.drop (i + 1))))))
    (hk35 : p ++ [[35]] ∉ Ns) (hk43 : p ++ [[43]] ∈ Ns) (hkx : p ++ [L[i]] ∉ Ns) (hhd0 : hidB i nm.data.toList = false) :
    Calls Tryz.prog 56 #[.pointer (some ⟨(nd p).b, 0, none⟩), .int .i64 i, .pointer (some ⟨bn, 0, none⟩), .pointer (some ⟨bmb, 0, none⟩), .pointer (some ⟨bl, 0, none⟩), .pointer (some ⟨bf, 0, none⟩)] w
      (MatG bm Hs w D (fun c => tkB Hs c (hidB i nm.data.toList) p (L.drop i))) := by
  have hLi : L.drop i = L[i] :: L.drop (i + 1) := List.drop_eq_getElem_cons hlt
  rw [hLi]
  have h1 : ((i : Int) == L.length) = false := by simp; omega
  have hi0 : (0 : Int) ≤ i := by omega
  have hiL : (i : Int) < L.length := by omega
  have hw1 : IntKind.i64.wrap ((i : Int) + 1) = (i : Int) + 1 := w_i64 _ (by omega) (by omega)
  have HEw := Lib.hid hE
  have HMw := Lib.hid hM
  have HDw := Lib.hid (Mod.refl [bm] w)
  have hcn := hE.cn
  obtain ⟨b0, hb0⟩ : ∃ b, ((i : Int) == 0) = b := ⟨_, rfl⟩
  obtain ⟨bd, hbd⟩ : ∃ b, (((nm[0]'hnm).toNat : Int) == 36) = b := ⟨_, rfl⟩
  obtain ⟨hd, hhd⟩ : ∃ h, hidB i nm.data.toList = h := ⟨_, rfl⟩
  have HHD : Hid ((b0 && bd) = hd) := Lib.hid (by
    rw [← hhd, ← hb0, ← hbd]
    unfold hidB
    congr 1
    · rw [Bool.eq_iff_iff]; simp
    · have h0 := bget nm 0 hnm
      rw [show nm.data.toList.headD 0 = nm[0]'hnm by rw [List.headD_eq_head?_getD, List.head?_eq_getElem?, h0]; rfl, Bool.eq_iff_iff, beq_iff_eq, beq_iff_eq]
      exact ⟨fun h => UInt8.toNat_inj.1 (by simp; omega), fun h => by rw [h]; rfl⟩)
  obtain rfl : hd = false := hhd.symm.trans hhd0
  rw [hhd]
  have hnm0 : (0 : Int) < nm.size := by omega
  have hbl := byte_lt (nm[0]'hnm)
  clear hE hM hhd
  go_enter Tryz.func56, Tryz.ntmps56
  go_upto_region 0 with fail
  go_cut [8] from 12 to 18 (fun h wx => h = .bool false ∧ w = wx)
  case first =>
    cases b0 with
    | false =>
      go_wp2_with fail
      go_meet
      exact ⟨rfl, rfl⟩
    | true =>
      obtain rfl : bd = false := by have := HHD.out; simpa using this
      go_wp2_with fail
      go_meet
      exact ⟨rfl, rfl⟩
  case rest =>
    obtain ⟨rfl, rfl⟩ := hcut
    clear hb0 hbd hcn hnm0 HHD
    have cfw := HEw.out.self
    obtain ⟨c0w43, hlw43⟩ := HEw.out.kid hp [43] (by show 1 ≤ maxLen; unfold maxLen; omega)
    rw [show kidOf nd Ns p [43] = some (nd (p ++ [[43]])).b from if_pos hk43] at hlw43
    simp only [ptrV] at hlw43
    obtain ⟨c0w35, hlw35⟩ := HEw.out.kid hp [35] (by show 1 ≤ maxLen; unfold maxLen; omega)
    rw [show kidOf nd Ns p [35] = none from if_neg hk35] at hlw35
    simp only [ptrV] at hlw35
    obtain ⟨caxw, bxw, oxw, clw, kxw, c0xw, hlxw⟩ := HEw.out.at hp hlt hxs
    rw [show kidOf nd Ns p L[i] = none from if_neg hkx] at hlxw
    simp only [ptrV] at hlxw
    go_wp2_with fail
    refine (HC.out (p ++ [[43]]) _ D hk43 HEw.out HMw.out).mono ?_
    rintro e wB ⟨rfl, DB, hM, hhwB, hm⟩
    have HEwB := Lib.hid (HEw.out.mod hm hM.map)
    have HMwB := Lib.hid hM
    have HDwB := Lib.hid (show Mod [bm] w wB from HDw.out.trans hm (fun _ h => .inl h))
    have HHwB := Lib.hid hhwB
    clear hM hm hhwB
    clear clw kxw c0xw hlxw cfw
    have cfwB := HEwB.out.self
    obtain ⟨caxwB, bxwB, oxwB, clwB, kxwB, c0xwB, hlxwB⟩ := HEwB.out.at hp hlt hxs
    rw [show kidOf nd Ns p L[i] = none from if_neg hkx] at hlxwB
    simp only [ptrV] at hlxwB
    go_wp2_with fail
    go_quiet (fail)
    go_wp2_with fail
    go_end0
    exact ⟨rfl, DB, HMwB.out.below (drewN_below _ _), fun c => by rw [HHwB.out]; simp [tkB, dead_hint hti hk35, tkB_dead hti hkx], HDwB.out.drewN _⟩
set_option maxRecDepth 100000 in
set_option maxHeartbeats 8000000 in
theorem mat_succ_0001 (bn bmb bl bf bm t B : Nat) (hn nn : Int) (nd : Path → Nd) (Ns : List Path) (Hs : List (Path × Str)) (nm : ByteArray) (L : Path) (hti : Tight Ns Hs) (hnm : 0 < nm.size) (_hroom : Hs.length + B ≤ 4294967296) (_hLl : L.length < 4294967296) (i : Nat) (p : Path) (w : World) (D : DataW Unit) (hlt : i < L.length) (hxs : (⟨L[i].toArray⟩ : ByteArray).size ≤ maxLen) (hp : p ∈ Ns) (hE : MatE bn bmb bl bf bm t B hn nn nd Ns Hs nm L w) (hM : Met bm Hs w D)
    (HC : Hid (∀ (q : Path) (w : World) (D : DataW Unit), q ∈ Ns → MatE bn bmb bl bf bm t B hn nn nd Ns Hs nm L w → Met bm Hs w D → Calls Tryz.prog 56 #[.pointer (some ⟨(nd q).b, 0, none⟩), .int .i64 ((i : Int) + 1), .pointer (some ⟨bn, 0, none⟩), .pointer (some ⟨bmb, 0, none⟩), .pointer (some ⟨bl, 0, none⟩), .pointer (some ⟨bf, 0, none⟩)] w (MatG bm Hs w D (fun c => tkB Hs c false q (L.drop (i + 1))))))
    (hk35 : p ++ [[35]] ∉ Ns) (hk43 : p ++ [[43]] ∉ Ns) (hkx : p ++ [L[i]] ∈ Ns) (hhd0 : hidB i nm.data.toList = false) :
    Calls Tryz.prog 56 #[.pointer (some ⟨(nd p).b, 0, none⟩), .int .i64 i, .pointer (some ⟨bn, 0, none⟩), .pointer (some ⟨bmb, 0, none⟩), .pointer (some ⟨bl, 0, none⟩), .pointer (some ⟨bf, 0, none⟩)] w
      (MatG bm Hs w D (fun c => tkB Hs c (hidB i nm.data.toList) p (L.drop i))) := by
  have hLi : L.drop i = L[i] :: L.drop (i + 1) := List.drop_eq_getElem_cons hlt
  rw [hLi]
  have h1 : ((i : Int) == L.length) = false := by simp; omega
  have hi0 : (0 : Int) ≤ i := by omega
  have hiL : (i : Int) < L.length := by omega
  have hw1 : IntKind.i64.wrap ((i : Int) + 1) = (i : Int) + 1 := w_i64 _ (by omega) (by omega)
  have HEw := Lib.hid hE
  have HMw := Lib.hid hM
  have HDw := Lib.hid (Mod.refl [bm] w)
  have hcn := hE.cn
  obtain ⟨b0, hb0⟩ : ∃ b, ((i : Int) == 0) = b := ⟨_, rfl⟩
  obtain ⟨bd, hbd⟩ : ∃ b, (((nm[0]'hnm).toNat : Int) == 36) = b := ⟨_, rfl⟩
  obtain ⟨hd, hhd⟩ : ∃ h, hidB i nm.data.toList = h := ⟨_, rfl⟩
  have HHD : Hid ((b0 && bd) = hd) := Lib.hid (by
    rw [← hhd, ← hb0, ← hbd]
    unfold hidB
    congr 1
    · rw [Bool.eq_iff_iff]; simp
    · have h0 := bget nm 0 hnm
      rw [show nm.data.toList.headD 0 = nm[0]'hnm by rw [List.headD_eq_head?_getD, List.head?_eq_getElem?, h0]; rfl, Bool.eq_iff_iff, beq_iff_eq, beq_iff_eq]
      exact ⟨fun h => UInt8.toNat_inj.1 (by simp; omega), fun h => by rw [h]; rfl⟩)
  obtain rfl : hd = false := hhd.symm.trans hhd0
  rw [hhd]
  have hnm0 : (0 : Int) < nm.size := by omega
  have hbl := byte_lt (nm[0]'hnm)
  clear hE hM hhd
  go_enter Tryz.func56, Tryz.ntmps56
  go_upto_region 0 with fail
  go_cut [8] from 12 to 18 (fun h wx => h = .bool false ∧ w = wx)
  case first =>
    cases b0 with
    | false =>
      go_wp2_with fail
      go_meet
      exact ⟨rfl, rfl⟩
    | true =>
      obtain rfl : bd = false := by have := HHD.out; simpa using this
      go_wp2_with fail
      go_meet
      exact ⟨rfl, rfl⟩
  case rest =>
    obtain ⟨rfl, rfl⟩ := hcut
    clear hb0 hbd hcn hnm0 HHD
    have cfw := HEw.out.self
    obtain ⟨c0w43, hlw43⟩ := HEw.out.kid hp [43] (by show 1 ≤ maxLen; unfold maxLen; omega)
    rw [show kidOf nd Ns p [43] = none from if_neg hk43] at hlw43
    simp only [ptrV] at hlw43
    obtain ⟨c0w35, hlw35⟩ := HEw.out.kid hp [35] (by show 1 ≤ maxLen; unfold maxLen; omega)
    rw [show kidOf nd Ns p [35] = none from if_neg hk35] at hlw35
    simp only [ptrV] at hlw35
    obtain ⟨caxw, bxw, oxw, clw, kxw, c0xw, hlxw⟩ := HEw.out.at hp hlt hxs
    rw [show kidOf nd Ns p L[i] = some (nd (p ++ [L[i]])).b from if_pos hkx] at hlxw
    simp only [ptrV] at hlxw
    go_wp2_with fail
    go_quiet (fail)
    go_wp2_with fail
    refine (HC.out (p ++ [L[i]]) _ D hkx (HEw.out.below (drewN_below _ nq)) (HMw.out.below (drewN_below _ nq))).mono ?_
    rintro e wC ⟨rfl, DC, hM, hhwC, hm⟩
    have HEwC := Lib.hid ((HEw.out.below (drewN_below _ nq)).mod hm hM.map)
    have HMwC := Lib.hid hM
    have HDwC := Lib.hid (show Mod [bm] w wC from (HDw.out.drewN nq).trans hm (fun _ h => .inl h))
    have HHwC := Lib.hid hhwC
    clear hM hm hhwC
    go_wp2_with fail
    go_end0
    exact ⟨rfl, DC, HMwC.out, fun c => by rw [HHwC.out]; simp [tkB, dead_hint hti hk35, tkB_dead hti hk43], HDwC.out⟩
set_option maxRecDepth 100000 in
set_option maxHeartbeats 8000000 in
theorem mat_succ_0000 (bn bmb bl bf bm t B : Nat) (hn nn : Int) (nd : Path → Nd) (Ns : List Path) (Hs : List (Path × Str)) (nm : ByteArray) (L : Path) (hti : Tight Ns Hs) (hnm : 0 < nm.size) (_hroom : Hs.length + B ≤ 4294967296) (_hLl : L.length < 4294967296) (i : Nat) (p : Path) (w : World) (D : DataW Unit) (hlt : i < L.length) (hxs : (⟨L[i].toArray⟩ : ByteArray).size ≤ maxLen) (hp : p ∈ Ns) (hE : MatE bn bmb bl bf bm t B hn nn nd Ns Hs nm L w) (hM : Met bm Hs w D)
    (_HC : Hid (∀ (q : Path) (w : World) (D : DataW Unit), q ∈ Ns → MatE bn bmb bl bf bm t B hn nn nd Ns Hs nm L w → Met bm Hs w D → Calls Tryz.prog 56 #[.pointer (some ⟨(nd q).b, 0, none⟩), .int .i64 ((i : Int) + 1), .pointer (some ⟨bn, 0, none⟩), .pointer (some ⟨bmb, 0, none⟩), .pointer (some ⟨bl, 0, none⟩), .pointer (some ⟨bf, 0, none⟩)] w (MatG bm Hs w D (fun c => tkB Hs c false q (L.drop (i + 1))))))
    (hk35 : p ++ [[35]] ∉ Ns) (hk43 : p ++ [[43]] ∉ Ns) (hkx : p ++ [L[i]] ∉ Ns) (hhd0 : hidB i nm.data.toList = false) :
    Calls Tryz.prog 56 #[.pointer (some ⟨(nd p).b, 0, none⟩), .int .i64 i, .pointer (some ⟨bn, 0, none⟩), .pointer (some ⟨bmb, 0, none⟩), .pointer (some ⟨bl, 0, none⟩), .pointer (some ⟨bf, 0, none⟩)] w
      (MatG bm Hs w D (fun c => tkB Hs c (hidB i nm.data.toList) p (L.drop i))) := by
  have hLi : L.drop i = L[i] :: L.drop (i + 1) := List.drop_eq_getElem_cons hlt
  rw [hLi]
  have h1 : ((i : Int) == L.length) = false := by simp; omega
  have hi0 : (0 : Int) ≤ i := by omega
  have hiL : (i : Int) < L.length := by omega
  have hw1 : IntKind.i64.wrap ((i : Int) + 1) = (i : Int) + 1 := w_i64 _ (by omega) (by omega)
  have HEw := Lib.hid hE
  have HMw := Lib.hid hM
  have HDw := Lib.hid (Mod.refl [bm] w)
  have hcn := hE.cn
  obtain ⟨b0, hb0⟩ : ∃ b, ((i : Int) == 0) = b := ⟨_, rfl⟩
  obtain ⟨bd, hbd⟩ : ∃ b, (((nm[0]'hnm).toNat : Int) == 36) = b := ⟨_, rfl⟩
  obtain ⟨hd, hhd⟩ : ∃ h, hidB i nm.data.toList = h := ⟨_, rfl⟩
  have HHD : Hid ((b0 && bd) = hd) := Lib.hid (by
    rw [← hhd, ← hb0, ← hbd]
    unfold hidB
    congr 1
    · rw [Bool.eq_iff_iff]; simp
    · have h0 := bget nm 0 hnm
      rw [show nm.data.toList.headD 0 = nm[0]'hnm by rw [List.headD_eq_head?_getD, List.head?_eq_getElem?, h0]; rfl, Bool.eq_iff_iff, beq_iff_eq, beq_iff_eq]
      exact ⟨fun h => UInt8.toNat_inj.1 (by simp; omega), fun h => by rw [h]; rfl⟩)
  obtain rfl : hd = false := hhd.symm.trans hhd0
  rw [hhd]
  have hnm0 : (0 : Int) < nm.size := by omega
  have hbl := byte_lt (nm[0]'hnm)
  clear hE hM hhd
  go_enter Tryz.func56, Tryz.ntmps56
  go_upto_region 0 with fail
  go_cut [8] from 12 to 18 (fun h wx => h = .bool false ∧ w = wx)
  case first =>
    cases b0 with
    | false =>
      go_wp2_with fail
      go_meet
      exact ⟨rfl, rfl⟩
    | true =>
      obtain rfl : bd = false := by have := HHD.out; simpa using this
      go_wp2_with fail
      go_meet
      exact ⟨rfl, rfl⟩
  case rest =>
    obtain ⟨rfl, rfl⟩ := hcut
    clear hb0 hbd hcn hnm0 HHD
    have cfw := HEw.out.self
    obtain ⟨c0w43, hlw43⟩ := HEw.out.kid hp [43] (by show 1 ≤ maxLen; unfold maxLen; omega)
    rw [show kidOf nd Ns p [43] = none from if_neg hk43] at hlw43
    simp only [ptrV] at hlw43
    obtain ⟨c0w35, hlw35⟩ := HEw.out.kid hp [35] (by show 1 ≤ maxLen; unfold maxLen; omega)
    rw [show kidOf nd Ns p [35] = none from if_neg hk35] at hlw35
    simp only [ptrV] at hlw35
    obtain ⟨caxw, bxw, oxw, clw, kxw, c0xw, hlxw⟩ := HEw.out.at hp hlt hxs
    rw [show kidOf nd Ns p L[i] = none from if_neg hkx] at hlxw
    simp only [ptrV] at hlxw
    go_wp2_with fail
    go_quiet (fail)
    go_wp2_with fail
    go_end0
    exact ⟨rfl, D, HMw.out.below (drewN_below _ _), fun c => by simp [tkB, dead_hint hti hk35, tkB_dead hti hk43, tkB_dead hti hkx], HDw.out.drewN _⟩
set_option maxRecDepth 100000 in
set_option maxHeartbeats 8000000 in
theorem mat_succ_0111 (bn bmb bl bf bm t B : Nat) (hn nn : Int) (nd : Path → Nd) (Ns : List Path) (Hs : List (Path × Str)) (nm : ByteArray) (L : Path) (_hti : Tight Ns Hs) (hnm : 0 < nm.size) (_hroom : Hs.length + B ≤ 4294967296) (_hLl : L.length < 4294967296) (i : Nat) (p : Path) (w : World) (D : DataW Unit) (hlt : i < L.length) (hxs : (⟨L[i].toArray⟩ : ByteArray).size ≤ maxLen) (hp : p ∈ Ns) (hE : MatE bn bmb bl bf bm t B hn nn nd Ns Hs nm L w) (hM : Met bm Hs w D)
    (HC : Hid (∀ (q : Path) (w : World) (D : DataW Unit), q ∈ Ns → MatE bn bmb bl bf bm t B hn nn nd Ns Hs nm L w → Met bm Hs w D → Calls Tryz.prog 56 #[.pointer (some ⟨(nd q).b, 0, none⟩), .int .i64 ((i : Int) + 1), .pointer (some ⟨bn, 0, none⟩), .pointer (some ⟨bmb, 0, none⟩), .pointer (some ⟨bl, 0, none⟩), .pointer (some ⟨bf, 0, none⟩)] w (MatG bm Hs w D (fun c => tkB Hs c false q (L.drop (i + 1))))))
    (hk35 : p ++ [[35]] ∉ Ns) (hk43 : p ++ [[43]] ∈ Ns) (hkx : p ++ [L[i]] ∈ Ns) (hhd0 : hidB i nm.data.toList = true) :
    Calls Tryz.prog 56 #[.pointer (some ⟨(nd p).b, 0, none⟩), .int .i64 i, .pointer (some ⟨bn, 0, none⟩), .pointer (some ⟨bmb, 0, none⟩), .pointer (some ⟨bl, 0, none⟩), .pointer (some ⟨bf, 0, none⟩)] w
      (MatG bm Hs w D (fun c => tkB Hs c (hidB i nm.data.toList) p (L.drop i))) := by
  have hLi : L.drop i = L[i] :: L.drop (i + 1) := List.drop_eq_getElem_cons hlt
  rw [hLi]
  have h1 : ((i : Int) == L.length) = false := by simp; omega
  have hi0 : (0 : Int) ≤ i := by omega
  have hiL : (i : Int) < L.length := by omega
  have hw1 : IntKind.i64.wrap ((i : Int) + 1) = (i : Int) + 1 := w_i64 _ (by omega) (by omega)
  have HEw := Lib.hid hE
  have HMw := Lib.hid hM
  have HDw := Lib.hid (Mod.refl [bm] w)
  have hcn := hE.cn
  obtain ⟨b0, hb0⟩ : ∃ b, ((i : Int) == 0) = b := ⟨_, rfl⟩
  obtain ⟨bd, hbd⟩ : ∃ b, (((nm[0]'hnm).toNat : Int) == 36) = b := ⟨_, rfl⟩
  obtain ⟨hd, hhd⟩ : ∃ h, hidB i nm.data.toList = h := ⟨_, rfl⟩
  have HHD : Hid ((b0 && bd) = hd) := Lib.hid (by
    rw [← hhd, ← hb0, ← hbd]
    unfold hidB
    congr 1
    · rw [Bool.eq_iff_iff]; simp
    · have h0 := bget nm 0 hnm
      rw [show nm.data.toList.headD 0 = nm[0]'hnm by rw [List.headD_eq_head?_getD, List.head?_eq_getElem?, h0]; rfl, Bool.eq_iff_iff, beq_iff_eq, beq_iff_eq]
      exact ⟨fun h => UInt8.toNat_inj.1 (by simp; omega), fun h => by rw [h]; rfl⟩)
  obtain rfl : hd = true := hhd.symm.trans hhd0
  rw [hhd]
  have hnm0 : (0 : Int) < nm.size := by omega
  have hbl := byte_lt (nm[0]'hnm)
  clear hE hM hhd
  go_enter Tryz.func56, Tryz.ntmps56
  go_upto_region 0 with fail
  go_cut [8] from 12 to 18 (fun h wx => h = .bool true ∧ w = wx)
  case first =>
    obtain ⟨rfl, rfl⟩ : b0 = true ∧ bd = true := by have := HHD.out; simpa using this
    go_wp2_with fail
    go_meet
    exact ⟨rfl, rfl⟩
  case rest =>
    obtain ⟨rfl, rfl⟩ := hcut
    clear hb0 hbd hcn hnm0 HHD
    have cfw := HEw.out.self
    obtain ⟨c0w43, hlw43⟩ := HEw.out.kid hp [43] (by show 1 ≤ maxLen; unfold maxLen; omega)
    rw [show kidOf nd Ns p [43] = some (nd (p ++ [[43]])).b from if_pos hk43] at hlw43
    simp only [ptrV] at hlw43
    obtain ⟨c0w35, hlw35⟩ := HEw.out.kid hp [35] (by show 1 ≤ maxLen; unfold maxLen; omega)
    rw [show kidOf nd Ns p [35] = none from if_neg hk35] at hlw35
    simp only [ptrV] at hlw35
    obtain ⟨caxw, bxw, oxw, clw, kxw, c0xw, hlxw⟩ := HEw.out.at hp hlt hxs
    rw [show kidOf nd Ns p L[i] = some (nd (p ++ [L[i]])).b from if_pos hkx] at hlxw
    simp only [ptrV] at hlxw
    go_wp2_with fail
    go_quiet (fail)
    go_wp2_with fail
    refine (HC.out (p ++ [L[i]]) _ D hkx (HEw.out.below (drewN_below _ nq)) (HMw.out.below (drewN_below _ nq))).mono ?_
    rintro e wC ⟨rfl, DC, hM, hhwC, hm⟩
    have HEwC := Lib.hid ((HEw.out.below (drewN_below _ nq)).mod hm hM.map)
    have HMwC := Lib.hid hM
    have HDwC := Lib.hid (show Mod [bm] w wC from (HDw.out.drewN nq).trans hm (fun _ h => .inl h))
    have HHwC := Lib.hid hhwC
    clear hM hm hhwC
    go_wp2_with fail
    go_end0
    exact ⟨rfl, DC, HMwC.out, fun c => by rw [HHwC.out]; simp [tkB], HDwC.out⟩
set_option maxRecDepth 100000 in
set_option maxHeartbeats 8000000 in
theorem mat_succ_0110 (bn bmb bl bf bm t B : Nat) (hn nn : Int) (nd : Path → Nd) (Ns : List Path) (Hs : List (Path × Str)) (nm : ByteArray) (L : Path) (hti : Tight Ns Hs) (hnm : 0 < nm.size) (_hroom : Hs.length + B ≤ 4294967296) (_hLl : L.length < 4294967296) (i : Nat) (p : Path) (w : World) (D : DataW Unit) (hlt : i < L.length) (hxs : (⟨L[i].toArray⟩ : ByteArray).size ≤ maxLen) (hp : p ∈ Ns) (hE : MatE bn bmb bl bf bm t B hn nn nd Ns Hs nm L w) (hM : Met bm Hs w D)
    (_HC : Hid (∀ (q : Path) (w : World) (D : DataW Unit), q ∈ Ns → MatE bn bmb bl bf bm t B hn nn nd Ns Hs nm L w → Met bm Hs w D → Calls Tryz.prog 56 #[.pointer (some ⟨(nd q).b, 0, none⟩), .int .i64 ((i : Int) + 1), .pointer (some ⟨bn, 0, none⟩), .pointer (some ⟨bmb, 0, none⟩), .pointer (some ⟨bl, 0, none⟩), .pointer (some ⟨bf, 0, none⟩)] w (MatG bm Hs w D (fun c => tkB Hs c false q (L.drop (i + 1))))))
    (hk35 : p ++ [[35]] ∉ Ns) (hk43 : p ++ [[43]] ∈ Ns) (hkx : p ++ [L[i]] ∉ Ns) (hhd0 : hidB i nm.data.toList = true) :
    Calls Tryz.prog 56 #[.pointer (some ⟨(nd p).b, 0, none⟩), .int .i64 i, .pointer (some ⟨bn, 0, none⟩), .pointer (some ⟨bmb, 0, none⟩), .pointer (some ⟨bl, 0, none⟩), .pointer (some ⟨bf, 0, none⟩)] w
      (MatG bm Hs w D (fun c => tkB Hs c (hidB i nm.data.toList) p (L.drop i))) := by
  have hLi : L.drop i = L[i] :: L.drop (i + 1) := List.drop_eq_getElem_cons hlt
  rw [hLi]
  have h1 : ((i : Int) == L.length) = false := by simp; omega
  have hi0 : (0 : Int) ≤ i := by omega
  have hiL : (i : Int) < L.length := by omega
  have hw1 : IntKind.i64.wrap ((i : Int) + 1) = (i : Int) + 1 := w_i64 _ (by omega) (by omega)
  have HEw := Lib.hid hE
  have HMw := Lib.hid hM
  have HDw := Lib.hid (Mod.refl [bm] w)
  have hcn := hE.cn
  obtain ⟨b0, hb0⟩ : ∃ b, ((i : Int) == 0) = b := ⟨_, rfl⟩
  obtain ⟨bd, hbd⟩ : ∃ b, (((nm[0]'hnm).toNat : Int) == 36) = b := ⟨_, rfl⟩
  obtain ⟨hd, hhd⟩ : ∃ h, hidB i nm.data.toList = h := ⟨_, rfl⟩
  have HHD : Hid ((b0 && bd) = hd) := Lib.hid (by
    rw [← hhd, ← hb0, ← hbd]
    unfold hidB
    congr 1
    · rw [Bool.eq_iff_iff]; simp
    · have h0 := bget nm 0 hnm
      rw [show nm.data.toList.headD 0 = nm[0]'hnm by rw [List.headD_eq_head?_getD, List.head?_eq_getElem?, h0]; rfl, Bool.eq_iff_iff, beq_iff_eq, beq_iff_eq]
      exact ⟨fun h => UInt8.toNat_inj.1 (by simp; omega), fun h => by rw [h]; rfl⟩)
  obtain rfl : hd = true := hhd.symm.trans hhd0
  rw [hhd]
  have hnm0 : (0 : Int) < nm.size := by omega
  have hbl := byte_lt (nm[0]'hnm)
  clear hE hM hhd
  go_enter Tryz.func56, Tryz.ntmps56
  go_upto_region 0 with fail
  go_cut [8] from 12 to 18 (fun h wx => h = .bool true ∧ w = wx)
  case first =>
    obtain ⟨rfl, rfl⟩ : b0 = true ∧ bd = true := by have := HHD.out; simpa using this
    go_wp2_with fail
    go_meet
    exact ⟨rfl, rfl⟩
  case rest =>
    obtain ⟨rfl, rfl⟩ := hcut
    clear hb0 hbd hcn hnm0 HHD
    have cfw := HEw.out.self
    obtain ⟨c0w43, hlw43⟩ := HEw.out.kid hp [43] (by show 1 ≤ maxLen; unfold maxLen; omega)
    rw [show kidOf nd Ns p [43] = some (nd (p ++ [[43]])).b from if_pos hk43] at hlw43
    simp only [ptrV] at hlw43
    obtain ⟨c0w35, hlw35⟩ := HEw.out.kid hp [35] (by show 1 ≤ maxLen; unfold maxLen; omega)
    rw [show kidOf nd Ns p [35] = none from if_neg hk35] at hlw35
    simp only [ptrV] at hlw35
    obtain ⟨caxw, bxw, oxw, clw, kxw, c0xw, hlxw⟩ := HEw.out.at hp hlt hxs
    rw [show kidOf nd Ns p L[i] = none from if_neg hkx] at hlxw
    simp only [ptrV] at hlxw
    go_wp2_with fail
    go_quiet (fail)
    go_wp2_with fail
    go_end0
    exact ⟨rfl, D, HMw.out.below (drewN_below _ _), fun c => by simp [tkB, tkB_dead hti hkx], HDw.out.drewN _⟩
set_option maxRecDepth 100000 in
set_option maxHeartbeats 8000000 in
theorem mat_succ_0101 (bn bmb bl bf bm t B : Nat) (hn nn : Int) (nd : Path → Nd) (Ns : List Path) (Hs : List (Path × Str)) (nm : ByteArray) (L : Path) (_hti : Tight Ns Hs) (hnm : 0 < nm.size) (_hroom : Hs.length + B ≤ 4294967296) (_hLl : L.length < 4294967296) (i : Nat) (p : Path) (w : World) (D : DataW Unit) (hlt : i < L.length) (hxs : (⟨L[i].toArray⟩ : ByteArray).size ≤ maxLen) (hp : p ∈ Ns) (hE : MatE bn bmb bl bf bm t B hn nn nd Ns Hs nm L w) (hM : Met bm Hs w D)
    (HC : Hid (∀ (q : Path) (w : World) (D : DataW Unit), q ∈ Ns → MatE bn bmb bl bf bm t B hn nn nd Ns Hs nm L w → Met bm Hs w D → Calls Tryz.prog 56 #[.pointer (some ⟨(nd q).b, 0, none⟩), .int .i64 ((i : Int) + 1), .pointer (some ⟨bn, 0, none⟩), .pointer (some ⟨bmb, 0, none⟩), .pointer (some ⟨bl, 0, none⟩), .pointer (some ⟨bf, 0, none⟩)] w (MatG bm Hs w D (fun c => tkB Hs c false q (L.drop (i + 1))))))
    (hk35 : p ++ [[35]] ∉ Ns) (hk43 : p ++ [[43]] ∉ Ns) (hkx : p ++ [L[i]] ∈ Ns) (hhd0 : hidB i nm.data.toList = true) :
    Calls Tryz.prog 56 #[.pointer (some ⟨(nd p).b, 0, none⟩), .int .i64 i, .pointer (some ⟨bn, 0, none⟩), .pointer (some ⟨bmb, 0, none⟩), .pointer (some ⟨bl, 0, none⟩), .pointer (some ⟨bf, 0, none⟩)] w
      (MatG bm Hs w D (fun c => tkB Hs c (hidB i nm.data.toList) p (L.drop i))) := by
  have hLi : L.drop i = L[i] :: L.drop (i + 1) := List.drop_eq_getElem_cons hlt
  rw [hLi]
  have h1 : ((i : Int) == L.length) = false := by simp; omega
  have hi0 : (0 : Int) ≤ i := by omega
  have hiL : (i : Int) < L.length := by omega
  have hw1 : IntKind.i64.wrap ((i : Int) + 1) = (i : Int) + 1 := w_i64 _ (by omega) (by omega)
  have HEw := Lib.hid hE
  have HMw := Lib.hid hM
  have HDw := Lib.hid (Mod.refl [bm] w)
  have hcn := hE.cn
  obtain ⟨b0, hb0⟩ : ∃ b, ((i : Int) == 0) = b := ⟨_, rfl⟩
  obtain ⟨bd, hbd⟩ : ∃ b, (((nm[0]'hnm).toNat : Int) == 36) = b := ⟨_, rfl⟩
  obtain ⟨hd, hhd⟩ : ∃ h, hidB i nm.data.toList = h := ⟨_, rfl⟩
  have HHD : Hid ((b0 && bd) = hd) := Lib.hid (by
    rw [← hhd, ← hb0, ← hbd]
    unfold hidB
    congr 1
    · rw [Bool.eq_iff_iff]; simp
    · have h0 := bget nm 0 hnm
      rw [show nm.data.toList.headD 0 = nm[0]'hnm by rw [List.headD_eq_head?_getD, List.head?_eq_getElem?, h0]; rfl, Bool.eq_iff_iff, beq_iff_eq, beq_iff_eq]
      exact ⟨fun h => UInt8.toNat_inj.1 (by simp; omega), fun h => by rw [h]; rfl⟩)
  obtain rfl : hd = true := hhd.symm.trans hhd0
  rw [hhd]
  have hnm0 : (0 : Int) < nm.size := by omega
  have hbl := byte_lt (nm[0]'hnm)
  clear hE hM hhd
  go_enter Tryz.func56, Tryz.ntmps56
  go_upto_region 0 with fail
  go_cut [8] from 12 to 18 (fun h wx => h = .bool true ∧ w = wx)
  case first =>
    obtain ⟨rfl, rfl⟩ : b0 = true ∧ bd = true := by have := HHD.out; simpa using this
    go_wp2_with fail
    go_meet
    exact ⟨rfl, rfl⟩
  case rest =>
    obtain ⟨rfl, rfl⟩ := hcut
    clear hb0 hbd hcn hnm0 HHD
    have cfw := HEw.out.self
    obtain ⟨c0w43, hlw43⟩ := HEw.out.kid hp [43] (by show 1 ≤ maxLen; unfold maxLen; omega)
    rw [show kidOf nd Ns p [43] = none from if_neg hk43] at hlw43
    simp only [ptrV] at hlw43
    obtain ⟨c0w35, hlw35⟩ := HEw.out.kid hp [35] (by show 1 ≤ maxLen; unfold maxLen; omega)
    rw [show kidOf nd Ns p [35] = none from if_neg hk35] at hlw35
    simp only [ptrV] at hlw35
    obtain ⟨caxw, bxw, oxw, clw, kxw, c0xw, hlxw⟩ := HEw.out.at hp hlt hxs
    rw [show kidOf nd Ns p L[i] = some (nd (p ++ [L[i]])).b from if_pos hkx] at hlxw
    simp only [ptrV] at hlxw
    go_wp2_with fail
    go_quiet (fail)
    go_wp2_with fail
    refine (HC.out (p ++ [L[i]]) _ D hkx (HEw.out.below (drewN_below _ nq)) (HMw.out.below (drewN_below _ nq))).mono ?_
    rintro e wC ⟨rfl, DC, hM, hhwC, hm⟩
    have HEwC := Lib.hid ((HEw.out.below (drewN_below _ nq)).mod hm hM.map)
    have HMwC := Lib.hid hM
    have HDwC := Lib.hid (show Mod [bm] w wC from (HDw.out.drewN nq).trans hm (fun _ h => .inl h))
    have HHwC := Lib.hid hhwC
    clear hM hm hhwC
    go_wp2_with fail
    go_end0
    exact ⟨rfl, DC, HMwC.out, fun c => by rw [HHwC.out]; simp [tkB], HDwC.out⟩
set_option maxRecDepth 100000 in
set_option maxHeartbeats 8000000 in
theorem mat_succ_0100 (bn bmb bl bf bm t B : Nat) (hn nn : Int) (nd : Path → Nd) (Ns : List Path) (Hs : List (Path × Str)) (nm : ByteArray) (L : Path) (hti : Tight Ns Hs) (hnm : 0 < nm.size) (_hroom : Hs.length + B ≤ 4294967296) (_hLl : L.length < 4294967296) (i : Nat) (p : Path) (w : World) (D : DataW Unit) (hlt : i < L.length) (hxs : (⟨L[i].toArray⟩ : ByteArray).size ≤ maxLen) (hp : p ∈ Ns) (hE : MatE bn bmb bl bf bm t B hn nn nd Ns Hs nm L w) (hM : Met bm Hs w D)
    (_HC : Hid (∀ (q : Path) (w : World) (D : DataW Unit), q ∈ Ns → MatE bn bmb bl bf bm t B hn nn nd Ns Hs nm L w → Met bm Hs w D → Calls Tryz.prog 56 #[.pointer (some ⟨(nd q).b, 0, none⟩), .int .i64 ((i : Int) + 1), .pointer (some ⟨bn, 0, none⟩), .pointer (some ⟨bmb, 0, none⟩), .pointer (some ⟨bl, 0, none⟩), .pointer (some ⟨bf, 0, none⟩)] w (MatG bm Hs w D (fun c => tkB Hs c false q (L.drop (i + 1))))))
    (hk35 : p ++ [[35]] ∉ Ns) (hk43 : p ++ [[43]] ∉ Ns) (hkx : p ++ [L[i]] ∉ Ns) (hhd0 : hidB i nm.data.toList = true) :
    Calls Tryz.prog 56 #[.pointer (some ⟨(nd p).b, 0, none⟩), .int .i64 i, .pointer (some ⟨bn, 0, none⟩), .pointer (some ⟨bmb, 0, none⟩), .pointer (some ⟨bl, 0, none⟩), .pointer (some ⟨bf, 0, none⟩)] w
      (MatG bm Hs w D (fun c => tkB Hs c (hidB i nm.data.toList) p (L.drop i))) := by
  have hLi : L.drop i = L[i] :: L.drop (i + 1) := List.drop_eq_getElem_cons hlt
  rw [hLi]
  have h1 : ((i : Int) == L.length) = false := by simp; omega
  have hi0 : (0 : Int) ≤ i := by omega
  have hiL : (i : Int) < L.length := by omega
  have hw1 : IntKind.i64.wrap ((i : Int) + 1) = (i : Int) + 1 := w_i64 _ (by omega) (by omega)
  have HEw := Lib.hid hE
  have HMw := Lib.hid hM
  have HDw := Lib.hid (Mod.refl [bm] w)
  have hcn := hE.cn
  obtain ⟨b0, hb0⟩ : ∃ b, ((i : Int) == 0) = b := ⟨_, rfl⟩
  obtain ⟨bd, hbd⟩ : ∃ b, (((nm[0]'hnm).toNat : Int) == 36) = b := ⟨_, rfl⟩
  obtain ⟨hd, hhd⟩ : ∃ h, hidB i nm.data.toList = h := ⟨_, rfl⟩
  have HHD : Hid ((b0 && bd) = hd) := Lib.hid (by
    rw [← hhd, ← hb0, ← hbd]
    unfold hidB
    congr 1
    · rw [Bool.eq_iff_iff]; simp
    · have h0 := bget nm 0 hnm
      rw [show nm.data.toList.headD 0 = nm[0]'hnm by rw [List.headD_eq_head?_getD, List.head?_eq_getElem?, h0]; rfl, Bool.eq_iff_iff, beq_iff_eq, beq_iff_eq]
      exact ⟨fun h => UInt8.toNat_inj.1 (by simp; omega), fun h => by rw [h]; rfl⟩)
  obtain rfl : hd = true := hhd.symm.trans hhd0
  rw [hhd]
  have hnm0 : (0 : Int) < nm.size := by omega
  have hbl := byte_lt (nm[0]'hnm)
  clear hE hM hhd
  go_enter Tryz.func56, Tryz.ntmps56
  go_upto_region 0 with fail
  go_cut [8] from 12 to 18 (fun h wx => h = .bool true ∧ w = wx)
  case first =>
    obtain ⟨rfl, rfl⟩ : b0 = true ∧ bd = true := by have := HHD.out; simpa using this
    go_wp2_with fail
    go_meet
    exact ⟨rfl, rfl⟩
  case rest =>
    obtain ⟨rfl, rfl⟩ := hcut
    clear hb0 hbd hcn hnm0 HHD
    have cfw := HEw.out.self
    obtain ⟨c0w43, hlw43⟩ := HEw.out.kid hp [43] (by show 1 ≤ maxLen; unfold maxLen; omega)
    rw [show kidOf nd Ns p [43] = none from if_neg hk43] at hlw43
    simp only [ptrV] at hlw43
    obtain ⟨c0w35, hlw35⟩ := HEw.out.kid hp [35] (by show 1 ≤ maxLen; unfold maxLen; omega)
    rw [show kidOf nd Ns p [35] = none from if_neg hk35] at hlw35
    simp only [ptrV] at hlw35
    obtain ⟨caxw, bxw, oxw, clw, kxw, c0xw, hlxw⟩ := HEw.out.at hp hlt hxs
    rw [show kidOf nd Ns p L[i] = none from if_neg hkx] at hlxw
    simp only [ptrV] at hlxw
    go_wp2_with fail
    go_quiet (fail)
    go_wp2_with fail
    go_end0
    exact ⟨rfl, D, HMw.out.below (drewN_below _ _), fun c => by simp [tkB, tkB_dead hti hkx], HDw.out.drewN _⟩

theorem mat_from (bn bmb bl bf bm t B : Nat) (hn nn : Int) (nd : Path → Nd) (Ns : List Path) (Hs : List (Path × Str)) (nm : ByteArray) (L : Path) (hti : Tight Ns Hs) (hnm : 0 < nm.size) (hroom : Hs.length + B ≤ 4294967296) (hLl : L.length < 4294967296) (hLs : ∀ x ∈ L, x.length ≤ 4294967296) :
    ∀ (n i : Nat) (p : Path) (w : World) (D : DataW Unit), L.length = i + n → p ∈ Ns → MatE bn bmb bl bf bm t B hn nn nd Ns Hs nm L w → Met bm Hs w D →
    Calls Tryz.prog 56 #[.pointer (some ⟨(nd p).b, 0, none⟩), .int .i64 i, .pointer (some ⟨bn, 0, none⟩), .pointer (some ⟨bmb, 0, none⟩), .pointer (some ⟨bl, 0, none⟩), .pointer (some ⟨bf, 0, none⟩)] w
      (MatG bm Hs w D (fun c => tkB Hs c (hidB i nm.data.toList) p (L.drop i))) := by
  intro n
  induction n with
  | zero => intro i p w D h1 hp hE hM; exact mat_zero bn bmb bl bf bm t B hn nn nd Ns Hs nm L hti hnm hroom i p w D (by omega) hp hE hM
  | succ n ih =>
    intro i p w D h1 hp hE hM
    have hlt : i < L.length := by omega
    have hxs : (⟨L[i].toArray⟩ : ByteArray).size ≤ maxLen := by have := hLs _ (List.getElem_mem hlt); show L[i].length ≤ _; unfold maxLen; omega
    have HC := Lib.hid (fun (q : Path) (w : World) (D : DataW Unit) (hq : q ∈ Ns) (hE : MatE bn bmb bl bf bm t B hn nn nd Ns Hs nm L w) (hM : Met bm Hs w D) => by
      have := ih (i + 1) q w D (by omega) hq hE hM
      rw [show ((i + 1 : Nat) : Int) = (i : Int) + 1 by omega] at this
      exact this)
    by_cases hk35 : p ++ [[35]] ∈ Ns <;> by_cases hk43 : p ++ [[43]] ∈ Ns <;> by_cases hkx : p ++ [L[i]] ∈ Ns <;> cases hhd : hidB i nm.data.toList
    · have := mat_succ_1011 bn bmb bl bf bm t B hn nn nd Ns Hs nm L hti hnm hroom hLl i p w D hlt hxs hp hE hM HC hk35 hk43 hkx hhd
      rw [hhd] at this; exact this
    · have := mat_succ_1111 bn bmb bl bf bm t B hn nn nd Ns Hs nm L hti hnm hroom hLl i p w D hlt hxs hp hE hM HC hk35 hk43 hkx hhd
      rw [hhd] at this; exact this
    · have := mat_succ_1010 bn bmb bl bf bm t B hn nn nd Ns Hs nm L hti hnm hroom hLl i p w D hlt hxs hp hE hM HC hk35 hk43 hkx hhd
      rw [hhd] at this; exact this
    · have := mat_succ_1110 bn bmb bl bf bm t B hn nn nd Ns Hs nm L hti hnm hroom hLl i p w D hlt hxs hp hE hM HC hk35 hk43 hkx hhd
      rw [hhd] at this; exact this
    · have := mat_succ_1001 bn bmb bl bf bm t B hn nn nd Ns Hs nm L hti hnm hroom hLl i p w D hlt hxs hp hE hM HC hk35 hk43 hkx hhd
      rw [hhd] at this; exact this
    · have := mat_succ_1101 bn bmb bl bf bm t B hn nn nd Ns Hs nm L hti hnm hroom hLl i p w D hlt hxs hp hE hM HC hk35 hk43 hkx hhd
      rw [hhd] at this; exact this
    · have := mat_succ_1000 bn bmb bl bf bm t B hn nn nd Ns Hs nm L hti hnm hroom hLl i p w D hlt hxs hp hE hM HC hk35 hk43 hkx hhd
      rw [hhd] at this; exact this
    · have := mat_succ_1100 bn bmb bl bf bm t B hn nn nd Ns Hs nm L hti hnm hroom hLl i p w D hlt hxs hp hE hM HC hk35 hk43 hkx hhd
      rw [hhd] at this; exact this
    · have := mat_succ_0011 bn bmb bl bf bm t B hn nn nd Ns Hs nm L hti hnm hroom hLl i p w D hlt hxs hp hE hM HC hk35 hk43 hkx hhd
      rw [hhd] at this; exact this
    · have := mat_succ_0111 bn bmb bl bf bm t B hn nn nd Ns Hs nm L hti hnm hroom hLl i p w D hlt hxs hp hE hM HC hk35 hk43 hkx hhd
      rw [hhd] at this; exact this
    · have := mat_succ_0010 bn bmb bl bf bm t B hn nn nd Ns Hs nm L hti hnm hroom hLl i p w D hlt hxs hp hE hM HC hk35 hk43 hkx hhd
      rw [hhd] at this; exact this
    · have := mat_succ_0110 bn bmb bl bf bm t B hn nn nd Ns Hs nm L hti hnm hroom hLl i p w D hlt hxs hp hE hM HC hk35 hk43 hkx hhd
      rw [hhd] at this; exact this
    · have := mat_succ_0001 bn bmb bl bf bm t B hn nn nd Ns Hs nm L hti hnm hroom hLl i p w D hlt hxs hp hE hM HC hk35 hk43 hkx hhd
      rw [hhd] at this; exact this
    · have := mat_succ_0101 bn bmb bl bf bm t B hn nn nd Ns Hs nm L hti hnm hroom hLl i p w D hlt hxs hp hE hM HC hk35 hk43 hkx hhd
      rw [hhd] at this; exact this
    · have := mat_succ_0000 bn bmb bl bf bm t B hn nn nd Ns Hs nm L hti hnm hroom hLl i p w D hlt hxs hp hE hM HC hk35 hk43 hkx hhd
      rw [hhd] at this; exact this
    · have := mat_succ_0100 bn bmb bl bf bm t B hn nn nd Ns Hs nm L hti hnm hroom hLl i p w D hlt hxs hp hE hM HC hk35 hk43 hkx hhd
      rw [hhd] at this; exact this
end Go.Proofs.YthfdcphecggjeaaGreatDoor
