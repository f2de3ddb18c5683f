/- The trie: Remove walked, the call. -/
import Derived.Test.YtcnjgenacpkdbaaDoorRRem
namespace Go.Proofs.YtcnjgenacpkdbaaDoor
open Go Go.RowKit Go.Maps

theorem trem_no (t : Nat) (s c : ByteArray) (w : World) (hT : Tabs w) (hs : s.size < 4294967281) (hf : filterB s.data.toList = false) :
    Calls Tryd.prog 9 #[.pointer (some ⟨t, 0, none⟩), .string s, .string c] w fun e w' => e = .returned (.bool false) ∧ Below w.heap.size w w' := by
  have hb : Below w.heap.size w ((w.alloc (.cells #[.pointer (some ⟨t, 0, none⟩)] 22)).alloc (.cells #[.string c] 9)) := ((Below.refl _ _).alloc (Nat.le_refl _) _).alloc (by simp) _
  have c3 : ((w.alloc (.cells #[.pointer (some ⟨t, 0, none⟩)] 22)).alloc (.cells #[.string c] 9)).cell? ⟨w.heap.size, 0, none⟩ = some (.pointer (some ⟨t, 0, none⟩)) :=
    cell_of_row _ _ 0 _ _ _ ((Below.heap_alloc _ _ _ (by simp)).trans (heap_alloc_new w _))
  have HF := Lib.hid (filter_any s _ (hT.below hb) hs)
  rw [hf] at HF
  have HB := Lib.hid hb
  clear hT hf hb
  go_enter Tryd.func9, Tryd.ntmps9
  go_wp2_with fail
  refine HF.out.mono ?_
  rintro e w1 ⟨rfl, hk⟩
  have HK := Lib.hid (bnext HB.out (by simp) hk)
  clear hk
  go_wp2_with fail
  go_ret
  exact ⟨rfl, HK.out⟩

set_option maxRecDepth 100000 in
set_option maxHeartbeats 4000000 in
theorem trem_yes (t B : Nat) (s c : ByteArray) (Ns : List Path) (Hs : List (Path × Str)) (F : List Nat) (w : World) (h : PRep w t B Ns Hs F) (hT : Tabs w) (hs : s.size < 4294967281) (hc : c.size ≤ maxLen) (hf : filterB s.data.toList = true) (hB : B < 200000000) (hN : Ns.length < 200000000) (hH : Hs.length < 200000000) :
    Calls Tryd.prog 9 #[.pointer (some ⟨t, 0, none⟩), .string s, .string c] w fun e w' => e = .returned (.bool (decide ((levels s.data.toList, c.data.toList) ∈ Hs))) ∧
      ∃ F', PRep w' t B (remN [] (levels s.data.toList) c.data.toList Ns Hs) (Hs.erase (levels s.data.toList, c.data.toList)) F' ∧ Upd F F' w w' := by
  have hb : Below w.heap.size w ((w.alloc (.cells #[.pointer (some ⟨t, 0, none⟩)] 22)).alloc (.cells #[.string c] 9)) := ((Below.refl _ _).alloc (Nat.le_refl _) _).alloc (by simp) _
  have h3 : ((w.alloc (.cells #[.pointer (some ⟨t, 0, none⟩)] 22)).alloc (.cells #[.string c] 9)).heap[w.heap.size]? = some (.cells #[.pointer (some ⟨t, 0, none⟩)] 22 (0, 0)) := (Below.heap_alloc _ _ _ (by simp)).trans (heap_alloc_new w _)
  have h5 : ((w.alloc (.cells #[.pointer (some ⟨t, 0, none⟩)] 22)).alloc (.cells #[.string c] 9)).heap[w.heap.size + 1]? = some (.cells #[.string c] 9 (0, 0)) := by have := heap_alloc_new (w.alloc (.cells #[.pointer (some ⟨t, 0, none⟩)] 22)) (.cells #[.string c] 9); rwa [World.size_alloc] at this
  have c3 := cell_of_row _ _ 0 _ _ _ h3
  have HF := Lib.hid (filter_any s _ (hT.below hb) hs)
  rw [hf] at HF
  have HL := Lib.hid (fun W hT => levels_any s W hT hs)
  have HT := Lib.hid (hT.below hb)
  have HP := Lib.hid (h.below hb)
  have hlt2 := h.lt
  have HB := Lib.hid hb
  have H3 := Lib.hid h3
  have H5 := Lib.hid h5
  have hLl := levels_len_le s.data.toList
  have hLs := Lib.hid (levels_sum s.data.toList)
  have hL0 := levels_ne s.data.toList
  rw [show s.data.toList.length = s.size from rfl] at hLl hLs
  generalize levels s.data.toList = L at *
  clear hT hf hb h h3 h5
  obtain ⟨bin, hbin⟩ : ∃ b, decide ((L, c.data.toList) ∈ Hs) = b := ⟨_, rfl⟩
  rw [hbin]
  go_enter Tryd.func9, Tryd.ntmps9
  go_wp2_with fail
  refine HF.out.mono ?_
  rintro e w1 ⟨rfl, hk⟩
  have HK := Lib.hid hk
  go_wp2_with fail
  refine (HL.out _ (HT.out.below hk)).mono ?_
  rintro e w2 ⟨a, ca, rfl, hra, hk2⟩
  go_wp2_with fail
  have hb12 : Below ((w.alloc (.cells #[.pointer (some ⟨t, 0, none⟩)] 22)).alloc (.cells #[.string c] 9)).heap.size ((w.alloc (.cells #[.pointer (some ⟨t, 0, none⟩)] 22)).alloc (.cells #[.string c] 9)) w2 := bnext hk (Nat.le_refl _) hk2
  have hb2 : Below w.heap.size w w2 := bnext HB.out (by simp) hb12
  have h3 := (hb12.block _ (by simp; omega)).trans H3.out
  have h5 := (hb12.block _ (by simp)).trans H5.out
  have hP2 := HP.out.below hb12
  have hs2 : w.heap.size + 2 ≤ w2.heap.size := by have := hb12.size; simp at this; omega
  obtain ⟨nd, hti, hr, rfl⟩ := hP2
  have hoff := row_off hr hra hL0
  have hb25 : Below w2.heap.size w2 ((w2.alloc (.cells #[.slice a L.length ca] 25)).alloc (.cells #[.func (.func 22) #[] #[.pointer (some ⟨w2.heap.size, 0, none⟩), .pointer (some ⟨w.heap.size + 1, 0, none⟩), .pointer (some ⟨w2.heap.size + 1, 0, none⟩), .pointer (some ⟨w.heap.size, 0, none⟩)]] 51)) := ((Below.refl _ _).alloc (Nat.le_refl _) _).alloc (by simp) _
  have h7 : ((w2.alloc (.cells #[.slice a L.length ca] 25)).alloc (.cells #[.func (.func 22) #[] #[.pointer (some ⟨w2.heap.size, 0, none⟩), .pointer (some ⟨w.heap.size + 1, 0, none⟩), .pointer (some ⟨w2.heap.size + 1, 0, none⟩), .pointer (some ⟨w.heap.size, 0, none⟩)]] 51)).heap[w2.heap.size]? = some (.cells #[.slice a L.length ca] 25 (0, 0)) := (Below.heap_alloc _ _ _ (by simp)).trans (heap_alloc_new w2 _)
  have h8 : ((w2.alloc (.cells #[.slice a L.length ca] 25)).alloc (.cells #[.func (.func 22) #[] #[.pointer (some ⟨w2.heap.size, 0, none⟩), .pointer (some ⟨w.heap.size + 1, 0, none⟩), .pointer (some ⟨w2.heap.size + 1, 0, none⟩), .pointer (some ⟨w.heap.size, 0, none⟩)]] 51)).heap[w2.heap.size + 1]? = some (.cells #[.func (.func 22) #[] #[.pointer (some ⟨w2.heap.size, 0, none⟩), .pointer (some ⟨w.heap.size + 1, 0, none⟩), .pointer (some ⟨w2.heap.size + 1, 0, none⟩), .pointer (some ⟨w.heap.size, 0, none⟩)]] 51 (0, 0)) := by have := heap_alloc_new (w2.alloc (.cells #[.slice a L.length ca] 25)) (.cells #[.func (.func 22) #[] #[.pointer (some ⟨w2.heap.size, 0, none⟩), .pointer (some ⟨w.heap.size + 1, 0, none⟩), .pointer (some ⟨w2.heap.size + 1, 0, none⟩), .pointer (some ⟨w.heap.size, 0, none⟩)]] 51); rwa [World.size_alloc] at this
  have h3 := (hb25.block _ (Array.getElem?_eq_some_iff.1 h3).1).trans h3
  have h5 := (hb25.block _ (Array.getElem?_eq_some_iff.1 h5).1).trans h5
  have hR5 := hr.keep (w' := ((w2.alloc (.cells #[.slice a L.length ca] 25)).alloc (.cells #[.func (.func 22) #[] #[.pointer (some ⟨w2.heap.size, 0, none⟩), .pointer (some ⟨w.heap.size + 1, 0, none⟩), .pointer (some ⟨w2.heap.size + 1, 0, none⟩), .pointer (some ⟨w.heap.size, 0, none⟩)]] 51))) (fun p hp k hk => hb25.block k (hr.lt p hp k hk))
  have hra5 := hra.below hb25 (Nat.le_refl _)
  have hb5 : Below w.heap.size w ((w2.alloc (.cells #[.slice a L.length ca] 25)).alloc (.cells #[.func (.func 22) #[] #[.pointer (some ⟨w2.heap.size, 0, none⟩), .pointer (some ⟨w.heap.size + 1, 0, none⟩), .pointer (some ⟨w2.heap.size + 1, 0, none⟩), .pointer (some ⟨w.heap.size, 0, none⟩)]] 51)) := bnext hb2 (Nat.le_refl _) hb25
  generalize ((w2.alloc (.cells #[.slice a L.length ca] 25)).alloc (.cells #[.func (.func 22) #[] #[.pointer (some ⟨w2.heap.size, 0, none⟩), .pointer (some ⟨w.heap.size + 1, 0, none⟩), .pointer (some ⟨w2.heap.size + 1, 0, none⟩), .pointer (some ⟨w.heap.size, 0, none⟩)]] 51)) = w5 at *
  have HE : Hid (∀ W, Mod (foot nd Ns) w5 W → RemW w2.heap.size (w.heap.size + 1) (w2.heap.size + 1) w.heap.size t L c W) := Lib.hid fun W hm => by
    have hg : ∀ (k : Nat) (o : Obj), w5.heap[k]? = some o → w.heap.size ≤ k → W.heap[k]? = some o := fun k o ho hk => (hm.block k (Array.getElem?_eq_some_iff.1 ho).1 (fun hf => by have := hlt2 k hf; omega)).trans ho
    exact ⟨⟨a, ca, cell_of_row _ _ 0 _ _ _ (hg _ _ h7 (by omega)), hra5.mod hm hoff⟩, cell_of_row _ _ 0 _ _ _ (hg _ _ h5 (by omega)), cell_of_row _ _ 0 _ _ _ (hg _ _ h8 (by omega)), cell_of_row _ _ 0 _ _ _ (hg _ _ h3 (by omega))⟩
  have HS := Lib.hid (show TS w5 (foot nd Ns) w5.drew t B Hs.length Ns.length nd Ns Hs from TS.drewN (w := w5) ⟨hR5, Mod.refl _ _, fun p hp k hk => .inl (mem_foot.2 ⟨p, hp, hk⟩)⟩ 1)
  have HC := Lib.hid (rem_from w2.heap.size (w.heap.size + 1) (w2.heap.size + 1) w.heap.size t L c w5 (foot nd Ns) hc (fun x hx => by have := hLs.out x hx; omega) HE.out B hB (by omega) Hs.length L.length 0 w5.drew nd Ns Hs (by omega) HS.out hti (by simpa using hti.root) hN)
  have HTI := Lib.hid hti
  rw [List.take_zero, hr.root, hbin] at HC
  have HB5 := Lib.hid hb5
  obtain ⟨-, -, cf, ct⟩ := HE.out _ HS.out.mod
  clear hk hk2 hra hb12 hb2 hlt2 hoff hb25 h7 h8 h3 h5 hR5 hra5 hb5 hti hr HB HT HP HL HF H3 H5 HK c3
  refine wp_region_held_drew (S := fun W => W.cell? ⟨w2.heap.size + 1, 0, none⟩ = some (.func (.func 22) #[] #[.pointer (some ⟨w2.heap.size, 0, none⟩), .pointer (some ⟨w.heap.size + 1, 0, none⟩), .pointer (some ⟨w2.heap.size + 1, 0, none⟩), .pointer (some ⟨w.heap.size, 0, none⟩)]) ∧ W.cell? ⟨w.heap.size, 0, none⟩ = some (.pointer (some ⟨t, 0, none⟩))) (by kernel_rfl) ⟨cf, ct⟩ (fun hHeld => ?_)
  refine wpAnyH_take (i := 0) (v := ?_) rfl (by kernel_rfl) (by kernel_rfl) (by kernel_rfl) (fun _ _ _ h => h) (Or.inl ⟨rfl, ?_⟩) hHeld ?_
  rotate_left
  · intro w0 hS0
    try dsimp only at hS0
    go_simp
    try with_reducible rfl
  simp only [List.getElem_toArray, List.getElem_cons_zero, Act.put, List.setIfInBounds_toArray, List.set_cons_zero, List.set_cons_succ]
  refine wpAnyH_take (i := 1) (v := ?_) rfl (by kernel_rfl) (by kernel_rfl) (by kernel_rfl) (fun _ _ _ h => h) (Or.inl ⟨rfl, ?_⟩) hHeld ?_
  rotate_left
  · intro w0 hS0
    try dsimp only at hS0
    go_simp
    try with_reducible rfl
  simp only [List.getElem_toArray, List.getElem_cons_zero, List.getElem_cons_succ, Act.put, List.setIfInBounds_toArray, List.set_cons_zero, List.set_cons_succ]
  refine wpAnyH_take (i := 2) (v := ?_) rfl (by kernel_rfl) (by kernel_rfl) (by kernel_rfl) (fun _ _ _ h => h) (Or.inl ⟨rfl, ?_⟩) hHeld ?_
  rotate_left
  · intro w0 hS0
    try dsimp only at hS0
    go_simp
    try with_reducible rfl
  simp only [List.getElem_toArray, List.getElem_cons_zero, List.getElem_cons_succ, Act.put, List.setIfInBounds_toArray, List.set_cons_zero, List.set_cons_succ]
  refine wpAnyH_take (i := 3) (v := ?_) rfl (by kernel_rfl) (by kernel_rfl) (by kernel_rfl) (fun _ _ _ h => h) (Or.inl ⟨rfl, ?_⟩) hHeld ?_
  rotate_left
  · intro w0 hS0
    try dsimp only at hS0
    go_simp
    try with_reducible rfl
  simp only [List.getElem_toArray, List.getElem_cons_zero, List.getElem_cons_succ, Act.put, List.setIfInBounds_toArray, List.set_cons_zero, List.set_cons_succ]
  refine wpAnyH_ready (rs := [4]) (by kernel_rfl) (by simp) ?_
  refine AllReadyH.cons rfl (fun K hK => ?_) AllReadyH.nil
  rw [if_pos (by rfl)]
  go_simp
  go_at_call 22
  refine HC.out.mono ?_
  rintro e w6 ⟨rfl, hS6⟩
  have HS6 := Lib.hid hS6
  obtain ⟨-, -, cf6, ct6⟩ := HE.out _ hS6.mod
  refine hK.out _ _ ⟨cf6, ct6⟩ (fun hHeld => ?_)
  clear hS6 cf6 ct6 cf ct HC HS
  refine wpAnyH_take (i := 5) (v := ?_) rfl (by kernel_rfl) (by kernel_rfl) (by kernel_rfl) (fun _ _ _ h => h) (Or.inl ⟨rfl, ?_⟩) hHeld ?_
  rotate_left
  · intro w0 hS0
    try dsimp only at hS0
    go_simp
    try with_reducible rfl
  simp only [List.getElem_toArray, List.getElem_cons_zero, List.getElem_cons_succ, Act.put, List.setIfInBounds_toArray, List.set_cons_zero, List.set_cons_succ]
  refine wpAnyH_done (by kernel_rfl) ?_ _
  have hti6 : Tight (remN [] L c.data.toList Ns Hs) (Hs.erase (L, c.data.toList)) := by
    unfold remN
    split
    · exact tight_rem HTI.out
    · rename_i h; rw [List.erase_of_not_mem h]; exact HTI.out
  have HTI6 := Lib.hid hti6
  have hft : ∀ p ∈ remN [] L c.data.toList Ns Hs, p ∈ Ns := by
    intro p hp
    unfold remN at hp
    split at hp
    · exact (mem_cut.1 hp).1
    · exact hp
  have HFT := Lib.hid hft
  have HLE := Lib.hid (fun (h : (L, c.data.toList) ∈ Hs) => List.length_erase_of_mem h)
  have HPOS := Lib.hid (fun (h : (L, c.data.toList) ∈ Hs) => List.length_pos_of_mem h)
  have HLN := Lib.hid (fun (h : (L, c.data.toList) ∉ Hs) => congrArg List.length (List.erase_of_not_mem h))
  clear hti6 hft
  have HB5' := HB5
  cases bin with
  | false =>
    have hnin : (L, c.data.toList) ∉ Hs := by simpa using hbin
    go_wp2_with fail
    go_ret
    exact ⟨rfl, ts_prep HS6.out HTI6.out (by rw [HLN.out hnin]) rfl HB5'.out (Nat.le_refl _)⟩
  | true =>
    have hyin : (L, c.data.toList) ∈ Hs := by simpa using hbin
    have hlen := HLE.out hyin
    have hpos := HPOS.out hyin
    obtain ⟨c2, -⟩ := HS6.out.rep.c2
    have f2 := HS6.out.rep.fz HS6.out.rep.has0 2
    rw [HS6.out.rep.root] at f2
    have hw1 : IntKind.i64.wrap ((Hs.length : Int) - 1) = (Hs.length : Int) - 1 := w_i64 _ (by omega) (by omega)
    have ct := hHeld.2
    have HFIN := Lib.hid (HS6.out.count 2 ((Hs.length : Int) - 1) (.inl rfl))
    simp only [if_true, show ¬ (2 : Nat) = 3 by omega, if_false] at HFIN
    clear hHeld
    go_wp2_with fail
    go_ret
    exact ⟨rfl, ts_prep HFIN.out HTI6.out (by rw [hlen]; omega) rfl HB5'.out (Nat.le_refl _)⟩
end Go.Proofs.YtcnjgenacpkdbaaDoor
