/- The hub's laws: HubHas walked. (Printed by gen_hhas.py.) -/
import Derived.Test.YthfdcphecggjeaaGreatDoorHHub
namespace Go.Proofs.YthfdcphecggjeaaGreatDoor
open Go Go.RowKit

theorem Db.startK {w0 w1 w : World} {h t g n lg : Nat} {G : List Nat} (p : DNew w1 h t g n) (h0 : w0.heap.size ≤ t) (h1 : t < g) (h2 : g < h) (hk : ∀ j, t ≤ j → j ≤ h → w.heap[j]? = w1.heap[j]?) (hbl : Below w0.heap.size w0 w) (hl : DLogAt w lg [] G) (hG : ∀ j ∈ G, w1.heap.size ≤ j) :
    ∃ F, Db w0 w h n 0 HubS.new lg [] F ∧ F = footH h [t] [g] G := by
  have hh : h < w1.heap.size := (Array.getElem?_eq_some_iff.1 p.top).1
  refine ⟨_, ⟨⟨t, g, 0, [t], [g], G, ⟨(hk h (by omega) (Nat.le_refl _)).trans p.top, ⟨trep_nil ((hk t (Nat.le_refl _) (by omega)).trans p.tr), List.Pairwise.nil, by simp [HubS.new], by simp [HubS.new]⟩, rrep_nil ((hk g (by omega) (by omega)).trans p.kp), hl, ?_, ?_, fun hj => ?_, fun j hj hj' => ?_, fun j hj hj' => ?_, fun j hj hj' => ?_⟩, rfl⟩, by simp [HubS.new], by simp, by simp [HubS.new], by simp [HubS.new], ?_, fun j hj => ?_, ?_⟩, rfl⟩
  · simp; omega
  · simp; omega
  · have := hG h hj; omega
  · simp at hj hj'; omega
  · have := hG j hj'; simp at hj; omega
  · have := hG j hj'; simp at hj; omega
  · exact List.Pairwise.nil
  · rcases mem_footH.1 hj with rfl | hj | hj | hj
    · omega
    · simp at hj; omega
    · simp at hj; omega
    · have := hG j hj; omega
  · exact hbl
set_option maxRecDepth 100000 in
set_option maxHeartbeats 8000000 in
theorem hubHas_any (n : Int) (a : Option Addr) (c : Nat) (l : List Item) (fi cl na : ByteArray) (W : World) (hr : Row W a (itemsV l)) (hl : l.length ≤ maxLen) (hq : ∀ x ∈ l, 0 ≤ x.msg.q ∧ x.msg.q < 256) (hT : Tabs W) :
    Calls Tryz.prog 5 #[.int .i64 n, .slice a l.length c, .string fi, .string cl, .string na] W fun e w' => e = .returned (.bool true) ∧ Below W.heap.size W w' := by
  have HT := Lib.hid hT
  have HR := Lib.hid hr
  have HG := Lib.hid (great19 a c l W hr hl)
  have HAW := Lib.hid (fun X (hb : Below W.heap.size W X) => awake19 W X hb hT)
  have hl2 : (l.length : Int) ≤ 9223372036854775807 := by unfold maxLen at hl; omega
  have HSM := Lib.hid (fun (h : SmL l) => small_of h hq)
  clear hr hl hq hT
  go_enter Tryz.func5, Tryz.ntmps5
  go_wp2_with fail
  refine HG.out.mono ?_
  rintro e w1 ⟨he, rfl⟩
  rcases he with rfl | ⟨rfl, hs⟩
  · go_wp2_with fail
    refine (HAW.out _ (Below.refl _ _)).mono ?_
    rintro e wz ⟨rfl, hk⟩
    have HK := Lib.hid (bnext (Below.refl _ _) (Nat.le_refl _) hk)
    clear hk
    go_wp2_with fail
    go_ret
    exact ⟨rfl, HK.out⟩
  by_cases hf : (200 : Int) < fi.size
  · go_wp2_with fail
    refine (HAW.out _ (Below.refl _ _)).mono ?_
    rintro e wz ⟨rfl, hk⟩
    have HK := Lib.hid (bnext (Below.refl _ _) (Nat.le_refl _) hk)
    clear hk
    go_wp2_with fail
    go_ret
    exact ⟨rfl, HK.out⟩
  by_cases hc : (200 : Int) < cl.size
  · go_wp2_with fail
    refine (HAW.out _ (Below.refl _ _)).mono ?_
    rintro e wz ⟨rfl, hk⟩
    have HK := Lib.hid (bnext (Below.refl _ _) (Nat.le_refl _) hk)
    clear hk
    go_wp2_with fail
    go_ret
    exact ⟨rfl, HK.out⟩
  by_cases ha : (200 : Int) < na.size
  · go_wp2_with fail
    refine (HAW.out _ (Below.refl _ _)).mono ?_
    rintro e wz ⟨rfl, hk⟩
    have HK := Lib.hid (bnext (Below.refl _ _) (Nat.le_refl _) hk)
    clear hk
    go_wp2_with fail
    go_ret
    exact ⟨rfl, HK.out⟩
  by_cases hn : n < 1 ∨ 64 < n
  · have HNO := Lib.hid (hub_no n hn W)
    go_wp2_with fail
    refine HNO.out.mono ?_
    rintro e w1 ⟨rfl, rfl⟩
    by_cases hn1 : n < 1
    · go_wp2_with fail
      refine (HAW.out _ (Below.refl _ _)).mono ?_
      rintro e wz ⟨rfl, hk⟩
      have HK := Lib.hid (bnext (Below.refl _ _) (Nat.le_refl _) hk)
      clear hk
      go_wp2_with fail
      go_ret
      exact ⟨rfl, HK.out⟩
    · have hn2 : 64 < n := by omega
      clear hn
      go_wp2_with fail
      refine (HAW.out _ (Below.refl _ _)).mono ?_
      rintro e wz ⟨rfl, hk⟩
      have HK := Lib.hid (bnext (Below.refl _ _) (Nat.le_refl _) hk)
      clear hk
      go_wp2_with fail
      go_ret
      exact ⟨rfl, HK.out⟩
  obtain ⟨m, rfl⟩ := Int.eq_ofNat_of_zero_le (show 0 ≤ n by omega)
  have h1 : 1 ≤ m := by omega
  have h2 : m ≤ 64 := by omega
  have g1 : ¬ (m : Int) < 1 := by omega
  have g2 : ¬ (64 : Int) < m := by omega
  have HN := Lib.hid (hub_yes W m h1 h2 W (Below.refl _ _))
  clear hn
  go_wp2_with fail
  refine HN.out.mono ?_
  rintro e w1 ⟨hb, F1, rfl, hp1, hu1⟩
  have HB1 := Lib.hid hp1
  have HS := Lib.hid hs
  have hl60 : l.length ≤ 60 := hs.1
  clear hp1 hs hu1
  go_wp2_with fail
  refine (dhub_new m w1).mono ?_
  rintro e w2 ⟨d, t, g, rfl, hdn, hd0, hd1, hd2, hk2⟩
  have HB2 := Lib.hid (HB1.out.below hk2)
  have HDN := Lib.hid (And.intro hdn (And.intro hd0 (And.intro hd1 (And.intro hd2 hk2))))
  clear hdn hd0 hd1 hd2 hk2
  have HDO := Lib.hid (hdo_any W hb m 0 HubS.new (.pointer none) [] F1 l a c w2 HB2.out HT.out (HSM.out HS.out) (by omega) h1 h2 (HB2.out.beside HR.out) [] (by simp))
  go_wp2_with fail
  refine HDO.out.mono ?_
  rintro e w3 ⟨v3, M3, F1b, rfl, hp3, hu3, -⟩
  have HB3 := Lib.hid hp3.nolog
  have HU3 := Lib.hid hu3
  clear hp3 hu3 HDO
  go_wp2_with fail
  have hbl := low_alloc w3 (.cells #[.slice none 0 0, .int .i64 0] 60)
  obtain ⟨hdn, hd0, hd1, hd2, hk2⟩ := HDN.out
  have hs2 := hk2.size
  have hs3 := HU3.out.1.size
  have hdl : d < w2.heap.size := (Array.getElem?_eq_some_iff.1 hdn.top).1
  obtain ⟨F2, hp4, hF2⟩ := Db.startK (w0 := W) (w := w3.alloc (.cells #[.slice none 0 0, .int .i64 0] 60)) (lg := w3.heap.size) (G := [w3.heap.size]) hdn (by have := HB1.out.bel.size; omega) hd1 hd2
    (fun j hj hj' => by
      rw [hbl.block j (by omega), HU3.out.1.block j (by omega) (fun hm => by have := HB1.out.lt _ hm; omega)])
    (bnext HB3.out.bel (Nat.le_refl _) hbl)
    ⟨.slice none 0 0, heap_alloc_new w3 _, World.ownsRow_nil _ _ _ _, by simp [Value.ownBlock], rfl⟩ (fun j hj => by rw [List.mem_singleton.1 hj]; omega)
  have HD4 := Lib.hid hp4
  have HB4 := Lib.hid (HB3.out.below hbl)
  have HDJ4 : Hid (∀ k ∈ F2, k ∉ F1b) := Lib.hid (fun k hk' hk => by
    rw [hF2] at hk'
    have h3 := HU3.out.2 k hk
    have hk3 := HB3.out.lt k hk
    rcases mem_footH.1 hk' with rfl | hj | hj | hj
    · rcases h3 with h3 | h3
      · have := HB1.out.lt _ h3; omega
      · omega
    · rw [List.mem_singleton.1 hj] at h3
      rcases h3 with h3 | h3
      · have := HB1.out.lt _ h3; omega
      · omega
    · rw [List.mem_singleton.1 hj] at h3
      rcases h3 with h3 | h3
      · have := HB1.out.lt _ h3; omega
      · omega
    · rw [List.mem_singleton.1 hj] at hk3
      omega)
  clear hbl hdn hd0 hd1 hd2 hk2 hp4 hF2 HDN HB1 HB2 HB3 HU3 HN HG hs2 hs3 hdl
  generalize hw4 : w3.alloc (.cells #[.slice none 0 0, .int .i64 0] 60) = w4 at *
  generalize w3.heap.size = lg at *
  have HDA := Lib.hid (ddo_any W d m 0 HubS.new lg [] F2 l a c w4 HD4.out (HSM.out HS.out) (by omega) h1 h2 (HD4.out.beside HR.out) [] (by simp))
  go_wp2_with fail
  refine HDA.out.mono ?_
  rintro e w5 ⟨v5, M5, F2b, rfl, hp5, hu5, -⟩
  obtain ⟨hpb, hdb⟩ := HB4.out.keepBy (fun j hj hj' => HDJ4.out j hj' hj) HD4.out.fF hu5
  rw [Nat.zero_add] at hp5 hpb
  rw [List.nil_append] at hp5
  have HB5 := Lib.hid hpb
  have HD5 := Lib.hid hp5
  have HDJ5 : Hid (∀ j ∈ F1b, j ∉ F2b) := Lib.hid hdb
  have hkl : (doH m l HubS.new).2.kp.length ≤ 60 := by have := hpb.kl; omega
  have hgl : (doH m l HubS.new).2.gs.length ≤ 60 := by
    obtain ⟨_, _, _, -, h, -⟩ := hpb.lensT
    have := h.len; omega
  clear hpb hp5 hdb hu5 HDA HB4 HD4 HDJ4 HSM HR hw4
  generalize (doH m l HubS.new).2 = S at *
  generalize notesOf m l = ns at *
  obtain ⟨tp, _, _, t0, -⟩ := HB5.out.lensT
  obtain ⟨gp, _, c1, -⟩ := HB5.out.lensK
  obtain ⟨td, _, _, d0, -⟩ := HD5.out.lensT
  obtain ⟨gd, _, d1, -⟩ := HD5.out.lensK
  have HX : Hid (∀ X, Below w5.heap.size w5 X → X.cell? ⟨hb, 0, none⟩ = some (.pointer (some ⟨tp, 0, none⟩)) ∧ X.cell? ⟨hb, 1, none⟩ = some (.pointer (some ⟨gp, 0, none⟩)) ∧ X.cell? ⟨d, 0, none⟩ = some (.pointer (some ⟨td, 0, none⟩)) ∧ X.cell? ⟨d, 1, none⟩ = some (.pointer (some ⟨gd, 0, none⟩))) := Lib.hid (fun X hX =>
    ⟨(World.cell?_of_block (w := w5) (hX.block _ (World.block_lt_of_cell? _ _ t0))).trans t0, (World.cell?_of_block (w := w5) (hX.block _ (World.block_lt_of_cell? _ _ c1))).trans c1, (World.cell?_of_block (w := w5) (hX.block _ (World.block_lt_of_cell? _ _ d0))).trans d0, (World.cell?_of_block (w := w5) (hX.block _ (World.block_lt_of_cell? _ _ d1))).trans d1⟩)
  clear d0 d1 t0
  obtain ⟨M0, hM0⟩ : ∃ M0, orNone (get na.data.toList S.kp) = M0 := ⟨_, rfl⟩
  obtain ⟨is0, hi0⟩ : ∃ b, (get na.data.toList S.kp).isSome = b := ⟨_, rfl⟩
  have HG1 := Lib.hid (hb_get HB5.out c1 na (by omega))
  have HG2 := Lib.hid (fun X (hX : Below w5.heap.size w5 X) => db_get (HD5.out.below hX) (by omega) (HX.out X hX).2.2.2 na)
  rw [hM0, hi0] at HG1 HG2
  clear hM0 hi0
  obtain ⟨mt, mp, mq, mr⟩ := M0
  dsimp only [Msg.val] at HG1 HG2
  go_wp2_with fail
  refine HG1.out.mono ?_
  rintro e w6 ⟨rfl, hk6⟩
  have HB6 := Lib.hid hk6
  clear hk6 c1
  have HM6 := Lib.hid (heap_alloc_new w6 (.cells #[.string mt, .string mp, .int .u8 mq, .bool mr] 24))
  have hb7 := low_alloc w6 (.cells #[.string mt, .string mp, .int .u8 mq, .bool mr] 24)
  have HB7 := Lib.hid (bnext HB6.out (Nat.le_refl _) hb7)
  have hs7 : (w6.alloc (.cells #[.string mt, .string mp, .int .u8 mq, .bool mr] 24)).heap.size = w6.heap.size + 1 := by simp
  generalize hw7 : w6.alloc (.cells #[.string mt, .string mp, .int .u8 mq, .bool mr] 24) = w7 at *
  obtain ⟨-, -, -, d1⟩ := HX.out _ HB7.out
  clear hb7
  go_wp2_with (first
    | (refine wpList_store_newTo rfl 24 _ _ rfl rfl w6.heap.size rfl #[.string mt, .string mp, .int .u8 mq, .bool mr] _ rfl rfl (by kernel_rfl) rfl rfl ?_; rw [hw7])
    | fail)
  refine (HG2.out _ HB7.out).mono ?_
  rintro e w8 ⟨rfl, hk8⟩
  have HB8 := Lib.hid (bnext HB7.out (Nat.le_refl _) hk8)
  have HM8 := Lib.hid ((hk8.block w6.heap.size (by omega)).trans HM6.out)
  have hs8 : w6.heap.size < w8.heap.size := by have := hk8.size; omega
  clear hk8 d1 hw7 hs7 HM6 HG1 HG2
  have HN8 := Lib.hid (heap_alloc_new w8 (.cells #[.string mt, .string mp, .int .u8 mq, .bool mr] 24))
  have hb9 := low_alloc w8 (.cells #[.string mt, .string mp, .int .u8 mq, .bool mr] 24)
  have HB9 := Lib.hid (bnext HB8.out (Nat.le_refl _) hb9)
  have HM9 := Lib.hid ((hb9.block w6.heap.size hs8).trans HM8.out)
  clear hb9
  generalize hw9 : w8.alloc (.cells #[.string mt, .string mp, .int .u8 mq, .bool mr] 24) = w9 at *
  go_wp2_with (first
    | (refine wpList_store_newTo rfl 24 _ _ rfl rfl w8.heap.size rfl #[.string mt, .string mp, .int .u8 mq, .bool mr] _ rfl rfl (by kernel_rfl) rfl rfl ?_; rw [hw9])
    | fail)
  generalize w6.heap.size = xa at *
  generalize w8.heap.size = xb at *
  have HMX : Hid (∀ X, Below w9.heap.size w9 X → (X.cell? ⟨xa, 0, none⟩ = some (.string mt) ∧ X.cell? ⟨xa, 1, none⟩ = some (.string mp) ∧ X.cell? ⟨xa, 2, none⟩ = some (.int .u8 mq) ∧ X.cell? ⟨xa, 3, none⟩ = some (.bool mr)) ∧ X.cell? ⟨xb, 0, none⟩ = some (.string mt) ∧ X.cell? ⟨xb, 1, none⟩ = some (.string mp) ∧ X.cell? ⟨xb, 2, none⟩ = some (.int .u8 mq) ∧ X.cell? ⟨xb, 3, none⟩ = some (.bool mr)) := Lib.hid (fun X hX => by
    have h1 := (hX.block xa (Array.getElem?_eq_some_iff.1 HM9.out).1).trans HM9.out
    have h2 := (hX.block xb (Array.getElem?_eq_some_iff.1 HN8.out).1).trans HN8.out
    exact ⟨⟨cell_of_row _ _ 0 _ _ _ h1, cell_of_row _ _ 1 _ _ _ h1, cell_of_row _ _ 2 _ _ _ h1, cell_of_row _ _ 3 _ _ _ h1⟩, cell_of_row _ _ 0 _ _ _ h2, cell_of_row _ _ 1 _ _ _ h2, cell_of_row _ _ 2 _ _ _ h2, cell_of_row _ _ 3 _ _ _ h2⟩)
  have HSX : Hid (∀ X, Below w9.heap.size w9 X → ((X.cell? ⟨xa, 0, none⟩ = some (.string mt) ∧ X.cell? ⟨xa, 1, none⟩ = some (.string mp) ∧ X.cell? ⟨xa, 2, none⟩ = some (.int .u8 mq) ∧ X.cell? ⟨xa, 3, none⟩ = some (.bool mr)) ∧ X.cell? ⟨xb, 0, none⟩ = some (.string mt) ∧ X.cell? ⟨xb, 1, none⟩ = some (.string mp) ∧ X.cell? ⟨xb, 2, none⟩ = some (.int .u8 mq) ∧ X.cell? ⟨xb, 3, none⟩ = some (.bool mr)) ∧ X.cell? ⟨hb, 0, none⟩ = some (.pointer (some ⟨tp, 0, none⟩)) ∧ X.cell? ⟨hb, 1, none⟩ = some (.pointer (some ⟨gp, 0, none⟩)) ∧ X.cell? ⟨d, 0, none⟩ = some (.pointer (some ⟨td, 0, none⟩)) ∧ X.cell? ⟨d, 1, none⟩ = some (.pointer (some ⟨gd, 0, none⟩))) := Lib.hid (fun X hX => ⟨HMX.out X hX, HX.out X (bnext HB9.out (Nat.le_refl _) hX)⟩)
  have hcmp := fun w => msg_eql true w mt mp mt mp mq mq mr mr (by simp)
  have hbe : (is0 == is0) = true := by simp
  have HB := Lib.hid (HB5.out.below HB9.out)
  have HD := Lib.hid (HD5.out.below HB9.out)
  clear HB5 HD5 HB6 HB7 HB8 HM8 HM9 HN8 HMX hs8 hw9
  have hgle := toldG_len S.gs na.data.toList
  have HOFL := Lib.hid (show (ofL cl.data.toList S.gs).length ≤ S.gs.length from by have := ofL_len cl.data.toList S.gs S.gs.length; rwa [List.take_length] at this)
  have HFIL := Lib.hid (finds_len fi.data.toList S.kp)
  refine wp_region_held_drew (S := fun X => ((X.cell? ⟨xa, 0, none⟩ = some (.string mt) ∧ X.cell? ⟨xa, 1, none⟩ = some (.string mp) ∧ X.cell? ⟨xa, 2, none⟩ = some (.int .u8 mq) ∧ X.cell? ⟨xa, 3, none⟩ = some (.bool mr)) ∧ X.cell? ⟨xb, 0, none⟩ = some (.string mt) ∧ X.cell? ⟨xb, 1, none⟩ = some (.string mp) ∧ X.cell? ⟨xb, 2, none⟩ = some (.int .u8 mq) ∧ X.cell? ⟨xb, 3, none⟩ = some (.bool mr)) ∧ X.cell? ⟨hb, 0, none⟩ = some (.pointer (some ⟨tp, 0, none⟩)) ∧ X.cell? ⟨hb, 1, none⟩ = some (.pointer (some ⟨gp, 0, none⟩)) ∧ X.cell? ⟨d, 0, none⟩ = some (.pointer (some ⟨td, 0, none⟩)) ∧ X.cell? ⟨d, 1, none⟩ = some (.pointer (some ⟨gd, 0, none⟩))) (by kernel_rfl) (HSX.out _ (Below.refl _ _).drew) (fun hHeld => ?_)
  have HW : Hid (Below w9.heap.size w9 w9.drew) := Lib.hid (Below.refl w9.heap.size w9).drew
  refine wpAnyH_take (i := 0) (v := ?_) rfl (by kernel_rfl) (by kernel_rfl) (by kernel_rfl) (fun _ _ _ h => h) (Or.inl ⟨rfl, ?_⟩) hHeld ?_
  rotate_left
  · intro w0 hS0
    try dsimp only at hS0
    go_simp
    try with_reducible rfl
  simp only [List.getElem_toArray, List.getElem_cons_zero, Act.put, List.setIfInBounds_toArray, List.set_cons_zero, List.set_cons_succ]
  refine wpAnyH_take (i := 1) (v := ?_) rfl (by kernel_rfl) (by kernel_rfl) (by kernel_rfl) (fun _ _ _ h => h) (Or.inl ⟨rfl, ?_⟩) hHeld ?_
  rotate_left
  · intro w0 hS0
    try dsimp only at hS0
    go_simp
    try with_reducible rfl
  simp only [List.getElem_toArray, List.getElem_cons_zero, List.getElem_cons_succ, Act.put, List.setIfInBounds_toArray, List.set_cons_zero, List.set_cons_succ]
  refine wpAnyH_take (i := 2) (v := ?_) rfl (by kernel_rfl) (by kernel_rfl) (by kernel_rfl) (fun _ _ _ h => h) (Or.inl ⟨rfl, ?_⟩) hHeld ?_
  rotate_left
  · intro w0 hS0
    try dsimp only at hS0
    go_simp
    try with_reducible rfl
  simp only [List.getElem_toArray, List.getElem_cons_zero, List.getElem_cons_succ, Act.put, List.setIfInBounds_toArray, List.set_cons_zero, List.set_cons_succ]
  refine wpAnyH_take (i := 3) (v := ?_) rfl (by kernel_rfl) (by kernel_rfl) (by kernel_rfl) (fun _ _ _ h => h) (Or.inl ⟨rfl, ?_⟩) hHeld ?_
  rotate_left
  · intro w0 hS0
    try dsimp only at hS0
    go_simp
    try with_reducible rfl
  simp only [List.getElem_toArray, List.getElem_cons_zero, List.getElem_cons_succ, Act.put, List.setIfInBounds_toArray, List.set_cons_zero, List.set_cons_succ]
  refine wpAnyH_take (i := 4) (v := ?_) rfl (by kernel_rfl) (by kernel_rfl) (by kernel_rfl) (fun _ _ _ h => h) (Or.inl ⟨rfl, ?_⟩) hHeld ?_
  rotate_left
  · intro w0 hS0
    try dsimp only at hS0
    go_simp
    try with_reducible rfl
  simp only [List.getElem_toArray, List.getElem_cons_zero, List.getElem_cons_succ, Act.put, List.setIfInBounds_toArray, List.set_cons_zero, List.set_cons_succ]
  refine wpAnyH_take (i := 5) (v := ?_) rfl (by kernel_rfl) (by kernel_rfl) (by kernel_rfl) (fun _ _ _ h => h) (Or.inl ⟨rfl, ?_⟩) hHeld ?_
  rotate_left
  · intro w0 hS0
    try dsimp only at hS0
    go_simp
    try with_reducible rfl
  simp only [List.getElem_toArray, List.getElem_cons_zero, List.getElem_cons_succ, Act.put, List.setIfInBounds_toArray, List.set_cons_zero, List.set_cons_succ]
  refine wpAnyH_take (i := 6) (v := ?_) rfl (by kernel_rfl) (by kernel_rfl) (by kernel_rfl) (fun _ _ _ h => h) (Or.inl ⟨rfl, ?_⟩) hHeld ?_
  rotate_left
  · intro w0 hS0
    try dsimp only at hS0
    go_simp
    try with_reducible rfl
  simp only [List.getElem_toArray, List.getElem_cons_zero, List.getElem_cons_succ, Act.put, List.setIfInBounds_toArray, List.set_cons_zero, List.set_cons_succ]
  refine wpAnyH_take (i := 7) (v := ?_) rfl (by kernel_rfl) (by kernel_rfl) (by kernel_rfl) (fun _ _ _ h => h) (Or.inl ⟨rfl, ?_⟩) hHeld ?_
  rotate_left
  · intro w0 hS0
    try dsimp only at hS0
    go_simp
    try with_reducible rfl
  simp only [List.getElem_toArray, List.getElem_cons_zero, List.getElem_cons_succ, Act.put, List.setIfInBounds_toArray, List.set_cons_zero, List.set_cons_succ]
  refine wpAnyH_take (i := 8) (v := ?_) rfl (by kernel_rfl) (by kernel_rfl) (by kernel_rfl) (fun _ _ _ h => h) (Or.inl ⟨rfl, ?_⟩) hHeld ?_
  rotate_left
  · intro w0 hS0
    try dsimp only at hS0
    go_simp
    try with_reducible rfl
  simp only [List.getElem_toArray, List.getElem_cons_zero, List.getElem_cons_succ, Act.put, List.setIfInBounds_toArray, List.set_cons_zero, List.set_cons_succ]
  refine wpAnyH_take (i := 9) (v := ?_) rfl (by kernel_rfl) (by kernel_rfl) (by kernel_rfl) (fun _ _ _ h => h) (Or.inl ⟨rfl, ?_⟩) hHeld ?_
  rotate_left
  · intro w0 hS0
    try dsimp only at hS0
    go_simp
    try with_reducible rfl
  simp only [List.getElem_toArray, List.getElem_cons_zero, List.getElem_cons_succ, Act.put, List.setIfInBounds_toArray, List.set_cons_zero, List.set_cons_succ]
  refine wpAnyH_take (i := 10) (v := ?_) rfl (by kernel_rfl) (by kernel_rfl) (by kernel_rfl) (fun _ _ _ h => h) (Or.inl ⟨rfl, ?_⟩) hHeld ?_
  rotate_left
  · intro w0 hS0
    try dsimp only at hS0
    go_simp
    try with_reducible rfl
  simp only [List.getElem_toArray, List.getElem_cons_zero, List.getElem_cons_succ, Act.put, List.setIfInBounds_toArray, List.set_cons_zero, List.set_cons_succ]
  refine wpAnyH_take (i := 11) (v := ?_) rfl (by kernel_rfl) (by kernel_rfl) (by kernel_rfl) (fun _ _ _ h => h) (Or.inl ⟨rfl, ?_⟩) hHeld ?_
  rotate_left
  · intro w0 hS0
    try dsimp only at hS0
    go_simp
    try with_reducible rfl
  simp only [List.getElem_toArray, List.getElem_cons_zero, List.getElem_cons_succ, Act.put, List.setIfInBounds_toArray, List.set_cons_zero, List.set_cons_succ]
  refine wpAnyH_take (i := 12) (v := ?_) rfl (by kernel_rfl) (by kernel_rfl) (by kernel_rfl) (fun _ _ _ h => h) (Or.inl ⟨rfl, ?_⟩) hHeld ?_
  rotate_left
  · intro w0 hS0
    try dsimp only at hS0
    go_simp
    try with_reducible rfl
  simp only [List.getElem_toArray, List.getElem_cons_zero, List.getElem_cons_succ, Act.put, List.setIfInBounds_toArray, List.set_cons_zero, List.set_cons_succ]
  refine wpAnyH_take (i := 13) (v := ?_) rfl (by kernel_rfl) (by kernel_rfl) (by kernel_rfl) (fun _ _ _ h => h) (Or.inl ⟨rfl, ?_⟩) hHeld ?_
  rotate_left
  · intro w0 hS0
    try dsimp only at hS0
    go_simp
    try with_reducible rfl
  simp only [List.getElem_toArray, List.getElem_cons_zero, List.getElem_cons_succ, Act.put, List.setIfInBounds_toArray, List.set_cons_zero, List.set_cons_succ]
  refine wpAnyH_take (i := 15) (v := ?_) rfl (by kernel_rfl) (by kernel_rfl) (by kernel_rfl) (fun _ _ _ h => h) (Or.inl ⟨rfl, ?_⟩) hHeld ?_
  rotate_left
  · intro w0 hS0
    try dsimp only at hS0
    go_simp
    try with_reducible rfl
  simp only [List.getElem_toArray, List.getElem_cons_zero, List.getElem_cons_succ, Act.put, List.setIfInBounds_toArray, List.set_cons_zero, List.set_cons_succ]
  refine wpAnyH_take (i := 16) (v := ?_) rfl (by kernel_rfl) (by kernel_rfl) (by kernel_rfl) (fun _ _ _ h => h) (Or.inl ⟨rfl, ?_⟩) hHeld ?_
  rotate_left
  · intro w0 hS0
    try dsimp only at hS0
    go_simp
    try with_reducible rfl
  simp only [List.getElem_toArray, List.getElem_cons_zero, List.getElem_cons_succ, Act.put, List.setIfInBounds_toArray, List.set_cons_zero, List.set_cons_succ]
  refine wpAnyH_take (i := 17) (v := ?_) rfl (by kernel_rfl) (by kernel_rfl) (by kernel_rfl) (fun _ _ _ h => h) (Or.inl ⟨rfl, ?_⟩) hHeld ?_
  rotate_left
  · intro w0 hS0
    try dsimp only at hS0
    go_simp
    try with_reducible rfl
  simp only [List.getElem_toArray, List.getElem_cons_zero, List.getElem_cons_succ, Act.put, List.setIfInBounds_toArray, List.set_cons_zero, List.set_cons_succ]
  refine wpAnyH_take (i := 18) (v := ?_) rfl (by kernel_rfl) (by kernel_rfl) (by kernel_rfl) (fun _ _ _ h => h) (Or.inl ⟨rfl, ?_⟩) hHeld ?_
  rotate_left
  · intro w0 hS0
    try dsimp only at hS0
    go_simp
    try with_reducible rfl
  simp only [List.getElem_toArray, List.getElem_cons_zero, List.getElem_cons_succ, Act.put, List.setIfInBounds_toArray, List.set_cons_zero, List.set_cons_succ]
  refine wpAnyH_take (i := 19) (v := ?_) rfl (by kernel_rfl) (by kernel_rfl) (by kernel_rfl) (fun _ _ _ h => h) (Or.inl ⟨rfl, ?_⟩) hHeld ?_
  rotate_left
  · intro w0 hS0
    try dsimp only at hS0
    go_simp
    try with_reducible rfl
  simp only [List.getElem_toArray, List.getElem_cons_zero, List.getElem_cons_succ, Act.put, List.setIfInBounds_toArray, List.set_cons_zero, List.set_cons_succ]
  refine wpAnyH_ready (rs := [14]) (by kernel_rfl) (by simp) ?_
  refine AllReadyH.cons rfl (fun K hK => ?_) AllReadyH.nil
  rw [if_pos (by rfl)]
  go_simp
  go_at_call 26
  refine (hb_match (HB.out.below HW.out) HT.out (by omega) (HSX.out _ HW.out).2.1 na (by omega)).mono ?_
  rintro e wa ⟨a1, c1, rfl, r1, hk⟩
  have R1 := Lib.hid r1
  replace HW := Lib.hid (bnext HW.out (Nat.le_refl _) hk)
  clear r1 hk
  refine hK.out _ _ (HSX.out _ HW.out) (fun hHeld => ?_)
  refine wpAnyH_ready (rs := [20]) (by kernel_rfl) (by simp) ?_
  refine AllReadyH.cons rfl (fun K hK => ?_) AllReadyH.nil
  rw [if_pos (by rfl)]
  go_simp
  go_at_call 27
  refine (db_match (HD.out.below HW.out) (by omega) (HSX.out _ HW.out).2.2.2.1 na (by omega)).mono ?_
  rintro e wb ⟨a2, c2, rfl, r2, hk⟩
  replace R1 := Lib.hid (R1.out.below hk (Nat.le_refl _))
  have R2 := Lib.hid r2
  replace HW := Lib.hid (bnext HW.out (Nat.le_refl _) hk)
  clear r2 hk
  refine hK.out _ _ (HSX.out _ HW.out) (fun hHeld => ?_)
  refine wpAnyH_ready (rs := [21]) (by kernel_rfl) (by simp) ?_
  refine AllReadyH.cons rfl (fun K hK => ?_) AllReadyH.nil
  rw [if_pos (by rfl)]
  go_simp
  go_at_call 25
  refine (sameT_any true a1 a2 c1 c2 _ _ _ R1.out R2.out (by omega) (by simp)).mono ?_
  rintro e wc ⟨rfl, nd, rfl⟩
  replace HW := Lib.hid (bnext HW.out (Nat.le_refl _) (drewN_below _ nd))
  refine hK.out _ _ (HSX.out _ HW.out) (fun hHeld => ?_)
  clear R1 R2
  generalize wb.drewN nd = wp at *
  refine wpAnyH_take (i := 22) (v := ?_) rfl (by kernel_rfl) (by kernel_rfl) (by kernel_rfl) (fun _ _ _ h => h) (Or.inl ⟨rfl, ?_⟩) hHeld ?_
  rotate_left
  · intro w0 hS0
    try dsimp only at hS0
    go_simp
    try with_reducible rfl
  simp only [List.getElem_toArray, List.getElem_cons_zero, List.getElem_cons_succ, Act.put, List.setIfInBounds_toArray, List.set_cons_zero, List.set_cons_succ]
  refine wpAnyH_take (i := 23) (v := ?_) rfl (by kernel_rfl) (by kernel_rfl) (by kernel_rfl) (fun _ _ _ h => h) (Or.inl ⟨rfl, ?_⟩) hHeld ?_
  rotate_left
  · intro w0 hS0
    try dsimp only at hS0
    go_simp
    try with_reducible rfl
  simp only [List.getElem_toArray, List.getElem_cons_zero, List.getElem_cons_succ, Act.put, List.setIfInBounds_toArray, List.set_cons_zero, List.set_cons_succ]
  refine wpAnyH_take (i := 24) (v := ?_) rfl (by kernel_rfl) (by kernel_rfl) (by kernel_rfl) (fun _ _ _ h => h) (Or.inl ⟨rfl, ?_⟩) hHeld ?_
  rotate_left
  · intro w0 hS0
    try dsimp only at hS0
    go_simp
    try with_reducible rfl
  simp only [List.getElem_toArray, List.getElem_cons_zero, List.getElem_cons_succ, Act.put, List.setIfInBounds_toArray, List.set_cons_zero, List.set_cons_succ]
  refine wpAnyH_take (i := 25) (v := ?_) rfl (by kernel_rfl) (by kernel_rfl) (by kernel_rfl) (fun _ _ _ h => h) (Or.inl ⟨rfl, ?_⟩) hHeld ?_
  rotate_left
  · intro w0 hS0
    try dsimp only at hS0
    go_simp
    try with_reducible rfl
  simp only [List.getElem_toArray, List.getElem_cons_zero, List.getElem_cons_succ, Act.put, List.setIfInBounds_toArray, List.set_cons_zero, List.set_cons_succ]
  refine wpAnyH_take (i := 26) (v := ?_) rfl (by kernel_rfl) (by kernel_rfl) (by kernel_rfl) (fun _ _ _ h => h) (Or.inl ⟨rfl, ?_⟩) hHeld ?_
  rotate_left
  · intro w0 hS0
    try dsimp only at hS0
    go_simp
    try with_reducible rfl
  simp only [List.getElem_toArray, List.getElem_cons_zero, List.getElem_cons_succ, Act.put, List.setIfInBounds_toArray, List.set_cons_zero, List.set_cons_succ]
  refine wpAnyH_take (i := 27) (v := ?_) rfl (by kernel_rfl) (by kernel_rfl) (by kernel_rfl) (fun _ _ _ h => h) (Or.inl ⟨rfl, ?_⟩) hHeld ?_
  rotate_left
  · intro w0 hS0
    try dsimp only at hS0
    go_simp
    try with_reducible rfl
  simp only [List.getElem_toArray, List.getElem_cons_zero, List.getElem_cons_succ, Act.put, List.setIfInBounds_toArray, List.set_cons_zero, List.set_cons_succ]
  refine wpAnyH_take (i := 28) (v := ?_) rfl (by kernel_rfl) (by kernel_rfl) (by kernel_rfl) (fun _ _ _ h => h) (Or.inl ⟨rfl, ?_⟩) hHeld ?_
  rotate_left
  · intro w0 hS0
    try dsimp only at hS0
    go_simp
    try with_reducible rfl
  simp only [List.getElem_toArray, List.getElem_cons_zero, List.getElem_cons_succ, Act.put, List.setIfInBounds_toArray, List.set_cons_zero, List.set_cons_succ]
  refine wpAnyH_take (i := 30) (v := ?_) rfl (by kernel_rfl) (by kernel_rfl) (by kernel_rfl) (fun _ _ _ h => h) (Or.inl ⟨rfl, ?_⟩) hHeld ?_
  rotate_left
  · intro w0 hS0
    try dsimp only at hS0
    go_simp
    try with_reducible rfl
  simp only [List.getElem_toArray, List.getElem_cons_zero, List.getElem_cons_succ, Act.put, List.setIfInBounds_toArray, List.set_cons_zero, List.set_cons_succ]
  refine wpAnyH_take (i := 31) (v := ?_) rfl (by kernel_rfl) (by kernel_rfl) (by kernel_rfl) (fun _ _ _ h => h) (Or.inl ⟨rfl, ?_⟩) hHeld ?_
  rotate_left
  · intro w0 hS0
    try dsimp only at hS0
    go_simp
    try with_reducible rfl
  simp only [List.getElem_toArray, List.getElem_cons_zero, List.getElem_cons_succ, Act.put, List.setIfInBounds_toArray, List.set_cons_zero, List.set_cons_succ]
  refine wpAnyH_take (i := 32) (v := ?_) rfl (by kernel_rfl) (by kernel_rfl) (by kernel_rfl) (fun _ _ _ h => h) (Or.inl ⟨rfl, ?_⟩) hHeld ?_
  rotate_left
  · intro w0 hS0
    try dsimp only at hS0
    go_simp
    try with_reducible rfl
  simp only [List.getElem_toArray, List.getElem_cons_zero, List.getElem_cons_succ, Act.put, List.setIfInBounds_toArray, List.set_cons_zero, List.set_cons_succ]
  refine wpAnyH_take (i := 33) (v := ?_) rfl (by kernel_rfl) (by kernel_rfl) (by kernel_rfl) (fun _ _ _ h => h) (Or.inl ⟨rfl, ?_⟩) hHeld ?_
  rotate_left
  · intro w0 hS0
    try dsimp only at hS0
    go_simp
    try with_reducible rfl
  simp only [List.getElem_toArray, List.getElem_cons_zero, List.getElem_cons_succ, Act.put, List.setIfInBounds_toArray, List.set_cons_zero, List.set_cons_succ]
  refine wpAnyH_take (i := 34) (v := ?_) rfl (by kernel_rfl) (by kernel_rfl) (by kernel_rfl) (fun _ _ _ h => h) (Or.inl ⟨rfl, ?_⟩) hHeld ?_
  rotate_left
  · intro w0 hS0
    try dsimp only at hS0
    go_simp
    try with_reducible rfl
  simp only [List.getElem_toArray, List.getElem_cons_zero, List.getElem_cons_succ, Act.put, List.setIfInBounds_toArray, List.set_cons_zero, List.set_cons_succ]
  refine wpAnyH_ready (rs := [29]) (by kernel_rfl) (by simp) ?_
  refine AllReadyH.cons rfl (fun K hK => ?_) AllReadyH.nil
  rw [if_pos (by rfl)]
  go_simp
  go_at_call 28
  refine (hb_of (HB.out.below HW.out) (by omega) (HSX.out _ HW.out).2.1 cl).mono ?_
  rintro e wa ⟨a1, c1, rfl, r1, hk⟩
  have R1 := Lib.hid r1
  replace HW := Lib.hid (bnext HW.out (Nat.le_refl _) hk)
  clear r1 hk
  refine hK.out _ _ (HSX.out _ HW.out) (fun hHeld => ?_)
  refine wpAnyH_ready (rs := [35]) (by kernel_rfl) (by simp) ?_
  refine AllReadyH.cons rfl (fun K hK => ?_) AllReadyH.nil
  rw [if_pos (by rfl)]
  go_simp
  go_at_call 29
  refine (db_of (HD.out.below HW.out) (by omega) (HSX.out _ HW.out).2.2.2.1 cl).mono ?_
  rintro e wb ⟨a2, c2, rfl, r2, hk⟩
  replace R1 := Lib.hid (R1.out.below hk (Nat.le_refl _))
  have R2 := Lib.hid r2
  replace HW := Lib.hid (bnext HW.out (Nat.le_refl _) hk)
  clear r2 hk
  refine hK.out _ _ (HSX.out _ HW.out) (fun hHeld => ?_)
  refine wpAnyH_ready (rs := [36]) (by kernel_rfl) (by simp) ?_
  refine AllReadyH.cons rfl (fun K hK => ?_) AllReadyH.nil
  rw [if_pos (by rfl)]
  go_simp
  go_at_call 25
  refine (sameT_any true a1 a2 c1 c2 _ _ _ R1.out R2.out (by have := HOFL.out; omega) (by simp)).mono ?_
  rintro e wc ⟨rfl, nd, rfl⟩
  replace HW := Lib.hid (bnext HW.out (Nat.le_refl _) (drewN_below _ nd))
  refine hK.out _ _ (HSX.out _ HW.out) (fun hHeld => ?_)
  clear R1 R2
  generalize wb.drewN nd = wq at *
  refine wpAnyH_take (i := 37) (v := ?_) rfl (by kernel_rfl) (by kernel_rfl) (by kernel_rfl) (fun _ _ _ h => h) (Or.inl ⟨rfl, ?_⟩) hHeld ?_
  rotate_left
  · intro w0 hS0
    try dsimp only at hS0
    go_simp
    try with_reducible rfl
  simp only [List.getElem_toArray, List.getElem_cons_zero, List.getElem_cons_succ, Act.put, List.setIfInBounds_toArray, List.set_cons_zero, List.set_cons_succ]
  refine wpAnyH_take (i := 38) (v := ?_) rfl (by kernel_rfl) (by kernel_rfl) (by kernel_rfl) (fun _ _ _ h => h) (Or.inl ⟨rfl, ?_⟩) hHeld ?_
  rotate_left
  · intro w0 hS0
    try dsimp only at hS0
    go_simp
    try with_reducible rfl
  simp only [List.getElem_toArray, List.getElem_cons_zero, List.getElem_cons_succ, Act.put, List.setIfInBounds_toArray, List.set_cons_zero, List.set_cons_succ]
  refine wpAnyH_take (i := 39) (v := ?_) rfl (by kernel_rfl) (by kernel_rfl) (by kernel_rfl) (fun _ _ _ h => h) (Or.inl ⟨rfl, ?_⟩) hHeld ?_
  rotate_left
  · intro w0 hS0
    try dsimp only at hS0
    go_simp
    try with_reducible rfl
  simp only [List.getElem_toArray, List.getElem_cons_zero, List.getElem_cons_succ, Act.put, List.setIfInBounds_toArray, List.set_cons_zero, List.set_cons_succ]
  refine wpAnyH_take (i := 40) (v := ?_) rfl (by kernel_rfl) (by kernel_rfl) (by kernel_rfl) (fun _ _ _ h => h) (Or.inl ⟨rfl, ?_⟩) hHeld ?_
  rotate_left
  · intro w0 hS0
    try dsimp only at hS0
    go_simp
    try with_reducible rfl
  simp only [List.getElem_toArray, List.getElem_cons_zero, List.getElem_cons_succ, Act.put, List.setIfInBounds_toArray, List.set_cons_zero, List.set_cons_succ]
  refine wpAnyH_take (i := 41) (v := ?_) rfl (by kernel_rfl) (by kernel_rfl) (by kernel_rfl) (fun _ _ _ h => h) (Or.inl ⟨rfl, ?_⟩) hHeld ?_
  rotate_left
  · intro w0 hS0
    try dsimp only at hS0
    go_simp
    try with_reducible rfl
  simp only [List.getElem_toArray, List.getElem_cons_zero, List.getElem_cons_succ, Act.put, List.setIfInBounds_toArray, List.set_cons_zero, List.set_cons_succ]
  refine wpAnyH_take (i := 42) (v := ?_) rfl (by kernel_rfl) (by kernel_rfl) (by kernel_rfl) (fun _ _ _ h => h) (Or.inl ⟨rfl, ?_⟩) hHeld ?_
  rotate_left
  · intro w0 hS0
    try dsimp only at hS0
    go_simp
    try with_reducible rfl
  simp only [List.getElem_toArray, List.getElem_cons_zero, List.getElem_cons_succ, Act.put, List.setIfInBounds_toArray, List.set_cons_zero, List.set_cons_succ]
  refine wpAnyH_take (i := 43) (v := ?_) rfl (by kernel_rfl) (by kernel_rfl) (by kernel_rfl) (fun _ _ _ h => h) (Or.inl ⟨rfl, ?_⟩) hHeld ?_
  rotate_left
  · intro w0 hS0
    try dsimp only at hS0
    go_simp
    try with_reducible rfl
  simp only [List.getElem_toArray, List.getElem_cons_zero, List.getElem_cons_succ, Act.put, List.setIfInBounds_toArray, List.set_cons_zero, List.set_cons_succ]
  refine wpAnyH_take (i := 45) (v := ?_) rfl (by kernel_rfl) (by kernel_rfl) (by kernel_rfl) (fun _ _ _ h => h) (Or.inl ⟨rfl, ?_⟩) hHeld ?_
  rotate_left
  · intro w0 hS0
    try dsimp only at hS0
    go_simp
    try with_reducible rfl
  simp only [List.getElem_toArray, List.getElem_cons_zero, List.getElem_cons_succ, Act.put, List.setIfInBounds_toArray, List.set_cons_zero, List.set_cons_succ]
  refine wpAnyH_take (i := 46) (v := ?_) rfl (by kernel_rfl) (by kernel_rfl) (by kernel_rfl) (fun _ _ _ h => h) (Or.inl ⟨rfl, ?_⟩) hHeld ?_
  rotate_left
  · intro w0 hS0
    try dsimp only at hS0
    go_simp
    try with_reducible rfl
  simp only [List.getElem_toArray, List.getElem_cons_zero, List.getElem_cons_succ, Act.put, List.setIfInBounds_toArray, List.set_cons_zero, List.set_cons_succ]
  refine wpAnyH_take (i := 47) (v := ?_) rfl (by kernel_rfl) (by kernel_rfl) (by kernel_rfl) (fun _ _ _ h => h) (Or.inl ⟨rfl, ?_⟩) hHeld ?_
  rotate_left
  · intro w0 hS0
    try dsimp only at hS0
    go_simp
    try with_reducible rfl
  simp only [List.getElem_toArray, List.getElem_cons_zero, List.getElem_cons_succ, Act.put, List.setIfInBounds_toArray, List.set_cons_zero, List.set_cons_succ]
  refine wpAnyH_take (i := 48) (v := ?_) rfl (by kernel_rfl) (by kernel_rfl) (by kernel_rfl) (fun _ _ _ h => h) (Or.inl ⟨rfl, ?_⟩) hHeld ?_
  rotate_left
  · intro w0 hS0
    try dsimp only at hS0
    go_simp
    try with_reducible rfl
  simp only [List.getElem_toArray, List.getElem_cons_zero, List.getElem_cons_succ, Act.put, List.setIfInBounds_toArray, List.set_cons_zero, List.set_cons_succ]
  refine wpAnyH_take (i := 49) (v := ?_) rfl (by kernel_rfl) (by kernel_rfl) (by kernel_rfl) (fun _ _ _ h => h) (Or.inl ⟨rfl, ?_⟩) hHeld ?_
  rotate_left
  · intro w0 hS0
    try dsimp only at hS0
    go_simp
    try with_reducible rfl
  simp only [List.getElem_toArray, List.getElem_cons_zero, List.getElem_cons_succ, Act.put, List.setIfInBounds_toArray, List.set_cons_zero, List.set_cons_succ]
  refine wpAnyH_ready (rs := [44]) (by kernel_rfl) (by simp) ?_
  refine AllReadyH.cons rfl (fun K hK => ?_) AllReadyH.nil
  rw [if_pos (by rfl)]
  go_simp
  go_at_call 31
  refine (hb_find (HB.out.below HW.out) HT.out (by omega) (HSX.out _ HW.out).2.2.1 fi (by omega)).mono ?_
  rintro e wa ⟨a1, c1, rfl, r1, hk⟩
  have R1 := Lib.hid r1
  replace HW := Lib.hid (bnext HW.out (Nat.le_refl _) hk)
  clear r1 hk
  refine hK.out _ _ (HSX.out _ HW.out) (fun hHeld => ?_)
  refine wpAnyH_ready (rs := [50]) (by kernel_rfl) (by simp) ?_
  refine AllReadyH.cons rfl (fun K hK => ?_) AllReadyH.nil
  rw [if_pos (by rfl)]
  go_simp
  go_at_call 32
  refine (db_find (HD.out.below HW.out) (by omega) (HSX.out _ HW.out).2.2.2.2 fi (by omega)).mono ?_
  rintro e wb ⟨a2, c2, rfl, r2, hk⟩
  replace R1 := Lib.hid (R1.out.below hk (Nat.le_refl _))
  have R2 := Lib.hid r2
  replace HW := Lib.hid (bnext HW.out (Nat.le_refl _) hk)
  clear r2 hk
  refine hK.out _ _ (HSX.out _ HW.out) (fun hHeld => ?_)
  refine wpAnyH_ready (rs := [51]) (by kernel_rfl) (by simp) ?_
  refine AllReadyH.cons rfl (fun K hK => ?_) AllReadyH.nil
  rw [if_pos (by rfl)]
  go_simp
  go_at_call 30
  refine (same_any true a1 a2 c1 c2 _ _ _ R1.out R2.out (by have := HFIL.out; omega) (by have := HFIL.out; omega) (by simp)).mono ?_
  rintro e wc ⟨rfl, nd, rfl⟩
  replace HW := Lib.hid (bnext HW.out (Nat.le_refl _) (drewN_below _ nd))
  refine hK.out _ _ (HSX.out _ HW.out) (fun hHeld => ?_)
  clear R1 R2
  generalize wb.drewN nd = wr at *

  refine wpAnyH_take (i := 52) (v := ?_) rfl (by kernel_rfl) (by kernel_rfl) (by kernel_rfl) (fun _ _ _ h => h) (Or.inl ⟨rfl, ?_⟩) hHeld ?_
  rotate_left
  · intro w0 hS0
    try dsimp only at hS0
    go_simp
    try with_reducible rfl
  simp only [List.getElem_toArray, List.getElem_cons_zero, List.getElem_cons_succ, Act.put, List.setIfInBounds_toArray, List.set_cons_zero, List.set_cons_succ]
  refine wpAnyH_take (i := 53) (v := ?_) rfl (by kernel_rfl) (by kernel_rfl) (by kernel_rfl) (fun _ _ _ h => h) (Or.inl ⟨rfl, ?_⟩) hHeld ?_
  rotate_left
  · intro w0 hS0
    try dsimp only at hS0
    go_simp
    try with_reducible rfl
  simp only [List.getElem_toArray, List.getElem_cons_zero, List.getElem_cons_succ, Act.put, List.setIfInBounds_toArray, List.set_cons_zero, List.set_cons_succ]
  refine wpAnyH_done (by kernel_rfl) ?_ _
  clear hHeld
  replace HB := Lib.hid (HB.out.below HW.out)
  replace HD := Lib.hid (HD.out.below HW.out)
  clear hcmp hbe hgle HOFL HFIL
  obtain ⟨t0, -, d0, -⟩ := (HSX.out _ HW.out).2
  clear HSX HW HX HB9
  have HDJ := HDJ5
  clear HDJ5
  go_wp2_with fail
  refine wp_region_held_drew (S := (fun X => X.cell? ⟨hb, 0, none⟩ = some (.pointer (some ⟨tp, 0, none⟩)) ∧ X.cell? ⟨d, 0, none⟩ = some (.pointer (some ⟨td, 0, none⟩)))) (by kernel_rfl) ⟨t0, d0⟩ (fun hHeld => ?_)
  replace HB := Lib.hid (HB.out.below (Below.refl wr.heap.size wr).drew)
  replace HD := Lib.hid (HD.out.below (Below.refl wr.heap.size wr).drew)
  replace t0 : wr.drew.cell? ⟨hb, 0, none⟩ = some (.pointer (some ⟨tp, 0, none⟩)) := t0
  replace d0 : wr.drew.cell? ⟨d, 0, none⟩ = some (.pointer (some ⟨td, 0, none⟩)) := d0
  generalize wr.drew = wz at *
  refine wpAnyH_take (i := 0) (v := ?_) rfl (by kernel_rfl) (by kernel_rfl) (by kernel_rfl) (fun _ _ _ h => h) (Or.inl ⟨rfl, ?_⟩) hHeld ?_
  rotate_left
  · intro w0 hS0
    try dsimp only at hS0
    go_simp
    try with_reducible rfl
  simp only [List.getElem_toArray, List.getElem_cons_zero, Act.put, List.setIfInBounds_toArray, List.set_cons_zero, List.set_cons_succ]
  refine wpAnyH_take (i := 1) (v := ?_) rfl (by kernel_rfl) (by kernel_rfl) (by kernel_rfl) (fun _ _ _ h => h) (Or.inl ⟨rfl, ?_⟩) hHeld ?_
  rotate_left
  · intro w0 hS0
    try dsimp only at hS0
    go_simp
    try with_reducible rfl
  simp only [List.getElem_toArray, List.getElem_cons_zero, List.getElem_cons_succ, Act.put, List.setIfInBounds_toArray, List.set_cons_zero, List.set_cons_succ]
  refine wpAnyH_take (i := 2) (v := ?_) rfl (by kernel_rfl) (by kernel_rfl) (by kernel_rfl) (fun _ _ _ h => h) (Or.inl ⟨rfl, ?_⟩) hHeld ?_
  rotate_left
  · intro w0 hS0
    try dsimp only at hS0
    go_simp
    try with_reducible rfl
  simp only [List.getElem_toArray, List.getElem_cons_zero, List.getElem_cons_succ, Act.put, List.setIfInBounds_toArray, List.set_cons_zero, List.set_cons_succ]
  refine wpAnyH_take (i := 3) (v := ?_) rfl (by kernel_rfl) (by kernel_rfl) (by kernel_rfl) (fun _ _ _ h => h) (Or.inl ⟨rfl, ?_⟩) hHeld ?_
  rotate_left
  · intro w0 hS0
    try dsimp only at hS0
    go_simp
    try with_reducible rfl
  simp only [List.getElem_toArray, List.getElem_cons_zero, List.getElem_cons_succ, Act.put, List.setIfInBounds_toArray, List.set_cons_zero, List.set_cons_succ]
  refine wpAnyH_take (i := 4) (v := ?_) rfl (by kernel_rfl) (by kernel_rfl) (by kernel_rfl) (fun _ _ _ h => h) (Or.inl ⟨rfl, ?_⟩) hHeld ?_
  rotate_left
  · intro w0 hS0
    try dsimp only at hS0
    go_simp
    try with_reducible rfl
  simp only [List.getElem_toArray, List.getElem_cons_zero, List.getElem_cons_succ, Act.put, List.setIfInBounds_toArray, List.set_cons_zero, List.set_cons_succ]
  refine wpAnyH_take (i := 5) (v := ?_) rfl (by kernel_rfl) (by kernel_rfl) (by kernel_rfl) (fun _ _ _ h => h) (Or.inl ⟨rfl, ?_⟩) hHeld ?_
  rotate_left
  · intro w0 hS0
    try dsimp only at hS0
    go_simp
    try with_reducible rfl
  simp only [List.getElem_toArray, List.getElem_cons_zero, List.getElem_cons_succ, Act.put, List.setIfInBounds_toArray, List.set_cons_zero, List.set_cons_succ]
  refine wpAnyH_take (i := 7) (v := ?_) rfl (by kernel_rfl) (by kernel_rfl) (by kernel_rfl) (fun _ _ _ h => h) (Or.inl ⟨rfl, ?_⟩) hHeld ?_
  rotate_left
  · intro w0 hS0
    try dsimp only at hS0
    go_simp
    try with_reducible rfl
  simp only [List.getElem_toArray, List.getElem_cons_zero, List.getElem_cons_succ, Act.put, List.setIfInBounds_toArray, List.set_cons_zero, List.set_cons_succ]
  refine wpAnyH_take (i := 8) (v := ?_) rfl (by kernel_rfl) (by kernel_rfl) (by kernel_rfl) (fun _ _ _ h => h) (Or.inl ⟨rfl, ?_⟩) hHeld ?_
  rotate_left
  · intro w0 hS0
    try dsimp only at hS0
    go_simp
    try with_reducible rfl
  simp only [List.getElem_toArray, List.getElem_cons_zero, List.getElem_cons_succ, Act.put, List.setIfInBounds_toArray, List.set_cons_zero, List.set_cons_succ]
  refine wpAnyH_take (i := 9) (v := ?_) rfl (by kernel_rfl) (by kernel_rfl) (by kernel_rfl) (fun _ _ _ h => h) (Or.inl ⟨rfl, ?_⟩) hHeld ?_
  rotate_left
  · intro w0 hS0
    try dsimp only at hS0
    go_simp
    try with_reducible rfl
  simp only [List.getElem_toArray, List.getElem_cons_zero, List.getElem_cons_succ, Act.put, List.setIfInBounds_toArray, List.set_cons_zero, List.set_cons_succ]
  refine wpAnyH_take (i := 10) (v := ?_) rfl (by kernel_rfl) (by kernel_rfl) (by kernel_rfl) (fun _ _ _ h => h) (Or.inl ⟨rfl, ?_⟩) hHeld ?_
  rotate_left
  · intro w0 hS0
    try dsimp only at hS0
    go_simp
    try with_reducible rfl
  simp only [List.getElem_toArray, List.getElem_cons_zero, List.getElem_cons_succ, Act.put, List.setIfInBounds_toArray, List.set_cons_zero, List.set_cons_succ]
  refine wpAnyH_ready (rs := [6]) (by kernel_rfl) (by simp) ?_
  refine AllReadyH.cons rfl (fun K hK => ?_) AllReadyH.nil
  rw [if_pos (by rfl)]
  go_simp
  go_at_call 33
  refine (hb_nodes HB.out t0).mono ?_
  rintro e wu ⟨rfl, rfl⟩
  refine hK.out _ _ ⟨t0, d0⟩ (fun hHeld => ?_)
  refine wpAnyH_ready (rs := [11]) (by kernel_rfl) (by simp) ?_
  refine AllReadyH.cons rfl (fun K hK => ?_) AllReadyH.nil
  rw [if_pos (by rfl)]
  go_simp
  go_at_call 34
  refine (db_nodes HD.out (by omega) d0).mono ?_
  rintro e wu ⟨rfl, hk⟩
  replace HB := Lib.hid (HB.out.below hk)
  replace HD := Lib.hid (HD.out.below hk)
  replace t0 := (World.cell?_of_block (w := wz) (hk.block _ (World.block_lt_of_cell? _ _ t0))).trans t0
  replace d0 := (World.cell?_of_block (w := wz) (hk.block _ (World.block_lt_of_cell? _ _ d0))).trans d0
  refine hK.out _ _ ⟨t0, d0⟩ (fun hHeld => ?_)
  clear hk
  obtain ⟨nn, hnn⟩ : ∃ x, nodesOf S.gs = x := ⟨_, rfl⟩
  simp only [hnn] at *
  have hne : ((nn : Int) == (nn : Int)) = true := by simp
  refine wpAnyH_take (i := 12) (v := ?_) rfl (by kernel_rfl) (by kernel_rfl) (by kernel_rfl) (fun _ _ _ h => h) (Or.inl ⟨rfl, ?_⟩) hHeld ?_
  rotate_left
  · intro w0 hS0
    try dsimp only at hS0
    go_simp
    try with_reducible rfl
  simp only [List.getElem_toArray, List.getElem_cons_zero, List.getElem_cons_succ, Act.put, List.setIfInBounds_toArray, List.set_cons_zero, List.set_cons_succ]
  refine wpAnyH_take (i := 13) (v := ?_) rfl (by kernel_rfl) (by kernel_rfl) (by kernel_rfl) (fun _ _ _ h => h) (Or.inl ⟨rfl, ?_⟩) hHeld ?_
  rotate_left
  · intro w0 hS0
    try dsimp only at hS0
    go_simp
    try with_reducible rfl
  simp only [List.getElem_toArray, List.getElem_cons_zero, List.getElem_cons_succ, Act.put, List.setIfInBounds_toArray, List.set_cons_zero, List.set_cons_succ]
  refine wpAnyH_take (i := 14) (v := ?_) rfl (by kernel_rfl) (by kernel_rfl) (by kernel_rfl) (fun _ _ _ h => h) (Or.inl ⟨rfl, ?_⟩) hHeld ?_
  rotate_left
  · intro w0 hS0
    try dsimp only at hS0
    go_simp
    try with_reducible rfl
  simp only [List.getElem_toArray, List.getElem_cons_zero, List.getElem_cons_succ, Act.put, List.setIfInBounds_toArray, List.set_cons_zero, List.set_cons_succ]
  refine wpAnyH_take (i := 15) (v := ?_) rfl (by kernel_rfl) (by kernel_rfl) (by kernel_rfl) (fun _ _ _ h => h) (Or.inl ⟨rfl, ?_⟩) hHeld ?_
  rotate_left
  · intro w0 hS0
    try dsimp only at hS0
    go_simp
    try with_reducible rfl
  simp only [List.getElem_toArray, List.getElem_cons_zero, List.getElem_cons_succ, Act.put, List.setIfInBounds_toArray, List.set_cons_zero, List.set_cons_succ]
  refine wpAnyH_take (i := 16) (v := ?_) rfl (by kernel_rfl) (by kernel_rfl) (by kernel_rfl) (fun _ _ _ h => h) (Or.inl ⟨rfl, ?_⟩) hHeld ?_
  rotate_left
  · intro w0 hS0
    try dsimp only at hS0
    go_simp
    try with_reducible rfl
  simp only [List.getElem_toArray, List.getElem_cons_zero, List.getElem_cons_succ, Act.put, List.setIfInBounds_toArray, List.set_cons_zero, List.set_cons_succ]
  refine wpAnyH_take (i := 17) (v := ?_) rfl (by kernel_rfl) (by kernel_rfl) (by kernel_rfl) (fun _ _ _ h => h) (Or.inl ⟨rfl, ?_⟩) hHeld ?_
  rotate_left
  · intro w0 hS0
    try dsimp only at hS0
    go_simp
    try with_reducible rfl
  simp only [List.getElem_toArray, List.getElem_cons_zero, List.getElem_cons_succ, Act.put, List.setIfInBounds_toArray, List.set_cons_zero, List.set_cons_succ]
  refine wpAnyH_take (i := 18) (v := ?_) rfl (by kernel_rfl) (by kernel_rfl) (by kernel_rfl) (fun _ _ _ h => h) (Or.inl ⟨rfl, ?_⟩) hHeld ?_
  rotate_left
  · intro w0 hS0
    try dsimp only at hS0
    go_simp
    try with_reducible rfl
  simp only [List.getElem_toArray, List.getElem_cons_zero, List.getElem_cons_succ, Act.put, List.setIfInBounds_toArray, List.set_cons_zero, List.set_cons_succ]
  refine wpAnyH_take (i := 19) (v := ?_) rfl (by kernel_rfl) (by kernel_rfl) (by kernel_rfl) (fun _ _ _ h => h) (Or.inl ⟨rfl, ?_⟩) hHeld ?_
  rotate_left
  · intro w0 hS0
    try dsimp only at hS0
    go_simp
    try with_reducible rfl
  simp only [List.getElem_toArray, List.getElem_cons_zero, List.getElem_cons_succ, Act.put, List.setIfInBounds_toArray, List.set_cons_zero, List.set_cons_succ]
  refine wpAnyH_take (i := 20) (v := ?_) rfl (by kernel_rfl) (by kernel_rfl) (by kernel_rfl) (fun _ _ _ h => h) (Or.inl ⟨rfl, ?_⟩) hHeld ?_
  rotate_left
  · intro w0 hS0
    try dsimp only at hS0
    go_simp
    try with_reducible rfl
  simp only [List.getElem_toArray, List.getElem_cons_zero, List.getElem_cons_succ, Act.put, List.setIfInBounds_toArray, List.set_cons_zero, List.set_cons_succ]
  refine wpAnyH_take (i := 22) (v := ?_) rfl (by kernel_rfl) (by kernel_rfl) (by kernel_rfl) (fun _ _ _ h => h) (Or.inl ⟨rfl, ?_⟩) hHeld ?_
  rotate_left
  · intro w0 hS0
    try dsimp only at hS0
    go_simp
    try with_reducible rfl
  simp only [List.getElem_toArray, List.getElem_cons_zero, List.getElem_cons_succ, Act.put, List.setIfInBounds_toArray, List.set_cons_zero, List.set_cons_succ]
  refine wpAnyH_take (i := 23) (v := ?_) rfl (by kernel_rfl) (by kernel_rfl) (by kernel_rfl) (fun _ _ _ h => h) (Or.inl ⟨rfl, ?_⟩) hHeld ?_
  rotate_left
  · intro w0 hS0
    try dsimp only at hS0
    go_simp
    try with_reducible rfl
  simp only [List.getElem_toArray, List.getElem_cons_zero, List.getElem_cons_succ, Act.put, List.setIfInBounds_toArray, List.set_cons_zero, List.set_cons_succ]
  refine wpAnyH_take (i := 24) (v := ?_) rfl (by kernel_rfl) (by kernel_rfl) (by kernel_rfl) (fun _ _ _ h => h) (Or.inl ⟨rfl, ?_⟩) hHeld ?_
  rotate_left
  · intro w0 hS0
    try dsimp only at hS0
    go_simp
    try with_reducible rfl
  simp only [List.getElem_toArray, List.getElem_cons_zero, List.getElem_cons_succ, Act.put, List.setIfInBounds_toArray, List.set_cons_zero, List.set_cons_succ]
  refine wpAnyH_take (i := 25) (v := ?_) rfl (by kernel_rfl) (by kernel_rfl) (by kernel_rfl) (fun _ _ _ h => h) (Or.inl ⟨rfl, ?_⟩) hHeld ?_
  rotate_left
  · intro w0 hS0
    try dsimp only at hS0
    go_simp
    try with_reducible rfl
  simp only [List.getElem_toArray, List.getElem_cons_zero, List.getElem_cons_succ, Act.put, List.setIfInBounds_toArray, List.set_cons_zero, List.set_cons_succ]
  refine wpAnyH_take (i := 26) (v := ?_) rfl (by kernel_rfl) (by kernel_rfl) (by kernel_rfl) (fun _ _ _ h => h) (Or.inl ⟨rfl, ?_⟩) hHeld ?_
  rotate_left
  · intro w0 hS0
    try dsimp only at hS0
    go_simp
    try with_reducible rfl
  simp only [List.getElem_toArray, List.getElem_cons_zero, List.getElem_cons_succ, Act.put, List.setIfInBounds_toArray, List.set_cons_zero, List.set_cons_succ]
  refine wpAnyH_take (i := 27) (v := ?_) rfl (by kernel_rfl) (by kernel_rfl) (by kernel_rfl) (fun _ _ _ h => h) (Or.inl ⟨rfl, ?_⟩) hHeld ?_
  rotate_left
  · intro w0 hS0
    try dsimp only at hS0
    go_simp
    try with_reducible rfl
  simp only [List.getElem_toArray, List.getElem_cons_zero, List.getElem_cons_succ, Act.put, List.setIfInBounds_toArray, List.set_cons_zero, List.set_cons_succ]
  obtain ⟨ba, hba⟩ : ∃ x, addB S.gs fi.data.toList cl.data.toList = x := ⟨_, rfl⟩
  have hbq : (ba == ba) = true := by simp
  refine wpAnyH_ready (rs := [21]) (by kernel_rfl) (by simp) ?_
  refine AllReadyH.cons rfl (fun K hK => ?_) AllReadyH.nil
  rw [if_pos (by rfl)]
  go_simp
  go_at_call 35
  refine (hb_add HB.out HT.out (by omega) t0 fi cl (by omega) (by omega)).mono ?_
  rintro e wz ⟨rfl, t0, F3, hp, hu⟩
  obtain ⟨hpd, hdd⟩ := HD.out.keepBy (fun j hj hj' => HDJ.out j hj' hj) HB.out.fF hu
  replace d0 : wz.cell? ⟨d, 0, none⟩ = some (.pointer (some ⟨td, 0, none⟩)) := by
    rw [World.cell?_of_block (w := wu) (hu.1.block _ (World.block_lt_of_cell? _ _ d0) (fun hm => HDJ.out _ hm HD.out.mem))]; exact d0
  replace HB := Lib.hid hp
  replace HD := Lib.hid hpd
  replace HDJ : Hid (∀ j ∈ F3, j ∉ F2b) := Lib.hid (fun j hj hj' => hdd j hj' hj)
  refine hK.out _ _ ⟨t0, d0⟩ (fun hHeld => ?_)
  clear hp hu hpd hdd
  refine wpAnyH_ready (rs := [28]) (by kernel_rfl) (by simp) ?_
  refine AllReadyH.cons rfl (fun K hK => ?_) AllReadyH.nil
  rw [if_pos (by rfl)]
  go_simp
  go_at_call 36
  refine (db_add HD.out (by omega) d0 fi cl (by omega) (by omega)).mono ?_
  rintro e wu ⟨rfl, d0, F4, hp, hu⟩
  obtain ⟨hpb, hdb⟩ := HB.out.keepBy (fun j hj hj' => HDJ.out j hj hj') HD.out.fF hu
  replace t0 : wu.cell? ⟨hb, 0, none⟩ = some (.pointer (some ⟨tp, 0, none⟩)) := by
    rw [World.cell?_of_block (w := wz) (hu.1.block _ (World.block_lt_of_cell? _ _ t0) (fun hm => HDJ.out _ HB.out.mem hm))]; exact t0
  replace HB := Lib.hid hpb
  replace HD := Lib.hid hp
  replace HDJ : Hid (∀ j ∈ F3, j ∉ F4) := Lib.hid hdb
  refine hK.out _ _ ⟨t0, d0⟩ (fun hHeld => ?_)
  clear hp hu hpb hdb
  rw [hba] at *
  have HGA := Lib.hid (addG_len S.gs fi.data.toList cl.data.toList)
  obtain ⟨G1, hG1⟩ : ∃ x, addG S.gs fi.data.toList cl.data.toList = x := ⟨_, rfl⟩
  rw [hG1] at HB HD HGA
  refine wpAnyH_take (i := 29) (v := ?_) rfl (by kernel_rfl) (by kernel_rfl) (by kernel_rfl) (fun _ _ _ h => h) (Or.inl ⟨rfl, ?_⟩) hHeld ?_
  rotate_left
  · intro w0 hS0
    try dsimp only at hS0
    go_simp
    try with_reducible rfl
  simp only [List.getElem_toArray, List.getElem_cons_zero, List.getElem_cons_succ, Act.put, List.setIfInBounds_toArray, List.set_cons_zero, List.set_cons_succ]
  refine wpAnyH_take (i := 30) (v := ?_) rfl (by kernel_rfl) (by kernel_rfl) (by kernel_rfl) (fun _ _ _ h => h) (Or.inl ⟨rfl, ?_⟩) hHeld ?_
  rotate_left
  · intro w0 hS0
    try dsimp only at hS0
    go_simp
    try with_reducible rfl
  simp only [List.getElem_toArray, List.getElem_cons_zero, List.getElem_cons_succ, Act.put, List.setIfInBounds_toArray, List.set_cons_zero, List.set_cons_succ]
  refine wpAnyH_take (i := 31) (v := ?_) rfl (by kernel_rfl) (by kernel_rfl) (by kernel_rfl) (fun _ _ _ h => h) (Or.inl ⟨rfl, ?_⟩) hHeld ?_
  rotate_left
  · intro w0 hS0
    try dsimp only at hS0
    go_simp
    try with_reducible rfl
  simp only [List.getElem_toArray, List.getElem_cons_zero, List.getElem_cons_succ, Act.put, List.setIfInBounds_toArray, List.set_cons_zero, List.set_cons_succ]
  refine wpAnyH_take (i := 32) (v := ?_) rfl (by kernel_rfl) (by kernel_rfl) (by kernel_rfl) (fun _ _ _ h => h) (Or.inl ⟨rfl, ?_⟩) hHeld ?_
  rotate_left
  · intro w0 hS0
    try dsimp only at hS0
    go_simp
    try with_reducible rfl
  simp only [List.getElem_toArray, List.getElem_cons_zero, List.getElem_cons_succ, Act.put, List.setIfInBounds_toArray, List.set_cons_zero, List.set_cons_succ]
  refine wpAnyH_take (i := 33) (v := ?_) rfl (by kernel_rfl) (by kernel_rfl) (by kernel_rfl) (fun _ _ _ h => h) (Or.inl ⟨rfl, ?_⟩) hHeld ?_
  rotate_left
  · intro w0 hS0
    try dsimp only at hS0
    go_simp
    try with_reducible rfl
  simp only [List.getElem_toArray, List.getElem_cons_zero, List.getElem_cons_succ, Act.put, List.setIfInBounds_toArray, List.set_cons_zero, List.set_cons_succ]
  refine wpAnyH_take (i := 34) (v := ?_) rfl (by kernel_rfl) (by kernel_rfl) (by kernel_rfl) (fun _ _ _ h => h) (Or.inl ⟨rfl, ?_⟩) hHeld ?_
  rotate_left
  · intro w0 hS0
    try dsimp only at hS0
    go_simp
    try with_reducible rfl
  simp only [List.getElem_toArray, List.getElem_cons_zero, List.getElem_cons_succ, Act.put, List.setIfInBounds_toArray, List.set_cons_zero, List.set_cons_succ]
  refine wpAnyH_take (i := 35) (v := ?_) rfl (by kernel_rfl) (by kernel_rfl) (by kernel_rfl) (fun _ _ _ h => h) (Or.inl ⟨rfl, ?_⟩) hHeld ?_
  rotate_left
  · intro w0 hS0
    try dsimp only at hS0
    go_simp
    try with_reducible rfl
  simp only [List.getElem_toArray, List.getElem_cons_zero, List.getElem_cons_succ, Act.put, List.setIfInBounds_toArray, List.set_cons_zero, List.set_cons_succ]
  refine wpAnyH_take (i := 36) (v := ?_) rfl (by kernel_rfl) (by kernel_rfl) (by kernel_rfl) (fun _ _ _ h => h) (Or.inl ⟨rfl, ?_⟩) hHeld ?_
  rotate_left
  · intro w0 hS0
    try dsimp only at hS0
    go_simp
    try with_reducible rfl
  simp only [List.getElem_toArray, List.getElem_cons_zero, List.getElem_cons_succ, Act.put, List.setIfInBounds_toArray, List.set_cons_zero, List.set_cons_succ]
  refine wpAnyH_take (i := 37) (v := ?_) rfl (by kernel_rfl) (by kernel_rfl) (by kernel_rfl) (fun _ _ _ h => h) (Or.inl ⟨rfl, ?_⟩) hHeld ?_
  rotate_left
  · intro w0 hS0
    try dsimp only at hS0
    go_simp
    try with_reducible rfl
  simp only [List.getElem_toArray, List.getElem_cons_zero, List.getElem_cons_succ, Act.put, List.setIfInBounds_toArray, List.set_cons_zero, List.set_cons_succ]
  refine wpAnyH_take (i := 39) (v := ?_) rfl (by kernel_rfl) (by kernel_rfl) (by kernel_rfl) (fun _ _ _ h => h) (Or.inl ⟨rfl, ?_⟩) hHeld ?_
  rotate_left
  · intro w0 hS0
    try dsimp only at hS0
    go_simp
    try with_reducible rfl
  simp only [List.getElem_toArray, List.getElem_cons_zero, List.getElem_cons_succ, Act.put, List.setIfInBounds_toArray, List.set_cons_zero, List.set_cons_succ]
  refine wpAnyH_take (i := 40) (v := ?_) rfl (by kernel_rfl) (by kernel_rfl) (by kernel_rfl) (fun _ _ _ h => h) (Or.inl ⟨rfl, ?_⟩) hHeld ?_
  rotate_left
  · intro w0 hS0
    try dsimp only at hS0
    go_simp
    try with_reducible rfl
  simp only [List.getElem_toArray, List.getElem_cons_zero, List.getElem_cons_succ, Act.put, List.setIfInBounds_toArray, List.set_cons_zero, List.set_cons_succ]
  refine wpAnyH_take (i := 41) (v := ?_) rfl (by kernel_rfl) (by kernel_rfl) (by kernel_rfl) (fun _ _ _ h => h) (Or.inl ⟨rfl, ?_⟩) hHeld ?_
  rotate_left
  · intro w0 hS0
    try dsimp only at hS0
    go_simp
    try with_reducible rfl
  simp only [List.getElem_toArray, List.getElem_cons_zero, List.getElem_cons_succ, Act.put, List.setIfInBounds_toArray, List.set_cons_zero, List.set_cons_succ]
  refine wpAnyH_take (i := 42) (v := ?_) rfl (by kernel_rfl) (by kernel_rfl) (by kernel_rfl) (fun _ _ _ h => h) (Or.inl ⟨rfl, ?_⟩) hHeld ?_
  rotate_left
  · intro w0 hS0
    try dsimp only at hS0
    go_simp
    try with_reducible rfl
  simp only [List.getElem_toArray, List.getElem_cons_zero, List.getElem_cons_succ, Act.put, List.setIfInBounds_toArray, List.set_cons_zero, List.set_cons_succ]
  refine wpAnyH_take (i := 43) (v := ?_) rfl (by kernel_rfl) (by kernel_rfl) (by kernel_rfl) (fun _ _ _ h => h) (Or.inl ⟨rfl, ?_⟩) hHeld ?_
  rotate_left
  · intro w0 hS0
    try dsimp only at hS0
    go_simp
    try with_reducible rfl
  simp only [List.getElem_toArray, List.getElem_cons_zero, List.getElem_cons_succ, Act.put, List.setIfInBounds_toArray, List.set_cons_zero, List.set_cons_succ]
  refine wpAnyH_take (i := 44) (v := ?_) rfl (by kernel_rfl) (by kernel_rfl) (by kernel_rfl) (fun _ _ _ h => h) (Or.inl ⟨rfl, ?_⟩) hHeld ?_
  rotate_left
  · intro w0 hS0
    try dsimp only at hS0
    go_simp
    try with_reducible rfl
  simp only [List.getElem_toArray, List.getElem_cons_zero, List.getElem_cons_succ, Act.put, List.setIfInBounds_toArray, List.set_cons_zero, List.set_cons_succ]
  obtain ⟨br, hbr⟩ : ∃ x, remB G1 fi.data.toList cl.data.toList = x := ⟨_, rfl⟩
  have hbq2 : (br == br) = true := by simp
  refine wpAnyH_ready (rs := [38]) (by kernel_rfl) (by simp) ?_
  refine AllReadyH.cons rfl (fun K hK => ?_) AllReadyH.nil
  rw [if_pos (by rfl)]
  go_simp
  go_at_call 37
  refine (hb_rem HB.out HT.out (by omega) t0 fi cl (by omega) (by omega)).mono ?_
  rintro e wz ⟨rfl, t0, F5, hp, hu⟩
  obtain ⟨hpd, hdd⟩ := HD.out.keepBy (fun j hj hj' => HDJ.out j hj' hj) HB.out.fF hu
  replace d0 : wz.cell? ⟨d, 0, none⟩ = some (.pointer (some ⟨td, 0, none⟩)) := by
    rw [World.cell?_of_block (w := wu) (hu.1.block _ (World.block_lt_of_cell? _ _ d0) (fun hm => HDJ.out _ hm HD.out.mem))]; exact d0
  replace HB := Lib.hid hp
  replace HD := Lib.hid hpd
  replace HDJ : Hid (∀ j ∈ F5, j ∉ F4) := Lib.hid (fun j hj hj' => hdd j hj' hj)
  refine hK.out _ _ ⟨t0, d0⟩ (fun hHeld => ?_)
  clear hp hu hpd hdd
  refine wpAnyH_ready (rs := [45]) (by kernel_rfl) (by simp) ?_
  refine AllReadyH.cons rfl (fun K hK => ?_) AllReadyH.nil
  rw [if_pos (by rfl)]
  go_simp
  go_at_call 38
  refine (db_rem HD.out (by omega) d0 fi cl).mono ?_
  rintro e wu ⟨rfl, d0, F6, hp, hu⟩
  obtain ⟨hpb, hdb⟩ := HB.out.keepBy (fun j hj hj' => HDJ.out j hj hj') HD.out.fF hu
  replace t0 : wu.cell? ⟨hb, 0, none⟩ = some (.pointer (some ⟨tp, 0, none⟩)) := by
    rw [World.cell?_of_block (w := wz) (hu.1.block _ (World.block_lt_of_cell? _ _ t0) (fun hm => HDJ.out _ HB.out.mem hm))]; exact t0
  replace HB := Lib.hid hpb
  replace HD := Lib.hid hp
  refine hK.out _ _ ⟨t0, d0⟩ (fun hHeld => ?_)
  clear hp hu hpb hdb HDJ
  rw [hbr] at *
  have HGE := Lib.hid (List.length_erase_le (a := (fi.data.toList, cl.data.toList)) (l := G1))
  obtain ⟨G2, hG2⟩ : ∃ x, G1.erase (fi.data.toList, cl.data.toList) = x := ⟨_, rfl⟩
  rw [hG2] at HB HD HGE
  have hg2 : G2.length ≤ 100 := by have := HGE.out; have := HGA.out; omega
  clear hG2 hG1 HGE HGA hba hbr
  obtain ⟨td', ta, tc, d0', t1, htr0⟩ := HD.out.rowT
  cases ptr_same d0 d0'
  clear d0'
  have htr := Lib.hid htr0
  clear htr0
  dsimp only at t1 htr
  refine wpAnyH_take (i := 46) (v := ?_) rfl (by kernel_rfl) (by kernel_rfl) (by kernel_rfl) (fun _ _ _ h => h) (Or.inl ⟨rfl, ?_⟩) hHeld ?_
  rotate_left
  · intro w0 hS0
    try dsimp only at hS0
    go_simp
    try with_reducible rfl
  simp only [List.getElem_toArray, List.getElem_cons_zero, List.getElem_cons_succ, Act.put, List.setIfInBounds_toArray, List.set_cons_zero, List.set_cons_succ]
  refine wpAnyH_take (i := 47) (v := ?_) rfl (by kernel_rfl) (by kernel_rfl) (by kernel_rfl) (fun _ _ _ h => h) (Or.inl ⟨rfl, ?_⟩) hHeld ?_
  rotate_left
  · intro w0 hS0
    try dsimp only at hS0
    go_simp
    try with_reducible rfl
  simp only [List.getElem_toArray, List.getElem_cons_zero, List.getElem_cons_succ, Act.put, List.setIfInBounds_toArray, List.set_cons_zero, List.set_cons_succ]
  refine wpAnyH_take (i := 48) (v := ?_) rfl (by kernel_rfl) (by kernel_rfl) (by kernel_rfl) (fun _ _ _ h => h) (Or.inl ⟨rfl, ?_⟩) hHeld ?_
  rotate_left
  · intro w0 hS0
    try dsimp only at hS0
    go_simp
    try with_reducible rfl
  simp only [List.getElem_toArray, List.getElem_cons_zero, List.getElem_cons_succ, Act.put, List.setIfInBounds_toArray, List.set_cons_zero, List.set_cons_succ]
  refine wpAnyH_take (i := 49) (v := ?_) rfl (by kernel_rfl) (by kernel_rfl) (by kernel_rfl) (fun _ _ _ h => h) (Or.inl ⟨rfl, ?_⟩) hHeld ?_
  rotate_left
  · intro w0 hS0
    try dsimp only at hS0
    go_simp
    try with_reducible rfl
  simp only [List.getElem_toArray, List.getElem_cons_zero, List.getElem_cons_succ, Act.put, List.setIfInBounds_toArray, List.set_cons_zero, List.set_cons_succ]
  refine wpAnyH_take (i := 51) (v := ?_) rfl (by kernel_rfl) (by kernel_rfl) (by kernel_rfl) (fun _ _ _ h => h) (Or.inl ⟨rfl, ?_⟩) hHeld ?_
  rotate_left
  · intro w0 hS0
    try dsimp only at hS0
    go_simp
    try with_reducible rfl
  simp only [List.getElem_toArray, List.getElem_cons_zero, List.getElem_cons_succ, Act.put, List.setIfInBounds_toArray, List.set_cons_zero, List.set_cons_succ]
  refine wpAnyH_take (i := 52) (v := ?_) rfl (by kernel_rfl) (by kernel_rfl) (by kernel_rfl) (fun _ _ _ h => h) (Or.inl ⟨rfl, ?_⟩) hHeld ?_
  rotate_left
  · intro w0 hS0
    try dsimp only at hS0
    go_simp
    try with_reducible rfl
  simp only [List.getElem_toArray, List.getElem_cons_zero, List.getElem_cons_succ, Act.put, List.setIfInBounds_toArray, List.set_cons_zero, List.set_cons_succ]
  refine wpAnyH_take (i := 53) (v := ?_) rfl (by kernel_rfl) (by kernel_rfl) (by kernel_rfl) (fun _ _ _ h => h) (Or.inl ⟨rfl, ?_⟩) hHeld ?_
  rotate_left
  · intro w0 hS0
    try dsimp only at hS0
    go_simp
    try with_reducible rfl
  simp only [List.getElem_toArray, List.getElem_cons_zero, List.getElem_cons_succ, Act.put, List.setIfInBounds_toArray, List.set_cons_zero, List.set_cons_succ]
  refine wpAnyH_take (i := 54) (v := ?_) rfl (by kernel_rfl) (by kernel_rfl) (by kernel_rfl) (fun _ _ _ h => h) (Or.inl ⟨rfl, ?_⟩) hHeld ?_
  rotate_left
  · intro w0 hS0
    try dsimp only at hS0
    go_simp
    try with_reducible rfl
  simp only [List.getElem_toArray, List.getElem_cons_zero, List.getElem_cons_succ, Act.put, List.setIfInBounds_toArray, List.set_cons_zero, List.set_cons_succ]
  refine wpAnyH_take (i := 55) (v := ?_) rfl (by kernel_rfl) (by kernel_rfl) (by kernel_rfl) (fun _ _ _ h => h) (Or.inl ⟨rfl, ?_⟩) hHeld ?_
  rotate_left
  · intro w0 hS0
    try dsimp only at hS0
    go_simp
    try with_reducible rfl
  simp only [List.getElem_toArray, List.getElem_cons_zero, List.getElem_cons_succ, Act.put, List.setIfInBounds_toArray, List.set_cons_zero, List.set_cons_succ]
  refine wpAnyH_take (i := 56) (v := ?_) rfl (by kernel_rfl) (by kernel_rfl) (by kernel_rfl) (fun _ _ _ h => h) (Or.inl ⟨rfl, ?_⟩) hHeld ?_
  rotate_left
  · intro w0 hS0
    try dsimp only at hS0
    go_simp
    try with_reducible rfl
  simp only [List.getElem_toArray, List.getElem_cons_zero, List.getElem_cons_succ, Act.put, List.setIfInBounds_toArray, List.set_cons_zero, List.set_cons_succ]
  generalize wu = wz at *
  refine wpAnyH_ready (rs := [50, 57]) (by kernel_rfl) (by simp) ?_
  refine AllReadyH.cons rfl (fun K hK => ?_) (AllReadyH.cons rfl (fun K hK => ?_) AllReadyH.nil)
  · rw [if_pos (by rfl)]
    go_simp
    go_at_call 13
    refine (hints_any W hb m _ _ _ _ _ _ HB.out (by omega)).mono ?_
    rintro e wu ⟨vx, rfl, hox, hk⟩
    obtain ⟨ax, cx, rfl, hrx, -, -⟩ := ownsRow_row hox
    have RX := Lib.hid hrx
    replace HB := Lib.hid (HB.out.below hk)
    replace HD := Lib.hid (HD.out.below hk)
    replace t0 := (World.cell?_of_block (w := wz) (hk.block _ (World.block_lt_of_cell? _ _ t0))).trans t0
    replace d0 := (World.cell?_of_block (w := wz) (hk.block _ (World.block_lt_of_cell? _ _ d0))).trans d0
    replace t1 := (World.cell?_of_block (w := wz) (hk.block _ (World.block_lt_of_cell? _ _ t1))).trans t1
    replace htr := Lib.hid (htr.out.below hk (Nat.le_refl _))
    refine hK.out _ _ ⟨t0, d0⟩ (fun hHeld => ?_)
    clear hox hrx hk
    refine wpAnyH_ready (rs := [57]) (by kernel_rfl) (by simp) ?_
    refine AllReadyH.cons rfl (fun K hK => ?_) AllReadyH.nil
    rw [if_pos (by rfl)]
    go_simp
    refine hK.out _ _ ⟨t0, d0⟩ (fun hHeld => ?_)
    refine wpAnyH_ready (rs := [58]) (by kernel_rfl) (by simp) ?_
    refine AllReadyH.cons rfl (fun K hK => ?_) AllReadyH.nil
    rw [if_pos (by rfl)]
    go_simp
    go_at_call 20
    refine (sameH_any true ax ta cx tc _ _ wu RX.out htr.out (by omega) (by simp)).mono ?_
    rintro e wv ⟨rfl, nd, rfl⟩
    refine hK.out _ _ ⟨t0, d0⟩ (fun hHeld => ?_)
    clear RX htr
    refine wpAnyH_take (i := 59) (v := ?_) rfl (by kernel_rfl) (by kernel_rfl) (by kernel_rfl) (fun _ _ _ h => h) (Or.inl ⟨rfl, ?_⟩) hHeld ?_
    rotate_left
    · intro w0 hS0
      try dsimp only at hS0
      go_simp
      try with_reducible rfl
    simp only [List.getElem_toArray, List.getElem_cons_zero, List.getElem_cons_succ, Act.put, List.setIfInBounds_toArray, List.set_cons_zero, List.set_cons_succ]
    refine wpAnyH_take (i := 60) (v := ?_) rfl (by kernel_rfl) (by kernel_rfl) (by kernel_rfl) (fun _ _ _ h => h) (Or.inl ⟨rfl, ?_⟩) hHeld ?_
    rotate_left
    · intro w0 hS0
      try dsimp only at hS0
      go_simp
      try with_reducible rfl
    simp only [List.getElem_toArray, List.getElem_cons_zero, List.getElem_cons_succ, Act.put, List.setIfInBounds_toArray, List.set_cons_zero, List.set_cons_succ]
    refine wpAnyH_ready (rs := [61]) (by kernel_rfl) (by simp) ?_
    refine AllReadyH.cons rfl (fun K hK => ?_) AllReadyH.nil
    rw [if_pos (by rfl)]
    go_simp
    go_at_call 11
    refine (HAW.out _ (HB.out.below (drewN_below _ nd)).bel).mono ?_
    rintro e wy ⟨rfl, hk⟩
    have HK := Lib.hid (bnext (HB.out.below (drewN_below _ nd)).bel (Nat.le_refl _) hk)
    refine hK.out _ _ ⟨(World.cell?_of_block (w := wu) ((bnext (drewN_below _ nd) (Nat.le_refl _) hk).block _ (World.block_lt_of_cell? _ _ t0))).trans t0, (World.cell?_of_block (w := wu) ((bnext (drewN_below _ nd) (Nat.le_refl _) hk).block _ (World.block_lt_of_cell? _ _ d0))).trans d0⟩ (fun hHeld => ?_)
    clear hk
    refine wpAnyH_take (i := 62) (v := ?_) rfl (by kernel_rfl) (by kernel_rfl) (by kernel_rfl) (fun _ _ _ h => h) (Or.inl ⟨rfl, ?_⟩) hHeld ?_
    rotate_left
    · intro w0 hS0
      try dsimp only at hS0
      go_simp
      try with_reducible rfl
    simp only [List.getElem_toArray, List.getElem_cons_zero, List.getElem_cons_succ, Act.put, List.setIfInBounds_toArray, List.set_cons_zero, List.set_cons_succ]
    refine wpAnyH_take (i := 63) (v := ?_) rfl (by kernel_rfl) (by kernel_rfl) (by kernel_rfl) (fun _ _ _ h => h) (Or.inl ⟨rfl, ?_⟩) hHeld ?_
    rotate_left
    · intro w0 hS0
      try dsimp only at hS0
      go_simp
      try with_reducible rfl
    simp only [List.getElem_toArray, List.getElem_cons_zero, List.getElem_cons_succ, Act.put, List.setIfInBounds_toArray, List.set_cons_zero, List.set_cons_succ]
    refine wpAnyH_done (by kernel_rfl) ?_ _
    go_wp2_with fail
    go_ret
    exact ⟨rfl, HK.out⟩
  · rw [if_pos (by rfl)]
    go_simp
    refine hK.out _ _ ⟨t0, d0⟩ (fun hHeld => ?_)
    refine wpAnyH_ready (rs := [50]) (by kernel_rfl) (by simp) ?_
    refine AllReadyH.cons rfl (fun K hK => ?_) AllReadyH.nil
    rw [if_pos (by rfl)]
    go_simp
    go_at_call 13
    refine (hints_any W hb m _ _ _ _ _ _ HB.out (by omega)).mono ?_
    rintro e wu ⟨vx, rfl, hox, hk⟩
    obtain ⟨ax, cx, rfl, hrx, -, -⟩ := ownsRow_row hox
    have RX := Lib.hid hrx
    replace HB := Lib.hid (HB.out.below hk)
    replace HD := Lib.hid (HD.out.below hk)
    replace t0 := (World.cell?_of_block (w := wz) (hk.block _ (World.block_lt_of_cell? _ _ t0))).trans t0
    replace d0 := (World.cell?_of_block (w := wz) (hk.block _ (World.block_lt_of_cell? _ _ d0))).trans d0
    replace t1 := (World.cell?_of_block (w := wz) (hk.block _ (World.block_lt_of_cell? _ _ t1))).trans t1
    replace htr := Lib.hid (htr.out.below hk (Nat.le_refl _))
    refine hK.out _ _ ⟨t0, d0⟩ (fun hHeld => ?_)
    clear hox hrx hk
    refine wpAnyH_ready (rs := [58]) (by kernel_rfl) (by simp) ?_
    refine AllReadyH.cons rfl (fun K hK => ?_) AllReadyH.nil
    rw [if_pos (by rfl)]
    go_simp
    go_at_call 20
    refine (sameH_any true ax ta cx tc _ _ wu RX.out htr.out (by omega) (by simp)).mono ?_
    rintro e wv ⟨rfl, nd, rfl⟩
    refine hK.out _ _ ⟨t0, d0⟩ (fun hHeld => ?_)
    clear RX htr
    refine wpAnyH_take (i := 59) (v := ?_) rfl (by kernel_rfl) (by kernel_rfl) (by kernel_rfl) (fun _ _ _ h => h) (Or.inl ⟨rfl, ?_⟩) hHeld ?_
    rotate_left
    · intro w0 hS0
      try dsimp only at hS0
      go_simp
      try with_reducible rfl
    simp only [List.getElem_toArray, List.getElem_cons_zero, List.getElem_cons_succ, Act.put, List.setIfInBounds_toArray, List.set_cons_zero, List.set_cons_succ]
    refine wpAnyH_take (i := 60) (v := ?_) rfl (by kernel_rfl) (by kernel_rfl) (by kernel_rfl) (fun _ _ _ h => h) (Or.inl ⟨rfl, ?_⟩) hHeld ?_
    rotate_left
    · intro w0 hS0
      try dsimp only at hS0
      go_simp
      try with_reducible rfl
    simp only [List.getElem_toArray, List.getElem_cons_zero, List.getElem_cons_succ, Act.put, List.setIfInBounds_toArray, List.set_cons_zero, List.set_cons_succ]
    refine wpAnyH_ready (rs := [61]) (by kernel_rfl) (by simp) ?_
    refine AllReadyH.cons rfl (fun K hK => ?_) AllReadyH.nil
    rw [if_pos (by rfl)]
    go_simp
    go_at_call 11
    refine (HAW.out _ (HB.out.below (drewN_below _ nd)).bel).mono ?_
    rintro e wy ⟨rfl, hk⟩
    have HK := Lib.hid (bnext (HB.out.below (drewN_below _ nd)).bel (Nat.le_refl _) hk)
    refine hK.out _ _ ⟨(World.cell?_of_block (w := wu) ((bnext (drewN_below _ nd) (Nat.le_refl _) hk).block _ (World.block_lt_of_cell? _ _ t0))).trans t0, (World.cell?_of_block (w := wu) ((bnext (drewN_below _ nd) (Nat.le_refl _) hk).block _ (World.block_lt_of_cell? _ _ d0))).trans d0⟩ (fun hHeld => ?_)
    clear hk
    refine wpAnyH_take (i := 62) (v := ?_) rfl (by kernel_rfl) (by kernel_rfl) (by kernel_rfl) (fun _ _ _ h => h) (Or.inl ⟨rfl, ?_⟩) hHeld ?_
    rotate_left
    · intro w0 hS0
      try dsimp only at hS0
      go_simp
      try with_reducible rfl
    simp only [List.getElem_toArray, List.getElem_cons_zero, List.getElem_cons_succ, Act.put, List.setIfInBounds_toArray, List.set_cons_zero, List.set_cons_succ]
    refine wpAnyH_take (i := 63) (v := ?_) rfl (by kernel_rfl) (by kernel_rfl) (by kernel_rfl) (fun _ _ _ h => h) (Or.inl ⟨rfl, ?_⟩) hHeld ?_
    rotate_left
    · intro w0 hS0
      try dsimp only at hS0
      go_simp
      try with_reducible rfl
    simp only [List.getElem_toArray, List.getElem_cons_zero, List.getElem_cons_succ, Act.put, List.setIfInBounds_toArray, List.set_cons_zero, List.set_cons_succ]
    refine wpAnyH_done (by kernel_rfl) ?_ _
    go_wp2_with fail
    go_ret
    exact ⟨rfl, HK.out⟩
end Go.Proofs.YthfdcphecggjeaaGreatDoor
