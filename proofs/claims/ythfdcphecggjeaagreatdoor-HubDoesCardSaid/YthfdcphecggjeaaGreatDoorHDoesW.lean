/- The hub's laws: HubDoes walked. (Printed by gen_hdoes.py.) -/
import Derived.Test.YthfdcphecggjeaaGreatDoorDZ
import Derived.Test.YthfdcphecggjeaaGreatDoorHOnce
namespace Go.Proofs.YthfdcphecggjeaaGreatDoor
open Go Go.RowKit

theorem Db.keepBy {w0 w w' : World} {h n k : Nat} {s : HubS} {lv : Nat} {ns : List NoteK} {F S S' : List Nat} (p : Db w0 w h n k s lv ns F) (hd : ∀ j ∈ F, j ∉ S) (hS : ∀ j ∈ S, w0.heap.size ≤ j) (hu : Upd S S' w w') : Db w0 w' h n k s lv ns F ∧ ∀ j ∈ F, j ∉ S' :=
  ⟨p.mod hu hd hS, fun j hj hj' => fresh_not (p.lt j hj) (hd j hj) hu.2 hj'⟩
theorem Db.rowT {w0 w : World} {h n k : Nat} {s : HubS} {lv : Nat} {ns : List NoteK} {F : List Nat} (p : Db w0 w h n k s lv ns F) : ∃ t a c, w.cell? ⟨h, 0, none⟩ = some (.pointer (some ⟨t, 0, none⟩)) ∧ w.cell? ⟨t, 0, none⟩ = some (.slice a s.gs.length c) ∧ Row w a (hintsV s.gs) := by
  obtain ⟨t, N, Ft, t0, hr, -⟩ := p.lensT
  obtain ⟨a, c, h1, -, -, h2, -⟩ := hr.1
  exact ⟨t, a, c, t0, cell_of_row _ _ 0 _ _ _ h1, h2⟩
theorem Db.rowK {w0 w : World} {h n k : Nat} {s : HubS} {lv : Nat} {ns : List NoteK} {F : List Nat} (p : Db w0 w h n k s lv ns F) : ∃ t a c, w.cell? ⟨h, 1, none⟩ = some (.pointer (some ⟨t, 0, none⟩)) ∧ w.cell? ⟨t, 0, none⟩ = some (.slice a s.kp.length c) ∧ Row w a (msgs s.kp) := by
  obtain ⟨t, KF, t0, ⟨v, h1, hown, -⟩, -⟩ := p.lensK
  obtain ⟨a, c, rfl, hr, -⟩ := ownsRow_row hown
  exact ⟨t, a, c, t0, cell_of_row _ _ 0 _ _ _ h1, hr⟩
theorem Db.rowN {w0 w : World} {h n k : Nat} {s : HubS} {lv : Nat} {ns : List NoteK} {F : List Nat} (p : Db w0 w h n k s lv ns F) : ∃ a c, w.cell? ⟨lv, 0, none⟩ = some (.slice a ns.length c) ∧ Row w a (notesK ns) := by
  obtain ⟨G, ⟨v, h1, hown, -⟩, -⟩ := p.lensL
  obtain ⟨a, c, rfl, hr, -⟩ := ownsRow_row hown
  exact ⟨a, c, cell_of_row _ _ 0 _ _ _ h1, hr⟩
theorem build_items1' (x : Item) : Build1 Tryz.prog 22 36 x.cells := by
  intro o a w K Q A ho hx h
  obtain ⟨i, hi, hz0, hz1, hz2⟩ := info_parts T_item.hi
  refine wp_buildSlice 22 36 1 _ ho x.cells.toArray i _ Tryz.underlying22 hi hz0 (by rw [hz1]; decide) (by rw [hz1]; decide) ?_ h
  rw [hz1]
  simp only [List.map_toArray, List.map_cons, List.map_nil, hx]
  clear hx h ho hi hz0 hz1 hz2
  obtain ⟨x0, x1, x2, x3, x4, ⟨p0, p1, p2, p3, p4, p5, p6, p7, p8, p9, p10, p11, ⟨q0, q1, q2, q3⟩, p13, p14, p15, p16, p17, p18, p19, p20, p21, p22⟩, ⟨m0, m1, m2, m3⟩, x7, x8, x9, x10, x11, x12, x13, x14, x15, x16, x17⟩ := x
  kernel_rfl
set_option maxRecDepth 100000 in
set_option maxHeartbeats 8000000 in
theorem hubDoes_any (n : Int) (a : Option Addr) (c : Nat) (l : List Item) (W : World) (hr : Row W a (itemsV l)) (hl : l.length ≤ maxLen) (hlc : l.length ≤ c) (hq : ∀ x ∈ l, 0 ≤ x.msg.q ∧ x.msg.q < 256) (hT : Tabs W) :
    Calls Tryz.prog 6 #[.int .i64 n, .slice a l.length c] W fun e w' => e = .returned (.bool true) ∧ Below W.heap.size W w' := by
  have HT := Lib.hid hT
  have HR := Lib.hid hr
  have HG := Lib.hid (great19 a c l W hr hl)
  have HAW := Lib.hid (fun X (hb : Below W.heap.size W X) => awake19 W X hb hT)
  have hl2 : (l.length : Int) ≤ 9223372036854775807 := by unfold maxLen at hl; omega
  have HSM := Lib.hid (fun (h : SmL l) => small_of h hq)
  clear hr hl hq hT
  go_enter Tryz.func6, Tryz.ntmps6
  go_wp2_with fail
  refine HG.out.mono ?_
  rintro e w1 ⟨he, rfl⟩
  rcases he with rfl | ⟨rfl, hs⟩
  · go_wp2_with fail
    refine (HAW.out _ (Below.refl _ _)).mono ?_
    rintro e wz ⟨rfl, hk⟩
    have HK := Lib.hid (bnext (Below.refl _ _) (Nat.le_refl _) hk)
    clear hk
    go_wp2_with fail
    go_ret
    exact ⟨rfl, HK.out⟩
  by_cases hn : n < 1 ∨ 64 < n
  · have HNO := Lib.hid (hub_no n hn W)
    go_wp2_with fail
    refine HNO.out.mono ?_
    rintro e w1 ⟨rfl, rfl⟩
    by_cases hn1 : n < 1
    · go_wp2_with fail
      refine (HAW.out _ (Below.refl _ _)).mono ?_
      rintro e wz ⟨rfl, hk⟩
      have HK := Lib.hid (bnext (Below.refl _ _) (Nat.le_refl _) hk)
      clear hk
      go_wp2_with fail
      go_ret
      exact ⟨rfl, HK.out⟩
    · have hn2 : 64 < n := by omega
      clear hn
      go_wp2_with fail
      refine (HAW.out _ (Below.refl _ _)).mono ?_
      rintro e wz ⟨rfl, hk⟩
      have HK := Lib.hid (bnext (Below.refl _ _) (Nat.le_refl _) hk)
      clear hk
      go_wp2_with fail
      go_ret
      exact ⟨rfl, HK.out⟩
  obtain ⟨m, rfl⟩ := Int.eq_ofNat_of_zero_le (show 0 ≤ n by omega)
  have h1 : 1 ≤ m := by omega
  have h2 : m ≤ 64 := by omega
  have g1 : ¬ (m : Int) < 1 := by omega
  have g2 : ¬ (64 : Int) < m := by omega
  have HN := Lib.hid (hub_yes W m h1 h2 W (Below.refl _ _))
  clear hn
  go_wp2_with fail
  refine HN.out.mono ?_
  rintro e w1 ⟨hb, F1, rfl, hp1, hu1⟩
  have HB1 := Lib.hid hp1
  have HS := Lib.hid hs
  clear hp1 hs hu1
  go_wp2_with fail
  refine (dhub_new m w1).mono ?_
  rintro e w2 ⟨d, t, g, rfl, hdn, hd0, hd1, hd2, hk2⟩
  have HB2 := Lib.hid (HB1.out.below hk2)
  have HDN := Lib.hid (And.intro hdn (And.intro hd0 (And.intro hd1 (And.intro hd2 hk2))))
  clear hdn hd0 hd1 hd2 hk2
  go_wp2_with fail
  refine (log_newP w2).mono ?_
  rintro e w3 ⟨lb, Gb, rfl, hl3, hu3⟩
  obtain ⟨F1b, hp3, huF⟩ := HB2.out.nolog.withLog hl3 hu3 (by simp)
  have hb3 : Below w2.heap.size w2 w3 := hu3.1.below (Nat.le_refl _) (by simp)
  have HB3 := Lib.hid hp3
  have HF3 := Lib.hid huF.2
  have HK3 := Lib.hid hb3
  clear hl3 hu3 hp3 huF hb3
  go_wp2_with fail
  have hbl := low_alloc w3 (.cells #[.slice none 0 0, .int .i64 0] 60)
  obtain ⟨hdn, hd0, hd1, hd2, hk2⟩ := HDN.out
  obtain ⟨F2, hp4, hF2⟩ := Db.start (w0 := W) (w := w3.alloc (.cells #[.slice none 0 0, .int .i64 0] 60)) (lg := w3.heap.size) (G := [w3.heap.size]) hdn (by have := HB1.out.bel.size; omega) hd1 hd2 (bnext HB1.out.bel (Nat.le_refl _) hk2) (bnext HK3.out (Nat.le_refl _) hbl)
    ⟨.slice none 0 0, heap_alloc_new w3 _, World.ownsRow_nil _ _ _ _, by simp [Value.ownBlock], rfl⟩ (fun j hj => by rw [List.mem_singleton.1 hj]; exact HK3.out.size)
  have HD4 := Lib.hid hp4
  have HB4 := Lib.hid (HB3.out.below hbl)
  have HDJ4 : Hid (∀ k ∈ F1b, k ∉ F2) := Lib.hid (fun k hk hk' => by
    rw [hF2] at hk'
    have h3 := HF3.out k hk
    have hs2 := hk2.size
    have hs3 := HK3.out.size
    have hk3 := HB3.out.lt k hk
    have hd3 : d < w2.heap.size := (Array.getElem?_eq_some_iff.1 hdn.top).1
    rcases mem_footH.1 hk' with rfl | hj | hj | hj
    · rcases h3 with h3 | h3
      · have := HB1.out.lt _ h3; omega
      · omega
    · rw [List.mem_singleton.1 hj] at h3
      rcases h3 with h3 | h3
      · have := HB1.out.lt _ h3; omega
      · omega
    · rw [List.mem_singleton.1 hj] at h3
      rcases h3 with h3 | h3
      · have := HB1.out.lt _ h3; omega
      · omega
    · rw [List.mem_singleton.1 hj] at hk3
      omega)
  clear hbl hdn hd0 hd1 hd2 hk2 hp4 hF2 HDN HB1 HB2 HB3 HK3 HF3 HN HG
  have hs := HS
  go_loopw [9] (fun i wr => ∃ (j : Nat) (F1 F2 : List Nat), i = .int .i64 j ∧ j ≤ l.length ∧ Hb W wr hb m j (doH m (l.take j) HubS.new).2 (.pointer (some ⟨lb, 0, none⟩)) (notesOf m (l.take j)) F1 ∧ Db W wr d m j (doH m (l.take j) HubS.new).2 w3.heap.size (notesOf m (l.take j)) F2 ∧ ∀ j ∈ F1, j ∉ F2) (fun i _ => (l.length - intOf i).toNat)
  case atStart => exact ⟨0, F1b, F2, rfl, by omega, by simpa [doH, notesOf] using HB4.out, by simpa [doH, notesOf] using HD4.out, HDJ4.out⟩
  case round =>
    clear HB4 HD4 HDJ4
    generalize w3.heap.size = lg at *
    obtain ⟨j, F1, F2, rfl, hj, hpb, hpd, hd⟩ := hrel
    have HBJ := Lib.hid hpb
    have HDJ := Lib.hid hpd
    have HDJ2 := Lib.hid hd
    clear hpb hpd hd
    by_cases hlt : j < l.length
    · have hl60 : l.length ≤ 60 := hs.out.1
      have hwj : IntKind.i64.wrap ((j : Int) + 1) = ((j + 1 : Nat) : Int) := by rw [IntKind.wrap_i64]; omega
      have hcj : ¬ c = j := by omega
      have hcj2 : j + 1 ≤ c := by omega
      have hcj3 : (0 : Int) ≤ (j : Int) + 1 := by omega
      have hcj4 : (j : Int) + 1 ≤ (c : Int) := by omega
      have hj0 : (0 : Int) ≤ j := by omega
      have hjl : (j : Int) < l.length := by omega
      obtain ⟨b, o, rfl, hra0⟩ := row_mid (mk := Item.cells) (m := 38) item_width (HR.out) hlt (by decide)
      have HRX : Hid (∀ X, Row X (some ⟨b, o, none⟩) (itemsV l) → X.rangeAt b (o + j * 38) l[j].cells) := Lib.hid (fun X h => by
        obtain ⟨b', o', e, h'⟩ := row_mid (mk := Item.cells) (m := 38) item_width h hlt (by decide)
        cases e
        exact h')
      have HR1 : Hid (Row W (some ⟨b, o + j * 38, none⟩) (itemsV [l[j]])) := Lib.hid (.inr ⟨b, o + j * 38, rfl, fun i v hi => hra0 i v (by simpa [itemsV] using hi)⟩)
      have HD := Lib.hid (doH_snoc m (l.take j) l[j] HubS.new)
      have HN := Lib.hid (notesOf_snoc m (l.take j) l[j])
      have htk := List.take_succ_eq_append_getElem hlt
      rw [← htk] at HD HN
      clear htk hra0
      have HXS := Lib.hid (HSM.out hs.out _ (List.getElem_mem hlt))
      have HIL : Hid ((Tryz.prog.info? 36).map (·.size) = some l[j].cells.length) := Lib.hid ((item_size l[j]).trans (congrArg some List.size_toArray))
      have HBS := Lib.hid (build_items1' l[j])
      have HON := Lib.hid (notesOf_one m l[j])
      have H1 := Lib.hid (doH_one m l[j] (doH m (l.take j) HubS.new).2)
      have HOL := Lib.hid (oneM_len m l[j] (doH m (l.take j) HubS.new).2)
      have HOS := Lib.hid (oneM_small (n := m) l[j] (k := j) (s := (doH m (l.take j) HubS.new).2) HBJ.out.kl (by
        obtain ⟨_, _, _, -, h, -⟩ := HBJ.out.lensT
        exact h.len))
      generalize l[j] = x at *
      have hel : (itemsV [x]) = x.cells := by simp [itemsV]
      have HWD := Lib.hid ((Below.refl wr.heap.size wr).drew)
      have HBD := Lib.hid (HBJ.out.below HWD.out)
      have HDD := Lib.hid (HDJ.out.below HWD.out)
      have hsd : wr.drew.heap.size = wr.heap.size := rfl
      have HBL := Lib.hid (low_alloc wr.drew (.cells x.cells.toArray 36))
      have HB2 := Lib.hid (HBD.out.below HBL.out)
      have HD2 := Lib.hid (HDD.out.below HBL.out)
      have HSX : Hid (∀ X, Row X (some ⟨b, o, none⟩) (itemsV l) → X.rangeAt b (o + j * 38) x.cells) := HRX
      have HDO := Lib.hid (fun G hG => hdo_any W hb m j (doH m (l.take j) HubS.new).2 _ (notesOf m (l.take j)) F1 [x] (some ⟨wr.heap.size, 0, none⟩) 1 (wr.drew.alloc (.cells (itemsV [x]).toArray 36)) (by rw [hel]; exact HB2.out) HT.out
        (fun y hy => by rw [List.mem_singleton.1 hy]; exact HXS.out) (by simp; omega) h1 h2 (beside_new HBD.out.lt _ _) G hG)
      rw [hel] at HDO
      clear hel
      have hsz : (wr.drew.alloc (.cells x.cells.toArray 36)).heap.size = wr.heap.size + 1 := by simp
      have HRJ := Lib.hid (HSX.out _ (HBJ.out.beside HR.out).row)
      have HRA := Lib.hid (HSX.out _ (HB2.out.beside HR.out).row)
      have HSM1 : Hid (∀ y ∈ [x], SmallI y) := Lib.hid (fun y hy => by rw [List.mem_singleton.1 hy]; exact HXS.out)
      generalize x.cells = XC at *
      generalize hw2 : wr.drew.alloc (.cells XC.toArray 36) = w2 at *
      go_wp2_with fail
      refine wp_region_held_drew (S := fun X => X.rangeAt b (o + j * 38) XC) (by kernel_rfl) HRJ.out (fun hHeld => ?_)
      refine wpAnyH_take (i := 0) (v := ?_) rfl (by kernel_rfl) (by kernel_rfl) (by kernel_rfl) (fun _ _ _ h => h) (Or.inl ⟨rfl, ?_⟩) hHeld ?_
      rotate_left
      · intro w0 hS0
        try dsimp only at hS0
        go_simp
        try with_reducible rfl
      simp only [List.getElem_toArray, List.getElem_cons_zero, Act.put, List.setIfInBounds_toArray, List.set_cons_zero, List.set_cons_succ]
      refine wpAnyH_take (i := 1) (v := ?_) rfl (by kernel_rfl) (by kernel_rfl) (by kernel_rfl) (fun _ _ _ h => h) (Or.inl ⟨rfl, ?_⟩) hHeld ?_
      rotate_left
      · intro w0 hS0
        try dsimp only at hS0
        go_simp
        try with_reducible rfl
      simp only [List.getElem_toArray, List.getElem_cons_zero, List.getElem_cons_succ, Act.put, List.setIfInBounds_toArray, List.set_cons_zero, List.set_cons_succ]
      refine wpAnyH_take (i := 2) (v := ?_) rfl (by kernel_rfl) (by kernel_rfl) (by kernel_rfl) (fun _ _ _ h => h) (Or.inl ⟨rfl, ?_⟩) hHeld ?_
      rotate_left
      · intro w0 hS0
        try dsimp only at hS0
        go_simp
        try with_reducible rfl
      simp only [List.getElem_toArray, List.getElem_cons_zero, List.getElem_cons_succ, Act.put, List.setIfInBounds_toArray, List.set_cons_zero, List.set_cons_succ]
      refine wpAnyH_take (i := 3) (v := ?_) rfl (by kernel_rfl) (by kernel_rfl) (by kernel_rfl) (fun _ _ _ h => h) (Or.inl ⟨rfl, ?_⟩) hHeld ?_
      rotate_left
      · intro w0 hS0
        try dsimp only at hS0
        go_simp
        try with_reducible rfl
      simp only [List.getElem_toArray, List.getElem_cons_zero, List.getElem_cons_succ, Act.put, List.setIfInBounds_toArray, List.set_cons_zero, List.set_cons_succ]
      refine wpAnyH_take (i := 4) (v := ?_) rfl (by kernel_rfl) (by kernel_rfl) (by kernel_rfl) (fun _ _ _ h => h) (Or.inl ⟨rfl, ?_⟩) hHeld ?_
      rotate_left
      · intro w0 hS0
        try dsimp only at hS0
        go_simp
        try with_reducible rfl
      simp only [List.getElem_toArray, List.getElem_cons_zero, List.getElem_cons_succ, Act.put, List.setIfInBounds_toArray, List.set_cons_zero, List.set_cons_succ]
      refine wpAnyH_take (i := 5) (v := .agg XC.toArray) rfl (by kernel_rfl) (by kernel_rfl) (by kernel_rfl) (fun _ _ _ h => h) (Or.inl ⟨rfl, ?_⟩) hHeld ?_
      · intro w1 hS1
        exact exec_load_row rfl rfl hS1 Tryz.underlying36 rfl HIL.out
      simp only [List.getElem_toArray, List.getElem_cons_zero, List.getElem_cons_succ, Act.put, List.setIfInBounds_toArray, List.set_cons_zero, List.set_cons_succ]
      refine wpAnyH_take (i := 8) (v := ?_) rfl (by kernel_rfl) (by kernel_rfl) (by kernel_rfl) (fun _ _ _ h => h) (Or.inl ⟨rfl, ?_⟩) hHeld ?_
      rotate_left
      · intro w0 hS0
        try dsimp only at hS0
        go_simp
        try with_reducible rfl
      simp only [List.getElem_toArray, List.getElem_cons_zero, List.getElem_cons_succ, Act.put, List.setIfInBounds_toArray, List.set_cons_zero, List.set_cons_succ]
      refine wpAnyH_take (i := 9) (v := ?_) rfl (by kernel_rfl) (by kernel_rfl) (by kernel_rfl) (fun _ _ _ h => h) (Or.inl ⟨rfl, ?_⟩) hHeld ?_
      rotate_left
      · intro w0 hS0
        try dsimp only at hS0
        go_simp
        try with_reducible rfl
      simp only [List.getElem_toArray, List.getElem_cons_zero, List.getElem_cons_succ, Act.put, List.setIfInBounds_toArray, List.set_cons_zero, List.set_cons_succ]
      refine wpAnyH_take (i := 10) (v := ?_) rfl (by kernel_rfl) (by kernel_rfl) (by kernel_rfl) (fun _ _ _ h => h) (Or.inl ⟨rfl, ?_⟩) hHeld ?_
      rotate_left
      · intro w0 hS0
        try dsimp only at hS0
        go_simp
        try with_reducible rfl
      simp only [List.getElem_toArray, List.getElem_cons_zero, List.getElem_cons_succ, Act.put, List.setIfInBounds_toArray, List.set_cons_zero, List.set_cons_succ]
      refine wpAnyH_take (i := 11) (v := ?_) rfl (by kernel_rfl) (by kernel_rfl) (by kernel_rfl) (fun _ _ _ h => h) (Or.inl ⟨rfl, ?_⟩) hHeld ?_
      rotate_left
      · intro w0 hS0
        try dsimp only at hS0
        go_simp
        try with_reducible rfl
      simp only [List.getElem_toArray, List.getElem_cons_zero, List.getElem_cons_succ, Act.put, List.setIfInBounds_toArray, List.set_cons_zero, List.set_cons_succ]
      refine wpAnyH_take (i := 12) (v := ?_) rfl (by kernel_rfl) (by kernel_rfl) (by kernel_rfl) (fun _ _ _ h => h) (Or.inl ⟨rfl, ?_⟩) hHeld ?_
      rotate_left
      · intro w0 hS0
        try dsimp only at hS0
        go_simp
        try with_reducible rfl
      simp only [List.getElem_toArray, List.getElem_cons_zero, List.getElem_cons_succ, Act.put, List.setIfInBounds_toArray, List.set_cons_zero, List.set_cons_succ]
      refine wpAnyH_take (i := 13) (v := ?_) rfl (by kernel_rfl) (by kernel_rfl) (by kernel_rfl) (fun _ _ _ h => h) (Or.inl ⟨rfl, ?_⟩) hHeld ?_
      rotate_left
      · intro w0 hS0
        try dsimp only at hS0
        go_simp
        try with_reducible rfl
      simp only [List.getElem_toArray, List.getElem_cons_zero, List.getElem_cons_succ, Act.put, List.setIfInBounds_toArray, List.set_cons_zero, List.set_cons_succ]
      refine wpAnyH_take (i := 14) (v := ?_) rfl (by kernel_rfl) (by kernel_rfl) (by kernel_rfl) (fun _ _ _ h => h) (Or.inl ⟨rfl, ?_⟩) hHeld ?_
      rotate_left
      · intro w0 hS0
        try dsimp only at hS0
        go_simp
        try with_reducible rfl
      simp only [List.getElem_toArray, List.getElem_cons_zero, List.getElem_cons_succ, Act.put, List.setIfInBounds_toArray, List.set_cons_zero, List.set_cons_succ]
      refine wpAnyH_ready (rs := [6]) (by kernel_rfl) (by simp) ?_
      refine AllReadyH.cons rfl (fun K hK => ?_) AllReadyH.nil
      rw [if_pos (by rfl)]
      refine HBS.out _ _ _ _ _ _ rfl rfl ?_
      rw [hw2]
      refine hK.out _ _ HRA.out (fun hHeld => ?_)
      refine wpAnyH_ready (rs := [7]) (by kernel_rfl) (by simp) ?_
      refine AllReadyH.cons rfl (fun K hK => ?_) AllReadyH.nil
      rw [if_pos (by rfl)]
      go_simp
      go_at_call 12
      refine (HDO.out F2 (fun k hk => by have := HD2.out.lt k hk; exact this)).mono ?_
      rintro e w3 ⟨v3, M3, F1n, rfl, hp3, hu3, ho3⟩
      rw [H1.out.1] at ho3
      rw [H1.out.2] at hp3
      obtain ⟨a3, c3, rfl, hr3, -, -⟩ := ownsRow_row ho3.own
      obtain ⟨hpd, hdd⟩ := HD2.out.keepBy (fun k hk hk' => HDJ2.out k hk' hk) HB2.out.fF hu3
      have HB3 := Lib.hid hp3
      have HD3 := Lib.hid hpd
      have HDJ3 : Hid (∀ k ∈ F1n, k ∉ F2) := Lib.hid (fun k hk hk' => hdd k hk' hk)
      have HO3 := Lib.hid ho3
      have HUW3 : Hid (Upd F1 F1n wr w3) := Lib.hid (upd_trans_h (upd_trans_h (upd_b HWD.out) (upd_b HBL.out)) hu3)
      have HDA := Lib.hid (ddo_any W d m j (doH m (l.take j) HubS.new).2 lg (notesOf m (l.take j)) F2 [x] (some ⟨b, o + j * 38, none⟩) (c - j) w3 hpd HSM1.out (by simp; omega) h1 h2 (hpd.beside HR1.out) (F1n ++ (Value.slice a3 M3.length c3).ownBlock.toList) (fun k hk => by
        rcases List.mem_append.1 hk with hk | hk
        · exact hp3.lt k hk
        · exact (ho3.lt k hk).2))
      refine hK.out _ _ (HSX.out _ (hp3.beside HR.out).row) (fun hHeld => ?_)
      clear hp3 hu3 ho3 hpd hdd hr3
      refine wpAnyH_ready (rs := [15]) (by kernel_rfl) (by simp) ?_
      refine AllReadyH.cons rfl (fun K hK => ?_) AllReadyH.nil
      rw [if_pos (by rfl)]
      go_simp
      go_at_call 22
      refine HDA.out.mono ?_
      rintro e w4 ⟨v4, M4, F2n, rfl, hp4, hu4, ho4⟩
      rw [H1.out.1] at ho4
      rw [H1.out.2] at hp4
      obtain ⟨a4, c4, rfl, hr4, -, -⟩ := ownsRow_row ho4.own
      obtain ⟨hpb, hdb⟩ := HB3.out.keepBy (fun k hk hk' => HDJ3.out k hk hk') HD3.out.fF hu4
      have HB4 := Lib.hid hpb
      have HD4 := Lib.hid hp4
      have HDJ4 : Hid (∀ k ∈ F1n, k ∉ F2n) := Lib.hid hdb
      have HO3b := HO3.out.upd (upd_l hu4)
      obtain ⟨_, _, e3, hr3, -, -⟩ := ownsRow_row HO3b.own
      cases e3
      have HSS := Lib.hid (sameMails19 a3 a4 c3 c4 M3 M4 (oneM m x (doH m (l.take j) HubS.new).2).1 w4 hr3 hr4 (HO3b.ms.sub (by simp)) (ho4.ms.sub (by simp)) (by have := HOL.out; omega) (fun h hh => by
        have := HOS.out.1 h hh
        omega))
      refine hK.out _ _ (HSX.out _ (hp4.beside HR.out).row) (fun hHeld => ?_)
      clear hp4 hu4 ho4 hpb hdb hr4 hr3 HO3b HO3 HDA
      refine wpAnyH_ready (rs := [16]) (by kernel_rfl) (by simp) ?_
      refine AllReadyH.cons rfl (fun K hK => ?_) AllReadyH.nil
      rw [if_pos (by rfl)]
      go_simp
      go_at_call 40
      refine HSS.out.mono ?_
      rintro e w5 ⟨rfl, hk5⟩
      have HB5 := Lib.hid (HB4.out.below hk5)
      have HD5 := Lib.hid (HD4.out.below hk5)
      refine hK.out _ _ (HSX.out _ (HB5.out.beside HR.out).row) (fun hHeld => ?_)
      refine wpAnyH_take (i := 17) (v := ?_) rfl (by kernel_rfl) (by kernel_rfl) (by kernel_rfl) (fun _ _ _ h => h) (Or.inl ⟨rfl, ?_⟩) hHeld ?_
      rotate_left
      · intro w0 hS0
        try dsimp only at hS0
        go_simp
        try with_reducible rfl
      simp only [List.getElem_toArray, List.getElem_cons_zero, List.getElem_cons_succ, Act.put, List.setIfInBounds_toArray, List.set_cons_zero, List.set_cons_succ]
      refine wpAnyH_done (by kernel_rfl) ?_ _
      clear hHeld hk5
      have HB6 : Hid (Hb W w5 hb m (j + 1) (doH m (l.take (j + 1)) HubS.new).2 (.pointer (some ⟨lb, 0, none⟩)) (notesOf m (l.take (j + 1))) F1n) := Lib.hid (by
        rw [HD.out, HN.out, ← HON.out]; exact HB5.out)
      have HD6 : Hid (Db W w5 d m (j + 1) (doH m (l.take (j + 1)) HubS.new).2 lg (notesOf m (l.take (j + 1))) F2n) := Lib.hid (by
        rw [HD.out, HN.out, ← HON.out]; exact HD5.out)
      go_wp2_with fail
      go_roundw
      case rel => exact ⟨j + 1, F1n, F2n, by go_num, by omega, HB6.out, HD6.out, HDJ4.out⟩
      case measure => simp [intOf]; omega
    · have hjl : ¬ (j : Int) < l.length := by omega
      obtain rfl : j = l.length := by omega
      rw [List.take_length] at HBJ HDJ
      have hl60 : l.length ≤ 60 := hs.out.1
      have hnl : (notesOf m l).length ≤ 10000 := by unfold notesOf; rw [List.length_map]; have := List.length_filter_le (noted m) l; omega
      have hkl : (doH m l HubS.new).2.kp.length ≤ 60 := by have := HBJ.out.kl; omega
      have hgl : (doH m l HubS.new).2.gs.length ≤ 60 := by
        obtain ⟨_, _, _, -, h, -⟩ := HBJ.out.lensT
        have := h.len; omega
      generalize (doH m l HubS.new).2 = S at *
      generalize notesOf m l = ns at *
      obtain ⟨t, ta, tc, t0, t1, htr⟩ := HDJ.out.rowT
      obtain ⟨g, ga, gc, g0, g1, hgr⟩ := HDJ.out.rowK
      obtain ⟨na, nc, n1, hnr⟩ := HDJ.out.rowN
      have HX : Hid (∀ X, Below wr.heap.size wr X → (X.cell? ⟨lg, 0, none⟩ = some (.slice na ns.length nc) ∧ X.cell? ⟨d, 0, none⟩ = some (.pointer (some ⟨t, 0, none⟩)) ∧ X.cell? ⟨t, 0, none⟩ = some (.slice ta S.gs.length tc) ∧ X.cell? ⟨d, 1, none⟩ = some (.pointer (some ⟨g, 0, none⟩)) ∧ X.cell? ⟨g, 0, none⟩ = some (.slice ga S.kp.length gc)) ∧ Row X na (notesK ns) ∧ Row X ta (hintsV S.gs) ∧ Row X ga (msgs S.kp)) := Lib.hid (fun X hX =>
        ⟨⟨(World.cell?_of_block (w := wr) (hX.block _ (World.block_lt_of_cell? _ _ n1))).trans n1, (World.cell?_of_block (w := wr) (hX.block _ (World.block_lt_of_cell? _ _ t0))).trans t0, (World.cell?_of_block (w := wr) (hX.block _ (World.block_lt_of_cell? _ _ t1))).trans t1, (World.cell?_of_block (w := wr) (hX.block _ (World.block_lt_of_cell? _ _ g0))).trans g0, (World.cell?_of_block (w := wr) (hX.block _ (World.block_lt_of_cell? _ _ g1))).trans g1⟩,
          hnr.below hX (Nat.le_refl _), htr.below hX (Nat.le_refl _), hgr.below hX (Nat.le_refl _)⟩)
      clear t0 t1 g0 g1 n1 htr hgr hnr HSM HR HDJ HDJ2
      go_wp2_with fail
      refine wp_region_held_drew (S := fun X => X.cell? ⟨lg, 0, none⟩ = some (.slice na ns.length nc) ∧ X.cell? ⟨d, 0, none⟩ = some (.pointer (some ⟨t, 0, none⟩)) ∧ X.cell? ⟨t, 0, none⟩ = some (.slice ta S.gs.length tc) ∧ X.cell? ⟨d, 1, none⟩ = some (.pointer (some ⟨g, 0, none⟩)) ∧ X.cell? ⟨g, 0, none⟩ = some (.slice ga S.kp.length gc)) (by kernel_rfl) (HX.out _ (Below.refl _ _)).1 (fun hHeld => ?_)
      have HA := Lib.hid (HBJ.out.below ((Below.refl wr.heap.size wr).drew))
      have HBW := Lib.hid ((Below.refl wr.heap.size wr).drew)
      clear HBJ
      refine wpAnyH_take (i := 0) (v := ?_) rfl (by kernel_rfl) (by kernel_rfl) (by kernel_rfl) (fun _ _ _ h => h) (Or.inl ⟨rfl, ?_⟩) hHeld ?_
      rotate_left
      · intro w0 hS0
        try dsimp only at hS0
        go_simp
        try with_reducible rfl
      simp only [List.getElem_toArray, List.getElem_cons_zero, Act.put, List.setIfInBounds_toArray, List.set_cons_zero, List.set_cons_succ]
      refine wpAnyH_take (i := 2) (v := ?_) rfl (by kernel_rfl) (by kernel_rfl) (by kernel_rfl) (fun _ _ _ h => h) (Or.inl ⟨rfl, ?_⟩) hHeld ?_
      rotate_left
      · intro w0 hS0
        try dsimp only at hS0
        go_simp
        try with_reducible rfl
      simp only [List.getElem_toArray, List.getElem_cons_zero, List.getElem_cons_succ, Act.put, List.setIfInBounds_toArray, List.set_cons_zero, List.set_cons_succ]
      refine wpAnyH_take (i := 3) (v := ?_) rfl (by kernel_rfl) (by kernel_rfl) (by kernel_rfl) (fun _ _ _ h => h) (Or.inl ⟨rfl, ?_⟩) hHeld ?_
      rotate_left
      · intro w0 hS0
        try dsimp only at hS0
        go_simp
        try with_reducible rfl
      simp only [List.getElem_toArray, List.getElem_cons_zero, List.getElem_cons_succ, Act.put, List.setIfInBounds_toArray, List.set_cons_zero, List.set_cons_succ]
      refine wpAnyH_take (i := 4) (v := ?_) rfl (by kernel_rfl) (by kernel_rfl) (by kernel_rfl) (fun _ _ _ h => h) (Or.inl ⟨rfl, ?_⟩) hHeld ?_
      rotate_left
      · intro w0 hS0
        try dsimp only at hS0
        go_simp
        try with_reducible rfl
      simp only [List.getElem_toArray, List.getElem_cons_zero, List.getElem_cons_succ, Act.put, List.setIfInBounds_toArray, List.set_cons_zero, List.set_cons_succ]
      refine wpAnyH_take (i := 5) (v := ?_) rfl (by kernel_rfl) (by kernel_rfl) (by kernel_rfl) (fun _ _ _ h => h) (Or.inl ⟨rfl, ?_⟩) hHeld ?_
      rotate_left
      · intro w0 hS0
        try dsimp only at hS0
        go_simp
        try with_reducible rfl
      simp only [List.getElem_toArray, List.getElem_cons_zero, List.getElem_cons_succ, Act.put, List.setIfInBounds_toArray, List.set_cons_zero, List.set_cons_succ]
      refine wpAnyH_ready (rs := [1]) (by kernel_rfl) (by simp) ?_
      refine AllReadyH.cons rfl (fun K hK => ?_) AllReadyH.nil
      rw [if_pos (by rfl)]
      go_simp
      go_at_call 42
      obtain ⟨Gx, hlx, -⟩ := HA.out.lensL
      refine (log_all lb ns Gx _ hlx hnl).mono ?_
      rintro e w6 ⟨vx, rfl, hox, hk6⟩
      obtain ⟨ax, cx, rfl, hrx, -, -⟩ := ownsRow_row hox
      have RX := Lib.hid hrx
      replace HA := Lib.hid (HA.out.below hk6)
      have HBW6 := Lib.hid (HBW.out.trans hk6)
      refine hK.out _ _ (HX.out _ HBW6.out).1 (fun hHeld => ?_)
      clear hk6 hox hrx hlx HBW
      refine wpAnyH_ready (rs := [6]) (by kernel_rfl) (by simp) ?_
      refine AllReadyH.cons rfl (fun K hK => ?_) AllReadyH.nil
      rw [if_pos (by rfl)]
      go_simp
      go_at_call 41
      refine (sameRow17 ax na cx nc ns w6 RX.out (HX.out _ HBW6.out).2.1 (by omega)).mono ?_
      rintro e w7 ⟨rfl, hk7⟩
      replace HA := Lib.hid (HA.out.below hk7)
      have HBW7 := Lib.hid (bnext HBW6.out (Nat.le_refl _) hk7)
      refine hK.out _ _ (HX.out _ HBW7.out).1 (fun hHeld => ?_)
      clear hk7 RX HBW6
      refine wpAnyH_take (i := 7) (v := ?_) rfl (by kernel_rfl) (by kernel_rfl) (by kernel_rfl) (fun _ _ _ h => h) (Or.inl ⟨rfl, ?_⟩) hHeld ?_
      rotate_left
      · intro w0 hS0
        try dsimp only at hS0
        go_simp
        try with_reducible rfl
      simp only [List.getElem_toArray, List.getElem_cons_zero, List.getElem_cons_succ, Act.put, List.setIfInBounds_toArray, List.set_cons_zero, List.set_cons_succ]
      refine wpAnyH_take (i := 8) (v := ?_) rfl (by kernel_rfl) (by kernel_rfl) (by kernel_rfl) (fun _ _ _ h => h) (Or.inl ⟨rfl, ?_⟩) hHeld ?_
      rotate_left
      · intro w0 hS0
        try dsimp only at hS0
        go_simp
        try with_reducible rfl
      simp only [List.getElem_toArray, List.getElem_cons_zero, List.getElem_cons_succ, Act.put, List.setIfInBounds_toArray, List.set_cons_zero, List.set_cons_succ]
      refine wpAnyH_take (i := 10) (v := ?_) rfl (by kernel_rfl) (by kernel_rfl) (by kernel_rfl) (fun _ _ _ h => h) (Or.inl ⟨rfl, ?_⟩) hHeld ?_
      rotate_left
      · intro w0 hS0
        try dsimp only at hS0
        go_simp
        try with_reducible rfl
      simp only [List.getElem_toArray, List.getElem_cons_zero, List.getElem_cons_succ, Act.put, List.setIfInBounds_toArray, List.set_cons_zero, List.set_cons_succ]
      refine wpAnyH_take (i := 11) (v := ?_) rfl (by kernel_rfl) (by kernel_rfl) (by kernel_rfl) (fun _ _ _ h => h) (Or.inl ⟨rfl, ?_⟩) hHeld ?_
      rotate_left
      · intro w0 hS0
        try dsimp only at hS0
        go_simp
        try with_reducible rfl
      simp only [List.getElem_toArray, List.getElem_cons_zero, List.getElem_cons_succ, Act.put, List.setIfInBounds_toArray, List.set_cons_zero, List.set_cons_succ]
      refine wpAnyH_take (i := 12) (v := ?_) rfl (by kernel_rfl) (by kernel_rfl) (by kernel_rfl) (fun _ _ _ h => h) (Or.inl ⟨rfl, ?_⟩) hHeld ?_
      rotate_left
      · intro w0 hS0
        try dsimp only at hS0
        go_simp
        try with_reducible rfl
      simp only [List.getElem_toArray, List.getElem_cons_zero, List.getElem_cons_succ, Act.put, List.setIfInBounds_toArray, List.set_cons_zero, List.set_cons_succ]
      refine wpAnyH_take (i := 13) (v := ?_) rfl (by kernel_rfl) (by kernel_rfl) (by kernel_rfl) (fun _ _ _ h => h) (Or.inl ⟨rfl, ?_⟩) hHeld ?_
      rotate_left
      · intro w0 hS0
        try dsimp only at hS0
        go_simp
        try with_reducible rfl
      simp only [List.getElem_toArray, List.getElem_cons_zero, List.getElem_cons_succ, Act.put, List.setIfInBounds_toArray, List.set_cons_zero, List.set_cons_succ]
      refine wpAnyH_take (i := 14) (v := ?_) rfl (by kernel_rfl) (by kernel_rfl) (by kernel_rfl) (fun _ _ _ h => h) (Or.inl ⟨rfl, ?_⟩) hHeld ?_
      rotate_left
      · intro w0 hS0
        try dsimp only at hS0
        go_simp
        try with_reducible rfl
      simp only [List.getElem_toArray, List.getElem_cons_zero, List.getElem_cons_succ, Act.put, List.setIfInBounds_toArray, List.set_cons_zero, List.set_cons_succ]
      refine wpAnyH_take (i := 15) (v := ?_) rfl (by kernel_rfl) (by kernel_rfl) (by kernel_rfl) (fun _ _ _ h => h) (Or.inl ⟨rfl, ?_⟩) hHeld ?_
      rotate_left
      · intro w0 hS0
        try dsimp only at hS0
        go_simp
        try with_reducible rfl
      simp only [List.getElem_toArray, List.getElem_cons_zero, List.getElem_cons_succ, Act.put, List.setIfInBounds_toArray, List.set_cons_zero, List.set_cons_succ]
      refine wpAnyH_take (i := 16) (v := ?_) rfl (by kernel_rfl) (by kernel_rfl) (by kernel_rfl) (fun _ _ _ h => h) (Or.inl ⟨rfl, ?_⟩) hHeld ?_
      rotate_left
      · intro w0 hS0
        try dsimp only at hS0
        go_simp
        try with_reducible rfl
      simp only [List.getElem_toArray, List.getElem_cons_zero, List.getElem_cons_succ, Act.put, List.setIfInBounds_toArray, List.set_cons_zero, List.set_cons_succ]
      refine wpAnyH_ready (rs := [9]) (by kernel_rfl) (by simp) ?_
      refine AllReadyH.cons rfl (fun K hK => ?_) AllReadyH.nil
      rw [if_pos (by rfl)]
      go_simp
      go_at_call 13
      refine (hints_any W hb m l.length S _ ns F1 w7 HA.out (by omega)).mono ?_
      rintro e w8 ⟨vx, rfl, hox, hk8⟩
      obtain ⟨ax, cx, rfl, hrx, -, -⟩ := ownsRow_row hox
      have RX := Lib.hid hrx
      replace HA := Lib.hid (HA.out.below hk8)
      have HBW8 := Lib.hid (bnext HBW7.out (Nat.le_refl _) hk8)
      refine hK.out _ _ (HX.out _ HBW8.out).1 (fun hHeld => ?_)
      clear hk8 hox hrx HBW7
      refine wpAnyH_ready (rs := [17]) (by kernel_rfl) (by simp) ?_
      refine AllReadyH.cons rfl (fun K hK => ?_) AllReadyH.nil
      rw [if_pos (by rfl)]
      go_simp
      go_at_call 20
      refine (sameH_any true ax ta cx tc S.gs S.gs w8 RX.out (HX.out _ HBW8.out).2.2.1 (by omega) (by simp)).mono ?_
      rintro e w9 ⟨rfl, nd, rfl⟩
      replace HA := Lib.hid (HA.out.below (drewN_below _ nd))
      have HBW9 := Lib.hid (bnext HBW8.out (Nat.le_refl _) (drewN_below _ nd))
      refine hK.out _ _ (HX.out _ HBW9.out).1 (fun hHeld => ?_)
      clear RX HBW8
      generalize w8.drewN nd = w9 at *
      refine wpAnyH_take (i := 18) (v := ?_) rfl (by kernel_rfl) (by kernel_rfl) (by kernel_rfl) (fun _ _ _ h => h) (Or.inl ⟨rfl, ?_⟩) hHeld ?_
      rotate_left
      · intro w0 hS0
        try dsimp only at hS0
        go_simp
        try with_reducible rfl
      simp only [List.getElem_toArray, List.getElem_cons_zero, List.getElem_cons_succ, Act.put, List.setIfInBounds_toArray, List.set_cons_zero, List.set_cons_succ]
      refine wpAnyH_take (i := 19) (v := ?_) rfl (by kernel_rfl) (by kernel_rfl) (by kernel_rfl) (fun _ _ _ h => h) (Or.inl ⟨rfl, ?_⟩) hHeld ?_
      rotate_left
      · intro w0 hS0
        try dsimp only at hS0
        go_simp
        try with_reducible rfl
      simp only [List.getElem_toArray, List.getElem_cons_zero, List.getElem_cons_succ, Act.put, List.setIfInBounds_toArray, List.set_cons_zero, List.set_cons_succ]
      refine wpAnyH_take (i := 20) (v := ?_) rfl (by kernel_rfl) (by kernel_rfl) (by kernel_rfl) (fun _ _ _ h => h) (Or.inl ⟨rfl, ?_⟩) hHeld ?_
      rotate_left
      · intro w0 hS0
        try dsimp only at hS0
        go_simp
        try with_reducible rfl
      simp only [List.getElem_toArray, List.getElem_cons_zero, List.getElem_cons_succ, Act.put, List.setIfInBounds_toArray, List.set_cons_zero, List.set_cons_succ]
      refine wpAnyH_take (i := 22) (v := ?_) rfl (by kernel_rfl) (by kernel_rfl) (by kernel_rfl) (fun _ _ _ h => h) (Or.inl ⟨rfl, ?_⟩) hHeld ?_
      rotate_left
      · intro w0 hS0
        try dsimp only at hS0
        go_simp
        try with_reducible rfl
      simp only [List.getElem_toArray, List.getElem_cons_zero, List.getElem_cons_succ, Act.put, List.setIfInBounds_toArray, List.set_cons_zero, List.set_cons_succ]
      refine wpAnyH_take (i := 23) (v := ?_) rfl (by kernel_rfl) (by kernel_rfl) (by kernel_rfl) (fun _ _ _ h => h) (Or.inl ⟨rfl, ?_⟩) hHeld ?_
      rotate_left
      · intro w0 hS0
        try dsimp only at hS0
        go_simp
        try with_reducible rfl
      simp only [List.getElem_toArray, List.getElem_cons_zero, List.getElem_cons_succ, Act.put, List.setIfInBounds_toArray, List.set_cons_zero, List.set_cons_succ]
      refine wpAnyH_take (i := 24) (v := ?_) rfl (by kernel_rfl) (by kernel_rfl) (by kernel_rfl) (fun _ _ _ h => h) (Or.inl ⟨rfl, ?_⟩) hHeld ?_
      rotate_left
      · intro w0 hS0
        try dsimp only at hS0
        go_simp
        try with_reducible rfl
      simp only [List.getElem_toArray, List.getElem_cons_zero, List.getElem_cons_succ, Act.put, List.setIfInBounds_toArray, List.set_cons_zero, List.set_cons_succ]
      refine wpAnyH_take (i := 25) (v := ?_) rfl (by kernel_rfl) (by kernel_rfl) (by kernel_rfl) (fun _ _ _ h => h) (Or.inl ⟨rfl, ?_⟩) hHeld ?_
      rotate_left
      · intro w0 hS0
        try dsimp only at hS0
        go_simp
        try with_reducible rfl
      simp only [List.getElem_toArray, List.getElem_cons_zero, List.getElem_cons_succ, Act.put, List.setIfInBounds_toArray, List.set_cons_zero, List.set_cons_succ]
      refine wpAnyH_take (i := 26) (v := ?_) rfl (by kernel_rfl) (by kernel_rfl) (by kernel_rfl) (fun _ _ _ h => h) (Or.inl ⟨rfl, ?_⟩) hHeld ?_
      rotate_left
      · intro w0 hS0
        try dsimp only at hS0
        go_simp
        try with_reducible rfl
      simp only [List.getElem_toArray, List.getElem_cons_zero, List.getElem_cons_succ, Act.put, List.setIfInBounds_toArray, List.set_cons_zero, List.set_cons_succ]
      refine wpAnyH_take (i := 27) (v := ?_) rfl (by kernel_rfl) (by kernel_rfl) (by kernel_rfl) (fun _ _ _ h => h) (Or.inl ⟨rfl, ?_⟩) hHeld ?_
      rotate_left
      · intro w0 hS0
        try dsimp only at hS0
        go_simp
        try with_reducible rfl
      simp only [List.getElem_toArray, List.getElem_cons_zero, List.getElem_cons_succ, Act.put, List.setIfInBounds_toArray, List.set_cons_zero, List.set_cons_succ]
      refine wpAnyH_take (i := 28) (v := ?_) rfl (by kernel_rfl) (by kernel_rfl) (by kernel_rfl) (fun _ _ _ h => h) (Or.inl ⟨rfl, ?_⟩) hHeld ?_
      rotate_left
      · intro w0 hS0
        try dsimp only at hS0
        go_simp
        try with_reducible rfl
      simp only [List.getElem_toArray, List.getElem_cons_zero, List.getElem_cons_succ, Act.put, List.setIfInBounds_toArray, List.set_cons_zero, List.set_cons_succ]
      refine wpAnyH_ready (rs := [21]) (by kernel_rfl) (by simp) ?_
      refine AllReadyH.cons rfl (fun K hK => ?_) AllReadyH.nil
      rw [if_pos (by rfl)]
      go_simp
      go_at_call 19
      refine (kept_any W hb m l.length S _ ns F1 w9 HA.out (by omega)).mono ?_
      rintro e w10 ⟨vx, rfl, hox, hk10⟩
      obtain ⟨ax, cx, rfl, hrx, -, -⟩ := ownsRow_row hox
      have RX := Lib.hid hrx
      replace HA := Lib.hid (HA.out.below hk10)
      have HBW10 := Lib.hid (bnext HBW9.out (Nat.le_refl _) hk10)
      refine hK.out _ _ (HX.out _ HBW10.out).1 (fun hHeld => ?_)
      clear hk10 hox hrx HBW9
      refine wpAnyH_ready (rs := [29]) (by kernel_rfl) (by simp) ?_
      refine AllReadyH.cons rfl (fun K hK => ?_) AllReadyH.nil
      rw [if_pos (by rfl)]
      go_simp
      go_at_call 30
      refine (same_any true ax ga cx gc S.kp S.kp w10 RX.out (HX.out _ HBW10.out).2.2.2 (by omega) (by omega) (by simp)).mono ?_
      rintro e w11 ⟨rfl, nd, rfl⟩
      replace HA := Lib.hid (HA.out.below (drewN_below _ nd))
      have HBW11 := Lib.hid (bnext HBW10.out (Nat.le_refl _) (drewN_below _ nd))
      refine hK.out _ _ (HX.out _ HBW11.out).1 (fun hHeld => ?_)
      clear RX HBW10
      generalize w10.drewN nd = w11 at *
      refine wpAnyH_take (i := 30) (v := ?_) rfl (by kernel_rfl) (by kernel_rfl) (by kernel_rfl) (fun _ _ _ h => h) (Or.inl ⟨rfl, ?_⟩) hHeld ?_
      rotate_left
      · intro w0 hS0
        try dsimp only at hS0
        go_simp
        try with_reducible rfl
      simp only [List.getElem_toArray, List.getElem_cons_zero, List.getElem_cons_succ, Act.put, List.setIfInBounds_toArray, List.set_cons_zero, List.set_cons_succ]
      refine wpAnyH_take (i := 31) (v := ?_) rfl (by kernel_rfl) (by kernel_rfl) (by kernel_rfl) (fun _ _ _ h => h) (Or.inl ⟨rfl, ?_⟩) hHeld ?_
      rotate_left
      · intro w0 hS0
        try dsimp only at hS0
        go_simp
        try with_reducible rfl
      simp only [List.getElem_toArray, List.getElem_cons_zero, List.getElem_cons_succ, Act.put, List.setIfInBounds_toArray, List.set_cons_zero, List.set_cons_succ]
      refine wpAnyH_ready (rs := [32]) (by kernel_rfl) (by simp) ?_
      refine AllReadyH.cons rfl (fun K hK => ?_) AllReadyH.nil
      rw [if_pos (by rfl)]
      go_simp
      go_at_call 11
      refine (HAW.out _ HA.out.bel).mono ?_
      rintro e w12 ⟨rfl, hk⟩
      have HK := Lib.hid (bnext HA.out.bel (Nat.le_refl _) hk)
      have HBW12 := Lib.hid (bnext HBW11.out (Nat.le_refl _) hk)
      refine hK.out _ _ (HX.out _ HBW12.out).1 (fun hHeld => ?_)
      clear hk
      refine wpAnyH_take (i := 33) (v := ?_) rfl (by kernel_rfl) (by kernel_rfl) (by kernel_rfl) (fun _ _ _ h => h) (Or.inl ⟨rfl, ?_⟩) hHeld ?_
      rotate_left
      · intro w0 hS0
        try dsimp only at hS0
        go_simp
        try with_reducible rfl
      simp only [List.getElem_toArray, List.getElem_cons_zero, List.getElem_cons_succ, Act.put, List.setIfInBounds_toArray, List.set_cons_zero, List.set_cons_succ]
      refine wpAnyH_take (i := 34) (v := ?_) rfl (by kernel_rfl) (by kernel_rfl) (by kernel_rfl) (fun _ _ _ h => h) (Or.inl ⟨rfl, ?_⟩) hHeld ?_
      rotate_left
      · intro w0 hS0
        try dsimp only at hS0
        go_simp
        try with_reducible rfl
      simp only [List.getElem_toArray, List.getElem_cons_zero, List.getElem_cons_succ, Act.put, List.setIfInBounds_toArray, List.set_cons_zero, List.set_cons_succ]
      refine wpAnyH_done (by kernel_rfl) ?_ _
      go_wp2_with fail
      go_ret
      exact ⟨rfl, HK.out⟩
end Go.Proofs.YthfdcphecggjeaaGreatDoor
