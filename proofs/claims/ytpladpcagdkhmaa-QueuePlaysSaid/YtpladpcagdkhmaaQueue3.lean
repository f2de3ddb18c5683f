import Derived.Test.YtpladpcagdkhmaaQueue2
namespace Go.Proofs.Ytpladpcagdkhmaa
open Go Go.RowKit

/-- What Pop knows of its memory: the queue's block, the row's, the result's, the message's. -/
structure PopF (g b r s : Nat) (v a : Value) (cap : Nat) (most : Int) (m : Msg) (k : Nat) (L : List Msg) (W : World) : Prop where
  hg : W.heap[g]? = some (.cells #[v, a, .int .i64 most] 35 (0, 0))
  hb : ∃ cur, W.heap[b]? = some (.cells cur 28 (0, 0)) ∧ cur.size = cap * 4 ∧ cur.toList.take k = msgs L
  hr : W.heap[r]? = some (.cells #[.string ⟨#[]⟩, .string ⟨#[]⟩, .int .u8 0, .bool false] 28 (0, 0))
  hs : W.heap[s]? = some (.cells m.cells.toArray 28 (0, 0))
theorem PopF.row {g b r s : Nat} {v a : Value} {cap : Nat} {most : Int} {m : Msg} {k : Nat} {L L' : List Msg} {W W' : World} {cur' : Array Value} {k' : Nat} (h : PopF g b r s v a cap most m k L W) (hM : Mod [b] W W') (h1 : g ≠ b) (h2 : r ≠ b) (h3 : s ≠ b)
    (hb : W'.heap[b]? = some (.cells cur' 28 (0, 0))) (hc : cur'.size = cap * 4) (ht : cur'.toList.take k' = msgs L') : PopF g b r s v a cap most m k' L' W' :=
  ⟨by rw [hM.block g (Array.getElem?_eq_some_iff.1 h.hg).1 (by simpa using h1)]; exact h.hg, ⟨cur', hb, hc, ht⟩,
    by rw [hM.block r (Array.getElem?_eq_some_iff.1 h.hr).1 (by simpa using h2)]; exact h.hr, by rw [hM.block s (Array.getElem?_eq_some_iff.1 h.hs).1 (by simpa using h3)]; exact h.hs⟩
theorem PopF.head {g b r s : Nat} {v a v' a' : Value} {cap : Nat} {most : Int} {m : Msg} {k : Nat} {L : List Msg} {W W' : World} (h : PopF g b r s v a cap most m k L W) (hM : Mod [g] W W') (h1 : b ≠ g) (h2 : r ≠ g) (h3 : s ≠ g)
    (hg : W'.heap[g]? = some (.cells #[v', a', .int .i64 most] 35 (0, 0))) : PopF g b r s v' a' cap most m k L W' := by
  obtain ⟨cur, c1, c2, c3⟩ := h.hb
  exact ⟨hg, ⟨cur, by rw [hM.block b (Array.getElem?_eq_some_iff.1 c1).1 (by simpa using h1)]; exact c1, c2, c3⟩,
    by rw [hM.block r (Array.getElem?_eq_some_iff.1 h.hr).1 (by simpa using h2)]; exact h.hr, by rw [hM.block s (Array.getElem?_eq_some_iff.1 h.hs).1 (by simpa using h3)]; exact h.hs⟩
theorem PopF.drew {g b r s : Nat} {v a : Value} {cap : Nat} {most : Int} {m : Msg} {k : Nat} {L : List Msg} {W : World} (h : PopF g b r s v a cap most m k L W) : PopF g b r s v a cap most m k L W.drew := ⟨h.hg, h.hb, h.hr, h.hs⟩
theorem PopF.drewN {g b r s : Nat} {v a : Value} {cap : Nat} {most : Int} {m : Msg} {k : Nat} {L : List Msg} {W : World} (h : PopF g b r s v a cap most m k L W) (n : Nat) : PopF g b r s v a cap most m k L (W.drewN n) := ⟨h.hg, h.hb, h.hr, h.hs⟩
theorem PopF.row4 {g b r s : Nat} {v a : Value} {cap : Nat} {most : Int} {m x : Msg} {k : Nat} {L : List Msg} {W : World} (h : PopF g b r s v a cap most m k L W) {j : Nat} (hj : L[j]? = some x) :
    W.cell? ⟨b, j * 4, none⟩ = some (.string x.t) ∧ W.cell? ⟨b, j * 4 + 1, none⟩ = some (.string x.p) ∧ W.cell? ⟨b, j * 4 + 2, none⟩ = some (.int .u8 x.q) ∧ W.cell? ⟨b, j * 4 + 3, none⟩ = some (.bool x.r) ∧
    W.frozen? ⟨b, j * 4, none⟩ = false ∧ W.frozen? ⟨b, j * 4 + 1, none⟩ = false ∧ W.frozen? ⟨b, j * 4 + 2, none⟩ = false ∧ W.frozen? ⟨b, j * 4 + 3, none⟩ = false := by
  obtain ⟨cur, c1, c2, c3⟩ := h.hb
  obtain ⟨m0, m1, m2, m3⟩ := msgs_at L j x hj
  have e : ∀ i u, (msgs L)[i]? = some u → W.cell? ⟨b, i, none⟩ = some u := fun i u hi => by
    rw [cell_of_row W b i _ _ _ c1, ← Array.getElem?_toList]
    rw [← c3, List.getElem?_take] at hi
    split at hi
    · exact hi
    · cases hi
  exact ⟨e _ _ m0, e _ _ m1, e _ _ m2, e _ _ m3, frozen_of_row W b _ _ _ c1, frozen_of_row W b _ _ _ c1, frozen_of_row W b _ _ _ c1, frozen_of_row W b _ _ _ c1⟩

theorem tail_cells {W : World} {b : Nat} {cur : Array Value} {T : TypeId} {fr : Nat × Nat} {n : Nat} {A l : List Msg} {x : Msg} (h : W.heap[b]? = some (.cells cur T fr)) (ht : cur.toList.take n = msgs (A ++ x :: l)) :
    ∀ j v, (msgs l)[j]? = some v → W.cell? ((⟨b, (A.length + 1) * 4, none⟩ : Addr).add j) = some v := by
  intro j v hv
  have e1 : (⟨b, (A.length + 1) * 4, none⟩ : Addr).add j = ⟨b, (A.length + 1) * 4 + j, none⟩ := by unfold Addr.add; split <;> simp_all
  have e2 : msgs (A ++ x :: l) = msgs (A ++ [x]) ++ msgs l := by simp [msgs]
  have e3 : (msgs (A ++ [x])).length = (A.length + 1) * 4 := by rw [msgs_length]; simp
  have h1 : (cur.toList.take n)[(A.length + 1) * 4 + j]? = some v := by
    rw [ht, e2, List.getElem?_append_right (by omega), e3, Nat.add_sub_cancel_left]; exact hv
  rw [e1, cell_of_row W b _ _ _ _ h, ← Array.getElem?_toList]
  rw [List.getElem?_take] at h1
  split at h1
  · exact h1
  · cases h1
theorem pop_fin {g b r s n cap : Nat} {most : Int} {m : Msg} {junk l : List Msg} {W : World} (hP : PopF g b r s (.slice (some ⟨b, 0, none⟩) n cap) (.int .i64 (junk.length : Int)) cap most m (n * 4) (junk ++ l) W)
    (hn : n = junk.length + l.length) (hncap : n ≤ cap) (hcm : cap ≤ maxLen) (h1 : junk.length ≤ l.length) (h2 : (l.length : Int) ≤ most) (h3 : 0 ≤ most) (h4 : most ≤ 1024) (hgb : g ≠ b) : QRep W g l most [g, b] := by
  subst hn
  obtain ⟨cur, c1, c2, c3⟩ := hP.hb
  exact ⟨_, junk, hP.hg, ⟨by rw [msgs_length, List.length_append], .inr ⟨b, cap, cur, rfl, Nat.zero_le _, c1, hncap, hcm, c2, c3⟩⟩, h1, h2, h3, h4, by simp [Value.ownBlock]; exact Ne.symm hgb, rfl⟩

set_option maxRecDepth 100000 in
set_option maxHeartbeats 4000000 in
theorem qpop_some (g : Nat) (m : Msg) (l : List Msg) (most : Int) (F : List Nat) (w : World) (h : QRep w g (m :: l) most F) :
    Calls Try.prog 14 #[.pointer (some ⟨g, 0, none⟩)] w fun e w' => e = .returned (.tuple #[m.val, .bool true]) ∧ ∃ F', QRep w' g l most F' ∧ Upd F F' w w' := by
  have H := Lib.hid (h.mod ((Mod.refl [] w).alloc (.cells #[.string ⟨#[]⟩, .string ⟨#[]⟩, .int .u8 0, .bool false] 28)) (by simp))
  go_enter Try.func14, Try.ntmps14
  go_wp2_with fail
  refine (qpeek_some g m l most F _ H.out).mono ?_
  rintro e W1 ⟨rfl, hk⟩
  have hr : W1.heap[w.heap.size]? = some (.cells #[.string ⟨#[]⟩, .string ⟨#[]⟩, .int .u8 0, .bool false] 28 (0, 0)) := by
    rw [hk.block w.heap.size (by simp)]; exact heap_alloc_new w _
  have hb := bnext ((Below.refl w.heap.size w).alloc (Nat.le_refl _) (.cells #[.string ⟨#[]⟩, .string ⟨#[]⟩, .int .u8 0, .bool false] 28)) (Nat.le_refl _) hk
  have hlt : w.heap.size < W1.heap.size := (Array.getElem?_eq_some_iff.1 hr).1
  obtain ⟨v, junk, hg, hown, h1, h2, h3, h4, h5, rfl⟩ := h
  have hgl : g < w.heap.size := (Array.getElem?_eq_some_iff.1 hg).1
  rcases hown.2 with ⟨-, hn0⟩ | ⟨b, cap, cur, rfl, -, hbb, hnc, hcm, hcs, htk⟩
  · simp at hn0
  have hbl : b < w.heap.size := (Array.getElem?_eq_some_iff.1 hbb).1
  have hgb : g ≠ b := fun e => h5 (by rw [e]; rfl)
  have HP := Lib.hid (show PopF g b w.heap.size W1.heap.size (.slice (some ⟨b, 0, none⟩) (junk.length + (l.length + 1)) cap) (.int .i64 (junk.length : Int)) cap most m ((junk.length + (l.length + 1)) * 4) (junk ++ m :: l) (W1.alloc (.cells m.cells.toArray 28)) from
    ⟨(Below.heap_alloc W1 _ g (by omega)).trans ((hb.block g hgl).trans hg), ⟨cur, (Below.heap_alloc W1 _ b (by omega)).trans ((hb.block b hbl).trans hbb), hcs, htk⟩, (Below.heap_alloc W1 _ _ hlt).trans hr, heap_alloc_new W1 _⟩)
  have HM := Lib.hid (((Mod.of_below hb [g, b])).alloc (.cells m.cells.toArray 28))
  simp only [List.length_cons] at h1 h2 hnc
  clear hk hb hr hg hown h5 hbb hcs htk H
  obtain ⟨mt, mp, mq, mr⟩ := m
  unfold Msg.val
  go_wp2_with fail
  refine (?_ : ∀ W : World, PopF g b w.heap.size W1.heap.size (.slice (some ⟨b, 0, none⟩) (junk.length + (l.length + 1)) cap) (.int .i64 (junk.length : Int)) cap most ⟨mt, mp, mq, mr⟩ ((junk.length + (l.length + 1)) * 4) (junk ++ ⟨mt, mp, mq, mr⟩ :: l) W → Mod [g, b] w W → Code.wp _ _ _ _ W) _ HP.out HM.out
  clear HP HM
  intro W2 hP hM
  obtain ⟨c0, c1, -⟩ := cells3 hP.hg
  obtain ⟨k0, k1, k2, k3, f0, f1, f2, f3⟩ := hP.row4 (j := junk.length) (x := ⟨mt, mp, mq, mr⟩) (by simp)
  have HP := Lib.hid hP
  have hj0 : (0 : Int) ≤ junk.length := by omega
  have hj1 : (junk.length : Int) < (junk.length : Int) + ((l.length : Int) + 1) := by omega
  clear hP
  go_region_with ((fail))
  all_goals
    have T4 := set4at (x := .string ⟨#[]⟩) (y := .string ⟨#[]⟩) (z := .int .u8 0) (u := .bool false) (junk.length * 4) (HP.out.hb.choose_spec.1)
    obtain ⟨s1, s2⟩ := T4
    obtain ⟨c1', c2', c3'⟩ := HP.out.hb.choose_spec
    have hP3 := HP.out.row s2 hgb (by omega) (by omega) s1 (by simpa using c2') (by
      have e := msgs_set junk ⟨mt, mp, mq, mr⟩ Msg.none l _ _ c3'
      simp only [Array.toList_setIfInBounds]
      exact e)
    have hM3 := hM.trans s2 (by simp)
    clear c1' c2' c3' s1 s2 c0 c1 k0 k1 k2 k3 f0 f1 f2 f3
    refine (?_ : ∀ W : World, PopF g b w.heap.size W1.heap.size (.slice (some ⟨b, 0, none⟩) (junk.length + (l.length + 1)) cap) (.int .i64 (junk.length : Int)) cap most ⟨mt, mp, mq, mr⟩ ((junk.length + (l.length + 1)) * 4) (junk ++ Msg.none :: l) W → Mod [g, b] w W → Exit.then _ _ Exit.normal _ W) _ hP3.drew hM3.drew
    clear hP3 hM3 HP hM W2
    intro W3 hP hM
    obtain ⟨c0, c1, c2⟩ := cells3 hP.hg
    obtain ⟨f0, f1, -, -⟩ := free4 hP.hg
    have HP := Lib.hid hP
    clear hP
    go_wp2_with fail
    have hP4 := HP.out.head (v' := .slice (some ⟨b, 0, none⟩) (junk.length + (l.length + 1)) cap) (a' := .int .i64 ((junk.length : Int) + 1)) ((Mod.refl [g] W3).setCell (p := ⟨g, 1, none⟩) (.inl (by simp)) (.int .i64 ((junk.length : Int) + 1))) (Ne.symm hgb) (by omega) (by omega) (heap_setCell_same W3 g 1 _ _ (.int .i64 ((junk.length : Int) + 1)) HP.out.hg)
    have hM4 := hM.setCell (p := ⟨g, 1, none⟩) (.inl (by simp)) (.int .i64 ((junk.length : Int) + 1))
    refine (?_ : ∀ W : World, PopF g b w.heap.size W1.heap.size (.slice (some ⟨b, 0, none⟩) (junk.length + (l.length + 1)) cap) (.int .i64 ((junk.length : Int) + 1)) cap most ⟨mt, mp, mq, mr⟩ ((junk.length + (l.length + 1)) * 4) (junk ++ Msg.none :: l) W → Mod [g, b] w W → Code.wp _ _ _ _ W) _ hP4 hM4
    clear hP4 hM4 HP hM c0 c1 c2 f0 f1 W3
    intro W4 hP hM
    obtain ⟨c0, c1, c2⟩ := cells3 hP.hg
    obtain ⟨r0, r1, r2, r3⟩ := cells4 hP.hr
    obtain ⟨s0, s1, s2, s3⟩ := cells4 (a := .string mt) (b := .string mp) (c := .int .u8 mq) (d := .bool mr) hP.hs
    obtain ⟨f0, f1, f2, f3⟩ := free4 hP.hr
    have HP := Lib.hid hP
    clear hP
    by_cases hc : (l.length : Int) ≤ (junk.length : Int) + 1
    · go_quiet (fail)
      rename_i nq
      have HP := Lib.hid (HP.out.drewN nq)
      have hM := hM.drewN nq
      have hncap : (junk.length : Int) + ((l.length : Int) + 1) ≤ cap := by omega
      have hj2 : (junk.length : Int) + 1 ≤ (junk.length : Int) + ((l.length : Int) + 1) := by omega
      have hj3 : (0 : Int) ≤ (junk.length : Int) + 1 := by omega
      by_cases hcap : cap = junk.length + 1
      · subst hcap
        have hl0 : l.length = 0 := by omega
        have HL0 := Lib.hid hl0
        have hl0' : l.length ≤ 0 := by omega
        clear hl0
        go_wp2_with fail
        obtain ⟨cur, b1, b2, b3⟩ := HP.out.hb
        have g2 : (msgs l).length = l.length * 4 := msgs_length l
        go_region_law ((
          refine step_copy T_msg (cs := msgs l) rfl rfl rfl rfl b1 ?_ ?_ ?_ ?_ (msgs_one l) ?_
          · rw [g2]; omega
          · omega
          · exact fun j v hj => by rw [List.eq_nil_of_length_eq_zero HL0.out] at hj; simp [msgs] at hj
          · omega
          intro W6 cur6 d1 d2 d3 d4))
        all_goals
          have hP6 := HP.out.drew.row d4 hgb (by omega) (by omega) d1 (d2.trans b2) (d3.trans rfl)
          have hM6 := hM.drew.trans d4 (by simp)
          obtain ⟨c0, c1, c2⟩ := cells3 hP6.hg
          have HP := Lib.hid hP6
          clear hP6
          have hcl : ¬ junk.length + 1 = l.length := by omega
          have hnl : (l.length : Int) ≤ (junk.length : Int) + ((l.length : Int) + 1) := by omega
          obtain ⟨cur2, e1, e2, e3⟩ := HP.out.hb
          have g3 : 0 + (junk.length + (l.length + 1)) * 4 ≤ cur2.size := by omega
          have E2 := Lib.hid e2
          have E3 := Lib.hid e3
          clear e2 e3
          go_wp2_with (refine wpList_clear T_msg (off := 0) (by decide) rfl rfl rfl (fun _ => rfl) e1 g3 ?_)
          intro W7 cur7 m1 m2 m4
          have hP7 := HP.out.row (k' := 0) (L' := []) m4 hgb (by omega) (by omega) m1 (m2.trans E2.out) (by simp [msgs])
          have hM7 := hM6.trans m4 (by simp)
          clear HP hM6 c0 c1 c2 e1 E2 E3 g3 m1 m2 m4 d1 d2 d3 d4
          obtain ⟨c0, c1, c2⟩ := cells3 hP7.hg
          obtain ⟨f0, f1, -, -⟩ := free4 hP7.hg
          obtain ⟨r0, r1, r2, r3⟩ := cells4 hP7.hr
          obtain ⟨s0, s1, s2, s3⟩ := cells4 (a := .string mt) (b := .string mp) (c := .int .u8 mq) (d := .bool mr) hP7.hs
          obtain ⟨j0, j1, j2, j3⟩ := free4 hP7.hr
          have HP := Lib.hid hP7
          clear hP7
          have hgr : ¬ g = w.heap.size := by omega
          have hgs : ¬ g = W1.heap.size := by omega
          go_wp2_with fail
          have hP8 := HP.out.head (v' := .slice (some ⟨b, 0, none⟩) 0 (junk.length + 1)) (a' := .int .i64 ((junk.length : Int) + 1)) ((Mod.refl [g] W7).setCell (p := ⟨g, 0, none⟩) (.inl (by simp)) _) (Ne.symm hgb) (by omega) (by omega) (heap_setCell_same W7 g 0 _ _ _ HP.out.hg)
          have hP9 := hP8.head (v' := .slice (some ⟨b, 0, none⟩) 0 (junk.length + 1)) (a' := .int .i64 0) ((Mod.refl [g] _).setCell (p := ⟨g, 1, none⟩) (.inl (by simp)) _) (Ne.symm hgb) (by omega) (by omega) (heap_setCell_same _ g 1 _ _ _ hP8.hg)
          have hM9 := (hM7.setCell (p := ⟨g, 0, none⟩) (.inl (by simp)) (.slice (some ⟨b, 0, none⟩) 0 (junk.length + 1))).setCell (p := ⟨g, 1, none⟩) (.inl (by simp)) (.int .i64 0)
          obtain ⟨t1, t2⟩ := set4 (x := .string mt) (y := .string mp) (z := .int .u8 mq) (u := .bool mr) hP9.hr
          refine bodyPost_ret (results_row_tmp (cs := #[.string mt, .string mp, .int .u8 mq, .bool mr]) rfl rfl (by exact t1) Try.underlying28 rfl msg_size) rfl ⟨rfl, [g, b], ?_, (hM9.trans t2 (by simp)), fun k hk => .inl (by simpa [Value.ownBlock] using hk)⟩
          obtain rfl := List.eq_nil_of_length_eq_zero HL0.out
          exact (pop_fin (junk := []) (l := []) (by simpa using hP9) (by simp) (by omega) hcm (by simp) (by omega) h3 h4 hgb).mod t2 (by simp; omega)
      · go_wp2_with fail
        obtain ⟨cur, b1, b2, b3⟩ := HP.out.hb
        have g1 := tail_cells b1 b3
        have g2 : (msgs l).length = l.length * 4 := msgs_length l
        go_region_law ((
          refine step_copy T_msg (cs := msgs l) rfl rfl rfl rfl b1 ?_ ?_ ?_ ?_ (msgs_one l) ?_
          · rw [g2]; omega
          · omega
          · exact g1
          · omega
          intro W6 cur6 d1 d2 d3 d4))
        all_goals
          have hP6 := HP.out.drew.row d4 hgb (by omega) (by omega) d1 (d2.trans b2) (d3.trans rfl)
          have hM6 := hM.drew.trans d4 (by simp)
          obtain ⟨c0, c1, c2⟩ := cells3 hP6.hg
          have HP := Lib.hid hP6
          clear hP6
          have hcl : ¬ cap = l.length := by omega
          have hnl : (l.length : Int) ≤ (junk.length : Int) + ((l.length : Int) + 1) := by omega
          simp only [show junk.length + (l.length + 1) - (junk.length + 1) = l.length by omega]
          obtain ⟨cur2, e1, e2, e3⟩ := HP.out.hb
          have g3 : l.length * 4 + (junk.length + (l.length + 1) - l.length) * 4 ≤ cur2.size := by omega
          have E2 := Lib.hid e2
          have E3 := Lib.hid e3
          clear e2 e3
          go_wp2_with (refine wpList_clear T_msg (off := l.length * 4) (by decide) rfl rfl rfl (fun _ => rfl) e1 g3 ?_)
          intro W7 cur7 m1 m2 m3 m4
          have hP7 := HP.out.row m4 hgb (by omega) (by omega) m1 (m2.trans E2.out) (m3.trans (by rw [← g2]; exact E3.out))
          have hM7 := hM6.trans m4 (by simp)
          clear HP hM6 c0 c1 c2 e1 E2 E3 g3 m1 m2 m3 m4 d1 d2 d3 d4
          obtain ⟨c0, c1, c2⟩ := cells3 hP7.hg
          obtain ⟨f0, f1, -, -⟩ := free4 hP7.hg
          obtain ⟨r0, r1, r2, r3⟩ := cells4 hP7.hr
          obtain ⟨s0, s1, s2, s3⟩ := cells4 (a := .string mt) (b := .string mp) (c := .int .u8 mq) (d := .bool mr) hP7.hs
          obtain ⟨j0, j1, j2, j3⟩ := free4 hP7.hr
          have HP := Lib.hid hP7
          clear hP7
          have hc0 : ¬ cap = 0 := by omega
          have hgr : ¬ g = w.heap.size := by omega
          have hgs : ¬ g = W1.heap.size := by omega
          go_wp2_with fail
          have hP8 := HP.out.head (v' := .slice (some ⟨b, 0, none⟩) l.length cap) (a' := .int .i64 ((junk.length : Int) + 1)) ((Mod.refl [g] W7).setCell (p := ⟨g, 0, none⟩) (.inl (by simp)) _) (Ne.symm hgb) (by omega) (by omega) (heap_setCell_same W7 g 0 _ _ _ HP.out.hg)
          have hP9 := hP8.head (v' := .slice (some ⟨b, 0, none⟩) l.length cap) (a' := .int .i64 0) ((Mod.refl [g] _).setCell (p := ⟨g, 1, none⟩) (.inl (by simp)) _) (Ne.symm hgb) (by omega) (by omega) (heap_setCell_same _ g 1 _ _ _ hP8.hg)
          have hM9 := (hM7.setCell (p := ⟨g, 0, none⟩) (.inl (by simp)) (.slice (some ⟨b, 0, none⟩) l.length cap)).setCell (p := ⟨g, 1, none⟩) (.inl (by simp)) (.int .i64 0)
          obtain ⟨t1, t2⟩ := set4 (x := .string mt) (y := .string mp) (z := .int .u8 mq) (u := .bool mr) hP9.hr
          refine bodyPost_ret (results_row_tmp (cs := #[.string mt, .string mp, .int .u8 mq, .bool mr]) rfl rfl (by exact t1) Try.underlying28 rfl msg_size) rfl ⟨rfl, [g, b], ?_, (hM9.trans t2 (by simp)), fun k hk => .inl (by simpa [Value.ownBlock] using hk)⟩
          exact (pop_fin (junk := []) (l := l) (by simpa using hP9) (by simp) (by omega) hcm (by simp) (by omega) h3 h4 hgb).mod t2 (by simp; omega)
    · go_quiet (fail)
      rename_i nq
      have HP := Lib.hid (HP.out.drewN nq)
      have hM := hM.drewN nq
      go_wp2_with fail
      obtain ⟨t1, t2⟩ := set4 (x := .string mt) (y := .string mp) (z := .int .u8 mq) (u := .bool mr) HP.out.hr
      refine bodyPost_ret (results_row_tmp (cs := #[.string mt, .string mp, .int .u8 mq, .bool mr]) rfl rfl (by exact t1) Try.underlying28 rfl msg_size) rfl ⟨rfl, [g, b], ?_, (hM.trans t2 (by simp)), fun k hk => .inl (by simpa [Value.ownBlock] using hk)⟩
      exact (pop_fin (junk := junk ++ [Msg.none]) (l := l) (by simpa using HP.out) (by simp; omega) (by omega) hcm (by simp; omega) (by omega) h3 h4 hgb).mod t2 (by simp; omega)
end Go.Proofs.Ytpladpcagdkhmaa
