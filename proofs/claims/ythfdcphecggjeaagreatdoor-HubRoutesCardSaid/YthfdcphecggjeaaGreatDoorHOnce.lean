/- The hub's laws: HubAtOnce walked. -/
import Derived.Test.YthfdcphecggjeaaGreatDoorQZ
import Derived.Test.YthfdcphecggjeaaGreatDoorHRouP
namespace Go.Proofs.YthfdcphecggjeaaGreatDoor
open Go Go.RowKit

theorem small_of {l : List Item} (h : SmL l) (hq : ∀ x ∈ l, 0 ≤ x.msg.q ∧ x.msg.q < 256) : ∀ x ∈ l, SmallI x := fun x hx => by
  obtain ⟨h1, h2, h3, h4⟩ := h.2 x hx
  exact ⟨by omega, by omega, by omega, by omega, (hq x hx).1, (hq x hx).2⟩
theorem addG_len (gs : List Hint) (f c : Str) : (addG gs f c).length ≤ gs.length + 1 := by
  unfold addG
  split
  · rw [(perm_insH (f, c) gs).length_eq]; simp
  · omega
theorem routeK_len (x : Item) {kp : List Msg} {k : Nat} (h : kp.length ≤ k) : (routeK x kp).length ≤ k + 1 := by
  unfold routeK
  split
  · exact keepL h
  · omega
theorem oneM_small {n k : Nat} (x : Item) {s : HubS} (hk : s.kp.length ≤ k) (hg : s.gs.length ≤ k) : (∀ h ∈ (oneM n x s).1, h.msgs.length ≤ k ∧ h.clients.length ≤ k) ∧ (oneM n x s).2.kp.length ≤ k + 1 ∧ (oneM n x s).2.gs.length ≤ k + 1 := by
  have hz : ∀ (l : List Msg) (y : Int) (z : Int), l.length ≤ k → ∀ h ∈ [backM x y l z], h.msgs.length ≤ k ∧ h.clients.length ≤ k := fun l y z hl h hh => by
    rw [List.mem_singleton.1 hh]; exact ⟨hl, by simp [backM]⟩
  unfold oneM
  split
  · exact ⟨by simp, by show s.kp.length ≤ _; omega, by show s.gs.length ≤ _; omega⟩
  · split
    · exact ⟨hz _ _ _ (Nat.le_trans (finds_len _ _) hk), by show s.kp.length ≤ _; omega, Nat.le_trans (addG_len ..) (by omega)⟩
    · split
      · exact ⟨hz _ _ _ (by simp), by show s.kp.length ≤ _; omega, Nat.le_trans (List.length_erase_le) (by omega)⟩
      · split
        · refine ⟨fun h hh => ?_, routeK_len x hk, by show s.gs.length ≤ _; omega⟩
          unfold routeM at hh
          rcases List.mem_append.1 hh with hh | hh
          · obtain ⟨q, -, -, rfl⟩ := send_mem hh
            exact ⟨by simp [toM], Nat.le_trans (at1_len n _ q) (Nat.le_trans (toldG_len ..) hg)⟩
          · exact hz _ _ _ (by simp) h hh
        · exact ⟨by simp, by show s.kp.length ≤ _; omega, by show s.gs.length ≤ _; omega⟩
theorem doH_small {n : Nat} : ∀ (l : List Item) {s : HubS} {k : Nat}, s.kp.length ≤ k → s.gs.length ≤ k → ∀ h ∈ (doH n l s).1, h.msgs.length ≤ k + l.length ∧ h.clients.length ≤ k + l.length
  | [], _, _, _, _, h, hh => by cases hh
  | x :: r, s, k, hk, hg, h, hh => by
    obtain ⟨h1, h2, h3⟩ := oneM_small (n := n) x hk hg
    rw [List.length_cons]
    rcases List.mem_append.1 hh with hh | hh
    · have := h1 h hh; omega
    · have := doH_small r h2 h3 h hh; omega
theorem doH_one (n : Nat) (x : Item) (s : HubS) : (doH n [x] s).1 = (oneM n x s).1 ∧ (doH n [x] s).2 = (oneM n x s).2 := ⟨by simp [doH], rfl⟩
theorem notesOf_one (n : Nat) (x : Item) : notesOf n [x] = if noted n x then [noteOf x] else [] := by
  have := notesOf_snoc n [] x
  rw [List.nil_append] at this
  rw [this]; rfl
theorem upd_l {A S S' : List Nat} {w w' : World} (h : Upd S S' w w') : Upd (A ++ S) (A ++ S') w w' :=
  ⟨h.1.mono fun _ hj => List.mem_append_right _ hj, fun k hk => by
    rcases List.mem_append.1 hk with hk | hk
    · exact .inl (List.mem_append_left _ hk)
    · exact (h.2 k hk).imp (fun h1 => List.mem_append_right _ h1) id⟩
theorem upd_rr {C S S' : List Nat} {w w' : World} (h : Upd S S' w w') : Upd (S ++ C) (S' ++ C) w w' :=
  ⟨h.1.mono fun _ hj => List.mem_append_left _ hj, fun k hk => by
    rcases List.mem_append.1 hk with hk | hk
    · exact (h.2 k hk).imp (fun h1 => List.mem_append_left _ h1) id
    · exact .inl (List.mem_append_right _ hk)⟩
set_option maxRecDepth 100000 in
set_option maxHeartbeats 8000000 in
theorem hubAtOnce_any (n : Int) (a : Option Addr) (c : Nat) (l : List Item) (W : World) (hr : Row W a (itemsV l)) (hl : l.length ≤ maxLen) (hq : ∀ x ∈ l, 0 ≤ x.msg.q ∧ x.msg.q < 256) (hT : Tabs W) :
    Calls Tryz.prog 7 #[.int .i64 n, .slice a l.length c] W fun e w' => e = .returned (.bool true) ∧ Below W.heap.size W w' := by
  have HT := Lib.hid hT
  have HR := Lib.hid hr
  have HG := Lib.hid (fun X (hb : Below W.heap.size W X) => great19 a c l X (hr.below hb (Nat.le_refl _)) hl)
  have HAW := Lib.hid (fun X (hb : Below W.heap.size W X) => awake19 W X hb hT)
  have hl2 : (l.length : Int) ≤ 9223372036854775807 := by unfold maxLen at hl; omega
  by_cases hn : n < 1 ∨ 64 < n
  · have HNO := Lib.hid (hub_no n hn)
    clear hr hl hq hT hn
    go_enter Tryz.func7, Tryz.ntmps7
    go_wp2_with fail
    refine (HNO.out _).mono ?_
    rintro e w1 ⟨rfl, rfl⟩
    go_wp2_with fail
    refine (HNO.out _).mono ?_
    rintro e w1 ⟨rfl, rfl⟩
    go_wp2_with fail
    refine (HG.out _ (Below.refl _ _)).mono ?_
    rintro e w1 ⟨he, rfl⟩
    rcases he with rfl | ⟨rfl, -⟩
    · go_wp2_with fail
      refine (HAW.out _ (Below.refl _ _)).mono ?_
      rintro e w1 ⟨rfl, hk⟩
      have HK := Lib.hid hk
      clear hk
      go_wp2_with fail
      go_ret
      exact ⟨rfl, HK.out⟩
    · go_wp2_with fail
      refine (HAW.out _ (Below.refl _ _)).mono ?_
      rintro e w1 ⟨rfl, hk⟩
      have HK := Lib.hid hk
      clear hk
      go_wp2_with fail
      go_ret
      exact ⟨rfl, HK.out⟩
  · obtain ⟨m, rfl⟩ := Int.eq_ofNat_of_zero_le (show 0 ≤ n by omega)
    have h1 : 1 ≤ m := by omega
    have h2 : m ≤ 64 := by omega
    have HN := Lib.hid (fun w (hb : Below W.heap.size W w) => hub_yes W m h1 h2 w hb)
    have HSM := Lib.hid (fun (h : SmL l) => small_of h hq)
    clear hr hl hq hT hn
    go_enter Tryz.func7, Tryz.ntmps7
    go_wp2_with fail
    refine (HN.out _ (Below.refl _ _)).mono ?_
    rintro e w1 ⟨ha, F1, rfl, hp1, hu1⟩
    have HP1 := Lib.hid hp1
    have HU1 := Lib.hid hu1
    clear hp1 hu1
    go_wp2_with fail
    refine (HN.out _ HP1.out.bel).mono ?_
    rintro e w2 ⟨hb, F2, rfl, hp2, hu2⟩
    obtain ⟨hpa, hd⟩ := HP1.out.keepBy (fun j _ h => by cases h) (fun j h => by cases h) hu2
    have HA := Lib.hid hpa
    have HB := Lib.hid hp2
    have HD := Lib.hid hd
    clear hp2 hu2 hpa hd HP1 HU1
    go_wp2_with fail
    refine (HG.out _ HB.out.bel).mono ?_
    rintro e w3 ⟨he, rfl⟩
    rcases he with rfl | ⟨rfl, hs⟩
    · go_wp2_with fail
      refine (HAW.out _ HB.out.bel).mono ?_
      rintro e w1 ⟨rfl, hk⟩
      have HK := Lib.hid (bnext HB.out.bel (Nat.le_refl _) hk)
      clear hk
      go_wp2_with fail
      go_ret
      exact ⟨rfl, HK.out⟩
    go_wp2_with fail
    refine (log_newP _).mono ?_
    rintro e w3 ⟨la, Ga, rfl, hl3, hu3⟩
    obtain ⟨F1a, hpa, hua⟩ := HA.out.nolog.withLog hl3 hu3 (by simp)
    obtain ⟨hpb, hdb⟩ := HB.out.keepBy (fun j hj hj' => HD.out j hj' hj) HA.out.fF hua
    have HA3 := Lib.hid hpa
    have HB3 := Lib.hid hpb
    have HD3 : Hid (∀ j ∈ F1a, j ∉ F2) := Lib.hid (fun j hj hj' => hdb j hj' hj)
    clear hl3 hu3 hpa hua hpb hdb
    go_wp2_with fail
    refine (log_newP _).mono ?_
    rintro e w4 ⟨lb, Gb, rfl, hl4, hu4⟩
    obtain ⟨F2b, hpb, hub⟩ := HB3.out.nolog.withLog hl4 hu4 (by simp)
    obtain ⟨hpa, hda⟩ := HA3.out.keepBy HD3.out HB3.out.fF hub
    have HDA := Lib.hid (hdo_any W ha m 0 HubS.new _ [] F1a l a c w4 hpa HT.out (HSM.out hs.out) (by have := hs.out.1; omega) h1 h2 (hpa.beside HR.out) F2b hpb.lt)
    have HA4 := Lib.hid hpa
    have HB4 := Lib.hid hpb
    have HD4 := Lib.hid hda
    have hl60 : l.length ≤ 60 := hs.out.1
    clear hl4 hu4 hpa hub hpb hda
    go_wp2_with fail
    refine HDA.out.mono ?_
    rintro e w5 ⟨v1, M1, F1c, rfl, hpa, hua, ho1⟩
    obtain ⟨a1, c1, rfl, -, -, -⟩ := ownsRow_row ho1.own
    obtain ⟨hpb, hdb⟩ := HB4.out.keepBy (fun j hj hj' => HD4.out j hj' hj) HA4.out.fF hua
    rw [List.nil_append, Nat.zero_add] at hpa
    have HA5 := Lib.hid hpa
    have HB5 := Lib.hid hpb
    have HD5 : Hid (∀ j ∈ F1c, j ∉ F2b) := Lib.hid (fun j hj hj' => hdb j hj' hj)
    have HO1 := Lib.hid ho1
    have hw4 : W.heap.size ≤ w4.heap.size := HA4.out.bel.size
    clear hpa hua ho1 hpb hdb HDA
    go_wp2_with fail
    go_loopw [10, 11] (fun v i wr => ∃ (j : Nat) (M2 : List Mail) (F2x : List Nat), i = .int .i64 j ∧ j ≤ l.length ∧ Hb W wr hb m j (doH m (l.take j) HubS.new).2 (.pointer (some ⟨lb, 0, none⟩)) (notesOf m (l.take j)) F2x ∧ Hb W wr ha m l.length (doH m l HubS.new).2 (.pointer (some ⟨la, 0, none⟩)) (notesOf m l) F1c ∧ (∀ j ∈ F1c, j ∉ F2x) ∧
      OutM wr (F1c ++ (F2x ++ v.ownBlock.toList)) w4.heap.size (.slice a1 M1.length c1) M1 (doH m l HubS.new).1 ∧ OutM wr (F2x ++ (F1c ++ (Value.slice a1 M1.length c1).ownBlock.toList)) W.heap.size v M2 (doH m (l.take j) HubS.new).1 ∧ M2.length ≤ 65 * j) (fun _ i _ => (l.length - intOf i).toNat)
    case atStart => exact ⟨0, [], F2b, rfl, by omega, by simpa [doH, notesOf] using HB5.out, HA5.out, HD5.out, by simpa [Value.ownBlock] using HO1.out, OutM.nil _ _ _, by simp⟩
    case round =>
      obtain ⟨j, M2, F2x, rfl, hj, hpb, hpa, hd, ho1, ho2, hM2⟩ := hrel
      obtain ⟨a2, c2, rfl, -, -, -⟩ := ownsRow_row ho2.own
      have HBJ := Lib.hid hpb
      have HAJ := Lib.hid hpa
      have HDJ := Lib.hid hd
      have HO1J := Lib.hid ho1
      have HO2J := Lib.hid ho2
      clear hpb hpa hd ho1 ho2
      by_cases hlt : j < l.length
      · have hj0 : (0 : Int) ≤ j := by omega
        have hjl : (j : Int) < l.length := by omega
        obtain ⟨b, o, rfl, hra⟩ := row_mid (mk := Item.cells) (m := 38) item_width (HBJ.out.beside HR.out).row hlt (by decide)
        have HRA := Lib.hid hra
        have HD := Lib.hid (doH_snoc m (l.take j) l[j] HubS.new)
        have HN := Lib.hid (notesOf_snoc m (l.take j) l[j])
        have htk := List.take_succ_eq_append_getElem hlt
        rw [← htk] at HD HN
        clear htk hra
        have HIL : Hid ((Tryz.prog.info? 36).map (·.size) = some l[j].cells.length) := Lib.hid ((item_size l[j]).trans (congrArg some List.size_toArray))
        have HBS := Lib.hid (build_items1 l[j])
        have HDO := Lib.hid (hdo_any W hb m j (doH m (l.take j) HubS.new).2 _ (notesOf m (l.take j)) F2x [l[j]] (some ⟨wr.heap.size, 0, none⟩) 1 (wr.alloc (.cells (itemsV [l[j]]).toArray 36)) (HBJ.out.below (low_alloc _ _)) HT.out
          (fun y hy => by rw [List.mem_singleton.1 hy]; exact HSM.out hs.out _ (List.getElem_mem hlt)) (by simp; omega) h1 h2 (beside_new HBJ.out.lt _ _) (F1c ++ ((Value.slice a1 M1.length c1).ownBlock.toList ++ (Value.slice a2 M2.length c2).ownBlock.toList)) (fun k hk => by
            have hsz : (wr.alloc (.cells (itemsV [l[j]]).toArray 36)).heap.size = wr.heap.size + 1 := by simp
            rcases List.mem_append.1 hk with hk | hk
            · have := HAJ.out.lt k hk; omega
            · rcases List.mem_append.1 hk with hk | hk
              · have := (HO1J.out.lt k hk).2; omega
              · have := (HO2J.out.lt k hk).2; omega))
        have HON := Lib.hid (notesOf_snoc m [] l[j])
        have H1 := Lib.hid (doH_one m l[j] (doH m (l.take j) HubS.new).2)
        have HOL := Lib.hid (oneM_len m l[j] (doH m (l.take j) HubS.new).2)
        generalize l[j] = x at *
        have hel : (itemsV [x]) = x.cells := by simp [itemsV]
        rw [hel] at HBS HDO
        clear hel
        have HBL := Lib.hid (low_alloc wr (.cells x.cells.toArray 36))
        generalize x.cells = XC at *
        go_wp2_with (first
          | (refine wpList_loadMid rfl 36 _ rfl b (o + j * 38) rfl XC _ HRA.out Tryz.underlying36 rfl HIL.out _ rfl ?_)
          | (refine HBS.out _ _ _ _ _ _ rfl _ rfl rfl _ rfl wr.heap.size rfl ?_)
          | fail)
        refine HDO.out.mono ?_
        rintro e w6 ⟨v3, M3, F3, rfl, hp3, hu3, ho3⟩
        rw [H1.out.1] at ho3
        rw [H1.out.2] at hp3
        have hu6 : Upd F2x F3 wr w6 := upd_trans_h (upd_b HBL.out) hu3
        obtain ⟨hpa, hda⟩ := HAJ.out.keepBy HDJ.out HBJ.out.fF hu6
        have HA6 := Lib.hid hpa
        have HD6 := Lib.hid hda
        have HO1K := Lib.hid (HO1J.out.upd (upd_l (upd_rr hu6)))
        have HO2K := Lib.hid (HO2J.out.updG hu6)
        obtain ⟨a3, c3, rfl, hr3, -, -⟩ := ownsRow_row ho3.own
        have HB6 : Hid (Hb W w6 hb m (j + 1) (doH m (l.take (j + 1)) HubS.new).2 (.pointer (some ⟨lb, 0, none⟩)) (notesOf m (l.take (j + 1))) F3) := Lib.hid (by
          rw [HD.out, HN.out, ← notesOf_one]; exact hp3)
        have HO3 := Lib.hid ho3
        have HR3 := Lib.hid hr3
        have hs6 : wr.heap.size ≤ w6.heap.size := hu6.1.size
        have hml := ho3.ms.len
        have hol := HOL.out
        have hol2 : M3.length ≤ 65 := by omega
        clear hp3 hu3 ho3 hu6 hpa hda hr3 HDO HBS H1 HOL HON
        by_cases h0 : M3.length = 0
        · obtain rfl : M3 = [] := List.length_eq_zero_iff.1 h0
          have he : (oneM m x (doH m (l.take j) HubS.new).2).1 = [] := List.length_eq_zero_iff.1 (by rw [← hml]; rfl)
          have HO2L : Hid (OutM w6 (F3 ++ (F1c ++ (Value.slice a1 M1.length c1).ownBlock.toList)) W.heap.size (.slice a2 M2.length c2) M2 (doH m (l.take (j + 1)) HubS.new).1) := Lib.hid (by
            rw [HD.out]; show OutM _ _ _ _ _ (_ ++ _); rw [he, List.append_nil]; exact HO2K.out)
          simp only [List.length_nil]
          clear he h0 hml hol hol2
          go_wp2_with (first
            | (at_builtin; refine wpList_app0 T_mail HO2K.out.own rfl rfl rfl rfl _ rfl ?_)
            | fail)
          go_roundw
          case rel => exact ⟨j + 1, M2, F3, by go_num, by omega, HB6.out, HA6.out, HD6.out, HO1K.out, HO2L.out, by omega⟩
          case measure => simp [intOf]; omega
        · have hpos : 0 < M3.length := by omega
          have HLC := Lib.hid (mailsV_length M3)
          have HM1 := Lib.hid (mails_one M3)
          have hBW : W.heap.size ≤ w6.heap.size := HA6.out.bel.size
          clear h0 hml hol
          go_wp2_with (first
            | (at_builtin; refine wpList_appR (m := M3.length) T_mail HO2K.out.own HR3.out rfl rfl rfl rfl _ rfl HLC.out hpos HM1.out (by omega) (by omega) hBW ?_; intro ng cap w7 hown7 hg7 hb7 hl7; have H7 := Lib.hid (And.intro hown7 (And.intro hg7 hb7)); clear hown7 hg7 hb7 hl7)
            | fail)
          obtain ⟨hown7, hg7, hb7⟩ := H7.out
          obtain ⟨ho7, hu7⟩ := OutM.grow (v' := .slice (some ⟨ng, 0, none⟩) (M2.length + M3.length) cap) (M2 := M3) (H2 := (oneM m x (doH m (l.take j) HubS.new).2).1) HO2K.out (fun k hk => by
            rcases List.mem_append.1 hk with hk | hk
            · exact HB6.out.lt k hk
            · rcases List.mem_append.1 hk with hk | hk
              · exact HA6.out.lt k hk
              · exact (HO1K.out.lt k hk).2) (Below.refl _ _) hown7 hg7 (fun b' hb' => by
            obtain rfl : ng = b' := by simpa [Value.ownBlock] using hb'
            exact hb7) (HO3.out.ms.sub fun k hk => by
            simp only [List.mem_append] at hk ⊢
            rcases hk with (hk | hk | hk) | hk
            · exact .inl (.inl hk)
            · exact .inl (.inr (.inl hk))
            · exact .inl (.inr (.inr (.inl hk)))
            · exact .inl (.inr (.inr (.inr hk))))
          have hb2W : ∀ k ∈ (Value.slice a2 M2.length c2).ownBlock.toList, W.heap.size ≤ k := fun k hk => (HO2K.out.lt k hk).1
          have hb2off : ∀ k ∈ F3 ++ (F1c ++ (Value.slice a1 M1.length c1).ownBlock.toList), k ∉ (Value.slice a2 M2.length c2).ownBlock.toList := fun k hk hk' => HO2K.out.off k (Option.mem_toList.1 hk') hk
          have HB7 := Lib.hid (HB6.out.mod hu7 (fun k hk => hb2off k (List.mem_append_left _ hk)) hb2W)
          have HA7 := Lib.hid (HA6.out.mod hu7 (fun k hk => hb2off k (List.mem_append_right _ (List.mem_append_left _ hk))) hb2W)
          have HO17 := Lib.hid (HO1K.out.upd (upd_l (upd_l hu7)))
          have HO27 : Hid (OutM w7 (F3 ++ (F1c ++ (Value.slice a1 M1.length c1).ownBlock.toList)) W.heap.size (.slice (some ⟨ng, 0, none⟩) (M2.length + M3.length) cap) (M2 ++ M3) (doH m (l.take (j + 1)) HubS.new).1) := Lib.hid (by rw [HD.out]; exact ho7)
          have hln : (M2 ++ M3).length ≤ 65 * (j + 1) := by rw [List.length_append]; omega
          clear hown7 hg7 hb7 ho7 hu7 hb2W hb2off
          go_roundw
          case rel => exact ⟨j + 1, M2 ++ M3, F3, by go_num, by omega, HB7.out, HA7.out, HD6.out, HO17.out, HO27.out, hln⟩
          case measure => simp [intOf]; omega
      · have hjl : ¬ (j : Int) < l.length := by omega
        obtain rfl : j = l.length := by omega
        rw [List.take_length] at HBJ HO2J
        have hlh : (doH m l HubS.new).1.length ≤ 100000 := by have := HO2J.out.ms.len; omega
        obtain ⟨_, _, e1, hr1, -, -⟩ := ownsRow_row HO1J.out.own
        cases e1
        obtain ⟨_, _, e2, hr2, -, -⟩ := ownsRow_row HO2J.out.own
        cases e2
        have HSS := Lib.hid (sameMails19 a1 a2 c1 c2 M1 M2 (doH m l HubS.new).1 wr hr1 hr2 (HO1J.out.ms.sub (by simp)) (HO2J.out.ms.sub (by simp)) hlh (fun h hh => by
          have := doH_small (n := m) l (s := HubS.new) (k := 0) (Nat.le_refl _) (Nat.le_refl _) h hh
          omega))
        have HA := Lib.hid HAJ.out
        have HB := Lib.hid HBJ.out
        have hnl : (notesOf m l).length ≤ 10000 := by unfold notesOf; rw [List.length_map]; have := List.length_filter_le (noted m) l; omega
        have hkl : (doH m l HubS.new).2.kp.length ≤ 60 := by have := HA.out.kl; omega
        have hgl : (doH m l HubS.new).2.gs.length ≤ 60 := by
          obtain ⟨_, _, _, -, h, -⟩ := HA.out.lensT
          have := h.len; omega
        clear HAJ HBJ hr1 hr2 HO1J HO2J HDJ
        generalize (doH m l HubS.new).2 = S at *
        generalize notesOf m l = ns at *
        clear HSM HG HT HR
        go_wp2_with fail
        refine HSS.out.mono ?_
        rintro e w5 ⟨rfl, hk5⟩
        replace HA := Lib.hid (HA.out.below hk5)
        replace HB := Lib.hid (HB.out.below hk5)
        clear hk5
        go_wp2_with fail
        obtain ⟨Gx, hlx, -⟩ := HA.out.lensL
        refine (log_all la ns Gx w5 hlx hnl).mono ?_
        rintro e w6 ⟨vx, rfl, hox, hk6⟩
        obtain ⟨ax, cx, rfl, hrx, -, -⟩ := ownsRow_row hox
        have RX := Lib.hid hrx
        replace HA := Lib.hid (HA.out.below hk6)
        replace HB := Lib.hid (HB.out.below hk6)
        clear hk6 hox hrx hlx
        go_wp2_with fail
        obtain ⟨Gy, hly, -⟩ := HB.out.lensL
        refine (log_all lb ns Gy w6 hly hnl).mono ?_
        rintro e w7 ⟨vy, rfl, hoy, hk7⟩
        obtain ⟨ay, cy, rfl, hry, -, -⟩ := ownsRow_row hoy
        have RY := Lib.hid hry
        replace RX := Lib.hid (RX.out.below hk7 (Nat.le_refl _))
        replace HA := Lib.hid (HA.out.below hk7)
        replace HB := Lib.hid (HB.out.below hk7)
        clear hk7 hoy hry hly
        go_wp2_with fail
        refine (sameRow17 ax ay cx cy ns w7 RX.out RY.out (by omega)).mono ?_
        rintro e w8 ⟨rfl, hk8⟩
        replace HA := Lib.hid (HA.out.below hk8)
        replace HB := Lib.hid (HB.out.below hk8)
        clear hk8 RX RY
        go_wp2_with fail
        refine (hints_any W ha m l.length S _ ns F1c w8 HA.out (by omega)).mono ?_
        rintro e w9 ⟨vx, rfl, hox, hk9⟩
        obtain ⟨ax, cx, rfl, hrx, -, -⟩ := ownsRow_row hox
        have RX := Lib.hid hrx
        replace HA := Lib.hid (HA.out.below hk9)
        replace HB := Lib.hid (HB.out.below hk9)
        clear hk9 hox hrx
        go_wp2_with fail
        refine (hints_any W hb m l.length S _ ns F2x w9 HB.out (by omega)).mono ?_
        rintro e w10 ⟨vy, rfl, hoy, hk10⟩
        obtain ⟨ay, cy, rfl, hry, -, -⟩ := ownsRow_row hoy
        have RY := Lib.hid hry
        replace RX := Lib.hid (RX.out.below hk10 (Nat.le_refl _))
        replace HA := Lib.hid (HA.out.below hk10)
        replace HB := Lib.hid (HB.out.below hk10)
        clear hk10 hoy hry
        go_wp2_with fail
        refine (sameH_any true ax ay cx cy S.gs S.gs w10 RX.out RY.out (by omega) (by simp)).mono ?_
        rintro e w11 ⟨rfl, nd, rfl⟩
        replace HA := Lib.hid (HA.out.below (drewN_below _ nd))
        replace HB := Lib.hid (HB.out.below (drewN_below _ nd))
        generalize w10.drewN nd = w11 at *
        clear RX RY
        go_wp2_with fail
        refine (kept_any W ha m l.length S _ ns F1c w11 HA.out (by omega)).mono ?_
        rintro e w12 ⟨vx, rfl, hox, hk12⟩
        obtain ⟨ax, cx, rfl, hrx, -, -⟩ := ownsRow_row hox
        have RX := Lib.hid hrx
        replace HA := Lib.hid (HA.out.below hk12)
        replace HB := Lib.hid (HB.out.below hk12)
        clear hk12 hox hrx
        go_wp2_with fail
        refine (kept_any W hb m l.length S _ ns F2x w12 HB.out (by omega)).mono ?_
        rintro e w13 ⟨vy, rfl, hoy, hk13⟩
        obtain ⟨ay, cy, rfl, hry, -, -⟩ := ownsRow_row hoy
        have RY := Lib.hid hry
        replace RX := Lib.hid (RX.out.below hk13 (Nat.le_refl _))
        replace HA := Lib.hid (HA.out.below hk13)
        clear hk13 hoy hry
        go_wp2_with fail
        refine (same_any true ax ay cx cy S.kp S.kp w13 RX.out RY.out (by omega) (by omega) (by simp)).mono ?_
        rintro e w14 ⟨rfl, nd, rfl⟩
        replace HA := Lib.hid (HA.out.below (drewN_below _ nd))
        generalize w13.drewN nd = w14 at *
        go_wp2_with fail
        refine (HAW.out _ HA.out.bel).mono ?_
        rintro e w15 ⟨rfl, hk⟩
        have HK := Lib.hid (bnext HA.out.bel (Nat.le_refl _) hk)
        clear hk
        go_wp2_with fail
        go_ret
        exact ⟨rfl, HK.out⟩
end Go.Proofs.YthfdcphecggjeaaGreatDoor
