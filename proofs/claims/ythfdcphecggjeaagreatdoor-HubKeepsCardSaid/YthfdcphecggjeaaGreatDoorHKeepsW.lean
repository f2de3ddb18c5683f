/- The hub's laws: HubKeeps walked. (Printed by gen_hkeeps.py.) -/
import Derived.Test.YthfdcphecggjeaaGreatDoorHKeepsI
namespace Go.Proofs.YthfdcphecggjeaaGreatDoor
open Go Go.RowKit

theorem kp_notes (n : Nat) : ∀ (l : List Item) (s : HubS), (doH n l s).2.kp = (notesOf n l).foldl (fun kp k => setB k.msg kp) s.kp
  | [], _ => rfl
  | x :: r, s => by
    have ih := kp_notes n r (oneM n x s).2
    show (doH n r (oneM n x s).2).2.kp = _
    rw [ih]
    have h1 : notesOf n (x :: r) = notesOf n [x] ++ notesOf n r := by unfold notesOf; rw [← List.map_append, ← List.filter_append]; rfl
    rw [h1, List.foldl_append]
    congr 1
    rw [notesOf_one]
    by_cases hn : noted n x = true
    · rw [if_pos hn]
      have hh : fits n x = true ∧ x.kind = 7 ∧ keeps x = true := by simpa [noted, and_assoc] using hn
      rw [one_route hh.1 s hh.2.1]
      have hr : x.msg.r = true := by have := hh.2.2; unfold keeps at this; simp at this; exact this.1
      show routeK x s.kp = _
      unfold routeK
      rw [if_pos hr]; rfl
    · rw [if_neg hn]
      show (oneM n x s).2.kp = s.kp
      by_cases hf : fits n x = true
      · by_cases k7 : x.kind = 7
        · rw [one_route hf s k7]
          have hk : keeps x = false := by rw [← noted_yes hf k7]; simpa using hn
          show routeK x s.kp = s.kp
          unfold routeK
          split
          · rename_i hr
            have : mayB x.msg = false := by unfold keeps at hk; rw [hr] at hk; simpa using hk
            rw [setB_noH this]
          · rfl
        · by_cases k5 : x.kind = 5
          · rw [one_add hf s k5]
          · by_cases k6 : x.kind = 6
            · rw [one_rem hf s k6]
            · rw [one_none s (.inr ⟨k5, k6, k7⟩)]
      · rw [one_none s (.inl (by simpa using hf))]
theorem notes_may {n : Nat} {l : List Item} : ∀ k ∈ notesOf n l, mayB k.msg = true ∧ ∃ x ∈ l, k = noteOf x := by
  intro k hk
  obtain ⟨x, hx, rfl⟩ := List.mem_map.1 hk
  obtain ⟨h1, h2⟩ := List.mem_filter.1 hx
  have hh : fits n x = true ∧ x.kind = 7 ∧ keeps x = true := by simpa [noted, and_assoc] using h2
  refine ⟨?_, x, h1, rfl⟩
  have := hh.2.2
  unfold keeps at this
  simp at this
  exact this.2
def kpsOf (l : List NoteK) : List Msg := l.foldl (fun kp k => setB k.msg kp) []
theorem kpsOf_snoc (l : List NoteK) (k : NoteK) : kpsOf (l ++ [k]) = setB k.msg (kpsOf l) := by unfold kpsOf; rw [List.foldl_append]; rfl
structure NoteC (w : World) (b o : Nat) (k : NoteK) : Prop where
  kind : w.cell? ⟨b, o, none⟩ = some (.int .u8 5)
  t : w.cell? ⟨b, o + 28, none⟩ = some (.string k.msg.t)
  p : w.cell? ⟨b, o + 29, none⟩ = some (.string k.msg.p)
  q : w.cell? ⟨b, o + 30, none⟩ = some (.int .u8 k.msg.q)
  r : w.cell? ⟨b, o + 31, none⟩ = some (.bool k.msg.r)
theorem note_c {w : World} {b o : Nat} {k : NoteK} (h : w.rangeAt b o k.note.cells) : NoteC w b o k := ⟨h 0 _ rfl, h 28 _ rfl, h 29 _ rfl, h 30 _ rfl, h 31 _ rfl⟩
set_option maxRecDepth 100000 in
set_option maxHeartbeats 8000000 in
theorem hubKeeps_any (n : Int) (a : Option Addr) (c : Nat) (l : List Item) (W : World) (hr : Row W a (itemsV l)) (hl : l.length ≤ maxLen) (hq : ∀ x ∈ l, 0 ≤ x.msg.q ∧ x.msg.q < 256) (hT : Tabs W) :
    Calls Tryz.prog 8 #[.int .i64 n, .slice a l.length c] W fun e w' => e = .returned (.bool true) ∧ Below W.heap.size W w' := by
  have HT := Lib.hid hT
  have HR := Lib.hid hr
  have HG := Lib.hid (fun X (hb : Below W.heap.size W X) => great19 a c l X (hr.below hb (Nat.le_refl _)) hl)
  have HAW := Lib.hid (fun X (hb : Below W.heap.size W X) => awake19 W X hb hT)
  have hl2 : (l.length : Int) ≤ 9223372036854775807 := by unfold maxLen at hl; omega
  by_cases hn : n < 1 ∨ 64 < n
  · have HNO := Lib.hid (hub_no n hn)
    clear hr hl hq hT hn
    go_enter Tryz.func8, Tryz.ntmps8
    go_wp2_with fail
    refine (HNO.out _).mono ?_
    rintro e w1 ⟨rfl, rfl⟩
    go_wp2_with fail
    refine (HG.out _ (Below.refl _ _)).mono ?_
    rintro e w1 ⟨he, rfl⟩
    rcases he with rfl | ⟨rfl, -⟩
    · go_wp2_with fail
      refine (HAW.out _ (Below.refl _ _)).mono ?_
      rintro e w1 ⟨rfl, hk⟩
      have HK := Lib.hid hk
      clear hk
      go_wp2_with fail
      go_ret
      exact ⟨rfl, HK.out⟩
    · go_wp2_with fail
      refine (HAW.out _ (Below.refl _ _)).mono ?_
      rintro e w1 ⟨rfl, hk⟩
      have HK := Lib.hid hk
      clear hk
      go_wp2_with fail
      go_ret
      exact ⟨rfl, HK.out⟩
  · obtain ⟨m, rfl⟩ := Int.eq_ofNat_of_zero_le (show 0 ≤ n by omega)
    have h1 : 1 ≤ m := by omega
    have h2 : m ≤ 64 := by omega
    have HN := Lib.hid (fun w (hb : Below W.heap.size W w) => hub_yes W m h1 h2 w hb)
    have HSM := Lib.hid (fun (h : SmL l) => small_of h hq)
    clear hr hl hq hT hn
    go_enter Tryz.func8, Tryz.ntmps8
    go_wp2_with fail
    refine (HN.out _ (Below.refl _ _)).mono ?_
    rintro e w1 ⟨h, F1, rfl, hp1, hu1⟩
    have HP1 := Lib.hid hp1
    clear hp1 hu1
    go_wp2_with fail
    refine (HG.out _ HP1.out.bel).mono ?_
    rintro e w3 ⟨he, rfl⟩
    rcases he with rfl | ⟨rfl, hs⟩
    · go_wp2_with fail
      refine (HAW.out _ HP1.out.bel).mono ?_
      rintro e w1 ⟨rfl, hk⟩
      have HK := Lib.hid (bnext HP1.out.bel (Nat.le_refl _) hk)
      clear hk
      go_wp2_with fail
      go_ret
      exact ⟨rfl, HK.out⟩
    go_wp2_with fail
    refine (log_newP _).mono ?_
    rintro e w3 ⟨la, Ga, rfl, hl3, hu3⟩
    obtain ⟨F2, hpa, -⟩ := HP1.out.nolog.withLog hl3 hu3 (by simp)
    have HP2 := Lib.hid hpa
    have hl60 : l.length ≤ 60 := hs.out.1
    clear hl3 hu3 hpa HP1
    go_wp2_with fail
    go_loopw [7] (fun i wr => ∃ (j : Nat) (Fx : List Nat), i = .int .i64 j ∧ j ≤ l.length ∧ Hb W wr h m j (doH m (l.take j) HubS.new).2 (.pointer (some ⟨la, 0, none⟩)) (notesOf m (l.take j)) Fx) (fun i _ => (l.length - intOf i).toNat)
    case atStart => exact ⟨0, F2, rfl, by omega, by simpa [doH, notesOf] using HP2.out⟩
    case round =>
      obtain ⟨j, Fx, rfl, hj, hp⟩ := hrel
      have HPJ := Lib.hid hp
      clear hp
      by_cases hlt : j < l.length
      · have hj0 : (0 : Int) ≤ j := by omega
        have hjl : (j : Int) < l.length := by omega
        obtain ⟨b, o, rfl, hra⟩ := row_mid (mk := Item.cells) (m := 38) item_width (HPJ.out.beside HR.out).row hlt (by decide)
        have HRA : Hid (∀ X, Below W.heap.size W X → X.rangeAt b (o + j * 38) l[j].cells) := Lib.hid (fun X hX => by
          obtain ⟨b', o', e, h'⟩ := row_mid (mk := Item.cells) (m := 38) item_width (HR.out.below hX (Nat.le_refl _)) hlt (by decide)
          cases e
          exact h')
        have HRW := Lib.hid hra
        have HD := Lib.hid (doH_snoc m (l.take j) l[j] HubS.new)
        have HN2 := Lib.hid (notesOf_snoc m (l.take j) l[j])
        have htk := List.take_succ_eq_append_getElem hlt
        rw [← htk] at HD HN2
        clear htk hra
        have HIL : Hid ((Tryz.prog.info? 36).map (·.size) = some l[j].cells.length) := Lib.hid ((item_size l[j]).trans (congrArg some List.size_toArray))
        have HBS := Lib.hid (build_items1 l[j])
        have HDO := Lib.hid (hdo_any W h m j (doH m (l.take j) HubS.new).2 _ (notesOf m (l.take j)) Fx [l[j]] (some ⟨wr.heap.size, 0, none⟩) 1 (wr.alloc (.cells (itemsV [l[j]]).toArray 36)) (HPJ.out.below (low_alloc _ _)) HT.out
          (fun y hy => by rw [List.mem_singleton.1 hy]; exact HSM.out hs.out _ (List.getElem_mem hlt)) (by simp; omega) h1 h2 (beside_new HPJ.out.lt _ _) [] (by simp))
        have H1 := Lib.hid (doH_one m l[j] (doH m (l.take j) HubS.new).2)
        have HOL := Lib.hid (oneM_len m l[j] (doH m (l.take j) HubS.new).2)
        generalize l[j] = x at *
        have hel : (itemsV [x]) = x.cells := by simp [itemsV]
        rw [hel] at HBS HDO
        clear hel
        obtain ⟨XC, hXC⟩ : ∃ XC, x.cells = XC := ⟨_, rfl⟩
        rw [hXC] at HRW HIL HBS HDO
        go_wp2_with (first
          | (refine wpList_loadMid rfl 36 _ rfl b (o + j * 38) rfl XC _ HRW.out Tryz.underlying36 rfl HIL.out _ rfl ?_)
          | (refine HBS.out _ _ _ _ _ _ rfl _ rfl rfl _ rfl wr.heap.size rfl ?_)
          | fail)
        refine HDO.out.mono ?_
        rintro e w6 ⟨v3, M3, F3, rfl, hp3, hu3, ho3⟩
        rw [H1.out.1] at ho3
        rw [H1.out.2] at hp3
        obtain ⟨a3, c3, rfl, hr3, -, -⟩ := ownsRow_row ho3.own
        have HB6 : Hid (Hb W w6 h m (j + 1) (doH m (l.take (j + 1)) HubS.new).2 (.pointer (some ⟨la, 0, none⟩)) (notesOf m (l.take (j + 1))) F3) := Lib.hid (by
          rw [HD.out, HN2.out, ← notesOf_one]; exact hp3)
        have HO3 := Lib.hid (ho3.ms.sub (G := []) (by simp))
        have HR3 := Lib.hid hr3
        have hml := ho3.ms.len
        rw [hml]
        have HASK := Lib.hid (fun (h : asksB m x = true) => one_asks (doH m (l.take j) HubS.new).2 h)
        have HNAS := Lib.hid (fun (h : asksB m x = false) => one_noask (doH m (l.take j) HubS.new).2 h)
        have HBK := Lib.hid (one_back (n := m) (x := x) (s := (doH m (l.take j) HubS.new).2))
        have hol := HOL.out
        clear hp3 hu3 ho3 hr3 HDO HBS H1 HOL HRW hml hXC
        generalize (oneM m x (doH m (l.take j) HubS.new).2).1 = H at *
        go_upto_block 2 with fail
        refine keeps_inner x b o l.length c j a3 c3 M3 H w6 hlt (HRA.out _ HB6.out.bel) HR3.out HO3.out HBK.out (by omega) ?_
        intro d4 d10 d11 d40 d41 d42 d43 d44 d45 d46 d47 d48 d49 d50 d51 d52 d53 d54 d55 d56 d57 d58 d59 d60 d61 d62 d63 d64 d65 d66 d67 d68 d69 d70 d71 d72 d73 d74 d75 d76 d77 d78 d79 d80 d81 d82 d83 d84 d85 d86 w7 hk7
        dsimp only
        have HB7 := Lib.hid (HB6.out.below hk7)
        clear hk7
        go_upto_region 18 with fail
        refine keeps_asks x b o l.length c j m w7 hlt (HRA.out _ HB7.out.bel) ?_
        intro d87 d88 d89 d90 d91 d92 d93 d94 d95 d96 d97 d98 d99 d100 d101 d102 d103 d104 d105 d106 d107 d108 d109 d110 d111 d112 d113 d114 d115 d116 d117
        dsimp only
        cases ha : asksB m x with
        | true =>
          have hmy := HASK.out ha
          rw [hmy]
          clear hmy ha
          go_wp2_with fail
          go_roundw
          case rel => exact ⟨j + 1, F3, by go_num, by omega, HB7.out⟩
          case measure => simp [intOf]; omega
        | false =>
          have hH := HNAS.out ha
          clear ha HASK HNAS
          subst hH
          rw [show manyN x.frm [] = 0 from rfl]
          simp only [List.length_nil]
          go_wp2_with fail
          go_roundw
          case rel => exact ⟨j + 1, F3, by go_num, by omega, HB7.out⟩
          case measure => simp [intOf]; omega
      · have hjl : ¬ (j : Int) < l.length := by omega
        obtain rfl : j = l.length := by omega
        rw [List.take_length] at HPJ
        have HKN := Lib.hid (kp_notes m l HubS.new)
        have HMY : Hid (∀ k ∈ notesOf m l, mayB k.msg = true ∧ SmallM k.msg) := Lib.hid (fun k hk => by
          obtain ⟨h1, x, hx, rfl⟩ := notes_may k hk
          exact ⟨h1, (HSM.out hs.out x hx).m⟩)
        have hnl : (notesOf m l).length ≤ 60 := by unfold notesOf; rw [List.length_map]; have := List.length_filter_le (noted m) l; omega
        go_wp2_with fail
        refine (HN.out _ HPJ.out.bel).mono ?_
        rintro e w7 ⟨u, Fu, rfl, hpu, huu⟩
        obtain ⟨hph, hdh⟩ := HPJ.out.keepBy (fun j _ h => by cases h) (fun j h => by cases h) huu
        have HU := Lib.hid hpu
        have HH := Lib.hid hph
        have HD := Lib.hid hdh
        clear hpu hph hdh huu HPJ HSM HG
        go_wp2_with fail
        obtain ⟨Gx, hlx, -⟩ := HH.out.lensL
        refine (log_all la _ Gx w7 hlx (by omega)).mono ?_
        rintro e w8 ⟨vx, rfl, hox, hk8⟩
        obtain ⟨ax, cx, rfl, -, -, hbx⟩ := Beside.own (F := Fx ++ Fu) hox (fun j hj => by
          rcases List.mem_append.1 hj with hj | hj
          · exact HH.out.lt j hj
          · exact HU.out.lt j hj)
        replace HH := Lib.hid (HH.out.below hk8)
        replace HU := Lib.hid (HU.out.below hk8)
        have HBX := Lib.hid hbx
        clear hk8 hox hlx hbx
        generalize notesOf m l = ns at *
        go_wp2_with fail
        go_loopw [15] (fun i wr => ∃ (k : Nat) (Fv : List Nat), i = .int .i64 k ∧ k ≤ ns.length ∧ Hb W wr u m k ⟨[], kpsOf (ns.take k)⟩ (.pointer none) [] Fv ∧ Hb W wr h m l.length (doH m l HubS.new).2 (.pointer (some ⟨la, 0, none⟩)) ns Fx ∧ (∀ j ∈ Fx, j ∉ Fv) ∧ Beside wr (Fx ++ Fv) ax (notesK ns)) (fun i _ => (ns.length - intOf i).toNat)
        case atStart => exact ⟨0, Fu, rfl, by omega, HU.out, HH.out, HD.out, HBX.out⟩
        case round =>
          clear HU HH HD HBX
          obtain ⟨k, Fv, rfl, hk, hpu, hph, hd, hbx⟩ := hrel
          have HU := Lib.hid hpu
          have HH := Lib.hid hph
          have HD := Lib.hid hd
          have HBX := Lib.hid hbx
          clear hpu hph hd hbx
          by_cases hlk : k < ns.length
          · have hk0 : (0 : Int) ≤ k := by omega
            have hkl : (k : Int) < ns.length := by omega
            obtain ⟨b2, o2, rfl, -⟩ := row_mid (mk := fun k : NoteK => k.note.cells) (m := 35) (fun _ => rfl) HBX.out.row hlk (by decide)
            have HRG : Hid (∀ X F', Beside X F' (some ⟨b2, o2, none⟩) (notesK ns) → NoteC X b2 (o2 + k * 35) ns[k]) := Lib.hid (fun X F' hX => by
              obtain ⟨b', o', e, h'⟩ := row_mid (mk := fun k : NoteK => k.note.cells) (m := 35) (fun _ => rfl) hX.row hlk (by decide)
              cases e
              exact note_c h')
            have HTK : Hid (kpsOf (ns.take (k + 1)) = setB ns[k].msg (kpsOf (ns.take k))) := Lib.hid (by rw [List.take_succ_eq_append_getElem hlk, kpsOf_snoc])
            obtain ⟨hmy, hsm⟩ := HMY.out _ (List.getElem_mem hlk)
            obtain ⟨g, KF, c1, hkr, hup⟩ := HU.out.lensK
            have HUP := Lib.hid hup
            have HKL := Lib.hid HU.out.kl
            have HOK := Lib.hid HU.out.ok
            have HUPP := Lib.hid HU.out.up
            have HKS := Lib.hid (kset_h true g ns[k].msg (kpsOf (ns.take k)) KF wr.drew (hkr.below (Below.refl _ _).drew) ((HT.out.below HU.out.bel).below (Below.refl _ _).drew) hsm (by have := HU.out.kl; simp only at this; omega) hmy)
            have HSM2 := Lib.hid hsm
            obtain ⟨y0, y28, y29, y30, y31⟩ := HRG.out _ _ HBX.out
            clear hup hkr hsm hmy
            generalize ns[k] = nt at *
            go_wp2_with fail
            refine wp_region_held_drew (S := fun X => X.cell? ⟨u, 1, none⟩ = some (.pointer (some ⟨g, 0, none⟩)) ∧ X.cell? ⟨b2, o2 + k * 35, none⟩ = some (.int .u8 5) ∧ X.cell? ⟨b2, o2 + k * 35 + 28, none⟩ = some (.string nt.msg.t) ∧ X.cell? ⟨b2, o2 + k * 35 + 29, none⟩ = some (.string nt.msg.p) ∧ X.cell? ⟨b2, o2 + k * 35 + 30, none⟩ = some (.int .u8 nt.msg.q) ∧ X.cell? ⟨b2, o2 + k * 35 + 31, none⟩ = some (.bool nt.msg.r)) (by kernel_rfl) ⟨c1, y0, y28, y29, y30, y31⟩ (fun hHeld => ?_)
            clear c1 y0 y28 y29 y30 y31
            refine wpAnyH_take (i := 0) (v := ?_) rfl (by kernel_rfl) (by kernel_rfl) (by kernel_rfl) (fun _ _ _ h => h) (Or.inl ⟨rfl, ?_⟩) hHeld ?_
            rotate_left
            · intro w0 hS0
              try dsimp only at hS0
              go_simp
              try with_reducible rfl
            simp only [List.getElem_toArray, List.getElem_cons_zero, Act.put, List.setIfInBounds_toArray, List.set_cons_zero, List.set_cons_succ]
            refine wpAnyH_take (i := 1) (v := ?_) rfl (by kernel_rfl) (by kernel_rfl) (by kernel_rfl) (fun _ _ _ h => h) (Or.inl ⟨rfl, ?_⟩) hHeld ?_
            rotate_left
            · intro w0 hS0
              try dsimp only at hS0
              go_simp
              try with_reducible rfl
            simp only [List.getElem_toArray, List.getElem_cons_zero, List.getElem_cons_succ, Act.put, List.setIfInBounds_toArray, List.set_cons_zero, List.set_cons_succ]
            refine wpAnyH_take (i := 2) (v := ?_) rfl (by kernel_rfl) (by kernel_rfl) (by kernel_rfl) (fun _ _ _ h => h) (Or.inl ⟨rfl, ?_⟩) hHeld ?_
            rotate_left
            · intro w0 hS0
              try dsimp only at hS0
              go_simp
              try with_reducible rfl
            simp only [List.getElem_toArray, List.getElem_cons_zero, List.getElem_cons_succ, Act.put, List.setIfInBounds_toArray, List.set_cons_zero, List.set_cons_succ]
            refine wpAnyH_take (i := 3) (v := ?_) rfl (by kernel_rfl) (by kernel_rfl) (by kernel_rfl) (fun _ _ _ h => h) (Or.inl ⟨rfl, ?_⟩) hHeld ?_
            rotate_left
            · intro w0 hS0
              try dsimp only at hS0
              go_simp
              try with_reducible rfl
            simp only [List.getElem_toArray, List.getElem_cons_zero, List.getElem_cons_succ, Act.put, List.setIfInBounds_toArray, List.set_cons_zero, List.set_cons_succ]
            refine wpAnyH_take (i := 4) (v := ?_) rfl (by kernel_rfl) (by kernel_rfl) (by kernel_rfl) (fun _ _ _ h => h) (Or.inl ⟨rfl, ?_⟩) hHeld ?_
            rotate_left
            · intro w0 hS0
              try dsimp only at hS0
              go_simp
              try with_reducible rfl
            simp only [List.getElem_toArray, List.getElem_cons_zero, List.getElem_cons_succ, Act.put, List.setIfInBounds_toArray, List.set_cons_zero, List.set_cons_succ]
            refine wpAnyH_take (i := 5) (v := ?_) rfl (by kernel_rfl) (by kernel_rfl) (by kernel_rfl) (fun _ _ _ h => h) (Or.inl ⟨rfl, ?_⟩) hHeld ?_
            rotate_left
            · intro w0 hS0
              try dsimp only at hS0
              go_simp
              try with_reducible rfl
            simp only [List.getElem_toArray, List.getElem_cons_zero, List.getElem_cons_succ, Act.put, List.setIfInBounds_toArray, List.set_cons_zero, List.set_cons_succ]
            refine wpAnyH_take (i := 6) (v := ?_) rfl (by kernel_rfl) (by kernel_rfl) (by kernel_rfl) (fun _ _ _ h => h) (Or.inl ⟨rfl, ?_⟩) hHeld ?_
            rotate_left
            · intro w0 hS0
              try dsimp only at hS0
              go_simp
              try with_reducible rfl
            simp only [List.getElem_toArray, List.getElem_cons_zero, List.getElem_cons_succ, Act.put, List.setIfInBounds_toArray, List.set_cons_zero, List.set_cons_succ]
            refine wpAnyH_take (i := 7) (v := ?_) rfl (by kernel_rfl) (by kernel_rfl) (by kernel_rfl) (fun _ _ _ h => h) (Or.inl ⟨rfl, ?_⟩) hHeld ?_
            rotate_left
            · intro w0 hS0
              try dsimp only at hS0
              go_simp
              try with_reducible rfl
            simp only [List.getElem_toArray, List.getElem_cons_zero, List.getElem_cons_succ, Act.put, List.setIfInBounds_toArray, List.set_cons_zero, List.set_cons_succ]
            refine wpAnyH_take (i := 8) (v := ?_) rfl (by kernel_rfl) (by kernel_rfl) (by kernel_rfl) (fun _ _ _ h => h) (Or.inl ⟨rfl, ?_⟩) hHeld ?_
            rotate_left
            · intro w0 hS0
              try dsimp only at hS0
              go_simp
              try with_reducible rfl
            simp only [List.getElem_toArray, List.getElem_cons_zero, List.getElem_cons_succ, Act.put, List.setIfInBounds_toArray, List.set_cons_zero, List.set_cons_succ]
            refine wpAnyH_take (i := 9) (v := ?_) rfl (by kernel_rfl) (by kernel_rfl) (by kernel_rfl) (fun _ _ _ h => h) (Or.inl ⟨rfl, ?_⟩) hHeld ?_
            rotate_left
            · intro w0 hS0
              try dsimp only at hS0
              go_simp
              try with_reducible rfl
            simp only [List.getElem_toArray, List.getElem_cons_zero, List.getElem_cons_succ, Act.put, List.setIfInBounds_toArray, List.set_cons_zero, List.set_cons_succ]
            refine wpAnyH_take (i := 10) (v := ?_) rfl (by kernel_rfl) (by kernel_rfl) (by kernel_rfl) (fun _ _ _ h => h) (Or.inl ⟨rfl, ?_⟩) hHeld ?_
            rotate_left
            · intro w0 hS0
              try dsimp only at hS0
              go_simp
              try with_reducible rfl
            simp only [List.getElem_toArray, List.getElem_cons_zero, List.getElem_cons_succ, Act.put, List.setIfInBounds_toArray, List.set_cons_zero, List.set_cons_succ]
            refine wpAnyH_take (i := 11) (v := ?_) rfl (by kernel_rfl) (by kernel_rfl) (by kernel_rfl) (fun _ _ _ h => h) (Or.inl ⟨rfl, ?_⟩) hHeld ?_
            rotate_left
            · intro w0 hS0
              try dsimp only at hS0
              go_simp
              try with_reducible rfl
            simp only [List.getElem_toArray, List.getElem_cons_zero, List.getElem_cons_succ, Act.put, List.setIfInBounds_toArray, List.set_cons_zero, List.set_cons_succ]
            refine wpAnyH_take (i := 12) (v := ?_) rfl (by kernel_rfl) (by kernel_rfl) (by kernel_rfl) (fun _ _ _ h => h) (Or.inl ⟨rfl, ?_⟩) hHeld ?_
            rotate_left
            · intro w0 hS0
              try dsimp only at hS0
              go_simp
              try with_reducible rfl
            simp only [List.getElem_toArray, List.getElem_cons_zero, List.getElem_cons_succ, Act.put, List.setIfInBounds_toArray, List.set_cons_zero, List.set_cons_succ]
            refine wpAnyH_take (i := 13) (v := ?_) rfl (by kernel_rfl) (by kernel_rfl) (by kernel_rfl) (fun _ _ _ h => h) (Or.inl ⟨rfl, ?_⟩) hHeld ?_
            rotate_left
            · intro w0 hS0
              try dsimp only at hS0
              go_simp
              try with_reducible rfl
            simp only [List.getElem_toArray, List.getElem_cons_zero, List.getElem_cons_succ, Act.put, List.setIfInBounds_toArray, List.set_cons_zero, List.set_cons_succ]
            refine wpAnyH_take (i := 14) (v := ?_) rfl (by kernel_rfl) (by kernel_rfl) (by kernel_rfl) (fun _ _ _ h => h) (Or.inl ⟨rfl, ?_⟩) hHeld ?_
            rotate_left
            · intro w0 hS0
              try dsimp only at hS0
              go_simp
              try with_reducible rfl
            simp only [List.getElem_toArray, List.getElem_cons_zero, List.getElem_cons_succ, Act.put, List.setIfInBounds_toArray, List.set_cons_zero, List.set_cons_succ]
            refine wpAnyH_take (i := 15) (v := ?_) rfl (by kernel_rfl) (by kernel_rfl) (by kernel_rfl) (fun _ _ _ h => h) (Or.inl ⟨rfl, ?_⟩) hHeld ?_
            rotate_left
            · intro w0 hS0
              try dsimp only at hS0
              go_simp
              try with_reducible rfl
            simp only [List.getElem_toArray, List.getElem_cons_zero, List.getElem_cons_succ, Act.put, List.setIfInBounds_toArray, List.set_cons_zero, List.set_cons_succ]
            refine wpAnyH_ready (rs := [16]) (by kernel_rfl) (by simp) ?_
            refine AllReadyH.cons rfl (fun K hK => ?_) AllReadyH.nil
            rw [if_pos (by rfl)]
            go_simp
            go_at_call 43
            refine HKS.out.mono ?_
            rintro e w9 ⟨rfl, hkr9, hu9⟩
            obtain ⟨c1', Fw, hpw, huw⟩ := HUP.out wr.drew w9 (Below.refl _ _).drew (setB nt.msg (kpsOf (ns.take k))) (k + 1) KF hkr9 hu9 (by omega) (by
              have h1 := HKL.out
              exact keepL (x := iRoute 0 ⟨#[]⟩ nt.msg 0) h1) (fun m hm => by
              rcases mem_setB hm with h | rfl
              · exact HOK.out m h
              · exact HSM2.out.1) (up_setBh HUPP.out)
            have huw' : Upd Fv Fw wr w9 := ⟨(Mod.of_below (Below.refl _ _).drew _).trans huw.1 (fun k hk => .inl hk), huw.2⟩
            obtain ⟨hph, hdh⟩ := HH.out.keepBy HD.out HU.out.fF huw'
            have HBX9 := Lib.hid (HBX.out.upd (upd_l huw'))
            obtain ⟨z0, z28, z29, z30, z31⟩ := HRG.out _ _ HBX9.out
            have HU9 := Lib.hid hpw
            have HH9 := Lib.hid hph
            have HD9 := Lib.hid hdh
            refine hK.out _ _ ⟨c1', z0, z28, z29, z30, z31⟩ (fun hHeld => ?_)
            clear c1' z0 z28 z29 z30 z31 hkr9 hu9 hpw huw huw' hph hdh
            refine wpAnyH_take (i := 17) (v := ?_) rfl (by kernel_rfl) (by kernel_rfl) (by kernel_rfl) (fun _ _ _ h => h) (Or.inl ⟨rfl, ?_⟩) hHeld ?_
            rotate_left
            · intro w0 hS0
              try dsimp only at hS0
              go_simp
              try with_reducible rfl
            simp only [List.getElem_toArray, List.getElem_cons_zero, List.getElem_cons_succ, Act.put, List.setIfInBounds_toArray, List.set_cons_zero, List.set_cons_succ]
            refine wpAnyH_take (i := 18) (v := ?_) rfl (by kernel_rfl) (by kernel_rfl) (by kernel_rfl) (fun _ _ _ h => h) (Or.inl ⟨rfl, ?_⟩) hHeld ?_
            rotate_left
            · intro w0 hS0
              try dsimp only at hS0
              go_simp
              try with_reducible rfl
            simp only [List.getElem_toArray, List.getElem_cons_zero, List.getElem_cons_succ, Act.put, List.setIfInBounds_toArray, List.set_cons_zero, List.set_cons_succ]
            refine wpAnyH_done (by kernel_rfl) ?_ _
            clear hHeld
            go_wp2_with fail
            go_roundw
            case rel => exact ⟨k + 1, Fw, by go_num, by omega, by rw [HTK.out]; exact HU9.out, HH9.out, HD9.out, HBX9.out⟩
            case measure => simp [intOf]; omega
          · have hkl : ¬ (k : Int) < ns.length := by omega
            obtain rfl : k = ns.length := by omega
            rw [List.take_length] at HU
            have hkl2 : (kpsOf ns).length ≤ 60 := by have := HU.out.kl; simp only at this; omega
            have hkp : (doH m l HubS.new).2.kp = kpsOf ns := HKN.out
            have hl3 : l.length ≤ 1000 := by omega
            have hn3 : ns.length ≤ 1000 := by omega
            go_wp2_with fail
            refine (kept_any W u m ns.length _ _ _ Fv wr HU.out hn3).mono ?_
            rintro e w12 ⟨vx, rfl, hox, hk12⟩
            obtain ⟨ax, cx, rfl, hrx, -, -⟩ := ownsRow_row hox
            have RX := Lib.hid hrx
            replace HH := Lib.hid (HH.out.below hk12)
            clear hk12 hox hrx
            go_wp2_with fail
            refine (kept_any W h m l.length _ _ _ Fx w12 HH.out hl3).mono ?_
            rintro e w13 ⟨vy, rfl, hoy, hk13⟩
            obtain ⟨ay, cy, rfl, hry, -, -⟩ := ownsRow_row hoy
            rw [hkp] at *
            have RY := Lib.hid hry
            replace RX := Lib.hid (RX.out.below hk13 (Nat.le_refl _))
            replace HH := Lib.hid (HH.out.below hk13)
            clear hk13 hoy hry hkp
            simp only at *
            go_wp2_with fail
            refine (same_any true ax ay cx cy (kpsOf ns) (kpsOf ns) w13 RX.out RY.out (by omega) (by omega) (by simp)).mono ?_
            rintro e w14 ⟨rfl, nd, rfl⟩
            replace HH := Lib.hid (HH.out.below (drewN_below _ nd))
            generalize w13.drewN nd = w14 at *
            go_wp2_with fail
            refine (HAW.out _ HH.out.bel).mono ?_
            rintro e w15 ⟨rfl, hk⟩
            have HK := Lib.hid (bnext HH.out.bel (Nat.le_refl _) hk)
            clear hk
            go_wp2_with fail
            go_ret
            exact ⟨rfl, HK.out⟩
end Go.Proofs.YthfdcphecggjeaaGreatDoor
