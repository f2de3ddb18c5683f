/- TrieTakes walked. -/
import Derived.Test.YtcnjgenacpkdbaaGreatDoorRTurn
namespace Go.Proofs.YtcnjgenacpkdbaaGreatDoor
open Go Go.RowKit

theorem putS_len (s : Str) (l : List Str) : (putS s l).length ≤ l.length + 1 := by
  induction l with
  | nil => simp [putS]
  | cons y r ih =>
    unfold putS
    split
    · rw [List.length_cons, List.length_cons]; omega
    · split
      · simp
      · simp
theorem told_len (s : Str) : ∀ (l : List Hint) (out : List Str), (l.foldl (fun out g => if matchB g.1 s then putS g.2 out else out) out).length ≤ out.length + l.length
  | [], out => Nat.le_refl _
  | g :: r, out => by
    rw [List.foldl_cons, List.length_cons]
    refine Nat.le_trans (told_len s r _) ?_
    split
    · have := putS_len g.2 out; omega
    · omega
theorem toldG_len (l : List Hint) (s : Str) : (toldG l s).length ≤ l.length := by
  have := told_len s l []
  simpa [toldG] using this
/-- a hint that tells x of the name s -/
def tellB (x s : Str) (g : Hint) : Bool := g.2 == x && matchB g.1 s
structure Tk (w0 w : World) (t : Nat) (Gs : List Hint) (N : Nat) (F : List Nat) (av : Option Addr) (ta : Option Addr) (T : List Str) : Prop where
  tr : Tr w0 w 60 t Gs N F
  bs : Beside w F av (hintsV Gs)
  row : Row w ta (strs T)
theorem Tk.below {w0 w w' : World} {t N : Nat} {Gs : List Hint} {F : List Nat} {av ta : Option Addr} {T : List Str} (h : Tk w0 w t Gs N F av ta T) (hb : Below w.heap.size w w') : Tk w0 w' t Gs N F av ta T := ⟨h.tr.below hb, h.bs.below hb, h.row.below hb (Nat.le_refl _)⟩
theorem Tk.drewN {w0 w : World} {t N : Nat} {Gs : List Hint} {F : List Nat} {av ta : Option Addr} {T : List Str} (h : Tk w0 w t Gs N F av ta T) (n : Nat) : Tk w0 (w.drewN n) t Gs N F av ta T := h.below (below_drewN (Below.refl _ _) n)
theorem match_y (b : Bool) (f s : ByteArray) (w : World) (hT : Tabs w) (hf : f.size ≤ 300) (hs : s.size ≤ 300) (hb : matchB f.data.toList s.data.toList = b) :
    Calls Tryz.prog 25 #[.string f, .string s] w fun e w' => e = .returned (.bool b) ∧ Below w.heap.size w w' := by
  subst hb
  exact match_any f s w hT (by omega) (by omega)

set_option maxRecDepth 100000 in
set_option maxHeartbeats 4000000 in
theorem takes_true (a : Option Addr) (c : Nat) (l : List Act) (w : World) (ha : Row w a (actsV l)) (hT : Tabs w) (hl : l.length ≤ maxLen) :
    Calls Tryz.prog 7 #[.slice a l.length c] w fun e w' => e = .returned (.bool true) ∧ Below w.heap.size w w' := by
  have HT := Lib.hid hT
  have HA := Lib.hid ha
  have HL := Lib.hid hl
  clear hT ha hl
  by_cases hg : greatB l = true
  · have HG := Lib.hid hg
    clear hg
    go_enter Tryz.func7, Tryz.ntmps7
    go_wp2_with fail
    refine (great_x true a c l w HA.out HL.out HG.out).mono ?_
    rintro e w1 ⟨rfl, rfl⟩
    go_wp2_with fail
    refine (awake_true w HT.out).mono ?_
    rintro e w1 ⟨rfl, hk⟩
    have HK := Lib.hid hk
    clear hk
    go_wp2_with fail
    go_ret
    exact ⟨rfl, HK.out⟩
  · have HG := Lib.hid (show greatB l = false by simpa using hg)
    clear hg
    obtain ⟨hok, hl60⟩ := great_ok HG.out
    have HOK := Lib.hid hok
    clear hok
    go_enter Tryz.func7, Tryz.ntmps7
    go_wp2_with fail
    refine (great_x false a c l w HA.out HL.out HG.out).mono ?_
    rintro e w1 ⟨rfl, rfl⟩
    go_wp2_with fail
    refine (made_any a c l w HA.out HT.out hl60 HOK.out).mono ?_
    rintro e w1 ⟨t, N, F, rfl, hO⟩
    have HO := Lib.hid hO
    clear hO HG HL
    generalize madeG l = Gs at *
    have HFI := Lib.hid HO.out.c.filters
    have hgl := HO.out.c.len
    go_wp2_with fail
    refine (all_x t _ _ Gs w _ _ HO.out (by omega)).mono ?_
    rintro e w2 ⟨av, cv, rfl, hb2, hk2⟩
    have hW2 : Tk w w2 t Gs N F av none [] := ⟨HO.out.below hk2, hb2, .inl rfl⟩
    clear hb2 hk2 HO
    go_wp2_with fail
    go_loopw [5] (fun i wr => ∃ k : Nat, i = .int .i64 k ∧ k ≤ l.length ∧ Tk w wr t Gs N F av none []) (fun i _ => (l.length - intOf i).toNat)
    case atStart => exact ⟨0, rfl, by omega, hW2⟩
    case round =>
      obtain ⟨k, rfl, hk, hW⟩ := hrel
      clear hW2
      have HW := Lib.hid hW
      clear hW
      by_cases hlt : k < l.length
      · obtain ⟨b1, o1, rfl, -, -, -, k3⟩ := acts_row (HA.out.below HW.out.tr.bel (Nat.le_refl _)) hlt
        have hk0 : (0 : Int) ≤ k := by omega
        have hkl : (k : Int) < l.length := by omega
        have HO1 := Lib.hid (HOK.out l[k] (List.getElem_mem hlt)).2.2
        generalize l[k] = x at *
        obtain ⟨xd, xf, xc, xm⟩ := x
        dsimp only at k3 HO1
        obtain ⟨T, hTT⟩ : ∃ T, toldG Gs xm.data.toList = T := ⟨_, rfl⟩
        have hTl : T.length ≤ 60 := by rw [← hTT]; exact Nat.le_trans (toldG_len _ _) hgl
        have HTT := Lib.hid hTT
        have HMEM : Hid (∀ c, c ∈ T ↔ ∃ g ∈ Gs, matchB g.1 xm.data.toList = true ∧ g.2 = c) := Lib.hid (fun c => by rw [← HTT.out]; exact mem_toldG)
        have HRI : Hid (Rising T) := Lib.hid (by rw [← HTT.out]; exact toldG_rising _ _)
        clear hTT
        go_wp2_with fail
        refine (match_x t _ _ xm T Gs w _ _ HW.out.tr HT.out HO1.out (by omega) HTT.out).mono ?_
        rintro e w3 ⟨ta, tc, rfl, hr3, hk3⟩
        have hW3 : Tk w w3 t Gs N F av ta T := ⟨HW.out.tr.below hk3, HW.out.bs.below hk3, hr3⟩
        clear hr3 hk3 HW
        go_wp2_with fail
        go_loopw [8] (fun i wr => ∃ j : Nat, i = .int .i64 j ∧ j ≤ T.length ∧ Tk w wr t Gs N F av ta T) (fun i _ => (T.length - intOf i).toNat)
        case atStart => exact ⟨0, rfl, by omega, hW3⟩
        case round =>
          obtain ⟨j, rfl, hj, hW⟩ := hrel
          clear hW3
          by_cases hjlt : j < T.length
          · have HCT := Lib.hid (fun w' (h : Row w' ta (strs T)) => strs_cell h hjlt)
            obtain ⟨b2, o2, rfl, j0⟩ := strs_cell hW.row hjlt
            have hj0 : (0 : Int) ≤ j := by omega
            have hjl : (j : Int) < T.length := by omega
            have HANY : Hid (Gs.any (tellB T[j] xm.data.toList) = true) := Lib.hid (by
              obtain ⟨g, hg, h1, h2⟩ := (HMEM.out T[j]).1 (List.getElem_mem hjlt)
              rw [List.any_eq_true]
              exact ⟨g, hg, by simp [tellB, h1, h2]⟩)
            have HPR : Hid (0 < j → ∃ h : j - 1 < T.length, T[j - 1] < T[j]) := Lib.hid (fun h0 => ⟨by omega, (List.pairwise_iff_getElem.1 HRI.out) (j - 1) j (by omega) hjlt (by omega)⟩)
            have HPC : Hid (∀ w' : World, Row w' (some ⟨b2, o2, none⟩) (strs T) → 0 < j → ∃ y : Str, y < T[j] ∧ w'.cell? ⟨b2, o2 + (j - 1), none⟩ = some (.string ⟨y.toArray⟩)) := Lib.hid (fun w' h h0 => by
              obtain ⟨h1, h2⟩ := HPR.out h0
              obtain ⟨b3, o3, e, h3⟩ := strs_cell h h1
              cases e
              exact ⟨_, h2, h3⟩)
            have HC2 : Hid (∀ w' : World, Row w' (some ⟨b2, o2, none⟩) (strs T) → w'.cell? ⟨b2, o2 + j, none⟩ = some (.string ⟨T[j].toArray⟩)) := Lib.hid (fun w' h => by
              obtain ⟨b3, o3, e, h3⟩ := strs_cell h hjlt
              cases e
              exact h3)
            clear HCT HPR
            generalize T[j] = x at *
            have HW := Lib.hid hW
            clear j0
            go_wp2_with fail
            go_loopw [9, 10] (fun s i wr => ∃ q : Nat, s = .bool ((Gs.take q).any (tellB x xm.data.toList)) ∧ i = .int .i64 q ∧ q ≤ Gs.length ∧ Tk w wr t Gs N F av (some ⟨b2, o2, none⟩) T) (fun _ i _ => (Gs.length - intOf i).toNat)
            case atStart => exact ⟨0, by simp, rfl, by omega, hW⟩
            case round =>
              obtain ⟨q, rfl, rfl, hq, hW⟩ := hrel
              clear HW
              by_cases hqlt : q < Gs.length
              · have HCG : Hid (∀ w' : World, Beside w' F av (hintsV Gs) → ∃ b o, av = some ⟨b, o, none⟩ ∧ w'.cell? ⟨b, o + q * 2, none⟩ = some (.string ⟨Gs[q].1.toArray⟩) ∧ w'.cell? ⟨b, o + q * 2 + 1, none⟩ = some (.string ⟨Gs[q].2.toArray⟩)) := Lib.hid (fun w' h => hints_row h.row hqlt)
                obtain ⟨b4, o4, rfl, g0, g1⟩ := HCG.out _ hW.bs
                have j0 := HC2.out _ hW.row
                have HC3 : Hid (∀ w' : World, Tk w w' t Gs N F (some ⟨b4, o4, none⟩) (some ⟨b2, o2, none⟩) T → w'.cell? ⟨b4, o4 + q * 2, none⟩ = some (.string ⟨Gs[q].1.toArray⟩) ∧ w'.cell? ⟨b4, o4 + q * 2 + 1, none⟩ = some (.string ⟨Gs[q].2.toArray⟩) ∧ w'.cell? ⟨b2, o2 + j, none⟩ = some (.string ⟨x.toArray⟩)) := Lib.hid (fun w' h => by
                  obtain ⟨b5, o5, e, h1, h2⟩ := HCG.out _ h.bs
                  cases e
                  exact ⟨h1, h2, HC2.out _ h.row⟩)
                have hfl := (HFI.out Gs[q] (List.getElem_mem hqlt)).2
                have hstep : (Gs.take (q + 1)).any (tellB x xm.data.toList) = ((Gs.take q).any (tellB x xm.data.toList) || tellB x xm.data.toList Gs[q]) := by
                  rw [List.take_succ_eq_append_getElem hqlt, List.any_append]; simp
                have HSTEP := Lib.hid hstep
                have HFL := Lib.hid (show (⟨Gs[q].1.toArray⟩ : ByteArray).size ≤ 300 from hfl)
                have hq0 : (0 : Int) ≤ q := by omega
                have hql : (q : Int) < Gs.length := by omega
                clear hstep HCG hfl
                generalize Gs[q] = g at *
                obtain ⟨gf, gc⟩ := g
                dsimp only at g0 g1 HFL HC3
                obtain ⟨bp, hbp⟩ : ∃ b, (Gs.take q).any (tellB x xm.data.toList) = b := ⟨_, rfl⟩
                rw [hbp] at HSTEP
                rw [hbp]
                have HBP := Lib.hid hbp
                clear hbp
                cases bp with
                | true =>
                  have HW := Lib.hid hW
                  clear HC3
                  go_wp2_with fail
                  go_quiet (fail)
                  go_wp2_with fail
                  go_roundw
                  case rel => exact ⟨q + 1, by rw [HSTEP.out]; rfl, by go_num, by omega, HW.out.drewN _⟩
                  case measure => simp [intOf]; omega
                | false =>
                  by_cases hxc : gc = x
                  · subst hxc
                    have hqe : (gc == gc) = true := by simp
                    obtain ⟨bm, hbm⟩ : ∃ b, matchB gf xm.data.toList = b := ⟨_, rfl⟩
                    have HBM := Lib.hid (show matchB (⟨gf.toArray⟩ : ByteArray).data.toList xm.data.toList = bm from hbm)
                    have HTB : Hid (tellB gc xm.data.toList (gf, gc) = bm) := Lib.hid (by simp [tellB, hbm])
                    clear hbm
                    go_wp2_with fail
                    go_region_held3 (fun w' => w'.cell? ⟨b4, o4 + q * 2, none⟩ = some (.string ⟨gf.toArray⟩) ∧ w'.cell? ⟨b4, o4 + q * 2 + 1, none⟩ = some (.string ⟨gc.toArray⟩) ∧ w'.cell? ⟨b2, o2 + j, none⟩ = some (.string ⟨gc.toArray⟩)) (first | exact sA | go_keep) (first
                      | (go_at_call 25; refine (match_y bm ⟨gf.toArray⟩ xm _ ?_ HFL.out HO1.out HBM.out).mono ?_; exact hW.tr.tabs HT.out; rintro e w6 ⟨rfl, hk6⟩; have hW6 := Tk.below (by first | exact hW | exact hW.drewN _) hk6; have sA := HC3.out _ hW6))
                    have HW6 := Lib.hid hW6
                    clear sA hW6 hk6 hW
                    go_wp2_with fail
                    go_roundw
                    case rel => exact ⟨q + 1, by rw [HSTEP.out, HTB.out]; simp, by go_num, by omega, HW6.out⟩
                    case measure => simp [intOf]; omega
                  · have hqe : (gc == x) = false := by simpa using hxc
                    have HTB : Hid (tellB x xm.data.toList (gf, gc) = false) := Lib.hid (by simp [tellB, hxc])
                    have HW := Lib.hid hW
                    clear HC3 hxc
                    go_wp2_with fail
                    go_quiet (fail)
                    go_wp2_with fail
                    go_roundw
                    case rel => exact ⟨q + 1, by rw [HSTEP.out, HTB.out]; rfl, by go_num, by omega, HW.out.drewN _⟩
                    case measure => simp [intOf]; omega
              · have hql : ¬ (q : Int) < Gs.length := by omega
                rw [List.take_of_length_le (by omega), HANY.out]
                have j0 := HC2.out _ hW.row
                by_cases h0 : 0 < j
                · obtain ⟨y, hy, j1⟩ := HPC.out _ hW.row h0
                  have hbl : Op.bytesLess y x = true := by rw [bytesLess_eq]; exact decide_eq_true hy
                  have hj1 : IntKind.i64.wrap ((j : Int) - 1) = ((j - 1 : Nat) : Int) := by rw [w_i64 _ (by omega) (by omega)]; omega
                  have hj2 : ((j - 1 : Nat) : Int) < T.length := by omega
                  have hj3 : (0 : Int) ≤ ((j - 1 : Nat) : Int) := by omega
                  have hj4 : (0 : Int) < j := by omega
                  have HW := Lib.hid hW
                  clear hy
                  go_wp2_with fail
                  go_quiet (fail)
                  go_wp2_with fail
                  go_roundw
                  case rel => exact ⟨j + 1, by go_num, by omega, HW.out.drewN _⟩
                  case measure => simp [intOf]; omega
                · obtain rfl : j = 0 := by omega
                  have HW := Lib.hid hW
                  go_wp2_with fail
                  go_quiet (fail)
                  go_wp2_with fail
                  go_roundw
                  case rel => exact ⟨1, by go_num, by omega, HW.out.drewN _⟩
                  case measure => simp [intOf]; omega
          · have hjl : ¬ (j : Int) < T.length := by omega
            go_wp2_with fail
            go_loopw [11] (fun i wr => ∃ q : Nat, i = .int .i64 q ∧ q ≤ Gs.length ∧ Tk w wr t Gs N F av ta T) (fun i _ => (Gs.length - intOf i).toNat)
            case atStart => exact ⟨0, rfl, by omega, hW⟩
            case round =>
              generalize wr = wb at *
              obtain ⟨q, rfl, hq, hW⟩ := hrel
              by_cases hqlt : q < Gs.length
              · have HCG : Hid (∀ w' : World, Beside w' F av (hintsV Gs) → ∃ b o, av = some ⟨b, o, none⟩ ∧ w'.cell? ⟨b, o + q * 2, none⟩ = some (.string ⟨Gs[q].1.toArray⟩) ∧ w'.cell? ⟨b, o + q * 2 + 1, none⟩ = some (.string ⟨Gs[q].2.toArray⟩)) := Lib.hid (fun w' h => hints_row h.row hqlt)
                obtain ⟨b4, o4, rfl, g0, g1⟩ := HCG.out _ hW.bs
                have HC3 : Hid (∀ w' : World, Tk w w' t Gs N F (some ⟨b4, o4, none⟩) ta T → w'.cell? ⟨b4, o4 + q * 2, none⟩ = some (.string ⟨Gs[q].1.toArray⟩) ∧ w'.cell? ⟨b4, o4 + q * 2 + 1, none⟩ = some (.string ⟨Gs[q].2.toArray⟩)) := Lib.hid (fun w' h => by
                  obtain ⟨b5, o5, e, h1, h2⟩ := HCG.out _ h.bs
                  cases e
                  exact ⟨h1, h2⟩)
                have HFL := Lib.hid (show (⟨Gs[q].1.toArray⟩ : ByteArray).size ≤ 300 from (HFI.out Gs[q] (List.getElem_mem hqlt)).2)
                have HIN : Hid (matchB Gs[q].1 xm.data.toList = true → Gs[q].2 ∈ T) := Lib.hid (fun h => (HMEM.out _).2 ⟨_, List.getElem_mem hqlt, h, rfl⟩)
                have hq0 : (0 : Int) ≤ q := by omega
                have hql : (q : Int) < Gs.length := by omega
                clear HCG
                generalize Gs[q] = g at *
                obtain ⟨gf, gc⟩ := g
                dsimp only at g0 g1 HFL HC3 HIN
                obtain ⟨bm, hbm⟩ : ∃ b, matchB gf xm.data.toList = b := ⟨_, rfl⟩
                have HBM := Lib.hid (show matchB (⟨gf.toArray⟩ : ByteArray).data.toList xm.data.toList = bm from hbm)
                have HIN2 : Hid (bm = true → decide ((⟨gc.toArray⟩ : ByteArray).data.toList ∈ T) = true) := Lib.hid (fun h => decide_eq_true (HIN.out (by rw [hbm, h])))
                clear hbm HIN
                have HW := Lib.hid hW
                clear hW
                go_wp2_with fail
                refine (match_y bm ⟨gf.toArray⟩ xm _ (HW.out.tr.tabs HT.out) HFL.out HO1.out HBM.out).mono ?_
                rintro e w6 ⟨rfl, hk6⟩
                replace HW := Lib.hid (HW.out.below hk6)
                clear g0 g1 hk6
                obtain ⟨g0, g1⟩ := HC3.out _ HW.out
                cases bm with
                | false =>
                  go_wp2_with fail
                  go_roundw
                  case rel => exact ⟨q + 1, by go_num, by omega, HW.out⟩
                  case measure => simp [intOf]; omega
                | true =>
                  go_wp2_with fail
                  refine (has_x true ta _ tc T ⟨gc.toArray⟩ w6 HW.out.row (by omega) rfl (HIN2.out trivial)).mono ?_
                  rintro e w7 ⟨rfl, rfl⟩
                  go_wp2_with fail
                  go_roundw
                  case rel => exact ⟨q + 1, by go_num, by omega, HW.out⟩
                  case measure => simp [intOf]; omega
              · have hql : ¬ (q : Int) < Gs.length := by omega
                have HW : Hid (Tk w wb t Gs N F av none []) := Lib.hid ⟨hW.tr, hW.bs, .inl rfl⟩
                clear hW
                go_wp2_with fail
                go_roundw
                case rel => exact ⟨k + 1, by go_num, by omega, HW.out⟩
                case measure => simp [intOf]; omega
      · have hkl : ¬ (k : Int) < l.length := by omega
        go_wp2_with fail
        refine (len_x t _ _ Gs.length Gs w _ _ HW.out.tr rfl).mono ?_
        rintro e w3 ⟨rfl, rfl⟩
        go_wp2_with fail
        refine (awake_true _ (HW.out.tr.tabs HT.out)).mono ?_
        rintro e w10 ⟨rfl, hk10⟩
        replace HW := Lib.hid (HW.out.below hk10)
        clear hk10
        go_wp2_with fail
        go_ret
        exact ⟨rfl, HW.out.tr.bel⟩
end Go.Proofs.YtcnjgenacpkdbaaGreatDoor
