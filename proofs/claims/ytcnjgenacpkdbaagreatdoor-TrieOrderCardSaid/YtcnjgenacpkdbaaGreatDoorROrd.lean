/- TrieOrder walked. -/
import Derived.Test.YtcnjgenacpkdbaaGreatDoorRTurn
namespace Go.Proofs.YtcnjgenacpkdbaaGreatDoor
open Go Go.RowKit

theorem putS_len (s : Str) (l : List Str) : (putS s l).length ≤ l.length + 1 := by
  induction l with
  | nil => simp [putS]
  | cons y r ih =>
    unfold putS
    split
    · rw [List.length_cons, List.length_cons]; omega
    · split
      · simp
      · simp
theorem told_len (s : Str) : ∀ (l : List Hint) (out : List Str), (l.foldl (fun out g => if matchB g.1 s then putS g.2 out else out) out).length ≤ out.length + l.length
  | [], out => Nat.le_refl _
  | g :: r, out => by
    rw [List.foldl_cons, List.length_cons]
    refine Nat.le_trans (told_len s r _) ?_
    split
    · have := putS_len g.2 out; omega
    · omega
theorem toldG_len (l : List Hint) (s : Str) : (toldG l s).length ≤ l.length := by
  have := told_len s l []
  simpa [toldG] using this
/-- two tries, and a row beside both -/
structure Ord (w0 w : World) (n t : Nat) (Gs : List Hint) (N : Nat) (F : List Nat) (m u : Nat) (Us : List Hint) (M : Nat) (G : List Nat) (av : Option Addr) (xs : List Value) : Prop where
  two : Two w0 w n t Gs N F m u Us M G
  ba : Beside w F av xs
  bb : Beside w G av xs
section
variable {w0 w w' : World} {n n' t N N' m m' u M M' : Nat} {Gs Gs' Us Us' : List Hint} {F F' G G' : List Nat} {av : Option Addr} {xs : List Value}
theorem Ord.below (h : Ord w0 w n t Gs N F m u Us M G av xs) (hb : Below w.heap.size w w') : Ord w0 w' n t Gs N F m u Us M G av xs := ⟨h.two.below hb, h.ba.below hb, h.bb.below hb⟩
theorem Ord.drewN (h : Ord w0 w n t Gs N F m u Us M G av xs) (k : Nat) : Ord w0 (w.drewN k) n t Gs N F m u Us M G av xs := h.below (below_drewN (Below.refl _ _) k)
theorem Ord.updB (h : Ord w0 w n t Gs N F m u Us M G av xs) (hc : HR m' w' u Us' M' G') (hu : Upd G G' w w') : Ord w0 w' n t Gs N F m' u Us' M' G' av xs := ⟨h.two.updB hc hu, h.ba.mod h.bb hu, h.bb.upd hu⟩
theorem Ord.symm (h : Ord w0 w n t Gs N F m u Us M G av xs) : Ord w0 w m u Us M G n t Gs N F av xs := ⟨h.two.symm, h.bb, h.ba⟩
theorem Ord.updA (h : Ord w0 w n t Gs N F m u Us M G av xs) (hc : HR n' w' t Gs' N' F') (hu : Upd F F' w w') : Ord w0 w' n' t Gs' N' F' m u Us M G av xs := (h.symm.updB hc hu).symm
end
theorem same_self (T : List Str) : decide (T = T) = true := by simp
theorem perm_take {R Us : List Hint} {k : Nat} {g : Hint} (h : Us.Perm (R.take k)) (hg : R[k]? = some g) (hn : R.Nodup) : g ∉ Us ∧ (insH g Us).Perm (R.take (k + 1)) := by
  obtain ⟨hk, e⟩ := List.getElem?_eq_some_iff.1 hg
  have hs := List.take_succ_eq_append_getElem hk
  rw [e] at hs
  have hni : g ∉ R.take k := fun hi => by
    have : (R.take (k + 1)).Nodup := List.Nodup.sublist (List.take_sublist _ _) hn
    rw [hs] at this
    exact (List.nodup_append.1 this).2.2 g hi g (by simp) rfl
  refine ⟨fun hi => hni (h.mem_iff.1 hi), ?_⟩
  rw [hs]
  exact (perm_insH g Us).trans ((h.cons g).trans (List.perm_append_comm (l₁ := [g])))
theorem mem_actG {g : Hint} {Gs : List Hint} {x : Act} (h : g ∈ actG Gs x) : g ∈ Gs ∨ g = (x.f.data.toList, x.c.data.toList) := by
  unfold actG at h
  split at h
  · unfold addG at h
    split at h
    · rcases List.mem_cons.1 ((perm_insH _ _).mem_iff.1 h) with h | h
      · exact .inr h
      · exact .inl h
    · exact .inl h
  · split at h
    · exact .inl (List.mem_of_mem_erase h)
    · exact .inl h
theorem fold_client {l : List Act} (h : allOk l) : ∀ Gs : List Hint, (∀ g ∈ Gs, g.2.length ≤ 300) → ∀ g ∈ l.foldl actG Gs, g.2.length ≤ 300 := by
  induction l with
  | nil => intro Gs hg; exact hg
  | cons x r ih =>
    intro Gs hg
    refine ih (fun y hy => h y (List.mem_cons_of_mem _ hy)) _ (fun g hm => ?_)
    rcases mem_actG hm with hm | rfl
    · exact hg g hm
    · exact (h x (List.mem_cons_self ..)).2.1
theorem made_client {l : List Act} (h : allOk l) : ∀ g ∈ madeG l, g.2.length ≤ 300 := fold_client h [] (by simp)
theorem perm_drop {R Ts : List Hint} {k : Nat} {g : Hint} (h : Ts.Perm (R.drop k)) (hg : R[k]? = some g) : g ∈ Ts ∧ (Ts.erase g).Perm (R.drop (k + 1)) := by
  obtain ⟨hk, e⟩ := List.getElem?_eq_some_iff.1 hg
  have hs := List.drop_eq_getElem_cons hk
  rw [e] at hs
  rw [hs] at h
  refine ⟨h.mem_iff.2 (List.mem_cons_self ..), ?_⟩
  have := h.erase g
  rwa [List.erase_cons_head] at this

set_option maxRecDepth 100000 in
set_option maxHeartbeats 8000000 in
theorem order_true (a : Option Addr) (c : Nat) (l : List Act) (d : Nat) (w : World) (ha : Row w a (actsV l)) (hT : Tabs w) (hl : l.length ≤ maxLen) (hd : d ≤ 255) :
    Calls Tryz.prog 4 #[.slice a l.length c, .int .u8 d] w fun e w' => e = .returned (.bool true) ∧ Below w.heap.size w w' := by
  have HT := Lib.hid hT
  have HA := Lib.hid ha
  have HL := Lib.hid hl
  clear hT ha hl
  by_cases hg : greatB l = true
  · have HG := Lib.hid hg
    clear hg
    go_enter Tryz.func4, Tryz.ntmps4
    go_wp2_with fail
    refine (great_x true a c l w HA.out HL.out HG.out).mono ?_
    rintro e w1 ⟨rfl, rfl⟩
    go_wp2_with fail
    refine (awake_true w HT.out).mono ?_
    rintro e w1 ⟨rfl, hk⟩
    have HK := Lib.hid hk
    clear hk
    go_wp2_with fail
    go_ret
    exact ⟨rfl, HK.out⟩
  · have HG := Lib.hid (show greatB l = false by simpa using hg)
    clear hg
    obtain ⟨hok, hl60⟩ := great_ok HG.out
    have HOK := Lib.hid hok
    clear hok
    go_enter Tryz.func4, Tryz.ntmps4
    go_wp2_with fail
    refine (great_x false a c l w HA.out HL.out HG.out).mono ?_
    rintro e w1 ⟨rfl, rfl⟩
    go_wp2_with fail
    refine (made_any a c l w HA.out HT.out hl60 HOK.out).mono ?_
    rintro e w1 ⟨t, N, F, rfl, hO⟩
    have HO := Lib.hid hO
    have HCA : Hid (∀ j (hj : j < l.length) (w' : World), Below w.heap.size w w' → ∃ b o, a = some ⟨b, o, none⟩ ∧ w'.cell? ⟨b, o + j * 4 + 3, none⟩ = some (.string l[j].m)) := Lib.hid (fun j hj w' hb => by
      obtain ⟨b, o, e, -, -, -, h⟩ := acts_row (HA.out.below hb (Nat.le_refl _)) hj
      exact ⟨b, o, e, h⟩)
    have HCL0 := Lib.hid (made_client HOK.out)
    clear hO HG HL HA
    generalize madeG l = Gs at *
    have HFI := Lib.hid HO.out.c.filters
    have HRG := Lib.hid HO.out.c.rising
    have hgl := HO.out.c.len
    go_wp2_with fail
    refine (all_x t _ _ Gs w _ _ HO.out (by omega)).mono ?_
    rintro e w2 ⟨av, cv, rfl, hb2, hk2⟩
    replace HO := Lib.hid (HO.out.below hk2)
    have HB := Lib.hid hb2
    clear hb2 hk2
    go_wp2_with fail
    refine (hnew _).mono ?_
    rintro e w3 ⟨u, G0, rfl, hq, hu⟩
    have hW3 : Ord w w3 60 t Gs N F 0 u [] 1 G0 av (hintsV Gs) := ⟨Two.start HO.out hq hu, HB.out.mod (G := []) (G' := G0) (by
      rcases HB.out with h | ⟨b, o, h1, h2, h3, h4⟩
      · exact .inl h
      · exact .inr ⟨b, o, h1, by simp, h3, h4⟩) hu, (by
      have : Beside w2 [] av (hintsV Gs) := by
        rcases HB.out with h | ⟨b, o, h1, h2, h3, h4⟩
        · exact .inl h
        · exact .inr ⟨b, o, h1, by simp, h3, h4⟩
      exact this.upd hu)⟩
    clear HO HB hq hu
    obtain ⟨R, hR⟩ : ∃ R, rot d Gs = R := ⟨_, rfl⟩
    have HRL := Lib.hid (show R.length = Gs.length by rw [← hR]; exact rot_len d Gs)
    have HRP := Lib.hid (show R.Perm Gs by rw [← hR]; exact rot_perm d Gs)
    have HRN := Lib.hid (show R.Nodup by rw [← hR]; exact rot_nodup HRG.out)
    have HRA : Hid (∀ k, k < Gs.length → ∃ h : (k + d) % Gs.length < Gs.length, R[k]? = some Gs[(k + d) % Gs.length]) := Lib.hid (fun k hk => ⟨Nat.mod_lt _ (by omega), by rw [← hR]; exact rot_at hk (Nat.mod_lt _ (by omega))⟩)
    clear hR
    have hd0 : IntKind.i64.wrap (d : Int) = d := w_i64 _ (by omega) (by omega)
    go_wp2_with fail
    go_loopw [8] (fun i wr => ∃ k : Nat, i = .int .i64 k ∧ k ≤ Gs.length ∧ ∃ Us M G, Ord w wr 60 t Gs N F k u Us M G av (hintsV Gs) ∧ Us.Perm (R.take k)) (fun i _ => (Gs.length - intOf i).toNat)
    case atStart => exact ⟨0, rfl, by omega, [], 1, G0, hW3, by simp⟩
    case round =>
      obtain ⟨k, rfl, hk, Us, M, G, hW, hp⟩ := hrel
      clear hW3
      by_cases hlt : k < Gs.length
      · obtain ⟨hx, hRk⟩ := HRA.out k hlt
        have HCG : Hid (∀ (w' : World) (G' : List Nat), Beside w' G' av (hintsV Gs) → ∃ b o, av = some ⟨b, o, none⟩ ∧ w'.cell? ⟨b, o + (k + d) % Gs.length * 2, none⟩ = some (.string ⟨Gs[(k + d) % Gs.length].1.toArray⟩) ∧ w'.cell? ⟨b, o + (k + d) % Gs.length * 2 + 1, none⟩ = some (.string ⟨Gs[(k + d) % Gs.length].2.toArray⟩)) := Lib.hid (fun w' G' h => hints_row h.row hx)
        obtain ⟨b4, o4, rfl, g0, g1⟩ := HCG.out _ _ hW.ba
        have HFL := Lib.hid (HFI.out Gs[(k + d) % Gs.length] (List.getElem_mem hx))
        have HCL := Lib.hid (HCL0.out Gs[(k + d) % Gs.length] (List.getElem_mem hx))
        obtain ⟨hni, hnp⟩ := perm_take hp hRk HRN.out
        have hadd : addB Us Gs[(k + d) % Gs.length].1 Gs[(k + d) % Gs.length].2 = true := by
          unfold addB
          rw [HFL.out.1]
          simpa using hni
        have haddG : addG Us Gs[(k + d) % Gs.length].1 Gs[(k + d) % Gs.length].2 = insH Gs[(k + d) % Gs.length] Us := by
          unfold addG
          rw [hadd, if_pos rfl]
        obtain ⟨U2, hU2⟩ : ∃ U2, insH Gs[(k + d) % Gs.length] Us = U2 := ⟨_, rfl⟩
        rw [hU2] at haddG hnp
        have HC3 : Hid (∀ (w' : World) (G' : List Nat), Beside w' G' (some ⟨b4, o4, none⟩) (hintsV Gs) → w'.cell? ⟨b4, o4 + (k + d) % Gs.length * 2, none⟩ = some (.string ⟨Gs[(k + d) % Gs.length].1.toArray⟩) ∧ w'.cell? ⟨b4, o4 + (k + d) % Gs.length * 2 + 1, none⟩ = some (.string ⟨Gs[(k + d) % Gs.length].2.toArray⟩)) := Lib.hid (fun w' G' h => by
          obtain ⟨b5, o5, e, h1, h2⟩ := HCG.out _ _ h
          cases e
          exact ⟨h1, h2⟩)
        clear HCG hRk hni hU2 hp
        have hk0 : (0 : Int) ≤ k := by omega
        have hkl : (k : Int) < Gs.length := by omega
        have hs1 : IntKind.i64.wrap ((k : Int) + d) = (k : Int) + d := w_i64 _ (by omega) (by omega)
        have hs3 : ((Gs.length : Int) == 0) = false := by rw [beq_eq_false_iff_ne]; omega
        generalize Gs[(k + d) % Gs.length] = g at *
        have hs2' : ((k : Int) + d) % (Gs.length : Int) = (((k + d) % Gs.length : Nat) : Int) := by push_cast; rfl
        generalize (k + d) % Gs.length = x at *
        obtain ⟨gf, gc⟩ := g
        dsimp only at g0 g1 HFL HCL HC3 hadd haddG
        have hx0 : (0 : Int) ≤ x := by omega
        have hxl : (x : Int) < Gs.length := by omega
        have HNP := Lib.hid hnp
        have HADD := Lib.hid (show addB Us (⟨gf.toArray⟩ : ByteArray).data.toList (⟨gc.toArray⟩ : ByteArray).data.toList = true from hadd)
        have HADG := Lib.hid (show addG Us (⟨gf.toArray⟩ : ByteArray).data.toList (⟨gc.toArray⟩ : ByteArray).data.toList = U2 from haddG)
        clear hnp hadd haddG hx
        obtain ⟨k0, k1⟩ := HC3.out _ _ hW.ba
        clear g0 g1
        have HK := Lib.hid (show k ≤ 1000 by omega)
        have HFS := Lib.hid (show (⟨gf.toArray⟩ : ByteArray).size ≤ 300 from HFL.out.2)
        have HCS := Lib.hid (show (⟨gc.toArray⟩ : ByteArray).size ≤ 300 from HCL.out)
        go_wp2_with fail
        go_region_held3 (fun w' => w'.cell? ⟨b4, o4 + x * 2, none⟩ = some (.string ⟨gf.toArray⟩) ∧ w'.cell? ⟨b4, o4 + x * 2 + 1, none⟩ = some (.string ⟨gc.toArray⟩)) (first | exact sA | go_keep) (first
          | (go_at_call 15; refine (add_x u M k ⟨gf.toArray⟩ ⟨gc.toArray⟩ true Us U2 w G _ ?_ HT.out HFS.out HCS.out HK.out HADD.out HADG.out).mono ?_; (first | exact hW.two.b | exact (hW.drewN _).two.b); rintro e w6 ⟨rfl, M6, G6, hO6, hu6⟩; have hW6 := Ord.updB (by first | exact hW | exact hW.drewN _) hO6.c hu6; have sA := HC3.out _ _ hW6.ba))
        have HW6 := Lib.hid hW6
        clear sA hW6 hO6 hu6 hW
        go_wp2_with fail
        go_roundw
        case rel => exact ⟨k + 1, by go_num, by omega, _, _, _, HW6.out, HNP.out⟩
        case measure => simp [intOf]; omega
      · have hkl : ¬ (k : Int) < Gs.length := by omega
        have hp2 : Us.Perm Gs := by
          rw [List.take_of_length_le (by rw [HRL.out]; omega)] at hp
          exact hp.trans HRP.out
        obtain rfl : Gs = Us := (hrising_ext hW.two.b.c.rising HRG.out hp2).symm
        obtain ⟨nn, hnn⟩ : ∃ n, nodesOf Gs = n := ⟨_, rfl⟩
        have HNOD := Lib.hid hnn
        have HW := Lib.hid hW
        have H60 := Lib.hid (show (60 : Nat) ≤ 1000 by omega)
        have HKK := Lib.hid (show k ≤ 1000 by omega)
        clear hp hp2 hnn hW
        go_wp2_with fail
        refine (all_x u _ _ Gs w _ _ HW.out.two.b HKK.out).mono ?_
        rintro e w5 ⟨a5, c5, rfl, hb5, hk5⟩
        replace HW := Lib.hid (HW.out.below hk5)
        have HB5 := Lib.hid hb5
        clear hb5 hk5
        go_wp2_with fail
        refine (sameH_x true a5 av c5 cv _ _ Gs Gs w5 HB5.out.row HW.out.ba.row (by omega) rfl rfl (by simp)).mono ?_
        rintro e w6 ⟨rfl, nd, rfl⟩
        replace HW := Lib.hid (HW.out.drewN nd)
        clear HB5
        generalize w5.drewN nd = W6 at *
        go_wp2_with fail
        refine (nodes_x u _ _ nn Gs w _ W6 HW.out.two.b HNOD.out).mono ?_
        rintro e w7 ⟨rfl, rfl⟩
        go_wp2_with fail
        refine (nodes_x t _ _ nn Gs w _ W6 HW.out.two.a HNOD.out).mono ?_
        rintro e w7 ⟨rfl, rfl⟩
        go_wp2_with fail
        go_loopw [10] (fun i wr => ∃ j : Nat, i = .int .i64 j ∧ j ≤ l.length ∧ Ord w wr 60 t Gs N F k u Gs M G av (hintsV Gs)) (fun i _ => (l.length - intOf i).toNat)
        case atStart => exact ⟨0, rfl, by omega, HW.out⟩
        case round =>
          generalize wr = wb at *
          obtain ⟨j, rfl, hj, hW⟩ := hrel
          clear HW
          by_cases hjlt : j < l.length
          · obtain ⟨b1, o1, rfl, k0⟩ := HCA.out j hjlt _ hW.two.a.bel
            have HC3 : Hid (∀ w' : World, Ord w w' 60 t Gs N F k u Gs M G av (hintsV Gs) → w'.cell? ⟨b1, o1 + j * 4 + 3, none⟩ = some (.string l[j].m)) := Lib.hid (fun w' h => by
              obtain ⟨b2, o2, e, h1⟩ := HCA.out j hjlt _ h.two.a.bel
              cases e
              exact h1)
            have HMS := Lib.hid (HOK.out l[j] (List.getElem_mem hjlt)).2.2
            generalize l[j] = x at *
            obtain ⟨xd, xf, xc, xm⟩ := x
            dsimp only at k0 HC3 HMS
            have hj0 : (0 : Int) ≤ j := by omega
            have hjl : (j : Int) < l.length := by omega
            obtain ⟨T, hTT⟩ : ∃ T, toldG Gs xm.data.toList = T := ⟨_, rfl⟩
            have hTl : T.length ≤ 60 := by rw [← hTT]; exact Nat.le_trans (toldG_len _ _) hgl
            have HTT := Lib.hid hTT
            have HTL := Lib.hid (show (T.length : Int) < 4611686018427387904 by omega)
            clear hTT
            go_wp2_with fail
            go_region_held3 (fun w' => w'.cell? ⟨b1, o1 + j * 4 + 3, none⟩ = some (.string xm)) (first | exact sC | exact sB | exact sA | go_keep) (first
              | (go_at_call 17; have hdum := hW7; clear hdum; refine (sameT_any true a6 a7 c6 c7 T T _ ?_ ?_ HTL.out (same_self T)).mono ?_; exact hr67; exact hr7; rintro e w8 ⟨rfl, nd, rfl⟩; have hW8 := hW7.drewN nd; have sC := HC3.out _ hW8)
              | (go_at_call 18; have hdum := hW6; clear hdum; refine (match_x t N 60 xm T Gs w F _ ?_ HT.out HMS.out H60.out HTT.out).mono ?_; exact hW6.two.a; rintro e w7 ⟨a7, c7, rfl, hr7, hk7⟩; have hW7 := hW6.below hk7; have hr67 := hr6.below hk7 (Nat.le_refl _); have sB := HC3.out _ hW7)
              | (go_at_call 18; refine (match_x u M k xm T Gs w G _ ?_ HT.out HMS.out HKK.out HTT.out).mono ?_; (first | exact hW.two.b | exact (hW.drewN _).two.b); rintro e w6 ⟨a6, c6, rfl, hr6, hk6⟩; have hW6 := Ord.below (by first | exact hW | exact hW.drewN _) hk6; have sA := HC3.out _ hW6))
            have HW8 := Lib.hid hW8
            clear sA sB sC hW8 hW7 hW6 hr6 hr67 hr7 hk6 hk7 hW k0
            go_wp2_with fail
            go_roundw
            case rel => exact ⟨j + 1, by go_num, by omega, HW8.out⟩
            case measure => simp [intOf]; omega
          · have hjl : ¬ (j : Int) < l.length := by omega
            have HW := Lib.hid hW
            clear hW
            go_wp2_with fail
            go_loopw [11] (fun i wr => ∃ q : Nat, i = .int .i64 q ∧ q ≤ Gs.length ∧ ∃ Ts N F, Tr w wr 60 t Ts N F ∧ Beside wr F av (hintsV Gs) ∧ Ts.Perm (R.drop q)) (fun i _ => (Gs.length - intOf i).toNat)
            case atStart => exact ⟨0, rfl, by omega, Gs, N, F, HW.out.two.a, HW.out.ba, by simpa using HRP.out.symm⟩
            case round =>
              generalize wr = wc at *
              obtain ⟨q, rfl, hq, Ts, N1, F1, hW, hB, hp⟩ := hrel
              clear HW
              by_cases hqlt : q < Gs.length
              · obtain ⟨hx, hRk⟩ := HRA.out q hqlt
                have HCG : Hid (∀ (w' : World) (G' : List Nat), Beside w' G' av (hintsV Gs) → ∃ b o, av = some ⟨b, o, none⟩ ∧ w'.cell? ⟨b, o + (q + d) % Gs.length * 2, none⟩ = some (.string ⟨Gs[(q + d) % Gs.length].1.toArray⟩) ∧ w'.cell? ⟨b, o + (q + d) % Gs.length * 2 + 1, none⟩ = some (.string ⟨Gs[(q + d) % Gs.length].2.toArray⟩)) := Lib.hid (fun w' G' h => hints_row h.row hx)
                obtain ⟨b4, o4, rfl, g0, g1⟩ := HCG.out _ _ hB
                have HFL := Lib.hid (HFI.out Gs[(q + d) % Gs.length] (List.getElem_mem hx)).2
                have HCL := Lib.hid (HCL0.out Gs[(q + d) % Gs.length] (List.getElem_mem hx))
                obtain ⟨hin, hnp⟩ := perm_drop hp hRk
                have hlen : (Ts.erase Gs[(q + d) % Gs.length]).length = Gs.length - q - 1 := by
                  rw [hnp.length_eq, List.length_drop, HRL.out]; omega
                obtain ⟨T2, hT2⟩ : ∃ T2, Ts.erase Gs[(q + d) % Gs.length] = T2 := ⟨_, rfl⟩
                rw [hT2] at hlen hnp
                have HC3 : Hid (∀ (w' : World) (G' : List Nat), Beside w' G' (some ⟨b4, o4, none⟩) (hintsV Gs) → w'.cell? ⟨b4, o4 + (q + d) % Gs.length * 2, none⟩ = some (.string ⟨Gs[(q + d) % Gs.length].1.toArray⟩) ∧ w'.cell? ⟨b4, o4 + (q + d) % Gs.length * 2 + 1, none⟩ = some (.string ⟨Gs[(q + d) % Gs.length].2.toArray⟩)) := Lib.hid (fun w' G' h => by
                  obtain ⟨b5, o5, e, h1, h2⟩ := HCG.out _ _ h
                  cases e
                  exact ⟨h1, h2⟩)
                clear HCG hRk hp
                have hk0 : (0 : Int) ≤ q := by omega
                have hql : (q : Int) < Gs.length := by omega
                have hs1 : IntKind.i64.wrap ((q : Int) + d) = (q : Int) + d := w_i64 _ (by omega) (by omega)
                have hs3 : ((Gs.length : Int) == 0) = false := by rw [beq_eq_false_iff_ne]; omega
                have hs2' : ((q : Int) + d) % (Gs.length : Int) = (((q + d) % Gs.length : Nat) : Int) := by push_cast; rfl
                generalize Gs[(q + d) % Gs.length] = g at *
                generalize (q + d) % Gs.length = x at *
                obtain ⟨gf, gc⟩ := g
                dsimp only at g0 g1 HFL HCL HC3
                have hx0 : (0 : Int) ≤ x := by omega
                have hxl : (x : Int) < Gs.length := by omega
                obtain ⟨z, hz⟩ : ∃ z, Gs.length - q - 1 = z := ⟨_, rfl⟩
                rw [hz] at hlen
                have hz1 : IntKind.i64.wrap ((Gs.length : Int) - q) = (Gs.length : Int) - q := w_i64 _ (by omega) (by omega)
                have hz2 : (Gs.length : Int) - q - 1 = z := by omega
                have hz3 : IntKind.i64.wrap (z : Int) = z := w_i64 _ (by omega) (by omega)
                have HNP := Lib.hid hnp
                have HLE := Lib.hid hlen
                have HIN := Lib.hid (show decide (((⟨gf.toArray⟩ : ByteArray).data.toList, (⟨gc.toArray⟩ : ByteArray).data.toList) ∈ Ts) = true from decide_eq_true hin)
                have HER := Lib.hid (show Ts.erase ((⟨gf.toArray⟩ : ByteArray).data.toList, (⟨gc.toArray⟩ : ByteArray).data.toList) = T2 from hT2)
                have HFS := Lib.hid (show (⟨gf.toArray⟩ : ByteArray).size ≤ 300 from HFL.out)
                have HCS := Lib.hid (show (⟨gc.toArray⟩ : ByteArray).size ≤ 300 from HCL.out)
                clear hnp hlen hin hT2 hx hz
                obtain ⟨k0, k1⟩ := HC3.out _ _ hB
                clear g0 g1
                go_wp2_with fail
                go_region_held3 (fun w' => w'.cell? ⟨b4, o4 + x * 2, none⟩ = some (.string ⟨gf.toArray⟩) ∧ w'.cell? ⟨b4, o4 + x * 2 + 1, none⟩ = some (.string ⟨gc.toArray⟩)) (first | exact sA | go_keep) (first
                  | (go_at_call 19; refine (rem_x t N1 60 ⟨gf.toArray⟩ ⟨gc.toArray⟩ true Ts T2 w F1 _ ?_ HT.out HFS.out HCS.out H60.out HIN.out HER.out).mono ?_; (first | exact hW | exact hW.drewN _); rintro e w6 ⟨rfl, N6, F6, hO6, hu6⟩; have hB6 := Beside.upd (by first | exact hB | exact hB.below (below_drewN (Below.refl _ _) _)) hu6; have sA := HC3.out _ _ hB6)
                  | (go_at_call 20; have hdum := hB6; clear hdum; refine (len_x t N6 60 z T2 w F6 _ ?_ HLE.out).mono ?_; exact hO6; rintro e w7 ⟨rfl, rfl⟩))
                have HO6 := Lib.hid hO6
                have HB6 := Lib.hid hB6
                clear sA hO6 hB6 hu6 hW hB k0 k1
                go_wp2_with fail
                go_roundw
                case rel => exact ⟨q + 1, by go_num, by omega, _, _, _, HO6.out, HB6.out, HNP.out⟩
                case measure => simp [intOf]; omega
              · have hql : ¬ (q : Int) < Gs.length := by omega
                obtain rfl : Ts = [] := by
                  rw [List.drop_eq_nil_of_le (by rw [HRL.out]; omega)] at hp
                  exact List.perm_nil.1 hp
                have HO := Lib.hid hW
                clear hp hW hB
                go_wp2_with fail
                refine (nodes_x t _ _ 1 [] w _ wc HO.out (by decide +kernel)).mono ?_
                rintro e w7 ⟨rfl, rfl⟩
                go_wp2_with fail
                refine (all_x t _ _ [] w _ _ HO.out H60.out).mono ?_
                rintro e w8 ⟨a8, c8, rfl, -, hk8⟩
                replace HO := Lib.hid (HO.out.below hk8)
                clear hk8
                go_wp2_with fail
                refine (awake_true _ (HO.out.tabs HT.out)).mono ?_
                rintro e w10 ⟨rfl, hk10⟩
                replace HO := Lib.hid (HO.out.below hk10)
                clear hk10
                go_wp2_with fail
                go_ret
                exact ⟨rfl, HO.out.bel⟩
theorem order_u8 (a : Option Addr) (c : Nat) (l : List Act) (n : Int) (w : World) (ha : Row w a (actsV l)) (hT : Tabs w) (hl : l.length ≤ maxLen) (hn : 0 ≤ n ∧ n ≤ 255) :
    Calls Tryz.prog 4 #[.slice a l.length c, .int .u8 n] w fun e w' => e = .returned (.bool true) ∧ Below w.heap.size w w' := by
  obtain ⟨d, rfl⟩ := Int.eq_ofNat_of_zero_le hn.1
  exact order_true a c l d w ha hT hl (by omega)
end Go.Proofs.YtcnjgenacpkdbaaGreatDoor
