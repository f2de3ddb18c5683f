/- TrieTells walked. -/
import Derived.Test.YtcnjgenacpkdbaaGreatDoorRPlay
namespace Go.Proofs.YtcnjgenacpkdbaaGreatDoor
open Go Go.RowKit

/-- a row of the call's own that may be written over: it is none of X -/
def Spoil (w0 w : World) (T : TypeId) (sz : Nat) (a : Option Addr) (N : Nat) (X : List Nat) : Prop :=
  N = 0 ∨ ∃ (b : Nat) (cur : Array Value), a = some ⟨b, 0, none⟩ ∧ w.heap[b]? = some (.cells cur T (0, 0)) ∧ N * sz ≤ cur.size ∧ b ∉ X ∧ w0.heap.size ≤ b
theorem spoil_of {w0 w w' : World} {T : TypeId} {sz : Nat} {v : Value} {N : Nat} {xs : List Value} {X : List Nat} (h : w'.ownsRow w.heap.size T sz v N xs) (hX : ∀ k ∈ X, k < w.heap.size) (hw : w0.heap.size ≤ w.heap.size) :
    ∃ a c, v = .slice a N c ∧ Row w' a xs ∧ Spoil w0 w' T sz a N X ∧ ∀ k ∈ (Value.slice a N c).ownBlock.toList, k < w'.heap.size := by
  have hlt := h.lt
  obtain ⟨a, c, rfl, hr, -, -⟩ := ownsRow_row h
  refine ⟨a, c, rfl, hr, ?_, fun k hk => (hlt k (by simpa using hk)).2⟩
  rcases h.2 with ⟨_, hn⟩ | ⟨b, cap, cur, hv, hb, hg, hcs, hle, rest⟩
  · exact .inl hn
  · refine .inr ⟨b, cur, ?_, hg, ?_, fun h => by have := hX b h; omega, by omega⟩
    · simp only [Value.slice.injEq] at hv; exact hv.1
    · first | omega | (rw [rest.1]; exact Nat.mul_le_mul_right sz hcs)
theorem Spoil.below {w0 w w' : World} {T : TypeId} {sz : Nat} {a : Option Addr} {N : Nat} {X : List Nat} (h : Spoil w0 w T sz a N X) (hk : Below w.heap.size w w') : Spoil w0 w' T sz a N X := by
  rcases h with h | ⟨b, cur, h1, h2, h3, h4, h6⟩
  · exact .inl h
  · exact .inr ⟨b, cur, h1, (hk.block b (Array.getElem?_eq_some_iff.1 h2).1).trans h2, h3, h4, h6⟩
theorem Spoil.mod {w0 w w' : World} {T : TypeId} {sz : Nat} {a : Option Addr} {N b1 : Nat} {X : List Nat} (h : Spoil w0 w T sz a N X) (hm : Mod [b1] w w') (hb : b1 ∈ X) : Spoil w0 w' T sz a N X := by
  rcases h with h | ⟨b, cur, h1, h2, h3, h4, h6⟩
  · exact .inl h
  · exact .inr ⟨b, cur, h1, (hm.block b (Array.getElem?_eq_some_iff.1 h2).1 (fun e => by simp at e; subst e; exact h4 hb)).trans h2, h3, h4, h6⟩
theorem Du.modB {w0 w w' : World} {n t N r b : Nat} {Gs Rs : List Hint} {F G : List Nat} (h : Du w0 w n t Gs N F r Rs G none []) (hm : Mod [b] w w') (hX : b ∉ F ++ G) (hb : w0.heap.size ≤ b) : Du w0 w' n t Gs N F r Rs G none [] := by
  rw [List.mem_append, not_or] at hX
  exact ⟨⟨h.tr.c.mod hm (fun k hk he => by obtain rfl := List.mem_singleton.1 he; exact hX.1 hk), h.tr.fF, h.tr.bel.trans (hm.below h.tr.bel.size (fun k hk => by obtain rfl := List.mem_singleton.1 hk; exact hb))⟩,
    h.rr.mod hm (fun k hk he => by obtain rfl := List.mem_singleton.1 he; exact hX.2 hk), h.fG, h.dis, .inl rfl, .inl rfl⟩
theorem Du.lt {w0 w : World} {n t N r : Nat} {Gs Rs : List Hint} {F G : List Nat} {a : Option Addr} {xs : List Value} (h : Du w0 w n t Gs N F r Rs G a xs) : ∀ k ∈ F ++ G, k < w.heap.size := fun k hk => by
  rcases List.mem_append.1 hk with hk | hk
  · exact h.tr.c.lt k hk
  · exact h.rr.lt k hk
theorem rof_x (r : Nat) (Gs : List Hint) (G : List Nat) (c : ByteArray) (L : List Str) (w : World) (h : RRep w r Gs G) (hl : Gs.length ≤ 100000) (hL : ofL c.data.toList Gs = L) :
    Calls Tryz.prog 22 #[.pointer (some ⟨r, 0, none⟩), .string c] w fun e w' => ∃ a cp, e = .returned (.slice a L.length cp) ∧ Row w' a (strs L) ∧ Below w.heap.size w w' := by
  subst hL
  exact rof_any r Gs G c w h hl

set_option maxRecDepth 100000 in
set_option maxHeartbeats 8000000 in
theorem tells_true (a : Option Addr) (c : Nat) (l : List Act) (cl0 : ByteArray) (w : World) (ha : Row w a (actsV l)) (hT : Tabs w) (hl : l.length ≤ maxLen) :
    Calls Tryz.prog 5 #[.slice a l.length c, .string cl0] w fun e w' => e = .returned (.bool true) ∧ Below w.heap.size w w' := by
  have HT := Lib.hid hT
  have HA := Lib.hid ha
  have HL := Lib.hid hl
  clear hT ha hl
  by_cases hg : greatB l = true
  · have HG := Lib.hid hg
    clear hg
    go_enter Tryz.func5, Tryz.ntmps5
    go_wp2_with fail
    refine (great_y true a c l w HA.out HL.out HG.out).mono ?_
    rintro e w1 ⟨rfl, rfl⟩
    go_wp2_with fail
    refine (awake_true w HT.out).mono ?_
    rintro e w1 ⟨rfl, hk⟩
    have HK := Lib.hid hk
    clear hk
    go_wp2_with fail
    go_ret
    exact ⟨rfl, HK.out⟩
  · have HG := Lib.hid (show greatB l = false by simpa using hg)
    clear hg
    by_cases hc0 : (300 : Int) < cl0.size
    ·
      go_enter Tryz.func5, Tryz.ntmps5
      go_wp2_with fail
      refine (great_y false a c l w HA.out HL.out HG.out).mono ?_
      rintro e w1 ⟨rfl, rfl⟩
      go_wp2_with fail
      refine (awake_true w HT.out).mono ?_
      rintro e w1 ⟨rfl, hk⟩
      have HK := Lib.hid hk
      clear hk
      go_wp2_with fail
      go_ret
      exact ⟨rfl, HK.out⟩
    obtain ⟨hok, hl60⟩ := great_ok HG.out
    have HOK := Lib.hid hok
    clear hok
    go_enter Tryz.func5, Tryz.ntmps5
    go_wp2_with fail
    refine (great_y false a c l w HA.out HL.out HG.out).mono ?_
    rintro e w1 ⟨rfl, rfl⟩
    go_wp2_with fail
    refine (hnew _).mono ?_
    rintro e w1 ⟨t, F, rfl, hq, hu⟩
    have hD := Du.start (Tr.start (Below.refl w.heap.size w) hq hu) rfl
    clear hq hu HG HL
    go_wp2_with fail
    generalize w1.alloc (.cells #[.slice none 0 0] 30) = W1 at *
    generalize w1.heap.size = r at *
    go_loopw [1, 7] (fun cv i wr => ∃ (k : Nat) (cl : ByteArray), cv = .string cl ∧ i = .int .i64 k ∧ k ≤ l.length ∧ ∃ N F G, Du w wr k t (madeG (l.take k)) N F r (madeG (l.take k)) G none []) (fun _ i _ => (l.length - intOf i).toNat)
    case atStart => exact ⟨0, cl0, rfl, rfl, by omega, _, _, _, hD⟩
    case round =>
      obtain ⟨k, cl, rfl, rfl, hk, N, F2, G, hW⟩ := hrel
      clear hD
      by_cases hlt : k < l.length
      · have HCC := Lib.hid (fun X (hX : Below w.heap.size w X) => acts_row (HA.out.below hX (Nat.le_refl _)) hlt)
        obtain ⟨b1, o1, rfl, k0, k1, k2, k3⟩ := acts_row (HA.out.below hW.tr.bel (Nat.le_refl _)) hlt
        have HC : Hid (∀ X : World, Below w.heap.size w X → X.cell? ⟨b1, o1 + k * 4 + 2, none⟩ = some (.string l[k].c)) := Lib.hid (fun X hX => by
          obtain ⟨b2, o2, e, -, -, h, -⟩ := HCC.out X hX
          cases e
          exact h)
        have hk0 : (0 : Int) ≤ k := by omega
        have hkl : (k : Int) < l.length := by omega
        have HO1 := Lib.hid (HOK.out l[k] (List.getElem_mem hlt))
        have HS := Lib.hid (show madeG (l.take (k + 1)) = actG (madeG (l.take k)) l[k] by rw [List.take_succ_eq_append_getElem hlt, madeG_snoc])
        clear HCC
        generalize l[k] = x at *
        generalize madeG (l.take k) = Gk at *
        obtain ⟨xd, xf, xc, xm⟩ := x
        dsimp only at k0 k1 k2 k3 HC
        have HDO := Lib.hid (does_any t r k N Gk F2 G xd xf xc xm w wr hW HT.out HO1.out (by omega))
        clear hW
        go_wp2_with fail
        refine HDO.out.mono ?_
        rintro e w3 ⟨rfl, N3, F3, G3, hD3⟩
        have HD3 := Lib.hid hD3
        clear HDO k0 k1 k2 k3
        have k2 := HC.out _ hD3.tr.bel
        clear hD3
        go_wp2_with fail
        go_roundw
        case rel => exact ⟨k + 1, xc, rfl, by go_num, by omega, _, _, _, by rw [HS.out]; exact HD3.out⟩
        case measure => simp [intOf]; omega
      · have hkl : ¬ (k : Int) < l.length := by omega
        rw [List.take_of_length_le (by omega)] at hW
        generalize madeG l = Gs at *
        have hgl := hW.tr.c.len
        have HGL := Lib.hid (show Gs.length ≤ 100000 by omega)
        have HK := Lib.hid (show k ≤ 1000 by omega)
        obtain ⟨L, hL⟩ : ∃ L, ofL cl.data.toList Gs = L := ⟨_, rfl⟩
        have hLl : L.length ≤ 60 := by
          have := ofL_len cl.data.toList Gs Gs.length
          rw [List.take_of_length_le (Nat.le_refl _), hL] at this
          omega
        have HLL := Lib.hid hL
        have HTL := Lib.hid (show (L.length : Int) < 4611686018427387904 by omega)
        clear hL
        go_wp2_with fail
        go_loopw [8] (fun i wr => ∃ n : Nat, i = .int .i64 n ∧ n ≤ 2 ∧ Du w wr k t Gs N F2 r Gs G none []) (fun i _ => (2 - intOf i).toNat)
        case atStart => exact ⟨0, rfl, by omega, hW⟩
        case round =>
          generalize wr = wb at *
          obtain ⟨n, rfl, hn, hE⟩ := hrel
          clear hW
          have HE := Lib.hid hE
          by_cases hn2 : n < 2
          · have hn0 : (0 : Int) ≤ n := by omega
            have hnl : (n : Int) < 2 := by omega
            clear hE
            go_wp2_with fail
            refine (hall k t N Gs F2 wb HE.out.tr.c HK.out).mono ?_
            rintro e w5 ⟨v5, rfl, hown5, hk5⟩
            obtain ⟨a5, c5, rfl, hr5, hsp5, hlt5⟩ := spoil_of (w0 := w) (X := F2 ++ G) hown5 HE.out.lt HE.out.tr.bel.size
            replace HE := Lib.hid (HE.out.below hk5)
            have HR5 := Lib.hid hr5
            have HSP5 := Lib.hid hsp5
            have HLT5 := Lib.hid hlt5
            clear hown5 hk5 hr5 hsp5 hlt5
            go_wp2_with fail
            refine (hof k t N cl Gs F2 w5 HE.out.tr.c HK.out).mono ?_
            rintro e w6 ⟨v6, rfl, hown6, hk6⟩
            rw [HLL.out] at hown6
            obtain ⟨a6, c6, rfl, hr6, hsp6, -⟩ := spoil_of (w0 := w) (X := (F2 ++ G) ++ (Value.slice a5 Gs.length c5).ownBlock.toList) hown6 (fun k hk => by
              rcases List.mem_append.1 hk with hk | hk
              · exact HE.out.lt k hk
              · exact HLT5.out k hk) HE.out.tr.bel.size
            replace HE := Lib.hid (HE.out.below hk6)
            replace HR5 := Lib.hid (HR5.out.below hk6 (Nat.le_refl _))
            replace HSP5 := Lib.hid (HSP5.out.below hk6)
            have HR6 := Lib.hid hr6
            have HSP6 := Lib.hid hsp6
            obtain ⟨av, cp, -, -, hH⟩ := HE.out.rr.held
            obtain ⟨r0, hrv⟩ := hH _ (Below.refl _ _)
            have HRV := Lib.hid hrv
            clear hown6 hk6 hr6 hsp6 HLT5 hH hrv
            go_wp2_with fail
            refine (sameH_x true a5 av c5 cp _ _ Gs Gs w6 HR5.out HRV.out HGL.out rfl rfl (same_selfH Gs)).mono ?_
            rintro e w7 ⟨rfl, nd, rfl⟩
            have hbd := below_drewN (Below.refl w6.heap.size w6) nd
            replace HE := Lib.hid (HE.out.below hbd)
            replace HR6 := Lib.hid (HR6.out.below hbd (Nat.le_refl _))
            replace HSP5 := Lib.hid (HSP5.out.below hbd)
            replace HSP6 := Lib.hid (HSP6.out.below hbd)
            clear hbd HR5 HRV r0
            generalize w6.drewN nd = W7 at *
            go_wp2_with fail
            refine (rof_x r Gs G cl L W7 HE.out.rr HGL.out HLL.out).mono ?_
            rintro e w8 ⟨a8, c8, rfl, hr8, hk8⟩
            replace HE := Lib.hid (HE.out.below hk8)
            replace HR6 := Lib.hid (HR6.out.below hk8 (Nat.le_refl _))
            replace HSP5 := Lib.hid (HSP5.out.below hk8)
            replace HSP6 := Lib.hid (HSP6.out.below hk8)
            have HR8 := Lib.hid hr8
            clear hr8 hk8
            go_wp2_with fail
            refine (sameT_any true a6 a8 c6 c8 L L w8 HR6.out HR8.out HTL.out (same_self2 L)).mono ?_
            rintro e w9 ⟨rfl, nd, rfl⟩
            have hbd := below_drewN (Below.refl w8.heap.size w8) nd
            have hE9 := HE.out.below hbd
            have hS9 := HSP5.out.below hbd
            have hT9 := HSP6.out.below hbd
            clear hbd HR6 HR8 HE HSP5 HSP6
            generalize w8.drewN nd = W9 at *
            go_wp2_with fail
            go_loopw [11] (fun i wr => ∃ j : Nat, i = .int .i64 j ∧ j ≤ Gs.length ∧ Du w wr k t Gs N F2 r Gs G none [] ∧ Spoil w wr 39 2 a5 Gs.length (F2 ++ G) ∧ Spoil w wr 9 1 a6 L.length ((F2 ++ G) ++ (Value.slice a5 Gs.length c5).ownBlock.toList)) (fun i _ => (Gs.length - intOf i).toNat)
            case atStart => exact ⟨0, rfl, by omega, hE9, hS9, hT9⟩
            case round =>
              generalize wr = wc at *
              clear hE9 hS9 hT9
              obtain ⟨j, rfl, hj, hE, hsp, hst⟩ := hrel
              by_cases hjN : j < Gs.length
              · have hj0 : (0 : Int) ≤ j := by omega
                have hjl : (j : Int) < Gs.length := by omega
                rcases hsp with h | ⟨b7, cur, rfl, h2, h3, hbX, hb0⟩
                · omega
                have f1 := frozen_of_row wc b7 (j * 2 + 1) _ _ h2
                have q1 := (cell_of_row wc b7 (j * 2 + 1) _ _ _ h2).trans (Array.getElem?_eq_getElem (by omega))
                have hs4 := heap_setCell_same wc b7 (j * 2 + 1) _ _ (.string ⟨#[63]⟩) h2
                have hm4 : Mod [b7] wc (wc.setCell ⟨b7, j * 2 + 1, none⟩ (.string ⟨#[63]⟩)) := (Mod.refl [b7] wc).setCell (.inl (by simp)) _
                have HS4 := Lib.hid hs4
                have HE4 := Lib.hid (hE.modB hm4 hbX hb0)
                have HT4 := Lib.hid (hst.mod hm4 (List.mem_append.2 (.inr (by simp [Value.ownBlock]))))
                have HX := Lib.hid (And.intro hbX hb0)
                clear hs4 hE hst hm4 hbX hb0
                go_wp2_with fail
                go_roundw
                case rel => exact ⟨j + 1, by go_num, by omega, HE4.out, .inr ⟨b7, _, rfl, HS4.out, by simpa using h3, HX.out.1, HX.out.2⟩, HT4.out⟩
                case measure => simp [intOf]; omega
              · have hjl : ¬ (j : Int) < Gs.length := by omega
                clear hsp
                go_wp2_with fail
                go_loopw [12] (fun i wr => ∃ q : Nat, i = .int .i64 q ∧ q ≤ L.length ∧ Du w wr k t Gs N F2 r Gs G none [] ∧ Spoil w wr 9 1 a6 L.length ((F2 ++ G) ++ (Value.slice a5 Gs.length c5).ownBlock.toList)) (fun i _ => (L.length - intOf i).toNat)
                case atStart => exact ⟨0, rfl, by omega, hE, hst⟩
                case round =>
                  generalize wr = wd at *
                  clear hE hst
                  obtain ⟨q, rfl, hq, hE, hst⟩ := hrel
                  by_cases hqN : q < L.length
                  · have hq0 : (0 : Int) ≤ q := by omega
                    have hql : (q : Int) < L.length := by omega
                    rcases hst with h | ⟨b7, cur, rfl, h2, h3, hbX, hb0⟩
                    · omega
                    have f1 := frozen_of_row wd b7 q _ _ h2
                    have q1 := (cell_of_row wd b7 q _ _ _ h2).trans (Array.getElem?_eq_getElem (by omega))
                    have hs4 := heap_setCell_same wd b7 q _ _ (.string ⟨#[63]⟩) h2
                    have hm4 : Mod [b7] wd (wd.setCell ⟨b7, q, none⟩ (.string ⟨#[63]⟩)) := (Mod.refl [b7] wd).setCell (.inl (by simp)) _
                    have HS4 := Lib.hid hs4
                    have HE4 := Lib.hid (hE.modB hm4 (fun h => hbX (List.mem_append.2 (.inl h))) hb0)
                    have HX := Lib.hid (And.intro hbX hb0)
                    clear hs4 hE hm4 hbX hb0
                    go_wp2_with fail
                    go_roundw
                    case rel => exact ⟨q + 1, by go_num, by omega, HE4.out, .inr ⟨b7, _, rfl, HS4.out, by simpa using h3, HX.out.1, HX.out.2⟩⟩
                    case measure => simp [intOf]; omega
                  · have hql : ¬ (q : Int) < L.length := by omega
                    have HEO := Lib.hid hE
                    clear hE hst
                    go_wp2_with fail
                    go_roundw
                    case rel => exact ⟨n + 1, by go_num, by omega, HEO.out⟩
                    case measure => simp [intOf]; omega
          · have hnl : ¬ (n : Int) < 2 := by omega
            clear hE
            go_wp2_with fail
            refine (awake_true _ (HE.out.tr.tabs HT.out)).mono ?_
            rintro e w10 ⟨rfl, hk10⟩
            replace HE := Lib.hid (HE.out.below hk10)
            clear hk10
            go_wp2_with fail
            go_ret
            exact ⟨rfl, HE.out.tr.bel⟩
end Go.Proofs.YtcnjgenacpkdbaaGreatDoor
