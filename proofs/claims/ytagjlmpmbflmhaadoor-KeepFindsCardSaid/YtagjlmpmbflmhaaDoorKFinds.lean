/- KeepFinds walked. -/
import Derived.Test.YtagjlmpmbflmhaaDoorKPlays
import Derived.Test.YtagjlmpmbflmhaaDoorKRef7c
import Derived.Test.YtagjlmpmbflmhaaDoorOpen
namespace Go.Proofs.YtagjlmpmbflmhaaDoor
open Go Go.RowKit Go.Maps

theorem rmatch_u (b : Bool) (s t : ByteArray) (w : World) (hs : s.size < 4294967281) (ht : t.size < 4294967281) (hb : matchB s.data.toList t.data.toList = b) :
    Calls Tryd.prog 30 #[.string s, .string t] w fun e w' => e = .returned (.bool b) ∧ Below w.heap.size w w' := by subst hb; exact rmatch_any s t w hs ht

set_option maxRecDepth 100000 in
set_option maxHeartbeats 2000000 in
theorem rfind_any (s : ByteArray) (g : Nat) (l : List Msg) (G : List Nat) (w : World) (hl : l.length < 1000000) (hs : s.size < 4294967281) (hml : ∀ m ∈ l, m.t.size < 4294967281) (h : RRep w g l G) :
    Calls Tryd.prog 16 #[.pointer (some ⟨g, 0, none⟩), .string s] w fun e w' => ∃ v, e = .returned v ∧ w'.ownsRow w.heap.size 33 4 v (finds s.data.toList l).length (msgs (finds s.data.toList l)) ∧ Below w.heap.size w w' := by
  obtain ⟨a, c, hg, -, hrow⟩ := h.open
  have HG := Lib.hid hg
  have HROW := Lib.hid (fun W (hb : Below w.heap.size w W) => hrow.below hb (Nat.le_refl _))
  have HML := Lib.hid hml
  clear h hg hrow hml
  go_enter Tryd.func16, Tryd.ntmps16
  go_wp2_with fail
  go_loopw [5, 6] (fun out i wr => ∃ (k : Nat), i = .int .i64 k ∧ k ≤ l.length ∧ Below w.heap.size w wr ∧ wr.ownsRow w.heap.size 33 4 out (finds s.data.toList (l.take k)).length (msgs (finds s.data.toList (l.take k)))) (fun _ i _ => (l.length - intOf i).toNat)
  case atStart => exact ⟨0, rfl, by omega, Below.refl _ _, World.ownsRow_nil _ _ _ _⟩
  case round =>
    obtain ⟨k, rfl, hk, hbw, hown⟩ := hrel
    obtain ⟨ao, co, rfl, -, -, -⟩ := ownsRow_row hown
    have HBW := Lib.hid hbw
    have HC := Lib.hid (fun W (hb : Below w.heap.size w W) => show W.cell? ⟨g, 0, none⟩ = some (.slice a l.length c) from cell_of_row W g 0 _ _ _ ((hb.block g (Array.getElem?_eq_some_iff.1 HG.out).1).trans HG.out))
    by_cases hlt : k < l.length
    · obtain ⟨b1, o1, rfl, k0, k1, k2, k3⟩ := msgs_row (HROW.out _ hbw) (k := k) (m := l[k]) (by simp [hlt])
      have HY := Lib.hid (fun W (hb : Below w.heap.size w W) => row_cells (HROW.out W hb) (k := k) (m := l[k]) (by simp [hlt]))
      have hk0 : (0 : Int) ≤ k := by omega
      have hkl : (k : Int) < l.length := by omega
      have HTK : Hid ((matchB s.data.toList l[k].k = true → finds s.data.toList (l.take (k + 1)) = finds s.data.toList (l.take k) ++ [l[k]]) ∧ (matchB s.data.toList l[k].k = false → finds s.data.toList (l.take (k + 1)) = finds s.data.toList (l.take k))) := Lib.hid (by
        rw [List.take_succ_eq_append_getElem hlt, finds_snoc]
        constructor <;> intro h <;> simp [h])
      have hfl : (finds s.data.toList (l.take k)).length ≤ k := by have := finds_len s.data.toList (l.take k); rw [List.length_take] at this; omega
      have hyt := HML.out _ (List.getElem_mem hlt)
      generalize finds s.data.toList (l.take k) = X at *
      generalize l[k] = y at *
      obtain ⟨yt, yp, yq, yr⟩ := y
      obtain ⟨mb, hmb⟩ : ∃ b, matchB s.data.toList yt.data.toList = b := ⟨_, rfl⟩
      have HM := Lib.hid (fun W => rmatch_u mb s yt W hs hyt hmb)
      have c0 := HC.out _ hbw
      dsimp only [Msg.k] at *
      rw [hmb] at HTK
      clear hbw hmb
      go_wp2_with fail
      refine (HM.out _).mono ?_
      rintro e w2 ⟨rfl, hk2⟩
      have hb2 := bnext HBW.out (Nat.le_refl _) hk2
      have HB2 := Lib.hid hb2
      have hown2 := ownsRow_low hown hk2
      clear c0 k0 k1 k2 k3 hk2 hown
      have c0 := HC.out _ hb2
      obtain ⟨k0, k1, k2, k3⟩ := HY.out _ hb2
      cases mb with
      | true =>
        have hs2 := hb2.size
        go_wp2_with (first | (at_builtin; refine wpList_appG T_msg hown2 hb2 hs2 rfl rfl rfl rfl (by rfl) (by simp [Value.oneCell']) (by omega) (by omega) ?_; intro v' w8 hown' hbel3 hsz3 hg3) | fail)
        refine ⟨⟨k + 1, by go_num, by omega, hbel3, ?_⟩, by simp [intOf]; omega⟩
        rw [HTK.out.1 trivial, ← msgs_append, List.length_append]
        exact hown'
      | false =>
        go_wp2_with fail
        go_roundw
        case rel => exact ⟨k + 1, by go_num, by omega, HB2.out, by rw [HTK.out.2 trivial]; exact hown2⟩
        case measure => simp [intOf]; omega
    · have hkl : ¬ (k : Int) < l.length := by omega
      rw [List.take_of_length_le (by omega)] at hown ⊢
      have c0 := HC.out _ hbw
      clear hbw
      go_wp2_with fail
      go_ret
      exact ⟨_, rfl, hown, HBW.out⟩

theorem set4at {w : World} {g : Nat} {x y z u : Value} {T : TypeId} {cur : Array Value} (o : Nat) (h : w.heap[g]? = some (.cells cur T (0, 0))) :
    ((((w.setCell ⟨g, o, none⟩ x).setCell ⟨g, o + 1, none⟩ y).setCell ⟨g, o + 2, none⟩ z).setCell ⟨g, o + 3, none⟩ u).heap[g]? = some (.cells ((((cur.setIfInBounds o x).setIfInBounds (o + 1) y).setIfInBounds (o + 2) z).setIfInBounds (o + 3) u) T (0, 0)) ∧
    Mod [g] w ((((w.setCell ⟨g, o, none⟩ x).setCell ⟨g, o + 1, none⟩ y).setCell ⟨g, o + 2, none⟩ z).setCell ⟨g, o + 3, none⟩ u) := by
  constructor
  · have h1 := heap_setCell_same w g o _ _ x h
    have h2 := heap_setCell_same _ g (o + 1) _ _ y h1
    have h3 := heap_setCell_same _ g (o + 2) _ _ z h2
    have h4 := heap_setCell_same _ g (o + 3) _ _ u h3
    exact h4
  · exact ((((Mod.refl [g] w).setCell (.inl (by simp)) _).setCell (.inl (by simp)) _).setCell (.inl (by simp)) _).setCell (.inl (by simp)) _
/-- what Find told, to be written over -/
def Spoil (w0 w : World) (a : Option Addr) (N : Nat) (F G : List Nat) : Prop :=
  N = 0 ∨ ∃ (b : Nat) (cur : Array Value), a = some ⟨b, 0, none⟩ ∧ w.heap[b]? = some (.cells cur 33 (0, 0)) ∧ N * 4 ≤ cur.size ∧ b ∉ F ∧ b ∉ G ∧ w0.heap.size ≤ b
theorem spoil_of {w0 w w' : World} {v : Value} {N : Nat} {xs : List Value} {F G : List Nat} (h : w'.ownsRow w.heap.size 33 4 v N xs) (hF : ∀ k ∈ F, k < w.heap.size) (hG : ∀ k ∈ G, k < w.heap.size) (hw : w0.heap.size ≤ w.heap.size) :
    ∃ a c, v = .slice a N c ∧ Row w' a xs ∧ Spoil w0 w' a N F G := by
  obtain ⟨a, c, rfl, hr, -, -⟩ := ownsRow_row h
  refine ⟨a, c, rfl, hr, ?_⟩
  have h1 := h.1
  rcases h.2 with ⟨_, hn⟩ | ⟨b, cap, cur, hv, hb, hg, hcs, hle, rest⟩
  · exact .inl hn
  · refine .inr ⟨b, cur, ?_, hg, ?_, fun h => by have := hF b h; omega, fun h => by have := hG b h; omega, by omega⟩
    · simp only [Value.slice.injEq] at hv; exact hv.1
    · first | omega | (rw [hcs]; exact Nat.mul_le_mul_right 4 hle)
theorem Spoil.below {w0 w w' : World} {a : Option Addr} {N : Nat} {F G : List Nat} (h : Spoil w0 w a N F G) (hk : Below w.heap.size w w') : Spoil w0 w' a N F G := by
  rcases h with h | ⟨b, cur, h1, h2, h3, h4, h5, h6⟩
  · exact .inl h
  · exact .inr ⟨b, cur, h1, (hk.block b (Array.getElem?_eq_some_iff.1 h2).1).trans h2, h3, h4, h5, h6⟩
theorem Duo.mod {w0 w w' : World} {g : Nat} {L : List Msg} {F : List Nat} {r : Nat} {R : List Msg} {G : List Nat} (h : Duo w0 w g L F r R G) {b : Nat} (hm : Mod [b] w w') (hF : b ∉ F) (hG : b ∉ G) (hb : w0.heap.size ≤ b) : Duo w0 w' g L F r R G :=
  ⟨h.c.mod hm (fun k hk he => by obtain rfl := List.mem_singleton.1 he; exact hF hk), h.d.mod hm (fun k hk he => by obtain rfl := List.mem_singleton.1 he; exact hG hk), h.fF, h.fG, h.ap,
    h.bel.trans (hm.below h.bel.size (fun k hk => by obtain rfl := List.mem_singleton.1 hk; exact hb))⟩

theorem flat_str : Flat Tryd.prog 9 (fun s : ByteArray => [Value.string s]) (fun s => s.size ≤ maxLen) := flat_string Tryd.underlying9
theorem str_len (s : ByteArray) : ([Value.string s] : List Value).length = Tryd.prog.cellsOf 9 := (show (1 : Nat) = Tryd.prog.cellsOf 9 from by kernel_rfl)
theorem str_pos : 0 < Tryd.prog.cellsOf 9 := by rw [← str_len ⟨#[]⟩]; exact Nat.succ_pos _
def sts (l : List ByteArray) : List Value := l.flatMap fun s => [Value.string s]
theorem sts_at {l : List ByteArray} {k : Nat} {s : ByteArray} (h : l[k]? = some s) : (sts l)[k]? = some (.string s) := by
  have := flatMap_at (mk := fun s : ByteArray => [Value.string s]) (c := 1) (fun _ => rfl) l k 0 (by omega)
  rw [h] at this
  simpa [sts] using this

set_option maxRecDepth 100000 in
set_option maxHeartbeats 4000000 in
theorem finds_true (aI : Option Addr) (cI : Nat) (l : List Msg) (aF : Option Addr) (cF : Nat) (fl : List ByteArray) (w : World) (ha : Row w aI (msgs l)) (hf : Row w aF (sts fl)) (hT : Tabs w) (hl : l.length ≤ maxLen) (hq : ∀ m ∈ l, 0 ≤ m.q ∧ m.q < 256) :
    Calls Tryd.prog 3 #[.slice aI l.length cI, .slice aF fl.length cF] w fun e w' => e = .returned (.bool true) ∧ Below w.heap.size w w' := by
  have HT := Lib.hid hT
  have HR := Lib.hid ha
  have HFR := Lib.hid hf
  have HAW := Lib.hid (awake_true w hT)
  obtain ⟨gr, hgr⟩ : ∃ g, greatB l = g := ⟨_, rfl⟩
  have HG := Lib.hid (great_u gr aI cI l w ha hl hgr)
  have HGR := Lib.hid (fun h => great_facts (hgr.trans h) hq)
  clear ha hgr hT hq hf
  cases gr with
  | true =>
    go_enter Tryd.func3, Tryd.ntmps3
    go_wp2_with fail
    refine HG.out.mono ?_
    rintro e w1 ⟨rfl, rfl⟩
    go_wp2_with fail
    refine HAW.out.mono ?_
    rintro e w1 ⟨rfl, hk⟩
    go_wp2_with fail
    go_ret
    exact ⟨rfl, hk⟩
  | false =>
    obtain ⟨hok, hlen⟩ := HGR.out rfl
    have HOK := Lib.hid hok
    clear HGR hok
    by_cases h30 : (30 : Int) < fl.length
    · have h30d : decide ((30 : Int) < fl.length) = true := decide_eq_true h30
      have h30n : decide (30 < fl.length) = true := decide_eq_true (by omega)
      go_enter Tryd.func3, Tryd.ntmps3
      go_wp2_with fail
      refine HG.out.mono ?_
      rintro e w1 ⟨rfl, rfl⟩
      go_wp2_with fail
      refine HAW.out.mono ?_
      rintro e w1 ⟨rfl, hk⟩
      go_wp2_with fail
      go_ret
      exact ⟨rfl, hk⟩
    · clear HAW
      have h30d : decide ((30 : Int) < fl.length) = false := decide_eq_false h30
      have h30n : decide (30 < fl.length) = false := decide_eq_false (by omega)
      go_enter Tryd.func3, Tryd.ntmps3
      go_wp2_with fail
      refine HG.out.mono ?_
      rintro e w1 ⟨rfl, rfl⟩
      go_wp2_with fail
      refine (knew _).mono ?_
      rintro e w1 ⟨g, F, rfl, hq, hu⟩
      have HD := Lib.hid (Duo.start (One.start (Below.refl w.heap.size w) hq hu))
      clear hq hu HG
      go_wp2_with fail
      generalize hrb : w1.heap.size = rb at *
      generalize w1.alloc (.cells #[.slice none 0 0] 30) = w2 at *
      go_loopw [7] (fun i wr => ∃ (k : Nat) (G : List Nat), i = .int .i64 k ∧ k ≤ l.length ∧ Duo w wr g (madeL (l.take k)) F rb (madeL (l.take k)) G) (fun i _ => (l.length - intOf i).toNat)
      case atStart => exact ⟨0, _, rfl, by omega, HD.out⟩
      case round =>
        obtain ⟨k, G, rfl, hk, hD⟩ := hrel
        clear HD
        have HD := Lib.hid hD
        by_cases hlt : k < l.length
        · have hk0 : (0 : Int) ≤ k := by omega
          have hkl : (k : Int) < l.length := by omega
          obtain ⟨b1, o1, rfl, k0, k1, k2, k3⟩ := msgs_row (HR.out.below hD.bel (Nat.le_refl _)) (k := k) (m := l[k]) (by simp [hlt])
          have HC := Lib.hid (fun W (h : Below w.heap.size w W) => row_cells (HR.out.below h (Nat.le_refl _)) (k := k) (m := l[k]) (by simp [hlt]))
          have HOX := Lib.hid (HOK.out l[k] (List.getElem_mem hlt))
          have HS := Lib.hid (show madeL (l.take (k + 1)) = setB l[k] (madeL (l.take k)) by rw [List.take_succ_eq_append_getElem hlt, madeL_snoc])
          have HLN := Lib.hid (show (madeL (l.take k)).length < 1000000 by have := len_made (l.take k); rw [List.length_take] at this; omega)
          have HUP := Lib.hid (up_madeL (l.take k))
          obtain ⟨L1, hL1e⟩ : ∃ L, madeL (l.take (k + 1)) = L := ⟨_, rfl⟩
          rw [hL1e] at HS
          have HE1 := Lib.hid hL1e
          clear hL1e
          generalize madeL (l.take k) = L0 at *
          generalize l[k] = x at *
          obtain ⟨mx, hmx⟩ : ∃ b, mayB x = b := ⟨_, rfl⟩
          have HKS := Lib.hid (fun W (h : KRep W g L0 F) hT => kset_u mx g x L0 F W h hT HOX.out HLN.out hmx)
          have HRS := Lib.hid (fun W (h : RRep W rb L0 G) => rset_u mx rb x L0 G W h HUP.out HOX.out HLN.out hmx)
          rw [← HS.out] at HKS HRS
          obtain ⟨t, p, q, r⟩ := x
          dsimp only at *
          clear hmx hD
          go_wp2_with fail
          refine (HKS.out _ HD.out.c (HD.out.tabs HT.out)).mono ?_
          rintro e w5 ⟨rfl, hq5, hu5⟩
          have HD5 := Lib.hid (HD.out.updK hq5 hu5)
          clear hq5 hu5 HD k0 k1 k2 k3
          obtain ⟨k0, k1, k2, k3⟩ := HC.out _ HD5.out.bel
          go_wp2_with fail
          refine (HRS.out _ HD5.out.d).mono ?_
          rintro e w6 ⟨rfl, G', hq6, hu6⟩
          have HD6 := Lib.hid (HD5.out.updR hq6 hu6)
          clear hq6 hu6 HD5 k0 k1 k2 k3
          go_wp2_with fail
          go_roundw
          case rel => exact ⟨k + 1, G', by go_num, by omega, by rw [HE1.out]; exact HD6.out⟩
          case measure => simp [intOf]; omega
        · have hkl : ¬ (k : Int) < l.length := by omega
          rw [List.take_of_length_le (by omega)] at hD HD
          have hLN : (madeL l).length ≤ 60 := by have := len_made l; omega
          have HMK := Lib.hid (ok_made HOK.out)
          generalize madeL l = L at *
          clear hD
          go_wp2_with fail
          go_loopw [8] (fun i wr => ∃ n : Nat, i = .int .i64 n ∧ n ≤ fl.length ∧ Duo w wr g L F rb L G) (fun i _ => (fl.length - intOf i).toNat)
          case atStart => exact ⟨0, rfl, by omega, HD.out⟩
          case round =>
            obtain ⟨n, rfl, hn, hE⟩ := hrel
            clear HD
            have HE := Lib.hid hE
            by_cases hnl : n < fl.length
            · have hn0 : (0 : Int) ≤ n := by omega
              have hnl' : (n : Int) < fl.length := by omega
              obtain ⟨b3, o3, rfl, j0⟩ := (HFR.out.below hE.bel (Nat.le_refl _)).at (sts_at (k := n) (s := fl[n]) (List.getElem?_eq_getElem hnl))
              have HFC : Hid (∀ W, Below w.heap.size w W → W.cell? ⟨b3, o3 + n, none⟩ = some (.string fl[n])) := Lib.hid (fun W (h : Below w.heap.size w W) => by
                obtain ⟨b', o', he, hj⟩ := (HFR.out.below h (Nat.le_refl _)).at (sts_at (k := n) (s := fl[n]) (List.getElem?_eq_getElem hnl))
                cases he; exact hj)
              generalize fl[n] = s at *
              clear hE
              by_cases hs3 : (300 : Int) < s.size
              · go_wp2_with fail
                refine (awake_true _ (HT.out.below HE.out.bel)).mono ?_
                rintro e w7 ⟨rfl, hk7⟩
                have hb7 := bnext HE.out.bel (Nat.le_refl _) hk7
                go_wp2_with fail
                go_ret
                exact ⟨rfl, hb7⟩
              · have hss : s.size < 4294967281 := by omega
                obtain ⟨X, hX⟩ : ∃ X, finds s.data.toList L = X := ⟨_, rfl⟩
                have hXL : X.length ≤ 60 := by rw [← hX]; have := finds_len s.data.toList L; omega
                have HX := Lib.hid hX
                clear hX
                go_wp2_with fail
                refine (kfind_any s g L F _ (by omega) (HE.out.tabs HT.out) hss HMK.out.small HE.out.c).mono ?_
                rintro e w8 ⟨v8, rfl, hown8, hk8⟩
                rw [HX.out] at hown8
                obtain ⟨a8, c8, rfl, hr8, hsp8⟩ := spoil_of (w0 := w) (F := F) (G := G) hown8 HE.out.c.lt HE.out.d.lt HE.out.bel.size
                have HE8 := Lib.hid (HE.out.below hk8)
                have HR8 := Lib.hid hr8
                have HS8 := Lib.hid hsp8
                clear j0 hr8 hsp8 hk8 hown8 HE
                have j0 := HFC.out _ HE8.out.bel
                go_wp2_with fail
                refine (rfind_any s rb L G _ (by omega) hss HMK.out.small HE8.out.d).mono ?_
                rintro e w9 ⟨v9, rfl, hown9, hk9⟩
                rw [HX.out] at hown9
                obtain ⟨a9, c9, rfl, hr9, -, -⟩ := ownsRow_row hown9
                have HE9 := Lib.hid (HE8.out.below hk9)
                have HR89 := Lib.hid (HR8.out.below hk9 (Nat.le_refl _))
                have HR9 := Lib.hid hr9
                have HS9 := Lib.hid (HS8.out.below hk9)
                clear j0 hr9 hk9 hown9 HE8 HR8 HS8
                go_wp2_with fail
                refine (same_any true a8 a9 c8 c9 X X _ HR89.out HR9.out (by omega) (by omega) (by simp)).mono ?_
                rintro e wa ⟨rfl, na, rfl⟩
                have HEA := Lib.hid (HE9.out.drewN na)
                have HSA := Lib.hid (HS9.out.below (below_drewN (Below.refl _ _) na))
                generalize w9.drewN na = wa at *
                clear HE9 HR89 HR9 HS9
                go_wp2_with fail
                go_loopw [10] (fun i wr => ∃ j : Nat, i = .int .i64 j ∧ j ≤ X.length ∧ Duo w wr g L F rb L G ∧ Spoil w wr a8 X.length F G) (fun i _ => (X.length - intOf i).toNat)
                case atStart => exact ⟨0, rfl, by omega, HEA.out, HSA.out⟩
                case round =>
                  clear HEA HSA
                  obtain ⟨j, rfl, hj, hE, hsp⟩ := hrel
                  by_cases hjN : j < X.length
                  · have hj0 : (0 : Int) ≤ j := by omega
                    have hjl : (j : Int) < X.length := by omega
                    rcases hsp with h | ⟨b7, cur, rfl, h2, h3, hbF, hbG, hb0⟩
                    · omega
                    have f0 := frozen_of_row wr b7 (j * 4) _ _ h2
                    have f1 := frozen_of_row wr b7 (j * 4 + 1) _ _ h2
                    have f2 := frozen_of_row wr b7 (j * 4 + 2) _ _ h2
                    have f3 := frozen_of_row wr b7 (j * 4 + 3) _ _ h2
                    have q0 := (cell_of_row wr b7 (j * 4) _ _ _ h2).trans (Array.getElem?_eq_getElem (by omega))
                    have q1 := (cell_of_row wr b7 (j * 4 + 1) _ _ _ h2).trans (Array.getElem?_eq_getElem (by omega))
                    have q2 := (cell_of_row wr b7 (j * 4 + 2) _ _ _ h2).trans (Array.getElem?_eq_getElem (by omega))
                    have q3 := (cell_of_row wr b7 (j * 4 + 3) _ _ _ h2).trans (Array.getElem?_eq_getElem (by omega))
                    have hs4 := set4at (x := .string ⟨#[]⟩) (y := .string ⟨#[]⟩) (z := .int .u8 0) (u := .bool false) (j * 4) h2
                    have hE4 := hE.mod hs4.2 hbF hbG hb0
                    have HS4 := Lib.hid hs4.1
                    have HE4 := Lib.hid hE4
                    clear hs4 hE hE4
                    go_wp2_with fail
                    go_roundw
                    case rel => exact ⟨j + 1, by go_num, by omega, HE4.out, .inr ⟨b7, _, rfl, HS4.out, by simpa using h3, hbF, hbG, hb0⟩⟩
                    case measure => simp [intOf]; omega
                  · have hjl : ¬ (j : Int) < X.length := by omega
                    have HEO := Lib.hid hE
                    clear hE hsp
                    go_wp2_with fail
                    go_roundw
                    case rel => exact ⟨n + 1, by go_num, by omega, HEO.out⟩
                    case measure => simp [intOf]; omega
            · have hnl' : ¬ (n : Int) < fl.length := by omega
              have HD := Lib.hid hE
              clear hE HE
              obtain ⟨a6, x6, -, d6, -⟩ := HD.out.d.open
              go_wp2_with fail
              refine wp_region_held_drew (S := fun w' => Duo w w' g L F rb L G ∧ w'.cell? ⟨rb, 0, none⟩ = some (.slice a6 L.length x6)) (by kernel_rfl) ⟨by exact HD.out.drewN 1, d6⟩ (fun hHeld => ?_)
              refine wpAnyH_take (i := 0) (v := ?_) rfl (by kernel_rfl) (by kernel_rfl) (by kernel_rfl) (fun _ _ _ h => h) (Or.inl ⟨rfl, ?_⟩) hHeld ?_
              rotate_left
              · intro w0 hS0
                try dsimp only at hS0
                go_simp
                try with_reducible rfl
              simp only [List.getElem_toArray, List.getElem_cons_zero, Act.put, List.setIfInBounds_toArray, List.set_cons_zero, List.set_cons_succ]
              refine wpAnyH_take (i := 2) (v := ?_) rfl (by kernel_rfl) (by kernel_rfl) (by kernel_rfl) (fun _ _ _ h => h) (Or.inl ⟨rfl, ?_⟩) hHeld ?_
              rotate_left
              · intro w0 hS0
                try dsimp only at hS0
                go_simp
                try with_reducible rfl
              simp only [List.getElem_toArray, List.getElem_cons_zero, List.getElem_cons_succ, Act.put, List.setIfInBounds_toArray, List.set_cons_zero, List.set_cons_succ]
              refine wpAnyH_take (i := 3) (v := ?_) rfl (by kernel_rfl) (by kernel_rfl) (by kernel_rfl) (fun _ _ _ h => h) (Or.inl ⟨rfl, ?_⟩) hHeld ?_
              rotate_left
              · intro w0 hS0
                try dsimp only at hS0
                go_simp
                try with_reducible rfl
              simp only [List.getElem_toArray, List.getElem_cons_zero, List.getElem_cons_succ, Act.put, List.setIfInBounds_toArray, List.set_cons_zero, List.set_cons_succ]
              refine wpAnyH_take (i := 4) (v := ?_) rfl (by kernel_rfl) (by kernel_rfl) (by kernel_rfl) (fun _ _ _ h => h) (Or.inl ⟨rfl, ?_⟩) hHeld ?_
              rotate_left
              · intro w0 hS0
                try dsimp only at hS0
                go_simp
                try with_reducible rfl
              simp only [List.getElem_toArray, List.getElem_cons_zero, List.getElem_cons_succ, Act.put, List.setIfInBounds_toArray, List.set_cons_zero, List.set_cons_succ]
              refine wpAnyH_take (i := 5) (v := ?_) rfl (by kernel_rfl) (by kernel_rfl) (by kernel_rfl) (fun _ _ _ h => h) (Or.inl ⟨rfl, ?_⟩) hHeld ?_
              rotate_left
              · intro w0 hS0
                try dsimp only at hS0
                go_simp
                try with_reducible rfl
              simp only [List.getElem_toArray, List.getElem_cons_zero, List.getElem_cons_succ, Act.put, List.setIfInBounds_toArray, List.set_cons_zero, List.set_cons_succ]
              refine wpAnyH_ready (rs := [1]) (by kernel_rfl) (by simp) ?_
              refine AllReadyH.cons rfl (fun K hK => ?_) AllReadyH.nil
              rw [if_pos (by rfl)]
              go_simp
              go_at_call 17
              refine (kall_u g L F _ (by omega) hHeld.1.c).mono ?_
              rintro e w7 ⟨a7, c7, rfl, -, hr7, hk7⟩
              have HD7 := Lib.hid (hHeld.1.below hk7)
              have HR7 := Lib.hid hr7
              refine hK.out _ _ ⟨HD7.out, (hk7.cell (p := ⟨rb, 0, none⟩) (World.block_lt_of_cell? _ _ hHeld.2)).trans hHeld.2⟩ (fun hHeld => ?_)
              obtain ⟨a8, x8, -, d8, hr8⟩ := HD7.out.d.open
              obtain ⟨rfl, rfl⟩ : a8 = a6 ∧ x8 = x6 := by have := d8.symm.trans hHeld.2; simp at this; exact this
              have HR8 := Lib.hid hr8
              clear hr7 hk7 hr8 d8
              refine wpAnyH_ready (rs := [6]) (by kernel_rfl) (by simp) ?_
              refine AllReadyH.cons rfl (fun K hK => ?_) AllReadyH.nil
              rw [if_pos (by rfl)]
              go_simp
              go_at_call 15
              refine (same_any true a7 a8 c7 x8 L L _ HR7.out HR8.out (by omega) (by omega) (by simp)).mono ?_
              rintro e w9 ⟨rfl, n9, rfl⟩
              have HD9 := Lib.hid (HD7.out.drewN n9)
              refine hK.out _ _ ⟨HD9.out, hHeld.2⟩ (fun hHeld => ?_)
              clear HD7 HR7 HR8
              refine wpAnyH_take (i := 7) (v := ?_) rfl (by kernel_rfl) (by kernel_rfl) (by kernel_rfl) (fun _ _ _ h => h) (Or.inl ⟨rfl, ?_⟩) hHeld ?_
              rotate_left
              · intro w0 hS0
                try dsimp only at hS0
                go_simp
                try with_reducible rfl
              simp only [List.getElem_toArray, List.getElem_cons_zero, List.getElem_cons_succ, Act.put, List.setIfInBounds_toArray, List.set_cons_zero, List.set_cons_succ]
              refine wpAnyH_ready (rs := [8]) (by kernel_rfl) (by simp) ?_
              refine AllReadyH.cons rfl (fun K hK => ?_) AllReadyH.nil
              rw [if_pos (by rfl)]
              go_simp
              go_at_call 10
              refine (awake_true _ (HT.out.below HD9.out.bel)).mono ?_
              rintro e wa ⟨rfl, hka⟩
              have HDA := Lib.hid (HD9.out.below hka)
              refine hK.out _ _ ⟨HDA.out, (hka.cell (p := ⟨rb, 0, none⟩) (World.block_lt_of_cell? _ _ hHeld.2)).trans hHeld.2⟩ (fun hHeld => ?_)
              clear hka HD9
              refine wpAnyH_take (i := 9) (v := ?_) rfl (by kernel_rfl) (by kernel_rfl) (by kernel_rfl) (fun _ _ _ h => h) (Or.inl ⟨rfl, ?_⟩) hHeld ?_
              rotate_left
              · intro w0 hS0
                try dsimp only at hS0
                go_simp
                try with_reducible rfl
              simp only [List.getElem_toArray, List.getElem_cons_zero, List.getElem_cons_succ, Act.put, List.setIfInBounds_toArray, List.set_cons_zero, List.set_cons_succ]
              refine wpAnyH_take (i := 10) (v := ?_) rfl (by kernel_rfl) (by kernel_rfl) (by kernel_rfl) (fun _ _ _ h => h) (Or.inl ⟨rfl, ?_⟩) hHeld ?_
              rotate_left
              · intro w0 hS0
                try dsimp only at hS0
                go_simp
                try with_reducible rfl
              simp only [List.getElem_toArray, List.getElem_cons_zero, List.getElem_cons_succ, Act.put, List.setIfInBounds_toArray, List.set_cons_zero, List.set_cons_succ]
              refine wpAnyH_done (by kernel_rfl) ?_ _
              go_wp2_with fail
              go_ret
              exact ⟨rfl, HDA.out.bel⟩
end Go.Proofs.YtagjlmpmbflmhaaDoor
