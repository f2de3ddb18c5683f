/- InApart walked. -/
import Derived.Test.YtjfmnlhbodekaaaIRow
namespace Go.Proofs.Ytjfmnlhbodekaaa
open Go Go.RowKit Go.Maps

theorem zero_not {w : World} {g : Nat} {l : List Int} {F : List Nat} (h : CRep w g l F) : (0 : Int) ∉ l := fun h0 => by have := h.range 0 h0; omega
theorem frs_out {x : Int} {l : List Int} (h0 : (0 : Int) ∉ l) (hs : l.Pairwise (· < ·)) (hx : x ∈ l) : frs x (out x l) = l := by
  have h1 : (frs x (out x l)).Pairwise (· < ·) := by
    unfold frs; split
    · exact out_sorted hs
    · rename_i h; exact ins_sorted (out_sorted hs) (fun hm => h (.inr hm))
  refine sorted_ext h1 hs fun z => ?_
  rw [mem_frs, mem_out]
  constructor
  · rintro (⟨h, _⟩ | ⟨rfl, _⟩)
    · exact h
    · exact hx
  · intro h
    by_cases e : z = x
    · exact .inr ⟨e, fun e0 => h0 (e0 ▸ hx)⟩
    · exact .inl ⟨h, e⟩
theorem out_frs {x : Int} {l : List Int} (hs : l.Pairwise (· < ·)) (hx : x ∉ l) : out x (frs x l) = l := by
  have h1 : (frs x l).Pairwise (· < ·) := by
    unfold frs; split
    · exact hs
    · exact ins_sorted hs hx
  refine sorted_ext (out_sorted h1) hs fun z => ?_
  rw [mem_out, mem_frs]
  constructor
  · rintro ⟨h | ⟨rfl, _⟩, h2⟩
    · exact h
    · exact absurd rfl h2
  · intro h
    exact ⟨.inl h, fun e => hx (e ▸ h)⟩

/-- one set, and what has been told of it -/
structure One (w0 w : World) (g : Nat) (l : List Int) (F : List Nat) : Prop where
  c : CRep w g l F
  fF : ∀ k ∈ F, w0.heap.size ≤ k
  bel : Below w0.heap.size w0 w
section
variable {w0 w w' : World} {g : Nat} {l l' : List Int} {F F' : List Nat}
theorem One.below (h : One w0 w g l F) (hk : Below w.heap.size w w') : One w0 w' g l F := ⟨h.c.below hk, h.fF, bnext h.bel (Nat.le_refl _) hk⟩
theorem One.drewN (h : One w0 w g l F) (n : Nat) : One w0 (w.drewN n) g l F := h.below (below_drewN (Below.refl _ _) n)
theorem One.upd (h : One w0 w g l F) (hq : CRep w' g l' F') (hu : Upd F F' w w') : One w0 w' g l' F' := by
  obtain ⟨hb, hf⟩ := upd_below h.bel (Nat.le_refl _) h.fF hu
  exact ⟨hq, hf, hb⟩
end
/-- A row of the call's own stays what it is while another footprint is written. -/
theorem Row.upd {F F' : List Nat} {w w' : World} {a : Option Addr} {xs : List Value} (h : Row w a xs) (hu : Upd F F' w w') (hF : ∀ b o, a = some ⟨b, o, none⟩ → b ∉ F) : Row w' a xs := h.mod hu.1 hF
theorem own_far {w : World} {B : Nat} {e : TypeId} {n c : Nat} {a : Option Addr} {xs : List Value} {F : List Nat} (h : w.ownsRow B e 1 (.slice a n c) n xs) (hF : ∀ k ∈ F, k < B) : ∀ b o, a = some ⟨b, o, none⟩ → b ∉ F := by
  rintro b o rfl hb
  rcases h.2 with ⟨h0, _⟩ | ⟨g, cap, cur, hv, hg, _⟩
  · cases h0
  · simp only [Value.slice.injEq, Option.some.injEq, Addr.mk.injEq] at hv
    have := hF b hb; omega

set_option maxRecDepth 100000 in
set_option maxHeartbeats 4000000 in
theorem apart_true (a : Option Addr) (c : Nat) (l : List Act2) (x : Int) (w : World) (ha : Row w a (acts l)) (hok : ∀ d ∈ l, d.ok) (x0 : 0 ≤ x) (x1 : x ≤ 65535) :
    Calls Try.prog 6 #[.slice a l.length c, .int .u16 x] w fun e w' => e = .returned (.bool true) ∧ Below w.heap.size w w' := by
  have HA := Lib.hid ha
  clear ha
  by_cases hbig : (500 : Int) < l.length
  · skip
    go_enter Try.func6, Try.ntmps6
    go_wp2_with fail
    refine (awake_true _).mono ?_
    rintro e w7 ⟨rfl, hb⟩
    go_wp2_with fail
    go_ret
    exact ⟨rfl, hb⟩
  have hbig' : decide ((500 : Int) < l.length) = false := by simp [hbig]
  have hlen : l.length ≤ 500 := by omega
  clear hbig
  go_enter Try.func6, Try.ntmps6
  go_wp2_with fail
  refine (cnew _).mono ?_
  rintro e w1 ⟨g, F, rfl, hq, hu⟩
  obtain ⟨hb, hF⟩ := upd_below (Below.refl w.heap.size w) (Nat.le_refl _) (by simp) hu
  have HT : Hid (One w w1 g [] F) := Lib.hid ⟨hq, hF, hb⟩
  clear hu hq hF hb
  go_wp2_with fail
  go_loopw [6] (fun i wr => ∃ (k : Nat) (p : List Int), i = .int .i64 k ∧ k ≤ l.length ∧ One w wr g p F) (fun i _ => (l.length - intOf i).toNat)
  case atStart => exact ⟨0, _, rfl, by omega, HT.out⟩
  case round =>
    obtain ⟨k, p, rfl, hk, hT⟩ := hrel
    by_cases hlt : k < l.length
    · have hk0 : (0 : Int) ≤ k := by omega
      have hkl : (k : Int) < l.length := by omega
      obtain ⟨b1, o1, rfl, k0, k1⟩ := acts_row (HA.out.below hT.bel (Nat.le_refl _)) (k := k) (d := l[k]) (by simp [hlt])
      have hd := hok l[k] (List.getElem_mem hlt)
      generalize l[k] = d at *
      obtain ⟨dk, y⟩ := d
      have z0 := hd.k0
      have z1 := hd.k1
      have y0 := hd.i0
      have y1 := hd.i1
      simp only at k0 k1 z0 z1 y0 y1
      by_cases h4 : dk % 8 < 4
      · go_wp2_with fail
        refine (cfirst_u _ g y p F _ hT.c y0 y1 rfl).mono ?_
        rintro e w5 ⟨rfl, hq, hu⟩
        replace hT := hT.upd hq hu
        clear hq hu
        go_wp2_with fail
        go_roundw
        case rel => exact ⟨k + 1, _, by go_num, by omega, hT⟩
        case measure => simp [intOf]; omega
      · have h4d : decide (dk % 8 < 4) = false := by simpa using h4
        go_wp2_with fail
        refine (crel_u _ g y p F _ hT.c y0 y1 rfl).mono ?_
        rintro e w5 ⟨rfl, hq, hu⟩
        replace hT := hT.upd hq hu
        clear hq hu
        go_wp2_with fail
        go_roundw
        case rel => exact ⟨k + 1, _, by go_num, by omega, hT⟩
        case measure => simp [intOf]; omega
    · have hkl : ¬ (k : Int) < l.length := by omega
      clear HT
      have hpl := hT.c.len
      go_wp2_with fail
      refine (copen_u g p F _ hT.c).mono ?_
      rintro e w5 ⟨a5, c5, rfl, hown, hr5, hk5⟩
      have HF := Lib.hid (own_far hown hT.c.lt)
      replace hT := hT.below hk5
      have HR := Lib.hid hr5
      clear hk5 hown hr5
      obtain ⟨b, hb⟩ : ∃ b, decide (x ∈ p) = b := ⟨_, rfl⟩
      have HB := Lib.hid hb
      have hpl2 : (p.length : Int) < 4611686018427387904 := by omega
      go_upto_if 45 with (refine (cknows_any b g x p F _ hT.c x0 x1 HB.out).mono ?_; rintro e w6 ⟨rfl, hk6⟩)
      replace hT := hT.below hk6
      have HR6 := Lib.hid (HR.out.below hk6 (Nat.le_refl _))
      clear hk6 HB HR
      go_cut [46] from 47 to 69 (fun _ wx => One w wx g p F ∧ Row wx a5 (u16s p))
      case first =>
        cases b with
        | true =>
          have hx : x ∈ p := by simpa using hb
          have hxr := hT.c.range x hx
          have hxo : decide (x ≠ 0 ∧ x ∉ out x p) = true := by simp [mem_out]; omega
          have HX := Lib.hid hb
          have HXO := Lib.hid hxo
          have HE := Lib.hid (frs_out (zero_not hT.c) hT.c.sorted hx)
          clear hb hx hxo
          go_wp2_with fail
          refine (crel_u true g x p F _ hT.c x0 x1 HX.out).mono ?_
          rintro e w7 ⟨rfl, hq, hu⟩
          have HR7 := Lib.hid (HR6.out.upd hu HF.out)
          replace hT := hT.upd hq hu
          clear hq hu HR6
          go_wp2_with fail
          refine (cfirst_u true g x (out x p) F _ hT.c x0 x1 HXO.out).mono ?_
          rintro e w8 ⟨rfl, hq, hu⟩
          have HR8 := Lib.hid (HR7.out.upd hu HF.out)
          replace hT := hT.upd hq hu
          rw [HE.out] at hT
          clear hq hu HR7
          go_wp2_with fail
          go_meet
          exact ⟨hT, HR8.out⟩
        | false =>
          have hx : x ∉ p := by simpa using hb
          obtain ⟨b2, hb2⟩ : ∃ b2, decide (x ≠ 0 ∧ x ∉ p) = b2 := ⟨_, rfl⟩
          have hn : (x != 0) = b2 := by rw [← hb2]; by_cases e : x = 0 <;> simp [e, hx]
          have hxo : decide (x ∈ frs x p) = b2 := by rw [← hn]; by_cases e : x = 0 <;> simp [mem_frs, e, hx]; exact fun h => hx (e ▸ h)
          have hne : (b2 != b2) = false := by cases b2 <;> rfl
          have HX := Lib.hid hb2
          have HXO := Lib.hid hxo
          have HE := Lib.hid (out_frs hT.c.sorted hx)
          clear hb hx hxo hb2
          go_wp2_with fail
          refine (cfirst_u b2 g x p F _ hT.c x0 x1 HX.out).mono ?_
          rintro e w7 ⟨rfl, hq, hu⟩
          have HR7 := Lib.hid (HR6.out.upd hu HF.out)
          replace hT := hT.upd hq hu
          clear hq hu HR6
          go_wp2_with fail
          refine (crel_u b2 g x (frs x p) F _ hT.c x0 x1 HXO.out).mono ?_
          rintro e w8 ⟨rfl, hq, hu⟩
          have HR8 := Lib.hid (HR7.out.upd hu HF.out)
          replace hT := hT.upd hq hu
          rw [HE.out] at hT
          clear hq hu HR7
          go_wp2_with fail
          go_meet
          exact ⟨hT, HR8.out⟩
      case rest =>
        obtain ⟨hT, hr⟩ := hcut
        have HR := Lib.hid hr
        clear hr HR6
        go_wp2_with fail
        refine (copen_u g p F _ hT.c).mono ?_
        rintro e w7 ⟨a7, c7, rfl, -, hr7, hk7⟩
        replace hT := hT.below hk7
        have HR7 := Lib.hid hr7
        have HRA := Lib.hid (HR.out.below hk7 (Nat.le_refl _))
        clear hk7 HR hr7
        go_wp2_with fail
        refine (same_any true a7 a5 c7 c5 p p _ HR7.out HRA.out hpl2 (by simp)).mono ?_
        rintro e w8 ⟨rfl, n8, rfl⟩
        replace hT := hT.drewN n8
        have HR8 := Lib.hid (HRA.out.below (below_draws n8) (Nat.le_refl _))
        clear HR7 HRA
        generalize w7.drewN n8 = w8 at *
        go_wp2_with fail
        refine (cforget g p F _ hT.c).mono ?_
        rintro e w9 ⟨rfl, hq, hu⟩
        have HR9 := Lib.hid (HR8.out.upd hu HF.out)
        have HS := Lib.hid hT.c.sorted
        have HG := Lib.hid hT.c.range
        replace hT := hT.upd hq hu
        have HT := Lib.hid hT
        clear hq hu HR8 hT
        go_wp2_with fail
        go_loopw [8] (fun i wr => ∃ (k : Nat), i = .int .i64 k ∧ k ≤ p.length ∧ One w wr g (p.take k) F ∧ Row wr a5 (u16s p)) (fun i _ => (p.length - intOf i).toNat)
        case atStart => exact ⟨0, rfl, by omega, by simpa using HT.out, HR9.out⟩
        case round =>
          obtain ⟨k, rfl, hk, hT, hr⟩ := hrel
          have HR := Lib.hid hr
          clear HT HR9 hr
          by_cases hlt : k < p.length
          · have hk0 : (0 : Int) ≤ k := by omega
            have hkl : (k : Int) < p.length := by omega
            obtain ⟨b1, o1, rfl, k0⟩ := row_at HR.out (k := k) (x := p[k]) (by simp [hlt])
            have hxr := HG.out p[k] (List.getElem_mem hlt)
            have hnot : p[k] ∉ p.take k := by
              intro hm
              obtain ⟨j, hj, e⟩ := List.mem_take_iff_getElem.1 hm
              have := List.pairwise_iff_getElem.1 HS.out j k (by omega) hlt (by omega)
              omega
            have HD := Lib.hid (show decide (p[k] ∈ p.take k) = false by simpa using hnot)
            have HD2 := Lib.hid (show decide (p[k] ≠ 0 ∧ p[k] ∉ p.take k) = true by simp only [decide_eq_true_eq]; exact ⟨by omega, hnot⟩)
            have HX := Lib.hid (show p[k]? = some p[k] by simp [hlt])
            have HS2 : Hid (frs p[k] (p.take k) = p.take (k + 1)) := Lib.hid (by
              have h1 : (frs p[k] (p.take k)).Pairwise (· < ·) := by
                unfold frs; split
                · exact HS.out.sublist (List.take_sublist _ _)
                · exact ins_sorted (HS.out.sublist (List.take_sublist _ _)) hnot
              refine sorted_ext h1 (HS.out.sublist (List.take_sublist _ _)) fun z => ?_
              rw [mem_frs, List.take_add_one, HX.out]
              simp only [Option.toList_some, List.mem_append, List.mem_singleton]
              constructor
              · rintro (h | ⟨h, _⟩) <;> simp [h]
              · rintro (h | h)
                · exact .inl h
                · exact .inr ⟨h, by omega⟩)
            generalize p[k] = y at *
            obtain ⟨y0, y1⟩ := hxr
            have y0' : 0 ≤ y := by omega
            clear hnot
            go_wp2_with fail
            refine (cknows_any false g y (p.take k) F _ hT.c y0' y1 HD.out).mono ?_
            rintro e wa ⟨rfl, hka⟩
            replace hT := hT.below hka
            have HRa := Lib.hid (HR.out.below hka (Nat.le_refl _))
            clear hka k0 HR
            obtain ⟨b2, o2, he, k0⟩ := row_at HRa.out HX.out
            cases he
            go_wp2_with fail
            refine (cfirst_u true g y (p.take k) F _ hT.c y0' y1 HD2.out).mono ?_
            rintro e wb ⟨rfl, hq, hu⟩
            have HRb := Lib.hid (HRa.out.upd hu HF.out)
            replace hT := hT.upd hq hu
            rw [HS2.out] at hT
            clear hq hu k0 HRa
            go_wp2_with fail
            go_roundw
            case rel => exact ⟨k + 1, by go_num, by omega, hT, HRb.out⟩
            case measure => simp [intOf]; omega
          · have hkl : ¬ (k : Int) < p.length := by omega
            rw [List.take_of_length_le (by omega)] at hT
            go_wp2_with fail
            refine (copen_u g p F _ hT.c).mono ?_
            rintro e wa ⟨aa, ca, rfl, -, hra, hka⟩
            replace hT := hT.below hka
            have HRa := Lib.hid hra
            have HRA := Lib.hid (HR.out.below hka (Nat.le_refl _))
            clear hka HR hra
            go_wp2_with fail
            refine (same_any true aa a5 ca c5 p p _ HRa.out HRA.out hpl2 (by simp)).mono ?_
            rintro e wb ⟨rfl, nb, rfl⟩
            have hb := (hT.drewN nb).bel
            clear HRa HRA hT
            generalize wa.drewN nb = wb at *
            go_wp2_with fail
            refine (awake_true _).mono ?_
            rintro e wc ⟨rfl, hk⟩
            replace hb := bnext hb (Nat.le_refl _) hk
            go_wp2_with fail
            go_ret
            exact ⟨rfl, hb⟩
end Go.Proofs.Ytjfmnlhbodekaaa
