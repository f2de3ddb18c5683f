/- InRow walked. -/
import Derived.Test.YtjfmnlhbodekaaaIAwake
import Derived.Deep.CutRange
import Derived.Deep.CutBlock
namespace Go.Proofs.Ytjfmnlhbodekaaa
open Go Go.RowKit Go.Maps

structure Two (w0 w : World) (g r : Nat) (lq lr : List Int) (F G : List Nat) : Prop where
  c : CRep w g lq F
  t : CRep w r lr G
  far : Far F G
  fF : ∀ k ∈ F, w0.heap.size ≤ k
  fG : ∀ k ∈ G, w0.heap.size ≤ k
  bel : Below w0.heap.size w0 w
section
variable {w0 w w' : World} {g r : Nat} {lq lr l' : List Int} {F G F' : List Nat}
theorem Two.below (h : Two w0 w g r lq lr F G) (hk : Below w.heap.size w w') : Two w0 w' g r lq lr F G := ⟨h.c.below hk, h.t.below hk, h.far, h.fF, h.fG, bnext h.bel (Nat.le_refl _) hk⟩
theorem Two.drewN (h : Two w0 w g r lq lr F G) (n : Nat) : Two w0 (w.drewN n) g r lq lr F G := h.below (below_drewN (Below.refl _ _) n)
theorem Two.uc (h : Two w0 w g r lq lr F G) (hq : CRep w' g l' F') (hu : Upd F F' w w') : Two w0 w' g r l' lr F' G := by
  obtain ⟨hb, hf⟩ := upd_below h.bel (Nat.le_refl _) h.fF hu
  exact ⟨hq, h.t.upd hu h.far, h.far.upd hu h.t.lt, hf, h.fG, hb⟩
theorem Two.ut (h : Two w0 w g r lq lr F G) (hq : CRep w' r l' F') (hu : Upd G F' w w') : Two w0 w' g r lq l' F F' := by
  obtain ⟨hb, hf⟩ := upd_below h.bel (Nat.le_refl _) h.fG hu
  exact ⟨h.c.upd hu h.far.symm, hq, (h.far.symm.upd hu h.c.lt).symm, h.fF, hf, hb⟩
end
theorem mem_frs (x z : Int) (l : List Int) : z ∈ frs x l ↔ (z ∈ l ∨ (z = x ∧ x ≠ 0)) := by
  unfold frs
  split
  · rename_i h
    constructor
    · exact .inl
    · rintro (h1 | ⟨rfl, h2⟩)
      · exact h1
      · exact h.resolve_left h2
  · rename_i h
    rw [mem_ins]
    constructor
    · rintro (rfl | h1)
      · exact .inr ⟨rfl, fun e => h (.inl e)⟩
      · exact .inl h1
    · rintro (h1 | ⟨rfl, _⟩)
      · exact .inr h1
      · exact .inl rfl
theorem length_frs (x : Int) (l : List Int) : (frs x l).length ≤ l.length + 1 := by
  unfold frs
  split
  · omega
  · rw [length_ins]; exact Nat.le_refl _
/-- what has come -/
def Came1 (l a : List Int) : Prop := ∀ z, z ∈ l ↔ z ∈ a ∧ z ≠ 0
theorem Came1.front {l a : List Int} {k : Nat} {x : Int} (h : Came1 l (a.take k)) (hx : a[k]? = some x) : Came1 (frs x l) (a.take (k + 1)) := by
  intro z
  rw [mem_frs, h z, List.take_add_one, hx]
  simp only [Option.toList_some, List.mem_append, List.mem_singleton]
  constructor
  · rintro (⟨h1, h2⟩ | ⟨rfl, h2⟩)
    · exact ⟨.inl h1, h2⟩
    · exact ⟨.inr rfl, h2⟩
  · rintro ⟨h1 | rfl, h2⟩
    · exact .inl ⟨h1, h2⟩
    · exact .inr ⟨rfl, h2⟩
theorem Came1.back {l a : List Int} {j : Nat} {x : Int} (h : Came1 l (a.drop (j + 1))) (hx : a[j]? = some x) : Came1 (frs x l) (a.drop j) := by
  intro z
  have hj := (List.getElem?_eq_some_iff.1 hx).1
  rw [mem_frs, h z, List.drop_eq_getElem_cons hj, (List.getElem?_eq_some_iff.1 hx).2]
  simp only [List.mem_cons]
  constructor
  · rintro (⟨h1, h2⟩ | ⟨rfl, h2⟩)
    · exact ⟨.inr h1, h2⟩
    · exact ⟨.inl rfl, h2⟩
  · rintro ⟨rfl | h1, h2⟩
    · exact .inr ⟨rfl, h2⟩
    · exact .inl ⟨h1, h2⟩
/-- what is left -/
def Left1 (q l b : List Int) : Prop := ∀ z, z ∈ l ↔ z ∈ q ∧ z ∉ b
theorem Left1.front {q l a : List Int} {k : Nat} {x : Int} (h : Left1 q l (a.take k)) (hx : a[k]? = some x) : Left1 q (out x l) (a.take (k + 1)) := by
  intro z
  rw [mem_out, h z, List.take_add_one, hx]
  simp only [Option.toList_some, List.mem_append, List.mem_singleton, not_or, ne_eq]
  constructor
  · rintro ⟨⟨h1, h2⟩, h3⟩; exact ⟨h1, h2, h3⟩
  · rintro ⟨h1, h2, h3⟩; exact ⟨⟨h1, h2⟩, h3⟩
theorem Left1.back {q l a : List Int} {j : Nat} {x : Int} (h : Left1 q l (a.drop (j + 1))) (hx : a[j]? = some x) : Left1 q (out x l) (a.drop j) := by
  intro z
  have hj := (List.getElem?_eq_some_iff.1 hx).1
  rw [mem_out, h z, List.drop_eq_getElem_cons hj, (List.getElem?_eq_some_iff.1 hx).2]
  simp only [List.mem_cons, not_or, ne_eq]
  constructor
  · rintro ⟨⟨h1, h2⟩, h3⟩; exact ⟨h1, h3, h2⟩
  · rintro ⟨h1, h2, h3⟩; exact ⟨⟨h1, h3⟩, h2⟩

set_option maxRecDepth 100000 in
set_option maxHeartbeats 4000000 in
theorem row_true (a b : Option Addr) (c d : Nat) (l m : List Int) (w : World) (ha : Row w a (u16s l)) (hb : Row w b (u16s m)) (hl : ∀ x ∈ l, 0 ≤ x ∧ x ≤ 65535) (hm : ∀ x ∈ m, 0 ≤ x ∧ x ≤ 65535) :
    Calls Try.prog 7 #[.slice a l.length c, .slice b m.length d] w fun e w' => e = .returned (.bool true) ∧ Below w.heap.size w w' := by
  have HA := Lib.hid ha
  have HM := Lib.hid hb
  clear ha hb
  by_cases hbig : (200 : Int) < l.length
  · skip
    go_enter Try.func7, Try.ntmps7
    go_wp2_with fail
    refine (awake_true _).mono ?_
    rintro e w7 ⟨rfl, hb⟩
    go_wp2_with fail
    go_ret
    exact ⟨rfl, hb⟩
  have hbig' : decide ((200 : Int) < l.length) = false := by simp [hbig]
  by_cases hbig2 : (200 : Int) < m.length
  · skip
    go_enter Try.func7, Try.ntmps7
    go_wp2_with fail
    refine (awake_true _).mono ?_
    rintro e w7 ⟨rfl, hb⟩
    go_wp2_with fail
    go_ret
    exact ⟨rfl, hb⟩
  have hbig2' : decide ((200 : Int) < m.length) = false := by simp [hbig2]
  have hlen : l.length ≤ 200 := by omega
  have hmlen : m.length ≤ 200 := by omega
  clear hbig hbig2
  go_enter Try.func7, Try.ntmps7
  go_wp2_with fail
  refine (cnew _).mono ?_
  rintro e w1 ⟨g, F, rfl, hq, hu⟩
  obtain ⟨hb, hF⟩ := upd_below (Below.refl w.heap.size w) (Nat.le_refl _) (by simp) hu
  clear hu
  go_wp2_with fail
  refine (cnew _).mono ?_
  rintro e w2 ⟨r, G, rfl, ht, hu⟩
  obtain ⟨hb2, hG⟩ := upd_below hb (Nat.le_refl _) (by simp) hu
  have HT : Hid (Two w w2 g r [] [] F G) := Lib.hid ⟨hq.upd hu (fun _ h => by simp at h), ht, (far_new hu hq.lt).symm, hF, hG, hb2⟩
  clear hb hb2 hq ht hu hF hG
  go_wp2_with fail
  go_loopw [7] (fun i wr => ∃ (k : Nat) (p q : List Int) (F G : List Nat), i = .int .i64 k ∧ k ≤ l.length ∧ Two w wr g r p q F G ∧ Came1 p (l.take k) ∧ Came1 q (l.drop (l.length - k)) ∧ p.length ≤ k) (fun i _ => (l.length - intOf i).toNat)
  case atStart => exact ⟨0, _, _, _, _, rfl, by omega, HT.out, fun z => by simp, fun z => by simp, by simp⟩
  case round =>
    obtain ⟨k, p, q, F, G, rfl, hk, hT, hp, hq, hpl⟩ := hrel
    have HP := Lib.hid hp
    have HQ := Lib.hid hq
    clear hp hq
    by_cases hlt : k < l.length
    · have hk0 : (0 : Int) ≤ k := by omega
      have hkl : (k : Int) < l.length := by omega
      obtain ⟨b1, o1, rfl, k0⟩ := row_at (HA.out.below hT.bel (Nat.le_refl _)) (k := k) (x := l[k]) (by simp [hlt])
      obtain ⟨x0, x1⟩ := hl l[k] (List.getElem_mem hlt)
      have HX := Lib.hid (show l[k]? = some l[k] by simp [hlt])
      generalize l[k] = x at *
      go_wp2_with fail
      refine (cfirst_u _ g x p F _ hT.c x0 x1 rfl).mono ?_
      rintro e w5 ⟨rfl, hq, hu⟩
      replace hT := hT.uc hq hu
      clear hq hu k0 x0 x1
      obtain ⟨j, hj⟩ : ∃ j, j + k + 1 = l.length := ⟨l.length - 1 - k, by omega⟩
      have hjl : j < l.length := by omega
      obtain ⟨b2, o2, he, k0⟩ := row_at (HA.out.below hT.bel (Nat.le_refl _)) (k := j) (x := l[j]) (by simp [hjl])
      cases he
      obtain ⟨x0, x1⟩ := hl l[j] (List.getElem_mem hjl)
      have HY := Lib.hid (show l[j]? = some l[j] by simp [hjl])
      generalize l[j] = y at *
      have HJ := Lib.hid hj
      have j0 : (0 : Int) ≤ (l.length : Int) - 1 - k := by omega
      have j1 : (l.length : Int) - 1 - k < l.length := by omega
      have j2 : ((l.length : Int) - 1 - k).toNat = j := by omega
      clear hj
      go_wp2_with fail
      refine (cfirst_u _ r y q G _ hT.t x0 x1 rfl).mono ?_
      rintro e w6 ⟨rfl, hq, hu⟩
      replace hT := hT.ut hq hu
      clear hq hu k0 x0 x1
      go_wp2_with fail
      go_roundw
      case rel =>
        have hj := HJ.out
        refine ⟨k + 1, _, _, _, _, by go_num, by omega, hT, HP.out.front HX.out, ?_, by have := length_frs x p; omega⟩
        have h1 := HQ.out
        rw [show l.length - k = j + 1 by omega] at h1
        rw [show l.length - (k + 1) = j by omega]
        exact h1.back HY.out
      case measure => simp [intOf]; omega
    · have hkl : ¬ (k : Int) < l.length := by omega
      have hpl2 : p.length ≤ l.length := by omega
      obtain rfl : p = q := sorted_ext hT.c.sorted hT.t.sorted fun z => by
        have h1 := HP.out z; have h2 := HQ.out z
        rw [List.take_of_length_le (by omega)] at h1
        rw [show l.length - k = 0 by omega, List.drop_zero] at h2
        rw [h1, h2]
      have HT1 := Lib.hid hT
      clear hT HP HQ hpl HT
      go_wp2_with fail
      go_loopw [8] (fun i wr => ∃ (k : Nat) (p1 q1 : List Int) (F G : List Nat), i = .int .i64 k ∧ k ≤ m.length ∧ Two w wr g r p1 q1 F G ∧ Left1 p p1 (m.take k) ∧ Left1 p q1 (m.drop (m.length - k)) ∧ p1.length ≤ l.length) (fun i _ => (m.length - intOf i).toNat)
      case atStart => exact ⟨0, p, p, _, _, rfl, by omega, HT1.out, fun z => by simp, fun z => by simp, hpl2⟩
      case round =>
        obtain ⟨k, p1, q1, F, G, rfl, hk, hT, hp, hq, hpl⟩ := hrel
        have HP := Lib.hid hp
        have HQ := Lib.hid hq
        clear hp hq HT1
        by_cases hlt : k < m.length
        · have hk0 : (0 : Int) ≤ k := by omega
          have hkl : (k : Int) < m.length := by omega
          obtain ⟨b1, o1, rfl, k0⟩ := row_at (HM.out.below hT.bel (Nat.le_refl _)) (k := k) (x := m[k]) (by simp [hlt])
          obtain ⟨x0, x1⟩ := hm m[k] (List.getElem_mem hlt)
          have HX := Lib.hid (show m[k]? = some m[k] by simp [hlt])
          generalize m[k] = x at *
          go_wp2_with fail
          refine (crel_u _ g x p1 F _ hT.c x0 x1 rfl).mono ?_
          rintro e w5 ⟨rfl, hq, hu⟩
          replace hT := hT.uc hq hu
          clear hq hu k0 x0 x1
          obtain ⟨j, hj⟩ : ∃ j, j + k + 1 = m.length := ⟨m.length - 1 - k, by omega⟩
          have hjl : j < m.length := by omega
          obtain ⟨b2, o2, he, k0⟩ := row_at (HM.out.below hT.bel (Nat.le_refl _)) (k := j) (x := m[j]) (by simp [hjl])
          cases he
          obtain ⟨x0, x1⟩ := hm m[j] (List.getElem_mem hjl)
          have HY := Lib.hid (show m[j]? = some m[j] by simp [hjl])
          generalize m[j] = y at *
          have HJ := Lib.hid hj
          have j0 : (0 : Int) ≤ (m.length : Int) - 1 - k := by omega
          have j1 : (m.length : Int) - 1 - k < m.length := by omega
          have j2 : ((m.length : Int) - 1 - k).toNat = j := by omega
          clear hj
          go_wp2_with fail
          refine (crel_u _ r y q1 G _ hT.t x0 x1 rfl).mono ?_
          rintro e w6 ⟨rfl, hq, hu⟩
          replace hT := hT.ut hq hu
          clear hq hu k0 x0 x1
          go_wp2_with fail
          go_roundw
          case rel =>
            have hj := HJ.out
            refine ⟨k + 1, _, _, _, _, by go_num, by omega, hT, HP.out.front HX.out, ?_, by have := length_out_le x p1; omega⟩
            have h1 := HQ.out
            rw [show m.length - k = j + 1 by omega] at h1
            rw [show m.length - (k + 1) = j by omega]
            exact h1.back HY.out
          case measure => simp [intOf]; omega
        · have hkl : ¬ (k : Int) < m.length := by omega
          have HN : Hid (∀ x ∈ m, x ∉ p1) := Lib.hid fun x hx hp => by
            have h1 := (HP.out x).1 hp
            rw [List.take_of_length_le (by omega)] at h1
            exact h1.2 hx
          obtain rfl : p1 = q1 := sorted_ext hT.c.sorted hT.t.sorted fun z => by
            have h1 := HP.out z; have h2 := HQ.out z
            rw [List.take_of_length_le (by omega)] at h1
            rw [show m.length - k = 0 by omega, List.drop_zero] at h2
            rw [h1, h2]
          have HT2 := Lib.hid hT
          clear hT HP HQ
          go_wp2_with fail
          go_loopw [9] (fun i wr => ∃ (k : Nat), i = .int .i64 k ∧ k ≤ m.length ∧ Two w wr g r p1 p1 F G) (fun i _ => (m.length - intOf i).toNat)
          case atStart => exact ⟨0, rfl, by omega, HT2.out⟩
          case round =>
            obtain ⟨k, rfl, hk, hT⟩ := hrel
            clear HT2
            by_cases hlt : k < m.length
            · have hk0 : (0 : Int) ≤ k := by omega
              have hkl : (k : Int) < m.length := by omega
              obtain ⟨b1, o1, rfl, k0⟩ := row_at (HM.out.below hT.bel (Nat.le_refl _)) (k := k) (x := m[k]) (by simp [hlt])
              obtain ⟨x0, x1⟩ := hm m[k] (List.getElem_mem hlt)
              have HX := Lib.hid (show m[k]? = some m[k] by simp [hlt])
              have HD := Lib.hid (show decide (m[k] ∈ p1) = false by simpa using HN.out m[k] (List.getElem_mem hlt))
              generalize m[k] = x at *
              go_wp2_with fail
              refine (cknows_any false g x p1 F _ hT.c x0 x1 HD.out).mono ?_
              rintro e w5 ⟨rfl, hk5⟩
              replace hT := hT.below hk5
              clear hk5 k0
              obtain ⟨b2, o2, he, k0⟩ := row_at (HM.out.below hT.bel (Nat.le_refl _)) (k := k) (x := x) HX.out
              cases he
              go_wp2_with fail
              refine (cknows_any false r x p1 G _ hT.t x0 x1 HD.out).mono ?_
              rintro e w6 ⟨rfl, hk5⟩
              replace hT := hT.below hk5
              clear hk5 k0
              go_wp2_with fail
              go_roundw
              case rel => exact ⟨k + 1, by go_num, by omega, hT⟩
              case measure => simp [intOf]; omega
            · have hkl : ¬ (k : Int) < m.length := by omega
              go_wp2_with fail
              refine (copen_u g p1 F _ hT.c).mono ?_
              rintro e w5 ⟨a5, c5, rfl, -, hr5, hk5⟩
              replace hT := hT.below hk5
              clear hk5
              have HR5 := Lib.hid hr5
              clear hr5
              go_wp2_with fail
              refine (copen_u r p1 G _ hT.t).mono ?_
              rintro e w6 ⟨a6, c6, rfl, -, hr6, hk6⟩
              replace hT := hT.below hk6
              have HR5 := Lib.hid (HR5.out.below hk6 (Nat.le_refl _))
              have HR6 := Lib.hid hr6
              clear hk6 hr6
              go_wp2_with fail
              refine (same_any true a5 a6 c5 c6 p1 p1 _ HR5.out HR6.out (by omega) (by simp)).mono ?_
              rintro e w7 ⟨rfl, n7, rfl⟩
              replace hT := hT.drewN n7
              clear HR5 HR6
              generalize w6.drewN n7 = w7 at *
              go_wp2_with fail
              refine (copen_u g p1 F _ hT.c).mono ?_
              rintro e w8 ⟨a8, c8, rfl, -, -, hk8⟩
              replace hT := hT.below hk8
              clear hk8
              have hb := hT.bel
              have hle : (p1.length : Int) ≤ l.length := by omega
              clear hT
              go_wp2_with fail
              refine (awake_true _).mono ?_
              rintro e w9 ⟨rfl, hk⟩
              replace hb := bnext hb (Nat.le_refl _) hk
              go_wp2_with fail
              go_ret
              exact ⟨rfl, hb⟩
end Go.Proofs.Ytjfmnlhbodekaaa
