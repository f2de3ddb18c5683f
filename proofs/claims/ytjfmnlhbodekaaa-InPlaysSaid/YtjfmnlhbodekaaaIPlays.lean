/- InPlays walked. -/
import Derived.Test.YtjfmnlhbodekaaaIAwake
import Derived.Deep.CutRange
import Derived.Deep.CutBlock
namespace Go.Proofs.Ytjfmnlhbodekaaa
open Go Go.RowKit Go.Maps

structure Duo (w0 w : World) (g r : Nat) (lq lr : List Int) (F G : List Nat) : Prop where
  c : CRep w g lq F
  t : TRep w r lr G
  far : Far F G
  fF : ∀ k ∈ F, w0.heap.size ≤ k
  fG : ∀ k ∈ G, w0.heap.size ≤ k
  bel : Below w0.heap.size w0 w
section
variable {w0 w w' : World} {g r : Nat} {lq lr l' : List Int} {F G F' : List Nat}
theorem Duo.below (h : Duo w0 w g r lq lr F G) (hk : Below w.heap.size w w') : Duo w0 w' g r lq lr F G := ⟨h.c.below hk, h.t.below hk, h.far, h.fF, h.fG, bnext h.bel (Nat.le_refl _) hk⟩
theorem Duo.drewN (h : Duo w0 w g r lq lr F G) (n : Nat) : Duo w0 (w.drewN n) g r lq lr F G := h.below (below_drewN (Below.refl _ _) n)
theorem Duo.uc (h : Duo w0 w g r lq lr F G) (hq : CRep w' g l' F') (hu : Upd F F' w w') : Duo w0 w' g r l' lr F' G := by
  obtain ⟨hb, hf⟩ := upd_below h.bel (Nat.le_refl _) h.fF hu
  exact ⟨hq, h.t.upd hu h.far, h.far.upd hu h.t.lt, hf, h.fG, hb⟩
theorem Duo.ut (h : Duo w0 w g r lq lr F G) (hq : TRep w' r l' F') (hu : Upd G F' w w') : Duo w0 w' g r lq l' F F' := by
  obtain ⟨hb, hf⟩ := upd_below h.bel (Nat.le_refl _) h.fG hu
  exact ⟨h.c.upd hu h.far.symm, hq, (h.far.symm.upd hu h.c.lt).symm, h.fF, hf, hb⟩
theorem Duo.mod {S : List Nat} (h : Duo w0 w g r lq lr F G) (hm : Mod S w w') (hF : ∀ k ∈ F, k ∉ S) (hG : ∀ k ∈ G, k ∉ S) (hS : ∀ k ∈ S, w0.heap.size ≤ k) : Duo w0 w' g r lq lr F G :=
  ⟨h.c.mod hm hF, h.t.mod hm hG, h.far, h.fF, h.fG, h.bel.trans (hm.below h.bel.size hS)⟩
end
theorem trow {w : World} {r : Nat} {l : List Int} {F : List Nat} (h : TRep w r l F) : ∃ a c, w.cell? ⟨r, 0, none⟩ = some (.slice a l.length c) ∧ Row w a (u16s l) := by
  obtain ⟨v, hg, hown, -, -⟩ := h
  obtain ⟨a, c, rfl, hr, -, -⟩ := ownsRow_row hown
  have c0 := cell_of_row w r 0 _ _ _ hg
  simp only [List.getElem?_toArray, List.getElem?_cons_zero] at c0
  exact ⟨a, c, c0, hr⟩

/-- what Open told, to be written over -/
def Spoil (w0 w : World) (a : Option Addr) (N : Nat) (F G : List Nat) : Prop :=
  N = 0 ∨ ∃ (b : Nat) (cur : Array Value), a = some ⟨b, 0, none⟩ ∧ w.heap[b]? = some (.cells cur 25 (0, 0)) ∧ N ≤ cur.size ∧ b ∉ F ∧ b ∉ G ∧ w0.heap.size ≤ b
theorem spoil_of {w0 w w' : World} {a : Option Addr} {N c : Nat} {xs : List Value} {F G : List Nat} (h : w'.ownsRow w.heap.size 25 1 (.slice a N c) N xs) (hF : ∀ k ∈ F, k < w.heap.size) (hG : ∀ k ∈ G, k < w.heap.size) (hw : w0.heap.size ≤ w.heap.size) :
    Spoil w0 w' a N F G := by
  rcases h.2 with ⟨_, hn⟩ | ⟨b, cap, cur, hv, hb, hg, hcs, hle, hsz, rest⟩
  · exact .inl hn
  · refine .inr ⟨b, cur, ?_, hg, by omega, fun h => by have := hF b h; omega, fun h => by have := hG b h; omega, by omega⟩
    simp only [Value.slice.injEq] at hv; exact hv.1
theorem Spoil.below {w0 w w' : World} {a : Option Addr} {N : Nat} {F G : List Nat} (h : Spoil w0 w a N F G) (hk : Below w.heap.size w w') : Spoil w0 w' a N F G := by
  rcases h with h | ⟨b, cur, h1, h2, h3, h4, h5, h6⟩
  · exact .inl h
  · exact .inr ⟨b, cur, h1, by rw [hk.block b (Array.getElem?_eq_some_iff.1 h2).1]; exact h2, h3, h4, h5, h6⟩

set_option maxRecDepth 100000 in
set_option maxHeartbeats 4000000 in
theorem plays_true (a : Option Addr) (c : Nat) (l : List Act2) (w : World) (ha : Row w a (acts l)) (hok : ∀ d ∈ l, d.ok) :
    Calls Try.prog 4 #[.slice a l.length c] w fun e w' => e = .returned (.bool true) ∧ Below w.heap.size w w' := by
  have HA := Lib.hid ha
  clear ha
  by_cases hbig : (500 : Int) < l.length
  · skip
    go_enter Try.func4, Try.ntmps4
    go_wp2_with fail
    refine (awake_true _).mono ?_
    rintro e w7 ⟨rfl, hb⟩
    go_wp2_with fail
    go_ret
    exact ⟨rfl, hb⟩
  have hbig' : decide ((500 : Int) < l.length) = false := by simp [hbig]
  have hlen : l.length ≤ 500 := by omega
  clear hbig
  go_enter Try.func4, Try.ntmps4
  go_wp2_with fail
  refine (cnew _).mono ?_
  rintro e w1 ⟨g, F, rfl, hq, hu⟩
  obtain ⟨hb, hF⟩ := upd_below (Below.refl w.heap.size w) (Nat.le_refl _) (by simp) hu
  clear hu
  go_wp2_with fail
  refine (tnew _).mono ?_
  rintro e w2 ⟨r, G, rfl, ht, hu⟩
  obtain ⟨hb2, hG⟩ := upd_below hb (Nat.le_refl _) (by simp) hu
  have HT : Hid (Duo w w2 g r [] [] F G) := Lib.hid ⟨hq.upd hu (fun _ h => by simp at h), ht, (far_new hu hq.lt).symm, hF, hG, hb2⟩
  clear hb hb2 hq ht hu hF hG
  go_wp2_with fail
  go_loopw [5] (fun i wr => ∃ (k : Nat) (q : List Int) (F G : List Nat), i = .int .i64 k ∧ k ≤ l.length ∧ Duo w wr g r q q F G) (fun i _ => (l.length - intOf i).toNat)
  case atStart => exact ⟨0, _, _, _, rfl, by omega, HT.out⟩
  case round =>
    obtain ⟨k, q, F, G, rfl, hk, hT⟩ := hrel
    by_cases hlt : k < l.length
    · have hk0 : (0 : Int) ≤ k := by omega
      have hkl : (k : Int) < l.length := by omega
      obtain ⟨b1, o1, rfl, k0, k1⟩ := acts_row (HA.out.below hT.bel (Nat.le_refl _)) (k := k) (d := l[k]) (by simp [hlt])
      have hd := hok l[k] (List.getElem_mem hlt)
      generalize l[k] = d at *
      obtain ⟨dk, x⟩ := d
      have z0 := hd.k0
      have z1 := hd.k1
      have x0 := hd.i0
      have x1 := hd.i1
      have hql := hT.c.len
      simp only at k0 k1 z0 z1 x0 x1
      clear hok
      go_upto_block 2 with fail
      go_cut [33] from 34 to 59 (fun _ wx => ∃ q F G, Duo w wx g r q q F G)
      case first =>
        by_cases h4 : dk % 8 < 4
        · obtain ⟨b, hb⟩ : ∃ b, decide (x ≠ 0 ∧ x ∉ q) = b := ⟨_, rfl⟩
          have HB := Lib.hid hb
          have hne : (b != b) = false := by cases b <;> rfl
          clear hb
          go_wp2_with fail
          refine (cfirst_u b g x q F _ hT.c x0 x1 HB.out).mono ?_
          rintro e w5 ⟨rfl, hq, hu⟩
          replace hT := hT.uc hq hu
          clear hq hu k0 k1
          go_wp2_with fail
          refine (tfirst_u b r x q G _ hT.t (by omega) HB.out).mono ?_
          rintro e w6 ⟨rfl, G6, hq, hu⟩
          replace hT := hT.ut hq hu
          clear hq hu
          go_wp2_with fail
          go_meet
          exact ⟨_, _, _, hT⟩
        · have h4d : decide (dk % 8 < 4) = false := by simpa using h4
          by_cases h7 : dk % 8 < 7
          · obtain ⟨b, hb⟩ : ∃ b, decide (x ∈ q) = b := ⟨_, rfl⟩
            have HB := Lib.hid hb
            have hne : (b != b) = false := by cases b <;> rfl
            clear hb
            go_wp2_with fail
            refine (crel_u b g x q F _ hT.c x0 x1 HB.out).mono ?_
            rintro e w5 ⟨rfl, hq, hu⟩
            replace hT := hT.uc hq hu
            clear hq hu k0 k1
            go_wp2_with fail
            refine (trel_u b r x q G _ hT.t (by omega) HB.out).mono ?_
            rintro e w6 ⟨rfl, G6, hq, hu⟩
            replace hT := hT.ut hq hu
            clear hq hu
            go_wp2_with fail
            go_meet
            exact ⟨_, _, _, hT⟩
          · have h7d : decide (dk % 8 < 7) = false := by simpa using h7
            by_cases h5 : x < 5
            · go_wp2_with fail
              refine (cforget g q F _ hT.c).mono ?_
              rintro e w5 ⟨rfl, hq, hu⟩
              replace hT := hT.uc hq hu
              clear hq hu k0 k1
              go_wp2_with fail
              refine (tforget r q G _ hT.t).mono ?_
              rintro e w6 ⟨rfl, G6, hq, hu⟩
              replace hT := hT.ut hq hu
              clear hq hu
              go_wp2_with fail
              go_meet
              exact ⟨_, _, _, hT⟩
            · have h5d : decide (x < 5) = false := by simpa using h5
              go_wp2_with fail
              go_meet
              exact ⟨_, _, _, hT⟩
      case rest =>
        obtain ⟨p, FF, GG, hE⟩ := hcut
        clear hT k0 k1
        have hpl := hE.c.len
        obtain ⟨b, hb⟩ : ∃ b, decide (x ∈ p) = b := ⟨_, rfl⟩
        have HB := Lib.hid hb
        have hne : (b != b) = false := by cases b <;> rfl
        clear hb
        go_wp2_with fail
        refine (cknows_any b g x p FF _ hE.c x0 x1 HB.out).mono ?_
        rintro e w5 ⟨rfl, hk5⟩
        replace hE := hE.below hk5
        clear hk5
        go_wp2_with fail
        refine (tknows_any b r x p GG _ hE.t (by omega) HB.out).mono ?_
        rintro e w6 ⟨rfl, rfl⟩
        go_wp2_with fail
        refine (copen_u g p FF _ hE.c).mono ?_
        rintro e w7 ⟨a7, c7, rfl, hown, hr7, hk7⟩
        have hsp := spoil_of (w0 := w) hown hE.c.lt hE.t.lt hE.bel.size
        replace hE := hE.below hk7
        clear hk7 hown
        obtain ⟨a8, c8, k8, hr8⟩ := trow hE.t
        have HR7 := Lib.hid hr7
        have HR8 := Lib.hid hr8
        have HS := Lib.hid hsp
        clear hr7 hr8 hsp
        go_wp2_with fail
        refine (same_any true a7 a8 c7 c8 p p _ HR7.out HR8.out (by omega) (by simp)).mono ?_
        rintro e w8 ⟨rfl, n8, rfl⟩
        have HE8 := Lib.hid (hE.drewN n8)
        have HS8 := Lib.hid (HS.out.below (below_draws n8))
        clear HR7 HR8 HS hE k8
        generalize w7.drewN n8 = w8 at *
        obtain ⟨N, hN⟩ : ∃ N, p.length = N := ⟨_, rfl⟩
        rw [hN] at HS8
        simp only [hN]
        have hNl : N ≤ 65535 := by omega
        clear hN
        go_wp2_with fail
        go_loopw [9] (fun i wr => ∃ j : Nat, i = .int .i64 j ∧ j ≤ N ∧ Duo w wr g r p p FF GG ∧ Spoil w wr a7 N FF GG) (fun i _ => (N - intOf i).toNat)
        case atStart => exact ⟨0, rfl, by omega, HE8.out, HS8.out⟩
        case round =>
          clear HE8 HS8
          obtain ⟨j, rfl, hj, hE, hsp⟩ := hrel
          by_cases hjN : j < N
          · have hj0 : (0 : Int) ≤ j := by omega
            have hjl : (j : Int) < N := by omega
            rcases hsp with h | ⟨b7, cur, rfl, h2, h3, hbF, hbG, hb0⟩
            · omega
            have f0 := frozen_of_row _ b7 j _ _ h2
            have q0 := (cell_of_row _ b7 j _ _ _ h2).trans (Array.getElem?_eq_getElem (by omega))
            have hE4 := hE.mod ((Mod.refl [b7] _).setCell (p := ⟨b7, j, none⟩) (.inl (by simp)) (.int .u16 0)) (fun x hx h => by obtain rfl := List.mem_singleton.1 h; exact hbF hx) (fun x hx h => by obtain rfl := List.mem_singleton.1 h; exact hbG hx) (fun x hx => by obtain rfl := List.mem_singleton.1 hx; exact hb0)
            have HS4 := Lib.hid (heap_setCell_same _ b7 j _ _ (.int .u16 0) h2)
            clear hE
            go_wp2_with fail
            go_roundw
            case rel => exact ⟨j + 1, by go_num, by omega, hE4, .inr ⟨b7, _, rfl, HS4.out, by simpa using h3, hbF, hbG, hb0⟩⟩
            case measure => simp [intOf]; omega
          · have hjl : ¬ (j : Int) < N := by omega
            go_wp2_with fail
            go_roundw
            case rel => exact ⟨k + 1, p, FF, GG, by go_num, by omega, hE⟩
            case measure => simp [intOf]; omega
    · have hkl : ¬ (k : Int) < l.length := by omega
      have hb := hT.bel
      go_wp2_with fail
      refine (awake_true _).mono ?_
      rintro e w7 ⟨rfl, hk⟩
      replace hb := bnext hb (Nat.le_refl _) hk
      go_wp2_with fail
      go_ret
      exact ⟨rfl, hb⟩
end Go.Proofs.Ytjfmnlhbodekaaa
