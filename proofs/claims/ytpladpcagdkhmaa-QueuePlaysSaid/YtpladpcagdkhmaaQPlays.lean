/- QueuePlays' walk. -/
import Derived.Test.YtpladpcagdkhmaaQUni
import Derived.Test.YtpladpcagdkhmaaMem3
import Derived.Deep.CutRange
import Derived.Deep.CutBlock
namespace Go.Proofs.Ytpladpcagdkhmaa
open Go Go.RowKit

theorem rrep_open {w : World} {g : Nat} {l : List Msg} {most : Int} {F : List Nat} (h : RRep w g l most F) :
    ∃ a c, w.cell? ⟨g, 0, none⟩ = some (.slice a l.length c) ∧ w.cell? ⟨g, 1, none⟩ = some (.int .i64 most) ∧ Row w a (msgs l) ∧ w.frozen? ⟨g, 0, none⟩ = false := by
  obtain ⟨v, hg, hown, h1, h2, h3, h4, rfl⟩ := h
  obtain ⟨a, cap, rfl, hrow, -, -⟩ := ownsRow_row hown
  obtain ⟨c0, c1⟩ := cells2 hg
  exact ⟨a, cap, c0, c1, hrow, frozen_of_row w g 0 _ _ hg⟩
theorem RRep.hd {w : World} {g : Nat} {l : List Msg} {most : Int} {F : List Nat} (h : RRep w g l most F) : g ∈ F := by
  obtain ⟨_, _, _, _, _, _, _, rfl⟩ := h; simp
theorem rclear {w : World} {g : Nat} {l : List Msg} {most : Int} {F : List Nat} (h : RRep w g l most F) :
    RRep (w.setCell ⟨g, 0, none⟩ (.slice none 0 0)) g [] most [g] ∧ Upd F [g] w (w.setCell ⟨g, 0, none⟩ (.slice none 0 0)) := by
  have hd := h.hd
  obtain ⟨v, hg, hown, h1, h2, h3, h4, rfl⟩ := h
  refine ⟨⟨.slice none 0 0, heap_setCell_same w g 0 _ _ (.slice none 0 0) hg, World.ownsRow_nil _ _ _ _, by simp; omega, h2, h3, by simp [Value.ownBlock], rfl⟩, (Mod.refl _ w).setCell (.inl hd) _, fun k hk => .inl ?_⟩
  obtain rfl := List.mem_singleton.1 hk
  exact hd

/-- The program's queue and the reference's, apart from one another, both newer than w0. -/
structure Duo (w0 w : World) (g r : Nat) (most : Int) (lq lr : List Msg) (F G : List Nat) : Prop where
  hq : QRep w g lq most F
  hr : RRep w r lr most G
  far : Far F G
  ff : ∀ k ∈ F, w0.heap.size ≤ k
  fg : ∀ k ∈ G, w0.heap.size ≤ k
  bel : Below w0.heap.size w0 w
section
variable {w0 w w' : World} {g r : Nat} {most : Int} {lq lr l' : List Msg} {F G F' : List Nat}
theorem Duo.below (h : Duo w0 w g r most lq lr F G) (hk : Below w.heap.size w w') : Duo w0 w' g r most lq lr F G :=
  ⟨h.hq.below hk, h.hr.below hk, h.far, h.ff, h.fg, bnext h.bel (Nat.le_refl _) hk⟩
theorem Duo.alloc (h : Duo w0 w g r most lq lr F G) (o : Obj) : Duo w0 (w.alloc o) g r most lq lr F G := h.below ((Below.refl _ _).alloc (Nat.le_refl _) o)
theorem Duo.drewN (h : Duo w0 w g r most lq lr F G) (n : Nat) : Duo w0 (w.drewN n) g r most lq lr F G := h.below (below_drewN (Below.refl _ _) n)
theorem Duo.drew (h : Duo w0 w g r most lq lr F G) : Duo w0 w.drew g r most lq lr F G := h.drewN 1
theorem Duo.uq (h : Duo w0 w g r most lq lr F G) (hq : QRep w' g l' most F') (hu : Upd F F' w w') : Duo w0 w' g r most l' lr F' G := by
  obtain ⟨hb, hF⟩ := upd_below h.bel (Nat.le_refl _) h.ff hu
  exact ⟨hq, h.hr.upd hu h.far, h.far.upd hu h.hr.lt, hF, h.fg, hb⟩
theorem Duo.ur (h : Duo w0 w g r most lq lr F G) (hr : RRep w' r l' most F') (hu : Upd G F' w w') : Duo w0 w' g r most lq l' F F' := by
  obtain ⟨hb, hF⟩ := upd_below h.bel (Nat.le_refl _) h.fg hu
  exact ⟨h.hq.upd hu h.far.symm, hr, (h.far.symm.upd hu h.hq.lt).symm, h.ff, hF, hb⟩
/-- a change of a block that is neither's -/
theorem Duo.mod (h : Duo w0 w g r most lq lr F G) {S : List Nat} (hm : Mod S w w') (hF : ∀ k ∈ F, k ∉ S) (hG : ∀ k ∈ G, k ∉ S) (hS : ∀ k ∈ S, w0.heap.size ≤ k) : Duo w0 w' g r most lq lr F G :=
  ⟨h.hq.mod hm hF, h.hr.mod hm hG, h.far, h.ff, h.fg, h.bel.trans (hm.below h.bel.size hS)⟩
end

theorem same_of (N : Nat) (a b : Option Addr) (c d : Nat) (l : List Msg) (w : World) (hN : l.length = N) (ha : Row w a (msgs l)) (hb : Row w b (msgs l)) (hl : l.length ≤ 100000) :
    Calls Try.prog 22 #[.slice a N c, .slice b N d] w fun e w' => e = .returned (.bool true) ∧ Below w.heap.size w w' := by
  subst hN; exact same_true a b c d l w ha hb hl
/-- what All told, to be written over -/
def Spoil (w0 w : World) (a : Option Addr) (N : Nat) (F G : List Nat) : Prop :=
  N = 0 ∨ ∃ (b : Nat) (cur : Array Value), a = some ⟨b, 0, none⟩ ∧ w.heap[b]? = some (.cells cur 28 (0, 0)) ∧ N * 4 ≤ cur.size ∧ b ∉ F ∧ b ∉ G ∧ w0.heap.size ≤ b
theorem spoil_of {w0 w w' : World} {v : Value} {N : Nat} {xs : List Value} {F G : List Nat} (h : w'.ownsRow w.heap.size 28 4 v N xs) (hF : ∀ k ∈ F, k < w.heap.size) (hG : ∀ k ∈ G, k < w.heap.size) (hw : w0.heap.size ≤ w.heap.size) :
    ∃ a c, v = .slice a N c ∧ Row w' a xs ∧ Spoil w0 w' a N F G := by
  obtain ⟨a, c, rfl, hr, -, -⟩ := ownsRow_row h
  refine ⟨a, c, rfl, hr, ?_⟩
  have h1 := h.1
  rcases h.2 with ⟨_, hn⟩ | ⟨b, cap, cur, hv, hb, hg, hcs, hle, rest⟩
  · exact .inl hn
  · refine .inr ⟨b, cur, ?_, hg, ?_, fun h => by have := hF b h; omega, fun h => by have := hG b h; omega, by omega⟩
    · simp only [Value.slice.injEq] at hv; exact hv.1
    · first | omega | (rw [hcs]; exact Nat.mul_le_mul_right 4 hle)

set_option maxRecDepth 100000 in
set_option maxHeartbeats 4000000 in
theorem plays_true (most : Int) (a : Option Addr) (c : Nat) (l : List Do) (w : World) (ha : Row w a (dos l)) (hok : ∀ d ∈ l, d.ok) (hm0 : -9223372036854775808 ≤ most) (hm1 : most ≤ 9223372036854775807) :
    Calls Try.prog 4 #[.int .i64 most, .slice a l.length c] w fun e w' => e = .returned (.bool true) ∧ Below w.heap.size w w' := by
  have HA := Lib.hid ha
  clear ha
  go_enter Try.func4, Try.ntmps4
  go_wp2_with fail
  refine (great_any a c l w HA.out).mono ?_
  rintro e w' ⟨bg, rfl, hbg, n, rfl⟩
  have hb := below_draws (B := w.heap.size) (w := w) n
  generalize w.drewN n = w1 at *
  cases bg with
  | true =>
    clear hbg
    go_wp2_with fail
    refine (awake_true _).mono ?_
    rintro e w7 ⟨rfl, hk⟩
    replace hb := bnext hb (Nat.le_refl _) hk
    clear hk
    go_wp2_with fail
    go_ret
    exact ⟨rfl, hb⟩
  | false =>
    have hl := hbg rfl
    clear hbg
    by_cases hout : most < 1 ∨ 1024 < most
    · go_wp2_with fail
      refine (qnew_out most _ hout).mono ?_
      rintro e w' ⟨rfl, rfl⟩
      go_wp2_with fail
      refine (rnew_out most _ hout).mono ?_
      rintro e w' ⟨rfl, rfl⟩
      go_wp2_with fail
      refine (awake_true _).mono ?_
      rintro e w7 ⟨rfl, hk⟩
      replace hb := bnext hb (Nat.le_refl _) hk
      clear hk
      go_wp2_with fail
      go_ret
      exact ⟨rfl, hb⟩
    have ho : 1 ≤ most ∧ most ≤ 1024 := by omega
    clear hout
    go_wp2_with fail
    refine (qnew_any most _ ho).mono ?_
    rintro e wa ⟨g, rfl, qa, hu⟩
    obtain ⟨hba, fa⟩ := upd_below hb (Nat.le_refl _) (by simp) hu
    clear hu hb
    go_wp2_with fail
    refine (rnew_any most _ ho).mono ?_
    rintro e wb ⟨r, rfl, qb, hu⟩
    obtain ⟨hbb, fb⟩ := upd_below hba (Nat.le_refl _) (by simp) hu
    have HT := Lib.hid (⟨qa.upd hu (fun _ h => by simp at h), qb, (far_new hu qa.lt).symm, fa, fb, hbb⟩ : Duo w wb g r most [] [] [g] [r])
    clear hu hba qa qb hbb fa fb
    go_wp2_with fail
    go_loopw [7] (fun i wr => ∃ k : Nat, i = .int .i64 k ∧ k ≤ l.length ∧ ∃ q F G, Duo w wr g r most q q F G) (fun i _ => (l.length - intOf i).toNat)
    case atStart => exact ⟨0, rfl, by omega, _, _, _, HT.out⟩
    case round =>
      clear HT
      obtain ⟨k, rfl, hkN, q, F, G, hT⟩ := hrel
      by_cases hlt : k < l.length
      · have hk0 : (0 : Int) ≤ k := by omega
        have hkl : (k : Int) < l.length := by omega
        obtain ⟨b1, o1, rfl, k0, k1, k2, k3, k4⟩ := dos_row (HA.out.below hT.bel (Nat.le_refl _)) (k := k) (d := l[k]) (by simp [hlt])
        have hd := hok l[k] (List.getElem_mem hlt)
        have hx : l[k]? = some l[k] := by simp [hlt]
        generalize l[k] = d at *
        obtain ⟨dk, mt, mp, mq, mr⟩ := d
        have z0 := hd.k0
        have z1 := hd.k1
        simp only at k0 k1 k2 k3 k4 z0 z1
        have HC : ∀ W, Below w.heap.size w W → W.cell? ⟨b1, o1 + k * 5 + 1, none⟩ = some (.string mt) ∧ W.cell? ⟨b1, o1 + k * 5 + 1 + 1, none⟩ = some (.string mp) ∧ W.cell? ⟨b1, o1 + k * 5 + 1 + 2, none⟩ = some (.int .u8 mq) ∧ W.cell? ⟨b1, o1 + k * 5 + 1 + 3, none⟩ = some (.bool mr) := fun W hW => by
          obtain ⟨b2, o2, he, -, j1, j2, j3, j4⟩ := dos_row (HA.out.below hW (Nat.le_refl _)) (k := k) hx
          cases he
          exact ⟨j1, j2, j3, j4⟩
        replace HC := Lib.hid HC
        go_upto_block 2 with fail
        go_cut [8, 9, 10, 11, 12, 13, 14] from 40 to 197 (fun _ _ _ _ _ _ _ wx => ∃ q F G, Duo w wx g r most q q F G)
        case first =>
          have hcases : dk % 8 < 4 ∨ (dk % 8 = 7 ∧ mr = true) ∨ dk % 8 = 6 ∨ (dk % 8 = 7 ∧ mr = false) ∨ (¬ dk % 8 < 4 ∧ ¬ dk % 8 = 7 ∧ ¬ dk % 8 = 6) := by
            cases mr <;> simp <;> omega
          rcases hcases with h4 | ⟨h7, rfl⟩ | h6 | ⟨h7, rfl⟩ | ⟨h4, h7, h6⟩
          case inl =>
            obtain ⟨b, hbb⟩ : ∃ b, decide ((q.length : Int) < most) = b := ⟨_, rfl⟩
            have h4d : decide (dk % 8 < 4) = true := by simp [h4]
            go_wp2_with fail
            go_region_held3 (fun w' => w'.cell? ⟨b1, o1 + k * 5 + 1, none⟩ = some (.string mt) ∧ w'.cell? ⟨b1, o1 + k * 5 + 1 + 1, none⟩ = some (.string mp) ∧ w'.cell? ⟨b1, o1 + k * 5 + 1 + 2, none⟩ = some (.int .u8 mq) ∧ w'.cell? ⟨b1, o1 + k * 5 + 1 + 3, none⟩ = some (.bool mr)) (first | exact sB | exact sA | go_keep) (first
              | (go_at_call 11; refine (qpush_u b g q most F ⟨mt, mp, mq, mr⟩ _ ?_ hbb).mono ?_; exact hT.hq; rintro e w5 ⟨rfl, F5, hq5, hu5⟩; have hT5 := Duo.uq (by first | exact hT | exact hT.drew | exact hT.drewN _) hq5 hu5; have sA := HC.out _ hT5.bel)
              | (go_at_call 20; refine (rpush_u b r q most G ⟨mt, mp, mq, mr⟩ _ ?_ hbb).mono ?_; exact hT5.hr; rintro e w6 ⟨rfl, G6, hr6, hu6⟩; have hT6 := Duo.ur (by first | exact hT5 | exact hT5.drew | exact hT5.drewN _) hr6 hu6; have sB := HC.out _ hT6.bel))
            go_wp2_with fail
            clear hT hT5 hq5 hu5 hr6 hu6 sA sB hbb k0 k1 k2 k3 k4
            generalize w6 = WD at *
            generalize pushL most q ⟨mt, mp, mq, mr⟩ = q2 at *
            have hD := hT6
            clear hT6
            go_meet
            exact ⟨_, _, _, hD⟩
          case inr.inl =>
            have h4d : decide (dk % 8 < 4) = false := by simp; omega
            have h7b : (dk % 8 == 7) = true := by simp [h7]
            go_wp2_with fail
            refine (qclear_any g q most F _ hT.hq).mono ?_
            rintro e w5 ⟨rfl, hq5, hu5⟩
            have hT5 := hT.uq hq5 hu5
            obtain ⟨ar, cr, r0, r1, hrr, rf⟩ := rrep_open hT5.hr
            have hcl := rclear hT5.hr
            have hD := hT5.ur hcl.1 hcl.2
            go_wp2_with fail
            clear hT hT5 hq5 hu5 hcl hrr r0 r1 rf k0 k1 k2 k3 k4
            generalize w5.setCell ⟨r, 0, none⟩ (.slice none 0 0) = WD at *
            go_meet
            exact ⟨_, _, _, hD⟩
          case inr.inr.inl =>
            have h4d : decide (dk % 8 < 4) = false := by simp; omega
            have h7b : (dk % 8 == 7) = false := by simp; omega
            have h6b : (dk % 8 == 6) = true := by simp [h6]
            obtain ⟨m, hm⟩ : ∃ m, q.headD Msg.none = m := ⟨_, rfl⟩
            obtain ⟨ct, cp, cq, cr⟩ := m
            obtain ⟨b, hbb⟩ : ∃ b, (!q.isEmpty) = b := ⟨_, rfl⟩
            go_wp2_with fail
            refine (qpeek_u ⟨ct, cp, cq, cr⟩ b g q most F _ hT.hq hm hbb).mono ?_
            rintro e w5 ⟨rfl, hk⟩
            have hT5 := hT.below hk
            clear hT hk
            simp only [Msg.val]
            obtain ⟨y0, y1, y2, y3⟩ := cells4 (heap_alloc_new w5 (.cells #[.string ct, .string cp, .int .u8 cq, .bool cr] 28))
            have hT6 := hT5.alloc (.cells #[.string ct, .string cp, .int .u8 cq, .bool cr] 28)
            generalize hby : w5.heap.size = bY at y0 y1 y2 y3
            go_wp2_with fail
            generalize w5.alloc (.cells #[.string ct, .string cp, .int .u8 cq, .bool cr] 28) = Wy at *
            clear hby hT5 k0 k1 k2 k3 k4
            obtain ⟨ar, xr, r0, r1, hrr, rf⟩ := rrep_open hT6.hr
            rcases q with _ | ⟨m0, q0⟩
            case' nil =>
              simp only [List.headD, Msg.none, Msg.mk.injEq] at hm
              obtain ⟨rfl, rfl, rfl, rfl⟩ := hm
              simp only [List.isEmpty_nil, Bool.not_true] at hbb
              subst hbb
              simp only [List.length_nil] at r0
              go_quiet (fail)
            case' cons =>
              simp only [List.headD] at hm
              subst hm
              simp only [List.isEmpty_cons, Bool.not_false] at hbb
              subst hbb
              obtain ⟨b2, o2, rfl, j0, j1, j2, j3⟩ := msgs_row hrr (k := 0) rfl
              simp only [Nat.zero_mul, Nat.add_zero] at j0 j1 j2 j3
              have hln : (0 : Int) < (((⟨ct, cp, cq, cr⟩ : Msg) :: q0).length : Int) := by rw [List.length_cons]; omega
              generalize ((⟨ct, cp, cq, cr⟩ : Msg) :: q0) = q2 at *
              obtain ⟨N, hN⟩ : ∃ N, q2.length = N := ⟨_, rfl⟩
              rw [hN] at r0 hln
              have hlb : decide ((0 : Int) < (N : Int)) = true := decide_eq_true hln
              have hlb2 : decide (0 < N) = true := by simp; omega
              go_quiet (fail)
            all_goals
              go_wp2_with fail
              have hD := hT6.drewN nq
              generalize Wy.drewN nq = WD at *
              clear hT6
              go_meet
              exact ⟨_, _, _, hD⟩
          case inr.inr.inr.inl =>
            have h4d : decide (dk % 8 < 4) = false := by simp; omega
            have h7b : (dk % 8 == 7) = true := by simp [h7]
            have h6b : (dk % 8 == 6) = false := by simp; omega
            obtain ⟨m, hm⟩ : ∃ m, q.headD Msg.none = m := ⟨_, rfl⟩
            obtain ⟨ct, cp, cq, cr⟩ := m
            obtain ⟨b, hbb⟩ : ∃ b, (!q.isEmpty) = b := ⟨_, rfl⟩
            go_wp2_with fail
            refine (qpop_u ⟨ct, cp, cq, cr⟩ b _ g q most F _ hT.hq hm hbb rfl).mono ?_
            rintro e w5 ⟨rfl, F5, hq5, hu5⟩
            have hT5 := hT.uq hq5 hu5
            clear hT hq5 hu5 k0 k1 k2 k3 k4
            simp only [Msg.val]
            have hy := heap_alloc_new w5 (.cells #[.string ct, .string cp, .int .u8 cq, .bool cr] 28)
            have hyn : ∀ x ∈ G, x ≠ w5.heap.size := fun x hx => by have := hT5.hr.lt x hx; omega
            replace hT5 := hT5.alloc (.cells #[.string ct, .string cp, .int .u8 cq, .bool cr] 28)
            generalize hby : w5.heap.size = bY at hy hyn
            go_wp2_with fail
            generalize w5.alloc (.cells #[.string ct, .string cp, .int .u8 cq, .bool cr] 28) = Wy at *
            clear hby
            refine (rpop_u ⟨ct, cp, cq, cr⟩ b _ r q most G _ hT5.hr hm hbb rfl).mono ?_
            rintro e w6 ⟨rfl, G6, hr6, hu6⟩
            have hT6 := hT5.ur hr6 hu6
            obtain ⟨hy6, -⟩ := upd_at hu6 hy hyn
            clear hT5 hr6 hu6 hy hyn
            simp only [Msg.val]
            obtain ⟨x0, x1, x2, x3⟩ := cells4 (heap_alloc_new w6 (.cells #[.string ct, .string cp, .int .u8 cq, .bool cr] 28))
            obtain ⟨y0, y1, y2, y3⟩ := cells4 ((Below.heap_alloc w6 (.cells #[.string ct, .string cp, .int .u8 cq, .bool cr] 28) bY (Array.getElem?_eq_some_iff.1 hy6).1).trans hy6)
            have hD := hT6.alloc (.cells #[.string ct, .string cp, .int .u8 cq, .bool cr] 28)
            clear hy6 hT6
            generalize hbx : w6.heap.size = bX at x0 x1 x2 x3
            go_wp2_with fail
            generalize w6.alloc (.cells #[.string ct, .string cp, .int .u8 cq, .bool cr] 28) = WD at *
            clear hbx
            go_meet
            exact ⟨_, _, _, hD⟩
          case inr.inr.inr.inr =>
            have h4d : decide (dk % 8 < 4) = false := by simp; omega
            have h7b : (dk % 8 == 7) = false := by simp; omega
            have h6b : (dk % 8 == 6) = false := by simp; omega
            obtain ⟨m, hm⟩ : ∃ m, q.headD Msg.none = m := ⟨_, rfl⟩
            obtain ⟨ct, cp, cq, cr⟩ := m
            obtain ⟨b, hbb⟩ : ∃ b, (!q.isEmpty) = b := ⟨_, rfl⟩
            go_wp2_with fail
            refine (qpop_u ⟨ct, cp, cq, cr⟩ b _ g q most F _ hT.hq hm hbb rfl).mono ?_
            rintro e w5 ⟨rfl, F5, hq5, hu5⟩
            have hT5 := hT.uq hq5 hu5
            clear hT hq5 hu5 k0 k1 k2 k3 k4
            simp only [Msg.val]
            have hy := heap_alloc_new w5 (.cells #[.string ct, .string cp, .int .u8 cq, .bool cr] 28)
            have hyn : ∀ x ∈ G, x ≠ w5.heap.size := fun x hx => by have := hT5.hr.lt x hx; omega
            replace hT5 := hT5.alloc (.cells #[.string ct, .string cp, .int .u8 cq, .bool cr] 28)
            generalize hby : w5.heap.size = bY at hy hyn
            go_wp2_with fail
            generalize w5.alloc (.cells #[.string ct, .string cp, .int .u8 cq, .bool cr] 28) = Wy at *
            clear hby
            refine (rpop_u ⟨ct, cp, cq, cr⟩ b _ r q most G _ hT5.hr hm hbb rfl).mono ?_
            rintro e w6 ⟨rfl, G6, hr6, hu6⟩
            have hT6 := hT5.ur hr6 hu6
            obtain ⟨hy6, -⟩ := upd_at hu6 hy hyn
            clear hT5 hr6 hu6 hy hyn
            simp only [Msg.val]
            obtain ⟨x0, x1, x2, x3⟩ := cells4 (heap_alloc_new w6 (.cells #[.string ct, .string cp, .int .u8 cq, .bool cr] 28))
            obtain ⟨y0, y1, y2, y3⟩ := cells4 ((Below.heap_alloc w6 (.cells #[.string ct, .string cp, .int .u8 cq, .bool cr] 28) bY (Array.getElem?_eq_some_iff.1 hy6).1).trans hy6)
            have hD := hT6.alloc (.cells #[.string ct, .string cp, .int .u8 cq, .bool cr] 28)
            clear hy6 hT6
            generalize hbx : w6.heap.size = bX at x0 x1 x2 x3
            go_wp2_with fail
            generalize w6.alloc (.cells #[.string ct, .string cp, .int .u8 cq, .bool cr] 28) = WD at *
            clear hbx
            go_meet
            exact ⟨_, _, _, hD⟩
        case rest =>
          obtain ⟨lst, FF, GG, hE⟩ := hcut
          clear hT k0 k1 k2 k3 k4
          obtain ⟨ar, xr, r0, r1, hrr, rf⟩ := rrep_open hE.hr
          obtain ⟨N, hN⟩ : ∃ N, lst.length = N := ⟨_, rfl⟩
          have hle := hE.hq.le
          rw [hN] at r0 hle
          clear hrr rf
          have hNi : (lst.length : Int) = N := by omega
          have hNr : most - (lst.length : Int) = most - N := by omega
          have hw1 : IntKind.i64.wrap (most - N) = most - N := w_i64 _ (by omega) (by omega)
          go_wp2_with fail
          go_region_held3 (fun w' => w'.cell? ⟨r, 0, none⟩ = some (.slice ar N xr) ∧ w'.cell? ⟨r, 1, none⟩ = some (.int .i64 most)) (first | assumption | go_keep) (first
            | (go_at_call 10; refine (qlen_of N g lst most FF _ ?_ hNi).mono ?_; exact hE.hq; rintro e w' ⟨rfl, n1, rfl⟩)
            | (go_at_call 9; refine (qroom_of (most - N) g lst most FF _ ?_ hNr).mono ?_; exact hE.hq; rintro e w' ⟨rfl, n2, rfl⟩))
          have hF := hE.drewN (1 + n1 + n2)
          clear hE r0 r1
          generalize wc.drewN (1 + n1 + n2) = WE at *
          have hw2 : IntKind.i64.wrap ((l.length : Int) - 1) = (l.length : Int) - 1 := w_i64 _ (by omega) (by omega)
          have hlast : (k : Int) % 16 = 0 ∨ (¬ (k : Int) % 16 = 0 ∧ (k : Int) = (l.length : Int) - 1) ∨ (¬ (k : Int) % 16 = 0 ∧ ¬ (k : Int) = (l.length : Int) - 1) := by omega
          rcases hlast with h16 | ⟨h16, hla⟩ | ⟨h16, hla⟩
          case' inr.inr =>
            have h16b : ((k : Int) % 16 == 0) = false := by simp [h16]
            have hlab : ((k : Int) == (l.length : Int) - 1) = false := by simp [hla]
            go_wp2_with fail
            go_roundw
            case rel => exact ⟨k + 1, by go_num, by omega, lst, FF, GG, hF⟩
            case measure => simp [intOf]; omega
          case' inl =>
            have h16b : ((k : Int) % 16 == 0) = true := by simp [h16]
          case' inr.inl =>
            have h16b : ((k : Int) % 16 == 0) = false := by simp [h16]
            have hlab : ((k : Int) == (l.length : Int) - 1) = true := by simp [hla]
          all_goals
            go_wp2_with fail
            try simp only [Msg.val]
            have HE := Lib.hid hF
            clear hF
            go_loopw [15] (fun i wr => ∃ t : Nat, i = .int .i64 t ∧ t ≤ 2 ∧ Duo w wr g r most lst lst FF GG) (fun i _ => (2 - intOf i).toNat)
            case atStart => exact ⟨0, rfl, by omega, HE.out⟩
            case round =>
              clear HE
              obtain ⟨t, rfl, ht, hE⟩ := hrel
              by_cases ht2 : t < 2
              · have ht2' : (t : Int) < 2 := by omega
                have htd : decide ((t : Int) < 2) = true := decide_eq_true ht2'
                go_wp2_with fail
                refine (qall_u g lst most FF _ hE.hq).mono ?_
                rintro e w7 ⟨v7, rfl, hown, hk⟩
                rw [hN] at hown
                obtain ⟨a7, c7, rfl, hr7, hsp⟩ := spoil_of (w0 := w) (F := FF) (G := GG) hown hE.hq.lt hE.hr.lt hE.bel.size
                replace hE := hE.below hk
                clear hk hown
                obtain ⟨ar, xr, r0, r1, hrr, rf⟩ := rrep_open hE.hr
                rw [hN] at r0
                go_wp2_with fail
                refine (same_of N _ _ _ _ lst _ hN hr7 hrr (by omega)).mono ?_
                rintro e w8 ⟨rfl, hk⟩
                have hsp8 : Spoil w w8 a7 N FF GG := by
                  rcases hsp with h | ⟨b, cur, h1, h2, h3, h4, h5, h6⟩
                  · exact .inl h
                  · exact .inr ⟨b, cur, h1, below_at h2 hk, h3, h4, h5, h6⟩
                have HE8 := Lib.hid (hE.below hk)
                have HS8 := Lib.hid hsp8
                clear hk hsp hsp8 hE hr7 hrr r0 r1 rf
                go_wp2_with fail
                go_loopw [17] (fun i wr => ∃ j : Nat, i = .int .i64 j ∧ j ≤ N ∧ Duo w wr g r most lst lst FF GG ∧ Spoil w wr a7 N FF GG) (fun i _ => (N - intOf i).toNat)
                case atStart => exact ⟨0, rfl, by omega, HE8.out, HS8.out⟩
                case round =>
                  clear HE8 HS8
                  obtain ⟨j, rfl, hj, hE, hsp⟩ := hrel
                  by_cases hjN : j < N
                  · have hj0 : (0 : Int) ≤ j := by omega
                    have hjl : (j : Int) < N := by omega
                    rcases hsp with h | ⟨b7, cur, rfl, h2, h3, hbF, hbG, hb0⟩
                    · omega
                    go_wp2_with fail
                    refine (message_any _ _).mono ?_
                    rintro e w9 ⟨rfl, hk⟩
                    replace hE := hE.below hk
                    replace h2 := below_at h2 hk
                    clear hk
                    have f0 := frozen_of_row w9 b7 (j * 4) _ _ h2
                    have f1 := frozen_of_row w9 b7 (j * 4 + 1) _ _ h2
                    have f2 := frozen_of_row w9 b7 (j * 4 + 2) _ _ h2
                    have f3 := frozen_of_row w9 b7 (j * 4 + 3) _ _ h2
                    have q0 := (cell_of_row w9 b7 (j * 4) _ _ _ h2).trans (Array.getElem?_eq_getElem (by omega))
                    have q1 := (cell_of_row w9 b7 (j * 4 + 1) _ _ _ h2).trans (Array.getElem?_eq_getElem (by omega))
                    have q2 := (cell_of_row w9 b7 (j * 4 + 2) _ _ _ h2).trans (Array.getElem?_eq_getElem (by omega))
                    have q3 := (cell_of_row w9 b7 (j * 4 + 3) _ _ _ h2).trans (Array.getElem?_eq_getElem (by omega))
                    have hs4 := set4at (x := .string ⟨#[115, 112, 111, 105, 108, 116]⟩) (y := .string ⟨#[]⟩) (z := .int .u8 0) (u := .bool false) (j * 4) h2
                    have hE4 := hE.mod hs4.2 (fun x hx h => by obtain rfl := List.mem_singleton.1 h; exact hbF hx) (fun x hx h => by obtain rfl := List.mem_singleton.1 h; exact hbG hx) (fun x hx => by obtain rfl := List.mem_singleton.1 hx; exact hb0)
                    have HS4 := Lib.hid hs4.1
                    clear hs4 hE
                    simp only [Msg.val]
                    go_wp2_with fail
                    go_roundw
                    case rel => exact ⟨j + 1, by go_num, by omega, hE4, .inr ⟨b7, _, rfl, HS4.out, by simpa using h3, hbF, hbG, hb0⟩⟩
                    case measure => simp [intOf]; omega
                  · have hjl : ¬ (j : Int) < N := by omega
                    go_wp2_with fail
                    go_roundw
                    case rel => first | exact ⟨t + 1, by go_num, by omega, hE⟩ | exact ⟨t + 1, by go_num, by omega⟩
                    case measure => simp [intOf]; omega
              · have ht2' : ¬ (t : Int) < 2 := by omega
                have htd : decide ((t : Int) < 2) = false := decide_eq_false ht2'
                go_wp2_with fail
                go_roundw
                case rel => exact ⟨k + 1, by go_num, by omega, lst, FF, GG, hE⟩
                case measure => simp [intOf]; omega
      · have hkl : ¬ (k : Int) < l.length := by omega
        have hb := hT.bel
        clear hT
        go_wp2_with fail
        refine (awake_true _).mono ?_
        rintro e w9 ⟨rfl, hk⟩
        replace hb := bnext hb (Nat.le_refl _) hk
        clear hk
        go_wp2_with fail
        go_ret
        exact ⟨rfl, hb⟩
end Go.Proofs.Ytpladpcagdkhmaa
