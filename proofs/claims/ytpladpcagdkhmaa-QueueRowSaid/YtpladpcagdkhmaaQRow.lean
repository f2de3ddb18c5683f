/- QueueRow's walk. -/
import Derived.Test.YtpladpcagdkhmaaQUni
import Derived.Test.YtpladpcagdkhmaaMem3
import Derived.Test.YtpladpcagdkhmaaQSlides
namespace Go.Proofs.Ytpladpcagdkhmaa
open Go Go.RowKit

theorem T_int : ElemT Try.prog 22 3 (.int .i64 0) 1 8 := ⟨Try.underlying22, by kernel_rfl, rfl, by decide⟩
def nats (l : List Nat) : List Value := l.map fun n : Nat => Value.int .i64 (n : Int)
theorem nats_length (l : List Nat) : (nats l).length = l.length := by simp [nats]
/-- the message of the act at i, numbered -/
def nm (l : List Do) (i : Nat) : Msg := ⟨(l.getD i ⟨0, Msg.none⟩).m.t, numB i, (l.getD i ⟨0, Msg.none⟩).m.q, (l.getD i ⟨0, Msg.none⟩).m.r⟩
def waits (l : List Do) (row : List Nat) (p : Nat) : List Msg := (row.drop p).map (nm l)
theorem waits_len (l : List Do) (row : List Nat) (p : Nat) : (waits l row p).length = row.length - p := by simp [waits]
theorem waits_snoc (l : List Do) (row : List Nat) (p i : Nat) (h : p ≤ row.length) : waits l (row ++ [i]) p = waits l row p ++ [nm l i] := by
  unfold waits; rw [List.drop_append_of_le_length h]; simp
theorem waits_head (l : List Do) (row : List Nat) (p : Nat) (h : p < row.length) : waits l row p = nm l row[p] :: waits l row (p + 1) := by
  unfold waits; rw [List.drop_eq_getElem_cons h]; rfl
theorem waits_nil (l : List Do) (row : List Nat) (p : Nat) (h : row.length ≤ p) : waits l row p = [] := by
  unfold waits; rw [List.drop_eq_nil_of_le h]; rfl

/-- The queue and the row of numbers that were pushed, apart from one another, both newer than w0. -/
structure Runs (w0 w : World) (g : Nat) (most : Int) (q : List Msg) (row : List Nat) (v : Value) (F : List Nat) : Prop where
  hq : QRep w g q most F
  hr : w.ownsRow 0 3 1 v row.length (nats row)
  far : Far F v.ownBlock.toList
  ff : ∀ k ∈ F, w0.heap.size ≤ k
  fv : ∀ k ∈ v.ownBlock.toList, w0.heap.size ≤ k
  bel : Below w0.heap.size w0 w
section
variable {w0 w w' : World} {g : Nat} {most : Int} {q q' : List Msg} {row row' : List Nat} {v v' : Value} {F F' : List Nat}
theorem Runs.below (h : Runs w0 w g most q row v F) (hk : Below w.heap.size w w') : Runs w0 w' g most q row v F :=
  ⟨h.hq.below hk, ownsRow_below h.hr hk, h.far, h.ff, h.fv, bnext h.bel (Nat.le_refl _) hk⟩
theorem Runs.alloc (h : Runs w0 w g most q row v F) (o : Obj) : Runs w0 (w.alloc o) g most q row v F := h.below ((Below.refl _ _).alloc (Nat.le_refl _) o)
theorem Runs.drewN (h : Runs w0 w g most q row v F) (n : Nat) : Runs w0 (w.drewN n) g most q row v F := h.below (below_drewN (Below.refl _ _) n)
theorem Runs.drew (h : Runs w0 w g most q row v F) : Runs w0 w.drew g most q row v F := h.below (below_drewN (Below.refl _ _) 1)
theorem Runs.uq (h : Runs w0 w g most q row v F) (hq : QRep w' g q' most F') (hu : Upd F F' w w') : Runs w0 w' g most q' row v F' := by
  obtain ⟨hb, hF⟩ := upd_below h.bel (Nat.le_refl _) h.ff hu
  exact ⟨hq, ownsRow_upd h.hr hu h.far, h.far.upd hu (fun k hk => (h.hr.lt k (by simpa using hk)).2), hF, h.fv, hb⟩
theorem Runs.ur (h : Runs w0 w g most q row v F) (hr : w'.ownsRow 0 3 1 v' row'.length (nats row')) (hu : Upd v.ownBlock.toList v'.ownBlock.toList w w') : Runs w0 w' g most q row' v' F := by
  obtain ⟨hb, hF⟩ := upd_below h.bel (Nat.le_refl _) h.fv hu
  exact ⟨h.hq.upd hu h.far.symm, hr, (h.far.symm.upd hu h.hq.lt).symm, h.ff, hF, hb⟩
end

set_option maxRecDepth 100000 in
set_option maxHeartbeats 4000000 in
theorem row_true (most : Int) (a : Option Addr) (c : Nat) (l : List Do) (w : World) (ha : Row w a (dos l)) (hok : ∀ d ∈ l, d.ok) (hm0 : -9223372036854775808 ≤ most) (hm1 : most ≤ 9223372036854775807) :
    Calls Try.prog 5 #[.int .i64 most, .slice a l.length c] w fun e w' => e = .returned (.bool true) ∧ Below w.heap.size w w' := by
  have HA := Lib.hid ha
  clear ha
  go_enter Try.func5, Try.ntmps5
  go_wp2_with fail
  refine (great_any a c l w HA.out).mono ?_
  rintro e w' ⟨bg, rfl, hbg, n, rfl⟩
  have hb := below_draws (B := w.heap.size) (w := w) n
  generalize w.drewN n = w1 at *
  cases bg with
  | true =>
    clear hbg
    go_wp2_with fail
    refine (awake_true _).mono ?_
    rintro e w7 ⟨rfl, hk⟩
    replace hb := bnext hb (Nat.le_refl _) hk
    clear hk
    go_wp2_with fail
    go_ret
    exact ⟨rfl, hb⟩
  | false =>
    have hl := hbg rfl
    clear hbg
    by_cases hout : most < 1 ∨ 1024 < most
    · rcases hout with ho | ho
      · go_wp2_with fail
        refine (qnew_out most _ (.inl ho)).mono ?_
        rintro e w' ⟨rfl, rfl⟩
        go_wp2_with fail
        refine (awake_true _).mono ?_
        rintro e w7 ⟨rfl, hk⟩
        replace hb := bnext hb (Nat.le_refl _) hk
        clear hk
        go_wp2_with fail
        go_ret
        exact ⟨rfl, hb⟩
      · have ho' : ¬ most < 1 := by omega
        go_wp2_with fail
        refine (qnew_out most _ (.inr ho)).mono ?_
        rintro e w' ⟨rfl, rfl⟩
        go_wp2_with fail
        refine (awake_true _).mono ?_
        rintro e w7 ⟨rfl, hk⟩
        replace hb := bnext hb (Nat.le_refl _) hk
        clear hk
        go_wp2_with fail
        go_ret
        exact ⟨rfl, hb⟩
    have ho : 1 ≤ most ∧ most ≤ 1024 := by omega
    clear hout
    go_wp2_with fail
    refine (qnew_any most _ ho).mono ?_
    rintro e wa ⟨g, rfl, qa, hu⟩
    obtain ⟨hba, fa⟩ := upd_below hb (Nat.le_refl _) (by simp) hu
    have HT := Lib.hid (⟨qa, World.ownsRow_nil _ _ _ _, by intro k _ h; simp [Value.ownBlock] at h, fa, by simp [Value.ownBlock], hba⟩ : Runs w wa g most [] [] (.slice none 0 0) [g])
    clear hu hb qa hba fa
    go_wp2_with fail
    go_loopw [6, 7, 8] (fun v s i wr => ∃ k p : Nat, s = .int .i64 p ∧ i = .int .i64 k ∧ k ≤ l.length ∧ ∃ row F, p ≤ row.length ∧ row.length ≤ k ∧ (∀ x ∈ row, x < l.length) ∧ Runs w wr g most (waits l row p) row v F) (fun _ _ i _ => (l.length - intOf i).toNat)
    case atStart => exact ⟨0, 0, rfl, rfl, by omega, [], _, by simp, by simp, by simp, HT.out⟩
    case round =>
      clear HT
      obtain ⟨k, p, rfl, rfl, hkN, row, F, hp, hrk, hx, hT⟩ := hrel
      by_cases hlt : k < l.length
      · have hk0 : (0 : Int) ≤ k := by omega
        have hkl : (k : Int) < l.length := by omega
        obtain ⟨b1, o1, rfl, k0, k1, k2, k3, k4⟩ := dos_row (HA.out.below hT.bel (Nat.le_refl _)) (k := k) (d := l[k]) (by simp [hlt])
        have hd := hok l[k] (List.getElem_mem hlt)
        have hnm : nm l k = ⟨l[k].m.t, numB k, l[k].m.q, l[k].m.r⟩ := by simp [nm, List.getD, hlt]
        generalize l[k] = d at *
        obtain ⟨dk, mt, mp, mq, mr⟩ := d
        have z0 := hd.k0
        have z1 := hd.k1
        simp only at k0 k1 k2 k3 k4 z0 z1 hnm
        by_cases h4 : dk % 8 < 4
        · obtain ⟨va, vc, rfl, hrow, -, -⟩ := ownsRow_row hT.hr
          have hw1 : IntKind.i64.wrap ((row.length : Int) - p) = (row.length : Int) - p := w_i64 _ (by omega) (by omega)
          have hM := ((Mod.refl [] wr).alloc (.cells #[.string mt, .string mp, .int .u8 mq, .bool mr] 28))
          have hz := heap_alloc_new wr (.cells #[.string mt, .string mp, .int .u8 mq, .bool mr] 28)
          have hzl : wr.heap.size < (wr.alloc (.cells #[.string mt, .string mp, .int .u8 mq, .bool mr] 28)).heap.size := by simp
          generalize hbz : wr.heap.size = bz at hz hzl
          go_wp2_with fail
          generalize wr.alloc (.cells #[.string mt, .string mp, .int .u8 mq, .bool mr] 28) = Wz at *
          refine (number_at _ _ hk0 (by omega)).mono ?_
          rintro e w5 ⟨rfl, o, rfl⟩
          replace hM := hM.alloc o
          have hz' := (Below.heap_alloc Wz o bz hzl).trans hz
          generalize Wz.alloc o = Wy at *
          have hz1 := (cells4 hz').2.1
          have hfr := free4 hz'
          replace hM := hM.setCell (p := ⟨bz, 1, none⟩) (.inr (by rw [hbz]; exact Nat.le_refl _)) (.string (numB k))
          have hz2 := heap_setCell_same Wy bz 1 _ _ (.string (numB k)) hz'
          obtain ⟨y0, y1, y2, y3⟩ := cells4 (a := .string mt) (b := .string (numB k)) (c := .int .u8 mq) (d := .bool mr) hz2
          have hT2 := hT.below (hM.below (Nat.le_refl _) (by simp))
          have hql := waits_len l row p
          clear hT hM hz hz' hrow k0 k1 k2 k3 k4
          by_cases hf : (row.length : Int) - p = most
          · have hfb : ((row.length : Int) - p == most) = true := by simp [hf]
            go_wp2_with fail
            generalize Wy.setCell ⟨bz, 1, none⟩ (.string (numB k)) = Wx at *
            refine (qpush_u false g _ most F ⟨mt, numB k, mq, mr⟩ _ hT2.hq (by rw [hql]; simp; omega)).mono ?_
            rintro e w6 ⟨rfl, F6, hq, hu⟩
            replace hT2 := hT2.uq hq hu
            clear hq hu
            rw [pushL, if_neg (by omega)] at hT2
            go_wp2_with fail
            go_roundw
            case rel => exact ⟨k + 1, p, rfl, by go_num, by omega, row, _, hp, by omega, hx, hT2⟩
            case measure => simp [intOf]; omega
          · have hfb : ((row.length : Int) - p == most) = false := by simp [hf]
            have hle := hT2.hq.le.1
            go_wp2_with fail
            generalize Wy.setCell ⟨bz, 1, none⟩ (.string (numB k)) = Wx at *
            refine (qpush_u true g _ most F ⟨mt, numB k, mq, mr⟩ _ hT2.hq (by rw [hql]; simp; omega)).mono ?_
            rintro e w6 ⟨rfl, F6, hq, hu⟩
            replace hT2 := hT2.uq hq hu
            clear hq hu
            rw [pushL, if_pos (by omega), ← hnm, ← waits_snoc l row p k hp] at hT2
            go_wp2_with (at_builtin; refine wpList_app3 T_int hT2.hr rfl rfl rfl rfl rfl (by omega) (by simp [Value.oneCell']) (by omega) (by omega) ?_)
            intro g' cap w7 hr hu
            have hT3 := hT2.ur (row' := row ++ [k]) (v' := .slice (some ⟨g', 0, none⟩) (row.length + 1) cap) (by rw [List.length_append]; simpa [nats] using hr) hu
            clear hT2 hr hu
            go_wp2_with fail
            go_roundw
            case rel => exact ⟨k + 1, p, rfl, by go_num, by omega, row ++ [k], _, by rw [List.length_append]; omega, by rw [List.length_append]; simp; omega, by intro x hxm; rcases List.mem_append.1 hxm with h | h; exact hx x h; (obtain rfl := List.mem_singleton.1 h; exact hlt), by simpa using hT3⟩
            case measure => simp [intOf]; omega
        · obtain ⟨va, vc, rfl, hrow, -, -⟩ := ownsRow_row hT.hr
          by_cases hpr : p < row.length
          · have hpr' : (p : Int) < row.length := by omega
            have hwh := waits_head l row p hpr
            have hri : row[p] < l.length := hx _ (List.getElem_mem hpr)
            have hrp : row[p]? = some row[p] := by simp [hpr]
            generalize row[p] = j at *
            obtain ⟨nt, nq, nr, hnj⟩ : ∃ nt nq nr, nm l j = ⟨nt, numB j, nq, nr⟩ := ⟨_, _, _, rfl⟩
            rw [hnj] at hwh
            go_wp2_with fail
            refine (qpop_u ⟨nt, numB j, nq, nr⟩ true (waits l row (p + 1)) g _ most F _ hT.hq (by rw [hwh]; rfl) (by rw [hwh]; rfl) (by rw [hwh]; rfl)).mono ?_
            rintro e w5 ⟨rfl, F5, hq, hu⟩
            have hT2 := hT.uq hq hu
            clear hq hu hT hrow hwh
            simp only [Msg.val]
            obtain ⟨-, y1, -, -⟩ := cells4 (heap_alloc_new w5 (.cells #[.string nt, .string (numB j), .int .u8 nq, .bool nr] 28))
            replace hT2 := hT2.alloc (.cells #[.string nt, .string (numB j), .int .u8 nq, .bool nr] 28)
            generalize hby : w5.heap.size = bY at y1
            go_wp2_with fail
            generalize w5.alloc (.cells #[.string nt, .string (numB j), .int .u8 nq, .bool nr] 28) = Wy at *
            clear hby
            obtain ⟨va', vc', he, hrow, -, -⟩ := ownsRow_row hT2.hr
            cases he
            obtain ⟨b3, o3, rfl, c3⟩ := hrow.at (j := p) (u := .int .i64 j) (by simp [nats, hrp])
            clear hrow
            have hj0 : (0 : Int) ≤ j := by omega
            have hp0 : (0 : Int) ≤ p := by omega
            have hj1 : (j : Int) ≤ 65535 := by omega
            go_region_held3 (fun w' => w'.cell? ⟨bY, 1, none⟩ = some (.string (numB j)) ∧ w'.cell? ⟨b3, o3 + p, none⟩ = some (.int .i64 (j : Int))) (first | assumption | go_keep) (first
              | (go_at_call 23; refine (number_at _ _ hj0 hj1).mono ?_; rintro e w6 ⟨rfl, o, rfl⟩; have hT3 := Runs.alloc (by first | exact hT2 | exact hT2.drew | exact hT2.drewN _) o))
            clear hT2 c3 y1
            go_wp2_with fail
            go_roundw
            case rel => exact ⟨k + 1, p + 1, by go_num, by go_num, by omega, row, _, by omega, by omega, hx, hT3.drew⟩
            case measure => simp [intOf]; omega
          · have hpr' : ¬ (p : Int) < row.length := by omega
            have hpd : decide ((p : Int) < row.length) = false := by simp; omega
            have hwn := waits_nil l row p (by omega)
            go_wp2_with fail
            refine (qpop_u ⟨⟨#[]⟩, ⟨#[]⟩, 0, false⟩ false [] g _ most F _ hT.hq (by rw [hwn]; rfl) (by rw [hwn]; rfl) (by rw [hwn]; rfl)).mono ?_
            rintro e w5 ⟨rfl, F5, hq, hu⟩
            have hT2 := hT.uq hq hu
            clear hq hu hT hrow
            simp only [Msg.val]
            obtain ⟨-, y1, -, -⟩ := cells4 (heap_alloc_new w5 (.cells #[.string ⟨#[]⟩, .string ⟨#[]⟩, .int .u8 0, .bool false] 28))
            replace hT2 := hT2.alloc (.cells #[.string ⟨#[]⟩, .string ⟨#[]⟩, .int .u8 0, .bool false] 28)
            generalize hby : w5.heap.size = bY at y1
            go_wp2_with fail
            generalize w5.alloc (.cells #[.string ⟨#[]⟩, .string ⟨#[]⟩, .int .u8 0, .bool false] 28) = Wy at *
            clear hby
            go_quiet (fail)
            go_wp2_with fail
            go_roundw
            case rel => exact ⟨k + 1, p, rfl, by go_num, by omega, row, _, hp, by omega, hx, by rw [hwn]; exact hT2.drewN _⟩
            case measure => simp [intOf]; omega
      · have hkl : ¬ (k : Int) < l.length := by omega
        have hql := waits_len l row p
        go_wp2_with fail
        refine (qall_u g _ most F _ hT.hq).mono ?_
        rintro e w5 ⟨v5, rfl, hown, hk⟩
        have hT2 := hT.below hk
        clear hT hk
        obtain ⟨a5, c5, rfl, hall, -, -⟩ := ownsRow_row hown
        clear hown
        obtain ⟨va, vc, rfl, hrow, -, -⟩ := ownsRow_row hT2.hr
        rw [hql]
        have hw1 : IntKind.i64.wrap ((row.length : Int) - p) = ((row.length - p : Nat) : Int) := by rw [w_i64] <;> omega
        have HB := Lib.hid hT2.bel
        have HL := Lib.hid hall
        have HR := Lib.hid hrow
        clear hT2 hall hrow hql
        generalize hqn : row.length - p = N at *
        go_wp2_with fail
        go_loopw [14] (fun i wr => ∃ j : Nat, i = .int .i64 j ∧ j ≤ N ∧ Below w5.heap.size w5 wr) (fun i _ => (N - intOf i).toNat)
        case atStart => exact ⟨0, rfl, by omega, Below.refl _ _⟩
        case round =>
          obtain ⟨j, rfl, hj, hbr⟩ := hrel
          by_cases hlt2 : j < N
          · have hj0 : (0 : Int) ≤ j := by omega
            have hjl : (j : Int) < N := by omega
            have hpj : p + j < row.length := by omega
            have hrp : row[p + j]? = some row[p + j] := by simp [hpj]
            have hri : row[p + j] < l.length := hx _ (List.getElem_mem hpj)
            have hwj : (waits l row p)[j]? = some (nm l row[p + j]) := by simp [waits, hrp]
            generalize row[p + j] = x at *
            obtain ⟨nt, nq, nr, hnj⟩ : ∃ nt nq nr, nm l x = ⟨nt, numB x, nq, nr⟩ := ⟨_, _, _, rfl⟩
            rw [hnj] at hwj
            obtain ⟨b2, o2, rfl, -, y1, -, -⟩ := msgs_row (HL.out.below hbr (Nat.le_refl _)) hwj
            obtain ⟨b3, o3, rfl, c3⟩ := (HR.out.below hbr (Nat.le_refl _)).at (j := p + j) (u := .int .i64 x) (by simp [nats, hrp])
            simp only at y1
            have hx0 : (0 : Int) ≤ x := by omega
            have hx1 : (x : Int) ≤ 65535 := by omega
            generalize hsn : p + j = s at *
            have hw2 : IntKind.i64.wrap ((p : Int) + j) = (s : Int) := by rw [w_i64] <;> omega
            have hpl : (s : Int) < row.length := by omega
            have hp0 : (0 : Int) ≤ s := by omega
            go_wp2_with fail
            go_region_held3 (fun w' => w'.cell? ⟨b2, o2 + j * 4 + 1, none⟩ = some (.string (numB x)) ∧ w'.cell? ⟨b3, o3 + s, none⟩ = some (.int .i64 (x : Int))) (first | assumption | go_keep) (first
              | (go_at_call 23; refine (number_at _ _ hx0 hx1).mono ?_; rintro e w6 ⟨rfl, o, rfl⟩; have hb3 := Below.alloc (by first | exact hbr | exact hbr.drew | exact below_drewN hbr _) hbr.size o))
            go_wp2_with fail
            go_roundw
            case rel => exact ⟨j + 1, by go_num, by omega, hb3.drew⟩
            case measure => simp [intOf]; omega
          · have hjl : ¬ (j : Int) < N := by omega
            have hb := HB.out
            replace hb := bnext hb (Nat.le_refl _) hbr
            clear hbr
            go_wp2_with fail
            refine (awake_true _).mono ?_
            rintro e w9 ⟨rfl, hk⟩
            replace hb := bnext hb (Nat.le_refl _) hk
            clear hk
            go_wp2_with fail
            go_ret
            exact ⟨rfl, hb⟩
end Go.Proofs.Ytpladpcagdkhmaa
