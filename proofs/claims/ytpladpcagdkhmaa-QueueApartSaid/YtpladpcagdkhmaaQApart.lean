/- QueueApart's walk. -/
import Derived.Test.YtpladpcagdkhmaaQUni
import Derived.LaidEqlPtr
namespace Go.Proofs.Ytpladpcagdkhmaa
open Go Go.RowKit

/-- Three queues that lie apart, all newer than w0. -/
structure Three (w0 w : World) (ga gb gc : Nat) (most : Int) (la lb lc : List Msg) (Fa Fb Fc : List Nat) : Prop where
  qa : QRep w ga la most Fa
  qb : QRep w gb lb most Fb
  qc : QRep w gc lc most Fc
  ab : Far Fa Fb
  ac : Far Fa Fc
  bc : Far Fb Fc
  fa : ∀ k ∈ Fa, w0.heap.size ≤ k
  fb : ∀ k ∈ Fb, w0.heap.size ≤ k
  fc : ∀ k ∈ Fc, w0.heap.size ≤ k
  bel : Below w0.heap.size w0 w
section
variable {w0 w w' : World} {ga gb gc : Nat} {most : Int} {la lb lc la' lb' lc' : List Msg} {Fa Fb Fc F' : List Nat}
theorem Three.below (h : Three w0 w ga gb gc most la lb lc Fa Fb Fc) (hk : Below w.heap.size w w') : Three w0 w' ga gb gc most la lb lc Fa Fb Fc :=
  ⟨h.qa.below hk, h.qb.below hk, h.qc.below hk, h.ab, h.ac, h.bc, h.fa, h.fb, h.fc, bnext h.bel (Nat.le_refl _) hk⟩
theorem Three.alloc (h : Three w0 w ga gb gc most la lb lc Fa Fb Fc) (o : Obj) : Three w0 (w.alloc o) ga gb gc most la lb lc Fa Fb Fc := h.below ((Below.refl _ _).alloc (Nat.le_refl _) o)
theorem Three.drewN (h : Three w0 w ga gb gc most la lb lc Fa Fb Fc) (n : Nat) : Three w0 (w.drewN n) ga gb gc most la lb lc Fa Fb Fc := h.below (below_drewN (Below.refl _ _) n)
theorem Three.ua (h : Three w0 w ga gb gc most la lb lc Fa Fb Fc) (hq : QRep w' ga la' most F') (hu : Upd Fa F' w w') : Three w0 w' ga gb gc most la' lb lc F' Fb Fc := by
  obtain ⟨hb, hF⟩ := upd_below h.bel (Nat.le_refl _) h.fa hu
  exact ⟨hq, h.qb.upd hu h.ab, h.qc.upd hu h.ac, h.ab.upd hu h.qb.lt, h.ac.upd hu h.qc.lt, h.bc, hF, h.fb, h.fc, hb⟩
theorem Three.ub (h : Three w0 w ga gb gc most la lb lc Fa Fb Fc) (hq : QRep w' gb lb' most F') (hu : Upd Fb F' w w') : Three w0 w' ga gb gc most la lb' lc Fa F' Fc := by
  obtain ⟨hb, hF⟩ := upd_below h.bel (Nat.le_refl _) h.fb hu
  exact ⟨h.qa.upd hu h.ab.symm, hq, h.qc.upd hu h.bc, (h.ab.symm.upd hu h.qa.lt).symm, h.ac, h.bc.upd hu h.qc.lt, h.fa, hF, h.fc, hb⟩
theorem Three.uc (h : Three w0 w ga gb gc most la lb lc Fa Fb Fc) (hq : QRep w' gc lc' most F') (hu : Upd Fc F' w w') : Three w0 w' ga gb gc most la lb lc' Fa Fb F' := by
  obtain ⟨hb, hF⟩ := upd_below h.bel (Nat.le_refl _) h.fc hu
  exact ⟨h.qa.upd hu h.ac.symm, h.qb.upd hu h.bc.symm, hq, h.ab, (h.ac.symm.upd hu h.qa.lt).symm, (h.bc.symm.upd hu h.qb.lt).symm, h.fa, h.fb, hF, hb⟩
theorem Three.ne (h : Three w0 w ga gb gc most la lb lc Fa Fb Fc) : gb ≠ ga := fun e => h.ab ga h.qa.hd (e ▸ h.qb.hd)
theorem eql_same (g : Nat) (w : World) : (binOp .eql 23 (.pointer (some ⟨g, 0, none⟩)) (.pointer (some ⟨g, 0, none⟩))).run Try.prog w = .ok (.bool true) w := by
  have hi : (Try.prog.info? 35).isSome = true := by kernel_rfl
  obtain ⟨j, hj⟩ := Option.isSome_iff_exists.1 hi
  exact run_eql_ptr_same w _ Try.underlying23 hj
theorem Three.other (h : Three w0 w ga gb gc most la lb lc Fa Fb Fc) : (binOp .eql 23 (.pointer (some ⟨gb, 0, none⟩)) (.pointer (some ⟨ga, 0, none⟩))).run Try.prog w = .ok (.bool false) w := by
  have hi : (Try.prog.info? 35).map (·.size) = some 3 := by kernel_rfl
  cases hj : Try.prog.info? 35 with
  | none => rw [hj] at hi; simp at hi
  | some j =>
    rw [hj] at hi
    obtain ⟨_, _, ha, _⟩ := h.qa
    obtain ⟨_, _, hb, _⟩ := h.qb
    have hz : j.size = 3 := by simpa using hi
    exact run_eql_ptr_other w Try.underlying23 hj (by omega) (fun e => h.ne (by simpa using e)) hb ha
end

set_option maxRecDepth 100000 in
set_option maxHeartbeats 4000000 in
theorem apart_true (most : Int) (a : Option Addr) (c : Nat) (l : List Do) (w : World) (ha : Row w a (dos l)) (hok : ∀ d ∈ l, d.ok) (hm0 : -9223372036854775808 ≤ most) (hm1 : most ≤ 9223372036854775807) :
    Calls Try.prog 7 #[.int .i64 most, .slice a l.length c] w fun e w' => e = .returned (.bool true) ∧ Below w.heap.size w w' := by
  have HA := Lib.hid ha
  clear ha
  go_enter Try.func7, Try.ntmps7
  go_wp2_with fail
  refine (great_any a c l w HA.out).mono ?_
  rintro e w' ⟨bg, rfl, hbg, n, rfl⟩
  have hb := below_draws (B := w.heap.size) (w := w) n
  generalize w.drewN n = w1 at *
  cases bg with
  | true =>
    clear hbg
    go_wp2_with fail
    refine (awake_true _).mono ?_
    rintro e w7 ⟨rfl, hk⟩
    replace hb := bnext hb (Nat.le_refl _) hk
    clear hk
    go_wp2_with fail
    go_ret
    exact ⟨rfl, hb⟩
  | false =>
    have hl := hbg rfl
    clear hbg
    by_cases hout : most < 1 ∨ 1024 < most
    · go_wp2_with fail
      refine (qnew_out most _ hout).mono ?_
      rintro e w' ⟨rfl, rfl⟩
      go_wp2_with fail
      refine (qnew_out most _ hout).mono ?_
      rintro e w' ⟨rfl, rfl⟩
      go_wp2_with fail
      refine (qnew_out most _ hout).mono ?_
      rintro e w' ⟨rfl, rfl⟩
      go_wp2_with fail
      refine (awake_true _).mono ?_
      rintro e w7 ⟨rfl, hk⟩
      replace hb := bnext hb (Nat.le_refl _) hk
      clear hk
      go_wp2_with fail
      go_ret
      exact ⟨rfl, hb⟩
    have ho : 1 ≤ most ∧ most ≤ 1024 := by omega
    clear hout
    go_wp2_with fail
    refine (qnew_any most _ ho).mono ?_
    rintro e wa ⟨ga, rfl, qa, hu⟩
    obtain ⟨hba, fa⟩ := upd_below hb (Nat.le_refl _) (by simp) hu
    clear hu hb
    go_wp2_with fail
    refine (qnew_any most _ ho).mono ?_
    rintro e wb ⟨gb, rfl, qb, hu⟩
    obtain ⟨hbb, fb⟩ := upd_below hba (Nat.le_refl _) (by simp) hu
    have ab := (far_new hu qa.lt).symm
    replace qa := qa.upd hu (fun _ h => by simp at h)
    clear hu hba
    go_wp2_with fail
    refine (qnew_any most _ ho).mono ?_
    rintro e wc ⟨gc, rfl, qc, hu⟩
    obtain ⟨hbc, fc⟩ := upd_below hbb (Nat.le_refl _) (by simp) hu
    have hT : Three w wc ga gb gc most [] [] [] [ga] [gb] [gc] := ⟨qa.upd hu (fun _ h => by simp at h), qb.upd hu (fun _ h => by simp at h), qc, ab, (far_new hu qa.lt).symm, (far_new hu qb.lt).symm, fa, fb, fc, hbc⟩
    clear qa qb qc ab hu hbb hbc fa fb fc
    go_wp2_with fail
    refine (message_any _ _).mono ?_
    rintro e w2 ⟨rfl, hk⟩
    replace hT := hT.below hk
    clear hk
    go_wp2_with fail
    refine (qpush_u true gc [] most _ _ _ hT.qc (by simp; omega)).mono ?_
    rintro e w3 ⟨rfl, F3, hq, hu⟩
    replace hT := hT.uc hq hu
    clear hq hu
    go_wp2_with fail
    refine (qclear_any gc _ most _ _ hT.qc).mono ?_
    rintro e w4 ⟨rfl, hq, hu⟩
    replace hT := hT.uc hq hu
    have HT := Lib.hid hT
    have hsame := eql_same ga
    clear hq hu hT
    go_wp2_with fail
    try simp only [Msg.val]
    go_loopw [8] (fun i wr => ∃ k : Nat, i = .int .i64 k ∧ k ≤ l.length ∧ ∃ la lb Fa Fb Fc, Three w wr ga gb gc most la lb la Fa Fb Fc) (fun i _ => (l.length - intOf i).toNat)
    case atStart => exact ⟨0, rfl, by omega, [], [], _, _, _, HT.out⟩
    case round =>
      obtain ⟨k, rfl, hkN, la, lb, Fa, Fb, Fc, hT⟩ := hrel
      by_cases hlt : k < l.length
      · have hk0 : (0 : Int) ≤ k := by omega
        have hkl : (k : Int) < l.length := by omega
        obtain ⟨b1, o1, rfl, k0, k1, k2, k3, k4⟩ := dos_row (HA.out.below hT.bel (Nat.le_refl _)) (k := k) (d := l[k]) (by simp [hlt])
        have hd := hok l[k] (List.getElem_mem hlt)
        have hx : l[k]? = some l[k] := by simp [hlt]
        generalize l[k] = d at *
        obtain ⟨dk, mt, mp, mq, mr⟩ := d
        have z0 := hd.k0
        have z1 := hd.k1
        simp only at k0 k1 k2 k3 k4 z0 z1
        by_cases hg : 128 ≤ dk
        · by_cases h4 : dk % 8 < 4
          · go_wp2_with fail
            refine (qpush_u _ gb lb most Fb ⟨mt, mp, mq, mr⟩ _ hT.qb rfl).mono ?_
            rintro e w5 ⟨rfl, F5, hq, hu⟩
            replace hT := hT.ub hq hu
            have hne := hT.other
            clear hq hu
            go_wp2_with fail
            go_roundw
            case rel => exact ⟨k + 1, by go_num, by omega, _, _, _, _, _, hT⟩
            case measure => simp [intOf]; omega
          · obtain ⟨m, hm⟩ : ∃ m, lb.headD Msg.none = m := ⟨_, rfl⟩
            obtain ⟨nt, np, nq, nr⟩ := m
            go_wp2_with fail
            refine (qpop_u ⟨nt, np, nq, nr⟩ _ _ gb lb most Fb _ hT.qb hm rfl rfl).mono ?_
            rintro e w5 ⟨rfl, F5, hq, hu⟩
            replace hT := hT.ub hq hu
            clear hq hu
            simp only [Msg.val]
            replace hT := hT.alloc (.cells #[.string nt, .string np, .int .u8 nq, .bool nr] 28)
            have hne := hT.other
            go_wp2_with fail
            go_roundw
            case rel => exact ⟨k + 1, by go_num, by omega, _, _, _, _, _, hT⟩
            case measure => simp [intOf]; omega
        · by_cases h4 : dk % 8 < 4
          · obtain ⟨b, hbb⟩ : ∃ b, decide ((la.length : Int) < most) = b := ⟨_, rfl⟩
            go_wp2_with fail
            refine (qpush_u b ga la most Fa ⟨mt, mp, mq, mr⟩ _ hT.qa hbb).mono ?_
            rintro e w5 ⟨rfl, F5, hq, hu⟩
            replace hT := hT.ua hq hu
            clear hq hu k0 k1 k2 k3 k4
            obtain ⟨b2, o2, he, k0, k1, k2, k3, k4⟩ := dos_row (HA.out.below hT.bel (Nat.le_refl _)) (k := k) hx
            cases he
            simp only at k0 k1 k2 k3 k4
            go_wp2_with fail
            refine (qpush_u b gc la most Fc ⟨mt, mp, mq, mr⟩ _ hT.qc hbb).mono ?_
            rintro e w6 ⟨rfl, F6, hq, hu⟩
            replace hT := hT.uc hq hu
            clear hq hu
            go_wp2_with fail
            go_roundw
            case rel => exact ⟨k + 1, by go_num, by omega, _, _, _, _, _, hT⟩
            case measure => simp [intOf]; omega
          · obtain ⟨m, hm⟩ : ∃ m, la.headD Msg.none = m := ⟨_, rfl⟩
            obtain ⟨nt, np, nq, nr⟩ := m
            obtain ⟨b, hbb⟩ : ∃ b, (!la.isEmpty) = b := ⟨_, rfl⟩
            go_wp2_with fail
            refine (qpop_u ⟨nt, np, nq, nr⟩ b _ ga la most Fa _ hT.qa hm hbb rfl).mono ?_
            rintro e w5 ⟨rfl, F5, hq, hu⟩
            replace hT := hT.ua hq hu
            clear hq hu
            simp only [Msg.val]
            have hy := heap_alloc_new w5 (.cells #[.string nt, .string np, .int .u8 nq, .bool nr] 28)
            have hyn := qne_new hT.qc
            replace hT := hT.alloc (.cells #[.string nt, .string np, .int .u8 nq, .bool nr] 28)
            generalize hby : w5.heap.size = bY at hy hyn
            go_wp2_with fail
            generalize w5.alloc (.cells #[.string nt, .string np, .int .u8 nq, .bool nr] 28) = Wy at *
            clear hby
            refine (qpop_u ⟨nt, np, nq, nr⟩ b _ gc la most Fc _ hT.qc hm hbb rfl).mono ?_
            rintro e w6 ⟨rfl, F6, hq, hu⟩
            obtain ⟨hy6, -⟩ := upd_at hu hy hyn
            replace hT := hT.uc hq hu
            clear hq hu hy hyn
            simp only [Msg.val]
            obtain ⟨x0, x1, x2, x3⟩ := cells4 (heap_alloc_new w6 (.cells #[.string nt, .string np, .int .u8 nq, .bool nr] 28))
            obtain ⟨y0, y1, y2, y3⟩ := cells4 ((Below.heap_alloc w6 (.cells #[.string nt, .string np, .int .u8 nq, .bool nr] 28) bY (Array.getElem?_eq_some_iff.1 hy6).1).trans hy6)
            replace hT := hT.alloc (.cells #[.string nt, .string np, .int .u8 nq, .bool nr] 28)
            clear hy6
            generalize hbx : w6.heap.size = bx at x0 x1 x2 x3
            go_wp2_with fail
            generalize w6.alloc (.cells #[.string nt, .string np, .int .u8 nq, .bool nr] 28) = Wx at *
            clear hbx
            go_roundw
            case rel => exact ⟨k + 1, by go_num, by omega, _, _, _, _, _, hT⟩
            case measure => simp [intOf]; omega
      · have hkl : ¬ (k : Int) < l.length := by omega
        obtain ⟨ln, hln⟩ : ∃ n : Int, (la.length : Int) = n := ⟨_, rfl⟩
        obtain ⟨rn, hrn⟩ : ∃ n : Int, most - (la.length : Int) = n := ⟨_, rfl⟩
        go_wp2_with fail
        refine (qlen_of ln ga la most Fa _ hT.qa hln).mono ?_
        rintro e w5 ⟨rfl, m5, rfl⟩
        replace hT := hT.drewN m5
        generalize wr.drewN m5 = w5 at *
        go_wp2_with fail
        refine (qlen_of ln gc la most Fc _ hT.qc hln).mono ?_
        rintro e w6 ⟨rfl, m6, rfl⟩
        replace hT := hT.drewN m6
        generalize w5.drewN m6 = w6 at *
        go_wp2_with fail
        refine (qroom_of rn ga la most Fa _ hT.qa hrn).mono ?_
        rintro e w7 ⟨rfl, m7, rfl⟩
        replace hT := hT.drewN m7
        generalize w6.drewN m7 = w7 at *
        go_wp2_with fail
        refine (qroom_of rn gc la most Fc _ hT.qc hrn).mono ?_
        rintro e w8 ⟨rfl, m8, rfl⟩
        replace hT := hT.drewN m8
        generalize w7.drewN m8 = w8 at *
        have hb := hT.bel
        clear hT
        go_wp2_with fail
        refine (awake_true _).mono ?_
        rintro e w9 ⟨rfl, hk⟩
        replace hb := bnext hb (Nat.le_refl _) hk
        clear hk
        go_wp2_with fail
        go_ret
        exact ⟨rfl, hb⟩
end Go.Proofs.Ytpladpcagdkhmaa
