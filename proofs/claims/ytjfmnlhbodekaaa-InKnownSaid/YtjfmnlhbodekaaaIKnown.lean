/- InKnown walked. -/
import Derived.Test.YtjfmnlhbodekaaaIApart
namespace Go.Proofs.Ytjfmnlhbodekaaa
open Go Go.RowKit Go.Maps

theorem nil_first (x : Int) (w : World) : Calls Try.prog 9 #[.pointer none, .int .u16 x] w fun e w' => e = .returned (.bool false) ∧ w = w' := by
  go_enter Try.func9, Try.ntmps9
  go_wp2_with fail
  go_ret
  exact ⟨rfl, rfl⟩
theorem nil_rel (x : Int) (w : World) : Calls Try.prog 11 #[.pointer none, .int .u16 x] w fun e w' => e = .returned (.bool false) ∧ w = w' := by
  go_enter Try.func11, Try.ntmps11
  go_wp2_with fail
  refine (cknows_nil x _).mono ?_
  rintro e w' ⟨rfl, rfl⟩
  go_wp2_with fail
  go_ret
  exact ⟨rfl, rfl⟩
theorem nil_open (w : World) : Calls Try.prog 10 #[.pointer none] w fun e w' => e = .returned (.slice none 0 0) ∧ w = w' := by
  go_enter Try.func10, Try.ntmps10
  go_wp2_with fail
  go_ret
  exact ⟨rfl, rfl⟩
theorem nil_forget (w : World) : Calls Try.prog 13 #[.pointer none] w fun e w' => e = .returned (.tuple #[]) ∧ w = w' := by
  go_enter Try.func13, Try.ntmps13
  go_wp2_with fail
  go_end0
  exact ⟨rfl, rfl⟩
section
variable {g : Nat} {w : World} (hg : w.heap[g]? = some (.cells #[.map none] 30 (0, 0)))
include hg
theorem e_forget : Calls Try.prog 13 #[.pointer (some ⟨g, 0, none⟩)] w fun e w' => e = .returned (.tuple #[]) ∧ w = w' := by
  have c0 := cell_of_row w g 0 _ _ _ hg
  simp only [List.getElem?_toArray, List.getElem?_cons_zero] at c0
  have hc : ∀ (w : World) ty, (Builtin.clear_ #[28] ty #[.map none]).run Try.prog w = .ok (.tuple #[]) w := fun w ty => by
    simp [Builtin.clear_, run_underlying Try.underlying28, Result.andThen]
  clear hg
  go_enter Try.func13, Try.ntmps13
  go_wp2_with fail
  go_end0
  exact ⟨rfl, rfl⟩
theorem e_first (x : Int) : Calls Try.prog 9 #[.pointer (some ⟨g, 0, none⟩), .int .u16 x] w fun e w' => e = .returned (.bool false) ∧ w = w' := by
  have c0 := cell_of_row w g 0 _ _ _ hg
  simp only [List.getElem?_toArray, List.getElem?_cons_zero] at c0
  have eqn := eqn
  clear hg
  go_enter Try.func9, Try.ntmps9
  go_wp2_with fail
  go_ret
  exact ⟨rfl, rfl⟩
theorem e_knows (x : Int) (x0 : 0 ≤ x) (x1 : x ≤ 65535) : Calls Try.prog 12 #[.pointer (some ⟨g, 0, none⟩), .int .u16 x] w fun e w' => e = .returned (.bool false) ∧ Below w.heap.size w w' := by
  have c0 := cell_of_row w g 0 _ _ _ hg
  simp only [List.getElem?_toArray, List.getElem?_cons_zero] at c0
  have hl : ∀ w : World, (Instr.lookup 28 (.map none) (.int .u16 x) true).run Try.prog w = .ok (.tuple #[.agg #[], .bool false]) w := fun w =>
    Maps.look_nil true kU Try.underlying28 (zeroUnit w) (keyOf_int_mk Try.underlying25 (wfU x0 x1))
  clear hg
  go_enter Try.func12, Try.ntmps12
  go_wp2_with fail
  go_ret
  exact ⟨rfl, (Below.refl _ _).alloc (Nat.le_refl _) _⟩
theorem e_rel (x : Int) (x0 : 0 ≤ x) (x1 : x ≤ 65535) : Calls Try.prog 11 #[.pointer (some ⟨g, 0, none⟩), .int .u16 x] w fun e w' => e = .returned (.bool false) ∧ Below w.heap.size w w' := by
  have H := Lib.hid hg
  clear hg
  go_enter Try.func11, Try.ntmps11
  go_wp2_with fail
  refine (e_knows H.out x x0 x1).mono ?_
  rintro e w1 ⟨rfl, hb⟩
  go_wp2_with fail
  go_ret
  exact ⟨rfl, hb⟩
theorem e_open : Calls Try.prog 10 #[.pointer (some ⟨g, 0, none⟩)] w fun e w' => e = .returned (.slice none 0 0) ∧ Below w.heap.size w w' := by
  have c0 := cell_of_row w g 0 _ _ _ hg
  simp only [List.getElem?_toArray, List.getElem?_cons_zero] at c0
  have hrg := run_range_nilMap (P := Try.prog) w 28 25 44 Try.underlying28
  have hnx : ∀ ty, (Instr.next (.pointer (some ⟨w.heap.size, 0, none⟩)) false ty).run Try.prog (w.alloc (.mapIter none 0 #[] 0)) = _ := fun ty => run_next_nilMap w ty 0 0 #[]
  clear hg
  go_enter Try.func10, Try.ntmps10
  go_wp2_with fail
  refine wp_loop_rounds 1 ?_
  rw [rounds_succ]
  go_wp2_with fail
  refine (us_Sort_int_nil none 0 _).mono ?_
  rintro e w' ⟨rfl, rfl⟩
  go_wp2_with fail
  go_ret
  exact ⟨rfl, (Below.refl _ _).alloc (Nat.le_refl _) _⟩
end

/-- all ids above n, rising -/
def upto (n : Nat) : List Int := (List.range' (n + 1) (65535 - n)).map fun k : Nat => (k : Int)
theorem mem_upto (n : Nat) (z : Int) : z ∈ upto n ↔ (n : Int) < z ∧ z ≤ 65535 := by
  simp only [upto, List.mem_map, List.mem_range'_1]
  constructor
  · rintro ⟨k, hk, rfl⟩; omega
  · rintro ⟨h1, h2⟩; exact ⟨z.toNat, by omega, by omega⟩
theorem upto_sorted (n : Nat) : (upto n).Pairwise (· < ·) := by
  unfold upto
  rw [List.pairwise_map]
  exact (List.pairwise_lt_range' (s := n + 1) (n := 65535 - n)).imp (by intro a b h; omega)
theorem upto_len (n : Nat) : (upto n).length = 65535 - n := by simp [upto]
theorem upto_at (n k : Nat) (h : k < 65535 - n) : (upto n)[k]? = some ((n : Int) + 1 + k) := by
  simp only [upto, List.getElem?_map, List.getElem?_range' h, Option.map_some, Nat.one_mul, Option.some.injEq]
  omega
theorem upto_top : upto 65535 = [] := by apply List.eq_nil_of_length_eq_zero; rw [upto_len]
theorem frs_upto (n : Nat) (h : n + 1 ≤ 65535) : frs ((n + 1 : Nat) : Int) (upto (n + 1)) = upto n := by
  have hx : ((n + 1 : Nat) : Int) ∉ upto (n + 1) := by rw [mem_upto]; omega
  have h1 : (frs ((n + 1 : Nat) : Int) (upto (n + 1))).Pairwise (· < ·) := by
    unfold frs; split
    · exact upto_sorted _
    · exact ins_sorted (upto_sorted _) hx
  refine sorted_ext h1 (upto_sorted n) fun z => ?_
  rw [mem_frs, mem_upto, mem_upto]
  omega

theorem u16_of (n : Nat) (h : n ≤ 65535) : IntKind.u16.wrap (n : Int) = n := by rw [IntKind.wrap_u16]; omega

set_option maxRecDepth 100000 in
set_option maxHeartbeats 4000000 in
theorem known_true (w : World) : Calls Try.prog 3 #[] w fun e w' => e = .returned (.bool true) ∧ Below w.heap.size w w' := by
  go_enter Try.func3, Try.ntmps3
  go_wp2_with fail
  refine (cnew _).mono ?_
  rintro e w1 ⟨g, F, rfl, hq, hu⟩
  obtain ⟨hb, hF⟩ := upd_below (Below.refl w.heap.size w) (Nat.le_refl _) (by simp) hu
  have HT : Hid (One w w1 g [] F) := Lib.hid ⟨hq, hF, hb⟩
  clear hu hq hF hb
  go_wp2_with fail
  go_loopw [2] (fun i wr => ∃ (n : Nat), i = .int .i64 n ∧ n ≤ 65535 ∧ One w wr g (upto n) F) (fun i _ => (intOf i).toNat)
  case atStart => exact ⟨65535, by go_num, by omega, by rw [upto_top]; exact HT.out⟩
  case round =>
    obtain ⟨n, rfl, hn, hT⟩ := hrel
    clear HT
    by_cases hz : n = 0
    · subst hz
      have hpl := upto_len 0
      have hmem := mem_upto 0
      have h0 : (upto 0)[0]? = some 1 := (upto_at 0 0 (by omega)).trans (congrArg some (by omega))
      have h1 : (upto 0)[65534]? = some 65535 := (upto_at 0 65534 (by omega)).trans (congrArg some (by omega))
      generalize upto 0 = q at *
      have HP := Lib.hid hpl
      have HM := Lib.hid hmem
      have H0 := Lib.hid h0
      have H1 := Lib.hid h1
      have HO := Lib.hid (show out 0 q = q from out_none (by rw [hmem]; omega))
      have HE := Lib.hid (show frs 40000 (out 40000 q) = q from frs_out (by rw [hmem]; omega) hT.c.sorted (by rw [hmem]; omega))
      clear hpl hmem h0 h1
      go_wp2_with fail
      refine (copen_u g q F _ hT.c).mono ?_
      rintro e w2 ⟨a, c, rfl, -, hr, hk⟩
      replace hT := hT.below hk
      obtain ⟨b1, o1, rfl, k0⟩ := row_at hr H0.out
      obtain ⟨b2, o2, he, k1⟩ := row_at hr H1.out
      cases he
      rw [HP.out]
      clear hk hr
      simp only [Nat.add_zero, Nat.sub_zero] at k0 ⊢
      have M1 := Lib.hid (show decide ((1 : Int) ≠ 0 ∧ (1 : Int) ∉ q) = false by simp; rw [HM.out]; omega)
      have M2 := Lib.hid (show decide ((65535 : Int) ≠ 0 ∧ (65535 : Int) ∉ q) = false by simp; rw [HM.out]; omega)
      have M3 := Lib.hid (show decide ((40000 : Int) ∈ q) = true by simp; rw [HM.out]; omega)
      have M4 := Lib.hid (show decide ((40000 : Int) ∈ out 40000 q) = false by simp [mem_out])
      have M5 := Lib.hid (show decide ((40000 : Int) ≠ 0 ∧ (40000 : Int) ∉ out 40000 q) = true by simp [mem_out])
      have M6 := Lib.hid (show decide ((0 : Int) ∈ q) = false by simp; rw [HM.out]; omega)
      have F1 := Lib.hid (show frs 1 q = q by unfold frs; rw [if_pos (.inr (by rw [HM.out]; omega))])
      have F2 := Lib.hid (show frs 65535 q = q by unfold frs; rw [if_pos (.inr (by rw [HM.out]; omega))])
      go_wp2_with fail
      refine (cfirst_u false g 1 q F _ hT.c (by decide) (by decide) M1.out).mono ?_
      rintro e w3 ⟨rfl, hq, hu⟩
      replace hT := hT.upd hq hu
      rw [F1.out] at hT
      clear hq hu k0 k1
      go_wp2_with fail
      refine (cfirst_u false g 65535 q F _ hT.c (by decide) (by decide) M2.out).mono ?_
      rintro e w4 ⟨rfl, hq, hu⟩
      replace hT := hT.upd hq hu
      rw [F2.out] at hT
      clear hq hu
      go_wp2_with fail
      refine (crel_u true g 40000 q F _ hT.c (by decide) (by decide) M3.out).mono ?_
      rintro e w5 ⟨rfl, hq, hu⟩
      replace hT := hT.upd hq hu
      clear hq hu
      go_wp2_with fail
      refine (cknows_any false g 40000 _ F _ hT.c (by decide) (by decide) M4.out).mono ?_
      rintro e w6 ⟨rfl, hk⟩
      replace hT := hT.below hk
      clear hk
      go_wp2_with fail
      refine (cfirst_u true g 40000 _ F _ hT.c (by decide) (by decide) M5.out).mono ?_
      rintro e w7 ⟨rfl, hq, hu⟩
      replace hT := hT.upd hq hu
      rw [HE.out] at hT
      clear hq hu
      go_wp2_with fail
      refine (crel_u false g 0 q F _ hT.c (by decide) (by decide) M6.out).mono ?_
      rintro e w8 ⟨rfl, hq, hu⟩
      have hb := (hT.upd hq hu).bel
      clear hq hu hT M1 M2 M3 M4 M5 M6 F1 F2 HE HO HP HM H0 H1
      obtain ⟨E, hE⟩ : ∃ E, w8.heap.size = E := ⟨_, rfl⟩
      have hbox := heap_alloc_new w8 (.cells #[.map none] 30)
      have hbr := heap_alloc_new (w8.alloc (.cells #[.map none] 30)) (.cells #[.pointer none, .pointer (some ⟨w8.heap.size, 0, none⟩)] 22)
      have hbx := ((Below.heap_alloc (w8.alloc (.cells #[.map none] 30)) (.cells #[.pointer none, .pointer (some ⟨w8.heap.size, 0, none⟩)] 22) w8.heap.size (by simp)).trans hbox)
      have hb2 := (hb.alloc hb.size (.cells #[.map none] 30)).alloc (by have := hb.size; simp; omega) (.cells #[.pointer none, .pointer (some ⟨w8.heap.size, 0, none⟩)] 22)
      rw [show (w8.alloc (.cells #[.map none] 30)).heap.size = E + 1 by simp [hE], hE] at hbr
      rw [hE] at hbx hb2
      have HX := Lib.hid hbx
      have HR := Lib.hid hbr
      have HB := Lib.hid hb2
      clear hbox hbx hbr hb2 hb
      go_wp2_with fail
      generalize (w8.alloc (.cells #[.map none] 30)).alloc (.cells #[.pointer none, .pointer (some ⟨E, 0, none⟩)] 22) = WB at *
      clear hE
      go_loopw [6] (fun i wr => ∃ (k : Nat), i = .int .i64 k ∧ k ≤ 2 ∧ Below WB.heap.size WB wr) (fun i _ => (2 - intOf i).toNat)
      case atStart => exact ⟨0, rfl, by omega, Below.refl _ _⟩
      case round =>
        obtain ⟨k, rfl, hk, hb⟩ := hrel
        have HC : ∀ W, Below WB.heap.size WB W → W.heap[E]? = some (.cells #[.map none] 30 (0, 0)) ∧ W.cell? ⟨E + 1, 0, none⟩ = some (.pointer none) ∧ W.cell? ⟨E + 1, 1, none⟩ = some (.pointer (some ⟨E, 0, none⟩)) := fun W hW => by
          have h1 := (hW.block E (Array.getElem?_eq_some_iff.1 HX.out).1).trans HX.out
          have h2 := (hW.block (E + 1) (Array.getElem?_eq_some_iff.1 HR.out).1).trans HR.out
          exact ⟨h1, cell_of_row W (E + 1) 0 _ _ _ h2, cell_of_row W (E + 1) 1 _ _ _ h2⟩
        have HC := Lib.hid HC
        have h01 : k = 0 ∨ k = 1 ∨ k = 2 := by omega
        rcases h01 with rfl | rfl | rfl
        · obtain ⟨-, c0, -⟩ := HC.out _ hb
          go_wp2_with fail
          refine (nil_forget _).mono ?_
          rintro e w' ⟨rfl, rfl⟩
          go_wp2_with fail
          refine (nil_first 1 _).mono ?_
          rintro e w' ⟨rfl, rfl⟩
          go_wp2_with fail
          refine (nil_rel 1 _).mono ?_
          rintro e w' ⟨rfl, rfl⟩
          go_wp2_with fail
          refine (cknows_nil 1 _).mono ?_
          rintro e w' ⟨rfl, rfl⟩
          go_wp2_with fail
          refine (nil_open _).mono ?_
          rintro e w' ⟨rfl, rfl⟩
          go_wp2_with fail
          go_roundw
          case rel => exact ⟨1, by go_num, by omega, hb⟩
          case measure => simp [intOf]
        · obtain ⟨hx, -, c1⟩ := HC.out _ hb
          have HX1 := Lib.hid hx
          clear hx
          go_wp2_with fail
          refine (e_forget HX1.out).mono ?_
          rintro e w' ⟨rfl, rfl⟩
          go_wp2_with fail
          refine (e_first HX1.out 1).mono ?_
          rintro e w' ⟨rfl, rfl⟩
          go_wp2_with fail
          refine (e_rel HX1.out 1 (by decide) (by decide)).mono ?_
          rintro e wa ⟨rfl, hk⟩
          replace hb := bnext hb (Nat.le_refl _) hk
          clear hk HX1 c1
          obtain ⟨hx, -, c1⟩ := HC.out _ hb
          have HX1 := Lib.hid hx
          clear hx
          go_wp2_with fail
          refine (e_knows HX1.out 1 (by decide) (by decide)).mono ?_
          rintro e wb ⟨rfl, hk⟩
          replace hb := bnext hb (Nat.le_refl _) hk
          clear hk HX1 c1
          obtain ⟨hx, -, c1⟩ := HC.out _ hb
          have HX1 := Lib.hid hx
          clear hx
          go_wp2_with fail
          refine (e_open HX1.out).mono ?_
          rintro e wc ⟨rfl, hk⟩
          replace hb := bnext hb (Nat.le_refl _) hk
          clear hk HX1 c1
          go_wp2_with fail
          go_roundw
          case rel => exact ⟨2, by go_num, by omega, hb⟩
          case measure => simp [intOf]
        · have hb2 := bnext HB.out (by have := HB.out.size; omega) hb
          clear HC HX HR HB hb
          go_wp2_with fail
          refine (awake_true _).mono ?_
          rintro e w7 ⟨rfl, hk⟩
          replace hb2 := bnext hb2 (Nat.le_refl _) hk
          go_wp2_with fail
          go_ret
          exact ⟨rfl, hb2⟩
    · obtain ⟨m, rfl⟩ : ∃ m, n = m + 1 := ⟨n - 1, by omega⟩
      obtain ⟨N, hN⟩ : ∃ N : Int, ((m + 1 : Nat) : Int) = N := ⟨_, rfl⟩
      have M1 := Lib.hid (show decide (N ≠ 0 ∧ N ∉ upto (m + 1)) = true by simp; rw [mem_upto]; omega)
      have F1 := Lib.hid (show frs N (upto (m + 1)) = upto m by rw [← hN]; exact frs_upto m (by omega))
      have N0 : 0 < N := by omega
      have N1 : N ≤ 65535 := by omega
      have N2 : 0 ≤ N := by omega
      have NW : IntKind.u16.wrap N = N := by rw [← hN]; exact u16_of (m + 1) hn
      have HN := Lib.hid hN
      rw [hN]
      clear hN hz
      go_wp2_with fail
      refine (cfirst_u true g N _ F _ hT.c N2 N1 M1.out).mono ?_
      rintro e w3 ⟨rfl, hq, hu⟩
      replace hT := hT.upd hq hu
      rw [F1.out] at hT
      clear hq hu
      go_wp2_with fail
      go_roundw
      case rel => exact ⟨m, by have := HN.out; first | exact v_int (by omega) | go_num, by omega, hT⟩
      case measure => have := HN.out; simp [intOf]; omega
end Go.Proofs.Ytjfmnlhbodekaaa
