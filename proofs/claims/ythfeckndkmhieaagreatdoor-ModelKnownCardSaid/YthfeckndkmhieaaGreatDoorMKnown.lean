/- ModelKnown walked. (Printed by gen_mknown.py.) -/
import Derived.Test.YthfeckndkmhieaaGreatDoorMKnownP
namespace Go.Proofs.YthfeckndkmhieaaGreatDoor
open Go Go.RowKit Go.Maps

theorem Aw.moreN {w0 w : World} {n n' m : Nat} {s : MS} {F : List Nat} {L : List (Nat × Obj)} (h : Aw w0 w n m s F L) (hn : n ≤ n') : Aw w0 w n' m s F L := ⟨h.mo.more hn, h.held⟩
set_option maxRecDepth 100000 in
set_option maxHeartbeats 16000000 in
theorem known_true (w : World) (hT : Tabs w) : Calls Tryz.prog 3 #[] w fun e w' => e = .returned (.bool true) ∧ Below w.heap.size w w' := by
  have HT := Lib.hid hT
  have HNEW := Lib.hid (mnew_x w w (Below.refl _ _))
  have HP1 := Lib.hid (built_pk0 1)
  have Z1 := Lib.hid (pk_size (pk0 1))
  have Y1 := Lib.hid (pk_size24 (pk0 1))
  have O1 := Lib.hid (pk_one (pk0 1))
  have D0 : Hid (∀ v, Calls Tryz.prog 10 #[.string ⟨#[120]⟩, .int .i64 0, .agg (pk0 1).cells.toArray] v fun e w' => e = .returned (.agg (doesN knX 0 (pk0 1)).cells.toArray) ∧ Below v.heap.size v w') := Lib.hid (fun v => does_any knX 0 (pk0 1) v)
  have Dm : Hid (∀ v, Calls Tryz.prog 10 #[.string ⟨#[120]⟩, .int .i64 (-1), .agg (pk0 1).cells.toArray] v fun e w' => e = .returned (.agg (doesN knX (-1) (pk0 1)).cells.toArray) ∧ Below v.heap.size v w') := Lib.hid (fun v => does_any knX (-1) (pk0 1) v)
  have D4 : Hid (∀ v, Calls Tryz.prog 10 #[.string ⟨#[120]⟩, .int .i64 4, .agg (pk0 1).cells.toArray] v fun e w' => e = .returned (.agg (doesN knX 4 (pk0 1)).cells.toArray) ∧ Below v.heap.size v w') := Lib.hid (fun v => does_any knX 4 (pk0 1) v)
  have D1x : Hid (∀ v, Calls Tryz.prog 10 #[.string ⟨#[120]⟩, .int .i64 1, .agg (pk0 1).cells.toArray] v fun e w' => e = .returned (.agg (doesN knX 1 (pk0 1)).cells.toArray) ∧ Below v.heap.size v w') := Lib.hid (fun v => does_any knX 1 (pk0 1) v)
  have A1x := Lib.hid (fun p v h => napplies p (doesN knX 1 (pk0 1)) v h)
  clear hT
  go_enter Tryz.func3, Tryz.ntmps3
  go_wp2_with fail
  refine HNEW.out.mono ?_
  rintro e w1 ⟨m, F, rfl, hM, -⟩
  have HA := Lib.hid (Aw.start hM)
  clear hM HNEW
  have A0 := Lib.hid (fun n F L v h hn => applies_a true n m (doesN knX 0 (pk0 1)) _ _ _ w F L v ⟨#[]⟩ false false (h : Aw w v n m MS.new F L) HT.out (kn_ok 0 1 (by decide) (by decide) (by decide)) (.inl rfl) hn kn_0 (by kernel_rfl))
  have Am := Lib.hid (fun n F L v h hn => applies_a true n m (doesN knX (-1) (pk0 1)) _ _ _ w F L v ⟨#[]⟩ false false (h : Aw w v n m MS.new F L) HT.out (kn_ok (-1) 1 (by decide) (by decide) (by decide)) (.inl rfl) hn kn_m1 (by kernel_rfl))
  have A4 := Lib.hid (fun n F L v h hn => applies_a true n m (doesN knX 4 (pk0 1)) _ _ _ w F L v ⟨#[]⟩ false true (h : Aw w v n m MS.new F L) HT.out (kn_ok 4 1 (by decide) (by decide) (by decide)) (.inl rfl) hn kn_4 (by kernel_rfl))
  have A4b := Lib.hid (fun n F L v h hn => applies_a true n m (doesN knX 4 (pk0 1)) _ _ _ w F L v ⟨#[]⟩ false false (h : Aw w v n m knS F L) HT.out (kn_ok 4 1 (by decide) (by decide) (by decide)) (.inl rfl) hn kn_4b (by kernel_rfl))
  replace HA := Lib.hid (HA.out.alloc w1.heap.size rfl (pk0 1).cells.toArray 29)
  generalize hP : (pk0 1).cells.toArray = P1 at *
  clear hP
  generalize (doesN knX 0 (pk0 1)).cells.toArray = N0 at *
  generalize (doesN knX 1 (pk0 1)).cells.toArray = N1x at *
  generalize (doesN knX (-1) (pk0 1)).cells.toArray = Nm at *
  generalize (doesN knX 4 (pk0 1)).cells.toArray = N4 at *
  obtain ⟨L, hL⟩ : ∃ L : List (Nat × Obj), L = [(w1.heap.size, .cells P1 29)] := ⟨_, rfl⟩
  rw [← hL] at HA
  have M2 : Hid ((w1.heap.size, Obj.cells P1 29) ∈ L) := Lib.hid (by rw [hL]; simp)
  clear hL
  go_wp2_with (first | (refine wpList_buildG (by kernel_rfl) 29 #[(0, .const (.int .u8 1))] rfl _ rfl P1 [(0, .int .u8 1)] (by kernel_rfl) HP1.out ?_) | (refine wpList_store_newTo rfl 29 _ _ rfl rfl _ rfl P1 _ rfl rfl Z1.out Y1.out O1.out ?_) | fail)
  generalize w1.alloc (.cells P1 29) = v0 at *
  generalize w1.heap.size = b2 at *
  go_loopw [3] (fun i wr => ∃ k : Nat, i = .int .u8 k ∧ k ≤ 20 ∧ ∃ F, Hid (Aw w wr k m MS.new F L)) (fun i _ => (20 - intOf i).toNat)
  case atStart => exact ⟨0, rfl, by omega, F, Lib.hid (HA.out.moreN (by omega))⟩
  case round =>
    obtain ⟨k, rfl, hk, F, HW⟩ := hrel
    clear HA
    by_cases hlt : k < 20
    · have hk0 : (0 : Int) ≤ k := by omega
      have hkl : (k : Int) < 20 := by omega
      have hw : IntKind.u8.wrap ((k : Int) + 1) = (k : Int) + 1 := w_u8 _ (by omega) (by omega)
      by_cases h1 : k = 1
      · subst h1
        go_wp2_with fail
        go_roundw
        case rel => exact ⟨1 + 1, by go_num, by omega, F, Lib.hid (HW.out.moreN (by omega))⟩
        case measure => simp [intOf]
      · have h1' : ((k : Int) == 1) = false := by simp; omega
        have HPk := Lib.hid (built_pk0 k)
        have Dk : Hid (∀ v, Calls Tryz.prog 10 #[.string ⟨#[120]⟩, .int .i64 1, .agg (pk0 k).cells.toArray] v fun e w' => e = .returned (.agg (doesN knX 1 (pk0 k)).cells.toArray) ∧ Below v.heap.size v w') := Lib.hid (fun v => does_any knX 1 (pk0 k) v)
        have Ak := Lib.hid (fun n F L v h hn => applies_a true n m (doesN knX 1 (pk0 k)) _ _ _ w F L v ⟨#[]⟩ false false (h : Aw w v n m MS.new F L) HT.out (kn_ok 1 k (by decide) hk0 hkl) (.inl rfl) hn (kn_new k (by omega)) (by kernel_rfl))
        generalize (pk0 (k : Int)).cells.toArray = Pk at *
        generalize (doesN knX 1 (pk0 (k : Int))).cells.toArray = Nk at *
        go_wp2_with (first | (refine wpList_buildG (by simp [Region.wanted, yielded]; omega) 29 #[(0, .tmp _)] rfl _ rfl Pk [(0, .int .u8 k)] (by kernel_rfl) HPk.out ?_) | fail)
        refine (Dk.out _).mono ?_
        rintro e v1 ⟨rfl, hk1⟩
        replace HW := Lib.hid (HW.out.below hk1)
        clear hk1
        go_wp2_with fail
        refine (Ak.out k _ L _ HW.out (by omega)).mono ?_
        rintro e v2 ⟨rfl, F2, hA2⟩
        have HW2 := Lib.hid hA2
        clear hA2 HW
        go_wp2_with fail
        go_roundw
        case rel => exact ⟨k + 1, by go_num, by omega, F2, HW2⟩
        case measure => simp [intOf]; omega
    · have hkl : ¬ (k : Int) < 20 := by omega
      have HA := Lib.hid (HW.out.moreN (n' := 20) (by omega))
      clear HW hk hlt
      go_wp2_with (first | (refine wpList_loadG (by kernel_rfl) 29 _ rfl b2 rfl 29 P1 _ _ (HA.out.held _ M2.out).1 Tryz.underlying29 rfl Z1.out ?_) | fail)
      refine (D0.out _).mono ?_
      rintro e v1 ⟨rfl, hk⟩
      replace HA := Lib.hid (HA.out.below hk)
      clear hk
      go_wp2_with fail
      refine (A0.out (20) _ L _ HA.out (by omega)).mono ?_
      rintro e v2 ⟨rfl, F2, hA2⟩
      replace HA := Lib.hid hA2
      clear hA2
      go_wp2_with (first | (refine wpList_loadG (by kernel_rfl) 29 _ rfl b2 rfl 29 P1 _ _ (HA.out.held _ M2.out).1 Tryz.underlying29 rfl Z1.out ?_) | fail)
      refine (Dm.out _).mono ?_
      rintro e v1 ⟨rfl, hk⟩
      replace HA := Lib.hid (HA.out.below hk)
      clear hk
      go_wp2_with fail
      refine (Am.out (21) _ L _ HA.out (by omega)).mono ?_
      rintro e v2 ⟨rfl, F2, hA2⟩
      replace HA := Lib.hid hA2
      clear hA2
      go_wp2_with fail
      refine (mhas_x false 22 m _ knX w _ _ HA.out.mo (by decide) (by kernel_rfl)).mono ?_
      rintro e v3 ⟨rfl, rfl⟩
      go_wp2_with (first | (refine wpList_loadG (by kernel_rfl) 29 _ rfl b2 rfl 29 P1 _ _ (HA.out.held _ M2.out).1 Tryz.underlying29 rfl Z1.out ?_) | fail)
      refine (D4.out _).mono ?_
      rintro e v1 ⟨rfl, hk⟩
      replace HA := Lib.hid (HA.out.below hk)
      clear hk
      go_wp2_with fail
      refine (A4.out (22) _ L _ HA.out (by omega)).mono ?_
      rintro e v2 ⟨rfl, F2, hA2⟩
      replace HA := Lib.hid hA2
      clear hA2
      go_wp2_with (first | (refine wpList_loadG (by kernel_rfl) 29 _ rfl b2 rfl 29 P1 _ _ (HA.out.held _ M2.out).1 Tryz.underlying29 rfl Z1.out ?_) | fail)
      refine (D4.out _).mono ?_
      rintro e v1 ⟨rfl, hk⟩
      replace HA := Lib.hid (HA.out.below hk)
      clear hk
      go_wp2_with fail
      refine (A4b.out (23) _ L _ HA.out (by omega)).mono ?_
      rintro e v2 ⟨rfl, F2, hA2⟩
      replace HA := Lib.hid hA2
      clear hA2
      go_wp2_with fail
      go_loopw [4, 5] (fun i _ wr => ∃ k : Nat, i = .int .u8 k ∧ k ≤ 20 ∧ ∃ n F, n ≤ 30 + 3 * k ∧ Hid (Aw w wr n m knS F L)) (fun i _ _ => (20 - intOf i).toNat)
      case atStart => exact ⟨0, rfl, by omega, 24, _, by omega, HA⟩
      case round =>
      clear HA
      obtain ⟨k, rfl, hk, n, F, hn, HA⟩ := hrel
      by_cases hlt : k < 20
      · have hk0 : (0 : Int) ≤ k := by omega
        have hkl : (k : Int) < 20 := by omega
        have hw : IntKind.u8.wrap ((k : Int) + 1) = (k : Int) + 1 := w_u8 _ (by omega) (by omega)
        have HPk := Lib.hid (built_pk0 k)
        have HEk := Lib.hid (built_else k)
        have D4k : Hid (∀ v, Calls Tryz.prog 10 #[.string ⟨#[120]⟩, .int .i64 4, .agg (pk0 k).cells.toArray] v fun e w' => e = .returned (.agg (doesN knX 4 (pk0 k)).cells.toArray) ∧ Below v.heap.size v w') := Lib.hid (fun v => does_any knX 4 (pk0 k) v)
        have D5k : Hid (∀ v, Calls Tryz.prog 10 #[.string ⟨#[120]⟩, .int .i64 5, .agg (pk0 k).cells.toArray] v fun e w' => e = .returned (.agg (doesN knX 5 (pk0 k)).cells.toArray) ∧ Below v.heap.size v w') := Lib.hid (fun v => does_any knX 5 (pk0 k) v)
        have A4k : Hid ((k : Int) ≠ 1 → (k : Int) ≠ 0 → (k : Int) ≠ 8 → (k : Int) ≠ 10 → (k : Int) ≠ 14 → ∀ n F L v, Aw w v n m knS F L → n < 10000 → Calls Tryz.prog 9 #[.pointer (some ⟨m, 0, none⟩), .agg (doesN knX 4 (pk0 k)).cells.toArray, .string ⟨#[]⟩, .bool false, .bool false] v fun e w' => e = .returned (.bool true) ∧ ∃ F', Aw w w' (n + 1) m knS F' L) := Lib.hid (fun h1 h0 h8 h10 h14 n F L v h hn => applies_a true n m (doesN knX 4 (pk0 k)) _ _ _ w F L v ⟨#[]⟩ false false h HT.out (kn_ok 4 k (by decide) hk0 hkl) (.inl rfl) hn (kn_odd k h1 h0 h8 h10 h14) (by kernel_rfl))
        have A5k : Hid ((k : Int) ≠ 1 → ∀ n F L v, Aw w v n m knS F L → n < 10000 → Calls Tryz.prog 9 #[.pointer (some ⟨m, 0, none⟩), .agg (doesN knX 5 (pk0 k)).cells.toArray, .string ⟨#[]⟩, .bool false, .bool false] v fun e w' => e = .returned (.bool true) ∧ ∃ F', Aw w w' (n + 1) m knS F' L) := Lib.hid (fun h1 n F L v h hn => applies_a true n m (doesN knX 5 (pk0 k)) _ _ _ w F L v ⟨#[]⟩ false false h HT.out (kn_ok 5 k (by decide) hk0 hkl) (.inl rfl) hn (kn_five k h1) (by kernel_rfl))
        have AEk : Hid ((k : Int) ≠ 2 → (k : Int) ≠ 5 → ∀ n F L v, Aw w v n m knS F L → n < 10000 → Calls Tryz.prog 9 #[.pointer (some ⟨m, 0, none⟩), .agg (keepsN k 4 knX knMsg).cells.toArray, .string ⟨#[]⟩, .bool false, .bool true] v fun e w' => e = .returned (.bool true) ∧ ∃ F', Aw w w' (n + 1) m knS F' L) := Lib.hid (fun h2 h5 n F L v h hn => applies_a true n m (keepsN k 4 knX knMsg) _ _ _ w F L v ⟨#[]⟩ false true h HT.out (kn_okE k hk0 hkl) (.inl rfl) hn (kn_else k h2 h5) (by kernel_rfl))
        generalize (pk0 (k : Int)).cells.toArray = Pk at *
        generalize (doesN knX 4 (pk0 (k : Int))).cells.toArray = N4k at *
        generalize (doesN knX 5 (pk0 (k : Int))).cells.toArray = N5k at *
        generalize (keepsN (k : Int) 4 knX knMsg).cells.toArray = Ne at *
        by_cases e0 : k = 0
        · subst e0
          replace A5k := Lib.hid (A5k.out (by decide))
          replace AEk := Lib.hid (AEk.out (by decide) (by decide))
          go_wp2_with (first | (refine wpList_buildG (by first | (simp [Region.wanted, yielded]; done) | (simp [Region.wanted, yielded]; omega)) 29 #[(0, .tmp _)] rfl _ rfl Pk [(0, .int .u8 (0 : Nat))] (by kernel_rfl) HPk.out ?_) | fail)
          refine (D5k.out _).mono ?_
          rintro e v1 ⟨rfl, hk⟩
          replace HA := Lib.hid (HA.out.below hk)
          clear hk
          go_wp2_with fail
          refine (A5k.out (n + 0) _ L _ HA.out (by omega)).mono ?_
          rintro e v2 ⟨rfl, F2, hA2⟩
          replace HA := Lib.hid hA2
          clear hA2
          go_wp2_with (first | (refine wpList_buildG (by first | (simp [Region.wanted, yielded]; done) | (simp [Region.wanted, yielded]; omega)) 32 #[(0, .tmp _), (3, .const (.string ⟨#[120]⟩)), (2, .const (.int .i64 4)), (5, .tmp _)] rfl _ rfl Ne [(0, .int .u8 (0 : Nat)), (3, .string ⟨#[120]⟩), (2, .int .i64 4), (5, .agg #[.string ⟨#[97]⟩, .string ⟨#[112]⟩, .int .u8 0, .bool false])] (by kernel_rfl) HEk.out ?_) | fail)
          refine (AEk.out (n + 1) _ L _ HA.out (by omega)).mono ?_
          rintro e v2 ⟨rfl, F2, hA2⟩
          replace HA := Lib.hid hA2
          clear hA2
          go_wp2_with fail
          go_roundw
          case rel => exact ⟨0 + 1, by go_num, by omega, n + 2, _, by omega, HA⟩
          case measure => simp [intOf]
        by_cases e8 : k = 8
        · subst e8
          replace A5k := Lib.hid (A5k.out (by decide))
          replace AEk := Lib.hid (AEk.out (by decide) (by decide))
          go_wp2_with (first | (refine wpList_buildG (by first | (simp [Region.wanted, yielded]; done) | (simp [Region.wanted, yielded]; omega)) 29 #[(0, .tmp _)] rfl _ rfl Pk [(0, .int .u8 (8 : Nat))] (by kernel_rfl) HPk.out ?_) | fail)
          refine (D5k.out _).mono ?_
          rintro e v1 ⟨rfl, hk⟩
          replace HA := Lib.hid (HA.out.below hk)
          clear hk
          go_wp2_with fail
          refine (A5k.out (n + 0) _ L _ HA.out (by omega)).mono ?_
          rintro e v2 ⟨rfl, F2, hA2⟩
          replace HA := Lib.hid hA2
          clear hA2
          go_wp2_with (first | (refine wpList_buildG (by first | (simp [Region.wanted, yielded]; done) | (simp [Region.wanted, yielded]; omega)) 32 #[(0, .tmp _), (3, .const (.string ⟨#[120]⟩)), (2, .const (.int .i64 4)), (5, .tmp _)] rfl _ rfl Ne [(0, .int .u8 (8 : Nat)), (3, .string ⟨#[120]⟩), (2, .int .i64 4), (5, .agg #[.string ⟨#[97]⟩, .string ⟨#[112]⟩, .int .u8 0, .bool false])] (by kernel_rfl) HEk.out ?_) | fail)
          refine (AEk.out (n + 1) _ L _ HA.out (by omega)).mono ?_
          rintro e v2 ⟨rfl, F2, hA2⟩
          replace HA := Lib.hid hA2
          clear hA2
          go_wp2_with fail
          go_roundw
          case rel => exact ⟨8 + 1, by go_num, by omega, n + 2, _, by omega, HA⟩
          case measure => simp [intOf]
        by_cases e10 : k = 10
        · subst e10
          replace A5k := Lib.hid (A5k.out (by decide))
          replace AEk := Lib.hid (AEk.out (by decide) (by decide))
          go_wp2_with (first | (refine wpList_buildG (by first | (simp [Region.wanted, yielded]; done) | (simp [Region.wanted, yielded]; omega)) 29 #[(0, .tmp _)] rfl _ rfl Pk [(0, .int .u8 (10 : Nat))] (by kernel_rfl) HPk.out ?_) | fail)
          refine (D5k.out _).mono ?_
          rintro e v1 ⟨rfl, hk⟩
          replace HA := Lib.hid (HA.out.below hk)
          clear hk
          go_wp2_with fail
          refine (A5k.out (n + 0) _ L _ HA.out (by omega)).mono ?_
          rintro e v2 ⟨rfl, F2, hA2⟩
          replace HA := Lib.hid hA2
          clear hA2
          go_wp2_with (first | (refine wpList_buildG (by first | (simp [Region.wanted, yielded]; done) | (simp [Region.wanted, yielded]; omega)) 32 #[(0, .tmp _), (3, .const (.string ⟨#[120]⟩)), (2, .const (.int .i64 4)), (5, .tmp _)] rfl _ rfl Ne [(0, .int .u8 (10 : Nat)), (3, .string ⟨#[120]⟩), (2, .int .i64 4), (5, .agg #[.string ⟨#[97]⟩, .string ⟨#[112]⟩, .int .u8 0, .bool false])] (by kernel_rfl) HEk.out ?_) | fail)
          refine (AEk.out (n + 1) _ L _ HA.out (by omega)).mono ?_
          rintro e v2 ⟨rfl, F2, hA2⟩
          replace HA := Lib.hid hA2
          clear hA2
          go_wp2_with fail
          go_roundw
          case rel => exact ⟨10 + 1, by go_num, by omega, n + 2, _, by omega, HA⟩
          case measure => simp [intOf]
        by_cases e14 : k = 14
        · subst e14
          replace A5k := Lib.hid (A5k.out (by decide))
          replace AEk := Lib.hid (AEk.out (by decide) (by decide))
          go_wp2_with (first | (refine wpList_buildG (by first | (simp [Region.wanted, yielded]; done) | (simp [Region.wanted, yielded]; omega)) 29 #[(0, .tmp _)] rfl _ rfl Pk [(0, .int .u8 (14 : Nat))] (by kernel_rfl) HPk.out ?_) | fail)
          refine (D5k.out _).mono ?_
          rintro e v1 ⟨rfl, hk⟩
          replace HA := Lib.hid (HA.out.below hk)
          clear hk
          go_wp2_with fail
          refine (A5k.out (n + 0) _ L _ HA.out (by omega)).mono ?_
          rintro e v2 ⟨rfl, F2, hA2⟩
          replace HA := Lib.hid hA2
          clear hA2
          go_wp2_with (first | (refine wpList_buildG (by first | (simp [Region.wanted, yielded]; done) | (simp [Region.wanted, yielded]; omega)) 32 #[(0, .tmp _), (3, .const (.string ⟨#[120]⟩)), (2, .const (.int .i64 4)), (5, .tmp _)] rfl _ rfl Ne [(0, .int .u8 (14 : Nat)), (3, .string ⟨#[120]⟩), (2, .int .i64 4), (5, .agg #[.string ⟨#[97]⟩, .string ⟨#[112]⟩, .int .u8 0, .bool false])] (by kernel_rfl) HEk.out ?_) | fail)
          refine (AEk.out (n + 1) _ L _ HA.out (by omega)).mono ?_
          rintro e v2 ⟨rfl, F2, hA2⟩
          replace HA := Lib.hid hA2
          clear hA2
          go_wp2_with fail
          go_roundw
          case rel => exact ⟨14 + 1, by go_num, by omega, n + 2, _, by omega, HA⟩
          case measure => simp [intOf]
        by_cases e1 : k = 1
        · subst e1
          replace AEk := Lib.hid (AEk.out (by decide) (by decide))
          go_wp2_with (first | (refine wpList_buildG (by first | (simp [Region.wanted, yielded]; done) | (simp [Region.wanted, yielded]; omega)) 32 #[(0, .tmp _), (3, .const (.string ⟨#[120]⟩)), (2, .const (.int .i64 4)), (5, .tmp _)] rfl _ rfl Ne [(0, .int .u8 (1 : Nat)), (3, .string ⟨#[120]⟩), (2, .int .i64 4), (5, .agg #[.string ⟨#[97]⟩, .string ⟨#[112]⟩, .int .u8 0, .bool false])] (by kernel_rfl) HEk.out ?_) | fail)
          refine (AEk.out (n + 0) _ L _ HA.out (by omega)).mono ?_
          rintro e v2 ⟨rfl, F2, hA2⟩
          replace HA := Lib.hid hA2
          clear hA2
          go_wp2_with fail
          go_roundw
          case rel => exact ⟨1 + 1, by go_num, by omega, n + 1, _, by omega, HA⟩
          case measure => simp [intOf]
        by_cases e2 : k = 2
        · subst e2
          replace A4k := Lib.hid (A4k.out (by decide) (by decide) (by decide) (by decide) (by decide))
          replace A5k := Lib.hid (A5k.out (by decide))
          go_wp2_with (first | (refine wpList_buildG (by first | (simp [Region.wanted, yielded]; done) | (simp [Region.wanted, yielded]; omega)) 29 #[(0, .tmp _)] rfl _ rfl Pk [(0, .int .u8 (2 : Nat))] (by kernel_rfl) HPk.out ?_) | fail)
          refine (D4k.out _).mono ?_
          rintro e v1 ⟨rfl, hk⟩
          replace HA := Lib.hid (HA.out.below hk)
          clear hk
          go_wp2_with fail
          refine (A4k.out (n) _ L _ HA.out (by omega)).mono ?_
          rintro e v2 ⟨rfl, F2, hA2⟩
          replace HA := Lib.hid hA2
          clear hA2
          go_wp2_with (first | (refine wpList_buildG (by first | (simp [Region.wanted, yielded]; done) | (simp [Region.wanted, yielded]; omega)) 29 #[(0, .tmp _)] rfl _ rfl Pk [(0, .int .u8 (2 : Nat))] (by kernel_rfl) HPk.out ?_) | fail)
          refine (D5k.out _).mono ?_
          rintro e v1 ⟨rfl, hk⟩
          replace HA := Lib.hid (HA.out.below hk)
          clear hk
          go_wp2_with fail
          refine (A5k.out (n + 1) _ L _ HA.out (by omega)).mono ?_
          rintro e v2 ⟨rfl, F2, hA2⟩
          replace HA := Lib.hid hA2
          clear hA2
          go_wp2_with fail
          go_roundw
          case rel => exact ⟨2 + 1, by go_num, by omega, n + 2, _, by omega, HA⟩
          case measure => simp [intOf]
        by_cases e5 : k = 5
        · subst e5
          replace A4k := Lib.hid (A4k.out (by decide) (by decide) (by decide) (by decide) (by decide))
          replace A5k := Lib.hid (A5k.out (by decide))
          go_wp2_with (first | (refine wpList_buildG (by first | (simp [Region.wanted, yielded]; done) | (simp [Region.wanted, yielded]; omega)) 29 #[(0, .tmp _)] rfl _ rfl Pk [(0, .int .u8 (5 : Nat))] (by kernel_rfl) HPk.out ?_) | fail)
          refine (D4k.out _).mono ?_
          rintro e v1 ⟨rfl, hk⟩
          replace HA := Lib.hid (HA.out.below hk)
          clear hk
          go_wp2_with fail
          refine (A4k.out (n) _ L _ HA.out (by omega)).mono ?_
          rintro e v2 ⟨rfl, F2, hA2⟩
          replace HA := Lib.hid hA2
          clear hA2
          go_wp2_with (first | (refine wpList_buildG (by first | (simp [Region.wanted, yielded]; done) | (simp [Region.wanted, yielded]; omega)) 29 #[(0, .tmp _)] rfl _ rfl Pk [(0, .int .u8 (5 : Nat))] (by kernel_rfl) HPk.out ?_) | fail)
          refine (D5k.out _).mono ?_
          rintro e v1 ⟨rfl, hk⟩
          replace HA := Lib.hid (HA.out.below hk)
          clear hk
          go_wp2_with fail
          refine (A5k.out (n + 1) _ L _ HA.out (by omega)).mono ?_
          rintro e v2 ⟨rfl, F2, hA2⟩
          replace HA := Lib.hid hA2
          clear hA2
          go_wp2_with fail
          go_roundw
          case rel => exact ⟨5 + 1, by go_num, by omega, n + 2, _, by omega, HA⟩
          case measure => simp [intOf]
        replace A4k := Lib.hid (A4k.out (by omega) (by omega) (by omega) (by omega) (by omega))
        replace A5k := Lib.hid (A5k.out (by omega))
        replace AEk := Lib.hid (AEk.out (by omega) (by omega))
        have q0 : ((k : Int) == 0) = false := by simp; omega
        have q1 : ((k : Int) == 1) = false := by simp; omega
        have q2 : ((k : Int) == 2) = false := by simp; omega
        have q5 : ((k : Int) == 5) = false := by simp; omega
        have q8 : ((k : Int) == 8) = false := by simp; omega
        have q10 : ((k : Int) == 10) = false := by simp; omega
        have q14 : ((k : Int) == 14) = false := by simp; omega
        have q0n : (k == 0) = false := by simp; omega
        skip
        go_wp2_with (first | (refine wpList_buildG (by first | (simp [Region.wanted, yielded]; done) | (simp [Region.wanted, yielded]; omega)) 29 #[(0, .tmp _)] rfl _ rfl Pk [(0, .int .u8 k)] (by kernel_rfl) HPk.out ?_) | fail)
        refine (D4k.out _).mono ?_
        rintro e v1 ⟨rfl, hk⟩
        replace HA := Lib.hid (HA.out.below hk)
        clear hk
        go_wp2_with fail
        refine (A4k.out (n) _ L _ HA.out (by omega)).mono ?_
        rintro e v2 ⟨rfl, F2, hA2⟩
        replace HA := Lib.hid hA2
        clear hA2
        go_wp2_with (first | (refine wpList_buildG (by first | (simp [Region.wanted, yielded]; done) | (simp [Region.wanted, yielded]; omega)) 29 #[(0, .tmp _)] rfl _ rfl Pk [(0, .int .u8 k)] (by kernel_rfl) HPk.out ?_) | fail)
        refine (D5k.out _).mono ?_
        rintro e v1 ⟨rfl, hk⟩
        replace HA := Lib.hid (HA.out.below hk)
        clear hk
        go_wp2_with fail
        refine (A5k.out (n + 1) _ L _ HA.out (by omega)).mono ?_
        rintro e v2 ⟨rfl, F2, hA2⟩
        replace HA := Lib.hid hA2
        clear hA2
        go_wp2_with (first | (refine wpList_buildG (by first | (simp [Region.wanted, yielded]; done) | (simp [Region.wanted, yielded]; omega)) 32 #[(0, .tmp _), (3, .const (.string ⟨#[120]⟩)), (2, .const (.int .i64 4)), (5, .tmp _)] rfl _ rfl Ne [(0, .int .u8 k), (3, .string ⟨#[120]⟩), (2, .int .i64 4), (5, .agg #[.string ⟨#[97]⟩, .string ⟨#[112]⟩, .int .u8 0, .bool false])] (by kernel_rfl) HEk.out ?_) | fail)
        refine (AEk.out (n + 2) _ L _ HA.out (by omega)).mono ?_
        rintro e v2 ⟨rfl, F2, hA2⟩
        replace HA := Lib.hid hA2
        clear hA2
        go_wp2_with fail
        go_roundw
        case rel => exact ⟨k + 1, by go_num, by omega, n + 3, _, by omega, HA⟩
        case measure => simp [intOf]; omega
      · have hkl : ¬ (k : Int) < 20 := by omega
        have hn2 : n ≤ 90 := by omega
        clear hk hlt hn
        replace HA := Lib.hid (HA.out.alloc wr.heap.size rfl #[.string ⟨#[]⟩, .string ⟨#[]⟩, .int .u8 0, .bool false, .string ⟨#[97, 47, 43]⟩, .string ⟨#[112]⟩, .int .u8 0, .bool false, .string ⟨#[97]⟩, .string ⟨#[112]⟩, .int .u8 3, .bool false] 26)
        go_wp2_with fail
        generalize wr.alloc (.cells #[.string ⟨#[]⟩, .string ⟨#[]⟩, .int .u8 0, .bool false, .string ⟨#[97, 47, 43]⟩, .string ⟨#[112]⟩, .int .u8 0, .bool false, .string ⟨#[97]⟩, .string ⟨#[112]⟩, .int .u8 3, .bool false] 26) = v3 at *
        generalize wr.heap.size = b3 at *
        obtain ⟨L3, hL3⟩ : ∃ L3, (b3, Obj.cells #[.string ⟨#[]⟩, .string ⟨#[]⟩, .int .u8 0, .bool false, .string ⟨#[97, 47, 43]⟩, .string ⟨#[112]⟩, .int .u8 0, .bool false, .string ⟨#[97]⟩, .string ⟨#[112]⟩, .int .u8 3, .bool false] 26) :: L = L3 := ⟨_, rfl⟩
        have M3 : Hid ((b3, Obj.cells #[.string ⟨#[]⟩, .string ⟨#[]⟩, .int .u8 0, .bool false, .string ⟨#[97, 47, 43]⟩, .string ⟨#[112]⟩, .int .u8 0, .bool false, .string ⟨#[97]⟩, .string ⟨#[112]⟩, .int .u8 3, .bool false] 26) ∈ L3) := Lib.hid (by rw [← hL3]; simp)
        replace M2 : Hid ((b2, Obj.cells P1 29) ∈ L3) := Lib.hid (by rw [← hL3]; exact List.mem_cons_of_mem _ M2.out)
        rw [hL3] at HA
        clear hL3
        go_loopw [7] (fun i wq => ∃ j : Nat, i = .int .i64 j ∧ j ≤ 3 ∧ ∃ n F, n ≤ 90 + j ∧ Hid (Aw w wq n m knS F L3)) (fun i _ => (3 - intOf i).toNat)
        case atStart => exact ⟨0, rfl, by omega, n, _, by omega, HA⟩
        case round =>
        clear HA hn2
        obtain ⟨j, rfl, hj, n, F, hn, HA⟩ := hrel
        by_cases hlt : j < 3
        · have hj0 : (0 : Int) ≤ j := by omega
          have hjl : (j : Int) < 3 := by omega
          have hjb : j < knBad.length := hlt
          obtain ⟨bq, oq, eq, c0, c1, c2, c3⟩ := msgs_row (HA.out.row M3.out (xs := msgs knBad) rfl).row (k := j) (m := knBad[j]) (by simp [hjb])
          cases eq
          have HY := Lib.hid (kn_bad knBad[j] (List.getElem_mem hjb))
          generalize knBad[j] = y at *
          have HBY := Lib.hid (built_keeps 5 y)
          have AY := Lib.hid (fun v F h => applies_a true n m (keepsN 5 0 ⟨#[]⟩ y) _ _ _ w F L3 v ⟨#[]⟩ false false (h : Aw w v n m knS F L3) HT.out HY.out.2 (.inl rfl) (by omega) HY.out.1 (by kernel_rfl))
          generalize (keepsN 5 0 ⟨#[]⟩ y).cells.toArray = NY at *
          obtain ⟨yt, yp, yq, yr⟩ := y
          simp only [Nat.zero_add] at c0 c1 c2 c3
          dsimp only at HBY
          clear HY
          go_wp2_with (first | (refine wpList_buildG (by kernel_rfl) 32 #[(0, .const (.int .u8 5)), (5, .tmp _)] rfl _ rfl NY [(0, .int .u8 5), (5, .agg #[.string yt, .string yp, .int .u8 yq, .bool yr])] (by kernel_rfl) HBY.out ?_) | fail)
          refine (AY.out _ _ HA.out).mono ?_
          rintro e v5 ⟨rfl, F2, hA2⟩
          have HA2 := Lib.hid hA2
          clear hA2 HA
          go_wp2_with fail
          go_roundw
          case rel => exact ⟨j + 1, by go_num, by omega, n + 1, F2, by omega, HA2⟩
          case measure => simp [intOf]; omega
        · have hjl : ¬ (j : Int) < 3 := by omega
          have hn3 : n ≤ 93 := by omega
          clear hj hlt hn
          go_wp2_with fail
          refine (mconn_x 4 n m _ knX w _ _ HA.out.mo (by decide) (by kernel_rfl)).mono ?_
          rintro e v5 ⟨rfl, rfl⟩
          go_wp2_with fail
          refine (mconn_x 0 n m _ ⟨#[121]⟩ w _ _ HA.out.mo (by decide) (by kernel_rfl)).mono ?_
          rintro e v5 ⟨rfl, rfl⟩
          go_wp2_with fail
          refine (mhas_x false n m _ ⟨#[121]⟩ w _ _ HA.out.mo (by decide) (by kernel_rfl)).mono ?_
          rintro e v5 ⟨rfl, rfl⟩
          go_wp2_with fail
          refine (mkept_x n m 0 _ [] w _ _ HA.out.mo (by omega) rfl rfl).mono ?_
          rintro e v6 ⟨ak, ck, rfl, -, -, -, hk⟩
          replace HA := Lib.hid (HA.out.below hk)
          clear hk
          have HPU := Lib.hid (built_pks 10 (some ⟨v6.heap.size, 0, none⟩) 2 2 knUn rfl)
          have ZU := Lib.hid (pk_size (pkOf 10 false (some ⟨v6.heap.size, 0, none⟩) 2 knUn))
          have YU := Lib.hid (pk_size24 (pkOf 10 false (some ⟨v6.heap.size, 0, none⟩) 2 knUn))
          have OU := Lib.hid (pk_one (pkOf 10 false (some ⟨v6.heap.size, 0, none⟩) 2 knUn))
          have HPV := Lib.hid (built_pks 8 (some ⟨v6.heap.size + 1 + 1, 0, none⟩) 4 4 knSub rfl)
          have ZV := Lib.hid (pk_size (pkOf 8 false (some ⟨v6.heap.size + 1 + 1, 0, none⟩) 4 knSub))
          have YV := Lib.hid (pk_size24 (pkOf 8 false (some ⟨v6.heap.size + 1 + 1, 0, none⟩) 4 knSub))
          have OV := Lib.hid (pk_one (pkOf 8 false (some ⟨v6.heap.size + 1 + 1, 0, none⟩) 4 knSub))
          have DU : Hid (∀ v, Calls Tryz.prog 10 #[.string ⟨#[120]⟩, .int .i64 4, .agg (pkOf 10 false (some ⟨v6.heap.size, 0, none⟩) 2 knUn).cells.toArray] v fun e w' => e = .returned (.agg (doesN knX 4 (pkOf 10 false (some ⟨v6.heap.size, 0, none⟩) 2 knUn)).cells.toArray) ∧ Below v.heap.size v w') := Lib.hid (fun v => does_any knX 4 (pkOf 10 false (some ⟨v6.heap.size, 0, none⟩) 2 knUn) v)
          have DV : Hid (∀ v, Calls Tryz.prog 10 #[.string ⟨#[120]⟩, .int .i64 4, .agg (pkOf 8 false (some ⟨v6.heap.size + 1 + 1, 0, none⟩) 4 knSub).cells.toArray] v fun e w' => e = .returned (.agg (doesN knX 4 (pkOf 8 false (some ⟨v6.heap.size + 1 + 1, 0, none⟩) 4 knSub)).cells.toArray) ∧ Below v.heap.size v w') := Lib.hid (fun v => does_any knX 4 (pkOf 8 false (some ⟨v6.heap.size + 1 + 1, 0, none⟩) 4 knSub) v)
          have AV := Lib.hid (fun F L v h hr => applies_a true n m (doesN knX 4 (pkOf 8 false (some ⟨v6.heap.size + 1 + 1, 0, none⟩) 4 knSub)) _ _ _ w F L v ⟨#[2, 1, 0, 128]⟩ false true (h : Aw w v n m knS F L) HT.out (kn_sub_ok _) hr (by omega) (kn_sub _) (by kernel_rfl))
          have AU := Lib.hid (fun F L v h hr => applies_a true (n + 1) m (doesN knX 4 (pkOf 10 false (some ⟨v6.heap.size, 0, none⟩) 2 knUn)) _ _ _ w F L v ⟨#[]⟩ false true (h : Aw w v (n + 1) m knS2 F L) HT.out (kn_un_ok _) hr (by omega) (kn_un _) (by kernel_rfl))
          generalize (pkOf 10 false (some ⟨v6.heap.size, 0, none⟩) 2 knUn).cells.toArray = PU at *
          generalize (pkOf 8 false (some ⟨v6.heap.size + 1 + 1, 0, none⟩) 4 knSub).cells.toArray = PV at *
          generalize (doesN knX 4 (pkOf 10 false (some ⟨v6.heap.size, 0, none⟩) 2 knUn)).cells.toArray = NU at *
          generalize (doesN knX 4 (pkOf 8 false (some ⟨v6.heap.size + 1 + 1, 0, none⟩) 4 knSub)).cells.toArray = NV at *
          replace HA := Lib.hid ((((HA.out.alloc v6.heap.size rfl #[.string ⟨#[97]⟩, .int .u8 0, .string ⟨#[113]⟩, .int .u8 0] 39).alloc (v6.heap.size + 1) (by simp) PU 29).alloc (v6.heap.size + 1 + 1) (by simp) #[.string ⟨#[97]⟩, .int .u8 2, .string ⟨#[97]⟩, .int .u8 1, .string ⟨#[43]⟩, .int .u8 0, .string ⟨#[122]⟩, .int .u8 3] 39).alloc (v6.heap.size + 1 + 1 + 1) (by simp) PV 29)
          obtain ⟨L4, hL4⟩ : ∃ L4, (v6.heap.size + 1 + 1 + 1, Obj.cells PV 29) :: (v6.heap.size + 1 + 1, Obj.cells #[.string ⟨#[97]⟩, .int .u8 2, .string ⟨#[97]⟩, .int .u8 1, .string ⟨#[43]⟩, .int .u8 0, .string ⟨#[122]⟩, .int .u8 3] 39) :: (v6.heap.size + 1, Obj.cells PU 29) :: (v6.heap.size, Obj.cells #[.string ⟨#[97]⟩, .int .u8 0, .string ⟨#[113]⟩, .int .u8 0] 39) :: L3 = L4 := ⟨_, rfl⟩
          have MV : Hid ((v6.heap.size + 1 + 1 + 1, Obj.cells PV 29) ∈ L4) := Lib.hid (by rw [← hL4]; simp)
          have MR2 : Hid ((v6.heap.size + 1 + 1, Obj.cells #[.string ⟨#[97]⟩, .int .u8 2, .string ⟨#[97]⟩, .int .u8 1, .string ⟨#[43]⟩, .int .u8 0, .string ⟨#[122]⟩, .int .u8 3] 39) ∈ L4) := Lib.hid (by rw [← hL4]; simp)
          have MU : Hid ((v6.heap.size + 1, Obj.cells PU 29) ∈ L4) := Lib.hid (by rw [← hL4]; simp)
          have MR1 : Hid ((v6.heap.size, Obj.cells #[.string ⟨#[97]⟩, .int .u8 0, .string ⟨#[113]⟩, .int .u8 0] 39) ∈ L4) := Lib.hid (by rw [← hL4]; simp)
          replace M2 : Hid ((b2, Obj.cells P1 29) ∈ L4) := Lib.hid (by rw [← hL4]; exact List.mem_cons_of_mem _ (List.mem_cons_of_mem _ (List.mem_cons_of_mem _ (List.mem_cons_of_mem _ M2.out))))
          rw [hL4] at HA
          clear hL4
          go_wp2_with (first
            | (refine wpList_buildG (by kernel_rfl) 29 #[(0, .const (.int .u8 10)), (19, .tmp _)] rfl _ rfl PU [(0, .int .u8 10), (19, .slice (some ⟨v6.heap.size, 0, none⟩) 2 2)] (by kernel_rfl) HPU.out ?_)
            | (refine wpList_buildG (by kernel_rfl) 29 #[(0, .const (.int .u8 8)), (19, .tmp _)] rfl _ rfl PV [(0, .int .u8 8), (19, .slice (some ⟨v6.heap.size + 1 + 1, 0, none⟩) 4 4)] (by kernel_rfl) HPV.out ?_)
            | (refine wpList_store_newTo rfl 29 _ _ rfl rfl _ (by simp) PU _ rfl rfl ZU.out YU.out OU.out ?_)
            | (refine wpList_store_newTo rfl 29 _ _ rfl rfl _ (by simp) PV _ rfl rfl ZV.out YV.out OV.out ?_)
            | (refine wpList_loadG (by kernel_rfl) 29 _ rfl (v6.heap.size + 1 + 1 + 1) rfl 29 PV _ _ (HA.out.held _ MV.out).1 Tryz.underlying29 rfl ZV.out ?_)
            | fail)
          generalize ((((v6.alloc (.cells #[.string ⟨#[97]⟩, .int .u8 0, .string ⟨#[113]⟩, .int .u8 0] 39)).alloc (.cells PU 29)).alloc (.cells #[.string ⟨#[97]⟩, .int .u8 2, .string ⟨#[97]⟩, .int .u8 1, .string ⟨#[43]⟩, .int .u8 0, .string ⟨#[122]⟩, .int .u8 3] 39)).alloc (.cells PV 29)) = v7 at *
          refine (DV.out _).mono ?_
          rintro e v1 ⟨rfl, hk⟩
          replace HA := Lib.hid (HA.out.below hk)
          clear hk
          go_wp2_with fail
          refine (AV.out _ L4 _ HA.out (HA.out.row MR2.out (xs := subsV knSub) rfl)).mono ?_
          rintro e v2 ⟨rfl, F2, hA2⟩
          replace HA := Lib.hid hA2
          clear hA2
          go_wp2_with (first | (refine wpList_loadG (by kernel_rfl) 29 _ rfl (v6.heap.size + 1) rfl 29 PU _ _ (HA.out.held _ MU.out).1 Tryz.underlying29 rfl ZU.out ?_) | fail)
          refine (DU.out _).mono ?_
          rintro e v1 ⟨rfl, hk⟩
          replace HA := Lib.hid (HA.out.below hk)
          clear hk
          go_wp2_with fail
          refine (AU.out _ L4 _ HA.out (HA.out.row MR1.out (xs := subsV knUn) rfl)).mono ?_
          rintro e v2 ⟨rfl, F2, hA2⟩
          replace HA := Lib.hid hA2
          clear hA2
          go_wp2_with fail
          refine (mbest_x 0 true (n + 1 + 1) m _ knX ⟨#[97]⟩ w _ _ HA.out.mo HT.out (by decide) (by decide) kn_b1).mono ?_
          rintro e v8 ⟨rfl, hk⟩
          replace HA := Lib.hid (HA.out.below hk)
          clear hk
          go_wp2_with fail
          refine (mbest_x 0 false (n + 1 + 1) m _ knX ⟨#[97, 47, 98]⟩ w _ _ HA.out.mo HT.out (by decide) (by decide) kn_b2).mono ?_
          rintro e v8 ⟨rfl, hk⟩
          replace HA := Lib.hid (HA.out.below hk)
          clear hk
          go_wp2_with fail
          replace HA := Lib.hid ((HA.out.alloc v8.heap.size rfl #[.map none, .pointer none] 45).alloc (v8.heap.size + 1) (by simp) #[.pointer none, .pointer (some ⟨v8.heap.size, 0, none⟩)] 22)
          obtain ⟨L5, hL5⟩ : ∃ L5, (v8.heap.size + 1, Obj.cells #[.pointer none, .pointer (some ⟨v8.heap.size, 0, none⟩)] 22) :: (v8.heap.size, Obj.cells #[.map none, .pointer none] 45) :: L4 = L5 := ⟨_, rfl⟩
          have MZ : Hid ((v8.heap.size, Obj.cells #[.map none, .pointer none] 45) ∈ L5) := Lib.hid (by rw [← hL5]; simp)
          have MRW : Hid ((v8.heap.size + 1, Obj.cells #[.pointer none, .pointer (some ⟨v8.heap.size, 0, none⟩)] 22) ∈ L5) := Lib.hid (by rw [← hL5]; simp)
          replace M2 : Hid ((b2, Obj.cells P1 29) ∈ L5) := Lib.hid (by rw [← hL5]; exact List.mem_cons_of_mem _ (List.mem_cons_of_mem _ M2.out))
          rw [hL5] at HA
          clear hL5
          generalize ((v8.alloc (.cells #[.map none, .pointer none] 45)).alloc (.cells #[.pointer none, .pointer (some ⟨v8.heap.size, 0, none⟩)] 22)) = v9 at *
          generalize v8.heap.size = zb at *
          have HBZ := Lib.hid built_zero
          have AZ := Lib.hid (fun p v h => napplies p (keepsN 0 0 ⟨#[]⟩ ⟨⟨#[]⟩, ⟨#[]⟩, 0, false⟩) v h)
          generalize (keepsN 0 0 ⟨#[]⟩ ⟨⟨#[]⟩, ⟨#[]⟩, 0, false⟩).cells.toArray = NZ at *
          have hPP : P1.toList.toArray = P1 := by simp
          have DZ := Lib.hid (fun v => (show Calls Tryz.prog 10 #[.string ⟨#[120]⟩, .int .i64 1, .agg P1.toList.toArray] v fun e w' => e = .returned (.agg N1x) ∧ Below v.heap.size v w' by rw [hPP]; exact D1x.out v))
          have ZL := Lib.hid (show (Tryz.prog.info? 29).map (·.size) = some P1.toList.length by rw [Z1.out]; simp)
          clear hPP
          go_loopw [16, 17, 18] (fun i _ _ wq => ∃ j : Nat, i = .int .i64 j ∧ j ≤ 2 ∧ Hid (Aw w wq (n + 1 + 1) m knS3 F2 L5)) (fun i _ _ _ => (2 - intOf i).toNat)
          case atStart => exact ⟨0, rfl, by omega, HA⟩
          case round =>
          clear HA
          obtain ⟨j, rfl, hj, HA⟩ := hrel
          by_cases hlt : j < 2
          · have hj0 : (0 : Int) ≤ j := by omega
            have hjl : (j : Int) < 2 := by omega
            obtain ⟨p, hp⟩ : ∃ p, ∀ X, Below wr.heap.size wr X → X.cell? ⟨zb + 1, j, none⟩ = some p ∧ NoM X p := by
              have hr := (HA.out.held _ MRW.out).1
              have hz := (HA.out.held _ MZ.out).1
              have hlz := (Array.getElem?_eq_some_iff.1 hz).1
              have hlr := (Array.getElem?_eq_some_iff.1 hr).1
              rcases (by omega : j = 0 ∨ j = 1) with rfl | rfl
              · exact ⟨.pointer none, fun X hX => ⟨(hX.cell (p := ⟨zb + 1, 0, none⟩) hlr).trans (cell_of_row _ _ 0 _ _ _ hr), .inl rfl⟩⟩
              · exact ⟨.pointer (some ⟨zb, 0, none⟩), fun X hX => ⟨(hX.cell (p := ⟨zb + 1, 1, none⟩) hlr).trans (cell_of_row _ _ 1 _ _ _ hr), .inr ⟨zb, rfl, (hX.cell (p := ⟨zb, 0, none⟩) hlz).trans (cell_of_row _ _ 0 _ _ _ hz), (hX.cell (p := ⟨zb, 1, none⟩) hlz).trans (cell_of_row _ _ 1 _ _ _ hz)⟩⟩⟩
            have hrg : wr.rangeAt b2 0 P1.toList := fun k v hk => by
              rw [Nat.zero_add]
              rw [cell_of_row wr b2 k _ _ _ (HA.out.held _ M2.out).1]
              simpa using hk
            have HSX : Hid (∀ X, Below wr.heap.size wr X → (X.cell? ⟨zb + 1, j, none⟩ = some p ∧ X.rangeAt b2 0 P1.toList) ∧ NoM X p) := Lib.hid (fun X hX => ⟨⟨(hp X hX).1, range_below hrg hX⟩, (hp X hX).2⟩)
            obtain ⟨⟨hcp, -⟩, -⟩ := HSX.out wr (Below.refl _ _)
            clear hp hrg
            go_wp2_with fail
            refine (nbest p knX ⟨#[97]⟩ wr (HSX.out wr (Below.refl _ _)).2 (by decide)).mono ?_
            rintro e x0 ⟨rfl, rfl⟩
            go_wp2_with fail
            have hb : Hid (Below wr.heap.size wr wr.drew) := Lib.hid (Below.refl _ _).drew
            refine wp_region_held_drew (S := fun X => X.cell? ⟨zb + 1, j, none⟩ = some p ∧ X.rangeAt b2 0 P1.toList) (by kernel_rfl) (HSX.out _ hb.out).1 (fun hHeld => ?_)
            refine wpAnyH_take (i := 0) (v := ?_) rfl (by kernel_rfl) (by kernel_rfl) (by kernel_rfl) (fun _ _ _ h => h) (Or.inl ⟨rfl, ?_⟩) hHeld ?_
            rotate_left
            · intro w0 hS0
              try dsimp only at hS0
              go_simp
              try with_reducible rfl
            simp only [List.getElem_toArray, List.getElem_cons_zero, Act.put, List.setIfInBounds_toArray, List.set_cons_zero, List.set_cons_succ]
            refine wpAnyH_take (i := 1) (v := ?_) rfl (by kernel_rfl) (by kernel_rfl) (by kernel_rfl) (fun _ _ _ h => h) (Or.inl ⟨rfl, ?_⟩) hHeld ?_
            rotate_left
            · intro w0 hS0
              try dsimp only at hS0
              go_simp
              try with_reducible rfl
            simp only [List.getElem_toArray, List.getElem_cons_zero, List.getElem_cons_succ, Act.put, List.setIfInBounds_toArray, List.set_cons_zero, List.set_cons_succ]
            refine wpAnyH_take (i := 2) (v := ?_) rfl (by kernel_rfl) (by kernel_rfl) (by kernel_rfl) (fun _ _ _ h => h) (Or.inl ⟨rfl, ?_⟩) hHeld ?_
            rotate_left
            · intro w0 hS0
              try dsimp only at hS0
              go_simp
              try with_reducible rfl
            simp only [List.getElem_toArray, List.getElem_cons_zero, List.getElem_cons_succ, Act.put, List.setIfInBounds_toArray, List.set_cons_zero, List.set_cons_succ]
            refine wpAnyH_take (i := 3) (v := ?_) rfl (by kernel_rfl) (by kernel_rfl) (by kernel_rfl) (fun _ _ _ h => h) (Or.inl ⟨rfl, ?_⟩) hHeld ?_
            rotate_left
            · intro w0 hS0
              try dsimp only at hS0
              go_simp
              try with_reducible rfl
            simp only [List.getElem_toArray, List.getElem_cons_zero, List.getElem_cons_succ, Act.put, List.setIfInBounds_toArray, List.set_cons_zero, List.set_cons_succ]
            refine wpAnyH_take (i := 4) (v := .agg P1.toList.toArray) rfl (by kernel_rfl) (by kernel_rfl) (by kernel_rfl) (fun _ _ _ h => h) (yieldsIf_load_mid (by kernel_rfl) 29 _ rfl b2 0 rfl P1.toList _ (fun _ h => h.2) Tryz.underlying29 rfl ZL.out) hHeld ?_
            simp only [List.getElem_toArray, List.getElem_cons_zero, List.getElem_cons_succ, Act.put, List.setIfInBounds_toArray, List.set_cons_zero, List.set_cons_succ]
            refine wpAnyH_ready (rs := [5]) (by kernel_rfl) (by simp) ?_
            refine AllReadyH.cons rfl (fun K hK => ?_) AllReadyH.nil
            rw [if_pos (by rfl)]
            go_simp
            go_at_call 10
            refine (DZ.out _).mono ?_
            rintro e x1 ⟨rfl, hk⟩
            replace hb := Lib.hid (bnext hb.out (Nat.le_refl _) hk)
            clear hk
            refine hK.out _ _ (HSX.out _ hb.out).1 (fun hHeld => ?_)
            refine wpAnyH_ready (rs := [6]) (by kernel_rfl) (by simp) ?_
            refine AllReadyH.cons rfl (fun K hK => ?_) AllReadyH.nil
            rw [if_pos (by rfl)]
            go_simp
            go_at_call 9
            refine (A1x.out p _ (HSX.out _ hb.out).2).mono ?_
            rintro e x1 ⟨rfl, hk⟩
            replace hb := Lib.hid (bnext hb.out (Nat.le_refl _) hk)
            clear hk
            refine hK.out _ _ (HSX.out _ hb.out).1 (fun hHeld => ?_)
            refine wpAnyH_take (i := 7) (v := ?_) rfl (by kernel_rfl) (by kernel_rfl) (by kernel_rfl) (fun _ _ _ h => h) (Or.inl ⟨rfl, ?_⟩) hHeld ?_
            rotate_left
            · intro w0 hS0
              try dsimp only at hS0
              go_simp
              try with_reducible rfl
            simp only [List.getElem_toArray, List.getElem_cons_zero, List.getElem_cons_succ, Act.put, List.setIfInBounds_toArray, List.set_cons_zero, List.set_cons_succ]
            refine wpAnyH_take (i := 8) (v := ?_) rfl (by kernel_rfl) (by kernel_rfl) (by kernel_rfl) (fun _ _ _ h => h) (Or.inl ⟨rfl, ?_⟩) hHeld ?_
            rotate_left
            · intro w0 hS0
              try dsimp only at hS0
              go_simp
              try with_reducible rfl
            simp only [List.getElem_toArray, List.getElem_cons_zero, List.getElem_cons_succ, Act.put, List.setIfInBounds_toArray, List.set_cons_zero, List.set_cons_succ]
            refine wpAnyH_take (i := 9) (v := ?_) rfl (by kernel_rfl) (by kernel_rfl) (by kernel_rfl) (fun _ _ _ h => h) (Or.inl ⟨rfl, ?_⟩) hHeld ?_
            rotate_left
            · intro w0 hS0
              try dsimp only at hS0
              go_simp
              try with_reducible rfl
            simp only [List.getElem_toArray, List.getElem_cons_zero, List.getElem_cons_succ, Act.put, List.setIfInBounds_toArray, List.set_cons_zero, List.set_cons_succ]
            refine wpAnyH_take (i := 10) (v := ?_) rfl (by kernel_rfl) (by kernel_rfl) (by kernel_rfl) (fun _ _ _ h => h) (Or.inl ⟨rfl, ?_⟩) hHeld ?_
            rotate_left
            · intro w0 hS0
              try dsimp only at hS0
              go_simp
              try with_reducible rfl
            simp only [List.getElem_toArray, List.getElem_cons_zero, List.getElem_cons_succ, Act.put, List.setIfInBounds_toArray, List.set_cons_zero, List.set_cons_succ]
            refine wpAnyH_take (i := 11) (v := ?_) rfl (by kernel_rfl) (by kernel_rfl) (by kernel_rfl) (fun _ _ _ h => h) (Or.inl ⟨rfl, ?_⟩) hHeld ?_
            rotate_left
            · intro w0 hS0
              try dsimp only at hS0
              go_simp
              try with_reducible rfl
            simp only [List.getElem_toArray, List.getElem_cons_zero, List.getElem_cons_succ, Act.put, List.setIfInBounds_toArray, List.set_cons_zero, List.set_cons_succ]
            refine wpAnyH_take (i := 12) (v := ?_) rfl (by kernel_rfl) (by kernel_rfl) (by kernel_rfl) (fun _ _ _ h => h) (Or.inl ⟨rfl, ?_⟩) hHeld ?_
            rotate_left
            · intro w0 hS0
              try dsimp only at hS0
              go_simp
              try with_reducible rfl
            simp only [List.getElem_toArray, List.getElem_cons_zero, List.getElem_cons_succ, Act.put, List.setIfInBounds_toArray, List.set_cons_zero, List.set_cons_succ]
            refine wpAnyH_take (i := 13) (v := .agg NZ) rfl (by kernel_rfl) (by kernel_rfl) (by kernel_rfl) (fun _ _ _ h => h) (yieldsIf_buildG (by kernel_rfl) 32 #[] rfl NZ [] (by kernel_rfl) HBZ.out) hHeld ?_
            simp only [List.getElem_toArray, List.getElem_cons_zero, List.getElem_cons_succ, Act.put, List.setIfInBounds_toArray, List.set_cons_zero, List.set_cons_succ]
            refine wpAnyH_ready (rs := [14]) (by kernel_rfl) (by simp) ?_
            refine AllReadyH.cons rfl (fun K hK => ?_) AllReadyH.nil
            rw [if_pos (by rfl)]
            go_simp
            go_at_call 9
            refine (AZ.out p _ (HSX.out _ hb.out).2).mono ?_
            rintro e x1 ⟨rfl, hk⟩
            replace hb := Lib.hid (bnext hb.out (Nat.le_refl _) hk)
            clear hk
            refine hK.out _ _ (HSX.out _ hb.out).1 (fun hHeld => ?_)
            refine wpAnyH_take (i := 15) (v := ?_) rfl (by kernel_rfl) (by kernel_rfl) (by kernel_rfl) (fun _ _ _ h => h) (Or.inl ⟨rfl, ?_⟩) hHeld ?_
            rotate_left
            · intro w0 hS0
              try dsimp only at hS0
              go_simp
              try with_reducible rfl
            simp only [List.getElem_toArray, List.getElem_cons_zero, List.getElem_cons_succ, Act.put, List.setIfInBounds_toArray, List.set_cons_zero, List.set_cons_succ]
            refine wpAnyH_take (i := 16) (v := ?_) rfl (by kernel_rfl) (by kernel_rfl) (by kernel_rfl) (fun _ _ _ h => h) (Or.inl ⟨rfl, ?_⟩) hHeld ?_
            rotate_left
            · intro w0 hS0
              try dsimp only at hS0
              go_simp
              try with_reducible rfl
            simp only [List.getElem_toArray, List.getElem_cons_zero, List.getElem_cons_succ, Act.put, List.setIfInBounds_toArray, List.set_cons_zero, List.set_cons_succ]
            refine wpAnyH_take (i := 17) (v := ?_) rfl (by kernel_rfl) (by kernel_rfl) (by kernel_rfl) (fun _ _ _ h => h) (Or.inl ⟨rfl, ?_⟩) hHeld ?_
            rotate_left
            · intro w0 hS0
              try dsimp only at hS0
              go_simp
              try with_reducible rfl
            simp only [List.getElem_toArray, List.getElem_cons_zero, List.getElem_cons_succ, Act.put, List.setIfInBounds_toArray, List.set_cons_zero, List.set_cons_succ]
            refine wpAnyH_take (i := 18) (v := ?_) rfl (by kernel_rfl) (by kernel_rfl) (by kernel_rfl) (fun _ _ _ h => h) (Or.inl ⟨rfl, ?_⟩) hHeld ?_
            rotate_left
            · intro w0 hS0
              try dsimp only at hS0
              go_simp
              try with_reducible rfl
            simp only [List.getElem_toArray, List.getElem_cons_zero, List.getElem_cons_succ, Act.put, List.setIfInBounds_toArray, List.set_cons_zero, List.set_cons_succ]
            refine wpAnyH_take (i := 19) (v := ?_) rfl (by kernel_rfl) (by kernel_rfl) (by kernel_rfl) (fun _ _ _ h => h) (Or.inl ⟨rfl, ?_⟩) hHeld ?_
            rotate_left
            · intro w0 hS0
              try dsimp only at hS0
              go_simp
              try with_reducible rfl
            simp only [List.getElem_toArray, List.getElem_cons_zero, List.getElem_cons_succ, Act.put, List.setIfInBounds_toArray, List.set_cons_zero, List.set_cons_succ]
            refine wpAnyH_take (i := 20) (v := ?_) rfl (by kernel_rfl) (by kernel_rfl) (by kernel_rfl) (fun _ _ _ h => h) (Or.inl ⟨rfl, ?_⟩) hHeld ?_
            rotate_left
            · intro w0 hS0
              try dsimp only at hS0
              go_simp
              try with_reducible rfl
            simp only [List.getElem_toArray, List.getElem_cons_zero, List.getElem_cons_succ, Act.put, List.setIfInBounds_toArray, List.set_cons_zero, List.set_cons_succ]
            refine wpAnyH_take (i := 21) (v := ?_) rfl (by kernel_rfl) (by kernel_rfl) (by kernel_rfl) (fun _ _ _ h => h) (Or.inl ⟨rfl, ?_⟩) hHeld ?_
            rotate_left
            · intro w0 hS0
              try dsimp only at hS0
              go_simp
              try with_reducible rfl
            simp only [List.getElem_toArray, List.getElem_cons_zero, List.getElem_cons_succ, Act.put, List.setIfInBounds_toArray, List.set_cons_zero, List.set_cons_succ]
            refine wpAnyH_take (i := 22) (v := ?_) rfl (by kernel_rfl) (by kernel_rfl) (by kernel_rfl) (fun _ _ _ h => h) (Or.inl ⟨rfl, ?_⟩) hHeld ?_
            rotate_left
            · intro w0 hS0
              try dsimp only at hS0
              go_simp
              try with_reducible rfl
            simp only [List.getElem_toArray, List.getElem_cons_zero, List.getElem_cons_succ, Act.put, List.setIfInBounds_toArray, List.set_cons_zero, List.set_cons_succ]
            refine wpAnyH_take (i := 23) (v := ?_) rfl (by kernel_rfl) (by kernel_rfl) (by kernel_rfl) (fun _ _ _ h => h) (Or.inl ⟨rfl, ?_⟩) hHeld ?_
            rotate_left
            · intro w0 hS0
              try dsimp only at hS0
              go_simp
              try with_reducible rfl
            simp only [List.getElem_toArray, List.getElem_cons_zero, List.getElem_cons_succ, Act.put, List.setIfInBounds_toArray, List.set_cons_zero, List.set_cons_succ]
            refine wpAnyH_take (i := 24) (v := ?_) rfl (by kernel_rfl) (by kernel_rfl) (by kernel_rfl) (fun _ _ _ h => h) (Or.inl ⟨rfl, ?_⟩) hHeld ?_
            rotate_left
            · intro w0 hS0
              try dsimp only at hS0
              go_simp
              try with_reducible rfl
            simp only [List.getElem_toArray, List.getElem_cons_zero, List.getElem_cons_succ, Act.put, List.setIfInBounds_toArray, List.set_cons_zero, List.set_cons_succ]
            refine wpAnyH_ready (rs := [25]) (by kernel_rfl) (by simp) ?_
            refine AllReadyH.cons rfl (fun K hK => ?_) AllReadyH.nil
            rw [if_pos (by rfl)]
            go_simp
            go_at_call 11
            refine (nhas p knX _ (HSX.out _ hb.out).2 (by decide)).mono ?_
            rintro e x1 ⟨rfl, rfl⟩
            refine hK.out _ _ (HSX.out _ hb.out).1 (fun hHeld => ?_)
            refine wpAnyH_take (i := 26) (v := ?_) rfl (by kernel_rfl) (by kernel_rfl) (by kernel_rfl) (fun _ _ _ h => h) (Or.inl ⟨rfl, ?_⟩) hHeld ?_
            rotate_left
            · intro w0 hS0
              try dsimp only at hS0
              go_simp
              try with_reducible rfl
            simp only [List.getElem_toArray, List.getElem_cons_zero, List.getElem_cons_succ, Act.put, List.setIfInBounds_toArray, List.set_cons_zero, List.set_cons_succ]
            refine wpAnyH_take (i := 27) (v := ?_) rfl (by kernel_rfl) (by kernel_rfl) (by kernel_rfl) (fun _ _ _ h => h) (Or.inl ⟨rfl, ?_⟩) hHeld ?_
            rotate_left
            · intro w0 hS0
              try dsimp only at hS0
              go_simp
              try with_reducible rfl
            simp only [List.getElem_toArray, List.getElem_cons_zero, List.getElem_cons_succ, Act.put, List.setIfInBounds_toArray, List.set_cons_zero, List.set_cons_succ]
            refine wpAnyH_take (i := 28) (v := ?_) rfl (by kernel_rfl) (by kernel_rfl) (by kernel_rfl) (fun _ _ _ h => h) (Or.inl ⟨rfl, ?_⟩) hHeld ?_
            rotate_left
            · intro w0 hS0
              try dsimp only at hS0
              go_simp
              try with_reducible rfl
            simp only [List.getElem_toArray, List.getElem_cons_zero, List.getElem_cons_succ, Act.put, List.setIfInBounds_toArray, List.set_cons_zero, List.set_cons_succ]
            refine wpAnyH_take (i := 29) (v := ?_) rfl (by kernel_rfl) (by kernel_rfl) (by kernel_rfl) (fun _ _ _ h => h) (Or.inl ⟨rfl, ?_⟩) hHeld ?_
            rotate_left
            · intro w0 hS0
              try dsimp only at hS0
              go_simp
              try with_reducible rfl
            simp only [List.getElem_toArray, List.getElem_cons_zero, List.getElem_cons_succ, Act.put, List.setIfInBounds_toArray, List.set_cons_zero, List.set_cons_succ]
            refine wpAnyH_take (i := 30) (v := ?_) rfl (by kernel_rfl) (by kernel_rfl) (by kernel_rfl) (fun _ _ _ h => h) (Or.inl ⟨rfl, ?_⟩) hHeld ?_
            rotate_left
            · intro w0 hS0
              try dsimp only at hS0
              go_simp
              try with_reducible rfl
            simp only [List.getElem_toArray, List.getElem_cons_zero, List.getElem_cons_succ, Act.put, List.setIfInBounds_toArray, List.set_cons_zero, List.set_cons_succ]
            refine wpAnyH_take (i := 31) (v := ?_) rfl (by kernel_rfl) (by kernel_rfl) (by kernel_rfl) (fun _ _ _ h => h) (Or.inl ⟨rfl, ?_⟩) hHeld ?_
            rotate_left
            · intro w0 hS0
              try dsimp only at hS0
              go_simp
              try with_reducible rfl
            simp only [List.getElem_toArray, List.getElem_cons_zero, List.getElem_cons_succ, Act.put, List.setIfInBounds_toArray, List.set_cons_zero, List.set_cons_succ]
            refine wpAnyH_ready (rs := [32]) (by kernel_rfl) (by simp) ?_
            refine AllReadyH.cons rfl (fun K hK => ?_) AllReadyH.nil
            rw [if_pos (by rfl)]
            go_simp
            go_at_call 12
            refine (nconn p knX _ (HSX.out _ hb.out).2 (by decide)).mono ?_
            rintro e x1 ⟨rfl, rfl⟩
            refine hK.out _ _ (HSX.out _ hb.out).1 (fun hHeld => ?_)
            refine wpAnyH_take (i := 33) (v := ?_) rfl (by kernel_rfl) (by kernel_rfl) (by kernel_rfl) (fun _ _ _ h => h) (Or.inl ⟨rfl, ?_⟩) hHeld ?_
            rotate_left
            · intro w0 hS0
              try dsimp only at hS0
              go_simp
              try with_reducible rfl
            simp only [List.getElem_toArray, List.getElem_cons_zero, List.getElem_cons_succ, Act.put, List.setIfInBounds_toArray, List.set_cons_zero, List.set_cons_succ]
            refine wpAnyH_take (i := 34) (v := ?_) rfl (by kernel_rfl) (by kernel_rfl) (by kernel_rfl) (fun _ _ _ h => h) (Or.inl ⟨rfl, ?_⟩) hHeld ?_
            rotate_left
            · intro w0 hS0
              try dsimp only at hS0
              go_simp
              try with_reducible rfl
            simp only [List.getElem_toArray, List.getElem_cons_zero, List.getElem_cons_succ, Act.put, List.setIfInBounds_toArray, List.set_cons_zero, List.set_cons_succ]
            refine wpAnyH_take (i := 35) (v := ?_) rfl (by kernel_rfl) (by kernel_rfl) (by kernel_rfl) (fun _ _ _ h => h) (Or.inl ⟨rfl, ?_⟩) hHeld ?_
            rotate_left
            · intro w0 hS0
              try dsimp only at hS0
              go_simp
              try with_reducible rfl
            simp only [List.getElem_toArray, List.getElem_cons_zero, List.getElem_cons_succ, Act.put, List.setIfInBounds_toArray, List.set_cons_zero, List.set_cons_succ]
            refine wpAnyH_take (i := 36) (v := ?_) rfl (by kernel_rfl) (by kernel_rfl) (by kernel_rfl) (fun _ _ _ h => h) (Or.inl ⟨rfl, ?_⟩) hHeld ?_
            rotate_left
            · intro w0 hS0
              try dsimp only at hS0
              go_simp
              try with_reducible rfl
            simp only [List.getElem_toArray, List.getElem_cons_zero, List.getElem_cons_succ, Act.put, List.setIfInBounds_toArray, List.set_cons_zero, List.set_cons_succ]
            refine wpAnyH_take (i := 37) (v := ?_) rfl (by kernel_rfl) (by kernel_rfl) (by kernel_rfl) (fun _ _ _ h => h) (Or.inl ⟨rfl, ?_⟩) hHeld ?_
            rotate_left
            · intro w0 hS0
              try dsimp only at hS0
              go_simp
              try with_reducible rfl
            simp only [List.getElem_toArray, List.getElem_cons_zero, List.getElem_cons_succ, Act.put, List.setIfInBounds_toArray, List.set_cons_zero, List.set_cons_succ]
            refine wpAnyH_take (i := 38) (v := ?_) rfl (by kernel_rfl) (by kernel_rfl) (by kernel_rfl) (fun _ _ _ h => h) (Or.inl ⟨rfl, ?_⟩) hHeld ?_
            rotate_left
            · intro w0 hS0
              try dsimp only at hS0
              go_simp
              try with_reducible rfl
            simp only [List.getElem_toArray, List.getElem_cons_zero, List.getElem_cons_succ, Act.put, List.setIfInBounds_toArray, List.set_cons_zero, List.set_cons_succ]
            refine wpAnyH_take (i := 39) (v := ?_) rfl (by kernel_rfl) (by kernel_rfl) (by kernel_rfl) (fun _ _ _ h => h) (Or.inl ⟨rfl, ?_⟩) hHeld ?_
            rotate_left
            · intro w0 hS0
              try dsimp only at hS0
              go_simp
              try with_reducible rfl
            simp only [List.getElem_toArray, List.getElem_cons_zero, List.getElem_cons_succ, Act.put, List.setIfInBounds_toArray, List.set_cons_zero, List.set_cons_succ]
            refine wpAnyH_ready (rs := [40]) (by kernel_rfl) (by simp) ?_
            refine AllReadyH.cons rfl (fun K hK => ?_) AllReadyH.nil
            rw [if_pos (by rfl)]
            go_simp
            go_at_call 15
            refine (nlists p _ (HSX.out _ hb.out).2).mono ?_
            rintro e x1 ⟨rfl, hk⟩
            replace hb := Lib.hid (bnext hb.out (Nat.le_refl _) hk)
            clear hk
            refine hK.out _ _ (HSX.out _ hb.out).1 (fun hHeld => ?_)
            refine wpAnyH_take (i := 41) (v := ?_) rfl (by kernel_rfl) (by kernel_rfl) (by kernel_rfl) (fun _ _ _ h => h) (Or.inl ⟨rfl, ?_⟩) hHeld ?_
            rotate_left
            · intro w0 hS0
              try dsimp only at hS0
              go_simp
              try with_reducible rfl
            simp only [List.getElem_toArray, List.getElem_cons_zero, List.getElem_cons_succ, Act.put, List.setIfInBounds_toArray, List.set_cons_zero, List.set_cons_succ]
            refine wpAnyH_take (i := 42) (v := ?_) rfl (by kernel_rfl) (by kernel_rfl) (by kernel_rfl) (fun _ _ _ h => h) (Or.inl ⟨rfl, ?_⟩) hHeld ?_
            rotate_left
            · intro w0 hS0
              try dsimp only at hS0
              go_simp
              try with_reducible rfl
            simp only [List.getElem_toArray, List.getElem_cons_zero, List.getElem_cons_succ, Act.put, List.setIfInBounds_toArray, List.set_cons_zero, List.set_cons_succ]
            refine wpAnyH_take (i := 43) (v := ?_) rfl (by kernel_rfl) (by kernel_rfl) (by kernel_rfl) (fun _ _ _ h => h) (Or.inl ⟨rfl, ?_⟩) hHeld ?_
            rotate_left
            · intro w0 hS0
              try dsimp only at hS0
              go_simp
              try with_reducible rfl
            simp only [List.getElem_toArray, List.getElem_cons_zero, List.getElem_cons_succ, Act.put, List.setIfInBounds_toArray, List.set_cons_zero, List.set_cons_succ]
            refine wpAnyH_take (i := 44) (v := ?_) rfl (by kernel_rfl) (by kernel_rfl) (by kernel_rfl) (fun _ _ _ h => h) (Or.inl ⟨rfl, ?_⟩) hHeld ?_
            rotate_left
            · intro w0 hS0
              try dsimp only at hS0
              go_simp
              try with_reducible rfl
            simp only [List.getElem_toArray, List.getElem_cons_zero, List.getElem_cons_succ, Act.put, List.setIfInBounds_toArray, List.set_cons_zero, List.set_cons_succ]
            refine wpAnyH_take (i := 45) (v := ?_) rfl (by kernel_rfl) (by kernel_rfl) (by kernel_rfl) (fun _ _ _ h => h) (Or.inl ⟨rfl, ?_⟩) hHeld ?_
            rotate_left
            · intro w0 hS0
              try dsimp only at hS0
              go_simp
              try with_reducible rfl
            simp only [List.getElem_toArray, List.getElem_cons_zero, List.getElem_cons_succ, Act.put, List.setIfInBounds_toArray, List.set_cons_zero, List.set_cons_succ]
            refine wpAnyH_take (i := 46) (v := ?_) rfl (by kernel_rfl) (by kernel_rfl) (by kernel_rfl) (fun _ _ _ h => h) (Or.inl ⟨rfl, ?_⟩) hHeld ?_
            rotate_left
            · intro w0 hS0
              try dsimp only at hS0
              go_simp
              try with_reducible rfl
            simp only [List.getElem_toArray, List.getElem_cons_zero, List.getElem_cons_succ, Act.put, List.setIfInBounds_toArray, List.set_cons_zero, List.set_cons_succ]
            refine wpAnyH_take (i := 47) (v := ?_) rfl (by kernel_rfl) (by kernel_rfl) (by kernel_rfl) (fun _ _ _ h => h) (Or.inl ⟨rfl, ?_⟩) hHeld ?_
            rotate_left
            · intro w0 hS0
              try dsimp only at hS0
              go_simp
              try with_reducible rfl
            simp only [List.getElem_toArray, List.getElem_cons_zero, List.getElem_cons_succ, Act.put, List.setIfInBounds_toArray, List.set_cons_zero, List.set_cons_succ]
            refine wpAnyH_take (i := 48) (v := ?_) rfl (by kernel_rfl) (by kernel_rfl) (by kernel_rfl) (fun _ _ _ h => h) (Or.inl ⟨rfl, ?_⟩) hHeld ?_
            rotate_left
            · intro w0 hS0
              try dsimp only at hS0
              go_simp
              try with_reducible rfl
            simp only [List.getElem_toArray, List.getElem_cons_zero, List.getElem_cons_succ, Act.put, List.setIfInBounds_toArray, List.set_cons_zero, List.set_cons_succ]
            refine wpAnyH_ready (rs := [49]) (by kernel_rfl) (by simp) ?_
            refine AllReadyH.cons rfl (fun K hK => ?_) AllReadyH.nil
            rw [if_pos (by rfl)]
            go_simp
            go_at_call 13
            refine (nkept p _ (HSX.out _ hb.out).2).mono ?_
            rintro e x1 ⟨rfl, rfl⟩
            refine hK.out _ _ (HSX.out _ hb.out).1 (fun hHeld => ?_)
            refine wpAnyH_take (i := 50) (v := ?_) rfl (by kernel_rfl) (by kernel_rfl) (by kernel_rfl) (fun _ _ _ h => h) (Or.inl ⟨rfl, ?_⟩) hHeld ?_
            rotate_left
            · intro w0 hS0
              try dsimp only at hS0
              go_simp
              try with_reducible rfl
            simp only [List.getElem_toArray, List.getElem_cons_zero, List.getElem_cons_succ, Act.put, List.setIfInBounds_toArray, List.set_cons_zero, List.set_cons_succ]
            refine wpAnyH_take (i := 51) (v := ?_) rfl (by kernel_rfl) (by kernel_rfl) (by kernel_rfl) (fun _ _ _ h => h) (Or.inl ⟨rfl, ?_⟩) hHeld ?_
            rotate_left
            · intro w0 hS0
              try dsimp only at hS0
              go_simp
              try with_reducible rfl
            simp only [List.getElem_toArray, List.getElem_cons_zero, List.getElem_cons_succ, Act.put, List.setIfInBounds_toArray, List.set_cons_zero, List.set_cons_succ]
            refine wpAnyH_take (i := 52) (v := ?_) rfl (by kernel_rfl) (by kernel_rfl) (by kernel_rfl) (fun _ _ _ h => h) (Or.inl ⟨rfl, ?_⟩) hHeld ?_
            rotate_left
            · intro w0 hS0
              try dsimp only at hS0
              go_simp
              try with_reducible rfl
            simp only [List.getElem_toArray, List.getElem_cons_zero, List.getElem_cons_succ, Act.put, List.setIfInBounds_toArray, List.set_cons_zero, List.set_cons_succ]
            refine wpAnyH_done (by kernel_rfl) ?_ _
            replace HA := Lib.hid (HA.out.below hb.out)
            clear hHeld
            go_wp2_with fail
            go_roundw
            case rel => exact ⟨j + 1, by go_num, by omega, HA⟩
            case measure => simp [intOf]; omega
          · have hjl : ¬ (j : Int) < 2 := by omega
            clear hlt hj
            go_wp2_with fail
            refine (awake_true _ (HA.out.mo.tabs HT.out)).mono ?_
            rintro e x2 ⟨rfl, hk⟩
            have HZ := Lib.hid (bnext HA.out.mo.bel (Nat.le_refl _) hk)
            clear hk
            go_wp2_with fail
            go_ret
            exact ⟨rfl, HZ.out⟩
end Go.Proofs.YthfeckndkmhieaaGreatDoor
