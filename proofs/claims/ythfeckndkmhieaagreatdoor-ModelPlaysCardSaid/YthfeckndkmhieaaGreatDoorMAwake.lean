/- The model's laws: awake walked. (Printed by gen_maw.py.) -/
import Derived.Test.YthfeckndkmhieaaGreatDoorQP
namespace Go.Proofs.YthfeckndkmhieaaGreatDoor
open Go Go.RowKit Go.Maps

def aN1 : Note := doesN ⟨#[120]⟩ 1 (pk0 1)
theorem aN1_go : applyM aN1 MS.new = (([], false, true), ⟨[([120], ⟨[], 1, false⟩)], []⟩) := by kernel_rfl
theorem aN1_ok : NoteOk aN1 := noteOk_of (by kernel_rfl)
def aN2 (b : Nat) : Note := doesN ⟨#[120]⟩ 1 (pkOf 8 false (some ⟨b, 0, none⟩) 2 [([97], 1), ([98, 35], 0)])
theorem aN2_go (b : Nat) : applyM (aN2 b) ⟨[([120], ⟨[], 1, false⟩)], []⟩ = (([1, 128], false, true), ⟨[([120], ⟨[([97], 1)], 1, false⟩)], []⟩) := by kernel_rfl
theorem aN2_ok (b : Nat) : NoteOk (aN2 b) := noteOk_of (by kernel_rfl)
def aN3 : Note := doesN ⟨#[120]⟩ 2 (pk0 1)
theorem aN3_go : applyM aN3 ⟨[([120], ⟨[([97], 1)], 1, false⟩)], []⟩ = (([], false, false), ⟨[([120], ⟨[([97], 1)], 1, false⟩)], []⟩) := by kernel_rfl
theorem aN3_ok : NoteOk aN3 := noteOk_of (by kernel_rfl)
def aN4 : Note := doesN ⟨#[120]⟩ 1 (pk0 0)
theorem aN4_go : applyM aN4 ⟨[([120], ⟨[([97], 1)], 1, false⟩)], []⟩ = (([], false, true), ⟨[([120], ⟨[([97], 1)], 0, false⟩)], []⟩) := by kernel_rfl
theorem aN4_ok : NoteOk aN4 := noteOk_of (by kernel_rfl)
def aN5 : Note := doesN ⟨#[120]⟩ 2 (pk0 1)
theorem aN5_go : applyM aN5 ⟨[([120], ⟨[([97], 1)], 0, false⟩)], []⟩ = (([], true, true), ⟨[([120], ⟨[([97], 1)], 2, false⟩)], []⟩) := by kernel_rfl
theorem aN5_ok : NoteOk aN5 := noteOk_of (by kernel_rfl)
def aN6 : Note := doesN ⟨#[120]⟩ 2 (pk0 14)
theorem aN6_go : applyM aN6 ⟨[([120], ⟨[([97], 1)], 2, false⟩)], []⟩ = (([], false, true), ⟨[([120], ⟨[([97], 1)], 0, false⟩)], []⟩) := by kernel_rfl
theorem aN6_ok : NoteOk aN6 := noteOk_of (by kernel_rfl)
def aN7 : Note := doesN ⟨#[120]⟩ 3 (pkOf 1 true none 0 [])
theorem aN7_go : applyM aN7 ⟨[([120], ⟨[([97], 1)], 0, false⟩)], []⟩ = (([], false, true), ⟨[([120], ⟨[], 3, true⟩)], []⟩) := by kernel_rfl
theorem aN7_ok : NoteOk aN7 := noteOk_of (by kernel_rfl)
def aN8 : Note := doesN ⟨#[120]⟩ 3 (pk0 0)
theorem aN8_go : applyM aN8 ⟨[([120], ⟨[], 3, true⟩)], []⟩ = (([], false, true), ⟨[], []⟩) := by kernel_rfl
theorem aN8_ok : NoteOk aN8 := noteOk_of (by kernel_rfl)
def aN9 : Note := keepsN 5 0 ⟨#[]⟩ ⟨⟨#[116]⟩, ⟨#[112]⟩, 0, false⟩
theorem aN9_go : applyM aN9 ⟨[], []⟩ = (([], false, true), ⟨[], [⟨⟨#[116]⟩, ⟨#[112]⟩, 0, true⟩]⟩) := by kernel_rfl
theorem aN9_ok : NoteOk aN9 := noteOk_of (by kernel_rfl)
theorem aw_best : bestOf [97] (lookS [120] (⟨[([120], ⟨[([97], 1)], 2, false⟩)], []⟩ : MS).seats) = (1, true) := by kernel_rfl
theorem aw_lists : listsM (⟨[([120], ⟨[([97], 1)], 2, false⟩)], []⟩ : MS).seats = [([97], [120])] := by kernel_rfl
theorem aw_lists0 : listsM (⟨[([120], ⟨[], 3, true⟩)], []⟩ : MS).seats = [] := by kernel_rfl

set_option maxRecDepth 100000 in
set_option maxHeartbeats 8000000 in
theorem awake_true (w : World) (hT : Tabs w) : Calls Tryz.prog 16 #[] w fun e w' => e = .returned (.bool true) ∧ Below w.heap.size w w' := by
  have HT := Lib.hid hT
  have HNEW := Lib.hid (mnew_x w w (Below.refl _ _))
  clear hT
  go_enter Tryz.func16, Tryz.ntmps16
  go_wp2_with fail
  refine HNEW.out.mono ?_
  rintro e w1 ⟨m, F, rfl, hM, -⟩
  have HA := Lib.hid (Aw.start hM)
  clear hM HNEW
  have HP1 := Lib.hid (built_pk0 1)
  have HP14 := Lib.hid (built_pk0 14)
  have HPC := Lib.hid (built_pkc 1)
  have HPZ := Lib.hid built_pkz
  have HPS := Lib.hid (built_pks 8 (some ⟨w1.heap.size + 1 + 1, 0, none⟩) 2 2 [([97], 1), ([98, 35], 0)] rfl)
  have Z1 := Lib.hid (pk_size (pk0 1))
  have Z14 := Lib.hid (pk_size (pk0 14))
  have ZC := Lib.hid (pk_size (pkOf 1 true none 0 []))
  have ZZ := Lib.hid (pk_size (pk0 0))
  have ZS := Lib.hid (pk_size (pkOf 8 false (some ⟨w1.heap.size + 1 + 1, 0, none⟩) 2 [([97], 1), ([98, 35], 0)]))
  have Y1 := Lib.hid (pk_size24 (pk0 1))
  have YC := Lib.hid (pk_size24 (pkOf 1 true none 0 []))
  have YS := Lib.hid (pk_size24 (pkOf 8 false (some ⟨w1.heap.size + 1 + 1, 0, none⟩) 2 [([97], 1), ([98, 35], 0)]))
  have O1 := Lib.hid (pk_one (pk0 1))
  have OC := Lib.hid (pk_one (pkOf 1 true none 0 []))
  have OS := Lib.hid (pk_one (pkOf 8 false (some ⟨w1.heap.size + 1 + 1, 0, none⟩) 2 [([97], 1), ([98, 35], 0)]))
  have D1 : Hid (∀ v, Calls Tryz.prog 10 #[.string ⟨#[120]⟩, .int .i64 1, .agg (pk0 1).cells.toArray] v fun e w' => e = .returned (.agg aN1.cells.toArray) ∧ Below v.heap.size v w') := Lib.hid (fun v => does_any ⟨#[120]⟩ 1 (pk0 1) v)
  have D2 : Hid (∀ v, Calls Tryz.prog 10 #[.string ⟨#[120]⟩, .int .i64 1, .agg (pkOf 8 false (some ⟨w1.heap.size + 1 + 1, 0, none⟩) 2 [([97], 1), ([98, 35], 0)]).cells.toArray] v fun e w' => e = .returned (.agg (aN2 (w1.heap.size + 1 + 1)).cells.toArray) ∧ Below v.heap.size v w') := Lib.hid (fun v => does_any ⟨#[120]⟩ 1 (pkOf 8 false (some ⟨w1.heap.size + 1 + 1, 0, none⟩) 2 [([97], 1), ([98, 35], 0)]) v)
  have D3 : Hid (∀ v, Calls Tryz.prog 10 #[.string ⟨#[120]⟩, .int .i64 2, .agg (pk0 1).cells.toArray] v fun e w' => e = .returned (.agg aN3.cells.toArray) ∧ Below v.heap.size v w') := Lib.hid (fun v => does_any ⟨#[120]⟩ 2 (pk0 1) v)
  have D4 : Hid (∀ v, Calls Tryz.prog 10 #[.string ⟨#[120]⟩, .int .i64 1, .agg (pk0 0).cells.toArray] v fun e w' => e = .returned (.agg aN4.cells.toArray) ∧ Below v.heap.size v w') := Lib.hid (fun v => does_any ⟨#[120]⟩ 1 (pk0 0) v)
  have D5 : Hid (∀ v, Calls Tryz.prog 10 #[.string ⟨#[120]⟩, .int .i64 2, .agg (pk0 1).cells.toArray] v fun e w' => e = .returned (.agg aN5.cells.toArray) ∧ Below v.heap.size v w') := Lib.hid (fun v => does_any ⟨#[120]⟩ 2 (pk0 1) v)
  have D6 : Hid (∀ v, Calls Tryz.prog 10 #[.string ⟨#[120]⟩, .int .i64 2, .agg (pk0 14).cells.toArray] v fun e w' => e = .returned (.agg aN6.cells.toArray) ∧ Below v.heap.size v w') := Lib.hid (fun v => does_any ⟨#[120]⟩ 2 (pk0 14) v)
  have D7 : Hid (∀ v, Calls Tryz.prog 10 #[.string ⟨#[120]⟩, .int .i64 3, .agg (pkOf 1 true none 0 []).cells.toArray] v fun e w' => e = .returned (.agg aN7.cells.toArray) ∧ Below v.heap.size v w') := Lib.hid (fun v => does_any ⟨#[120]⟩ 3 (pkOf 1 true none 0 []) v)
  have D8 : Hid (∀ v, Calls Tryz.prog 10 #[.string ⟨#[120]⟩, .int .i64 3, .agg (pk0 0).cells.toArray] v fun e w' => e = .returned (.agg aN8.cells.toArray) ∧ Below v.heap.size v w') := Lib.hid (fun v => does_any ⟨#[120]⟩ 3 (pk0 0) v)
  have A1 := Lib.hid (fun n F L v h hn hr => applies_a true n m aN1 _ _ _ w F L v ⟨#[]⟩ false true (h : Aw w v n m MS.new F L) HT.out (aN1_ok) hr hn (aN1_go) (by kernel_rfl))
  have A2 := Lib.hid (fun n F L v h hn hr => applies_a true n m (aN2 (w1.heap.size + 1 + 1)) _ _ _ w F L v ⟨#[1, 128]⟩ false true (h : Aw w v n m ⟨[([120], ⟨[], 1, false⟩)], []⟩ F L) HT.out (aN2_ok (w1.heap.size + 1 + 1)) hr hn (aN2_go (w1.heap.size + 1 + 1)) (by kernel_rfl))
  have A3 := Lib.hid (fun n F L v h hn hr => applies_a true n m aN3 _ _ _ w F L v ⟨#[]⟩ false false (h : Aw w v n m ⟨[([120], ⟨[([97], 1)], 1, false⟩)], []⟩ F L) HT.out (aN3_ok) hr hn (aN3_go) (by kernel_rfl))
  have A4 := Lib.hid (fun n F L v h hn hr => applies_a true n m aN4 _ _ _ w F L v ⟨#[]⟩ false true (h : Aw w v n m ⟨[([120], ⟨[([97], 1)], 1, false⟩)], []⟩ F L) HT.out (aN4_ok) hr hn (aN4_go) (by kernel_rfl))
  have A5 := Lib.hid (fun n F L v h hn hr => applies_a true n m aN5 _ _ _ w F L v ⟨#[]⟩ true true (h : Aw w v n m ⟨[([120], ⟨[([97], 1)], 0, false⟩)], []⟩ F L) HT.out (aN5_ok) hr hn (aN5_go) (by kernel_rfl))
  have A6 := Lib.hid (fun n F L v h hn hr => applies_a true n m aN6 _ _ _ w F L v ⟨#[]⟩ false true (h : Aw w v n m ⟨[([120], ⟨[([97], 1)], 2, false⟩)], []⟩ F L) HT.out (aN6_ok) hr hn (aN6_go) (by kernel_rfl))
  have A7 := Lib.hid (fun n F L v h hn hr => applies_a true n m aN7 _ _ _ w F L v ⟨#[]⟩ false true (h : Aw w v n m ⟨[([120], ⟨[([97], 1)], 0, false⟩)], []⟩ F L) HT.out (aN7_ok) hr hn (aN7_go) (by kernel_rfl))
  have A8 := Lib.hid (fun n F L v h hn hr => applies_a true n m aN8 _ _ _ w F L v ⟨#[]⟩ false true (h : Aw w v n m ⟨[([120], ⟨[], 3, true⟩)], []⟩ F L) HT.out (aN8_ok) hr hn (aN8_go) (by kernel_rfl))
  have A9 := Lib.hid (fun n F L v h hn hr => applies_a true n m aN9 _ _ _ w F L v ⟨#[]⟩ false true (h : Aw w v n m ⟨[], []⟩ F L) HT.out (aN9_ok) hr hn (aN9_go) (by kernel_rfl))
  have HN9 : Hid (Tryz.prog.built 32 [(0, .int .u8 5), (5, .agg #[.string ⟨#[116]⟩, .string ⟨#[112]⟩, .int .u8 0, .bool false])] = some aN9.cells.toArray) := Lib.hid (built_keeps 5 ⟨⟨#[116]⟩, ⟨#[112]⟩, 0, false⟩)
  generalize (pkOf 8 false (some ⟨w1.heap.size + 1 + 1, 0, none⟩) 2 [([97], 1), ([98, 35], 0)]).cells.toArray = PS at *
  generalize (pk0 1).cells.toArray = P1 at *
  generalize (pk0 14).cells.toArray = P14 at *
  generalize (pk0 0).cells.toArray = PZ at *
  generalize (pkOf 1 true none 0 []).cells.toArray = PC at *
  generalize aN1.cells.toArray = N1 at *
  generalize (aN2 (w1.heap.size + 1 + 1)).cells.toArray = N2 at *
  generalize aN3.cells.toArray = N3 at *
  generalize aN4.cells.toArray = N4 at *
  generalize aN5.cells.toArray = N5 at *
  generalize aN6.cells.toArray = N6 at *
  generalize aN7.cells.toArray = N7 at *
  generalize aN8.cells.toArray = N8 at *
  generalize aN9.cells.toArray = N9 at *
  replace HA := Lib.hid ((((HA.out.alloc w1.heap.size rfl P1 29).alloc (w1.heap.size + 1) (by simp) PC 29).alloc (w1.heap.size + 1 + 1) (by simp) #[.string ⟨#[97]⟩, .int .u8 1, .string ⟨#[98, 35]⟩, .int .u8 0] 39).alloc (w1.heap.size + 1 + 1 + 1) (by simp) PS 29)
  obtain ⟨L, hL⟩ : ∃ L : List (Nat × Obj), L = [(w1.heap.size + 1 + 1 + 1, .cells PS 29), (w1.heap.size + 1 + 1, .cells #[.string ⟨#[97]⟩, .int .u8 1, .string ⟨#[98, 35]⟩, .int .u8 0] 39), (w1.heap.size + 1, .cells PC 29), (w1.heap.size, .cells P1 29)] := ⟨_, rfl⟩
  rw [← hL] at HA
  have M2 : Hid ((w1.heap.size, Obj.cells P1 29) ∈ L) := Lib.hid (by rw [hL]; simp)
  have M3 : Hid ((w1.heap.size + 1, Obj.cells PC 29) ∈ L) := Lib.hid (by rw [hL]; simp)
  have M4 : Hid ((w1.heap.size + 1 + 1 + 1, Obj.cells PS 29) ∈ L) := Lib.hid (by rw [hL]; simp)
  have MR : Hid ((w1.heap.size + 1 + 1, Obj.cells #[.string ⟨#[97]⟩, .int .u8 1, .string ⟨#[98, 35]⟩, .int .u8 0] 39) ∈ L) := Lib.hid (by rw [hL]; simp)
  clear hL
  go_wp2_with (first | (refine wpList_buildG (by kernel_rfl) 29 #[(0, .const (.int .u8 1))] rfl _ rfl P1 [(0, .int .u8 1)] (by kernel_rfl) HP1.out ?_) | (refine wpList_buildG (by kernel_rfl) 29 #[(0, .const (.int .u8 1)), (8, .const (.bool true))] rfl _ rfl PC [(0, .int .u8 1), (8, .bool true)] (by kernel_rfl) HPC.out ?_) | (refine wpList_buildG (by kernel_rfl) 29 #[(0, .const (.int .u8 8)), (19, .tmp _)] rfl _ rfl PS [(0, .int .u8 8), (19, .slice (some ⟨w1.heap.size + 1 + 1, 0, none⟩) 2 2)] (by kernel_rfl) HPS.out ?_) | (refine wpList_store_newTo rfl 29 _ _ rfl rfl _ (by simp) P1 _ rfl rfl Z1.out Y1.out O1.out ?_) | (refine wpList_store_newTo rfl 29 _ _ rfl rfl _ (by simp) PC _ rfl rfl ZC.out YC.out OC.out ?_) | (refine wpList_store_newTo rfl 29 _ _ rfl rfl _ (by simp) PS _ rfl rfl ZS.out YS.out OS.out ?_) | (refine wpList_loadG (by kernel_rfl) 29 _ rfl (w1.heap.size) rfl 29 P1 _ _ (HA.out.held _ M2.out).1 Tryz.underlying29 rfl Z1.out ?_) | fail)
  generalize ((((w1.alloc (.cells P1 29)).alloc (.cells PC 29)).alloc (.cells #[.string ⟨#[97]⟩, .int .u8 1, .string ⟨#[98, 35]⟩, .int .u8 0] 39)).alloc (.cells PS 29)) = v0 at *
  refine (D1.out _).mono ?_
  rintro e v1 ⟨rfl, hk⟩
  replace HA := Lib.hid (HA.out.below hk)
  clear hk
  go_wp2_with (first | fail)
  refine (A1.out 0 _ L _ HA.out (by decide) (.inl rfl)).mono ?_
  rintro e v2 ⟨rfl, F2, hA2⟩
  replace HA := Lib.hid hA2
  clear hA2
  go_wp2_with (first | (refine wpList_loadG (by kernel_rfl) 29 _ rfl (w1.heap.size + 1 + 1 + 1) rfl 29 PS _ _ (HA.out.held _ M4.out).1 Tryz.underlying29 rfl ZS.out ?_) | fail)
  refine (D2.out _).mono ?_
  rintro e v1 ⟨rfl, hk⟩
  replace HA := Lib.hid (HA.out.below hk)
  clear hk
  go_wp2_with (first | fail)
  refine (A2.out 1 _ L _ HA.out (by decide) (HA.out.row MR.out rfl)).mono ?_
  rintro e v2 ⟨rfl, F2, hA2⟩
  replace HA := Lib.hid hA2
  clear hA2
  go_wp2_with (first | (refine wpList_loadG (by kernel_rfl) 29 _ rfl (w1.heap.size) rfl 29 P1 _ _ (HA.out.held _ M2.out).1 Tryz.underlying29 rfl Z1.out ?_) | fail)
  refine (D3.out _).mono ?_
  rintro e v1 ⟨rfl, hk⟩
  replace HA := Lib.hid (HA.out.below hk)
  clear hk
  go_wp2_with (first | fail)
  refine (A3.out 2 _ L _ HA.out (by decide) (.inl rfl)).mono ?_
  rintro e v2 ⟨rfl, F2, hA2⟩
  replace HA := Lib.hid hA2
  clear hA2
  go_wp2_with (first | (refine wpList_buildG (by kernel_rfl) 29 #[] rfl _ rfl PZ [] (by kernel_rfl) HPZ.out ?_) | fail)
  refine (D4.out _).mono ?_
  rintro e v1 ⟨rfl, hk⟩
  replace HA := Lib.hid (HA.out.below hk)
  clear hk
  go_wp2_with (first | fail)
  refine (A4.out 3 _ L _ HA.out (by decide) (.inl rfl)).mono ?_
  rintro e v2 ⟨rfl, F2, hA2⟩
  replace HA := Lib.hid hA2
  clear hA2
  go_wp2_with (first | (refine wpList_loadG (by kernel_rfl) 29 _ rfl (w1.heap.size) rfl 29 P1 _ _ (HA.out.held _ M2.out).1 Tryz.underlying29 rfl Z1.out ?_) | fail)
  refine (D5.out _).mono ?_
  rintro e v1 ⟨rfl, hk⟩
  replace HA := Lib.hid (HA.out.below hk)
  clear hk
  go_wp2_with (first | fail)
  refine (A5.out 4 _ L _ HA.out (by decide) (.inl rfl)).mono ?_
  rintro e v2 ⟨rfl, F2, hA2⟩
  replace HA := Lib.hid hA2
  clear hA2
  go_wp2_with (first | fail)
  refine (mbest_x 1 true 5 m _ ⟨#[120]⟩ ⟨#[97]⟩ w _ _ HA.out.mo HT.out (by decide) (by decide) aw_best).mono ?_
  rintro e v1 ⟨rfl, hk⟩
  replace HA := Lib.hid (HA.out.below hk)
  clear hk
  go_wp2_with fail
  refine (mlists_x 5 m _ [([97], [120])] w _ _ HA.out.mo (by decide) aw_lists).mono ?_
  rintro e v2 ⟨a, c, rfl, -, hB, hk⟩
  replace HA := Lib.hid (HA.out.below hk)
  have HB := Lib.hid hB.row
  clear hk hB
  go_wp2_with fail
  have hb3 := low_alloc v2 (.cells (hintsV [([97], [120])]).toArray 65)
  refine (sameH_any true a (some ⟨v2.heap.size, 0, none⟩) c 1 [([97], [120])] [([97], [120])] (v2.alloc (.cells (hintsV [([97], [120])]).toArray 65)) (HB.out.below hb3 (Nat.le_refl _)) (row_new v2 (hintsV [([97], [120])]) 65) (by decide) (by decide)).mono ?_
  rintro e v3 ⟨rfl, nd, rfl⟩
  replace HA := Lib.hid ((HA.out.below hb3).drewN nd)
  clear hb3 HB
  generalize (v2.alloc (.cells (hintsV [([97], [120])]).toArray 65)).drewN nd = v4 at *
  go_wp2_with fail
  refine (mconn_x 2 5 m _ ⟨#[120]⟩ w _ _ HA.out.mo (by decide) (by kernel_rfl)).mono ?_
  rintro e v5 ⟨rfl, rfl⟩
  go_wp2_with (first | (refine wpList_buildG (by kernel_rfl) 29 #[(0, .const (.int .u8 14))] rfl _ rfl P14 [(0, .int .u8 14)] (by kernel_rfl) HP14.out ?_) | fail)
  refine (D6.out _).mono ?_
  rintro e v1 ⟨rfl, hk⟩
  replace HA := Lib.hid (HA.out.below hk)
  clear hk
  go_wp2_with (first | fail)
  refine (A6.out 5 _ L _ HA.out (by decide) (.inl rfl)).mono ?_
  rintro e v2 ⟨rfl, F2, hA2⟩
  replace HA := Lib.hid hA2
  clear hA2
  go_wp2_with (first | (refine wpList_loadG (by kernel_rfl) 29 _ rfl (w1.heap.size + 1) rfl 29 PC _ _ (HA.out.held _ M3.out).1 Tryz.underlying29 rfl ZC.out ?_) | fail)
  refine (D7.out _).mono ?_
  rintro e v1 ⟨rfl, hk⟩
  replace HA := Lib.hid (HA.out.below hk)
  clear hk
  go_wp2_with (first | fail)
  refine (A7.out 6 _ L _ HA.out (by decide) (.inl rfl)).mono ?_
  rintro e v2 ⟨rfl, F2, hA2⟩
  replace HA := Lib.hid hA2
  clear hA2
  go_wp2_with (first | fail)
  refine (mlists_x 7 m _ [] w _ _ HA.out.mo (by decide) aw_lists0).mono ?_
  rintro e v6 ⟨a2, c2, rfl, -, -, hk⟩
  replace HA := Lib.hid (HA.out.below hk)
  clear hk
  go_wp2_with (first | (refine wpList_buildG (by kernel_rfl) 29 #[] rfl _ rfl PZ [] (by kernel_rfl) HPZ.out ?_) | fail)
  refine (D8.out _).mono ?_
  rintro e v1 ⟨rfl, hk⟩
  replace HA := Lib.hid (HA.out.below hk)
  clear hk
  go_wp2_with (first | fail)
  refine (A8.out 7 _ L _ HA.out (by decide) (.inl rfl)).mono ?_
  rintro e v2 ⟨rfl, F2, hA2⟩
  replace HA := Lib.hid hA2
  clear hA2
  go_wp2_with (first | fail)
  refine (mhas_x false 8 m _ ⟨#[120]⟩ w _ _ HA.out.mo (by decide) (by kernel_rfl)).mono ?_
  rintro e v7 ⟨rfl, rfl⟩
  go_wp2_with (first | (refine wpList_store_newTo rfl 26 _ _ rfl rfl _ rfl #[.string ⟨#[116]⟩, .string ⟨#[112]⟩, .int .u8 0, .bool false] _ rfl rfl (by kernel_rfl) rfl rfl ?_) | (refine wpList_loadG (by kernel_rfl) 26 _ rfl _ rfl 26 #[.string ⟨#[116]⟩, .string ⟨#[112]⟩, .int .u8 0, .bool false] _ _ (heap_alloc_new _ _) Tryz.underlying26 rfl (by kernel_rfl) ?_) | (refine wpList_buildG (by kernel_rfl) 32 #[(0, .const (.int .u8 5)), (5, .tmp _)] rfl _ rfl N9 [(0, .int .u8 5), (5, .agg #[.string ⟨#[116]⟩, .string ⟨#[112]⟩, .int .u8 0, .bool false])] (by kernel_rfl) HN9.out ?_) | fail)
  have hsz2 : w.heap.size ≤ v2.heap.size := HA.out.mo.bel.size
  replace HA := Lib.hid (HA.out.alloc _ rfl #[.string ⟨#[116]⟩, .string ⟨#[112]⟩, .int .u8 0, .bool false] 26)
  refine (A9.out 8 _ _ _ HA.out (by decide) (.inl rfl)).mono ?_
  rintro e v8 ⟨rfl, F8, hA8⟩
  obtain ⟨hb8, hnF⟩ := hA8.held _ (List.mem_cons_self ..)
  have hlt8 := (Array.getElem?_eq_some_iff.1 hb8).1
  have hmod : Upd [v2.heap.size] [v2.heap.size] v8 (v8.setCell ⟨v2.heap.size, 3, none⟩ (.bool true)) := ⟨(Mod.refl _ _).setCell (p := ⟨v2.heap.size, 3, none⟩) (.inl (by simp)) _, fun _ h => .inl h⟩
  have HM := Lib.hid (hA8.mo.mod hmod (fun k hk he => hnF (by rw [List.mem_singleton.1 he] at hk; exact hk)) (fun k hk => by rw [List.mem_singleton.1 hk]; exact hsz2))
  have hset := heap_setCell_same v8 v2.heap.size 3 _ _ (.bool true) hb8
  obtain ⟨-, -, -, f3⟩ := free4 hb8
  obtain ⟨-, -, -, e3⟩ := cells4 hb8
  obtain ⟨c0, c1, c2, c3⟩ := cells4 hset
  clear hA8 hset hb8 hmod hnF HA
  go_wp2_with fail
  generalize v2.heap.size = b7 at *
  have hlt9 : b7 < (v8.setCell ⟨b7, 3, none⟩ (.bool true)).heap.size := World.block_lt_of_cell? _ _ c0
  generalize v8.setCell ⟨b7, 3, none⟩ (.bool true) = v9 at *
  clear f3 e3
  refine wp_region_held_drew (S := fun X => X.cell? ⟨b7, 0, none⟩ = some (.string ⟨#[116]⟩) ∧ X.cell? ⟨b7, 1, none⟩ = some (.string ⟨#[112]⟩) ∧ X.cell? ⟨b7, 2, none⟩ = some (.int .u8 0) ∧ X.cell? ⟨b7, 3, none⟩ = some (.bool true)) (by kernel_rfl) ⟨c0, c1, c2, c3⟩ (fun hHeld => ?_)
  refine wpAnyH_take (i := 0) (v := ?_) rfl (by kernel_rfl) (by kernel_rfl) (by kernel_rfl) (fun _ _ _ h => h) (Or.inl ⟨rfl, ?_⟩) hHeld ?_
  rotate_left
  · intro w0 hS0
    try dsimp only at hS0
    go_simp
    try with_reducible rfl
  simp only [List.getElem_toArray, List.getElem_cons_zero, Act.put, List.setIfInBounds_toArray, List.set_cons_zero, List.set_cons_succ]
  refine wpAnyH_take (i := 2) (v := ?_) rfl (by kernel_rfl) (by kernel_rfl) (by kernel_rfl) (fun _ _ _ h => h) (Or.inl ⟨rfl, ?_⟩) hHeld ?_
  rotate_left
  · intro w0 hS0
    try dsimp only at hS0
    go_simp
    try with_reducible rfl
  simp only [List.getElem_toArray, List.getElem_cons_zero, List.getElem_cons_succ, Act.put, List.setIfInBounds_toArray, List.set_cons_zero, List.set_cons_succ]
  have hS : ∀ X : World, Below v9.heap.size v9 X → X.cell? ⟨b7, 0, none⟩ = some (.string ⟨#[116]⟩) ∧ X.cell? ⟨b7, 1, none⟩ = some (.string ⟨#[112]⟩) ∧ X.cell? ⟨b7, 2, none⟩ = some (.int .u8 0) ∧ X.cell? ⟨b7, 3, none⟩ = some (.bool true) := fun X hX =>
    ⟨(hX.cell (p := ⟨b7, 0, none⟩) hlt9).trans c0, (hX.cell (p := ⟨b7, 1, none⟩) hlt9).trans c1, (hX.cell (p := ⟨b7, 2, none⟩) hlt9).trans c2, (hX.cell (p := ⟨b7, 3, none⟩) hlt9).trans c3⟩
  have HSM := Lib.hid (fun (a b : Option Addr) (c d : Nat) (X : World) ha hb => same12_any true a b c d [⟨⟨#[116]⟩, ⟨#[112]⟩, 0, true⟩] [⟨⟨#[116]⟩, ⟨#[112]⟩, 0, true⟩] X ha hb (by decide) (by decide) (by simp))
  have HKP := Lib.hid (fun X (hX : Below v9.heap.size v9 X) => mkept_x 9 m 1 _ [⟨⟨#[116]⟩, ⟨#[112]⟩, 0, true⟩] w F8 X (HM.out.below hX) (by decide) rfl rfl)
  have hdr : Below v9.heap.size v9 v9.drew := (Below.refl _ _).drew
  refine wpAnyH_ready (rs := [1, 3]) (by kernel_rfl) (by simp) ?_
  refine AllReadyH.cons rfl (fun K hK => ?_) (AllReadyH.cons rfl (fun K hK => ?_) AllReadyH.nil)
  · rw [if_pos (by rfl)]
    go_simp
    go_at_call 13
    refine (HKP.out _ hdr).mono ?_
    rintro e x1 ⟨a, c, rfl, -, -, hB, hk⟩
    have hx1 := bnext hdr (Nat.le_refl _) hk
    have HR := Lib.hid hB.row
    clear hB hk
    refine hK.out _ _ (hS _ hx1) (fun hHeld => ?_)
    refine wpAnyH_ready (rs := [3]) (by kernel_rfl) (by simp) ?_
    refine AllReadyH.cons rfl (fun K hK => ?_) AllReadyH.nil
    rw [if_pos (by rfl)]
    go_simp
    have hx2 := bnext hx1 (Nat.le_refl _) (low_alloc x1 (.cells #[.string ⟨#[116]⟩, .string ⟨#[112]⟩, .int .u8 0, .bool true] 26))
    refine hK.out _ _ (hS _ hx2) (fun hHeld => ?_)
    refine wpAnyH_ready (rs := [4]) (by kernel_rfl) (by simp) ?_
    refine AllReadyH.cons rfl (fun K hK => ?_) AllReadyH.nil
    rw [if_pos (by rfl)]
    go_simp
    go_at_call 26
    refine (HSM.out _ (some ⟨x1.heap.size, 0, none⟩) _ 1 _ (HR.out.below (low_alloc x1 _) (Nat.le_refl _)) (row_new x1 _ _)).mono ?_
    rintro e x3 ⟨rfl, nd2, rfl⟩
    have hx3 := Go.below_drewN hx2 nd2
    refine hK.out _ _ (hS _ hx3) (fun hHeld => ?_)
    refine wpAnyH_take (i := 5) (v := ?_) rfl (by kernel_rfl) (by kernel_rfl) (by kernel_rfl) (fun _ _ _ h => h) (Or.inl ⟨rfl, ?_⟩) hHeld ?_
    rotate_left
    · intro w0 hS0
      try dsimp only at hS0
      go_simp
      try with_reducible rfl
    simp only [List.getElem_toArray, List.getElem_cons_zero, List.getElem_cons_succ, Act.put, List.setIfInBounds_toArray, List.set_cons_zero]
    refine wpAnyH_done (by kernel_rfl) ?_ _
    have HX := Lib.hid (HM.out.below hx3).bel
    clear hHeld hS hx1 hx2 hx3
    go_wp2_with fail
    go_ret
    exact ⟨rfl, HX.out⟩
  · rw [if_pos (by rfl)]
    go_simp
    have hx1 := bnext hdr (Nat.le_refl _) (low_alloc v9.drew (.cells #[.string ⟨#[116]⟩, .string ⟨#[112]⟩, .int .u8 0, .bool true] 26))
    refine hK.out _ _ (hS _ hx1) (fun hHeld => ?_)
    refine wpAnyH_ready (rs := [1]) (by kernel_rfl) (by simp) ?_
    refine AllReadyH.cons rfl (fun K hK => ?_) AllReadyH.nil
    rw [if_pos (by rfl)]
    go_simp
    go_at_call 13
    refine (HKP.out _ hx1).mono ?_
    rintro e x2 ⟨a, c, rfl, -, -, hB, hk⟩
    have hx2 := bnext hx1 (Nat.le_refl _) hk
    have HR := Lib.hid hB.row
    have HR2 := Lib.hid ((row_new v9.drew [.string ⟨#[116]⟩, .string ⟨#[112]⟩, .int .u8 0, .bool true] 26).below hk (Nat.le_refl _))
    clear hB hk
    refine hK.out _ _ (hS _ hx2) (fun hHeld => ?_)
    refine wpAnyH_ready (rs := [4]) (by kernel_rfl) (by simp) ?_
    refine AllReadyH.cons rfl (fun K hK => ?_) AllReadyH.nil
    rw [if_pos (by rfl)]
    go_simp
    go_at_call 26
    refine (HSM.out _ (some ⟨v9.heap.size, 0, none⟩) _ 1 _ HR.out HR2.out).mono ?_
    rintro e x3 ⟨rfl, nd2, rfl⟩
    have hx3 := Go.below_drewN hx2 nd2
    refine hK.out _ _ (hS _ hx3) (fun hHeld => ?_)
    refine wpAnyH_take (i := 5) (v := ?_) rfl (by kernel_rfl) (by kernel_rfl) (by kernel_rfl) (fun _ _ _ h => h) (Or.inl ⟨rfl, ?_⟩) hHeld ?_
    rotate_left
    · intro w0 hS0
      try dsimp only at hS0
      go_simp
      try with_reducible rfl
    simp only [List.getElem_toArray, List.getElem_cons_zero, List.getElem_cons_succ, Act.put, List.setIfInBounds_toArray, List.set_cons_zero]
    refine wpAnyH_done (by kernel_rfl) ?_ _
    have HX := Lib.hid (HM.out.below hx3).bel
    clear hHeld hS hx1 hx2 hx3
    go_wp2_with fail
    go_ret
    exact ⟨rfl, HX.out⟩
end Go.Proofs.YthfeckndkmhieaaGreatDoor
