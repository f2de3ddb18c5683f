/- The chapter's examples about the set of ids, walked. -/
import Derived.Test.YtjfmnlhbodekaaaISame
namespace Go.Proofs.Ytjfmnlhbodekaaa
open Go Go.RowKit Go.Maps

theorem copen_u (g : Nat) (l : List Int) (F : List Nat) (w : World) (h : CRep w g l F) :
    Calls Try.prog 10 #[.pointer (some ⟨g, 0, none⟩)] w fun e w' => ∃ a c, e = .returned (.slice a l.length c) ∧ w'.ownsRow w.heap.size 25 1 (.slice a l.length c) l.length (u16s l) ∧ Row w' a (u16s l) ∧ Below w.heap.size w w' :=
  (copen g l F w h).mono fun e w' ⟨v, he, hown, hb⟩ => by
    obtain ⟨a, c, rfl, hr, -, -⟩ := ownsRow_row hown
    exact ⟨a, c, he, hown, hr, hb⟩

set_option maxRecDepth 100000 in
set_option maxHeartbeats 4000000 in
theorem awake_true (w : World) : Calls Try.prog 14 #[] w fun e w' => e = .returned (.bool true) ∧ Below w.heap.size w w' := by
  go_enter Try.func14, Try.ntmps14
  go_wp2_with fail
  refine (cnew _).mono ?_
  rintro e w1 ⟨g, F, rfl, hq, hu⟩
  obtain ⟨hb, hF⟩ := upd_below (Below.refl w.heap.size w) (Nat.le_refl _) (by simp) hu
  clear hu
  go_wp2_with fail
  refine (cfirst_u true g 7 [] F _ hq (by decide) (by decide) (by decide)).mono ?_
  rintro e w2 ⟨rfl, hq2, hu⟩
  rw [show frs 7 [] = [7] by decide] at hq2
  replace hb := (upd_below hb (Nat.le_refl _) hF hu).1
  clear hu hq
  go_wp2_with fail
  refine (cfirst_u false g 7 [7] F _ hq2 (by decide) (by decide) (by decide)).mono ?_
  rintro e w3 ⟨rfl, hq, hu⟩
  rw [show frs 7 [7] = [7] by decide] at hq
  replace hb := (upd_below hb (Nat.le_refl _) hF hu).1
  clear hu hq2
  go_wp2_with fail
  refine (cfirst_u true g 3 [7] F _ hq (by decide) (by decide) (by decide)).mono ?_
  rintro e w4 ⟨rfl, hq2, hu⟩
  rw [show frs 3 [7] = [3, 7] by decide] at hq2
  replace hb := (upd_below hb (Nat.le_refl _) hF hu).1
  clear hu hq
  go_wp2_with fail
  refine (cfirst_u false g 0 [3, 7] F _ hq2 (by decide) (by decide) (by decide)).mono ?_
  rintro e w5 ⟨rfl, hq, hu⟩
  rw [show frs 0 [3, 7] = [3, 7] by decide] at hq
  replace hb := (upd_below hb (Nat.le_refl _) hF hu).1
  clear hu hq2
  go_wp2_with fail
  refine (copen_u g [3, 7] F _ hq).mono ?_
  rintro e w6 ⟨a, c, rfl, -, hr, hk⟩
  replace hq := hq.below hk
  replace hb := bnext hb (Nat.le_refl _) hk
  clear hk
  simp only [List.length_cons, List.length_nil, Nat.zero_add, Nat.reduceAdd]
  have hr2 := row_new w6 (u16s [3, 7]) 25
  replace hr := hr.below ((Below.refl _ _).alloc (Nat.le_refl _) (.cells (u16s [3, 7]).toArray 25)) (Nat.le_refl _)
  replace hq := hq.below ((Below.refl _ _).alloc (Nat.le_refl _) (.cells (u16s [3, 7]).toArray 25))
  replace hb := hb.alloc (Nat.le_trans hb.size (Nat.le_refl _)) (.cells (u16s [3, 7]).toArray 25)
  have HR := Lib.hid hr
  have HR2 := Lib.hid hr2
  have HQ := Lib.hid hq
  have HB := Lib.hid hb
  clear hr hr2 hq hb
  go_wp2_with fail
  refine (same_any true a _ c 2 [3, 7] [3, 7] _ HR.out HR2.out (by simp) (by decide)).mono ?_
  rintro e w7 ⟨rfl, n, rfl⟩
  have hq := HQ.out.drewN n
  have hb := below_drewN HB.out n
  generalize (w6.alloc (.cells (u16s [3, 7]).toArray 25)).drewN n = w7 at *
  clear HR HR2 HQ HB
  go_wp2_with fail
  refine (crel_u true g 7 [3, 7] F _ hq (by decide) (by decide) (by decide)).mono ?_
  rintro e w8 ⟨rfl, hq2, hu⟩
  rw [show out 7 [3, 7] = [3] by decide] at hq2
  replace hb := (upd_below hb (Nat.le_refl _) hF hu).1
  clear hu hq
  go_wp2_with fail
  refine (crel_u false g 7 [3] F _ hq2 (by decide) (by decide) (by decide)).mono ?_
  rintro e w9 ⟨rfl, hq, hu⟩
  rw [show out 7 [3] = [3] by decide] at hq
  replace hb := (upd_below hb (Nat.le_refl _) hF hu).1
  clear hu hq2
  go_wp2_with fail
  refine (cfirst_u true g 7 [3] F _ hq (by decide) (by decide) (by decide)).mono ?_
  rintro e wa ⟨rfl, hq2, hu⟩
  rw [show frs 7 [3] = [3, 7] by decide] at hq2
  replace hb := (upd_below hb (Nat.le_refl _) hF hu).1
  clear hu hq
  go_wp2_with fail
  refine (cknows_any true g 3 [3, 7] F _ hq2 (by decide) (by decide) (by decide)).mono ?_
  rintro e wb ⟨rfl, hk⟩
  have hq := hq2.below hk
  replace hb := bnext hb (Nat.le_refl _) hk
  clear hk hq2
  go_wp2_with fail
  refine (cknows_any false g 0 [3, 7] F _ hq (by decide) (by decide) (by decide)).mono ?_
  rintro e wc ⟨rfl, hk⟩
  replace hq := hq.below hk
  replace hb := bnext hb (Nat.le_refl _) hk
  clear hk
  go_wp2_with fail
  refine (cforget g [3, 7] F _ hq).mono ?_
  rintro e wd ⟨rfl, hq2, hu⟩
  replace hb := (upd_below hb (Nat.le_refl _) hF hu).1
  clear hu hq
  go_wp2_with fail
  refine (copen_u g [] F _ hq2).mono ?_
  rintro e we ⟨a2, c2, rfl, -, -, hk⟩
  have hq := hq2.below hk
  replace hb := bnext hb (Nat.le_refl _) hk
  clear hk hq2
  simp only [List.length_nil]
  go_wp2_with fail
  refine (cfirst_u true g 3 [] F _ hq (by decide) (by decide) (by decide)).mono ?_
  rintro e wf ⟨rfl, hq2, hu⟩
  replace hb := (upd_below hb (Nat.le_refl _) hF hu).1
  clear hu hq hq2
  go_wp2_with fail
  go_ret
  exact ⟨rfl, hb⟩
end Go.Proofs.Ytjfmnlhbodekaaa
