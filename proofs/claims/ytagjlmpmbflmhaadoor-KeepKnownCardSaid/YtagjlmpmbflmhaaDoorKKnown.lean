/- KeepKnown walked. -/
import Derived.Test.YtagjlmpmbflmhaaDoorKHelp4
namespace Go.Proofs.YtagjlmpmbflmhaaDoor
open Go Go.RowKit Go.Maps

theorem kall_n (n : Nat) (g : Nat) (l : List Msg) (F : List Nat) (w : World) (hl : l.length < 1000000) (hrep : KRep w g l F) (hn : l.length = n) :
    Calls Tryd.prog 17 #[.pointer (some ⟨g, 0, none⟩)] w fun e w' => ∃ a c, e = .returned (.slice a n c) ∧ Row w' a (msgs l) ∧ Below w.heap.size w w' := by
  subst hn
  exact (kall_u g l F w hl hrep).mono fun e w' ⟨a, c, he, _, hr, hb⟩ => ⟨a, c, he, hr, hb⟩
theorem klen_n (n : Int) (g : Nat) (l : List Msg) (F : List Nat) (w : World) (h : KRep w g l F) (hn : (l.length : Int) = n) :
    Calls Tryd.prog 25 #[.pointer (some ⟨g, 0, none⟩)] w fun e w' => e = .returned (.int .i64 n) ∧ Below w.heap.size w w' := by
  subst hn; exact klen_any g l F w h
theorem kget_x (g : Nat) (n : ByteArray) (l : List Msg) (F : List Nat) (w : World) (h : KRep w g l F) (hn : n.size ≤ maxLen) (hg : get n.data.toList l = none) :
    Calls Tryd.prog 22 #[.pointer (some ⟨g, 0, none⟩), .string n] w fun e w' => e = .returned (.tuple #[.agg #[.string ⟨#[]⟩, .string ⟨#[]⟩, .int .u8 0, .bool false], .bool false]) ∧ Below w.heap.size w w' := by
  have := kget_any g n l F w h hn
  rw [hg] at this
  exact this
theorem kget_nilx (n : ByteArray) (w : World) : Calls Tryd.prog 22 #[.pointer none, .string n] w fun e w' => e = .returned (.tuple #[.agg #[.string ⟨#[]⟩, .string ⟨#[]⟩, .int .u8 0, .bool false], .bool false]) ∧ Below w.heap.size w w' := kget_nil n w

theorem f1 : finds [97, 47, 35] smallL = [sm2.kept, sm4.kept] := by kernel_rfl
theorem f2 : finds [35] smallL = [sm2.kept, sm4.kept] := by kernel_rfl
theorem f3 : finds [97, 47, 35, 47, 98] smallL = [] := by kernel_rfl
theorem s24 : saidB [sm2.kept, sm4.kept] = [50, 32, 52, 32] := by kernel_rfl
theorem m1 : mayB ⟨⟨#[97, 47, 43]⟩, ⟨#[49]⟩, 0, false⟩ = false := by kernel_rfl
theorem m2 : mayB ⟨⟨#[97]⟩, ⟨#[]⟩, 3, false⟩ = false := by kernel_rfl
theorem m3 : mayB ⟨⟨#[97]⟩, ⟨#[]⟩, 0, false⟩ = true := by kernel_rfl
theorem t1 : setB ⟨⟨#[97, 47, 43]⟩, ⟨#[49]⟩, 0, false⟩ smallL = smallL := by kernel_rfl
theorem t2 : setB ⟨⟨#[97]⟩, ⟨#[]⟩, 3, false⟩ smallL = smallL := by kernel_rfl
theorem t3 : setB ⟨⟨#[97]⟩, ⟨#[]⟩, 0, false⟩ smallL = [sm3.kept, sm4.kept] := by kernel_rfl
theorem g1 : get [97] [sm3.kept, sm4.kept] = none := by kernel_rfl

set_option maxRecDepth 100000 in
set_option maxHeartbeats 8000000 in
theorem known_true (w : World) (hT : Tabs w) : Calls Tryd.prog 7 #[] w fun e w' => e = .returned (.bool true) ∧ Below w.heap.size w w' := by
  have HT := Lib.hid hT
  have HSM := Lib.hid (small_any w hT)
  have q0 : (⟨([50, 32, 52, 32] : List UInt8).toArray⟩ : ByteArray).toList = [50, 32, 52, 32] := slt _
  have q1 : (⟨([] : List UInt8).toArray⟩ : ByteArray).toList = [] := slt _
  have hcmp := fun w => msg_eql true w ⟨#[]⟩ ⟨#[]⟩ ⟨#[]⟩ ⟨#[]⟩ 0 0 false false (by decide)
  have HOK2 : Hid (allOk [sm2.kept, sm4.kept]) := Lib.hid fun m hm => ok_small m (by simp at hm; rcases hm with rfl | rfl <;> simp [smallL])
  clear hT
  go_enter Tryd.func7, Tryd.ntmps7
  go_wp2_with fail
  refine HSM.out.mono ?_
  rintro e w1 ⟨g, F, rfl, hO⟩
  have HO := Lib.hid hO
  clear hO HSM
  go_wp2_with fail
  refine (kfind_u ⟨#[97, 47, 35]⟩ [sm2.kept, sm4.kept] g smallL F _ (by decide) (HO.out.tabs HT.out) (by decide) ok_small HO.out.c f1).mono ?_
  rintro e w2 ⟨a, c, rfl, -, hr, hk⟩
  replace HO := Lib.hid (HO.out.below hk)
  have HR := Lib.hid hr
  clear hk hr
  go_wp2_with fail
  refine (said_u [50, 32, 52, 32] a _ c _ _ HR.out rfl (by decide) HOK2.out s24).mono ?_
  rintro e w3 ⟨rfl, rfl⟩
  go_wp2_with fail
  refine (kfind_u ⟨#[35]⟩ [sm2.kept, sm4.kept] g smallL F _ (by decide) (HO.out.tabs HT.out) (by decide) ok_small HO.out.c f2).mono ?_
  rintro e w4 ⟨a2, c2, rfl, -, hr, hk⟩
  replace HO := Lib.hid (HO.out.below hk)
  have HR := Lib.hid hr
  clear hk hr
  go_wp2_with fail
  refine (said_u [50, 32, 52, 32] a2 _ c2 _ _ HR.out rfl (by decide) HOK2.out s24).mono ?_
  rintro e w5 ⟨rfl, rfl⟩
  go_wp2_with fail
  refine (kfind_u ⟨#[97, 47, 35, 47, 98]⟩ [] g smallL F _ (by decide) (HO.out.tabs HT.out) (by decide) ok_small HO.out.c f3).mono ?_
  rintro e w6 ⟨a3, c3, rfl, -, hr, hk⟩
  replace HO := Lib.hid (HO.out.below hk)
  have HR := Lib.hid hr
  clear hk hr
  go_wp2_with fail
  refine (said_u [] a3 _ c3 [] _ HR.out rfl (by decide) (by simp [allOk]) rfl).mono ?_
  rintro e w7 ⟨rfl, rfl⟩
  go_wp2_with fail
  refine (kall_n 3 g smallL F _ (by decide) HO.out.c rfl).mono ?_
  rintro e w8 ⟨a4, c4, rfl, hr, hk⟩
  replace HO := Lib.hid (HO.out.below hk)
  obtain ⟨b1, o1, rfl, k0, k1, k2, k3⟩ := msgs_row hr (k := 2) (m := sm4.kept) rfl
  clear hk hr
  dsimp only [sm4, Msg.kept] at k0 k1 k2 k3
  go_wp2_with fail
  refine (kall_n 3 g smallL F _ (by decide) HO.out.c rfl).mono ?_
  rintro e w9 ⟨a5, c5, rfl, hr, hk⟩
  replace HO := Lib.hid (HO.out.below hk)
  clear k0 k1 k2 k3
  obtain ⟨b2, o2, rfl, k0, k1, k2, k3⟩ := msgs_row hr (k := 2) (m := sm4.kept) rfl
  clear hk hr
  dsimp only [sm4, Msg.kept] at k0 k1 k2 k3
  go_wp2_with fail
  clear k0 k1 k2 k3
  refine (kset_x false g ⟨#[97, 47, 43]⟩ ⟨#[49]⟩ 0 false _ _ F _ HO.out.c (HO.out.tabs HT.out) ⟨by decide, by decide, by decide, by decide⟩ (by decide) m1 t1).mono ?_
  rintro e wa ⟨rfl, hq, hu⟩
  replace HO := Lib.hid (HO.out.upd hq hu)
  clear hq hu
  go_wp2_with fail
  refine (kset_x false g ⟨#[97]⟩ ⟨#[]⟩ 3 false _ _ F _ HO.out.c (HO.out.tabs HT.out) ⟨by decide, by decide, by decide, by decide⟩ (by decide) m2 t2).mono ?_
  rintro e wb ⟨rfl, hq, hu⟩
  replace HO := Lib.hid (HO.out.upd hq hu)
  clear hq hu
  go_wp2_with fail
  refine (kset_x true g ⟨#[97]⟩ ⟨#[]⟩ 0 false _ _ F _ HO.out.c (HO.out.tabs HT.out) ⟨by decide, by decide, by decide, by decide⟩ (by decide) m3 t3).mono ?_
  rintro e wc ⟨rfl, hq, hu⟩
  replace HO := Lib.hid (HO.out.upd hq hu)
  clear hq hu
  go_wp2_with fail
  refine (klen_n 2 g _ F _ HO.out.c (by decide)).mono ?_
  rintro e wd ⟨rfl, hk⟩
  replace HO := Lib.hid (HO.out.below hk)
  clear hk
  go_wp2_with fail
  refine (kget_x g ⟨#[97]⟩ _ F _ HO.out.c (by decide) g1).mono ?_
  rintro e we ⟨rfl, hk⟩
  replace HO := Lib.hid (HO.out.below hk)
  clear hk
  have hz := heap_alloc_new we (.cells #[.string ⟨#[]⟩, .string ⟨#[]⟩, .int .u8 0, .bool false] 33)
  have HO1 := Lib.hid (HO.out.below ((Below.refl _ _).alloc (Nat.le_refl _) (.cells #[.string ⟨#[]⟩, .string ⟨#[]⟩, .int .u8 0, .bool false] 33)))
  clear HO hz
  go_wp2_with fail
  generalize we.alloc (.cells #[.string ⟨#[]⟩, .string ⟨#[]⟩, .int .u8 0, .bool false] 33) = wf at *
  refine (kget_nilx ⟨#[97]⟩ _).mono ?_
  rintro e wg ⟨rfl, hk⟩
  have HO := Lib.hid (HO1.out.below hk)
  clear hk HO1
  have hz := heap_alloc_new wg (.cells #[.string ⟨#[]⟩, .string ⟨#[]⟩, .int .u8 0, .bool false] 33)
  have HO1 := Lib.hid (HO.out.below ((Below.refl _ _).alloc (Nat.le_refl _) (.cells #[.string ⟨#[]⟩, .string ⟨#[]⟩, .int .u8 0, .bool false] 33)))
  have HZ := Lib.hid hz
  clear HO hz
  go_wp2_with fail
  generalize wg.alloc (.cells #[.string ⟨#[]⟩, .string ⟨#[]⟩, .int .u8 0, .bool false] 33) = wh at *
  refine (kset_nil ⟨⟨#[97]⟩, ⟨#[49]⟩, 0, false⟩ _).mono ?_
  rintro e wi ⟨rfl, hk⟩
  have HO := Lib.hid (HO1.out.below hk)
  have hz : wi.heap[wg.heap.size]? = some (.cells #[.string ⟨#[]⟩, .string ⟨#[]⟩, .int .u8 0, .bool false] 33 (0, 0)) := (hk.block _ (Array.getElem?_eq_some_iff.1 HZ.out).1).trans HZ.out
  obtain ⟨k0, k1, k2, k3⟩ := cells4 hz
  clear hk HO1 hz HZ
  go_wp2_with fail
  refine (kfind_nil ⟨#[35]⟩ _).mono ?_
  rintro e wj ⟨rfl, hk⟩
  replace HO := Lib.hid (HO.out.below hk)
  clear k0 k1 k2 k3 hk
  go_wp2_with fail
  refine (kall_nil _).mono ?_
  rintro e wk ⟨rfl, rfl⟩
  go_wp2_with fail
  refine (klen_nil _).mono ?_
  rintro e wk ⟨rfl, rfl⟩
  go_wp2_with fail
  refine (knew _).mono ?_
  rintro e wl ⟨g2, F2, rfl, hq, hu⟩
  have hb2 := (One.start HO.out.bel hq hu).bel
  clear hu
  go_wp2_with fail
  refine (klen_n 0 g2 [] F2 _ hq rfl).mono ?_
  rintro e wm ⟨rfl, hk⟩
  have HB := Lib.hid (bnext hb2 (Nat.le_refl _) hk)
  clear hk hb2 hq HO
  go_wp2_with fail
  refine (awake_true _ (HT.out.below HB.out)).mono ?_
  rintro e wn ⟨rfl, hk⟩
  have hb := bnext HB.out (Nat.le_refl _) hk
  go_wp2_with fail
  go_ret
  exact ⟨rfl, hb⟩
end Go.Proofs.YtagjlmpmbflmhaaDoor
