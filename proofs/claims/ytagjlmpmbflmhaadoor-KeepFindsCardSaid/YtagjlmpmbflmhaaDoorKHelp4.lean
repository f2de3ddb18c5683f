/- The laws' own helpers, walked: small, awake. -/
import Derived.Test.YtagjlmpmbflmhaaDoorKHelp3
namespace Go.Proofs.YtagjlmpmbflmhaaDoor
open Go Go.RowKit Go.Maps

theorem kset_x (b : Bool) (g : Nat) (t p : ByteArray) (q : Int) (r : Bool) (l l' : List Msg) (F : List Nat) (w : World) (h : KRep w g l F) (hT : Tabs w) (hm : (⟨t, p, q, r⟩ : Msg).ok) (hl : l.length < 1000000) (hb : mayB ⟨t, p, q, r⟩ = b) (hl' : setB ⟨t, p, q, r⟩ l = l') :
    Calls Tryd.prog 12 #[.pointer (some ⟨g, 0, none⟩), .agg #[.string t, .string p, .int .u8 q, .bool r]] w fun e w' => e = .returned (.bool b) ∧ KRep w' g l' F ∧ Upd F F w w' := by
  subst hl'
  exact kset_u b g ⟨t, p, q, r⟩ l F w h hT hm hl hb
theorem kall_u (g : Nat) (l : List Msg) (F : List Nat) (w : World) (hl : l.length < 1000000) (hrep : KRep w g l F) :
    Calls Tryd.prog 17 #[.pointer (some ⟨g, 0, none⟩)] w fun e w' => ∃ a c, e = .returned (.slice a l.length c) ∧ w'.ownsRow w.heap.size 33 4 (.slice a l.length c) l.length (msgs l) ∧ Row w' a (msgs l) ∧ Below w.heap.size w w' :=
  (kall_any g l F w hl hrep).mono fun e w' ⟨v, he, hown, hb⟩ => by
    obtain ⟨a, c, rfl, hr, -, -⟩ := ownsRow_row hown
    exact ⟨a, c, he, hown, hr, hb⟩
theorem allOk.small {l : List Msg} (h : allOk l) : ∀ m ∈ l, m.t.size < 4294967281 := fun m hm => by have := (h m hm).1; omega
theorem kfind_u (s : ByteArray) (fl : List Msg) (g : Nat) (l : List Msg) (F : List Nat) (w : World) (hl : l.length < 1000000) (hT : Tabs w) (hs : s.size < 4294967281) (hml : allOk l) (hrep : KRep w g l F) (hf : finds s.data.toList l = fl) :
    Calls Tryd.prog 14 #[.pointer (some ⟨g, 0, none⟩), .string s] w fun e w' => ∃ a c, e = .returned (.slice a fl.length c) ∧ w'.ownsRow w.heap.size 33 4 (.slice a fl.length c) fl.length (msgs fl) ∧ Row w' a (msgs fl) ∧ Below w.heap.size w w' := by
  subst hf
  refine (kfind_any s g l F w hl hT hs hml.small hrep).mono fun e w' ⟨v, he, hown, hb⟩ => ?_
  obtain ⟨a, c, rfl, hr, -, -⟩ := ownsRow_row hown
  exact ⟨a, c, he, hown, hr, hb⟩
theorem said_u (sl : List UInt8) (a : Option Addr) (n c : Nat) (l : List Msg) (w : World) (ha : Row w a (msgs l)) (hn : l.length = n) (hl : l.length ≤ 1000) (hok : allOk l) (hs : saidB l = sl) :
    Calls Tryd.prog 28 #[.slice a n c] w fun e w' => e = .returned (.string ⟨sl.toArray⟩) ∧ w' = w := by
  subst hn hs
  exact said_any a c l w ha hl hok
theorem ok_small : allOk smallL := by
  intro m hm
  simp only [smallL, List.mem_cons, List.not_mem_nil, or_false] at hm
  rcases hm with rfl | rfl | rfl <;> (refine ⟨by decide, by decide, by decide, by decide⟩)

set_option maxRecDepth 100000 in
set_option maxHeartbeats 2000000 in
theorem small_any (w : World) (hT : Tabs w) : Calls Tryd.prog 27 #[] w fun e w' => ∃ g F, e = .returned (.pointer (some ⟨g, 0, none⟩)) ∧ One w w' g smallL F := by
  have HT := Lib.hid hT
  clear hT
  go_enter Tryd.func27, Tryd.ntmps27
  go_wp2_with fail
  refine (knew _).mono ?_
  rintro e w1 ⟨g, F, rfl, hq, hu⟩
  have HO := Lib.hid (One.start (Below.refl w.heap.size w) hq hu)
  clear hq hu
  go_wp2_with fail
  refine (kset_x true g ⟨#[97, 47, 98]⟩ ⟨#[49]⟩ 0 false _ _ F _ HO.out.c (HO.out.tabs HT.out) ⟨by decide, by decide, by decide, by decide⟩ (by simp) may_s1 set_s1).mono ?_
  rintro e w2 ⟨rfl, hq, hu⟩
  replace HO := Lib.hid (HO.out.upd hq hu)
  clear hq hu
  go_wp2_with fail
  refine (kset_x true g ⟨#[97]⟩ ⟨#[50]⟩ 1 false _ _ F _ HO.out.c (HO.out.tabs HT.out) ⟨by decide, by decide, by decide, by decide⟩ (by simp) may_s2 set_s2).mono ?_
  rintro e w3 ⟨rfl, hq, hu⟩
  replace HO := Lib.hid (HO.out.upd hq hu)
  clear hq hu
  go_wp2_with fail
  refine (kset_x true g ⟨#[36, 115]⟩ ⟨#[51]⟩ 0 false _ _ F _ HO.out.c (HO.out.tabs HT.out) ⟨by decide, by decide, by decide, by decide⟩ (by simp) may_s3 set_s3).mono ?_
  rintro e w4 ⟨rfl, hq, hu⟩
  replace HO := Lib.hid (HO.out.upd hq hu)
  clear hq hu
  go_wp2_with fail
  refine (kset_x true g ⟨#[97, 47, 98]⟩ ⟨#[52]⟩ 2 false _ _ F _ HO.out.c (HO.out.tabs HT.out) ⟨by decide, by decide, by decide, by decide⟩ (by simp) may_s4 set_s4).mono ?_
  rintro e w5 ⟨rfl, hq, hu⟩
  replace HO := Lib.hid (HO.out.upd hq hu)
  clear hq hu
  go_wp2_with fail
  go_ret
  exact ⟨g, F, rfl, HO.out⟩

set_option maxRecDepth 100000 in
set_option maxHeartbeats 2000000 in
theorem awake_true (w : World) (hT : Tabs w) : Calls Tryd.prog 10 #[] w fun e w' => e = .returned (.bool true) ∧ Below w.heap.size w w' := by
  have HT := Lib.hid hT
  have HSM := Lib.hid (small_any w hT)
  clear hT
  go_enter Tryd.func10, Tryd.ntmps10
  go_wp2_with fail
  refine HSM.out.mono ?_
  rintro e w1 ⟨g, F, rfl, hO⟩
  have HO := Lib.hid hO
  clear hO
  go_wp2_with fail
  refine (kall_u g smallL F _ (by decide) HO.out.c).mono ?_
  rintro e w2 ⟨a, c, rfl, -, hr, hk⟩
  replace HO := Lib.hid (HO.out.below hk)
  have HR := Lib.hid hr
  clear hk hr
  go_wp2_with fail
  refine (said_u [51, 32, 50, 32, 52, 32] a _ c smallL _ HR.out rfl (by decide) ok_small said_s).mono ?_
  rintro e w3 ⟨rfl, rfl⟩
  have q1 : (⟨([51, 32, 50, 32, 52, 32] : List UInt8).toArray⟩ : ByteArray).toList = [51, 32, 50, 32, 52, 32] := slt _
  go_wp2_with fail
  refine (kfind_u ⟨#[43]⟩ [sm2.kept] g smallL F _ (by decide) (HO.out.tabs HT.out) (by decide) ok_small HO.out.c find_plus).mono ?_
  rintro e w4 ⟨a2, c2, rfl, -, hr, hk⟩
  replace HO := Lib.hid (HO.out.below hk)
  have HR := Lib.hid hr
  clear hk hr
  go_wp2_with fail
  refine (said_u [50, 32] a2 _ c2 [sm2.kept] _ HR.out rfl (by decide) (fun m hm => ok_small m (by simp at hm; subst hm; simp [smallL])) said_p).mono ?_
  rintro e w5 ⟨rfl, rfl⟩
  have q2 : (⟨([50, 32] : List UInt8).toArray⟩ : ByteArray).toList = [50, 32] := slt _
  go_wp2_with fail
  go_ret
  exact ⟨rfl, HO.out.bel⟩
end Go.Proofs.YtagjlmpmbflmhaaDoor
