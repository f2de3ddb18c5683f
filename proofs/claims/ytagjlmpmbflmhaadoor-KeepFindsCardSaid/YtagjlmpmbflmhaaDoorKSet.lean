/- What is kept: Set, Get walked. -/
import Derived.Test.YtagjlmpmbflmhaaDoorKRep
import Derived.StillTailTactics
import Derived.StringKeys
namespace Go.Proofs.YtagjlmpmbflmhaaDoor
open Go Go.RowKit Go.Maps

def Msg.kept (m : Msg) : Msg := { m with r := true }
def setM (m : Msg) (l : List Msg) : List Msg := if m.p.data.toList = [] then del m.k l else put m.kept l
def setB (m : Msg) (l : List Msg) : List Msg := if mayB m then setM m l else l

theorem upd_after {F F' : List Nat} {w w1 w2 : World} (hk : Below w.heap.size w w1) (hu : Upd F F' w1 w2) : Upd F F' w w2 :=
  ⟨(Mod.of_below hk F).trans hu.1 (fun _ h => .inl h), fun k h => (hu.2 k h).imp id (fun h => Nat.le_trans hk.size h)⟩
theorem upd_then {F F' : List Nat} {w w1 w2 : World} (hu : Upd F F' w w1) (hk : Below w1.heap.size w1 w2) : Upd F F' w w2 := ⟨hu.1.next hk, hu.2⟩
theorem msg_size : (Tryd.prog.info? 33).map (·.size) = some 4 := by kernel_rfl

theorem kset_nil (m : Msg) (w : World) : Calls Tryd.prog 12 #[.pointer none, .agg #[.string m.t, .string m.p, .int .u8 m.q, .bool m.r]] w fun e w' => e = .returned (.bool false) ∧ Below w.heap.size w w' := by
  go_enter Tryd.func12, Tryd.ntmps12
  go_wp2_with fail
  go_ret
  exact ⟨rfl, (Below.refl _ _).alloc (Nat.le_refl _) _⟩

set_option maxHeartbeats 1000000 in
theorem kset_no (g : Nat) (m : Msg) (w : World) (hT : Tabs w) (hs : m.t.size < 4294967281) (hq : 0 ≤ m.q) (hq2 : m.q < 256) (hm : mayB m = false) :
    Calls Tryd.prog 12 #[.pointer (some ⟨g, 0, none⟩), .agg #[.string m.t, .string m.p, .int .u8 m.q, .bool m.r]] w fun e w' => e = .returned (.bool false) ∧ Below w.heap.size w w' := by
  have hb : Below w.heap.size w (w.alloc (.cells #[.string m.t, .string m.p, .int .u8 m.q, .bool m.r] 33)) := (Below.refl _ _).alloc (Nat.le_refl _) _
  have HBW := Lib.hid hb
  have HM := Lib.hid (may_any m _ (hT.below hb) hs hq hq2)
  rw [hm] at HM
  clear hb hT
  obtain ⟨t, p, q, r⟩ := m
  dsimp only at *
  go_enter Tryd.func12, Tryd.ntmps12
  go_wp2_with fail
  refine HM.out.mono ?_
  rintro e w1 ⟨rfl, hk⟩
  have HK := Lib.hid (bnext HBW.out (by simp) hk)
  clear hk
  go_wp2_with fail
  go_ret
  exact ⟨rfl, HK.out⟩

set_option maxRecDepth 100000 in
set_option maxHeartbeats 2000000 in
theorem kset_yes (g : Nat) (m : Msg) (l : List Msg) (F : List Nat) (w : World) (h : KRep w g l F) (hT : Tabs w) (hs : m.t.size < 4294967281) (hq : 0 ≤ m.q) (hq2 : m.q < 256) (hm : mayB m = true) (hl : l.length < 1000000) :
    Calls Tryd.prog 12 #[.pointer (some ⟨g, 0, none⟩), .agg #[.string m.t, .string m.p, .int .u8 m.q, .bool m.r]] w fun e w' => e = .returned (.bool true) ∧ KRep w' g (setM m l) F ∧ Upd F F w w' := by
  have hb : Below w.heap.size w (w.alloc (.cells #[.string m.t, .string m.p, .int .u8 m.q, .bool m.r] 33)) := (Below.refl _ _).alloc (Nat.le_refl _) _
  have HBW := Lib.hid hb
  have HM := Lib.hid (may_any m _ (hT.below hb) hs hq hq2)
  have HR := Lib.hid (heap_alloc_new w (.cells #[.string m.t, .string m.p, .int .u8 m.q, .bool m.r] 33))
  have HKR := Lib.hid h
  rw [hm] at HM
  clear hb hT h hm
  have HSM : Hid (setM m l = if m.p.data.toList = [] then del m.k l else put m.kept l) := Lib.hid rfl
  obtain ⟨t, p, q, r⟩ := m
  dsimp only at *
  have hts : t.size ≤ maxLen := by unfold maxLen; omega
  have hkey := WideMaps.keyOf_string_mk Tryd.underlying9 hts
  go_enter Tryd.func12, Tryd.ntmps12
  go_wp2_with fail
  refine HM.out.mono ?_
  rintro e w1 ⟨rfl, hk⟩
  have hr1 : w1.heap[w.heap.size]? = _ := (hk.block w.heap.size (by simp)).trans HR.out
  have HR1 := Lib.hid hr1
  obtain ⟨r0, r1, r2, r3⟩ := cells4 hr1
  obtain ⟨f0, f1, f2, f3⟩ := free4 hr1
  have HK := Lib.hid (bnext HBW.out (by simp) hk)
  have hK1 := HKR.out.below HK.out
  obtain ⟨b, D, hg, hown, hH, hne, rfl⟩ := hK1
  have hgl : g < w.heap.size := HKR.out.lt g (by simp)
  have HG := Lib.hid hg
  have hT := hown.tidy kS
  have HH := Lib.hid hH
  have HTD := Lib.hid hT
  have c0 := cell_of_row w1 g 0 _ _ _ hg
  simp only [List.getElem?_toArray, List.getElem?_cons_zero] at c0
  clear hk hr1 hH hT hg
  by_cases hp : p.data.toList = []
  · have hp' : p = ⟨#[]⟩ := ba_ext hp
    have HS := Lib.hid (show setM ⟨t, p, q, r⟩ l = del t.data.toList l by rw [HSM.out]; simp [hp, Msg.k])
    subst hp'
    clear hp HSM
    go_wp2_with fail
    go_still_tail 6, (by kernel_rfl)
    change wpList _ _ _ _ _ w1.drew
    have hown1 := hown.drew
    go_wp2_with (first | (at_delete; refine wpList_delete_own _ rfl _ _ 46 9 rfl 33 kS Tryd.underlying46 _ b _ _ rfl hown1 _ _ rfl hkey ?_; intro w2 hown2 hturn2) | fail)
    go_ret
    obtain ⟨k1, k2⟩ := krep_turned (w := w1.drew) (l := del t.data.toList l) HG.out hne hown2 hturn2.grown (HH.out.del HTD.out _)
    exact ⟨rfl, by rw [HS.out]; exact k1, upd_after (HK.out.trans (by exact (Below.refl _ _).drew)) k2⟩
  · have HS := Lib.hid (show setM ⟨t, p, q, r⟩ l = put ⟨t, p, q, true⟩ l by rw [HSM.out]; simp [hp, Msg.kept])
    have hp1 : ¬ p.toList = [] := fun h => hp (by rw [← Lib.toList_data]; exact h)
    have hp2 : p.toList.isEmpty = false := by rw [List.isEmpty_eq_false_iff]; exact hp1
    have hsz : Maps.size D < maxLen := by rw [HH.out.1]; unfold maxLen; omega
    clear hp HSM
    go_wp2_with fail
    have hw2 : (w1.setCell ⟨w.heap.size, 3, none⟩ (.bool true)).heap[w.heap.size]? = some (.cells #[.string t, .string p, .int .u8 q, .bool true] 33 (0, 0)) := by
      have hr1 : w1.heap[w.heap.size]? = _ := HR1.out
      exact heap_setCell_same w1 w.heap.size 3 _ _ (.bool true) hr1
    obtain ⟨s0, s1, s2, s3⟩ := cells4 hw2
    have hne1 : g ≠ w.heap.size := by omega
    have hne2 : b ≠ w.heap.size := by have := HKR.out.lt b (by simp); omega
    have HG2 := Lib.hid (show (w1.setCell ⟨w.heap.size, 3, none⟩ (.bool true)).heap[g]? = some (.cells #[.map (some b)] 48 (0, 0)) by rw [Below.heap_setCell _ _ _ _ hne1]; exact HG.out)
    have c2 := cell_of_row _ g 0 _ _ _ HG2.out
    simp only [List.getElem?_toArray, List.getElem?_cons_zero] at c2
    have hown2 := hown.setCell (a := ⟨w.heap.size, 3, none⟩) hne2 (.bool true)
    have HBW2 := Lib.hid (show Below w.heap.size w (w1.setCell ⟨w.heap.size, 3, none⟩ (.bool true)) from HK.out.setCell (p := ⟨w.heap.size, 3, none⟩) (Nat.le_refl _) _)
    clear r0 r1 r2 r3 f0 f1 f2 f3 c0 hown hne1 hne2 hw2
    generalize w1.setCell ⟨w.heap.size, 3, none⟩ (.bool true) = w2 at *
    go_still_tail 7, (by kernel_rfl)
    change wpList _ _ _ _ _ w2.drew
    have hown3 := hown2.drew
    go_wp2_with (first | (at_mapUpdate; refine wpList_mapUpdate_own _ rfl _ _ _ 46 rfl 9 33 kS Tryd.underlying46 _ b _ _ rfl hown3 hsz _ _ _ rfl rfl hkey _ [] (msgElem_mk ⟨t, p, q, true⟩) ?_; intro w3 hown4 hgrow3) | fail)
    go_ret
    obtain ⟨k1, k2⟩ := krep_turned (w := w2.drew) (l := put ⟨t, p, q, true⟩ l) HG2.out hne hown4 hgrow3 (HH.out.put HTD.out ⟨t, p, q, true⟩)
    exact ⟨rfl, by rw [HS.out]; exact k1, upd_after (HBW2.out.trans (by exact (Below.refl _ _).drew)) k2⟩

theorem kget_nil (n : ByteArray) (w : World) : Calls Tryd.prog 22 #[.pointer none, .string n] w fun e w' => e = .returned (.tuple #[Msg.none.val, .bool false]) ∧ Below w.heap.size w w' := by
  go_enter Tryd.func22, Tryd.ntmps22
  go_wp2_with fail
  exact bodyPost_ret (results_row_tmp rfl rfl (heap_alloc_new w _) Tryd.underlying33 rfl msg_size) rfl ⟨rfl, (Below.refl _ _).alloc (Nat.le_refl _) _⟩

set_option maxRecDepth 100000 in
set_option maxHeartbeats 2000000 in
theorem kget_any (g : Nat) (n : ByteArray) (l : List Msg) (F : List Nat) (w : World) (h : KRep w g l F) (hn : n.size ≤ maxLen) :
    Calls Tryd.prog 22 #[.pointer (some ⟨g, 0, none⟩), .string n] w fun e w' => e = .returned (.tuple #[(orNone (get n.data.toList l)).val, .bool (get n.data.toList l).isSome]) ∧ Below w.heap.size w w' := by
  have hgl := h.lt g (by simpa using by obtain ⟨b, D, _, _, _, _, rfl⟩ := h; simp)
  obtain ⟨b, D, hg, hown, hH, hne, -⟩ := h
  have hkey := WideMaps.keyOf_string_mk Tryd.underlying9 hn
  have hat := hH.at n.data.toList
  have HHAS := Lib.hid (hH.2.1 n.data.toList)
  generalize (get n.data.toList l).isSome = bs at *
  generalize orNone (get n.data.toList l) = x at *
  obtain ⟨mt, mp, mq, mr⟩ := x
  have HAT := Lib.hid hat
  have hr := heap_alloc_new w (.cells #[.string ⟨#[]⟩, .string ⟨#[]⟩, .int .u8 0, .bool false] 33)
  have HM := Lib.hid ((Mod.refl [w.heap.size] w).alloc (.cells #[.string ⟨#[]⟩, .string ⟨#[]⟩, .int .u8 0, .bool false] 33))
  have c0 := cell_of_row w g 0 _ _ _ hg
  simp only [List.getElem?_toArray, List.getElem?_cons_zero] at c0
  have hown1 := hown.alloc (.cells #[.string ⟨#[]⟩, .string ⟨#[]⟩, .int .u8 0, .bool false] 33)
  clear hat hH hg hown hr
  go_enter Tryd.func22, Tryd.ntmps22
  go_wp2_with (first | (at_lookup; refine wpList_lookup_own_ok _ rfl _ _ 46 rfl 9 33 kS Tryd.underlying46 msgElem (zeroMsg _) Msg.none.dat [] (msgElem_mk Msg.none) b _ D rfl hown1 _ _ rfl hkey ?_; intro v ps hv; rw [HAT.out] at hv; obtain rfl := msgElem_inv hv; rw [HHAS.out]; dsimp only [Msg.val]) | fail)
  exact bodyPost_ret (results_row_tmp rfl rfl ((Below.heap_alloc _ _ _ (by simp)).trans (heap_alloc_new w _)) Tryd.underlying33 rfl msg_size) rfl ⟨rfl, ((Below.refl _ _).alloc (Nat.le_refl _) _).alloc (by simp) _⟩
end Go.Proofs.YtagjlmpmbflmhaaDoor
