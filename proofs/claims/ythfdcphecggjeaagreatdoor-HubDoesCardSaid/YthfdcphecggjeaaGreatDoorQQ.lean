/- What is kept, how it lies in memory; New, Len, May walked. What is kept: Set, Get walked. -/
import Derived.Test.YthfdcphecggjeaaGreatDoorQA
import Derived.Test.YthfdcphecggjeaaGreatDoorQB
import Derived.Test.YthfdcphecggjeaaGreatDoorQI
import Derived.Maps.OwnSet
import Derived.Maps.Ext
import Derived.Sort.KeysCollected
import Derived.StillTailTactics
import Derived.StringKeys
namespace Go.Proofs.YthfdcphecggjeaaGreatDoor
section
open Go Go.RowKit Go.Maps

def Msg.dat (m : Msg) : DataW Unit := .agg [.lit (.string m.t.data.toList), .lit (.string m.p.data.toList), .lit (.int .u8 m.q), .lit (.bool m.r)]
def msgRead : List Value → Option (DataW Unit × List MemPlace)
  | [.string t, .string p, .int .u8 q, .bool r] => some ((⟨t, p, q, r⟩ : Msg).dat, [])
  | _ => none
def msgElem : Value → Option (DataW Unit × List MemPlace)
  | .agg cs => msgRead cs.toList
  | _ => none
theorem msgElem_mk (m : Msg) : msgElem m.val = some (m.dat, []) := rfl
theorem ba_ext {a b : ByteArray} (h : a.data.toList = b.data.toList) : a = b := ByteArray.ext (Array.toList_inj.1 h)
theorem dat_inj {a b : Msg} (h : a.dat = b.dat) : a = b := by
  obtain ⟨t, p, q, r⟩ := a
  obtain ⟨t', p', q', r'⟩ := b
  simp only [Msg.dat, DataW.agg.injEq, List.cons.injEq, DataW.lit.injEq, Lit.string.injEq, Lit.int.injEq, Lit.bool.injEq, true_and, and_true] at h
  obtain ⟨h1, h2, h3, h4⟩ := h
  rw [ba_ext h1, ba_ext h2, h3, h4]
theorem msgElem_inv {v : Value} {m : Msg} {ps : List MemPlace} (h : msgElem v = some (m.dat, ps)) : v = m.val := by
  unfold msgElem at h
  split at h
  · rename_i cs
    unfold msgRead at h
    split at h
    · rename_i t p q r hc
      simp only [Option.some.injEq, Prod.mk.injEq] at h
      have := dat_inj h.1
      subst this
      have : cs = #[.string t, .string p, .int .u8 q, .bool r] := Array.toList_inj.1 hc
      rw [this]; rfl
    · cases h
  · cases h
def orNone (o : Option Msg) : Msg := o.getD Msg.none

theorem owns_tightM {P : Program} {k : TypeId} {R : Value → Option (DataW Unit × List MemPlace)} {w : World} {b n : Nat} {D : DataW Unit} (h : w.ownsMap P k R b n D) : w.ownsMap P k R b (Maps.size D) D := by
  obtain ⟨es, clock, hb, F, hs, rfl⟩ := h
  exact ⟨es, clock, hb, F, by simp [Maps.size, length_sorted], rfl⟩

theorem zeroMsg (w : World) : (zeroValue 24).run Tryz.prog w = .ok Msg.none.val w := by kernel_rfl

/-- What a map has: the messages l, by topics. -/
def Has (D : DataW Unit) (l : List Msg) : Prop := Maps.size D = l.length ∧ (∀ t, Maps.has D (.string t) = (get t l).isSome) ∧ (∀ t m, get t l = some m → ∀ z, D.atKey (.string t) z = m.dat) ∧ Up l
theorem Has.nil : Has (.map []) [] := ⟨rfl, fun t => by simp [Maps.has, get], fun t m h => by simp [get] at h, List.Pairwise.nil⟩
theorem Has.put {D : DataW Unit} {l : List Msg} (h : Has D l) (hT : Tidy D) (m : Msg) : Has (D.put (.string m.k) m.dat) (put m l) := by
  obtain ⟨h1, h2, h3, h4⟩ := h
  have kl : WideAt.IsKeyLit (.string m.k) := trivial
  refine ⟨by rw [size_put hT, h2, len_put h4, h1], fun t => ?_, fun t x hx z => ?_, h4.put⟩
  · rw [get_put h4]
    by_cases e : t = m.k
    · subst e; rw [has_put_same hT.isMap kl]; simp
    · rw [has_put_other (by simpa using e), h2, if_neg e]
  · rw [get_put h4] at hx
    by_cases e : t = m.k
    · subst e; simp at hx; subst hx; rw [atKey_put_same hT.isMap kl]
    · rw [if_neg e] at hx; rw [atKey_put_other (by simpa using e)]; exact h3 t x hx z
theorem Has.del {D : DataW Unit} {l : List Msg} (h : Has D l) (hT : Tidy D) (u : List UInt8) : Has (D.del (.string u)) (del u l) := by
  obtain ⟨h1, h2, h3, h4⟩ := h
  refine ⟨?_, fun t => ?_, fun t x hx z => ?_, h4.del⟩
  · have a := size_del (k := .string u) hT
    have b := len_del (t := u) h4
    rw [h2] at a
    split at a <;> split at b <;> simp_all <;> omega
  · rw [get_del]
    by_cases e : t = u
    · subst e; rw [has_del_same]; simp
    · rw [has_del_other (by simpa using e), h2, if_neg e]
  · rw [get_del] at hx
    by_cases e : t = u
    · subst e; simp at hx
    · rw [if_neg e] at hx; rw [atKey_del_other (by simpa using e)]; exact h3 t x hx z
theorem Has.at {D : DataW Unit} {l : List Msg} (h : Has D l) (t : List UInt8) : D.atKey (.string t) Msg.none.dat = (orNone (get t l)).dat := by
  cases e : get t l with
  | some m => exact h.2.2.1 t m e _
  | none =>
    have := h.2.1 t
    rw [e] at this
    exact atKey_of_not_has this _

/-- What is kept lies at block g: it has the messages l, by topics; its blocks are F. -/
def KRep (w : World) (g : Nat) (l : List Msg) (F : List Nat) : Prop :=
  ∃ (b : Nat) (D : DataW Unit), w.heap[g]? = some (.cells #[.map (some b)] 99 (0, 0)) ∧ w.ownsMap Tryz.prog 9 msgElem b (Maps.size D) D ∧ Has D l ∧ b ≠ g ∧ F = [g, b]
theorem KRep.lt {w : World} {g : Nat} {l : List Msg} {F : List Nat} (h : KRep w g l F) : ∀ k ∈ F, k < w.heap.size := by
  obtain ⟨b, D, hg, hown, _, _, rfl⟩ := h
  intro k hk
  simp at hk
  rcases hk with rfl | rfl
  · exact (Array.getElem?_eq_some_iff.1 hg).1
  · exact hown.lt
theorem KRep.mod {S : List Nat} {w w' : World} {g : Nat} {l : List Msg} {F : List Nat} (h : KRep w g l F) (hm : Mod S w w') (hS : ∀ k ∈ F, k ∉ S) : KRep w' g l F := by
  have hl := h.lt
  obtain ⟨b, D, hg, ⟨es, clock, hb, r⟩, h1, h2, rfl⟩ := h
  exact ⟨b, D, by rw [hm.block g (hl g (by simp)) (hS g (by simp))]; exact hg, ⟨es, clock, by rw [hm.block b (hl b (by simp)) (hS b (by simp))]; exact hb, r⟩, h1, h2, rfl⟩
theorem KRep.below {w w' : World} {g : Nat} {l : List Msg} {F : List Nat} (h : KRep w g l F) (hk : Below w.heap.size w w') : KRep w' g l F := h.mod (Mod.of_below hk []) (by simp)
theorem KRep.drewN {w : World} {g : Nat} {l : List Msg} {F : List Nat} (h : KRep w g l F) (n : Nat) : KRep (w.drewN n) g l F := h
theorem KRep.up {w : World} {g : Nat} {l : List Msg} {F : List Nat} (h : KRep w g l F) : Up l := by obtain ⟨b, D, _, _, ⟨_, _, _, h⟩, _⟩ := h; exact h

/-- What a store into the map's block leaves. -/
theorem krep_turned {w w' : World} {g m n : Nat} {D : DataW Unit} {l : List Msg} (hg : w.heap[g]? = some (.cells #[.map (some m)] 99 (0, 0))) (hne : m ≠ g) (hown : w'.ownsMap Tryz.prog 9 msgElem m n D) (ht : w.grownBy w' (some m))
    (h1 : Has D l) : KRep w' g l [g, m] ∧ Upd [g, m] [g, m] w w' :=
  ⟨⟨m, D, by rw [ht.block g (Array.getElem?_eq_some_iff.1 hg).1 (by simpa using fun e => hne e.symm)]; exact hg, owns_tightM hown, h1, hne, rfl⟩,
    (Mod.refl _ _).grown ht (fun k hk => by cases hk; left; simp), fun k hk => .inl hk⟩

theorem knew (w : World) : Calls Tryz.prog 45 #[] w fun e w' => ∃ g F, e = .returned (.pointer (some ⟨g, 0, none⟩)) ∧ KRep w' g [] F ∧ Upd [] F w w' := by
  have hmm := @run_makeMap Tryz.prog
  go_enter Tryz.func45, Tryz.ntmps45
  go_wp2_with fail
  go_ret
  refine ⟨w.heap.size + 1, [w.heap.size + 1, w.heap.size], rfl, ⟨w.heap.size, .map [], by simpa using heap_alloc_new (w.alloc (.map #[] 0)) (.cells #[.map (some w.heap.size)] 99), (World.ownsMap_made w _ _ _).alloc _, Has.nil, by omega, rfl⟩, ((Mod.refl _ _).alloc _).alloc _, fun k hk => .inr ?_⟩
  simp at hk
  omega

def mayB (m : Msg) : Bool := nameB m.k && decide (m.q ≤ 2)
set_option maxHeartbeats 1000000 in
theorem may_any (m : Msg) (w : World) (hT : Tabs w) (hs : m.t.size < 4294967281) (hq : 0 ≤ m.q) (hq2 : m.q < 256) :
    Calls Tryz.prog 73 #[.agg #[.string m.t, .string m.p, .int .u8 m.q, .bool m.r]] w fun e w' => e = .returned (.bool (mayB m)) ∧ Below w.heap.size w w' := by
  obtain ⟨t, p, q, r⟩ := m
  have HB : Hid (mayB ⟨t, p, q, r⟩ = (nameB t.data.toList && decide (q ≤ 2))) := Lib.hid rfl
  have hb : Below w.heap.size w (w.alloc (.cells #[.string t, .string p, .int .u8 q, .bool r] 24)) := (Below.refl _ _).alloc (Nat.le_refl _) _
  have HBW := Lib.hid hb
  have HN := Lib.hid (name_any t _ (hT.below hb) hs)
  have hr := heap_alloc_new w (.cells #[.string t, .string p, .int .u8 q, .bool r] 24)
  have HR := Lib.hid hr
  clear hb hr hT
  obtain ⟨b, hbn⟩ : ∃ b, nameB t.data.toList = b := ⟨_, rfl⟩
  rw [hbn] at HN HB
  clear hbn
  go_enter Tryz.func73, Tryz.ntmps73
  go_wp2_with fail
  refine HN.out.mono ?_
  rintro e w1 ⟨rfl, hk⟩
  have hr1 : w1.heap[w.heap.size]? = _ := (hk.block w.heap.size (by simp)).trans HR.out
  obtain ⟨r0, r1, r2, r3⟩ := cells4 hr1
  have HK := Lib.hid (bnext HBW.out (by simp) hk)
  clear hk hr1
  cases b with
  | true =>
    obtain ⟨c, hc⟩ : ∃ c, decide (q ≤ 2) = c := ⟨_, rfl⟩
    rw [hc] at HB
    go_wp2_with fail
    go_ret
    exact ⟨ret_bool HB.out.symm, HK.out⟩
  | false =>
    go_wp2_with fail
    go_ret
    exact ⟨ret_bool HB.out.symm, HK.out⟩
end
section
open Go Go.RowKit Go.Maps

def Msg.kept (m : Msg) : Msg := { m with r := true }
def setM (m : Msg) (l : List Msg) : List Msg := if m.p.data.toList = [] then del m.k l else put m.kept l
def setB (m : Msg) (l : List Msg) : List Msg := if mayB m then setM m l else l

theorem upd_after {F F' : List Nat} {w w1 w2 : World} (hk : Below w.heap.size w w1) (hu : Upd F F' w1 w2) : Upd F F' w w2 :=
  ⟨(Mod.of_below hk F).trans hu.1 (fun _ h => .inl h), fun k h => (hu.2 k h).imp id (fun h => Nat.le_trans hk.size h)⟩
set_option maxHeartbeats 1000000 in
theorem kset_no (g : Nat) (m : Msg) (w : World) (hT : Tabs w) (hs : m.t.size < 4294967281) (hq : 0 ≤ m.q) (hq2 : m.q < 256) (hm : mayB m = false) :
    Calls Tryz.prog 43 #[.pointer (some ⟨g, 0, none⟩), .agg #[.string m.t, .string m.p, .int .u8 m.q, .bool m.r]] w fun e w' => e = .returned (.bool false) ∧ Below w.heap.size w w' := by
  have hb : Below w.heap.size w (w.alloc (.cells #[.string m.t, .string m.p, .int .u8 m.q, .bool m.r] 24)) := (Below.refl _ _).alloc (Nat.le_refl _) _
  have HBW := Lib.hid hb
  have HM := Lib.hid (may_any m _ (hT.below hb) hs hq hq2)
  rw [hm] at HM
  clear hb hT
  obtain ⟨t, p, q, r⟩ := m
  dsimp only at *
  go_enter Tryz.func43, Tryz.ntmps43
  go_wp2_with fail
  refine HM.out.mono ?_
  rintro e w1 ⟨rfl, hk⟩
  have HK := Lib.hid (bnext HBW.out (by simp) hk)
  clear hk
  go_wp2_with fail
  go_ret
  exact ⟨rfl, HK.out⟩

set_option maxRecDepth 100000 in
set_option maxHeartbeats 2000000 in
theorem kset_yes (g : Nat) (m : Msg) (l : List Msg) (F : List Nat) (w : World) (h : KRep w g l F) (hT : Tabs w) (hs : m.t.size < 4294967281) (hq : 0 ≤ m.q) (hq2 : m.q < 256) (hm : mayB m = true) (hl : l.length < 1000000) :
    Calls Tryz.prog 43 #[.pointer (some ⟨g, 0, none⟩), .agg #[.string m.t, .string m.p, .int .u8 m.q, .bool m.r]] w fun e w' => e = .returned (.bool true) ∧ KRep w' g (setM m l) F ∧ Upd F F w w' := by
  have hb : Below w.heap.size w (w.alloc (.cells #[.string m.t, .string m.p, .int .u8 m.q, .bool m.r] 24)) := (Below.refl _ _).alloc (Nat.le_refl _) _
  have HBW := Lib.hid hb
  have HM := Lib.hid (may_any m _ (hT.below hb) hs hq hq2)
  have HR := Lib.hid (heap_alloc_new w (.cells #[.string m.t, .string m.p, .int .u8 m.q, .bool m.r] 24))
  have HKR := Lib.hid h
  rw [hm] at HM
  clear hb hT h hm
  have HSM : Hid (setM m l = if m.p.data.toList = [] then del m.k l else put m.kept l) := Lib.hid rfl
  obtain ⟨t, p, q, r⟩ := m
  dsimp only at *
  have hts : t.size ≤ maxLen := by unfold maxLen; omega
  have hkey := WideMaps.keyOf_string_mk Tryz.underlying9 hts
  go_enter Tryz.func43, Tryz.ntmps43
  go_wp2_with fail
  refine HM.out.mono ?_
  rintro e w1 ⟨rfl, hk⟩
  have hr1 : w1.heap[w.heap.size]? = _ := (hk.block w.heap.size (by simp)).trans HR.out
  have HR1 := Lib.hid hr1
  obtain ⟨r0, r1, r2, r3⟩ := cells4 hr1
  obtain ⟨f0, f1, f2, f3⟩ := free4 hr1
  have HK := Lib.hid (bnext HBW.out (by simp) hk)
  have hK1 := HKR.out.below HK.out
  obtain ⟨b, D, hg, hown, hH, hne, rfl⟩ := hK1
  have hgl : g < w.heap.size := HKR.out.lt g (by simp)
  have HG := Lib.hid hg
  have hT := hown.tidy kS
  have HH := Lib.hid hH
  have HTD := Lib.hid hT
  have c0 := cell_of_row w1 g 0 _ _ _ hg
  simp only [List.getElem?_toArray, List.getElem?_cons_zero] at c0
  clear hk hr1 hH hT hg
  by_cases hp : p.data.toList = []
  · have hp' : p = ⟨#[]⟩ := ba_ext hp
    have HS := Lib.hid (show setM ⟨t, p, q, r⟩ l = del t.data.toList l by rw [HSM.out]; simp [hp, Msg.k])
    subst hp'
    clear hp HSM
    go_wp2_with fail
    go_still_tail 6, (by kernel_rfl)
    change wpList _ _ _ _ _ w1.drew
    have hown1 := hown.drew
    go_wp2_with (first | (at_delete; refine wpList_delete_own _ rfl _ _ 97 9 rfl 24 kS Tryz.underlying97 _ b _ _ rfl hown1 _ _ rfl hkey ?_; intro w2 hown2 hturn2) | fail)
    go_ret
    obtain ⟨k1, k2⟩ := krep_turned (w := w1.drew) (l := del t.data.toList l) HG.out hne hown2 hturn2.grown (HH.out.del HTD.out _)
    exact ⟨rfl, by rw [HS.out]; exact k1, upd_after (HK.out.trans (by exact (Below.refl _ _).drew)) k2⟩
  · have HS := Lib.hid (show setM ⟨t, p, q, r⟩ l = put ⟨t, p, q, true⟩ l by rw [HSM.out]; simp [hp, Msg.kept])
    have hp1 : ¬ p.toList = [] := fun h => hp (by rw [← Lib.toList_data]; exact h)
    have hp2 : p.toList.isEmpty = false := by rw [List.isEmpty_eq_false_iff]; exact hp1
    have hsz : Maps.size D < maxLen := by rw [HH.out.1]; unfold maxLen; omega
    clear hp HSM
    go_wp2_with fail
    have hw2 : (w1.setCell ⟨w.heap.size, 3, none⟩ (.bool true)).heap[w.heap.size]? = some (.cells #[.string t, .string p, .int .u8 q, .bool true] 24 (0, 0)) := by
      have hr1 : w1.heap[w.heap.size]? = _ := HR1.out
      exact heap_setCell_same w1 w.heap.size 3 _ _ (.bool true) hr1
    obtain ⟨s0, s1, s2, s3⟩ := cells4 hw2
    have hne1 : g ≠ w.heap.size := by omega
    have hne2 : b ≠ w.heap.size := by have := HKR.out.lt b (by simp); omega
    have HG2 := Lib.hid (show (w1.setCell ⟨w.heap.size, 3, none⟩ (.bool true)).heap[g]? = some (.cells #[.map (some b)] 99 (0, 0)) by rw [Below.heap_setCell _ _ _ _ hne1]; exact HG.out)
    have c2 := cell_of_row _ g 0 _ _ _ HG2.out
    simp only [List.getElem?_toArray, List.getElem?_cons_zero] at c2
    have hown2 := hown.setCell (a := ⟨w.heap.size, 3, none⟩) hne2 (.bool true)
    have HBW2 := Lib.hid (show Below w.heap.size w (w1.setCell ⟨w.heap.size, 3, none⟩ (.bool true)) from HK.out.setCell (p := ⟨w.heap.size, 3, none⟩) (Nat.le_refl _) _)
    clear r0 r1 r2 r3 f0 f1 f2 f3 c0 hown hne1 hne2 hw2
    generalize w1.setCell ⟨w.heap.size, 3, none⟩ (.bool true) = w2 at *
    go_still_tail 7, (by kernel_rfl)
    change wpList _ _ _ _ _ w2.drew
    have hown3 := hown2.drew
    go_wp2_with (first | (at_mapUpdate; refine wpList_mapUpdate_own _ rfl _ _ _ 97 rfl 9 24 kS Tryz.underlying97 _ b _ _ rfl hown3 hsz _ _ _ rfl rfl hkey _ [] (msgElem_mk ⟨t, p, q, true⟩) ?_; intro w3 hown4 hgrow3) | fail)
    go_ret
    obtain ⟨k1, k2⟩ := krep_turned (w := w2.drew) (l := put ⟨t, p, q, true⟩ l) HG2.out hne hown4 hgrow3 (HH.out.put HTD.out ⟨t, p, q, true⟩)
    exact ⟨rfl, by rw [HS.out]; exact k1, upd_after (HBW2.out.trans (by exact (Below.refl _ _).drew)) k2⟩

end
end Go.Proofs.YthfdcphecggjeaaGreatDoor
