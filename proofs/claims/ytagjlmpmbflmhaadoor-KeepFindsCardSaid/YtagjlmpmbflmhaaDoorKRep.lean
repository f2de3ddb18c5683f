/- What is kept, how it lies in memory; New, Len, May walked. -/
import Derived.Test.YtagjlmpmbflmhaaDoorKMod
import Derived.Test.YtagjlmpmbflmhaaDoorMem3
import Derived.Test.YtagjlmpmbflmhaaDoorKTopic3
import Derived.Maps.OwnSet
import Derived.Maps.Ext
import Derived.Sort.KeysCollected
namespace Go.Proofs.YtagjlmpmbflmhaaDoor
open Go Go.RowKit Go.Maps

def Msg.dat (m : Msg) : DataW Unit := .agg [.lit (.string m.t.data.toList), .lit (.string m.p.data.toList), .lit (.int .u8 m.q), .lit (.bool m.r)]
def msgRead : List Value → Option (DataW Unit × List MemPlace)
  | [.string t, .string p, .int .u8 q, .bool r] => some ((⟨t, p, q, r⟩ : Msg).dat, [])
  | _ => none
def msgElem : Value → Option (DataW Unit × List MemPlace)
  | .agg cs => msgRead cs.toList
  | _ => none
theorem msgElem_mk (m : Msg) : msgElem m.val = some (m.dat, []) := rfl
theorem ba_ext {a b : ByteArray} (h : a.data.toList = b.data.toList) : a = b := ByteArray.ext (Array.toList_inj.1 h)
theorem dat_inj {a b : Msg} (h : a.dat = b.dat) : a = b := by
  obtain ⟨t, p, q, r⟩ := a
  obtain ⟨t', p', q', r'⟩ := b
  simp only [Msg.dat, DataW.agg.injEq, List.cons.injEq, DataW.lit.injEq, Lit.string.injEq, Lit.int.injEq, Lit.bool.injEq, true_and, and_true] at h
  obtain ⟨h1, h2, h3, h4⟩ := h
  rw [ba_ext h1, ba_ext h2, h3, h4]
theorem msgElem_inv {v : Value} {m : Msg} {ps : List MemPlace} (h : msgElem v = some (m.dat, ps)) : v = m.val := by
  unfold msgElem at h
  split at h
  · rename_i cs
    unfold msgRead at h
    split at h
    · rename_i t p q r hc
      simp only [Option.some.injEq, Prod.mk.injEq] at h
      have := dat_inj h.1
      subst this
      have : cs = #[.string t, .string p, .int .u8 q, .bool r] := Array.toList_inj.1 hc
      rw [this]; rfl
    · cases h
  · cases h
def orNone (o : Option Msg) : Msg := o.getD Msg.none

theorem owns_tightM {P : Program} {k : TypeId} {R : Value → Option (DataW Unit × List MemPlace)} {w : World} {b n : Nat} {D : DataW Unit} (h : w.ownsMap P k R b n D) : w.ownsMap P k R b (Maps.size D) D := by
  obtain ⟨es, clock, hb, F, hs, rfl⟩ := h
  exact ⟨es, clock, hb, F, by simp [Maps.size, length_sorted], rfl⟩

theorem kS : Keyed Tryd.prog 9 := string_keyed Tryd.underlying9
theorem zeroMsg (w : World) : (zeroValue 33).run Tryd.prog w = .ok Msg.none.val w := by kernel_rfl

/-- What a map has: the messages l, by topics. -/
def Has (D : DataW Unit) (l : List Msg) : Prop := Maps.size D = l.length ∧ (∀ t, Maps.has D (.string t) = (get t l).isSome) ∧ (∀ t m, get t l = some m → ∀ z, D.atKey (.string t) z = m.dat) ∧ Up l
theorem Has.nil : Has (.map []) [] := ⟨rfl, fun t => by simp [Maps.has, get], fun t m h => by simp [get] at h, List.Pairwise.nil⟩
theorem Has.put {D : DataW Unit} {l : List Msg} (h : Has D l) (hT : Tidy D) (m : Msg) : Has (D.put (.string m.k) m.dat) (put m l) := by
  obtain ⟨h1, h2, h3, h4⟩ := h
  have kl : WideAt.IsKeyLit (.string m.k) := trivial
  refine ⟨by rw [size_put hT, h2, len_put h4, h1], fun t => ?_, fun t x hx z => ?_, h4.put⟩
  · rw [get_put h4]
    by_cases e : t = m.k
    · subst e; rw [has_put_same hT.isMap kl]; simp
    · rw [has_put_other (by simpa using e), h2, if_neg e]
  · rw [get_put h4] at hx
    by_cases e : t = m.k
    · subst e; simp at hx; subst hx; rw [atKey_put_same hT.isMap kl]
    · rw [if_neg e] at hx; rw [atKey_put_other (by simpa using e)]; exact h3 t x hx z
theorem Has.del {D : DataW Unit} {l : List Msg} (h : Has D l) (hT : Tidy D) (u : List UInt8) : Has (D.del (.string u)) (del u l) := by
  obtain ⟨h1, h2, h3, h4⟩ := h
  refine ⟨?_, fun t => ?_, fun t x hx z => ?_, h4.del⟩
  · have a := size_del (k := .string u) hT
    have b := len_del (t := u) h4
    rw [h2] at a
    split at a <;> split at b <;> simp_all <;> omega
  · rw [get_del]
    by_cases e : t = u
    · subst e; rw [has_del_same]; simp
    · rw [has_del_other (by simpa using e), h2, if_neg e]
  · rw [get_del] at hx
    by_cases e : t = u
    · subst e; simp at hx
    · rw [if_neg e] at hx; rw [atKey_del_other (by simpa using e)]; exact h3 t x hx z
theorem Has.at {D : DataW Unit} {l : List Msg} (h : Has D l) (t : List UInt8) : D.atKey (.string t) Msg.none.dat = (orNone (get t l)).dat := by
  cases e : get t l with
  | some m => exact h.2.2.1 t m e _
  | none =>
    have := h.2.1 t
    rw [e] at this
    exact atKey_of_not_has this _

/-- What is kept lies at block g: it has the messages l, by topics; its blocks are F. -/
def KRep (w : World) (g : Nat) (l : List Msg) (F : List Nat) : Prop :=
  ∃ (b : Nat) (D : DataW Unit), w.heap[g]? = some (.cells #[.map (some b)] 48 (0, 0)) ∧ w.ownsMap Tryd.prog 9 msgElem b (Maps.size D) D ∧ Has D l ∧ b ≠ g ∧ F = [g, b]
theorem KRep.lt {w : World} {g : Nat} {l : List Msg} {F : List Nat} (h : KRep w g l F) : ∀ k ∈ F, k < w.heap.size := by
  obtain ⟨b, D, hg, hown, _, _, rfl⟩ := h
  intro k hk
  simp at hk
  rcases hk with rfl | rfl
  · exact (Array.getElem?_eq_some_iff.1 hg).1
  · exact hown.lt
theorem KRep.mod {S : List Nat} {w w' : World} {g : Nat} {l : List Msg} {F : List Nat} (h : KRep w g l F) (hm : Mod S w w') (hS : ∀ k ∈ F, k ∉ S) : KRep w' g l F := by
  have hl := h.lt
  obtain ⟨b, D, hg, ⟨es, clock, hb, r⟩, h1, h2, rfl⟩ := h
  exact ⟨b, D, by rw [hm.block g (hl g (by simp)) (hS g (by simp))]; exact hg, ⟨es, clock, by rw [hm.block b (hl b (by simp)) (hS b (by simp))]; exact hb, r⟩, h1, h2, rfl⟩
theorem KRep.below {w w' : World} {g : Nat} {l : List Msg} {F : List Nat} (h : KRep w g l F) (hk : Below w.heap.size w w') : KRep w' g l F := h.mod (Mod.of_below hk []) (by simp)
theorem KRep.drewN {w : World} {g : Nat} {l : List Msg} {F : List Nat} (h : KRep w g l F) (n : Nat) : KRep (w.drewN n) g l F := h
theorem KRep.up {w : World} {g : Nat} {l : List Msg} {F : List Nat} (h : KRep w g l F) : Up l := by obtain ⟨b, D, _, _, ⟨_, _, _, h⟩, _⟩ := h; exact h

/-- What a store into the map's block leaves. -/
theorem krep_turned {w w' : World} {g m n : Nat} {D : DataW Unit} {l : List Msg} (hg : w.heap[g]? = some (.cells #[.map (some m)] 48 (0, 0))) (hne : m ≠ g) (hown : w'.ownsMap Tryd.prog 9 msgElem m n D) (ht : w.grownBy w' (some m))
    (h1 : Has D l) : KRep w' g l [g, m] ∧ Upd [g, m] [g, m] w w' :=
  ⟨⟨m, D, by rw [ht.block g (Array.getElem?_eq_some_iff.1 hg).1 (by simpa using fun e => hne e.symm)]; exact hg, owns_tightM hown, h1, hne, rfl⟩,
    (Mod.refl _ _).grown ht (fun k hk => by cases hk; left; simp), fun k hk => .inl hk⟩

theorem knew (w : World) : Calls Tryd.prog 11 #[] w fun e w' => ∃ g F, e = .returned (.pointer (some ⟨g, 0, none⟩)) ∧ KRep w' g [] F ∧ Upd [] F w w' := by
  have hmm := @run_makeMap Tryd.prog
  go_enter Tryd.func11, Tryd.ntmps11
  go_wp2_with fail
  go_ret
  refine ⟨w.heap.size + 1, [w.heap.size + 1, w.heap.size], rfl, ⟨w.heap.size, .map [], by simpa using heap_alloc_new (w.alloc (.map #[] 0)) (.cells #[.map (some w.heap.size)] 48), (World.ownsMap_made w _ _ _).alloc _, Has.nil, by omega, rfl⟩, ((Mod.refl _ _).alloc _).alloc _, fun k hk => .inr ?_⟩
  simp at hk
  omega

def mayB (m : Msg) : Bool := nameB m.k && decide (m.q ≤ 2)
set_option maxHeartbeats 1000000 in
theorem may_any (m : Msg) (w : World) (hT : Tabs w) (hs : m.t.size < 4294967281) (hq : 0 ≤ m.q) (hq2 : m.q < 256) :
    Calls Tryd.prog 23 #[.agg #[.string m.t, .string m.p, .int .u8 m.q, .bool m.r]] w fun e w' => e = .returned (.bool (mayB m)) ∧ Below w.heap.size w w' := by
  obtain ⟨t, p, q, r⟩ := m
  have HB : Hid (mayB ⟨t, p, q, r⟩ = (nameB t.data.toList && decide (q ≤ 2))) := Lib.hid rfl
  have hb : Below w.heap.size w (w.alloc (.cells #[.string t, .string p, .int .u8 q, .bool r] 33)) := (Below.refl _ _).alloc (Nat.le_refl _) _
  have HBW := Lib.hid hb
  have HN := Lib.hid (name_any t _ (hT.below hb) hs)
  have hr := heap_alloc_new w (.cells #[.string t, .string p, .int .u8 q, .bool r] 33)
  have HR := Lib.hid hr
  clear hb hr hT
  obtain ⟨b, hbn⟩ : ∃ b, nameB t.data.toList = b := ⟨_, rfl⟩
  rw [hbn] at HN HB
  clear hbn
  go_enter Tryd.func23, Tryd.ntmps23
  go_wp2_with fail
  refine HN.out.mono ?_
  rintro e w1 ⟨rfl, hk⟩
  have hr1 : w1.heap[w.heap.size]? = _ := (hk.block w.heap.size (by simp)).trans HR.out
  obtain ⟨r0, r1, r2, r3⟩ := cells4 hr1
  have HK := Lib.hid (bnext HBW.out (by simp) hk)
  clear hk hr1
  cases b with
  | true =>
    obtain ⟨c, hc⟩ : ∃ c, decide (q ≤ 2) = c := ⟨_, rfl⟩
    rw [hc] at HB
    go_wp2_with fail
    go_ret
    exact ⟨ret_bool HB.out.symm, HK.out⟩
  | false =>
    go_wp2_with fail
    go_ret
    exact ⟨ret_bool HB.out.symm, HK.out⟩

theorem klen_any (g : Nat) (l : List Msg) (F : List Nat) (w : World) (h : KRep w g l F) :
    Calls Tryd.prog 25 #[.pointer (some ⟨g, 0, none⟩)] w fun e w' => e = .returned (.int .i64 l.length) ∧ Below w.heap.size w w' := by
  obtain ⟨m, D, hg, hown, ⟨h1, -⟩, h5, -⟩ := h
  have c0 := cell_of_row w g 0 _ _ _ hg
  simp only [List.getElem?_toArray, List.getElem?_cons_zero] at c0
  have hlen := hown.len Tryd.underlying46
  clear hg
  go_enter Tryd.func25, Tryd.ntmps25
  go_wp2_with fail
  go_ret
  exact ⟨ret_int (by omega), Below.refl _ _⟩
theorem klen_nil (w : World) : Calls Tryd.prog 25 #[.pointer none] w fun e w' => e = .returned (.int .i64 0) ∧ w = w' := by
  go_enter Tryd.func25, Tryd.ntmps25
  go_wp2_with fail
  go_ret
  exact ⟨rfl, rfl⟩
end Go.Proofs.YtagjlmpmbflmhaaDoor
