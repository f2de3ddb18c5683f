/- Calls that come in: their cells, what is known of them, their sizes. -/
import Derived.Test.YtmkhagmjpbfieaaGreatDoorSeGX
import Derived.Test.YtmkhagmjpbfieaaGreatDoorOpen
import Derived.Test.YtmkhagmjpbfieaaGreatDoorPk
import Derived.SizedLaws
namespace Go.Proofs.YtmkhagmjpbfieaaGreatDoor
open Go Go.ChangeShapes Go.WideShapes Go.ChangeAt Go.RowKit Go.WideMaps Go.WideElems Go.Joins

/-- as FlatW, but the reading's weights are within reach -/
def FlatWS (P : Program) (w : World) (e : TypeId) {α : Type} (mk : α → List Value) (ok : α → Prop) : Prop :=
  ∀ (H : Type) (enc : TypeId × Value → H) (base : Nat) (sp : Nat → Bool) (held : Bool) (fuel : Nat) (cs : List Value) (x : DataW H × List MemPlace),
    DataW.trod enc P w base sp held fuel e cs = some x → (∀ n ∈ x.1.weights P e, n ≤ reachBytes) → ∃ a, cs = mk a ∧ ok a
section
variable {H : Type} {enc : TypeId × Value → H} {P : Program}
theorem trod_fieldS {t : TypeId} {fs : Array Field} {w : World} {base : Nat} {sp : Nat → Bool} {held : Bool} {fuel : Nat} {cs : List Value} {x : DataW H × List MemPlace} (ht : P.underlying t = some (.struct fs)) (h : DataW.trod enc P w base sp held fuel t cs = some x) (hr : ∀ n ∈ x.1.weights P t, n ≤ reachBytes) :
    ∃ n, cs.length = P.cellsOf t ∧ ∀ (i : Nat) (f : Field), fs[i]? = some f → ∃ y, DataW.trod enc P w base sp held n f.type ((cs.drop f.offset).take (P.cellsOf f.type)) = some y ∧ ∀ m ∈ y.1.weights P f.type, m ≤ reachBytes := by
  obtain ⟨xs, n, -, hx, hl, hs, hf⟩ := DataW.trod_struct ht h
  refine ⟨n, hl, fun i f hi => ?_⟩
  have h1 := hf i f hi
  have h2 : i < xs.length := by rw [hs]; exact (Array.getElem?_eq_some_iff.1 hi).1
  refine ⟨_, h1.trans (List.getElem?_eq_getElem h2), fun m hm => hr m ?_⟩
  rw [hx]
  simp only [DataW.weights, ht]
  exact DataW.weights_mem_each (j := i) (t := f.type) (d := xs[i].1) (by simp [List.getElem?_map, Array.getElem?_toList, hi]) (by simp [List.getElem?_map, List.getElem?_eq_getElem h2]) m hm
theorem weightsAll_mem {e : TypeId} {d : DataW H} {n : Nat} (hn : n ∈ d.weights P e) : ∀ {l : List (DataW H)}, d ∈ l → n ∈ DataW.weightsAll P e l
  | y :: r, h => by
    simp only [DataW.weightsAll, List.mem_append]
    rcases List.mem_cons.1 h with rfl | h
    · exact .inl hn
    · exact .inr (weightsAll_mem hn h)
theorem open_sliceWS {α : Type} {mk : α → List Value} {ok : α → Prop} {t e : TypeId} {W : World} {base : Nat} {sp : Nat → Bool} {held : Bool} {fuel : Nat} {cs : List Value} {x : DataW H × List MemPlace}
    (ht : P.underlying t = some (.slice e)) (hf : FlatWS P W e mk ok) (hlen : ∀ a, (mk a).length = P.cellsOf e) (hpos : 0 < P.cellsOf e) (h : DataW.trod enc P W base sp held fuel t cs = some x) (hr : ∀ n ∈ x.1.weights P t, n ≤ reachBytes) :
    ∃ a cap, ∃ l : List α, cs = [.slice a l.length cap] ∧ Row W a (l.flatMap mk) ∧ l.length ≤ cap ∧ cap ≤ maxLen ∧ ∀ x ∈ l, ok x := by
  rcases Go.Deep.open_slice ht h with ⟨hcs, -⟩ | ⟨ad, len, cap, m, n, D, Pl, rfl, -, hl, hm, hmm, hx, hi⟩
  · exact ⟨none, 0, [], hcs, .inl rfl, by simp, by simp, by simp⟩
  · have hml : len ≤ m := by rw [hmm]; split <;> omega
    have hall : ∀ i, i < len → ∃ x : α, ok x ∧ ∀ j, j < P.cellsOf e → W.cell? (ad.add (i * P.cellsOf e + j)) = (mk x)[j]? := by
      intro i him
      obtain ⟨cs', hc, htr⟩ := hi i (by omega)
      obtain ⟨x, rfl, hok⟩ := hf _ _ _ _ _ _ _ _ htr (fun n hn => hr n (by
        rw [hx]
        simp only [DataW.weights, ht, List.mem_cons, List.mem_append]
        exact .inr (.inl (weightsAll_mem hn (List.mem_map.2 ⟨i, List.mem_range.2 him, rfl⟩)))))
      obtain ⟨_, hcl, hat⟩ := World.cells?_some hc
      exact ⟨x, hok, fun j hj => by rw [← Go.Deep.add_add]; exact hat j hj⟩
    rcases Nat.eq_zero_or_pos len with h0 | h0
    · subst h0; exact ⟨some ad, cap, [], rfl, .inl rfl, by simp, hm, by simp⟩
    · obtain ⟨x0, hx0, hc0⟩ := hall 0 h0
      have hs : ad.spot = none := by
        have h1 := hc0 0 hpos
        rw [List.getElem?_eq_getElem (by rw [hlen]; exact hpos)] at h1
        rw [show ad.add (0 * P.cellsOf e + 0) = ad.add 0 from by simp, show ad.add 0 = ad from rfl] at h1
        unfold World.cell? at h1
        cases hq : ad.spot with
        | none => rfl
        | some x => rw [hq] at h1; split at h1 <;> simp at h1
      haveI : Inhabited α := ⟨x0⟩
      obtain ⟨f, hfx⟩ := Go.Deep.choose_lt hall
      refine ⟨some ad, cap, (List.range len).map f, by simp, .inr ⟨ad.block, ad.off, by rw [← hs], fun j u hj => ?_⟩, by simpa using hl, hm, ?_⟩
      · have hjl : j < len * P.cellsOf e := by
          have := (List.getElem?_eq_some_iff.1 hj).1
          rw [flatMap_len hlen] at this
          simpa using this
        have hr : j % P.cellsOf e < P.cellsOf e := Nat.mod_lt _ hpos
        have hd : j / P.cellsOf e < len := Nat.div_lt_of_lt_mul (by rw [Nat.mul_comm]; exact hjl)
        have hjj : j / P.cellsOf e * P.cellsOf e + j % P.cellsOf e = j := by rw [Nat.mul_comm]; exact Nat.div_add_mod j _
        have h1 := (hfx _ hd).2 _ hr
        rw [hjj] at h1
        have e1 : ad.add j = ⟨ad.block, ad.off + j, none⟩ := by unfold Addr.add; split <;> simp_all <;> (cases ad; simp_all)
        rw [e1] at h1
        rw [h1, ← hj, ← hjj, flatMap_at hlen _ _ _ hr, hjj]
        simp [hd]
      · intro x hx
        obtain ⟨i, hi', rfl⟩ := List.mem_map.1 hx
        exact (hfx i (by simpa using hi')).1
theorem open_listWS {α : Type} {mk : α → List Value} {ok : α → Prop} {r : Reach} {b0 : Nat} {t e : TypeId} {W : World} {v : Value} {d : DataW H} {ps : List MemPlace} {base : Nat} {sp : Nat → Bool} {held : Bool}
    (ht : P.underlying t = some (.slice e)) (hf : FlatWS P W e mk ok) (hlen : ∀ a, (mk a).length = P.cellsOf e) (hpos : 0 < P.cellsOf e)
    (hval : Value.okWide P W r b0 t v) (h : DataW.Trod enc P W base sp held t v d ps) (hr : ∀ n ∈ d.weights P t, n ≤ reachBytes) :
    ∃ a cap, ∃ l : List α, v = .slice a l.length cap ∧ Row W a (l.flatMap mk) ∧ l.length ≤ cap ∧ cap ≤ maxLen ∧ ∀ x ∈ l, ok x := by
  obtain ⟨a, len, cap, rfl⟩ := okWide_slice ht hval
  obtain ⟨fuel, hfu⟩ := h
  obtain ⟨a', cap', l, e1, h1⟩ := open_sliceWS ht hf hlen hpos hfu hr
  simp only [Value.cells, List.cons.injEq, and_true] at e1
  exact ⟨a', cap', l, e1, h1⟩
end
def Msg.okS (m : Msg) : Prop := m.t.size ≤ reachBytes ∧ m.p.size ≤ reachBytes ∧ 0 ≤ m.q ∧ m.q ≤ 255
set_option maxRecDepth 100000 in
theorem flat_msgS (W : World) : FlatWS Tryz.prog W 34 Msg.cells Msg.okS := by
  intro H enc base sp held fuel cs x h hw
  obtain ⟨m, rfl, -, -, q1, q2⟩ := flat_msg W H enc base sp held fuel cs x h
  obtain ⟨n, hl, hf⟩ := trod_fieldS Tryz.underlying34 h hw
  have z0 : Tryz.prog.cellsOf 9 = 1 := by kernel_rfl
  obtain ⟨y0, h0, g0⟩ := hf 0 _ rfl
  obtain ⟨y1, h1, g1⟩ := hf 1 _ rfl
  simp only [z0, Msg.cells, List.getElem_toArray, List.getElem_cons_zero, List.getElem_cons_succ, List.drop_zero, List.drop_succ_cons, List.take_succ_cons, List.take_zero] at h0 h1 g0 g1
  obtain ⟨v0, e0, x0, -⟩ := DataW.trod_string Tryz.underlying9 h0
  obtain ⟨v1, e1, x1, -⟩ := DataW.trod_string Tryz.underlying9 h1
  simp only [List.cons.injEq, Value.string.injEq, and_true] at e0 e1
  subst e0 e1
  rw [x0] at g0
  rw [x1] at g1
  refine ⟨m, rfl, ?_, ?_, q1, q2⟩
  · have := g0 m.t.data.toList.length (by simp [DataW.weights])
    simpa using this
  · have := g1 m.p.data.toList.length (by simp [DataW.weights])
    simpa using this
end Go.Proofs.YtmkhagmjpbfieaaGreatDoor
