/- Calls that come in: their cells, what is known of them, their sizes. How this seat's rows are closed: the wrap with the world's shape and the sizes; the tables; calls that come in. -/
import Derived.Test.YtmkhagmjpbfieaaGreatDoorSeGX
import Derived.Test.YtmkhagmjpbfieaaGreatDoorOpen
import Derived.Test.YtmkhagmjpbfieaaGreatDoorPk
import Derived.SizedLaws
import Derived.Test.YtmkhagmjpbfieaaGreatDoorClose
import Derived.HandedShaped
import Derived.Lib.LaidU8
import Derived.LaidMore
import Derived.Lay
import Derived.LaidOnce
namespace Go.Proofs.YtmkhagmjpbfieaaGreatDoor
section
open Go Go.ChangeShapes Go.WideShapes Go.ChangeAt Go.RowKit Go.WideMaps Go.WideElems Go.Joins

/-- as FlatW, but the reading's weights are within reach -/
def FlatWS (P : Program) (w : World) (e : TypeId) {α : Type} (mk : α → List Value) (ok : α → Prop) : Prop :=
  ∀ (H : Type) (enc : TypeId × Value → H) (base : Nat) (sp : Nat → Bool) (held : Bool) (fuel : Nat) (cs : List Value) (x : DataW H × List MemPlace),
    DataW.trod enc P w base sp held fuel e cs = some x → (∀ n ∈ x.1.weights P e, n ≤ reachBytes) → ∃ a, cs = mk a ∧ ok a
section
variable {H : Type} {enc : TypeId × Value → H} {P : Program}
theorem trod_fieldS {t : TypeId} {fs : Array Field} {w : World} {base : Nat} {sp : Nat → Bool} {held : Bool} {fuel : Nat} {cs : List Value} {x : DataW H × List MemPlace} (ht : P.underlying t = some (.struct fs)) (h : DataW.trod enc P w base sp held fuel t cs = some x) (hr : ∀ n ∈ x.1.weights P t, n ≤ reachBytes) :
    ∃ n, cs.length = P.cellsOf t ∧ ∀ (i : Nat) (f : Field), fs[i]? = some f → ∃ y, DataW.trod enc P w base sp held n f.type ((cs.drop f.offset).take (P.cellsOf f.type)) = some y ∧ ∀ m ∈ y.1.weights P f.type, m ≤ reachBytes := by
  obtain ⟨xs, n, -, hx, hl, hs, hf⟩ := DataW.trod_struct ht h
  refine ⟨n, hl, fun i f hi => ?_⟩
  have h1 := hf i f hi
  have h2 : i < xs.length := by rw [hs]; exact (Array.getElem?_eq_some_iff.1 hi).1
  refine ⟨_, h1.trans (List.getElem?_eq_getElem h2), fun m hm => hr m ?_⟩
  rw [hx]
  simp only [DataW.weights, ht]
  exact DataW.weights_mem_each (j := i) (t := f.type) (d := xs[i].1) (by simp [List.getElem?_map, Array.getElem?_toList, hi]) (by simp [List.getElem?_map, List.getElem?_eq_getElem h2]) m hm
theorem weightsAll_mem {e : TypeId} {d : DataW H} {n : Nat} (hn : n ∈ d.weights P e) : ∀ {l : List (DataW H)}, d ∈ l → n ∈ DataW.weightsAll P e l
  | y :: r, h => by
    simp only [DataW.weightsAll, List.mem_append]
    rcases List.mem_cons.1 h with rfl | h
    · exact .inl hn
    · exact .inr (weightsAll_mem hn h)
theorem open_sliceWS {α : Type} {mk : α → List Value} {ok : α → Prop} {t e : TypeId} {W : World} {base : Nat} {sp : Nat → Bool} {held : Bool} {fuel : Nat} {cs : List Value} {x : DataW H × List MemPlace}
    (ht : P.underlying t = some (.slice e)) (hf : FlatWS P W e mk ok) (hlen : ∀ a, (mk a).length = P.cellsOf e) (hpos : 0 < P.cellsOf e) (h : DataW.trod enc P W base sp held fuel t cs = some x) (hr : ∀ n ∈ x.1.weights P t, n ≤ reachBytes) :
    ∃ a cap, ∃ l : List α, cs = [.slice a l.length cap] ∧ Row W a (l.flatMap mk) ∧ l.length ≤ cap ∧ cap ≤ maxLen ∧ ∀ x ∈ l, ok x := by
  rcases Go.Deep.open_slice ht h with ⟨hcs, -⟩ | ⟨ad, len, cap, m, n, D, Pl, rfl, -, hl, hm, hmm, hx, hi⟩
  · exact ⟨none, 0, [], hcs, .inl rfl, by simp, by simp, by simp⟩
  · have hml : len ≤ m := by rw [hmm]; split <;> omega
    have hall : ∀ i, i < len → ∃ x : α, ok x ∧ ∀ j, j < P.cellsOf e → W.cell? (ad.add (i * P.cellsOf e + j)) = (mk x)[j]? := by
      intro i him
      obtain ⟨cs', hc, htr⟩ := hi i (by omega)
      obtain ⟨x, rfl, hok⟩ := hf _ _ _ _ _ _ _ _ htr (fun n hn => hr n (by
        rw [hx]
        simp only [DataW.weights, ht, List.mem_cons, List.mem_append]
        exact .inr (.inl (weightsAll_mem hn (List.mem_map.2 ⟨i, List.mem_range.2 him, rfl⟩)))))
      obtain ⟨_, hcl, hat⟩ := World.cells?_some hc
      exact ⟨x, hok, fun j hj => by rw [← Go.Deep.add_add]; exact hat j hj⟩
    rcases Nat.eq_zero_or_pos len with h0 | h0
    · subst h0; exact ⟨some ad, cap, [], rfl, .inl rfl, by simp, hm, by simp⟩
    · obtain ⟨x0, hx0, hc0⟩ := hall 0 h0
      have hs : ad.spot = none := by
        have h1 := hc0 0 hpos
        rw [List.getElem?_eq_getElem (by rw [hlen]; exact hpos)] at h1
        rw [show ad.add (0 * P.cellsOf e + 0) = ad.add 0 from by simp, show ad.add 0 = ad from rfl] at h1
        unfold World.cell? at h1
        cases hq : ad.spot with
        | none => rfl
        | some x => rw [hq] at h1; split at h1 <;> simp at h1
      haveI : Inhabited α := ⟨x0⟩
      obtain ⟨f, hfx⟩ := Go.Deep.choose_lt hall
      refine ⟨some ad, cap, (List.range len).map f, by simp, .inr ⟨ad.block, ad.off, by rw [← hs], fun j u hj => ?_⟩, by simpa using hl, hm, ?_⟩
      · have hjl : j < len * P.cellsOf e := by
          have := (List.getElem?_eq_some_iff.1 hj).1
          rw [flatMap_len hlen] at this
          simpa using this
        have hr : j % P.cellsOf e < P.cellsOf e := Nat.mod_lt _ hpos
        have hd : j / P.cellsOf e < len := Nat.div_lt_of_lt_mul (by rw [Nat.mul_comm]; exact hjl)
        have hjj : j / P.cellsOf e * P.cellsOf e + j % P.cellsOf e = j := by rw [Nat.mul_comm]; exact Nat.div_add_mod j _
        have h1 := (hfx _ hd).2 _ hr
        rw [hjj] at h1
        have e1 : ad.add j = ⟨ad.block, ad.off + j, none⟩ := by unfold Addr.add; split <;> simp_all <;> (cases ad; simp_all)
        rw [e1] at h1
        rw [h1, ← hj, ← hjj, flatMap_at hlen _ _ _ hr, hjj]
        simp [hd]
      · intro x hx
        obtain ⟨i, hi', rfl⟩ := List.mem_map.1 hx
        exact (hfx i (by simpa using hi')).1
theorem open_listWS {α : Type} {mk : α → List Value} {ok : α → Prop} {r : Reach} {b0 : Nat} {t e : TypeId} {W : World} {v : Value} {d : DataW H} {ps : List MemPlace} {base : Nat} {sp : Nat → Bool} {held : Bool}
    (ht : P.underlying t = some (.slice e)) (hf : FlatWS P W e mk ok) (hlen : ∀ a, (mk a).length = P.cellsOf e) (hpos : 0 < P.cellsOf e)
    (hval : Value.okWide P W r b0 t v) (h : DataW.Trod enc P W base sp held t v d ps) (hr : ∀ n ∈ d.weights P t, n ≤ reachBytes) :
    ∃ a cap, ∃ l : List α, v = .slice a l.length cap ∧ Row W a (l.flatMap mk) ∧ l.length ≤ cap ∧ cap ≤ maxLen ∧ ∀ x ∈ l, ok x := by
  obtain ⟨a, len, cap, rfl⟩ := okWide_slice ht hval
  obtain ⟨fuel, hfu⟩ := h
  obtain ⟨a', cap', l, e1, h1⟩ := open_sliceWS ht hf hlen hpos hfu hr
  simp only [Value.cells, List.cons.injEq, and_true] at e1
  exact ⟨a', cap', l, e1, h1⟩
end
def Msg.okS (m : Msg) : Prop := m.t.size ≤ reachBytes ∧ m.p.size ≤ reachBytes ∧ 0 ≤ m.q ∧ m.q ≤ 255
set_option maxRecDepth 100000 in
theorem flat_msgS (W : World) : FlatWS Tryz.prog W 34 Msg.cells Msg.okS := by
  intro H enc base sp held fuel cs x h hw
  obtain ⟨m, rfl, -, -, q1, q2⟩ := flat_msg W H enc base sp held fuel cs x h
  obtain ⟨n, hl, hf⟩ := trod_fieldS Tryz.underlying34 h hw
  have z0 : Tryz.prog.cellsOf 9 = 1 := by kernel_rfl
  obtain ⟨y0, h0, g0⟩ := hf 0 _ rfl
  obtain ⟨y1, h1, g1⟩ := hf 1 _ rfl
  simp only [z0, Msg.cells, List.getElem_toArray, List.getElem_cons_zero, List.getElem_cons_succ, List.drop_zero, List.drop_succ_cons, List.take_succ_cons, List.take_zero] at h0 h1 g0 g1
  obtain ⟨v0, e0, x0, -⟩ := DataW.trod_string Tryz.underlying9 h0
  obtain ⟨v1, e1, x1, -⟩ := DataW.trod_string Tryz.underlying9 h1
  simp only [List.cons.injEq, Value.string.injEq, and_true] at e0 e1
  subst e0 e1
  rw [x0] at g0
  rw [x1] at g1
  refine ⟨m, rfl, ?_, ?_, q1, q2⟩
  · have := g0 m.t.data.toList.length (by simp [DataW.weights])
    simpa using this
  · have := g1 m.p.data.toList.length (by simp [DataW.weights])
    simpa using this
end
section
open Go Go.ChangeShapes Go.WideShapes Go.ChangeAt Go.RowKit Go.WideMaps Go.WideElems Go.Joins

section
variable {H : Type} {enc : TypeId × Value → H}
theorem returns_sized {a : Assume} {C : Checked} {os : Os} {f : FuncId} {fn : Func} {s : ChangeSpec} {conds : List PathCond} {apart fresh handsOn again : Bool} {X : World → Array Value → Prop}
    (hX : ∀ (w w' : World) (args : Array Value), w.heap = w'.heap → X w args → X w' args)
    (own : ownKnob C.prog.godebug = none) (started : os.Started) (noInit : C.prog.inits.idxOf? f = none) (hfn : C.prog.funcs[f]? = some fn)
    (witness : ∃ (w : World) (tape : Tape) (i : Input), w.os = os ∧ (w.forCall tape i).Shaped C.prog ∧ i.vars = [] ∧ Input.okWide C.prog (w.forCall tape i) .any w.heap.size f i ∧
      ((s.pre enc C.prog fn conds apart (w.forCall tape i).memory i.args ∧ X (w.forCall tape i).memory i.args) ∧ sizedMet enc C.prog fn (OpenSpec.ofChange s) apart (w.forCall tape i).memory i.args) ∧ a.holds C.prog (lone (Frame.enter C.prog f i.args .normal) [] (w.forCall tape i)))
    (contract : ∀ (W : World) (base : Nat) (args : Array Value) (ds gs : List (DataW H)) (before : List MemPlace),
      (∀ (j : Nat) t v, fn.params[j]? = some t → args[j]? = some v → Value.okWide C.prog W .any base t v) →
      DataW.Whole enc C.prog fn.params.toList s.vars apart W args.toList ds gs before → X W args → W.ShapedOpen C.prog →
      (DataW.weightsEach C.prog (fn.params.toList ++ (OpenSpec.ofChange s).bare.plain.varTypes C.prog) (ds ++ gs)).all (· ≤ reachBytes) = true →
      Calls C.prog f args W fun e W' => ∃ v, e = .returned v ∧ s.post enc C.prog fn apart fresh handsOn again W args v W') :
    ReturnsInHanded a C os f .any (fun w args => (s.pre enc C.prog fn conds apart w args ∧ X w args) ∧ sizedMet enc C.prog fn (OpenSpec.ofChange s) apart w args) (s.post enc C.prog fn apart fresh handsOn again) := by
  refine returnsInHanded_of_calls own started noInit witness ?_
  intro w tape i _ hsh _ hok hpre _
  obtain ⟨_, _, _, fn', hfn', _, _, _, _, hval⟩ := hok
  have e : fn' = fn := Option.some.inj (hfn'.symm.trans hfn)
  subst e
  obtain ⟨⟨⟨ds, gs, before, hw, hc⟩, hx⟩, hz⟩ := hpre
  have hs := hz.weights hw
  have hw' := DataW.Whole.of_heap (w' := w.forCall tape i) (by rfl) hw
  refine (contract (w.forCall tape i) w.heap.size i.args ds gs before hval hw' (hX _ _ _ (by rfl) hx) hsh hs).mono fun e W' ⟨v, he, hp⟩ => ?_
  subst he
  exact ChangeSpec.post_blind hp
end
theorem first_eq : Pinned.utf8First = Lib.firstData := by kernel_rfl
theorem accept_eq : Rows.laid_unicode_utf8_acceptRanges (H := Unit) = Lib.acceptData := by kernel_rfl
theorem bru_eq : Rows.laid_math_bits_deBruijn64tab (H := Unit) = Lib.tabData .u8 (bruL.map Int.ofNat) := by kernel_rfl
def laids : List (String × DataW Unit) := [("math/bits.deBruijn64tab", Rows.laid_math_bits_deBruijn64tab), ("unicode/utf8.acceptRanges", Rows.laid_unicode_utf8_acceptRanges), ("unicode/utf8.first", Rows.laid_unicode_utf8_first)]
theorem tabs_of {W : World} (hL : laidMet Tryz.prog laids W) (hS : W.ShapedOpen Tryz.prog) : Tabs W :=
  ⟨utf8Tabs_of_reads (ρ := Tryz.lays197_ren) { Tryz.lays197 with } ⟨by kernel_rfl, by kernel_rfl, by kernel_rfl, by kernel_rfl, by kernel_rfl, by kernel_rfl, by kernel_rfl⟩
    (first_eq ▸ Lib.laidMet.reads hL (.tail _ (.tail _ (.head _)))) (accept_eq ▸ Lib.laidMet.reads hL (.tail _ (.head _))), Tryz.laysM146.s1_3 W hS⟩
theorem bru_of {W : World} (hL : laidMet Tryz.prog laids W) : Bru W := by
  unfold laids at hL
  rw [bru_eq] at hL
  have h := Lib.tabIs_of_head (g := 0) (t := 161) (e := 5) (n := 64) (by kernel_rfl) (by kernel_rfl) Tryz.underlying161 Tryz.underlying5 (by kernel_rfl) (by kernel_rfl) hL
  intro c hc
  have hc' : c < bruL.length := hc
  have hl : c < (bruL.map Int.ofNat).length := by rw [List.length_map]; exact hc
  rw [h.cell (g := 0) (by kernel_rfl) c hl]
  simp [List.getD, List.getElem?_eq_getElem hc']
theorem split32 {cs : List Value} (h : cs.length = 32) : cs = (cs.take 1 ++ (cs.drop 1).take 1) ++ ((cs.drop 2).take 24 ++ ((cs.drop 26).take 2 ++ (cs.drop 28).take 4)) := by
  have h4 : (cs.drop 28).take 4 = cs.drop 28 := List.take_of_length_le (by rw [List.length_drop]; omega)
  have e3 : (cs.drop 26).take 2 ++ cs.drop 28 = cs.drop 26 := by
    have := List.take_append_drop 2 (cs.drop 26)
    rwa [List.drop_drop] at this
  have e2 : (cs.drop 2).take 24 ++ cs.drop 26 = cs.drop 2 := by
    have := List.take_append_drop 24 (cs.drop 2)
    rwa [List.drop_drop] at this
  have e1 : (cs.drop 1).take 1 ++ cs.drop 2 = cs.drop 1 := by
    have := List.take_append_drop 1 (cs.drop 1)
    rwa [List.drop_drop] at this
  rw [h4, e3, e2, List.append_assoc, e1, List.take_append_drop]
theorem act_len' (a : ActS) : (actC a).length = Tryz.prog.cellsOf 41 := (actC_len a).trans (show (32 : Nat) = Tryz.prog.cellsOf 41 by kernel_rfl)
theorem act_pos : 0 < Tryz.prog.cellsOf 41 := by rw [show Tryz.prog.cellsOf 41 = 32 by kernel_rfl]; decide
theorem reach_two : reachBytes + reachBytes ≤ 4611686018427387904 := by decide
set_option maxRecDepth 100000 in
set_option maxHeartbeats 1000000 in
theorem flat_act (W : World) : FlatWS Tryz.prog W 41 actC (ActPre W) := by
  intro H enc base sp held fuel cs x h hw
  obtain ⟨n, hl, hf⟩ := trod_fieldS Tryz.underlying41 h hw
  rw [show Tryz.prog.cellsOf 41 = 32 by kernel_rfl] at hl
  have z0 : Tryz.prog.cellsOf 5 = 1 := by kernel_rfl
  have z1 : Tryz.prog.cellsOf 3 = 1 := by kernel_rfl
  have z2 : Tryz.prog.cellsOf 37 = 24 := by kernel_rfl
  have z3 : Tryz.prog.cellsOf 39 = 2 := by kernel_rfl
  have z4 : Tryz.prog.cellsOf 34 = 4 := by kernel_rfl
  obtain ⟨y0, h0, -⟩ := hf 0 _ rfl
  obtain ⟨y1, h1, -⟩ := hf 1 _ rfl
  obtain ⟨y2, h2, -⟩ := hf 2 _ rfl
  obtain ⟨y3, h3, -⟩ := hf 3 _ rfl
  obtain ⟨y4, h4, g4⟩ := hf 4 _ rfl
  simp only [z0, z1, z2, z3, z4, List.getElem_toArray, List.getElem_cons_zero, List.getElem_cons_succ, List.drop_zero] at h0 h1 h2 h3 h4 g4
  obtain ⟨v0, e0, -, w0⟩ := DataW.trod_int Tryz.underlying5 h0
  obtain ⟨v1, e1, -, w1⟩ := DataW.trod_int Tryz.underlying3 h1
  obtain ⟨p, e2, k2⟩ := flat_pkt W _ _ _ _ _ _ _ _ h2
  obtain ⟨sb, e3, k3⟩ := flat_subE W _ _ _ _ _ _ _ _ h3
  obtain ⟨m, e4, k4⟩ := flat_msgS W _ _ _ _ _ _ _ _ h4 g4
  have b0 : 0 ≤ v0 ∧ v0 ≤ 255 := by simpa [Lit.wf, IntKind.min, IntKind.max, IntKind.signed, IntKind.bits] using w0
  obtain ⟨-, -, ki, -, -, -, -, -, -, -, -, -, ks, -⟩ := k2
  refine ⟨⟨v0, v1, p, sb, m⟩, ?_, ⟨b0.1, b0.2, k3.1, k3.2, k4.2.2.1, ki.1, ki.2, ?_, ks.1, Nat.le_trans ks.2.1 ks.2.2.1⟩⟩
  · rw [split32 hl, e0, e1, e2, e3, e4]
    rfl
  · have := k4.1
    have := k4.2.1
    have := reach_two
    show m.t.size + m.p.size ≤ _
    omega
/-- a config that comes in -/
theorem open_config {H : Type} {enc : TypeId × Value → H} {W : World} {base : Nat} {sp : Nat → Bool} {held : Bool} {v : Value} {d : DataW H} {ps : List MemPlace} (h : DataW.Trod enc Tryz.prog W base sp held 23 v d ps) :
    ∃ a b c d e : Int, v = .agg #[.int .i64 a, .int .i64 b, .int .i64 c, .int .i64 d, .int .i64 e] := by
  obtain ⟨fuel, hf⟩ := h
  obtain ⟨n, hl, hf⟩ := trod_field Tryz.underlying23 hf
  rw [show Tryz.prog.cellsOf 23 = 5 by kernel_rfl] at hl
  generalize hcs : v.cells.toList = cs at *
  obtain ⟨c0, r0, rfl, hl0⟩ := len_succ hl
  obtain ⟨c1, r1, rfl, hl1⟩ := len_succ hl0
  obtain ⟨c2, r2, rfl, hl2⟩ := len_succ hl1
  obtain ⟨c3, r3, rfl, hl3⟩ := len_succ hl2
  obtain ⟨c4, r4, rfl, hl4⟩ := len_succ hl3
  obtain rfl := List.eq_nil_of_length_eq_zero hl4
  have z1 : Tryz.prog.cellsOf 3 = 1 := by kernel_rfl
  obtain ⟨y0, h0⟩ := hf 0 _ rfl
  obtain ⟨y1, h1⟩ := hf 1 _ rfl
  obtain ⟨y2, h2⟩ := hf 2 _ rfl
  obtain ⟨y3, h3⟩ := hf 3 _ rfl
  obtain ⟨y4, h4⟩ := hf 4 _ rfl
  simp only [z1, List.getElem_toArray, List.getElem_cons_zero, List.getElem_cons_succ, List.drop_zero, List.drop_succ_cons, List.take_succ_cons, List.take_zero] at h0 h1 h2 h3 h4
  obtain ⟨v0, e0, -⟩ := DataW.trod_int Tryz.underlying3 h0
  obtain ⟨v1, e1, -⟩ := DataW.trod_int Tryz.underlying3 h1
  obtain ⟨v2, e2, -⟩ := DataW.trod_int Tryz.underlying3 h2
  obtain ⟨v3, e3, -⟩ := DataW.trod_int Tryz.underlying3 h3
  obtain ⟨v4, e4, -⟩ := DataW.trod_int Tryz.underlying3 h4
  simp only [List.cons.injEq, and_true] at e0 e1 e2 e3 e4
  subst e0 e1 e2 e3 e4
  refine ⟨v0, v1, v2, v3, v4, ?_⟩
  cases v <;> simp [Value.cells] at hcs
  rename_i cs
  rw [show cs = #[.int .i64 v0, .int .i64 v1, .int .i64 v2, .int .i64 v3, .int .i64 v4] from Array.toList_inj.1 (by simpa using hcs)]
end
end Go.Proofs.YtmkhagmjpbfieaaGreatDoor
