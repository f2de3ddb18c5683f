/- The trie: All: what the walk carries. -/
import Derived.Test.YtcnjgenacpkdbaaDoorRMatch3
import Derived.Test.YtcnjgenacpkdbaaDoorRJoin
import Derived.Deep.AppendLies
import Derived.ArgAppend
namespace Go.Proofs.YtcnjgenacpkdbaaDoor
open Go Go.RowKit Go.Maps

theorem T_hint : ElemT Tryd.prog 29 49 (.agg #[.string ⟨#[]⟩, .string ⟨#[]⟩]) 2 32 := ⟨Tryd.underlying29, by kernel_rfl, rfl, by decide⟩
abbrev Hint := Str × Str
def hintCells (h : Hint) : List Value := [.string ⟨h.1.toArray⟩, .string ⟨h.2.toArray⟩]
def hintsV (l : List Hint) : List Value := l.flatMap hintCells
theorem hintsV_length (l : List Hint) : (hintsV l).length = l.length * 2 := by
  induction l with
  | nil => rfl
  | cons a r ih => simp only [hintsV, List.flatMap_cons, List.length_append, List.length_cons] at *; rw [ih]; simp [hintCells]; omega
theorem hintsV_append (a b : List Hint) : hintsV (a ++ b) = hintsV a ++ hintsV b := List.flatMap_append ..
theorem hintsV_at {l : List Hint} {i : Nat} (h : i < l.length) : (hintsV l)[i * 2]? = some (.string ⟨l[i].1.toArray⟩) ∧ (hintsV l)[i * 2 + 1]? = some (.string ⟨l[i].2.toArray⟩) := by
  induction l generalizing i with
  | nil => simp at h
  | cons a r ih =>
    cases i with
    | zero => exact ⟨rfl, rfl⟩
    | succ i =>
      have := @ih i (by simpa using h)
      rw [show (i + 1) * 2 = i * 2 + 1 + 1 by omega]
      simpa [hintsV, hintCells] using this
/-- the text of a path -/
def joinP (p : Path) : Str := Lib.join p [47]
theorem joinP_cons2 (x y : Str) (r : Path) : joinP (x :: y :: r) = x ++ 47 :: joinP (y :: r) := by
  unfold joinP
  rw [Lib.join_cons, Lib.join_cons]
  simp [Lib.joinTail]
theorem joinP_levels : ∀ s : Str, joinP (levels s) = s
  | [] => by simp [levels, joinP, Lib.join_one]
  | c :: r => by
    have ih := joinP_levels r
    by_cases hc : c = 47
    · subst hc
      rw [levels_cons_sep]
      obtain ⟨x, t, hx⟩ := List.exists_cons_of_ne_nil (levels_ne r)
      rw [hx, joinP_cons2, ← hx, ih]; rfl
    · obtain ⟨x, t, hx⟩ := List.exists_cons_of_ne_nil (levels_ne r)
      rw [levels_cons hc hx]
      rw [hx] at ih
      cases t with
      | nil => unfold joinP at *; rw [Lib.join_one] at *; rw [ih]
      | cons y t => rw [joinP_cons2] at *; rw [← ih]; rfl
def asHint (h : Path × Str) : Hint := (joinP h.1, h.2)

/-- All that does not hold hints, but the row's own box, is kept. -/
structure KH (n0 bo : Nat) (W W' : World) : Prop where
  below : Below n0 W W'
  keeps : ∀ b o, b ≠ bo → (∀ cs fr, o ≠ .cells cs 49 fr) → W.heap[b]? = some o → W'.heap[b]? = some o
variable {n0 bo : Nat} {W W1 W2 : World}
theorem KH.refl : KH n0 bo W W := ⟨Below.refl _ _, fun _ _ _ _ h => h⟩
theorem KH.trans (h : KH n0 bo W W1) (k : KH n0 bo W1 W2) : KH n0 bo W W2 := ⟨h.below.trans k.below, fun b o h1 h2 h3 => k.keeps b o h1 h2 (h.keeps b o h1 h2 h3)⟩
theorem KH.of_below (hn : n0 ≤ W.heap.size) (h : Below W.heap.size W W1) : KH n0 bo W W1 := ⟨h.mono hn, fun b o _ _ h3 => by rw [h.block b (Array.getElem?_eq_some_iff.1 h3).1]; exact h3⟩
theorem KH.size (h : KH n0 bo W W1) (hn : n0 ≤ W.heap.size) : n0 ≤ W1.heap.size := Nat.le_trans hn h.below.size
theorem KH.iter {r : Nat} (h : KH n0 bo W W1) (hg : W1.grownBy W2 (some r)) (hr : W.heap.size ≤ r) (hn : n0 ≤ W.heap.size) : KH n0 bo W W2 :=
  ⟨h.below.grown hg (h.size hn) (fun k hk => by cases hk; omega), fun b o h1 h2 h3 => by
    have hl := (Array.getElem?_eq_some_iff.1 h3).1
    have hl1 := (Array.getElem?_eq_some_iff.1 (h.keeps b o h1 h2 h3)).1
    rw [hg.block b hl1 (fun e => by have := Option.some.inj e; omega)]; exact h.keeps b o h1 h2 h3⟩
theorem KH.made {W2 : World} {r : Option Nat} (h : KH n0 bo W W1) (hg : W1.grownBy W2 r) (hr : ∀ k, r = some k → W1.heap.size ≤ k) (hn : n0 ≤ W.heap.size) : KH n0 bo W W2 :=
  ⟨h.below.grown hg (h.size hn) (fun k hk => by have := hr k hk; have := h.size hn; omega), fun b o h1 h2 h3 => by
    have hl1 := (Array.getElem?_eq_some_iff.1 (h.keeps b o h1 h2 h3)).1
    rw [hg.block b hl1 (fun e => by have := hr b e.symm; omega)]; exact h.keeps b o h1 h2 h3⟩
/-- the row of what is told -/
def OutAt (n0 bo : Nat) (W : World) (acc : List (Path × Str)) : Prop :=
  n0 ≤ bo ∧ ∃ v, W.heap[bo]? = some (.cells #[v] 29 (0, 0)) ∧ W.ownsRow n0 49 2 v acc.length (hintsV (acc.map asHint))
theorem OutAt.local {acc : List (Path × Str)} (h : OutAt n0 bo W acc) (hb : ∀ (b : Nat) (cs : Array Value) (t : TypeId) (fr : Nat × Nat), W.heap[b]? = some (Obj.cells cs t fr) → W1.heap[b]? = some (Obj.cells cs t fr)) : OutAt n0 bo W1 acc := by
  obtain ⟨hn, v, h1, h2⟩ := h
  refine ⟨hn, v, hb _ _ _ _ h1, ownsRow_local h2 (fun k hk => ?_)⟩
  rcases h2.2 with ⟨rfl, -⟩ | ⟨g, cap, cur, rfl, -, hg, -⟩
  · simp [Value.ownBlock] at hk
  · obtain rfl : g = k := by simpa [Value.ownBlock] using hk
    rw [hg]; exact hb _ _ _ _ hg
theorem OutAt.below {acc : List (Path × Str)} (h : OutAt n0 bo W acc) (hb : Below W.heap.size W W1) : OutAt n0 bo W1 acc :=
  h.local fun b cs t fr h3 => by rw [hb.block b (Array.getElem?_eq_some_iff.1 h3).1]; exact h3
theorem ranges_iter {k : TypeId} {R : Value → Option (DataW Unit × List MemPlace)} {b r n cnt : Nat} {D : DataW Unit} {left : Lit → Bool} (h : W.ranges Tryd.prog k R b r n D left cnt) : ∃ m a s c, W.heap[r]? = some (.mapIter m a s c) := by
  obtain ⟨es, clock, since, seen, c0, a1, a2, a3, a4, a5, a6⟩ := h
  exact ⟨_, _, _, _, a5⟩
theorem OutAt.iter {acc : List (Path × Str)} {r : Nat} {k : TypeId} {R : Value → Option (DataW Unit × List MemPlace)} {b n cnt : Nat} {D : DataW Unit} {left : Lit → Bool} (h : OutAt n0 bo W acc) (hg : W.grownBy W1 (some r)) (hi : W.ranges Tryd.prog k R b r n D left cnt) : OutAt n0 bo W1 acc :=
  h.local fun b cs t fr h3 => by
    obtain ⟨m, a, s, c, hr⟩ := ranges_iter hi
    rw [hg.block b (Array.getElem?_eq_some_iff.1 h3).1 (fun e => by cases e; rw [h3] at hr; cases hr)]; exact h3
theorem OutAt.made {acc : List (Path × Str)} {r : Option Nat} (h : OutAt n0 bo W acc) (hg : W.grownBy W1 r) (hr : ∀ k, r = some k → W.heap.size ≤ k) : OutAt n0 bo W1 acc :=
  h.local fun b cs t fr h3 => by
    have hl := (Array.getElem?_eq_some_iff.1 h3).1
    rw [hg.block b hl (fun e => by have := hr b e.symm; omega)]; exact h3
theorem ranges_keep {k : TypeId} {R : Value → Option (DataW Unit × List MemPlace)} {b r n cnt : Nat} {D : DataW Unit} {left : Lit → Bool} (h : W.ranges Tryd.prog k R b r n D left cnt) (h1 : W1.heap[b]? = W.heap[b]?) (h2 : W1.heap[r]? = W.heap[r]?) : W1.ranges Tryd.prog k R b r n D left cnt := by
  obtain ⟨es, clock, since, seen, c0, a1, a2, a3, a4, a5, a6⟩ := h
  exact ⟨es, clock, since, seen, c0, h1.trans a1, a2, a3, a4, h2.trans a5, a6⟩
theorem KH.ranges {k : TypeId} {R : Value → Option (DataW Unit × List MemPlace)} {b r n cnt : Nat} {D : DataW Unit} {left : Lit → Bool} (hk : KH n0 bo W W1) (hb : b ≠ bo) (hr : r ≠ bo) (h : W.ranges Tryd.prog k R b r n D left cnt) : W1.ranges Tryd.prog k R b r n D left cnt := by
  obtain ⟨es, clock, since, seen, c0, a1, a2, a3, a4, a5, a6⟩ := id h
  exact ranges_keep h ((hk.keeps b _ hb (by simp) a1).trans a1.symm) ((hk.keeps r _ hr (by simp) a5).trans a5.symm)
theorem below_drew1 (w : World) : Below w.heap.size w w.drew := drewN_below w 1
theorem ownsRow_low {w w' : World} {B : Nat} {e : TypeId} {size n : Nat} {v : Value} {xs : List Value} (h : w.ownsRow B e size v n xs) (hb : Below w.heap.size w w') : w'.ownsRow B e size v n xs :=
  ownsRow_local h fun k hk => hb.block k (h.lt k hk).2
theorem out_ne {v : Value} {n : Nat} {xs : List Value} (hv : W.heap[bo]? = some (.cells #[v] 29 (0, 0))) (hrow : W.ownsRow n0 49 2 v n xs) : v.ownBlock ≠ some bo := by
  intro hk
  rcases hrow.2 with ⟨rfl, -⟩ | ⟨g', cap', cur, rfl, hb', hgb, -⟩
  · simp [Value.ownBlock] at hk
  · obtain rfl : g' = bo := by simpa [Value.ownBlock] using hk
    rw [hv] at hgb
    simp at hgb
/-- one hint more -/
theorem out_app {acc : List (Path × Str)} {h : Path × Str} {v : Value} {g cap : Nat} {tmp : Obj} (hn : n0 ≤ bo) (hv : W.heap[bo]? = some (.cells #[v] 29 (0, 0))) (hrow : W.ownsRow n0 49 2 v acc.length (hintsV (acc.map asHint)))
    (hown : W1.ownsRow n0 49 2 (.slice (some ⟨g, 0, none⟩) (acc.length + 1) cap) (acc.length + 1) (hintsV (acc.map asHint) ++ hintCells (asHint h))) (hgrow : (W.alloc tmp).grownBy W1 v.ownBlock) (hn0 : n0 ≤ W.heap.size) :
    OutAt n0 bo (W1.setCell ⟨bo, 0, none⟩ (.slice (some ⟨g, 0, none⟩) (acc.length + 1) cap)) (acc ++ [h]) ∧ KH n0 bo W (W1.setCell ⟨bo, 0, none⟩ (.slice (some ⟨g, 0, none⟩) (acc.length + 1) cap)) := by
  have hbl := (Array.getElem?_eq_some_iff.1 hv).1
  have hrowb : ∀ k, v.ownBlock = some k → n0 ≤ k ∧ k < W.heap.size ∧ ∃ cur, W.heap[k]? = some (.cells cur 49 (0, 0)) := by
    intro k hk
    rcases hrow.2 with ⟨rfl, -⟩ | ⟨g', cap', cur, rfl, hb', hgb, -⟩
    · simp [Value.ownBlock] at hk
    · obtain rfl : g' = k := by simpa [Value.ownBlock] using hk
      exact ⟨hb', (Array.getElem?_eq_some_iff.1 hgb).1, cur, hgb⟩
  have hne : v.ownBlock ≠ some bo := fun e => by
    obtain ⟨_, _, cur, hc⟩ := hrowb _ e
    rw [hv] at hc
    simp at hc
  have h1 := grown_keep hgrow hv hne
  have hgbo : g ≠ bo := by
    rintro rfl
    rcases hown.2 with ⟨hnil, -⟩ | ⟨g', cap', cur, hv', hb', hgb, -⟩
    · cases hnil
    · cases hv'
      rw [h1] at hgb
      simp at hgb
  refine ⟨⟨hn, .slice (some ⟨g, 0, none⟩) (acc.length + 1) cap, ?_, ?_⟩, ?_, ?_⟩
  · rw [heap_setCell_same _ _ 0 _ _ _ h1]; rfl
  · rw [List.length_append, List.map_append, hintsV_append]
    refine ownsRow_local (w := W1) (by simpa [hintsV] using hown) (fun k hk => ?_)
    obtain rfl : g = k := by simpa [Value.ownBlock] using hk
    exact Below.heap_setCell _ _ _ _ hgbo
  · have hb : Below n0 W W1 := ((Below.refl _ W).alloc hn0 tmp).grown hgrow (by simp; omega) (fun k hk => (hrowb k hk).1)
    exact hb.setCell hn _
  · intro b o hb ho h3
    have hl := (Array.getElem?_eq_some_iff.1 h3).1
    rw [Below.heap_setCell _ _ _ _ hb, hgrow.block b (by simp; omega) (fun e => ?_), Below.heap_alloc _ _ _ hl]
    · exact h3
    · obtain ⟨_, _, cur, hc⟩ := hrowb _ e.symm
      rw [h3] at hc
      exact ho _ _ (Option.some.inj hc)
/-- the levels on the way -/
def PathAt (bo : Nat) (W : World) (v : Value) (p : Path) : Prop :=
  (p = [] ∧ v = .slice none 0 0) ∨ ∃ b c cs fr, v = .slice (some ⟨b, 0, none⟩) p.length c ∧ p.length ≤ c ∧ b ≠ bo ∧ W.heap[b]? = some (.cells cs 9 fr) ∧ cs.toList.take p.length = strs p
theorem PathAt.kept {v : Value} {p : Path} (h : PathAt bo W v p) (hk : KH n0 bo W W1) : PathAt bo W1 v p := by
  rcases h with h | ⟨b, c, cs, fr, h1, h2, h3, h4, h5⟩
  · exact .inl h
  · exact .inr ⟨b, c, cs, fr, h1, h2, h3, hk.keeps b _ h3 (by simp) h4, h5⟩
theorem strs_len (p : Path) : (strs p).length = p.length := by simp [strs]
theorem PathAt.cells {v : Value} {p : Path} (h : PathAt bo W v p) (hp : p ≠ []) : ∃ b c, v = .slice (some ⟨b, 0, none⟩) (p.map (fun x => (⟨x.toArray⟩ : ByteArray))).length c ∧ p.length ≤ c ∧ b < W.heap.size ∧ ∀ j x, (p.map (fun x => (⟨x.toArray⟩ : ByteArray)))[j]? = some x → W.cell? ⟨b, 0 + j, none⟩ = some (.string x) := by
  rcases h with ⟨h, -⟩ | ⟨b, c, cs, fr, rfl, h2, h3, h4, h5⟩
  · exact absurd h hp
  · refine ⟨b, c, by simp, h2, (Array.getElem?_eq_some_iff.1 h4).1, fun j x hj => ?_⟩
    rw [Nat.zero_add, cell_of_row W b j _ _ _ h4]
    have hjl : j < p.length := by have := (List.getElem?_eq_some_iff.1 hj).1; simpa using this
    have h6 : (strs p)[j]? = some (.string x) := by
      rw [List.getElem?_map] at hj
      obtain ⟨y, hy, rfl⟩ := Option.map_eq_some_iff.1 hj
      simp [strs, hy]
    rw [← h5, List.getElem?_take_of_lt hjl] at h6
    simpa using h6
theorem tjoin_any {v : Value} {p : Path} (h : PathAt bo W v p) (hp : p ≠ []) (hl : p.length ≤ 1000000) (hj : (joinP p).length ≤ 1000000) :
    Calls Tryd.prog 24 #[v] W fun e w' => e = .returned (.string ⟨(joinP p).toArray⟩) ∧ Below W.heap.size W w' := by
  obtain ⟨b, c, rfl, hc, hb, hcells⟩ := h.cells hp
  have hmap : (p.map (fun x => (⟨x.toArray⟩ : ByteArray))).map (·.data.toList) = p := by rw [List.map_map]; exact List.map_id _
  have H := Lib.hid (Tryd.strings_Join b 0 c (p.map (fun x => (⟨x.toArray⟩ : ByteArray))) ⟨#[47]⟩ W hcells hb (by simp; omega) (by simpa using hc) (by rw [hmap]; show (joinP p).length ≤ _; omega))
  have hsep : (⟨#[47]⟩ : ByteArray).data.toList = [47] := rfl
  rw [hmap, hsep] at H
  have HE : Hid (Lib.join p [47] = joinP p) := Lib.hid rfl
  clear hcells hmap hl hj
  generalize (p.map (fun x => (⟨x.toArray⟩ : ByteArray))).length = n at H ⊢
  generalize Lib.join p [47] = jp at H HE
  go_enter Tryd.func24, Tryd.ntmps24
  go_wp2_with fail
  refine H.out.mono ?_
  rintro e w1 ⟨rfl, hk⟩
  go_wp2_with fail
  go_ret
  exact ⟨by rw [← HE.out]; rfl, hk⟩
theorem T_strs : ElemT Tryd.prog 25 9 (.string ⟨#[]⟩) 1 16 := ⟨Tryd.underlying25, by kernel_rfl, rfl, by decide⟩
/-- 'append(s[:len:len], x)' as one step of a region that draws its order: a row of its own. -/
theorem step_grows {P : Program} {t e : TypeId} {z : Value} {size bytes : Nat} (E : ElemT P t e z size bytes) {W : World} {ao : Option Addr} {n : Nat} {olds : List Value} (hnone : ao = none → n = 0) (hlo : olds.length = n * size)
    (holds : ∀ b, ao = some b → ∀ j u, olds[j]? = some u → W.cell? (b.add j) = some u)
    {b m c : Nat} {cur : Array Value} {t' : TypeId} {fr : Nat × Nat} (hblk : W.heap[b]? = some (.cells cur t' fr))
    {ops : Array Oper} {o : Oper} {a : Act} {K : Act → World → Prop} {Q : Exit → Act → World → Prop} {E' : Prop} (hgd : o.guard = none) {s x : Operand}
    (ho : o.op = .call { callee := .builtin .append, args := #[s, x], argTypes := #[t, t] }) (hs : a.eval s = .slice ao n n) (hx : a.eval x = .slice (some ⟨b, 0, none⟩) m c)
    (hc : cur.size = m * size) (hm : 0 < m) (h1 : ∀ u ∈ cur.toList, u.oneCell' = true) (hbytes : (n + m) * bytes ≤ 140737488355328) (hn : n + m < 140737488355328)
    (h : ∀ v' w', w'.ownsRow W.heap.size e size v' (n + m) (olds ++ cur.toList) → W.grownBy w' none → K (a.put o.dst v') w') :
    if Region.wanted o (yielded ops a.tmps) = true then Oper.wp P o a W K Q else E' := by
  obtain ⟨i0, hi, hz0, hz1, hz2⟩ := info_parts E.hi
  have hw : Region.wanted o (yielded ops a.tmps) = true := by simp [Region.wanted, hgd]
  rw [if_pos hw]
  have hnews : ∀ j u, cur.toList[j]? = some u → W.cell? ((⟨b, 0, none⟩ : Addr).add j) = some u := World.news_of_block hblk
  cases ao with
  | some ad =>
    obtain ⟨v', w', hrun, r1, r2⟩ := run_append_arg_grows (P := P) W t o.type e i0 z size bytes E.ht hi hz0 hz1 hz2 E.hzs E.hsz ad n n olds hlo (holds ad rfl) ⟨b, 0, none⟩ m c cur.toList (by simp [hc]) hnews (by omega) (by unfold maxLen; omega) hbytes
    unfold Oper.wp
    simp [execOp, ho, resolve, invoke, builtin, hs, hx, hrun, Result.andThen]
    exact h v' w' r1 r2
  | none =>
    obtain rfl := hnone rfl
    obtain rfl : olds = [] := List.eq_nil_of_length_eq_zero (by simpa using hlo)
    obtain ⟨v', w', hrun, r1, r2, _⟩ := run_append_own (P := P) W W.heap.size t o.type e i0 z size bytes E.ht hi hz0 hz1 hz2 E.hzs E.hsz (.slice none 0 0) 0 [] (World.ownsRow_nil W _ e size) ⟨b, 0, none⟩ m c cur.toList (by simp [hc]) hnews h1 (by unfold maxLen; omega) hbytes (Nat.le_refl _)
    unfold Oper.wp
    simp [execOp, ho, resolve, invoke, builtin, hs, hx, hrun, Result.andThen]
    exact h v' w' r1 r2
theorem PathAt.shape {v : Value} {p : Path} (h : PathAt bo W v p) : ∃ ao c, v = .slice ao p.length c ∧ (ao = none → p.length = 0) ∧ (∀ W', (Instr.slice 25 v none (some (.int .i64 p.length)) (some (.int .i64 p.length))).run Tryd.prog W' = .ok (.slice ao p.length p.length) W') ∧
    (∀ W1 : World, KH n0 bo W W1 → ∀ b, ao = some b → ∀ j u, (strs p)[j]? = some u → W1.cell? (b.add j) = some u) := by
  rcases id h with ⟨rfl, rfl⟩ | ⟨b, c, cs, fr, rfl, h2, h3, h4, h5⟩
  · exact ⟨none, 0, rfl, fun _ => rfl, fun W' => by kernel_rfl, fun _ _ b hb => by cases hb⟩
  · refine ⟨_, c, rfl, fun e => (by cases e), fun W' => ?_, fun W1 hk b' hb' j u hj => ?_⟩
    · have h6 : (0 : Int) ≤ p.length := by omega
      have h7 : (p.length : Int) ≤ c := by omega
      go_simp
    · cases hb'
      have e1 : (⟨b, 0, none⟩ : Addr).add j = ⟨b, j, none⟩ := by unfold Addr.add; split <;> simp_all
      rw [e1, cell_of_row W1 b j _ _ _ (hk.keeps b _ h3 (by simp) h4)]
      have hjl : j < p.length := by have := (List.getElem?_eq_some_iff.1 hj).1; simpa [strs] using this
      rw [← h5, List.getElem?_take_of_lt hjl] at hj
      simpa using hj
/-- the levels on the way, one more -/
theorem path_more {v' : Value} {p : Path} {z : Str} (h : W1.ownsRow W.heap.size 9 1 v' (p.length + 1) (strs p ++ [.string ⟨z.toArray⟩])) (hb : bo < W.heap.size) : PathAt bo W1 v' (p ++ [z]) := by
  rcases h.2 with ⟨-, h⟩ | ⟨g, cap, cur, rfl, hg, hgb, hnc, -, -, htk⟩
  · omega
  · refine .inr ⟨g, cap, cur, (0, 0), by simp, by simpa using hnc, by omega, hgb, ?_⟩
    rw [List.length_append, List.length_singleton]
    simpa [strs] using htk
end Go.Proofs.YtcnjgenacpkdbaaDoor
