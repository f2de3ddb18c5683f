/- Frames by footprints: which blocks a call may have changed; messages as cells. No program in sight.  What is appended to a slice of the call's own, and what that may have changed: the slice's own block alone. No program in sight. -/
import Derived.Test.YtmkhagmjpbfieaaGreatDoorLib
import Derived.Deep.AppendLies
import Derived.Deep.RegionLaw
namespace Go.Proofs.YtmkhagmjpbfieaaGreatDoor
section
open Go Go.RowKit

/-- Of what was there, the blocks of S alone may have changed. -/
structure Mod (S : List Nat) (w w' : World) : Prop where
  os : w'.os = w.os
  tape : w'.tape = w.tape
  output : w'.output = w.output
  size : w.heap.size ≤ w'.heap.size
  block : ∀ k, k < w.heap.size → k ∉ S → w'.heap[k]? = w.heap[k]?

theorem Mod.refl (S : List Nat) (w : World) : Mod S w w := ⟨rfl, rfl, rfl, Nat.le_refl _, fun _ _ _ => rfl⟩
theorem Mod.of_below {w w' : World} (h : Below w.heap.size w w') (S : List Nat) : Mod S w w' := ⟨h.os, h.tape, h.output, h.size, fun k hk _ => h.block k hk⟩
theorem Mod.below {S : List Nat} {w w' : World} {B : Nat} (h : Mod S w w') (hB : B ≤ w.heap.size) (hS : ∀ k ∈ S, B ≤ k) : Below B w w' :=
  ⟨h.os, h.tape, h.output, h.size, fun k hk => h.block k (by omega) (fun hs => by have := hS k hs; omega)⟩
theorem Mod.trans {S S' : List Nat} {w w1 w2 : World} (h : Mod S w w1) (h' : Mod S' w1 w2) (hS : ∀ k ∈ S', k ∈ S ∨ w.heap.size ≤ k) : Mod S w w2 :=
  ⟨h'.os.trans h.os, h'.tape.trans h.tape, h'.output.trans h.output, Nat.le_trans h.size h'.size, fun k hk hn => by
    rw [h'.block k (Nat.lt_of_lt_of_le hk h.size) (fun hs => by rcases hS k hs with h1 | h1 <;> first | exact hn h1 | omega), h.block k hk hn]⟩
theorem Mod.mono {S S' : List Nat} {w w' : World} (h : Mod S w w') (hS : ∀ k ∈ S, k ∈ S') : Mod S' w w' := ⟨h.os, h.tape, h.output, h.size, fun k hk hn => h.block k hk (fun hs => hn (hS k hs))⟩
theorem Mod.next {S : List Nat} {w w1 w2 : World} (h : Mod S w w1) (h' : Below w1.heap.size w1 w2) : Mod S w w2 := h.trans (Mod.of_below h' []) (by simp)
theorem Mod.drewN {S : List Nat} {w w' : World} (h : Mod S w w') (n : Nat) : Mod S w (w'.drewN n) := ⟨h.os, h.tape, h.output, h.size, h.block⟩
theorem Mod.drew {S : List Nat} {w w' : World} (h : Mod S w w') : Mod S w w'.drew := ⟨h.os, h.tape, h.output, h.size, h.block⟩
theorem Mod.alloc {S : List Nat} {w w' : World} (h : Mod S w w') (o : Obj) : Mod S w (w'.alloc o) := h.next ((Below.refl _ _).alloc (Nat.le_refl _) o)
theorem Mod.setCell {S : List Nat} {w w' : World} (h : Mod S w w') {p : Addr} (hp : p.block ∈ S ∨ w.heap.size ≤ p.block) (u : Value) : Mod S w (w'.setCell p u) :=
  ⟨h.os, h.tape, h.output, by simpa using h.size, fun k hk hn => by
    rw [Below.heap_setCell _ _ _ _ (by rintro rfl; rcases hp with hp | hp <;> first | exact hn hp | omega), h.block k hk hn]⟩
theorem Mod.grown {S : List Nat} {w w1 w2 : World} {row : Option Nat} (h : Mod S w w1) (hg : w1.grownBy w2 row) (hr : ∀ k, row = some k → k ∈ S ∨ w.heap.size ≤ k) : Mod S w w2 :=
  ⟨hg.os.trans h.os, hg.tape.trans h.tape, hg.output.trans h.output, Nat.le_trans h.size hg.size, fun k hk hn => by
    rw [hg.block k (Nat.lt_of_lt_of_le hk h.size) (fun e => by rcases hr k e.symm with h1 | h1 <;> first | exact hn h1 | omega), h.block k hk hn]⟩
theorem Row.mod {S : List Nat} {w w' : World} {a : Option Addr} {xs : List Value} (h : Row w a xs) (hm : Mod S w w') (hS : ∀ b o, a = some ⟨b, o, none⟩ → b ∉ S) : Row w' a xs := by
  rcases h with h | ⟨b, off, rfl, hc⟩
  · exact .inl h
  · refine .inr ⟨b, off, rfl, fun j u hj => ?_⟩
    have h0 := hc j u hj
    rw [World.cell?_of_block (w := w) (hm.block b (World.block_lt_of_cell? w _ h0) (hS b off rfl))]
    exact h0

/-- What was of F is now of F', or new; the rest is as it was. -/
def Upd (F F' : List Nat) (w w' : World) : Prop := Mod F w w' ∧ ∀ k ∈ F', k ∈ F ∨ w.heap.size ≤ k

theorem ownsRow_local {w w' : World} {B : Nat} {e : TypeId} {size n : Nat} {v : Value} {xs : List Value} (h : w.ownsRow B e size v n xs) (hk : ∀ k, v.ownBlock = some k → w'.heap[k]? = w.heap[k]?) : w'.ownsRow B e size v n xs := by
  refine ⟨h.1, ?_⟩
  rcases h.2 with hn | ⟨b, cap, cur, rfl, hb, hgg, rest⟩
  · exact .inl hn
  · exact .inr ⟨b, cap, cur, rfl, hb, by rw [hk b rfl]; exact hgg, rest⟩
theorem grown_keep {W1 w2 : World} {o : Obj} {row : Option Nat} {g : Nat} {x : Obj} (h : (W1.alloc o).grownBy w2 row) (hg : W1.heap[g]? = some x) (hne : row ≠ some g) : w2.heap[g]? = some x := by
  have hgl : g < W1.heap.size := (Array.getElem?_eq_some_iff.1 hg).1
  rw [h.block g (by simp; omega) (fun e => hne e.symm), Below.heap_alloc W1 o g hgl, hg]
/-- 'append(s, E{..})' as one step of a region that draws its order. -/
theorem step_app {P : Program} {t e : TypeId} {z : Value} {size bytes : Nat} (E : ElemT P t e z size bytes) {W : World} {B : Nat} {v : Value} {n : Nat} {xs : List Value} (hown : W.ownsRow B e size v n xs)
    {b m c : Nat} {cur : Array Value} {t' : TypeId} {fr : Nat × Nat} (hblk : W.heap[b]? = some (.cells cur t' fr))
    {ops : Array Oper} {o : Oper} {a : Act} {K : Act → World → Prop} {Q : Exit → Act → World → Prop} {E' : Prop} (hgd : o.guard = none) {s x : Operand}
    (ho : o.op = .call { callee := .builtin .append, args := #[s, x], argTypes := #[t, t] }) (hs : a.eval s = v) (hx : a.eval x = .slice (some ⟨b, 0, none⟩) m c)
    (hc : cur.size = m * size) (hm : 0 < m) (h1 : ∀ u ∈ cur.toList, u.oneCell' = true) (hbytes : (n + m) * bytes ≤ 140737488355328) (hn : n + m < 140737488355328) (hB : B ≤ W.heap.size)
    (h : ∀ g cap w', w'.ownsRow B e size (.slice (some ⟨g, 0, none⟩) (n + m) cap) (n + m) (xs ++ cur.toList) → W.grownBy w' v.ownBlock → (v.ownBlock = some g ∨ g = W.heap.size) → g < w'.heap.size →
      K (a.put o.dst (.slice (some ⟨g, 0, none⟩) (n + m) cap)) w') :
    if Region.wanted o (yielded ops a.tmps) = true then Oper.wp P o a W K Q else E' := by
  obtain ⟨i0, hi, hz0, hz1, hz2⟩ := info_parts E.hi
  refine step_append_lies W hgd s x t ho B e i0 z size bytes E.ht hi hz0 hz1 hz2 E.hzs E.hsz v n xs hs hown ⟨b, 0, none⟩ m c cur.toList hx (by simp [hc]) ?_ h1 hm (by unfold maxLen; omega) hbytes hB W.heap.size rfl h
  intro j u hj
  have e1 : (⟨b, 0, none⟩ : Addr).add j = ⟨b, j, none⟩ := by unfold Addr.add; split <;> simp_all
  rw [e1, cell_of_row W b j _ _ _ hblk]
  simpa using hj

/-- a message -/
structure Msg where
  t : ByteArray
  p : ByteArray
  q : Int
  r : Bool
def Msg.none : Msg := ⟨⟨#[]⟩, ⟨#[]⟩, 0, false⟩
def Msg.cells (m : Msg) : List Value := [.string m.t, .string m.p, .int .u8 m.q, .bool m.r]
def Msg.val (m : Msg) : Value := .agg #[.string m.t, .string m.p, .int .u8 m.q, .bool m.r]
def msgs (l : List Msg) : List Value := l.flatMap Msg.cells
theorem msgs_length (l : List Msg) : (msgs l).length = l.length * 4 := by
  induction l with
  | nil => rfl
  | cons m l ih => simp only [msgs, List.flatMap_cons, List.length_append, List.length_cons] at *; rw [ih]; simp [Msg.cells]; omega
theorem msgs_append (a b : List Msg) : msgs a ++ msgs b = msgs (a ++ b) := by simp [msgs]
theorem msgs_one (l : List Msg) : ∀ u ∈ msgs l, u.oneCell' = true := by
  intro u hu
  simp only [msgs, List.mem_flatMap] at hu
  obtain ⟨m, _, hm⟩ := hu
  simp only [Msg.cells, List.mem_cons, List.not_mem_nil, or_false] at hm
  rcases hm with rfl | rfl | rfl | rfl <;> rfl
/-- the cells of the message at k -/
theorem msgs_at (l : List Msg) : ∀ (k : Nat) (m : Msg), l[k]? = some m → (msgs l)[k * 4]? = some (.string m.t) ∧ (msgs l)[k * 4 + 1]? = some (.string m.p) ∧ (msgs l)[k * 4 + 2]? = some (.int .u8 m.q) ∧ (msgs l)[k * 4 + 3]? = some (.bool m.r) := by
  induction l with
  | nil => intro k m h; simp at h
  | cons x l ih =>
    intro k m h
    cases k with
    | zero =>
      simp at h
      subst h
      simp [msgs, Msg.cells]
    | succ k =>
      have h1 := ih k m (by simpa using h)
      have e : msgs (x :: l) = [.string x.t, .string x.p, .int .u8 x.q, .bool x.r] ++ msgs l := rfl
      have e4 : ∀ j, (msgs (x :: l))[(k + 1) * 4 + j]? = (msgs l)[k * 4 + j]? := fun j => by
        rw [e, show (k + 1) * 4 + j = k * 4 + j + 4 by omega]; simp
      have e0 := e4 0
      simp only [Nat.add_zero] at e0
      rw [e0, e4, e4, e4]
      exact h1
theorem set4 {w : World} {g : Nat} {a b c d x y z u : Value} {T : TypeId} (h : w.heap[g]? = some (.cells #[a, b, c, d] T (0, 0))) :
    ((((w.setCell ⟨g, 0, none⟩ x).setCell ⟨g, 1, none⟩ y).setCell ⟨g, 2, none⟩ z).setCell ⟨g, 3, none⟩ u).heap[g]? = some (.cells #[x, y, z, u] T (0, 0)) ∧
    Mod [g] w ((((w.setCell ⟨g, 0, none⟩ x).setCell ⟨g, 1, none⟩ y).setCell ⟨g, 2, none⟩ z).setCell ⟨g, 3, none⟩ u) := by
  constructor
  · have h1 := heap_setCell_same w g 0 _ _ x h
    have h2 := heap_setCell_same _ g 1 _ _ y h1
    have h3 := heap_setCell_same _ g 2 _ _ z h2
    have h4 := heap_setCell_same _ g 3 _ _ u h3
    exact h4
  · exact ((((Mod.refl [g] w).setCell (.inl (by simp)) _).setCell (.inl (by simp)) _).setCell (.inl (by simp)) _).setCell (.inl (by simp)) _

/-- The results of a function whose first result is a struct's variable. -/
theorem results_row_tmp {P : Program} {fn : Func} {p t : Tmp} {ty : TypeId} (h : fn.results = #[.cell p ty, .tmp t]) {tmps : Array Value} {w : World} {g : Nat} {T : TypeId} {cs : Array Value} {fr : Nat × Nat} {d : TypeDesc}
    (hp : tmps.getD p undef = .pointer (some ⟨g, 0, none⟩)) (hg : w.heap[g]? = some (.cells cs T fr))
    (hu : P.underlying ty = some d) (hd : (match d with | .struct _ | .array _ _ => true | _ => false) = true) (hi : (P.info? ty).map (·.size) = some cs.size) :
    (results fn tmps).run P w = .ok (.tuple #[.agg cs, tmps.getD t undef]) w := by
  have hp' : tmps[p]?.getD undef = .pointer (some ⟨g, 0, none⟩) := by simpa using hp
  simp [results, h, hp', asAddr, run_loadVar_row w g T ty cs fr d hg hu hd hi]

/-- the four cells of the message at k -/
theorem msgs_row {w : World} {a : Option Addr} {l : List Msg} (h : Row w a (msgs l)) {k : Nat} {m : Msg} (hk : l[k]? = some m) :
    ∃ b off, a = some ⟨b, off, none⟩ ∧ w.cell? ⟨b, off + k * 4, none⟩ = some (.string m.t) ∧ w.cell? ⟨b, off + k * 4 + 1, none⟩ = some (.string m.p) ∧ w.cell? ⟨b, off + k * 4 + 2, none⟩ = some (.int .u8 m.q) ∧ w.cell? ⟨b, off + k * 4 + 3, none⟩ = some (.bool m.r) := by
  obtain ⟨m0, m1, m2, m3⟩ := msgs_at l k m hk
  rcases h with h | ⟨b, off, ha, hc⟩
  · rw [h] at m0; simp at m0
  · exact ⟨b, off, ha, hc _ _ m0, by rw [Nat.add_assoc]; exact hc _ _ m1, by rw [Nat.add_assoc]; exact hc _ _ m2, by rw [Nat.add_assoc]; exact hc _ _ m3⟩
theorem cells4 {w : World} {g : Nat} {a b c d : Value} {T : TypeId} {fr : Nat × Nat} (h : w.heap[g]? = some (.cells #[a, b, c, d] T fr)) :
    w.cell? ⟨g, 0, none⟩ = some a ∧ w.cell? ⟨g, 1, none⟩ = some b ∧ w.cell? ⟨g, 2, none⟩ = some c ∧ w.cell? ⟨g, 3, none⟩ = some d :=
  ⟨cell_of_row w g 0 _ _ _ h, cell_of_row w g 1 _ _ _ h, cell_of_row w g 2 _ _ _ h, cell_of_row w g 3 _ _ _ h⟩
theorem cells3 {w : World} {g : Nat} {a b c : Value} {T : TypeId} {fr : Nat × Nat} (h : w.heap[g]? = some (.cells #[a, b, c] T fr)) :
    w.cell? ⟨g, 0, none⟩ = some a ∧ w.cell? ⟨g, 1, none⟩ = some b ∧ w.cell? ⟨g, 2, none⟩ = some c :=
  ⟨cell_of_row w g 0 _ _ _ h, cell_of_row w g 1 _ _ _ h, cell_of_row w g 2 _ _ _ h⟩
theorem free4 {w : World} {g : Nat} {cs : Array Value} {T : TypeId} (h : w.heap[g]? = some (.cells cs T (0, 0))) :
    w.frozen? ⟨g, 0, none⟩ = false ∧ w.frozen? ⟨g, 1, none⟩ = false ∧ w.frozen? ⟨g, 2, none⟩ = false ∧ w.frozen? ⟨g, 3, none⟩ = false :=
  ⟨frozen_of_row w g 0 _ _ h, frozen_of_row w g 1 _ _ h, frozen_of_row w g 2 _ _ h, frozen_of_row w g 3 _ _ h⟩
theorem mod_setRow {S : List Nat} {w w' : World} (h : Mod S w w') {g : Nat} (hg : g ∈ S ∨ w.heap.size ≤ g) (cs : Array Value) : Mod S w (w'.setRow g cs) :=
  ⟨h.os, h.tape, h.output, by simpa using h.size, fun k hk hn => by
    rw [setRow_other w' g k cs (by rintro rfl; rcases hg with hg | hg <;> first | exact hn hg | omega), h.block k hk hn]⟩

/-- 'copy(d, s)' into a block that is known, as one step of a region that draws its order. -/
theorem step_copy {P : Program} {t e : TypeId} {z : Value} {size bytes : Nat} (E : ElemT P t e z size bytes) {W : World}
    {ops : Array Oper} {o : Oper} {a : Act} {K : Act → World → Prop} {Q : Exit → Act → World → Prop} {E' : Prop} (hgd : o.guard = none) {d s : Operand}
    (ho : o.op = .call { callee := .builtin .copy, args := #[d, s], argTypes := #[t, t] }) {g dLen dCap sLen sCap : Nat} {ad : Addr} (hd : a.eval d = .slice (some ⟨g, 0, none⟩) dLen dCap) (hs : a.eval s = .slice (some ad) sLen sCap)
    {cur : Array Value} {T : TypeId} (hg : W.heap[g]? = some (.cells cur T (0, 0))) {cs : List Value} (hn : cs.length = sLen * size) (hle : sLen ≤ dLen)
    (hsrc : ∀ j v, cs[j]? = some v → W.cell? (ad.add j) = some v) (hfit : cs.length ≤ cur.size) (h1 : ∀ v ∈ cs, v.oneCell' = true)
    (h : ∀ w' cur', w'.heap[g]? = some (.cells cur' T (0, 0)) → cur'.size = cur.size → cur'.toList.take cs.length = cs → Mod [g] W w' → K (a.put o.dst (.int .i64 sLen)) w') :
    if Region.wanted o (yielded ops a.tmps) = true then Oper.wp P o a W K Q else E' := by
  obtain ⟨i0, hi, hz0, hz1, hz2⟩ := info_parts E.hi
  rw [if_pos (by simp [Region.wanted, hgd])]
  have hf := run_firstCells_some (P := P) W size sLen ad sLen sCap cs hn hsrc
  have hst := run_storeCells_at P g 0 T cs 0 cur W hg (by simpa using hfit) h1
  have hrun : (Builtin.copy_ #[t, t] o.type #[.slice (some ⟨g, 0, none⟩) dLen dCap, .slice (some ad) sLen sCap]).run P W = .ok (goInt sLen) (W.setRow g (cs ++ cur.toList.drop cs.length).toArray) := by
    simp only [Nat.zero_add, List.take_zero, List.nil_append] at hst
    simp [Builtin.copy_, run_underlying E.ht, Builtin.lenOf, sizeOf, typeInfo, hi, hz1, Nat.min_eq_left hle, hf, hst]
  unfold Oper.wp execOp
  simp only [ho, resolve, invoke, builtin, Sem.run_bind, Sem.run_pure, Result.andThen_ok, List.map_toArray, List.map_cons, List.map_nil, hd, hs, hrun]
  exact h _ _ (setRow_heap W g cur _ T _ hg) (by simp; omega) (by simp) (mod_setRow (Mod.refl _ _) (.inl (by simp)) _)

/-- 'clear(x)' of a piece of a block that is known: what lies ahead of it stays. -/
theorem wpList_clear {P : Program} {t e : TypeId} {z : Value} {size bytes : Nat} (E : ElemT P t e z size bytes) (hz1 : ∀ u ∈ z.cells.toList, u.oneCell' = true) {w : World} {ops : Array Oper} {rest : List Oper} {o : Oper} {a : Act} {Q : Exit → Act → World → Prop} (hgd : o.guard = none) {x : Operand}
    (ho : o.op = .call { callee := .builtin .clear, args := #[x], argTypes := #[t] }) {g off m c : Nat} {ad : Option Addr} (hx : a.eval x = .slice ad m c) (had : 0 < m → ad = some ⟨g, off, none⟩)
    {cur : Array Value} {T : TypeId} (hg : w.heap[g]? = some (.cells cur T (0, 0))) (hfit : off + m * size ≤ cur.size)
    (h : ∀ w' cur', w'.heap[g]? = some (.cells cur' T (0, 0)) → cur'.size = cur.size → cur'.toList.take off = cur.toList.take off → Mod [g] w w' → wpList P ops Q rest (a.put o.dst (.tuple #[])) w') : wpList P ops Q (o :: rest) a w := by
  obtain ⟨i0, hi, hz0, hz1', hz2⟩ := info_parts E.hi
  refine wpList_plain hgd fun K hK => ?_
  rcases Nat.eq_zero_or_pos m with rfl | hm
  · have hrun : (Builtin.clear_ #[t] o.type #[.slice ad 0 c]).run P w = .ok (.tuple #[]) w := by
      cases ad <;> simp [Builtin.clear_, run_underlying E.ht]
    unfold Oper.wp execOp
    simp only [ho, resolve, invoke, builtin, Sem.run_bind, Sem.run_pure, Result.andThen_ok, List.map_toArray, List.map_cons, List.map_nil, hx, hrun]
    exact hK _ _ (h w cur hg rfl rfl (Mod.refl _ _))
  · have ha := had hm
    subst ha
    have hzs := E.hzs
    have hzc : (Builtin.zeroCells z.cells m).toList.length = m * size := by simp [Builtin.zeroCells, hzs]
    have hone : ∀ u ∈ (Builtin.zeroCells z.cells m).toList, u.oneCell' = true := by
      intro u hu
      simp only [Builtin.zeroCells, Array.toList_map, Array.toList_range, List.mem_map, List.mem_range] at hu
      obtain ⟨i, -, rfl⟩ := hu
      have hlt : i % z.cells.size < z.cells.size := Nat.mod_lt _ (by rw [hzs]; exact E.hsz)
      rw [getElem!_pos z.cells _ hlt]
      exact hz1 _ (Array.getElem_mem_toList hlt)
    have hst := run_storeCells_at P g off T (Builtin.zeroCells z.cells m).toList 0 cur w hg (by rw [hzc]; omega) hone
    obtain ⟨m, rfl⟩ : ∃ k, m = k + 1 := ⟨m - 1, by omega⟩
    have hzv : (zeroValue e).run P w = .ok z w := by simp [zeroValue, typeInfo, hi, hz0]
    have hrun : (Builtin.clear_ #[t] o.type #[.slice (some ⟨g, off, none⟩) (m + 1) c]).run P w = .ok (.tuple #[]) (w.setRow g (cur.toList.take (off + 0) ++ (Builtin.zeroCells z.cells (m + 1)).toList ++ cur.toList.drop (off + 0 + (Builtin.zeroCells z.cells (m + 1)).toList.length)).toArray) := by
      simp [Builtin.clear_, run_underlying E.ht, hzv]
      simp at hst
      rw [hst]
      simp
    unfold Oper.wp execOp
    simp only [ho, resolve, invoke, builtin, Sem.run_bind, Sem.run_pure, Result.andThen_ok, List.map_toArray, List.map_cons, List.map_nil, hx, hrun]
    refine hK _ _ (h _ _ (setRow_heap w g cur _ T _ hg) ?_ ?_ (mod_setRow (Mod.refl _ _) (.inl (by simp)) _))
    · simp only [List.size_toArray, List.length_append, List.length_take, List.length_drop, Array.length_toList, hzc]; omega
    · simp only [Nat.add_zero, List.append_assoc]
      rw [List.take_append_of_le_length (by simp; omega), List.take_take]; simp
end
section
open Go Go.RowKit
theorem row_tail {w : World} {b off : Nat} {A l : List Msg} (h : Row w (some ⟨b, off, none⟩) (msgs (A ++ l))) (hne : A ++ l ≠ []) : ∀ j u, (msgs l)[j]? = some u → w.cell? ((⟨b, off + A.length * 4, none⟩ : Addr).add j) = some u := by
  intro j u hj
  rcases h with h | ⟨b', off', hb, hc⟩
  · exfalso
    have := msgs_length (A ++ l)
    rw [h] at this
    have hl : (A ++ l).length = 0 := by have h0 : (A ++ l).length * 4 = 0 := by simpa using this.symm
                                        omega
    exact hne (List.eq_nil_of_length_eq_zero hl)
  · simp only [Option.some.injEq, Addr.mk.injEq, and_true] at hb
    obtain ⟨rfl, rfl⟩ := hb
    have e1 : (⟨b, off + A.length * 4, none⟩ : Addr).add j = ⟨b, off + (A.length * 4 + j), none⟩ := by unfold Addr.add; split <;> simp_all [Nat.add_assoc]
    rw [e1]
    refine hc _ u ?_
    rw [← msgs_append, List.getElem?_append_right (by rw [msgs_length]; omega), msgs_length, Nat.add_sub_cancel_left]; exact hj
end
section
open Go Go.RowKit

end
end Go.Proofs.YtmkhagmjpbfieaaGreatDoor
