/- General laws over any program: elements of slices, slices of the call's own, slices that are read. No program in sight. Frames by footprints: which blocks a call may have changed; messages as cells. No program in sight. Messages by topics: the plain model. No program in sight. -/
import Derived.WalkKit
import Derived.WalkLawsBesides
import Derived.WalkSpells
import Derived.RowKit3
import Derived.Lib.Hide
import Derived.Deep.QuietTactic
import Derived.BigQuiet
import Derived.Deep.RegionHeld3
import Derived.Deep.AppendLies
import Derived.Deep.RegionLaw
namespace Go.Proofs.YthfdcphecggjeaaGreatDoor
section
open Go Go.RowKit

theorem ret_bool {a b : Bool} (h : a = b) : Ending.returned (.bool a) = .returned (.bool b) := by rw [h]

/-- what the tables say of a slice's type and its elements' -/
structure ElemT (P : Program) (t e : TypeId) (z : Value) (size bytes : Nat) : Prop where
  ht : P.underlying t = some (.slice e)
  hi : (P.info? e).map (fun i => (i.zero, i.size, i.bytes)) = some (some z, size, bytes)
  hzs : z.cells.size = size
  hsz : 0 < size

/-- Built elements (m of them) are appended to a slice of the call's own, or a nil one. -/
theorem wpList_app {P : Program} {t e : TypeId} {z : Value} {size bytes : Nat} (E : ElemT P t e z size bytes) {w0 w : World} {B : Nat} {v : Value} {n : Nat} {xs : List Value} (hown : w.ownsRow B e size v n xs) (hbel : Below B w0 w) (hB : B ≤ w.heap.size)
    {ops : Array Oper} {rest : List Oper} {o : Oper} {a : Act} {Q : Exit → Act → World → Prop} {s x : Operand} {cur : Array Value} {m c : Nat}
    (hgd : o.guard = none) (ho : o.op = .call { callee := .builtin .append, args := #[s, x], argTypes := #[t, t] }) (hs : a.eval s = v) (hx : a.eval x = .slice (some ⟨w.heap.size, 0, none⟩) m c)
    (hc : cur.size = m * size) (h1 : ∀ u ∈ cur.toList, u.oneCell' = true) (hbytes : (n + m) * bytes ≤ 140737488355328) (hn : n + m < 140737488355328)
    (h : ∀ v' w', w'.ownsRow B e size v' (n + m) (xs ++ cur.toList) → Below B w0 w' → B ≤ w'.heap.size → w.heap.size < w'.heap.size → wpList P ops Q rest (a.put o.dst v') w') : wpList P ops Q (o :: rest) a (w.alloc (.cells cur e)) := by
  obtain ⟨i0, hi, hz0, hz1, hz2⟩ := info_parts E.hi
  refine wpList_append_own _ hgd s x t ho B e i0 z size bytes E.ht hi hz0 hz1 hz2 E.hzs E.hsz v n xs hs (hown.alloc _) ⟨w.heap.size, 0, none⟩ m c cur.toList hx (by simp [hc]) ?_ h1 (by unfold maxLen; omega) hbytes (by simp; omega) ?_
  · intro j u hj
    have e1 : (⟨w.heap.size, 0, none⟩ : Addr).add j = ⟨w.heap.size, j, none⟩ := by unfold Addr.add; split <;> simp_all
    rw [e1, World.cell?_alloc_new]
    simpa using hj
  · intro v' w' h1 h2 _
    have hl := hown.lt
    refine h v' w' h1 ((hbel.alloc hB _).grown h2 (by simp; omega) (fun k hk => (hl k hk).1)) ?_ ?_
    · have := h2.size; simp at this; omega
    · have := h2.size; simp at this; omega

/-- Built elements (m of them) are appended to a slice of the call's own, or a nil one. -/
theorem wpList_appG {P : Program} {t e : TypeId} {z : Value} {size bytes : Nat} (E : ElemT P t e z size bytes) {w0 w : World} {B : Nat} {v : Value} {n : Nat} {xs : List Value} (hown : w.ownsRow B e size v n xs) (hbel : Below B w0 w) (hB : B ≤ w.heap.size)
    {ops : Array Oper} {rest : List Oper} {o : Oper} {a : Act} {Q : Exit → Act → World → Prop} {s x : Operand} {cur : Array Value} {m c : Nat}
    (hgd : o.guard = none) (ho : o.op = .call { callee := .builtin .append, args := #[s, x], argTypes := #[t, t] }) (hs : a.eval s = v) (hx : a.eval x = .slice (some ⟨w.heap.size, 0, none⟩) m c)
    (hc : cur.size = m * size) (h1 : ∀ u ∈ cur.toList, u.oneCell' = true) (hbytes : (n + m) * bytes ≤ 140737488355328) (hn : n + m < 140737488355328)
    (h : ∀ v' w', w'.ownsRow B e size v' (n + m) (xs ++ cur.toList) → Below B w0 w' → B ≤ w'.heap.size → (w.alloc (.cells cur e)).grownBy w' v.ownBlock → wpList P ops Q rest (a.put o.dst v') w') : wpList P ops Q (o :: rest) a (w.alloc (.cells cur e)) := by
  obtain ⟨i0, hi, hz0, hz1, hz2⟩ := info_parts E.hi
  refine wpList_append_own _ hgd s x t ho B e i0 z size bytes E.ht hi hz0 hz1 hz2 E.hzs E.hsz v n xs hs (hown.alloc _) ⟨w.heap.size, 0, none⟩ m c cur.toList hx (by simp [hc]) ?_ h1 (by unfold maxLen; omega) hbytes (by simp; omega) ?_
  · intro j u hj
    have e1 : (⟨w.heap.size, 0, none⟩ : Addr).add j = ⟨w.heap.size, j, none⟩ := by unfold Addr.add; split <;> simp_all
    rw [e1, World.cell?_alloc_new]
    simpa using hj
  · intro v' w' h1 h2 _
    have hl := hown.lt
    refine h v' w' h1 ((hbel.alloc hB _).grown h2 (by simp; omega) (fun k hk => (hl k hk).1)) ?_ h2
    have := h2.size; simp at this; omega

/-- The cells of a slice that is read: none, or in a row somewhere. -/
def Row (w : World) (a : Option Addr) (xs : List Value) : Prop :=
  xs = [] ∨ ∃ b off, a = some ⟨b, off, none⟩ ∧ ∀ j u, xs[j]? = some u → w.cell? ⟨b, off + j, none⟩ = some u

theorem Row.below {w w' : World} {a : Option Addr} {xs : List Value} {B : Nat} (h : Row w a xs) (hb : Below B w w') (hB : w.heap.size ≤ B) : Row w' a xs := by
  rcases h with h | ⟨b, off, ha, hc⟩
  · exact .inl h
  · refine .inr ⟨b, off, ha, fun j u hj => ?_⟩
    have h0 := hc j u hj
    rw [hb.cell (p := ⟨b, off + j, none⟩) (Nat.lt_of_lt_of_le (World.block_lt_of_cell? w _ h0) hB)]
    exact h0
theorem Row.at {w : World} {a : Option Addr} {xs : List Value} (h : Row w a xs) {j : Nat} {u : Value} (hj : xs[j]? = some u) : ∃ b off, a = some ⟨b, off, none⟩ ∧ w.cell? ⟨b, off + j, none⟩ = some u := by
  rcases h with rfl | ⟨b, off, ha, hc⟩
  · simp at hj
  · exact ⟨b, off, ha, hc j u hj⟩
theorem Row.nil (w : World) (a : Option Addr) : Row w a [] := .inl rfl
theorem bnext {w w1 w2 : World} {B : Nat} (h : Below B w w1) (hB : B ≤ w.heap.size) (k : Below w1.heap.size w1 w2) : Below B w w2 := h.trans (k.mono (Nat.le_trans hB h.size))
theorem row_new (w : World) (xs : List Value) (t : TypeId) : Row (w.alloc (.cells xs.toArray t)) (some ⟨w.heap.size, 0, none⟩) xs :=
  .inr ⟨_, 0, rfl, fun j u hj => by rw [Nat.zero_add, World.cell?_alloc_new]; simpa using hj⟩
theorem below_draws {B : Nat} {w : World} (n : Nat) : Below B w (w.drewN n) := below_drewN (Below.refl _ _) n
/-- What the call owns can be read. -/
theorem ownsRow_row {w : World} {B : Nat} {e : TypeId} {size n : Nat} {v : Value} {xs : List Value} (h : w.ownsRow B e size v n xs) : ∃ a cap, v = .slice a n cap ∧ Row w a xs ∧ n ≤ cap ∧ cap ≤ maxLen := by
  have hxl := h.1
  rcases h.2 with ⟨rfl, hn⟩ | ⟨g, cap, cur, rfl, hb, hg, hnc, hcm, hcs, htake⟩
  · exact ⟨none, 0, by rw [hn], .inl (by have := h.1; rw [hn] at this; simpa using this), by omega, by omega⟩
  · exact ⟨_, _, rfl, .inr ⟨g, 0, rfl, fun j u hj => by
      rw [Nat.zero_add, h.cellAt j ?_, hj]
      have := (List.getElem?_eq_some_iff.1 hj).1
      omega⟩, hnc, hcm⟩

theorem w_i64 (x : Int) (h0 : -9223372036854775808 ≤ x) (h1 : x ≤ 9223372036854775807) : IntKind.i64.wrap x = x := by rw [IntKind.wrap_i64]; omega

end
section
open Go Go.RowKit

/-- Of what was there, the blocks of S alone may have changed. -/
structure Mod (S : List Nat) (w w' : World) : Prop where
  os : w'.os = w.os
  tape : w'.tape = w.tape
  output : w'.output = w.output
  size : w.heap.size ≤ w'.heap.size
  block : ∀ k, k < w.heap.size → k ∉ S → w'.heap[k]? = w.heap[k]?

theorem Mod.refl (S : List Nat) (w : World) : Mod S w w := ⟨rfl, rfl, rfl, Nat.le_refl _, fun _ _ _ => rfl⟩
theorem Mod.of_below {w w' : World} (h : Below w.heap.size w w') (S : List Nat) : Mod S w w' := ⟨h.os, h.tape, h.output, h.size, fun k hk _ => h.block k hk⟩
theorem Mod.below {S : List Nat} {w w' : World} {B : Nat} (h : Mod S w w') (hB : B ≤ w.heap.size) (hS : ∀ k ∈ S, B ≤ k) : Below B w w' :=
  ⟨h.os, h.tape, h.output, h.size, fun k hk => h.block k (by omega) (fun hs => by have := hS k hs; omega)⟩
theorem Mod.trans {S S' : List Nat} {w w1 w2 : World} (h : Mod S w w1) (h' : Mod S' w1 w2) (hS : ∀ k ∈ S', k ∈ S ∨ w.heap.size ≤ k) : Mod S w w2 :=
  ⟨h'.os.trans h.os, h'.tape.trans h.tape, h'.output.trans h.output, Nat.le_trans h.size h'.size, fun k hk hn => by
    rw [h'.block k (Nat.lt_of_lt_of_le hk h.size) (fun hs => by rcases hS k hs with h1 | h1 <;> first | exact hn h1 | omega), h.block k hk hn]⟩
theorem Mod.mono {S S' : List Nat} {w w' : World} (h : Mod S w w') (hS : ∀ k ∈ S, k ∈ S') : Mod S' w w' := ⟨h.os, h.tape, h.output, h.size, fun k hk hn => h.block k hk (fun hs => hn (hS k hs))⟩
theorem Mod.next {S : List Nat} {w w1 w2 : World} (h : Mod S w w1) (h' : Below w1.heap.size w1 w2) : Mod S w w2 := h.trans (Mod.of_below h' []) (by simp)
theorem Mod.drewN {S : List Nat} {w w' : World} (h : Mod S w w') (n : Nat) : Mod S w (w'.drewN n) := ⟨h.os, h.tape, h.output, h.size, h.block⟩
theorem Mod.drew {S : List Nat} {w w' : World} (h : Mod S w w') : Mod S w w'.drew := ⟨h.os, h.tape, h.output, h.size, h.block⟩
theorem Mod.alloc {S : List Nat} {w w' : World} (h : Mod S w w') (o : Obj) : Mod S w (w'.alloc o) := h.next ((Below.refl _ _).alloc (Nat.le_refl _) o)
theorem Mod.setCell {S : List Nat} {w w' : World} (h : Mod S w w') {p : Addr} (hp : p.block ∈ S ∨ w.heap.size ≤ p.block) (u : Value) : Mod S w (w'.setCell p u) :=
  ⟨h.os, h.tape, h.output, by simpa using h.size, fun k hk hn => by
    rw [Below.heap_setCell _ _ _ _ (by rintro rfl; rcases hp with hp | hp <;> first | exact hn hp | omega), h.block k hk hn]⟩
theorem Mod.grown {S : List Nat} {w w1 w2 : World} {row : Option Nat} (h : Mod S w w1) (hg : w1.grownBy w2 row) (hr : ∀ k, row = some k → k ∈ S ∨ w.heap.size ≤ k) : Mod S w w2 :=
  ⟨hg.os.trans h.os, hg.tape.trans h.tape, hg.output.trans h.output, Nat.le_trans h.size hg.size, fun k hk hn => by
    rw [hg.block k (Nat.lt_of_lt_of_le hk h.size) (fun e => by rcases hr k e.symm with h1 | h1 <;> first | exact hn h1 | omega), h.block k hk hn]⟩
theorem Row.mod {S : List Nat} {w w' : World} {a : Option Addr} {xs : List Value} (h : Row w a xs) (hm : Mod S w w') (hS : ∀ b o, a = some ⟨b, o, none⟩ → b ∉ S) : Row w' a xs := by
  rcases h with h | ⟨b, off, rfl, hc⟩
  · exact .inl h
  · refine .inr ⟨b, off, rfl, fun j u hj => ?_⟩
    have h0 := hc j u hj
    rw [World.cell?_of_block (w := w) (hm.block b (World.block_lt_of_cell? w _ h0) (hS b off rfl))]
    exact h0

/-- What was of F is now of F', or new; the rest is as it was. -/
def Upd (F F' : List Nat) (w w' : World) : Prop := Mod F w w' ∧ ∀ k ∈ F', k ∈ F ∨ w.heap.size ≤ k

theorem ownsRow_local {w w' : World} {B : Nat} {e : TypeId} {size n : Nat} {v : Value} {xs : List Value} (h : w.ownsRow B e size v n xs) (hk : ∀ k, v.ownBlock = some k → w'.heap[k]? = w.heap[k]?) : w'.ownsRow B e size v n xs := by
  refine ⟨h.1, ?_⟩
  rcases h.2 with hn | ⟨b, cap, cur, rfl, hb, hgg, rest⟩
  · exact .inl hn
  · exact .inr ⟨b, cap, cur, rfl, hb, by rw [hk b rfl]; exact hgg, rest⟩
theorem grown_keep {W1 w2 : World} {o : Obj} {row : Option Nat} {g : Nat} {x : Obj} (h : (W1.alloc o).grownBy w2 row) (hg : W1.heap[g]? = some x) (hne : row ≠ some g) : w2.heap[g]? = some x := by
  have hgl : g < W1.heap.size := (Array.getElem?_eq_some_iff.1 hg).1
  rw [h.block g (by simp; omega) (fun e => hne e.symm), Below.heap_alloc W1 o g hgl, hg]
/-- 'append(s, E{..})' as one step of a region that draws its order. -/
theorem step_app {P : Program} {t e : TypeId} {z : Value} {size bytes : Nat} (E : ElemT P t e z size bytes) {W : World} {B : Nat} {v : Value} {n : Nat} {xs : List Value} (hown : W.ownsRow B e size v n xs)
    {b m c : Nat} {cur : Array Value} {t' : TypeId} {fr : Nat × Nat} (hblk : W.heap[b]? = some (.cells cur t' fr))
    {ops : Array Oper} {o : Oper} {a : Act} {K : Act → World → Prop} {Q : Exit → Act → World → Prop} {E' : Prop} (hgd : o.guard = none) {s x : Operand}
    (ho : o.op = .call { callee := .builtin .append, args := #[s, x], argTypes := #[t, t] }) (hs : a.eval s = v) (hx : a.eval x = .slice (some ⟨b, 0, none⟩) m c)
    (hc : cur.size = m * size) (hm : 0 < m) (h1 : ∀ u ∈ cur.toList, u.oneCell' = true) (hbytes : (n + m) * bytes ≤ 140737488355328) (hn : n + m < 140737488355328) (hB : B ≤ W.heap.size)
    (h : ∀ g cap w', w'.ownsRow B e size (.slice (some ⟨g, 0, none⟩) (n + m) cap) (n + m) (xs ++ cur.toList) → W.grownBy w' v.ownBlock → (v.ownBlock = some g ∨ g = W.heap.size) → g < w'.heap.size →
      K (a.put o.dst (.slice (some ⟨g, 0, none⟩) (n + m) cap)) w') :
    if Region.wanted o (yielded ops a.tmps) = true then Oper.wp P o a W K Q else E' := by
  obtain ⟨i0, hi, hz0, hz1, hz2⟩ := info_parts E.hi
  refine step_append_lies W hgd s x t ho B e i0 z size bytes E.ht hi hz0 hz1 hz2 E.hzs E.hsz v n xs hs hown ⟨b, 0, none⟩ m c cur.toList hx (by simp [hc]) ?_ h1 hm (by unfold maxLen; omega) hbytes hB W.heap.size rfl h
  intro j u hj
  have e1 : (⟨b, 0, none⟩ : Addr).add j = ⟨b, j, none⟩ := by unfold Addr.add; split <;> simp_all
  rw [e1, cell_of_row W b j _ _ _ hblk]
  simpa using hj

/-- a message -/
structure Msg where
  t : ByteArray
  p : ByteArray
  q : Int
  r : Bool
def Msg.none : Msg := ⟨⟨#[]⟩, ⟨#[]⟩, 0, false⟩
def Msg.cells (m : Msg) : List Value := [.string m.t, .string m.p, .int .u8 m.q, .bool m.r]
def Msg.val (m : Msg) : Value := .agg #[.string m.t, .string m.p, .int .u8 m.q, .bool m.r]
def msgs (l : List Msg) : List Value := l.flatMap Msg.cells
theorem msgs_append (a b : List Msg) : msgs a ++ msgs b = msgs (a ++ b) := by simp [msgs]
/-- the cells of the message at k -/
theorem msgs_at (l : List Msg) : ∀ (k : Nat) (m : Msg), l[k]? = some m → (msgs l)[k * 4]? = some (.string m.t) ∧ (msgs l)[k * 4 + 1]? = some (.string m.p) ∧ (msgs l)[k * 4 + 2]? = some (.int .u8 m.q) ∧ (msgs l)[k * 4 + 3]? = some (.bool m.r) := by
  induction l with
  | nil => intro k m h; simp at h
  | cons x l ih =>
    intro k m h
    cases k with
    | zero =>
      simp at h
      subst h
      simp [msgs, Msg.cells]
    | succ k =>
      have h1 := ih k m (by simpa using h)
      have e : msgs (x :: l) = [.string x.t, .string x.p, .int .u8 x.q, .bool x.r] ++ msgs l := rfl
      have e4 : ∀ j, (msgs (x :: l))[(k + 1) * 4 + j]? = (msgs l)[k * 4 + j]? := fun j => by
        rw [e, show (k + 1) * 4 + j = k * 4 + j + 4 by omega]; simp
      have e0 := e4 0
      simp only [Nat.add_zero] at e0
      rw [e0, e4, e4, e4]
      exact h1
/-- the four cells of the message at k -/
theorem msgs_row {w : World} {a : Option Addr} {l : List Msg} (h : Row w a (msgs l)) {k : Nat} {m : Msg} (hk : l[k]? = some m) :
    ∃ b off, a = some ⟨b, off, none⟩ ∧ w.cell? ⟨b, off + k * 4, none⟩ = some (.string m.t) ∧ w.cell? ⟨b, off + k * 4 + 1, none⟩ = some (.string m.p) ∧ w.cell? ⟨b, off + k * 4 + 2, none⟩ = some (.int .u8 m.q) ∧ w.cell? ⟨b, off + k * 4 + 3, none⟩ = some (.bool m.r) := by
  obtain ⟨m0, m1, m2, m3⟩ := msgs_at l k m hk
  rcases h with h | ⟨b, off, ha, hc⟩
  · rw [h] at m0; simp at m0
  · exact ⟨b, off, ha, hc _ _ m0, by rw [Nat.add_assoc]; exact hc _ _ m1, by rw [Nat.add_assoc]; exact hc _ _ m2, by rw [Nat.add_assoc]; exact hc _ _ m3⟩
theorem cells4 {w : World} {g : Nat} {a b c d : Value} {T : TypeId} {fr : Nat × Nat} (h : w.heap[g]? = some (.cells #[a, b, c, d] T fr)) :
    w.cell? ⟨g, 0, none⟩ = some a ∧ w.cell? ⟨g, 1, none⟩ = some b ∧ w.cell? ⟨g, 2, none⟩ = some c ∧ w.cell? ⟨g, 3, none⟩ = some d :=
  ⟨cell_of_row w g 0 _ _ _ h, cell_of_row w g 1 _ _ _ h, cell_of_row w g 2 _ _ _ h, cell_of_row w g 3 _ _ _ h⟩
theorem free4 {w : World} {g : Nat} {cs : Array Value} {T : TypeId} (h : w.heap[g]? = some (.cells cs T (0, 0))) :
    w.frozen? ⟨g, 0, none⟩ = false ∧ w.frozen? ⟨g, 1, none⟩ = false ∧ w.frozen? ⟨g, 2, none⟩ = false ∧ w.frozen? ⟨g, 3, none⟩ = false :=
  ⟨frozen_of_row w g 0 _ _ h, frozen_of_row w g 1 _ _ h, frozen_of_row w g 2 _ _ h, frozen_of_row w g 3 _ _ h⟩
theorem mod_setRow {S : List Nat} {w w' : World} (h : Mod S w w') {g : Nat} (hg : g ∈ S ∨ w.heap.size ≤ g) (cs : Array Value) : Mod S w (w'.setRow g cs) :=
  ⟨h.os, h.tape, h.output, by simpa using h.size, fun k hk hn => by
    rw [setRow_other w' g k cs (by rintro rfl; rcases hg with hg | hg <;> first | exact hn hg | omega), h.block k hk hn]⟩

end
section
open Go Go.RowKit

def Msg.k (m : Msg) : List UInt8 := m.t.data.toList
def put (m : Msg) : List Msg → List Msg
  | [] => [m]
  | y :: r => if m.k < y.k then m :: y :: r else if y.k = m.k then m :: r else y :: put m r
def get (t : List UInt8) (l : List Msg) : Option Msg := l.find? fun m => m.k == t
def del (t : List UInt8) (l : List Msg) : List Msg := l.filter fun m => m.k != t
def Up (l : List Msg) : Prop := l.Pairwise fun a b => a.k < b.k

theorem lt_ne {a b : List UInt8} (h : a < b) : a ≠ b := fun e => List.lt_irrefl b (e ▸ h)
theorem lt_tri {a b : List UInt8} (h : ¬ a < b) (h' : b ≠ a) : b < a := by
  by_cases h2 : b < a
  · exact h2
  · exact absurd (List.le_antisymm (as := b) (bs := a) h h2) h'
theorem mem_put {m x : Msg} {l : List Msg} (h : x ∈ put m l) : x = m ∨ x ∈ l := by
  induction l with
  | nil => simp [put] at h; exact .inl h
  | cons y r ih =>
    unfold put at h
    split at h
    · simp at h; rcases h with h | h | h <;> simp [h]
    · split at h
      · simp at h; rcases h with h | h <;> simp [h]
      · simp at h
        rcases h with h | h
        · simp [h]
        · rcases ih h with h | h <;> simp [h]
theorem Up.put {m : Msg} {l : List Msg} (h : Up l) : Up (put m l) := by
  induction l with
  | nil => exact List.pairwise_singleton _ _
  | cons y r ih =>
    obtain ⟨h1, h2⟩ := List.pairwise_cons.1 h
    unfold Go.Proofs.YthfdcphecggjeaaGreatDoor.put
    split
    · rename_i hlt
      refine List.pairwise_cons.2 ⟨fun z hz => ?_, h⟩
      rcases List.mem_cons.1 hz with rfl | hz
      · exact hlt
      · exact List.lt_trans hlt (h1 z hz)
    · split
      · rename_i hlt he
        exact List.pairwise_cons.2 ⟨fun z hz => he ▸ h1 z hz, h2⟩
      · rename_i hlt he
        refine List.pairwise_cons.2 ⟨fun z hz => ?_, ih h2⟩
        rcases mem_put hz with rfl | hz
        · exact lt_tri hlt he
        · exact h1 z hz
theorem Up.del {t : List UInt8} {l : List Msg} (h : Up l) : Up (del t l) := h.filter _
theorem get_none_of {t : List UInt8} {l : List Msg} (h : ∀ m ∈ l, t < m.k) : get t l = none := by
  unfold get
  rw [List.find?_eq_none]
  intro x hx
  simp only [beq_iff_eq]
  exact fun e => lt_ne (h x hx) e.symm
theorem get_cons (t : List UInt8) (y : Msg) (r : List Msg) : get t (y :: r) = if y.k = t then some y else get t r := by
  unfold get
  by_cases h : y.k = t <;> simp [h]
theorem get_put {m : Msg} {l : List Msg} (h : Up l) (t : List UInt8) : get t (put m l) = if t = m.k then some m else get t l := by
  induction l with
  | nil => rw [put, get_cons]; by_cases h : t = m.k <;> simp [h, eq_comm]
  | cons y r ih =>
    obtain ⟨h1, h2⟩ := List.pairwise_cons.1 h
    unfold put
    split
    · rw [get_cons]; by_cases h : t = m.k <;> simp [h, eq_comm]
    · split
      · rename_i hlt he
        rw [get_cons, get_cons]
        by_cases h : t = m.k
        · simp [h]
        · have : ¬ m.k = t := fun e => h e.symm
          simp [this, he, h]
      · rename_i hlt he
        rw [get_cons, get_cons, ih h2]
        by_cases h : t = m.k
        · subst h; simp [he]
        · simp [h]
theorem get_del (t u : List UInt8) (l : List Msg) : get t (del u l) = if t = u then none else get t l := by
  induction l with
  | nil => simp [del, get]
  | cons y r ih =>
    rw [get_cons]
    unfold del at *
    by_cases h : y.k = u
    · have : (y.k != u) = false := by simp [h]
      rw [List.filter_cons_of_neg (by simp [h]), ih]
      by_cases h' : t = u
      · simp [h']
      · have : ¬ y.k = t := fun e => h' (e.symm.trans h)
        simp [h', this]
    · rw [List.filter_cons_of_pos (by simp [h]), get_cons, ih]
      by_cases h' : t = u
      · subst h'; simp [h]
      · simp [h']
theorem len_put {m : Msg} {l : List Msg} (h : Up l) : (put m l).length = if (get m.k l).isSome then l.length else l.length + 1 := by
  induction l with
  | nil => rfl
  | cons y r ih =>
    obtain ⟨h1, h2⟩ := List.pairwise_cons.1 h
    unfold put
    rw [get_cons]
    split
    · rename_i hlt
      have e : get m.k r = none := get_none_of fun x hx => List.lt_trans hlt (h1 x hx)
      have : ¬ y.k = m.k := fun e => lt_ne hlt e.symm
      simp [this, e]
    · split
      · rename_i he; simp
      · rename_i he
        simp only [List.length_cons, ih h2]
        split <;> simp
theorem len_put_le (m : Msg) (l : List Msg) : (put m l).length ≤ l.length + 1 := by
  induction l with
  | nil => simp [put]
  | cons y r ih =>
    unfold put
    split
    · simp
    · split
      · simp
      · simp; omega
theorem len_del {t : List UInt8} {l : List Msg} (h : Up l) : (del t l).length + (if (get t l).isSome then 1 else 0) = l.length := by
  induction l with
  | nil => rfl
  | cons y r ih =>
    obtain ⟨h1, h2⟩ := List.pairwise_cons.1 h
    have ih := ih h2
    rw [get_cons]
    unfold del at *
    by_cases he : y.k = t
    · have e : get t r = none := get_none_of fun x hx => he ▸ h1 x hx
      rw [List.filter_cons_of_neg (by simp [he])]
      rw [e] at ih
      simp [he] at ih ⊢
      exact ih
    · rw [List.filter_cons_of_pos (by simp [he])]
      simp only [List.length_cons, if_neg he]
      omega
theorem get_of_mem {l : List Msg} {m : Msg} (h : Up l) (hm : m ∈ l) : get m.k l = some m := by
  induction l with
  | nil => simp at hm
  | cons y r ih =>
    obtain ⟨h1, h2⟩ := List.pairwise_cons.1 h
    rw [get_cons]
    rcases List.mem_cons.1 hm with rfl | hm
    · simp
    · have : ¬ y.k = m.k := lt_ne (h1 m hm)
      rw [if_neg this]; exact ih h2 hm
theorem mem_get {l : List Msg} (t : List UInt8) : (get t l).isSome = true ↔ t ∈ l.map Msg.k := by
  unfold get
  simp only [List.find?_isSome, beq_iff_eq, List.mem_map]
theorem Up.keys {l : List Msg} (h : Up l) : (l.map Msg.k).Pairwise (· < ·) := List.pairwise_map.2 h
/-- the library's sort of the keys -/
theorem sort_keys {l : List (List UInt8)} {m : List (List UInt8)} (hm : m.Pairwise (· < ·)) (h : l.Perm m) : (l.mergeSort fun x y => decide (x ≤ y)) = m := by
  have hp : ((l.mergeSort fun x y => decide (x ≤ y))).Pairwise (fun a b => decide (a ≤ b) = true) :=
    List.pairwise_mergeSort (fun a b c h1 h2 => by simp only [decide_eq_true_eq] at *; exact List.le_trans h1 h2) (fun a b => by have := List.le_total a b; simpa using this) l
  refine List.Perm.eq_of_pairwise (le := fun a b => decide (a ≤ b) = true) (fun a b _ _ h1 h2 => by simp only [decide_eq_true_eq] at *; exact List.le_antisymm h1 h2) hp
    (hm.imp (fun h => by simp only [decide_eq_true_eq]; exact List.le_of_lt h)) ((List.mergeSort_perm l _).trans h)
theorem nodup_keys {m : List (List UInt8)} (hm : m.Pairwise (· < ·)) : m.Nodup := hm.imp lt_ne
end
end Go.Proofs.YthfdcphecggjeaaGreatDoor
