/- Wide structs in regions, rows that are appended to, pieces of code. No program in sight. (Cut by mksess.py.) -/
import Derived.Test.YtmkhagmjpbfieaaGreatDoorPkX
import Derived.Test.YtmkhagmjpbfieaaGreatDoorMemX
import Derived.Test.YtmkhagmjpbfieaaGreatDoorOpen
import Derived.Test.YtmkhagmjpbfieaaGreatDoorTail
import Derived.Deep.MidRow
import Derived.Deep.CutBlock
namespace Go.Proofs.YtmkhagmjpbfieaaGreatDoor
open Go Go.RowKit

theorem load_row {w : World} {b : Nat} {cs : List Value} {T : TypeId} {fr : Nat × Nat} {d : TypeDesc} (h : w.heap[b]? = some (.cells cs.toArray T fr)) (hu : Tryz.prog.underlying T = some d) (hd : d.isRow = true) (hi : (Tryz.prog.info? T).map (·.size) = some cs.length) :
    (Instr.loadAt T (.pointer (some ⟨b, 0, none⟩))).run Tryz.prog w = .ok (.agg cs.toArray) w :=
  run_loadAt_mid w b 0 T cs d (fun j v hj => by rw [Nat.zero_add, cell_of_row _ _ _ _ _ _ h]; simpa using hj) hu hd hi
theorem range_blk {w : World} {b : Nat} {cs : List Value} {T : TypeId} {fr : Nat × Nat} (h : w.heap[b]? = some (.cells cs.toArray T fr)) : w.rangeAt b 0 cs := fun j v hj => by rw [Nat.zero_add, cell_of_row _ _ _ _ _ _ h]; simpa using hj
/-- a struct is loaded whole, in a region that draws its order -/
theorem exec_load_row {P : Program} {ev : Operand → Value} {o : Oper} {w : World} {ty : TypeId} {x : Operand} {b i : Nat} {cs : List Value} {d : TypeDesc} (ho : o.op = .load ty x) (hx : ev x = .pointer (some ⟨b, i, none⟩)) (hc : w.rangeAt b i cs)
    (hu : P.underlying ty = some d) (hd : d.isRow = true) (hi : (P.info? ty).map (·.size) = some cs.length) : (execOp ev o).run P w = .ok (Next.value (.agg cs.toArray)) w := by
  unfold execOp
  simp only [ho, hx, Instr.loadAt, Instr.sureAddr, Sem.run_bind, Sem.run_pure, Result.andThen_ok, run_loadVar_mid w b i ty cs d hc hu hd hi]
/-- a row of one struct is built, whatever the struct has -/
def Build1 (P : Program) (T e : TypeId) (NL : List Value) : Prop := ∀ (o : Oper) (a : Act) (w : World) (K : Act → World → Prop) (Q : Exit → Act → World → Prop) (x : Operand), o.op = .buildSlice T 1 #[(0, x)] → a.eval x = .agg NL.toArray →
  K (a.put o.dst (.slice (some ⟨w.heap.size, 0, none⟩) 1 1)) (w.alloc (.cells NL.toArray e)) → o.wp P a w K Q
/-- the k-th of a row of structs -/
theorem row_mid {α : Type} {mk : α → List Value} {m : Nat} (hm : ∀ a, (mk a).length = m) {w : World} {a : Option Addr} {l : List α} (h : Row w a (l.flatMap mk)) {k : Nat} (hk : k < l.length) (hpos : 0 < m) : ∃ b o, a = some ⟨b, o, none⟩ ∧ w.rangeAt b (o + k * m) (mk l[k]) := by
  have hat : ∀ j, j < m → (l.flatMap mk)[k * m + j]? = (mk l[k])[j]? := fun j hj => by
    rw [flatMap_at hm l k j hj, List.getElem?_eq_getElem hk]; rfl
  rcases h with h | ⟨b, o, rfl, hc⟩
  · have h1 := hat 0 hpos
    rw [h, List.getElem?_eq_getElem (l := mk l[k]) (by rw [hm]; exact hpos)] at h1
    simp at h1
  · refine ⟨b, o, rfl, fun j v hj => ?_⟩
    have hjm : j < m := by have := (List.getElem?_eq_some_iff.1 hj).1; rw [hm] at this; exact this
    have := hc (k * m + j) v (by rw [hat j hjm]; exact hj)
    rwa [← Nat.add_assoc] at this
theorem wpList_build1 {P : Program} {T e : TypeId} {NL : List Value} (hB : Build1 P T e NL) {ops : Array Oper} {rest : List Oper} {o : Oper} {a : Act} {w : World} {Q : Exit → Act → World → Prop} (hg : o.guard = none) (x : Operand) (ho : o.op = .buildSlice T 1 #[(0, x)]) (hx : a.eval x = .agg NL.toArray)
    (d : Option Tmp) (hd : o.dst = d) (nb : Nat) (hnb : w.heap.size = nb) (h : wpList P ops Q rest (a.put d (.slice (some ⟨nb, 0, none⟩) 1 1)) (w.alloc (.cells NL.toArray e))) : wpList P ops Q (o :: rest) a w := by
  subst hd hnb
  exact wpList_plain hg fun K hK => hB o a w K Q x ho hx (hK _ _ h)
theorem wpList_loadMid {P : Program} {ops : Array Oper} {rest : List Oper} {op : Oper} {a : Act} {w : World} {Q : Exit → Act → World → Prop} (hgd : op.guard = none) (ty : TypeId) (x : Operand) (ho : op.op = .load ty x)
    (b o : Nat) (hx : a.eval x = .pointer (some ⟨b, o, none⟩)) (cs : List Value) (d : TypeDesc) (hc : w.rangeAt b o cs)
    (hu : P.underlying ty = some d) (hd : d.isRow = true) (hi : (P.info? ty).map (·.size) = some cs.length) (t : Option Tmp) (ht : op.dst = t)
    (h : wpList P ops Q rest (a.put t (.agg cs.toArray)) w) : wpList P ops Q (op :: rest) a w := by
  subst ht
  exact wpList_load_mid hgd ty x ho b o hx cs d hc hu hd hi h
theorem wpList_loadM {P : Program} {ops : Array Oper} {rest : List Oper} {op : Oper} {a : Act} {w : World} {Q : Exit → Act → World → Prop} (hw : Region.wanted op (yielded ops a.tmps) = true) (ty : TypeId) (x : Operand) (ho : op.op = .load ty x)
    (b o : Nat) (hx : a.eval x = .pointer (some ⟨b, o, none⟩)) (cs : List Value) (d : TypeDesc) (hc : w.rangeAt b o cs)
    (hu : P.underlying ty = some d) (hd : d.isRow = true) (hi : (P.info? ty).map (·.size) = some cs.length)
    (h : wpList P ops Q rest (a.put op.dst (.agg cs.toArray)) w) : wpList P ops Q (op :: rest) a w :=
  wpList_ask hw fun _ hK => wp_load_mid ty x ho b o hx cs d hc hu hd hi (hK _ _ h)
/-- what is told of a panic does not hang on the frame -/
def QuietP (Q : Exit → Act → World → Prop) : Prop := ∀ x (a a' : Act) (w : World), Q (.panic x) a w → a.defers = a'.defers → Q (.panic x) a' w
theorem quiet_body {P : Program} {fn : Func} {R : Ending → World → Prop} : QuietP (bodyPost P fn R) := fun _ _ _ _ h e => ⟨e ▸ h.1, h.2⟩
theorem quiet_then {K : Act → World → Prop} {Q : Exit → Act → World → Prop} (h : QuietP Q) : QuietP (Exit.then K Q) := fun x a a' w e => h x a a' w e
theorem quiet_block {i : Nat} {Q : Exit → Act → World → Prop} (h : QuietP Q) : QuietP (Exit.inBlock i Q) := fun x a a' w e => h x a a' w e
/-- a code's loops, in their order -/
def loops : Code → List Code
  | .loop c => [.loop c]
  | .seq a b => loops a ++ loops b
  | .block _ c => loops c
  | .scope c => loops c
  | .cond _ a b => loops a ++ loops b
  | _ => []
/-- a region of a code, by its number -/
def regionOf (k : Nat) : Code → Option Code
  | .region id ops d => bif Nat.beq id k then some (.region id ops d) else none
  | .seq a b => match regionOf k a with
    | some c => some c
    | none => regionOf k b
  | .block _ c => regionOf k c
  | .scope c => regionOf k c
  | .loop c => regionOf k c
  | .cond _ a b => match regionOf k a with
    | some c => some c
    | none => regionOf k b
  | _ => none
/-- a block of a code, by its number -/
def blockOf (k : Nat) : Code → Option Code
  | .seq a b => match blockOf k a with
    | some c => some c
    | none => blockOf k b
  | .block id c => bif Nat.beq id k then some (.block id c) else blockOf k c
  | .scope c => blockOf k c
  | .loop c => blockOf k c
  | .cond _ a b => match blockOf k a with
    | some c => some c
    | none => blockOf k b
  | _ => none
/-- the number of a code's first region -/
def firstRegion : Code → Nat
  | .region id _ _ => id
  | .seq a _ => firstRegion a
  | .block _ c => firstRegion c
  | .scope c => firstRegion c
  | .loop c => firstRegion c
  | .cond _ a _ => firstRegion a
  | _ => 1000000
/-- what follows from a region on -/
def fromRegion (k : Nat) : Code → Option Code
  | .seq a b => bif Nat.beq (firstRegion b) k then some b else match fromRegion k a with
    | some c => some c
    | none => fromRegion k b
  | .block _ c => bif Nat.beq (firstRegion c) k then some c else fromRegion k c
  | .scope c => bif Nat.beq (firstRegion c) k then some c else fromRegion k c
  | .loop c => bif Nat.beq (firstRegion c) k then some c else fromRegion k c
  | .cond _ a b => match fromRegion k a with
    | some c => some c
    | none => fromRegion k b
  | _ => none
/-- 'append(s, l...)' of a row that has something, as one step of a region that draws its order -/
theorem step_appR {P : Program} {t e : TypeId} {z : Value} {size bytes : Nat} (E : ElemT P t e z size bytes) {W : World} {B : Nat} {v : Value} {n : Nat} {xs : List Value} (hown : W.ownsRow B e size v n xs)
    {ad : Option Addr} {ys : List Value} {m c : Nat} (hrow : Row W ad ys)
    {ops : Array Oper} {o : Oper} {a : Act} {K : Act → World → Prop} {Q : Exit → Act → World → Prop} {E' : Prop} (hgd : o.guard = none) {s x : Operand}
    (ho : o.op = .call { callee := .builtin .append, args := #[s, x], argTypes := #[t, t] }) (hs : a.eval s = v) (hx : a.eval x = .slice ad m c)
    (hc : ys.length = m * size) (hm : 0 < m) (h1 : ∀ u ∈ ys, u.oneCell' = true) (hbytes : (n + m) * bytes ≤ 140737488355328) (hn : n + m < 140737488355328) (hB : B ≤ W.heap.size)
    (h : ∀ g cap w', w'.ownsRow B e size (.slice (some ⟨g, 0, none⟩) (n + m) cap) (n + m) (xs ++ ys) → W.grownBy w' v.ownBlock → (v.ownBlock = some g ∨ g = W.heap.size) → g < w'.heap.size →
      K (a.put o.dst (.slice (some ⟨g, 0, none⟩) (n + m) cap)) w') :
    if Region.wanted o (yielded ops a.tmps) = true then Oper.wp P o a W K Q else E' := by
  obtain ⟨i0, hi, hz0, hz1, hz2⟩ := info_parts E.hi
  rcases hrow with rfl | ⟨b, off, rfl, hcell⟩
  · exfalso
    have := Nat.mul_pos hm E.hsz
    simp at hc
    omega
  · refine step_append_lies W hgd s x t ho B e i0 z size bytes E.ht hi hz0 hz1 hz2 E.hzs E.hsz v n xs hs hown ⟨b, off, none⟩ m c ys hx (by simp [hc]) ?_ h1 hm (by unfold maxLen; omega) hbytes hB W.heap.size rfl h
    intro j u hj
    have e1 : (⟨b, off, none⟩ : Addr).add j = ⟨b, off + j, none⟩ := by unfold Addr.add; split <;> simp_all
    rw [e1]; exact hcell j u hj
theorem wpList_appR {P : Program} {t e : TypeId} {z : Value} {size bytes : Nat} (E : ElemT P t e z size bytes) {w : World} {B : Nat} {v : Value} {n : Nat} {xs : List Value} (hown : w.ownsRow B e size v n xs)
    {ad : Option Addr} {ys : List Value} {m c : Nat} (hrow : Row w ad ys)
    {ops : Array Oper} {rest : List Oper} {o : Oper} {a : Act} {Q : Exit → Act → World → Prop} {s x : Operand} (hgd : o.guard = none)
    (ho : o.op = .call { callee := .builtin .append, args := #[s, x], argTypes := #[t, t] }) (hs : a.eval s = v) (hx : a.eval x = .slice ad m c) (d : Option Tmp) (hd : o.dst = d)
    (hc : ys.length = m * size) (hm : 0 < m) (h1 : ∀ u ∈ ys, u.oneCell' = true) (hbytes : (n + m) * bytes ≤ 140737488355328) (hn : n + m < 140737488355328) (hB : B ≤ w.heap.size)
    (h : ∀ g cap w', w'.ownsRow B e size (.slice (some ⟨g, 0, none⟩) (n + m) cap) (n + m) (xs ++ ys) → w.grownBy w' v.ownBlock → (v.ownBlock = some g ∨ w.heap.size ≤ g) → g < w'.heap.size →
      wpList P ops Q rest (a.put d (.slice (some ⟨g, 0, none⟩) (n + m) cap)) w') : wpList P ops Q (o :: rest) a w := by
  subst hd
  refine wpList_step fun K hK => step_appR E hown hrow hgd ho hs hx hc hm h1 hbytes hn hB fun g cap w' h2 h3 h4 h5 => hK _ _ (h g cap w' h2 h3 (h4.imp id fun e => ?_) h5)
  rw [e]; exact Nat.le_refl _
/-- a struct is built, in a region that draws its order -/
theorem exec_build {P : Program} {ev : Operand → Value} {o : Oper} {w : World} (t : TypeId) (parts : Array (Nat × Operand)) (ho : o.op = .build t parts) (cells : Array Value) (ps : List (Nat × Value)) (hps : (parts.map fun (i, x) => (i, ev x)).toList = ps)
    (hf : P.built t ps = some cells) : (execOp ev o).run P w = .ok (Next.value (.agg cells)) w := by
  subst hps
  unfold execOp
  simp only [ho, Sem.run_bind, run_build w t _ cells hf, Result.andThen_ok, Sem.run_pure]
end Go.Proofs.YtmkhagmjpbfieaaGreatDoor
