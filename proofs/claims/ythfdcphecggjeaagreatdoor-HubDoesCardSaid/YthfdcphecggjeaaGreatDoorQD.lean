/- A region that draws its order and ends in one store: what is read ahead of that store may be taken first, by a condition that the store itself need not keep. Steps of regions that draw their order: appends of rows; pieces of slices. No program in sight. -/
import Derived.Test.YthfdcphecggjeaaGreatDoorQA
import Derived.Deep.RegionHeld3
import Derived.Deep.AppendLies
import Derived.Deep.RegionLaw
import Derived.Test.YthfdcphecggjeaaGreatDoorQB
import Derived.Test.YthfdcphecggjeaaGreatDoorProg
import Derived.ArgAppend
namespace Go.Proofs.YthfdcphecggjeaaGreatDoor
section
open Go

section
variable {P : Program} {md : Region.Mode} {ops : Array Oper} {Q : Exit → Go.Act → World → Prop} {S : World → Prop} {z : Nat}

/-- what has come up is closed under what it waits for -/
def Closed (md : Region.Mode) (ops : Array Oper) (done : Array Bool) : Prop := ∀ j oj, ops[j]? = some oj → done.getD j false = true → ∀ e ∈ oj.after, Region.binds md e = true → done.getD e.on false = true
def closedB (md : Region.Mode) (ops : Array Oper) (done : Array Bool) : Bool := (List.range ops.size).all fun j => !(done.getD j false) || match ops[j]? with
  | some oj => oj.after.toList.all fun e => !(Region.binds md e) || done.getD e.on false
  | none => true
theorem closed_of {done : Array Bool} (h : closedB md ops done = true) : Closed md ops done := by
  intro j oj hj hd e he hb
  have h1 := List.all_eq_true.1 h j (List.mem_range.2 (Array.getElem?_eq_some_iff.1 hj).1)
  rw [hd, hj, Bool.not_true, Bool.false_or] at h1
  have h2 := List.all_eq_true.1 h1 e (by simpa using he)
  rw [hb] at h2
  simpa using h2
/-- z waits for i, at once or through others -/
def waitsB (md : Region.Mode) (ops : Array Oper) (i : Nat) : Nat → Nat → Bool
  | 0, _ => false
  | n + 1, j => match ops[j]? with
    | some oj => oj.after.toList.any fun e => Region.binds md e && (e.on == i || waitsB md ops i n e.on)
    | none => false
theorem waits_done {i : Nat} {done : Array Bool} (hc : Closed md ops done) : ∀ (n j : Nat), waitsB md ops i n j = true → (∀ oj, ops[j]? = some oj → ∀ e ∈ oj.after, Region.binds md e = true → done.getD e.on false = true) → done.getD i false = true
  | 0, _, h, _ => by cases h
  | n + 1, j, h, hd => by
    unfold waitsB at h
    cases ho : ops[j]? with
    | none => rw [ho] at h; cases h
    | some oj =>
      rw [ho] at h
      obtain ⟨e, he, h1⟩ := List.any_eq_true.1 h
      replace he : e ∈ oj.after := by simpa using he
      rw [Bool.and_eq_true, Bool.or_eq_true, beq_iff_eq] at h1
      have h2 := hd oj ho e he h1.1
      rcases h1.2 with h3 | h3
      · rw [← h3]; exact h2
      · exact waits_done hc n e.on h3 (fun ok hk => hc e.on ok hk h2)
theorem undone {i : Nat} {done : Array Bool} (h : i ∈ Region.ready md ops done) : done.getD i false = false := by
  have h0 := (mem_ready.1 h).1
  rcases Nat.lt_or_ge i done.size with h' | h'
  · simp [h'] at h0 ⊢; exact h0
  · simp [Array.getElem?_eq_none h'] at h0
theorem closed_step {j : Nat} {done : Array Bool} (hc : Closed md ops done) (hj : j ∈ Region.ready md ops done) : Closed md ops (done.setIfInBounds j true) := by
  obtain ⟨-, oj, hoj, hall⟩ := mem_ready.1 hj
  intro k ok hk hd e he hb
  by_cases hjk : j = k
  · subst hjk
    rw [hoj] at hk
    cases hk
    exact getD_set_true (hall e he hb)
  · rw [getD_set_ne false hjk] at hd
    exact getD_set_true (hc k ok hk hd e he hb)

/-- Whatever order is picked from here on; S holds behind each operation but number z. -/
def wpTail (P : Program) (md : Region.Mode) (ops : Array Oper) (Q : Exit → Go.Act → World → Prop) (S : World → Prop) (z : Nat) (fuel : Nat) (done : Array Bool) (a : Go.Act) (w : World) : Prop :=
  match fuel with
  | 0 => Region.ready md ops done = [] ∧ Q .normal a w
  | n + 1 => (∀ i ∈ Region.ready md ops done, wpOp P ops Q i (fun b u => wpTail P md ops Q S z n (done.setIfInBounds i true) b u ∧ (i ≠ z → S u)) a w) ∧ (Region.ready md ops done = [] → Q .normal a w)
theorem wpTail.any : ∀ (n : Nat) (done : Array Bool) (a : Go.Act) (w : World), wpTail P md ops Q S z n done a w → wpAny P md ops Q n done a w
  | 0, _, _, _, h => h
  | n + 1, _, _, _, h => ⟨h.2, fun i hi => wpOp_mono (fun b u hb => wpTail.any n _ b u hb.1) (h.1 i hi)⟩
theorem wpTail.first {i m : Nat} {oi : Oper} {v : Value} (hi : ops[i]? = some oi) (hsel : ∀ (j : Nat) (o : Oper) cs b, ops[j]? = some o → o.op ≠ .select cs b) (hw : waitsB md ops i m z = true)
    (hQ : ∀ c a w, Q (.panic c) (a.put oi.dst v) w → Q (.panic c) a w) :
    ∀ (n : Nat) (done : Array Bool) (a : Go.Act) (w : World), Closed md ops done →
      (∀ j oj, ops[j]? = some oj → j ≠ i → done.getD j true = false → (∀ e ∈ oj.after, Region.binds md e = true → e.on ≠ i) → oi.apart ops oj = true) →
      i ∈ Region.ready md ops done → YieldsIf P ops S oi v a → S w →
      wpTail P md ops Q S z n (done.setIfInBounds i true) (a.put oi.dst v) w → wpTail P md ops Q S z (n + 1) done a w := by
  intro n
  induction n with
  | zero =>
    intro done a w _ _ hr hy hS H
    refine ⟨fun j hj => ?_, fun h => (by rw [h] at hr; cases hr)⟩
    by_cases hji : j = i
    · subst hji
      exact hy.wpOp hi hS ⟨H, fun _ => hS⟩
    · have := ready_mono hj hji
      rw [H.1] at this
      cases this
  | succ n ih =>
    intro done a w hc hfree hr hy hS H
    refine ⟨fun j hj => ?_, fun h => (by rw [h] at hr; cases hr)⟩
    by_cases hji : j = i
    · subst hji
      exact hy.wpOp hi hS ⟨H, fun _ => hS⟩
    · obtain ⟨hjun, oj, hoj, hall⟩ := mem_ready.1 hj
      have hun := undone hr
      have hnot : ∀ e ∈ oj.after, Region.binds md e = true → e.on ≠ i := fun e he hb heq => by
        have h1 := hall e he hb
        rw [heq, hun] at h1
        cases h1
      have hjz : j ≠ z := fun e => by
        subst e
        have h1 := waits_done hc m j hw (fun ok hk => by rw [hoj] at hk; cases hk; exact hall)
        rw [hun] at h1
        cases h1
      have h2 := wpOp_putIf hoj (hfree j oj hoj hji hjun hnot) (fun cs b => hsel i oi cs b hi) (fun cs b => hsel j oj cs b hoj) hQ hy (H.1 j (ready_mono hj hji))
      refine wpOp_mono (fun b u h3 => ⟨ih (done.setIfInBounds j true) b u (closed_step hc hj) (fun k ok hk hki hku hno => ?_) (ready_mono hr (Ne.symm hji)) h3.1 (h3.2.2 hjz) ?_, fun _ => h3.2.2 hjz⟩) h2
      · refine hfree k ok hk hki ?_ hno
        by_cases hjk : j = k
        · subst hjk; exact hjun
        · rwa [getD_set_ne true hjk] at hku
      · rw [Array.setIfInBounds_comm _ _ hji]
        exact h3.2.1
theorem wpTail.take {i : Nat} {oi : Oper} {v : Value} {n : Nat} {done : Array Bool} {a : Go.Act} {w : World} (hi : ops[i]? = some oi)
    (hs : Region.noSelect ops = true) (hf : Region.free md ops done i = true) (hr : (Region.ready md ops done).contains i = true) (hc : closedB md ops done = true) (hw : waitsB md ops i ops.size z = true)
    (hQ : ∀ c a w, Q (.panic c) (a.put oi.dst v) w → Q (.panic c) a w) (hy : YieldsIf P ops S oi v a) (hS : S w)
    (h : wpTail P md ops Q S z n (done.setIfInBounds i true) (a.put oi.dst v) w) : wpTail P md ops Q S z (n + 1) done a w :=
  wpTail.first hi (Region.noSelect_spec hs) hw hQ n done a w (closed_of hc) (Region.free_spec hi hf) (by simpa using hr) hy hS h
def AllTail (P : Program) (md : Region.Mode) (ops : Array Oper) (Q : Exit → Go.Act → World → Prop) (S : World → Prop) (z n : Nat) (done : Array Bool) (a : Go.Act) (w : World) (rs : List Nat) : Prop :=
  ∀ i ∈ rs, wpOp P ops Q i (fun b u => wpTail P md ops Q S z n (done.setIfInBounds i true) b u ∧ (i ≠ z → S u)) a w
theorem AllTail.nil {n : Nat} {done : Array Bool} {a : Go.Act} {w : World} : AllTail P md ops Q S z n done a w [] := fun _ h => by cases h
theorem AllTail.cons {n : Nat} {done : Array Bool} {a : Go.Act} {w : World} {i : Nat} {o : Oper} {rs : List Nat} (ho : ops[i]? = some o)
    (h : ∀ K' : Go.Act → World → Prop, Shut (∀ b u, (i ≠ z → S u) → ((i ≠ z → S u) → wpTail P md ops Q S z n (done.setIfInBounds i true) b u) → K' b u) → if Region.wanted o (yielded ops a.tmps) = true then Oper.wp P o a w K' Q else K' (a.put o.dst undef) w)
    (hs : AllTail P md ops Q S z n done a w rs) : AllTail P md ops Q S z n done a w (i :: rs) := fun j hj => by
  rcases List.mem_cons.1 hj with rfl | hj
  · exact wpOp_step ho (fun K' hK => h K' (fun b u hS hW => hK b u ⟨hW hS, hS⟩))
  · exact hs j hj
theorem wpTail.ready {rs : List Nat} {n : Nat} {done : Array Bool} {a : Go.Act} {w : World} (hr : Region.ready md ops done = rs) (hne : rs ≠ []) (h : AllTail P md ops Q S z n done a w rs) : wpTail P md ops Q S z (n + 1) done a w :=
  ⟨hr ▸ h, fun h0 => absurd (hr ▸ h0) hne⟩
theorem wpTail.done {d : Array Bool} {a : Go.Act} {w : World} (hr : Region.ready md ops d = []) (h : Q .normal a w) : ∀ n, wpTail P md ops Q S z n d a w
  | 0 => ⟨hr, h⟩
  | _ + 1 => ⟨by rw [hr]; simp, fun _ => h⟩
theorem wp_region_tail (z : Nat) {id : Nat} {a : Go.Act} {w : World} (hm : P.follows .mixedOrders = true) (hS : S w.drew)
    (h : S w.drew → wpTail P .any ops Q S z ops.size (Array.replicate ops.size false) a w.drew) : (Code.region id ops true).wp P Q a w :=
  wp_region_any hm (wpTail.any _ _ _ _ (h hS))
end
end
section
open Go Go.RowKit

/-- 'append(s, l...)' as one step of a region that draws its order, whatever row l is -/
theorem step_spread {P : Program} {t e : TypeId} {z : Value} {size bytes : Nat} (E : ElemT P t e z size bytes) {W : World} {B : Nat} {v : Value} {n : Nat} {xs : List Value} (hown : W.ownsRow B e size v n xs)
    {ad : Option Addr} {ys : List Value} {m c : Nat} (hrow : Row W ad ys)
    {ops : Array Oper} {o : Oper} {a : Go.Act} {K : Go.Act → World → Prop} {Q : Exit → Go.Act → World → Prop} {E' : Prop} (hgd : o.guard = none) {s x : Operand}
    (ho : o.op = .call { callee := .builtin .append, args := #[s, x], argTypes := #[t, t] }) (hs : a.eval s = v) (hx : a.eval x = .slice ad m c)
    (hc : ys.length = m * size) (h1 : ∀ u ∈ ys, u.oneCell' = true) (hbytes : (n + m) * bytes ≤ 140737488355328) (hn : n + m < 140737488355328) (hB : B ≤ W.heap.size)
    (h : ∀ v' w', w'.ownsRow B e size v' (n + m) (xs ++ ys) → W.grownBy w' v.ownBlock → K (a.put o.dst v') w') :
    if Region.wanted o (yielded ops a.tmps) = true then Oper.wp P o a W K Q else E' := by
  obtain ⟨i0, hi, hz0, hz1, hz2⟩ := info_parts E.hi
  have hw : Region.wanted o (yielded ops a.tmps) = true := by simp [Region.wanted, hgd]
  rw [if_pos hw]
  have own : ∀ (ad' : Addr), ad = some ad' → (∀ j u, ys[j]? = some u → W.cell? (ad'.add j) = some u) → Oper.wp P o a W K Q := by
    intro ad' e hcell
    subst e
    obtain ⟨v', w', hrun, r1, r2, _⟩ := run_append_own (P := P) W B t o.type e i0 z size bytes E.ht hi hz0 hz1 hz2 E.hzs E.hsz v n xs hown ad' m c ys hc hcell h1 (by unfold maxLen; omega) hbytes hB
    unfold Oper.wp
    simp [execOp, ho, resolve, invoke, builtin, hs, hx, hrun, Result.andThen]
    exact h v' w' r1 r2
  rcases hrow with rfl | ⟨b, off, rfl, hcell⟩
  · have hm : m = 0 := by
      have hz := E.hsz
      have hc' : m * size = 0 := by simpa using hc.symm
      rcases Nat.mul_eq_zero.1 hc' with h | h <;> omega
    subst hm
    cases ad with
    | none =>
      have hr : (Builtin.append_ #[t, t] o.type #[v, .slice none 0 c]).run P W = .ok v W := by
        rcases hown.2 with ⟨rfl, rfl⟩ | ⟨g, cap, cur, rfl, _, _, hnc, _⟩
        · simp [Builtin.append_, run_underlying E.ht, sizeOf, typeInfo, hi, Builtin.lenOf, Builtin.firstCells]
        · simp [Builtin.append_, run_underlying E.ht, sizeOf, typeInfo, hi, Builtin.lenOf, Builtin.firstCells, hnc, storeCells]
      unfold Oper.wp
      simp [execOp, ho, resolve, invoke, builtin, hs, hx, hr, Result.andThen]
      exact h v W (by simpa using hown) (World.grownBy.refl _ _)
    | some ad => exact own ad rfl (by simp)
  · refine own ⟨b, off, none⟩ rfl (fun j u hj => ?_)
    have e1 : (⟨b, off, none⟩ : Addr).add j = ⟨b, off + j, none⟩ := by unfold Addr.add; split <;> simp_all
    rw [e1]; exact hcell j u hj
theorem own_empty (w : World) (T : TypeId) (B sz : Nat) (hB : B ≤ w.heap.size) : (w.alloc (.cells #[] T)).ownsRow B T sz (.slice (some ⟨w.heap.size, 0, none⟩) 0 0) 0 [] :=
  ⟨by simp, .inr ⟨w.heap.size, 0, #[], rfl, hB, heap_alloc_new w _, by omega, by unfold maxLen; omega, by simp, by simp⟩⟩
theorem row_drop {w : World} {a : Option Addr} {l : List Value} (h : Row w a l) (d : Nat) : Row w (a.map (·.add d)) (l.drop d) := by
  rcases h with rfl | ⟨b, o, rfl, hc⟩
  · exact .inl (by simp)
  · refine .inr ⟨b, o + d, ?_, fun j u hj => ?_⟩
    · rw [Option.map_some]; unfold Addr.add; split <;> simp_all
    · rw [List.getElem?_drop] at hj
      have := hc _ _ hj
      rwa [← Nat.add_assoc] at this
theorem row_take {w : World} {a : Option Addr} {l : List Value} (h : Row w a l) (d : Nat) : Row w a (l.take d) := by
  rcases h with rfl | ⟨b, o, rfl, hc⟩
  · exact .inl (by simp)
  · refine .inr ⟨b, o, rfl, fun j u hj => hc j u ?_⟩
    rw [List.getElem?_take] at hj
    split at hj
    · exact hj
    · cases hj
/-- 'l[:k]', 'l[k:]' of any row -/
theorem slice_run {T e : TypeId} (hT : Tryz.prog.underlying T = some (.slice e)) {sz : Nat} (hsz : (Tryz.prog.info? e).map (·.size) = some sz) (a : Option Addr) (n c k : Nat) (hk : k ≤ n) (hc : n ≤ c) :
    (∃ a' : Option Addr, (∀ w, (Instr.slice T (.slice a n c) none (some (.int .i64 k)) none).run Tryz.prog w = .ok (.slice a' k c) w) ∧ ∀ w l, Row w a l → Row w a' (l.take (k * sz))) ∧
    ∃ a' : Option Addr, (∀ w, (Instr.slice T (.slice a n c) (some (.int .i64 k)) none none).run Tryz.prog w = .ok (.slice a' (n - k) (c - k)) w) ∧ ∀ w l, Row w a l → l.length = n * sz → Row w a' (l.drop (k * sz)) := by
  have h1 : k ≤ c := by omega
  cases hq : Tryz.prog.info? e with
  | none => simp [hq] at hsz
  | some i =>
    have hs : i.size = sz := by simpa [hq] using hsz
    refine ⟨⟨if c = 0 then a else a.map (·.add (0 * sz)), fun w => ?_, fun w l h => ?_⟩, ⟨if c = k then a else a.map (·.add (k * sz)), fun w => ?_, fun w l h hl => ?_⟩⟩
    · simp [Instr.slice, run_underlying hT, Instr.sliceBounds, Instr.sliceBound, asIntOf, sizeOf, typeInfo, hq, h1]
    · split
      · exact row_take h _
      · have := row_drop (row_take h (k * sz)) 0
        rw [List.drop_zero] at this
        rwa [Nat.zero_mul]
    · simp [Instr.slice, run_underlying hT, Instr.sliceBounds, Instr.sliceBound, asIntOf, sizeOf, typeInfo, hq, hs, hk]
    · split
      · rw [List.drop_eq_nil_of_le (by rw [hl]; exact Nat.mul_le_mul_right _ (by omega))]
        exact .inl rfl
      · exact row_drop h _
theorem low_alloc (w : World) (o : Obj) : Below w.heap.size w (w.alloc o) := (Below.refl _ _).alloc (Nat.le_refl _) o
theorem row_grown {W w' : World} {r : Option Nat} {a : Option Addr} {xs : List Value} (h : Row W a xs) (hg : W.grownBy w' r) (hr : ∀ b o, a = some ⟨b, o, none⟩ → r ≠ some b) : Row w' a xs :=
  h.mod (S := r.toList) ((Mod.refl _ W).grown hg (fun k hk => .inl (by simp [hk]))) (fun b o e hb => hr b o e (by simpa using hb))
theorem step_spread' {P : Program} {t e : TypeId} {z : Value} {size bytes : Nat} {m : Nat} (E : ElemT P t e z size bytes) {w0 W : World} {B : Nat} {v : Value} {n : Nat} {xs : List Value} (hown : W.ownsRow B e size v n xs) (hb : Below B w0 W) (hB0 : B ≤ w0.heap.size)
    {ad : Option Addr} {ys : List Value} {c : Nat} (hrow : Row W ad ys)
    {ops : Array Oper} {o : Oper} {a : Go.Act} {K : Go.Act → World → Prop} {Q : Exit → Go.Act → World → Prop} {E' : Prop} (hgd : o.guard = none) {s x : Operand}
    (ho : o.op = .call { callee := .builtin .append, args := #[s, x], argTypes := #[t, t] }) (hs : a.eval s = v) (hx : a.eval x = .slice ad m c)
    (hc : ys.length = m * size) (h1 : ∀ u ∈ ys, u.oneCell' = true) (hbytes : (n + m) * bytes ≤ 140737488355328) (hn : n + m < 140737488355328)
    (h : ∀ v' w', w'.ownsRow B e size v' (n + m) (xs ++ ys) → Below B w0 w' → W.grownBy w' v.ownBlock → K (a.put o.dst v') w') :
    if Region.wanted o (yielded ops a.tmps) = true then Oper.wp P o a W K Q else E' := by
  have hl := hown.lt
  have hB : B ≤ W.heap.size := Nat.le_trans hB0 hb.size
  exact step_spread E hown hrow hgd ho hs hx hc h1 hbytes hn hB (fun v' w' h1 h2 => h v' w' h1 (hb.grown h2 hB (fun k hk => (hl k hk).1)) h2)
/-- 'append(s[:len:len], x)' as one step of a region that draws its order: a row of its own. -/
theorem step_grows {P : Program} {t e : TypeId} {z : Value} {size bytes : Nat} (E : ElemT P t e z size bytes) {W : World} {ao : Option Addr} {n : Nat} {olds : List Value} (hnone : ao = none → n = 0) (hlo : olds.length = n * size)
    (holds : ∀ b, ao = some b → ∀ j u, olds[j]? = some u → W.cell? (b.add j) = some u)
    {b m c : Nat} {cur : Array Value} {t' : TypeId} {fr : Nat × Nat} (hblk : W.heap[b]? = some (.cells cur t' fr))
    {ops : Array Oper} {o : Oper} {a : Act} {K : Act → World → Prop} {Q : Exit → Act → World → Prop} {E' : Prop} (hgd : o.guard = none) {s x : Operand}
    (ho : o.op = .call { callee := .builtin .append, args := #[s, x], argTypes := #[t, t] }) (hs : a.eval s = .slice ao n n) (hx : a.eval x = .slice (some ⟨b, 0, none⟩) m c)
    (hc : cur.size = m * size) (hm : 0 < m) (h1 : ∀ u ∈ cur.toList, u.oneCell' = true) (hbytes : (n + m) * bytes ≤ 140737488355328) (hn : n + m < 140737488355328)
    (h : ∀ v' w', w'.ownsRow W.heap.size e size v' (n + m) (olds ++ cur.toList) → W.grownBy w' none → K (a.put o.dst v') w') :
    if Region.wanted o (yielded ops a.tmps) = true then Oper.wp P o a W K Q else E' := by
  obtain ⟨i0, hi, hz0, hz1, hz2⟩ := info_parts E.hi
  have hw : Region.wanted o (yielded ops a.tmps) = true := by simp [Region.wanted, hgd]
  rw [if_pos hw]
  have hnews : ∀ j u, cur.toList[j]? = some u → W.cell? ((⟨b, 0, none⟩ : Addr).add j) = some u := World.news_of_block hblk
  cases ao with
  | some ad =>
    obtain ⟨v', w', hrun, r1, r2⟩ := run_append_arg_grows (P := P) W t o.type e i0 z size bytes E.ht hi hz0 hz1 hz2 E.hzs E.hsz ad n n olds hlo (holds ad rfl) ⟨b, 0, none⟩ m c cur.toList (by simp [hc]) hnews (by omega) (by unfold maxLen; omega) hbytes
    unfold Oper.wp
    simp [execOp, ho, resolve, invoke, builtin, hs, hx, hrun, Result.andThen]
    exact h v' w' r1 r2
  | none =>
    obtain rfl := hnone rfl
    obtain rfl : olds = [] := List.eq_nil_of_length_eq_zero (by simpa using hlo)
    obtain ⟨v', w', hrun, r1, r2, _⟩ := run_append_own (P := P) W W.heap.size t o.type e i0 z size bytes E.ht hi hz0 hz1 hz2 E.hzs E.hsz (.slice none 0 0) 0 [] (World.ownsRow_nil W _ e size) ⟨b, 0, none⟩ m c cur.toList (by simp [hc]) hnews h1 (by unfold maxLen; omega) hbytes (Nat.le_refl _)
    unfold Oper.wp
    simp [execOp, ho, resolve, invoke, builtin, hs, hx, hrun, Result.andThen]
    exact h v' w' r1 r2

end
end Go.Proofs.YthfdcphecggjeaaGreatDoor
