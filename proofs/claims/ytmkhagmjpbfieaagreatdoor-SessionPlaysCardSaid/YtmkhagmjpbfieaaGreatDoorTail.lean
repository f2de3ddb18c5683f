/- A region that draws its order and ends in one store: what is read ahead of that store may be taken first, by a condition that the store itself need not keep. -/
import Derived.Test.YtmkhagmjpbfieaaGreatDoorLib
import Derived.Deep.RegionHeld3
import Derived.Deep.AppendLies
import Derived.Deep.RegionLaw
namespace Go.Proofs.YtmkhagmjpbfieaaGreatDoor
open Go

section
variable {P : Program} {md : Region.Mode} {ops : Array Oper} {Q : Exit → Go.Act → World → Prop} {S : World → Prop} {z : Nat}

/-- what has come up is closed under what it waits for -/
def Closed (md : Region.Mode) (ops : Array Oper) (done : Array Bool) : Prop := ∀ j oj, ops[j]? = some oj → done.getD j false = true → ∀ e ∈ oj.after, Region.binds md e = true → done.getD e.on false = true
def closedB (md : Region.Mode) (ops : Array Oper) (done : Array Bool) : Bool := (List.range ops.size).all fun j => !(done.getD j false) || match ops[j]? with
  | some oj => oj.after.toList.all fun e => !(Region.binds md e) || done.getD e.on false
  | none => true
theorem closed_of {done : Array Bool} (h : closedB md ops done = true) : Closed md ops done := by
  intro j oj hj hd e he hb
  have h1 := List.all_eq_true.1 h j (List.mem_range.2 (Array.getElem?_eq_some_iff.1 hj).1)
  rw [hd, hj, Bool.not_true, Bool.false_or] at h1
  have h2 := List.all_eq_true.1 h1 e (by simpa using he)
  rw [hb] at h2
  simpa using h2
/-- z waits for i, at once or through others -/
def waitsB (md : Region.Mode) (ops : Array Oper) (i : Nat) : Nat → Nat → Bool
  | 0, _ => false
  | n + 1, j => match ops[j]? with
    | some oj => oj.after.toList.any fun e => Region.binds md e && (e.on == i || waitsB md ops i n e.on)
    | none => false
theorem waits_done {i : Nat} {done : Array Bool} (hc : Closed md ops done) : ∀ (n j : Nat), waitsB md ops i n j = true → (∀ oj, ops[j]? = some oj → ∀ e ∈ oj.after, Region.binds md e = true → done.getD e.on false = true) → done.getD i false = true
  | 0, _, h, _ => by cases h
  | n + 1, j, h, hd => by
    unfold waitsB at h
    cases ho : ops[j]? with
    | none => rw [ho] at h; cases h
    | some oj =>
      rw [ho] at h
      obtain ⟨e, he, h1⟩ := List.any_eq_true.1 h
      replace he : e ∈ oj.after := by simpa using he
      rw [Bool.and_eq_true, Bool.or_eq_true, beq_iff_eq] at h1
      have h2 := hd oj ho e he h1.1
      rcases h1.2 with h3 | h3
      · rw [← h3]; exact h2
      · exact waits_done hc n e.on h3 (fun ok hk => hc e.on ok hk h2)
theorem undone {i : Nat} {done : Array Bool} (h : i ∈ Region.ready md ops done) : done.getD i false = false := by
  have h0 := (mem_ready.1 h).1
  rcases Nat.lt_or_ge i done.size with h' | h'
  · simp [h'] at h0 ⊢; exact h0
  · simp [Array.getElem?_eq_none h'] at h0
theorem closed_step {j : Nat} {done : Array Bool} (hc : Closed md ops done) (hj : j ∈ Region.ready md ops done) : Closed md ops (done.setIfInBounds j true) := by
  obtain ⟨-, oj, hoj, hall⟩ := mem_ready.1 hj
  intro k ok hk hd e he hb
  by_cases hjk : j = k
  · subst hjk
    rw [hoj] at hk
    cases hk
    exact getD_set_true (hall e he hb)
  · rw [getD_set_ne false hjk] at hd
    exact getD_set_true (hc k ok hk hd e he hb)

/-- Whatever order is picked from here on; S holds behind each operation but number z. -/
def wpTail (P : Program) (md : Region.Mode) (ops : Array Oper) (Q : Exit → Go.Act → World → Prop) (S : World → Prop) (z : Nat) (fuel : Nat) (done : Array Bool) (a : Go.Act) (w : World) : Prop :=
  match fuel with
  | 0 => Region.ready md ops done = [] ∧ Q .normal a w
  | n + 1 => (∀ i ∈ Region.ready md ops done, wpOp P ops Q i (fun b u => wpTail P md ops Q S z n (done.setIfInBounds i true) b u ∧ (i ≠ z → S u)) a w) ∧ (Region.ready md ops done = [] → Q .normal a w)
theorem wpTail.any : ∀ (n : Nat) (done : Array Bool) (a : Go.Act) (w : World), wpTail P md ops Q S z n done a w → wpAny P md ops Q n done a w
  | 0, _, _, _, h => h
  | n + 1, _, _, _, h => ⟨h.2, fun i hi => wpOp_mono (fun b u hb => wpTail.any n _ b u hb.1) (h.1 i hi)⟩
theorem wpTail.first {i m : Nat} {oi : Oper} {v : Value} (hi : ops[i]? = some oi) (hsel : ∀ (j : Nat) (o : Oper) cs b, ops[j]? = some o → o.op ≠ .select cs b) (hw : waitsB md ops i m z = true)
    (hQ : ∀ c a w, Q (.panic c) (a.put oi.dst v) w → Q (.panic c) a w) :
    ∀ (n : Nat) (done : Array Bool) (a : Go.Act) (w : World), Closed md ops done →
      (∀ j oj, ops[j]? = some oj → j ≠ i → done.getD j true = false → (∀ e ∈ oj.after, Region.binds md e = true → e.on ≠ i) → oi.apart ops oj = true) →
      i ∈ Region.ready md ops done → YieldsIf P ops S oi v a → S w →
      wpTail P md ops Q S z n (done.setIfInBounds i true) (a.put oi.dst v) w → wpTail P md ops Q S z (n + 1) done a w := by
  intro n
  induction n with
  | zero =>
    intro done a w _ _ hr hy hS H
    refine ⟨fun j hj => ?_, fun h => (by rw [h] at hr; cases hr)⟩
    by_cases hji : j = i
    · subst hji
      exact hy.wpOp hi hS ⟨H, fun _ => hS⟩
    · have := ready_mono hj hji
      rw [H.1] at this
      cases this
  | succ n ih =>
    intro done a w hc hfree hr hy hS H
    refine ⟨fun j hj => ?_, fun h => (by rw [h] at hr; cases hr)⟩
    by_cases hji : j = i
    · subst hji
      exact hy.wpOp hi hS ⟨H, fun _ => hS⟩
    · obtain ⟨hjun, oj, hoj, hall⟩ := mem_ready.1 hj
      have hun := undone hr
      have hnot : ∀ e ∈ oj.after, Region.binds md e = true → e.on ≠ i := fun e he hb heq => by
        have h1 := hall e he hb
        rw [heq, hun] at h1
        cases h1
      have hjz : j ≠ z := fun e => by
        subst e
        have h1 := waits_done hc m j hw (fun ok hk => by rw [hoj] at hk; cases hk; exact hall)
        rw [hun] at h1
        cases h1
      have h2 := wpOp_putIf hoj (hfree j oj hoj hji hjun hnot) (fun cs b => hsel i oi cs b hi) (fun cs b => hsel j oj cs b hoj) hQ hy (H.1 j (ready_mono hj hji))
      refine wpOp_mono (fun b u h3 => ⟨ih (done.setIfInBounds j true) b u (closed_step hc hj) (fun k ok hk hki hku hno => ?_) (ready_mono hr (Ne.symm hji)) h3.1 (h3.2.2 hjz) ?_, fun _ => h3.2.2 hjz⟩) h2
      · refine hfree k ok hk hki ?_ hno
        by_cases hjk : j = k
        · subst hjk; exact hjun
        · rwa [getD_set_ne true hjk] at hku
      · rw [Array.setIfInBounds_comm _ _ hji]
        exact h3.2.1
theorem wpTail.take {i : Nat} {oi : Oper} {v : Value} {n : Nat} {done : Array Bool} {a : Go.Act} {w : World} (hi : ops[i]? = some oi)
    (hs : Region.noSelect ops = true) (hf : Region.free md ops done i = true) (hr : (Region.ready md ops done).contains i = true) (hc : closedB md ops done = true) (hw : waitsB md ops i ops.size z = true)
    (hQ : ∀ c a w, Q (.panic c) (a.put oi.dst v) w → Q (.panic c) a w) (hy : YieldsIf P ops S oi v a) (hS : S w)
    (h : wpTail P md ops Q S z n (done.setIfInBounds i true) (a.put oi.dst v) w) : wpTail P md ops Q S z (n + 1) done a w :=
  wpTail.first hi (Region.noSelect_spec hs) hw hQ n done a w (closed_of hc) (Region.free_spec hi hf) (by simpa using hr) hy hS h
theorem ttk (i : Nat) {oi : Oper} {v : Value} {n : Nat} {done : Array Bool} {a : Go.Act} {w : World} (hy : ∀ w, S w → (execOp a.eval oi).run P w = .ok (.value v) w) (hS : S w)
    (h : wpTail P md ops Q S z n (done.setIfInBounds i true) (a.put oi.dst v) w) (hi : ops[i]? = some oi := by rfl)
    (hs : Region.noSelect ops = true := by kernel_rfl) (hf : Region.free md ops done i = true := by kernel_rfl) (hr : (Region.ready md ops done).contains i = true := by kernel_rfl) (hc : closedB md ops done = true := by kernel_rfl) (hw : waitsB md ops i ops.size z = true := by kernel_rfl)
    (hg : Region.wanted oi (yielded ops a.tmps) = true := by kernel_rfl) (hQ : ∀ c a w, Q (.panic c) (a.put oi.dst v) w → Q (.panic c) a w := by exact fun _ _ _ h => h) : wpTail P md ops Q S z (n + 1) done a w :=
  wpTail.take hi hs hf hr hc hw hQ (Or.inl ⟨hg, hy⟩) hS h
def AllTail (P : Program) (md : Region.Mode) (ops : Array Oper) (Q : Exit → Go.Act → World → Prop) (S : World → Prop) (z n : Nat) (done : Array Bool) (a : Go.Act) (w : World) (rs : List Nat) : Prop :=
  ∀ i ∈ rs, wpOp P ops Q i (fun b u => wpTail P md ops Q S z n (done.setIfInBounds i true) b u ∧ (i ≠ z → S u)) a w
theorem AllTail.nil {n : Nat} {done : Array Bool} {a : Go.Act} {w : World} : AllTail P md ops Q S z n done a w [] := fun _ h => by cases h
theorem AllTail.cons {n : Nat} {done : Array Bool} {a : Go.Act} {w : World} {i : Nat} {o : Oper} {rs : List Nat} (ho : ops[i]? = some o)
    (h : ∀ K' : Go.Act → World → Prop, Shut (∀ b u, (i ≠ z → S u) → ((i ≠ z → S u) → wpTail P md ops Q S z n (done.setIfInBounds i true) b u) → K' b u) → if Region.wanted o (yielded ops a.tmps) = true then Oper.wp P o a w K' Q else K' (a.put o.dst undef) w)
    (hs : AllTail P md ops Q S z n done a w rs) : AllTail P md ops Q S z n done a w (i :: rs) := fun j hj => by
  rcases List.mem_cons.1 hj with rfl | hj
  · exact wpOp_step ho (fun K' hK => h K' (fun b u hS hW => hK b u ⟨hW hS, hS⟩))
  · exact hs j hj
theorem wpTail.ready {rs : List Nat} {n : Nat} {done : Array Bool} {a : Go.Act} {w : World} (hr : Region.ready md ops done = rs) (hne : rs ≠ []) (h : AllTail P md ops Q S z n done a w rs) : wpTail P md ops Q S z (n + 1) done a w :=
  ⟨hr ▸ h, fun h0 => absurd (hr ▸ h0) hne⟩
theorem wpTail.done {d : Array Bool} {a : Go.Act} {w : World} (hr : Region.ready md ops d = []) (h : Q .normal a w) : ∀ n, wpTail P md ops Q S z n d a w
  | 0 => ⟨hr, h⟩
  | _ + 1 => ⟨by rw [hr]; simp, fun _ => h⟩
theorem wp_region_tail (z : Nat) {id : Nat} {a : Go.Act} {w : World} (hm : P.follows .mixedOrders = true) (hS : S w.drew)
    (h : S w.drew → wpTail P .any ops Q S z ops.size (Array.replicate ops.size false) a w.drew) : (Code.region id ops true).wp P Q a w :=
  wp_region_any hm (wpTail.any _ _ _ _ (h hS))
end
end Go.Proofs.YtmkhagmjpbfieaaGreatDoor
