/- The set of ids: its plain model, and how it lies in memory. -/
import Derived.Test.YtmkhagmjpbfieaaGreatDoorRows
import Derived.Test.YtmkhagmjpbfieaaGreatDoorMemX
import Derived.Maps.OwnSet
import Derived.Maps.RangeWalk
import Derived.Maps.Ext
namespace Go.Proofs.YtmkhagmjpbfieaaGreatDoor
open Go Go.RowKit Go.Maps

def ins (x : Int) : List Int → List Int
  | [] => [x]
  | y :: r => if x < y then x :: y :: r else y :: ins x r
theorem mem_ins (x z : Int) (l : List Int) : z ∈ ins x l ↔ z = x ∨ z ∈ l := by
  induction l with
  | nil => simp [ins]
  | cons y r ih =>
    unfold ins
    split
    · simp
    · simp only [List.mem_cons, ih]
      constructor
      · rintro (h | h | h) <;> simp [h]
      · rintro (h | h | h) <;> simp [h]
theorem length_ins (x : Int) (l : List Int) : (ins x l).length = l.length + 1 := by
  induction l with
  | nil => rfl
  | cons y r ih =>
    unfold ins
    split
    · rfl
    · simp [ih]
theorem ins_sorted {x : Int} {l : List Int} (h : l.Pairwise (· < ·)) (hx : x ∉ l) : (ins x l).Pairwise (· < ·) := by
  induction l with
  | nil => simp [ins]
  | cons y r ih =>
    obtain ⟨h1, h2⟩ := List.pairwise_cons.1 h
    unfold ins
    split
    · rename_i hlt
      refine List.pairwise_cons.2 ⟨fun z hz => ?_, h⟩
      rcases List.mem_cons.1 hz with rfl | hz
      · exact hlt
      · have := h1 z hz; omega
    · rename_i hlt
      refine List.pairwise_cons.2 ⟨fun z hz => ?_, ih h2 (fun hm => hx (List.mem_cons_of_mem _ hm))⟩
      rcases (mem_ins x z r).1 hz with rfl | hz
      · have : z ≠ y := fun e => hx (by simp [e])
        omega
      · exact h1 z hz
def out (x : Int) (l : List Int) : List Int := l.filter fun y => y != x
theorem mem_out (x z : Int) (l : List Int) : z ∈ out x l ↔ z ∈ l ∧ z ≠ x := by simp [out]
theorem out_sorted {x : Int} {l : List Int} (h : l.Pairwise (· < ·)) : (out x l).Pairwise (· < ·) := h.filter _
theorem out_none {x : Int} {l : List Int} (h : x ∉ l) : out x l = l := by
  unfold out
  rw [List.filter_eq_self]
  intro y hy
  simp only [bne_iff_ne, ne_eq]
  rintro rfl
  exact h hy
theorem length_out {x : Int} {l : List Int} (h : l.Pairwise (· < ·)) (hx : x ∈ l) : (out x l).length + 1 = l.length := by
  induction l with
  | nil => simp at hx
  | cons y r ih =>
    obtain ⟨h1, h2⟩ := List.pairwise_cons.1 h
    by_cases e : y = x
    · subst e
      have : y ∉ r := fun hm => by have := h1 y hm; omega
      simp [out]
      rintro a ha rfl
      exact this ha
    · have hx' : x ∈ r := by
        rcases List.mem_cons.1 hx with h | h
        · exact absurd h.symm e
        · exact h
      have := ih h2 hx'
      unfold out at this ⊢
      rw [List.filter_cons_of_pos (by simpa using e)]
      simp
      omega
theorem sort_perm {l m : List Int} (hm : m.Pairwise (· < ·)) (h : l.Perm m) : (l.mergeSort fun x y => decide (x ≤ y)) = m := by
  have hp : ((l.mergeSort fun x y => decide (x ≤ y))).Pairwise (fun a b => decide (a ≤ b) = true) :=
    List.pairwise_mergeSort (fun a b c h1 h2 => by simp at *; omega) (fun a b => by simp; omega) l
  refine List.Perm.eq_of_pairwise (le := fun a b => decide (a ≤ b) = true) (fun a b _ _ h1 h2 => by simp at h1 h2; omega) hp (hm.imp (by simp; omega)) ((List.mergeSort_perm l _).trans h)

def u16s (l : List Int) : List Value := l.map (Value.int .u16)
theorem u16s_append (l m : List Int) : u16s l ++ u16s m = u16s (l ++ m) := by simp [u16s]

theorem T_u16 : ElemT Tryz.prog 46 32 (.int .u16 0) 1 2 := ⟨Tryz.underlying46, by kernel_rfl, rfl, by decide⟩
theorem kU : Keyed Tryz.prog 32 := int_keyed Tryz.underlying32
theorem wfU {x : Int} (h0 : 0 ≤ x) (h1 : x ≤ 65535) : (Lit.int .u16 x).wf = true := by simp [Lit.wf, IntKind.min, IntKind.max, IntKind.signed, IntKind.bits]; omega
theorem wfU_iff {x : Int} (h : (Lit.int .u16 x).wf = true) : 0 ≤ x ∧ x ≤ 65535 := by simpa [Lit.wf, IntKind.min, IntKind.max, IntKind.signed, IntKind.bits] using h
theorem zeroUnit (w : World) : (zeroValue 130).run Tryz.prog w = .ok (.agg #[]) w := by kernel_rfl

theorem owns_tight {P : Program} {k : TypeId} {R : Value → Option (DataW Unit × List MemPlace)} {w : World} {b n : Nat} {D : DataW Unit} (h : w.ownsMap P k R b n D) : w.ownsMap P k R b (Maps.size D) D := by
  obtain ⟨es, clock, hb, F, hs, rfl⟩ := h
  exact ⟨es, clock, hb, F, by simp [Maps.size, length_sorted], rfl⟩

/-- A set lies at block g: it has the ids l, rising; its blocks are F. -/
def CRep (w : World) (g : Nat) (l : List Int) (F : List Nat) : Prop :=
  ∃ (b : Nat) (D : DataW Unit), w.heap[g]? = some (.cells #[.map (some b)] 109 (0, 0)) ∧ w.ownsMap Tryz.prog 32 unitElem b (Maps.size D) D ∧ Maps.size D = l.length ∧
    (∀ x, 0 ≤ x → x ≤ 65535 → Maps.has D (.int .u16 x) = decide (x ∈ l)) ∧ l.Pairwise (· < ·) ∧ (∀ x ∈ l, 1 ≤ x ∧ x ≤ 65535) ∧ b ≠ g ∧ F = [g, b]
theorem CRep.lt {w : World} {g : Nat} {l : List Int} {F : List Nat} (h : CRep w g l F) : ∀ k ∈ F, k < w.heap.size := by
  obtain ⟨b, D, hg, hown, _, _, _, _, _, rfl⟩ := h
  intro k hk
  simp at hk
  rcases hk with rfl | rfl
  · exact (Array.getElem?_eq_some_iff.1 hg).1
  · exact hown.lt
theorem CRep.mod {S : List Nat} {w w' : World} {g : Nat} {l : List Int} {F : List Nat} (h : CRep w g l F) (hm : Mod S w w') (hS : ∀ k ∈ F, k ∉ S) : CRep w' g l F := by
  have hl := h.lt
  obtain ⟨b, D, hg, ⟨es, clock, hb, r⟩, h1, h2, h3, h4, h5, rfl⟩ := h
  exact ⟨b, D, by rw [hm.block g (hl g (by simp)) (hS g (by simp))]; exact hg, ⟨es, clock, by rw [hm.block b (hl b (by simp)) (hS b (by simp))]; exact hb, r⟩, h1, h2, h3, h4, h5, rfl⟩
theorem CRep.below {w w' : World} {g : Nat} {l : List Int} {F : List Nat} (h : CRep w g l F) (hk : Below w.heap.size w w') : CRep w' g l F := h.mod (Mod.of_below hk []) (by simp)
theorem CRep.drewN {w : World} {g : Nat} {l : List Int} {F : List Nat} (h : CRep w g l F) (n : Nat) : CRep (w.drewN n) g l F := h
theorem CRep.sorted {w : World} {g : Nat} {l : List Int} {F : List Nat} (h : CRep w g l F) : l.Pairwise (· < ·) := by obtain ⟨b, D, _, _, _, _, h, _⟩ := h; exact h
theorem CRep.range {w : World} {g : Nat} {l : List Int} {F : List Nat} (h : CRep w g l F) : ∀ x ∈ l, 1 ≤ x ∧ x ≤ 65535 := by obtain ⟨b, D, _, _, _, _, _, h, _⟩ := h; exact h
theorem sorted_len {l : List Int} : ∀ {a b : Int}, l.Pairwise (· < ·) → (∀ x ∈ l, a ≤ x ∧ x ≤ b) → a ≤ b + 1 → (l.length : Int) ≤ b + 1 - a := by
  induction l with
  | nil => intro a b _ _ h; simp; omega
  | cons y r ih =>
    intro a b h hr hab
    obtain ⟨h1, h2⟩ := List.pairwise_cons.1 h
    have hy := hr y (by simp)
    have := ih (a := y + 1) (b := b) h2 (fun x hx => ⟨by have := h1 x hx; omega, (hr x (by simp [hx])).2⟩) (by omega)
    simp
    omega
theorem CRep.len {w : World} {g : Nat} {l : List Int} {F : List Nat} (h : CRep w g l F) : l.length ≤ 65535 := by
  have := sorted_len h.sorted h.range (by omega)
  omega

/-- 'clear(m)' at the operation. -/
theorem wpList_clear_map {H : Type} {P : Program} (w : World) {ops : Array Oper} {rest : List Oper} {o : Oper} {a : Act} {Q : Exit → Act → World → Prop} (hg : o.guard = none) (m : Operand) (t k e : TypeId) (hop : o.op = Op.call { callee := Callee.builtin Builtin.clear, args := #[m], argTypes := #[t] })
    (ht : P.underlying t = some (.map k e)) (R : Value → Option (DataW H × List MemPlace)) (b n : Nat) (D : DataW H) (hm : a.eval m = .map (some b)) (hown : w.ownsMap P k R b n D)
    (hK : ∀ w', w'.ownsMap P k R b 0 (.map []) → w.mapTurned w' b → wpList P ops Q rest (a.put o.dst (.tuple #[])) w') : wpList P ops Q (o :: rest) a w := by
  refine wpList_plain hg fun K' hK' => ?_
  obtain ⟨es, clock, hb, F, hs, rfl⟩ := hown
  have hrun : (Builtin.clear_ #[t] o.type #[.map (some b)]).run P w = .ok (.tuple #[]) (ChangeMaps.setBlock w b (.map #[] clock)) := by
    simp [Builtin.clear_, run_underlying ht, MapKept.run_getObj_map hb, MapKept.run_setObj_map _ hb, Result.andThen, ChangeMaps.setBlock]
  unfold Oper.wp
  simp [execOp, hop, resolve, invoke, builtin, hm, hrun, Result.andThen]
  exact hK' _ _ (hK _ ⟨#[], clock, ChangeMaps.heap_setBlock_same hb _, ⟨by simp, MapKept.stamped_empty clock, by simp⟩, Nat.le_refl _, rfl⟩ ⟨es, clock, #[], clock, hb, rfl⟩)
end Go.Proofs.YtmkhagmjpbfieaaGreatDoor
