/- An argument that is a slice of elements of many cells each (structs of numbers, texts, structs ..), opened: a list, its cells in a row. No program in sight. -/
import Derived.Test.YtmkhagmjpbfieaaGreatDoorLib
import Derived.Deep.Slices
import Derived.Deep.Fields
import Derived.Lib.SmallJoins
import Derived.ChangeArms
import Derived.OpenShut
namespace Go.Proofs.YtmkhagmjpbfieaaGreatDoor
open Go Go.ChangeShapes Go.WideShapes Go.ChangeAt Go.RowKit Go.WideMaps Go.WideElems Go.Joins

/-- A type whose values are cells alone, with no memory behind them: what is read as it is 'mk a' for some a. -/
def Flat (P : Program) (e : TypeId) {α : Type} (mk : α → List Value) (ok : α → Prop) : Prop :=
  ∀ (H : Type) (enc : TypeId × Value → H) (w : World) (base : Nat) (sp : Nat → Bool) (held : Bool) (fuel : Nat) (cs : List Value) (x : DataW H × List MemPlace),
    DataW.trod enc P w base sp held fuel e cs = some x → ∃ a, cs = mk a ∧ ok a

theorem flatMap_at {α : Type} {mk : α → List Value} {c : Nat} (hlen : ∀ a, (mk a).length = c) (l : List α) : ∀ (i r : Nat), r < c → (l.flatMap mk)[i * c + r]? = (l[i]?).bind fun a => (mk a)[r]? := by
  induction l with
  | nil => simp
  | cons a l ih =>
    intro i r hr
    rw [List.flatMap_cons]
    cases i with
    | zero => rw [List.getElem?_append_left (by rw [hlen]; omega)]; simp
    | succ i =>
      rw [List.getElem?_append_right (by rw [hlen, Nat.succ_mul]; omega), hlen, show (i + 1) * c + r - c = i * c + r from by rw [Nat.succ_mul]; omega, ih i r hr]
      simp
theorem flatMap_len {α : Type} {mk : α → List Value} {c : Nat} (hlen : ∀ a, (mk a).length = c) (l : List α) : (l.flatMap mk).length = l.length * c := by
  induction l with
  | nil => simp
  | cons a l ih => rw [List.flatMap_cons, List.length_append, hlen, ih, List.length_cons, Nat.succ_mul]; omega

section
variable {H : Type} {enc : TypeId × Value → H} {P : Program}
theorem open_list {α : Type} {mk : α → List Value} {ok : α → Prop} {r : Reach} {b0 : Nat} {t e : TypeId} {W : World} {v : Value} {d : DataW H} {ps : List MemPlace} {base : Nat} {sp : Nat → Bool} {held : Bool}
    (ht : P.underlying t = some (.slice e)) (hf : Flat P e mk ok) (hlen : ∀ a, (mk a).length = P.cellsOf e) (hpos : 0 < P.cellsOf e)
    (hval : Value.okWide P W r b0 t v) (h : DataW.Trod enc P W base sp held t v d ps) :
    ∃ a cap, ∃ l : List α, v = .slice a l.length cap ∧ Row W a (l.flatMap mk) ∧ l.length ≤ cap ∧ cap ≤ maxLen ∧ ∀ x ∈ l, ok x := by
  obtain ⟨a, len, cap, rfl⟩ := okWide_slice ht hval
  obtain ⟨fuel, hfu⟩ := h
  rcases Go.Deep.open_slice ht hfu with ⟨hcs, -⟩ | ⟨ad, len', cap', m, n, D, Pl, hcs, -, hl, hm, hmm, -, hi⟩
  · simp [Value.cells] at hcs
    obtain ⟨rfl, rfl, rfl⟩ := hcs
    exact ⟨none, 0, [], rfl, .inl rfl, by simp, by simp, by simp⟩
  · simp [Value.cells] at hcs
    obtain ⟨rfl, rfl, rfl⟩ := hcs
    have hml : len ≤ m := by rw [hmm]; split <;> omega
    have hall : ∀ i, i < len → ∃ x : α, ok x ∧ ∀ j, j < P.cellsOf e → W.cell? (ad.add (i * P.cellsOf e + j)) = (mk x)[j]? := by
      intro i him
      obtain ⟨cs', hc, htr⟩ := hi i (by omega)
      obtain ⟨x, rfl, hok⟩ := hf _ _ _ _ _ _ _ _ _ htr
      obtain ⟨_, hcl, hat⟩ := World.cells?_some hc
      exact ⟨x, hok, fun j hj => by rw [← Go.Deep.add_add]; exact hat j hj⟩
    rcases Nat.eq_zero_or_pos len with h0 | h0
    · subst h0; exact ⟨some ad, cap, [], rfl, .inl rfl, by simp, hm, by simp⟩
    · obtain ⟨x0, hx0, hc0⟩ := hall 0 h0
      have hs : ad.spot = none := by
        have h1 := hc0 0 hpos
        rw [List.getElem?_eq_getElem (by rw [hlen]; exact hpos)] at h1
        rw [show ad.add (0 * P.cellsOf e + 0) = ad.add 0 from by simp, show ad.add 0 = ad from rfl] at h1
        unfold World.cell? at h1
        cases hq : ad.spot with
        | none => rfl
        | some x => rw [hq] at h1; split at h1 <;> simp at h1
      haveI : Inhabited α := ⟨x0⟩
      obtain ⟨f, hfx⟩ := Go.Deep.choose_lt hall
      refine ⟨some ad, cap, (List.range len).map f, by simp, .inr ⟨ad.block, ad.off, by rw [← hs], fun j u hj => ?_⟩, by simpa using hl, hm, ?_⟩
      · have hjl : j < len * P.cellsOf e := by
          have := (List.getElem?_eq_some_iff.1 hj).1
          rw [flatMap_len hlen] at this
          simpa using this
        have hr : j % P.cellsOf e < P.cellsOf e := Nat.mod_lt _ hpos
        have hd : j / P.cellsOf e < len := Nat.div_lt_of_lt_mul (by rw [Nat.mul_comm]; exact hjl)
        have hjj : j / P.cellsOf e * P.cellsOf e + j % P.cellsOf e = j := by rw [Nat.mul_comm]; exact Nat.div_add_mod j _
        have h1 := (hfx _ hd).2 _ hr
        rw [hjj] at h1
        have e1 : ad.add j = ⟨ad.block, ad.off + j, none⟩ := by unfold Addr.add; split <;> simp_all <;> (cases ad; simp_all)
        rw [e1] at h1
        rw [h1, ← hj, ← hjj, flatMap_at hlen _ _ _ hr, hjj]
        simp [hd]
      · intro x hx
        obtain ⟨i, hi', rfl⟩ := List.mem_map.1 hx
        exact (hfx i (by simpa using hi')).1

theorem flat_int {t : TypeId} {k : IntKind} (ht : P.underlying t = some (.int k)) : Flat P t (fun n : Int => [.int k n]) (fun n => (Lit.int k n).wf = true) :=
  fun _ _ _ _ _ _ _ _ _ h => by obtain ⟨n, h1, -, h2⟩ := DataW.trod_int ht h; exact ⟨n, h1, h2⟩
theorem flat_string {t : TypeId} (ht : P.underlying t = some .string) : Flat P t (fun s : ByteArray => [.string s]) (fun s => s.size ≤ maxLen) :=
  fun _ _ _ _ _ _ _ _ _ h => by obtain ⟨n, h1, -, h2⟩ := DataW.trod_string ht h; exact ⟨n, h1, h2⟩
theorem flat_bool {t : TypeId} (ht : P.underlying t = some .bool) : Flat P t (fun b : Bool => [.bool b]) (fun _ => True) :=
  fun _ _ _ _ _ _ _ _ _ h => by obtain ⟨n, h1, -⟩ := DataW.trod_bool ht h; exact ⟨n, h1, trivial⟩
end
end Go.Proofs.YtmkhagmjpbfieaaGreatDoor
