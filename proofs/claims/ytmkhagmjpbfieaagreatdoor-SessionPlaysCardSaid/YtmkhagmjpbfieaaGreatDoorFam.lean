/- Things by names, each with blocks of its own; maps from texts to pointers. No program in sight. -/
import Derived.Test.YtmkhagmjpbfieaaGreatDoorSubX
import Derived.Test.YtmkhagmjpbfieaaGreatDoorMemX
import Derived.Test.YtmkhagmjpbfieaaGreatDoorProg
import Derived.Maps.OwnSet
import Derived.Maps.Ext
import Derived.Maps.RangeWalk
import Derived.Sort.KeysCollected
namespace Go.Proofs.YtmkhagmjpbfieaaGreatDoor
open Go Go.RowKit Go.Maps

/-- what a thing's representation must keep: it hangs on its own blocks alone -/
structure Local {σ : Type} (R : World → Nat → σ → List Nat → Prop) : Prop where
  lt : ∀ {w b s F}, R w b s F → ∀ k ∈ F, k < w.heap.size
  keep : ∀ {w w' b s F}, R w b s F → (∀ k ∈ F, w'.heap[k]? = w.heap[k]?) → R w' b s F

/-- the things of a family, by names: bl tells where each begins, and its blocks -/
structure Fam {κ σ : Type} (R : World → Nat → σ → List Nat → Prop) (w : World) (dom : κ → Option σ) (bl : κ → Nat × List Nat) : Prop where
  rep : ∀ c s, dom c = some s → R w (bl c).1 s (bl c).2
  inj : ∀ c s c' s', dom c = some s → dom c' = some s' → ∀ k, k ∈ (bl c).2 → k ∈ (bl c').2 → c = c'
def updF {κ α : Type} [DecidableEq κ] (f : κ → α) (c : κ) (x : α) : κ → α := fun d => if d = c then x else f d
theorem updF_same {κ α : Type} [DecidableEq κ] {f : κ → α} {c : κ} {x : α} : updF f c x c = x := by simp [updF]
theorem updF_other {κ α : Type} [DecidableEq κ] {f : κ → α} {c d : κ} {x : α} (h : d ≠ c) : updF f c x d = f d := by simp [updF, h]
section
variable {κ σ : Type} {R : World → Nat → σ → List Nat → Prop} {w w' : World} {dom : κ → Option σ} {bl : κ → Nat × List Nat}
theorem Fam.lt (L : Local R) (h : Fam R w dom bl) {c : κ} {s : σ} (hc : dom c = some s) : ∀ k ∈ (bl c).2, k < w.heap.size := L.lt (h.rep c s hc)
theorem Fam.keep (L : Local R) (h : Fam R w dom bl) (hk : ∀ c s, dom c = some s → ∀ k ∈ (bl c).2, w'.heap[k]? = w.heap[k]?) : Fam R w' dom bl :=
  ⟨fun c s hc => L.keep (h.rep c s hc) (hk c s hc), h.inj⟩
theorem Fam.mod (L : Local R) {S : List Nat} (h : Fam R w dom bl) (hm : Mod S w w') (hS : ∀ c s, dom c = some s → ∀ k ∈ (bl c).2, k ∉ S) : Fam R w' dom bl :=
  h.keep L fun c s hc k hk => hm.block k (h.lt L hc k hk) (hS c s hc k hk)
theorem Fam.below (L : Local R) (h : Fam R w dom bl) (hk : Below w.heap.size w w') : Fam R w' dom bl := h.mod L (Mod.of_below hk []) (by simp)
variable [DecidableEq κ]
/-- one of them is turned, or is new: only its own blocks were changed -/
theorem Fam.set (L : Local R) (h : Fam R w dom bl) (c : κ) {s' : σ} {b' : Nat} {F0 F' : List Nat} (hm : Mod F0 w w') (hF0 : ∀ k ∈ F0, ∀ d s, dom d = some s → k ∈ (bl d).2 → d = c) (hr : R w' b' s' F')
    (hF' : ∀ k ∈ F', k ∈ F0 ∨ w.heap.size ≤ k) : Fam R w' (updF dom c (some s')) (updF bl c (b', F')) := by
  have hoth : ∀ d s, dom d = some s → d ≠ c → ∀ k ∈ (bl d).2, k ∉ F' := fun d s hd hdc k hk hk' => by
    rcases hF' k hk' with h1 | h1
    · exact hdc (hF0 k h1 d s hd hk)
    · have := h.lt L hd k hk; omega
  refine ⟨fun d s hd => ?_, fun d s d' s'' hd hd' k hk hk' => ?_⟩
  · by_cases e : d = c
    · subst e
      rw [updF_same] at hd ⊢
      cases hd
      exact hr
    · rw [updF_other e] at hd ⊢
      exact L.keep (h.rep d s hd) fun k hk => hm.block k (h.lt L hd k hk) (fun hin => e (hF0 k hin d s hd hk))
  · by_cases e : d = c
    · by_cases e' : d' = c
      · rw [e, e']
      · subst e
        rw [updF_same] at hk
        rw [updF_other e'] at hk' hd'
        exact absurd hk (hoth d' s'' hd' e' k hk')
    · by_cases e' : d' = c
      · subst e'
        rw [updF_same] at hk'
        rw [updF_other e] at hk hd
        exact absurd hk' (hoth d s hd e k hk)
      · rw [updF_other e] at hk hd
        rw [updF_other e'] at hk' hd'
        exact h.inj d s d' s'' hd hd' k hk hk'
theorem Fam.del (h : Fam R w dom bl) (c : κ) : Fam R w (updF dom c none) bl := by
  have hin : ∀ d s, updF dom c none d = some s → dom d = some s := fun d s hd => by
    by_cases e : d = c
    · subst e; rw [updF_same] at hd; cases hd
    · rwa [updF_other e] at hd
  exact ⟨fun d s hd => h.rep d s (hin d s hd), fun d s d' s' hd hd' => h.inj d s d' s' (hin d s hd) (hin d' s' hd')⟩
end

theorem owns_tightR {P : Program} {k : TypeId} {R : Value → Option (DataW Unit × List MemPlace)} {w : World} {b n : Nat} {D : DataW Unit} (h : w.ownsMap P k R b n D) : w.ownsMap P k R b (Maps.size D) D := by
  obtain ⟨es, clock, hb, F, hs, rfl⟩ := h
  exact ⟨es, clock, hb, F, by simp [Maps.size, length_sorted], rfl⟩
theorem owns_block {P : Program} {k : TypeId} {R : Value → Option (DataW Unit × List MemPlace)} {w w' : World} {b n : Nat} {D : DataW Unit} (h : w.ownsMap P k R b n D) (hb : w'.heap[b]? = w.heap[b]?) : w'.ownsMap P k R b n D := by
  obtain ⟨es, clock, h1, r⟩ := h
  exact ⟨es, clock, hb.trans h1, r⟩
def ptrDat (b : Nat) : DataW Unit := .lit (.int .i64 b)
def nilDat : DataW Unit := .lit (.bool false)
def ptrElem : Value → Option (DataW Unit × List MemPlace)
  | .pointer (some ⟨b, 0, none⟩) => some (ptrDat b, [])
  | .pointer none => some (nilDat, [])
  | _ => none
theorem klS (x : List UInt8) : WideAt.IsKeyLit (.string x) := trivial
theorem kS : Keyed Tryz.prog 9 := string_keyed Tryz.underlying9
/-- a map from texts to pointers lies at block m: f tells at which block what is pointed to begins; it has n entries at most -/
def PMap (w : World) (m n : Nat) (f : List UInt8 → Option Nat) : Prop :=
  ∃ D, w.ownsMap Tryz.prog 9 ptrElem m (Maps.size D) D ∧ Maps.size D ≤ n ∧ ∀ x, Maps.has D (.string x) = (f x).isSome ∧ ∀ b, f x = some b → ∀ z, D.atKey (.string x) z = ptrDat b
theorem PMap.lt {w : World} {m n : Nat} {f : List UInt8 → Option Nat} (h : PMap w m n f) : m < w.heap.size := by
  obtain ⟨D, h1, -⟩ := h
  exact h1.lt
theorem PMap.of {w w' : World} {m n n' : Nat} {f f' : List UInt8 → Option Nat} (h : PMap w m n f) (hb : w'.heap[m]? = w.heap[m]?) (hn : n ≤ n') (hf : ∀ x, f' x = f x) : PMap w' m n' f' := by
  obtain rfl : f' = f := funext hf
  obtain ⟨D, h1, h2, h3⟩ := h
  exact ⟨D, owns_block h1 hb, Nat.le_trans h2 hn, h3⟩
theorem PMap.put {w w2 : World} {m n n' b : Nat} {f : List UInt8 → Option Nat} {D : DataW Unit} {x : List UInt8} (hD1 : w.ownsMap Tryz.prog 9 ptrElem m (Maps.size D) D) (hD2 : Maps.size D ≤ n) (hD3 : ∀ x, Maps.has D (.string x) = (f x).isSome ∧ ∀ b, f x = some b → ∀ z, D.atKey (.string x) z = ptrDat b)
    (hown2 : w2.ownsMap Tryz.prog 9 ptrElem m n' (D.put (.string x) (ptrDat b))) : PMap w2 m (n + 1) (updF f x (some b)) := by
  have hT := hD1.tidy kS
  refine ⟨_, owns_tightR hown2, ?_, fun y => ?_⟩
  · rw [size_put hT]
    split <;> omega
  · by_cases e : y = x
    · subst e
      refine ⟨by rw [has_put_same hT.isMap (klS _), updF_same]; rfl, fun b' hb z => ?_⟩
      rw [updF_same] at hb
      rw [atKey_put_same hT.isMap (klS _), Option.some.inj hb]
    · refine ⟨by rw [has_put_other (by simpa using e), updF_other e]; exact (hD3 y).1, fun b' hb z => ?_⟩
      rw [updF_other e] at hb
      rw [atKey_put_other (by simpa using e)]
      exact (hD3 y).2 b' hb z
theorem PMap.del {w w2 : World} {m n n' : Nat} {f : List UInt8 → Option Nat} {D : DataW Unit} {x : List UInt8} (hD1 : w.ownsMap Tryz.prog 9 ptrElem m (Maps.size D) D) (hD2 : Maps.size D ≤ n) (hD3 : ∀ x, Maps.has D (.string x) = (f x).isSome ∧ ∀ b, f x = some b → ∀ z, D.atKey (.string x) z = ptrDat b)
    (hown2 : w2.ownsMap Tryz.prog 9 ptrElem m n' (D.del (.string x))) : PMap w2 m n (updF f x none) := by
  have hT := hD1.tidy kS
  refine ⟨_, owns_tightR hown2, ?_, fun y => ?_⟩
  · have := size_del (k := .string x) hT
    omega
  · by_cases e : y = x
    · subst e
      refine ⟨by rw [has_del_same, updF_same]; rfl, fun b' hb z => ?_⟩
      rw [updF_same] at hb
      cases hb
    · refine ⟨by rw [has_del_other (by simpa using e), updF_other e]; exact (hD3 y).1, fun b' hb z => ?_⟩
      rw [updF_other e] at hb
      rw [atKey_del_other (by simpa using e)]
      exact (hD3 y).2 b' hb z
end Go.Proofs.YtmkhagmjpbfieaaGreatDoor
