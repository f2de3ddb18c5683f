/- What is appended to a slice of the call's own, and what that may have changed: the slice's own block alone. No program in sight. -/
import Derived.Test.YtcnjgenacpkdbaaDoorMem2
namespace Go.Proofs.YtcnjgenacpkdbaaDoor
open Go Go.RowKit

/-- Built elements (m of them, not none) are appended to a slice of the call's own, or a nil one: what is changed is its block alone. -/
theorem wpList_app3 {P : Program} {t e : TypeId} {z : Value} {size bytes : Nat} (E : ElemT P t e z size bytes) {w : World} {v : Value} {n : Nat} {xs : List Value} (hown : w.ownsRow 0 e size v n xs)
    {ops : Array Oper} {rest : List Oper} {o : Oper} {a : Act} {Q : Exit → Act → World → Prop} {s x : Operand} {cur : Array Value} {m c : Nat}
    (hgd : o.guard = none) (ho : o.op = .call { callee := .builtin .append, args := #[s, x], argTypes := #[t, t] }) (hs : a.eval s = v) (hx : a.eval x = .slice (some ⟨w.heap.size, 0, none⟩) m c)
    (hc : cur.size = m * size) (hm : 0 < m) (h1 : ∀ u ∈ cur.toList, u.oneCell' = true) (hbytes : (n + m) * bytes ≤ 140737488355328) (hn : n + m < 140737488355328)
    (h : ∀ g cap w', w'.ownsRow 0 e size (.slice (some ⟨g, 0, none⟩) (n + m) cap) (n + m) (xs ++ cur.toList) → Upd v.ownBlock.toList [g] w w' → wpList P ops Q rest (a.put o.dst (.slice (some ⟨g, 0, none⟩) (n + m) cap)) w') : wpList P ops Q (o :: rest) a (w.alloc (.cells cur e)) := by
  obtain ⟨i0, hi, hz0, hz1, hz2⟩ := info_parts E.hi
  refine wpList_append_lies _ hgd s x t ho 0 e i0 z size bytes E.ht hi hz0 hz1 hz2 E.hzs E.hsz v n xs hs (hown.alloc _) ⟨w.heap.size, 0, none⟩ m c cur.toList hx (by simp [hc]) ?_ h1 hm (by unfold maxLen; omega) hbytes (Nat.zero_le _) _ rfl ?_
  · intro j u hj
    have e1 : (⟨w.heap.size, 0, none⟩ : Addr).add j = ⟨w.heap.size, j, none⟩ := by unfold Addr.add; split <;> simp_all
    rw [e1, World.cell?_alloc_new]
    simpa using hj
  · intro g cap w' h2 h3 h4 _
    refine h g cap w' h2 ⟨((Mod.refl _ w).alloc _).grown h3 (fun k hk => .inl (by simp [hk])), fun k hk => ?_⟩
    obtain rfl := List.mem_singleton.1 hk
    rcases h4 with h4 | h4
    · exact .inl (by simp [h4])
    · exact .inr (by rw [h4]; simp)
theorem ownsRow_upd {F F' : List Nat} {w w' : World} {e : TypeId} {size n : Nat} {v : Value} {xs : List Value} (h : w.ownsRow 0 e size v n xs) (hu : Upd F F' w w') (hf : ∀ k ∈ F, k ∉ v.ownBlock.toList) : w'.ownsRow 0 e size v n xs :=
  ownsRow_local h fun k hk => hu.1.block k (h.lt k hk).2 (fun hin => hf k hin (by simp [hk]))
theorem ownsRow_below {w w' : World} {e : TypeId} {size n : Nat} {v : Value} {xs : List Value} (h : w.ownsRow 0 e size v n xs) (hb : Below w.heap.size w w') : w'.ownsRow 0 e size v n xs :=
  ownsRow_local h fun k hk => hb.block k (h.lt k hk).2
end Go.Proofs.YtcnjgenacpkdbaaDoor
