import Derived.Test.YtcnjgenacpkdbaaDoorMem
namespace Go.Proofs.YtcnjgenacpkdbaaDoor
open Go Go.RowKit
/-- 'append(s, x...)' of a row that is read, not empty, as one step of a region that draws its order. -/
theorem step_appRow {P : Program} {t e : TypeId} {z : Value} {size bytes : Nat} (E : ElemT P t e z size bytes) {W : World} {B : Nat} {v : Value} {n : Nat} {xs : List Value} (hown : W.ownsRow B e size v n xs)
    {ops : Array Oper} {o : Oper} {a : Act} {K : Act → World → Prop} {Q : Exit → Act → World → Prop} {E' : Prop} (hgd : o.guard = none) {s x : Operand} {ad : Addr} {m c : Nat}
    (ho : o.op = .call { callee := .builtin .append, args := #[s, x], argTypes := #[t, t] }) (hs : a.eval s = v) (hx : a.eval x = .slice (some ad) m c) {news : List Value} (hc : news.length = m * size)
    (hnews : ∀ j u, news[j]? = some u → W.cell? (ad.add j) = some u) (hm : 0 < m) (h1 : ∀ u ∈ news, u.oneCell' = true) (hbytes : (n + m) * bytes ≤ 140737488355328) (hn : n + m < 140737488355328) (hB : B ≤ W.heap.size)
    (h : ∀ g cap w', w'.ownsRow B e size (.slice (some ⟨g, 0, none⟩) (n + m) cap) (n + m) (xs ++ news) → W.grownBy w' v.ownBlock → (v.ownBlock = some g ∨ g = W.heap.size) → g < w'.heap.size →
      K (a.put o.dst (.slice (some ⟨g, 0, none⟩) (n + m) cap)) w') :
    if Region.wanted o (yielded ops a.tmps) = true then Oper.wp P o a W K Q else E' := by
  obtain ⟨i0, hi, hz0, hz1, hz2⟩ := info_parts E.hi
  exact step_append_lies W hgd s x t ho B e i0 z size bytes E.ht hi hz0 hz1 hz2 E.hzs E.hsz v n xs hs hown ad m c news hx hc hnews h1 hm (by unfold maxLen; omega) hbytes hB W.heap.size rfl h
/-- the frame of what grew from a nil slice -/
theorem grown_below {W w' : World} (h : W.grownBy w' none) : Below W.heap.size W w' := ⟨h.os, h.tape, h.output, h.size, fun k hk => h.block k hk (by simp)⟩
theorem row_tail {w : World} {b off : Nat} {A l : List Msg} (h : Row w (some ⟨b, off, none⟩) (msgs (A ++ l))) (hne : A ++ l ≠ []) : ∀ j u, (msgs l)[j]? = some u → w.cell? ((⟨b, off + A.length * 4, none⟩ : Addr).add j) = some u := by
  intro j u hj
  rcases h with h | ⟨b', off', hb, hc⟩
  · exfalso
    have := msgs_length (A ++ l)
    rw [h] at this
    have hl : (A ++ l).length = 0 := by have h0 : (A ++ l).length * 4 = 0 := by simpa using this.symm
                                        omega
    exact hne (List.eq_nil_of_length_eq_zero hl)
  · simp only [Option.some.injEq, Addr.mk.injEq, and_true] at hb
    obtain ⟨rfl, rfl⟩ := hb
    have e1 : (⟨b, off + A.length * 4, none⟩ : Addr).add j = ⟨b, off + (A.length * 4 + j), none⟩ := by unfold Addr.add; split <;> simp_all [Nat.add_assoc]
    rw [e1]
    refine hc _ u ?_
    rw [← msgs_append, List.getElem?_append_right (by rw [msgs_length]; omega), msgs_length, Nat.add_sub_cancel_left]; exact hj
end Go.Proofs.YtcnjgenacpkdbaaDoor
