/- The trie: All: what the walk carries. The trie: All walked: 'from'. (Printed by gen_all.py.) -/
import Derived.Test.YthfdcphecggjeaaGreatDoorQM
import Derived.Test.YthfdcphecggjeaaGreatDoorRJoin
import Derived.Deep.AppendLies
import Derived.ArgAppend
import Derived.Test.YthfdcphecggjeaaGreatDoorQD
import Derived.Test.YthfdcphecggjeaaGreatDoorQL
namespace Go.Proofs.YthfdcphecggjeaaGreatDoor
section
open Go Go.RowKit Go.Maps

/-- the text of a path -/
def joinP (p : Path) : Str := Lib.join p [47]
theorem joinP_cons2 (x y : Str) (r : Path) : joinP (x :: y :: r) = x ++ 47 :: joinP (y :: r) := by
  unfold joinP
  rw [Lib.join_cons, Lib.join_cons]
  simp [Lib.joinTail]
theorem joinP_levels : ∀ s : Str, joinP (levels s) = s
  | [] => by simp [levels, joinP, Lib.join_one]
  | c :: r => by
    have ih := joinP_levels r
    by_cases hc : c = 47
    · subst hc
      rw [levels_cons_sep]
      obtain ⟨x, t, hx⟩ := List.exists_cons_of_ne_nil (levels_ne r)
      rw [hx, joinP_cons2, ← hx, ih]; rfl
    · obtain ⟨x, t, hx⟩ := List.exists_cons_of_ne_nil (levels_ne r)
      rw [levels_cons hc hx]
      rw [hx] at ih
      cases t with
      | nil => unfold joinP at *; rw [Lib.join_one] at *; rw [ih]
      | cons y t => rw [joinP_cons2] at *; rw [← ih]; rfl
def asHint (h : Path × Str) : Hint := (joinP h.1, h.2)

/-- All that does not hold hints, but the row's own box, is kept. -/
structure KH (n0 bo : Nat) (W W' : World) : Prop where
  below : Below n0 W W'
  keeps : ∀ b o, b ≠ bo → (∀ cs fr, o ≠ .cells cs 47 fr) → W.heap[b]? = some o → W'.heap[b]? = some o
variable {n0 bo : Nat} {W W1 W2 : World}
theorem KH.refl : KH n0 bo W W := ⟨Below.refl _ _, fun _ _ _ _ h => h⟩
theorem KH.trans (h : KH n0 bo W W1) (k : KH n0 bo W1 W2) : KH n0 bo W W2 := ⟨h.below.trans k.below, fun b o h1 h2 h3 => k.keeps b o h1 h2 (h.keeps b o h1 h2 h3)⟩
theorem KH.of_below (hn : n0 ≤ W.heap.size) (h : Below W.heap.size W W1) : KH n0 bo W W1 := ⟨h.mono hn, fun b o _ _ h3 => by rw [h.block b (Array.getElem?_eq_some_iff.1 h3).1]; exact h3⟩
theorem KH.size (h : KH n0 bo W W1) (hn : n0 ≤ W.heap.size) : n0 ≤ W1.heap.size := Nat.le_trans hn h.below.size
theorem KH.iter {r : Nat} (h : KH n0 bo W W1) (hg : W1.grownBy W2 (some r)) (hr : W.heap.size ≤ r) (hn : n0 ≤ W.heap.size) : KH n0 bo W W2 :=
  ⟨h.below.grown hg (h.size hn) (fun k hk => by cases hk; omega), fun b o h1 h2 h3 => by
    have hl := (Array.getElem?_eq_some_iff.1 h3).1
    have hl1 := (Array.getElem?_eq_some_iff.1 (h.keeps b o h1 h2 h3)).1
    rw [hg.block b hl1 (fun e => by have := Option.some.inj e; omega)]; exact h.keeps b o h1 h2 h3⟩
theorem KH.made {W2 : World} {r : Option Nat} (h : KH n0 bo W W1) (hg : W1.grownBy W2 r) (hr : ∀ k, r = some k → W1.heap.size ≤ k) (hn : n0 ≤ W.heap.size) : KH n0 bo W W2 :=
  ⟨h.below.grown hg (h.size hn) (fun k hk => by have := hr k hk; have := h.size hn; omega), fun b o h1 h2 h3 => by
    have hl1 := (Array.getElem?_eq_some_iff.1 (h.keeps b o h1 h2 h3)).1
    rw [hg.block b hl1 (fun e => by have := hr b e.symm; omega)]; exact h.keeps b o h1 h2 h3⟩
/-- the row of what is told -/
def OutAt (n0 bo : Nat) (W : World) (acc : List (Path × Str)) : Prop :=
  n0 ≤ bo ∧ ∃ v, W.heap[bo]? = some (.cells #[v] 40 (0, 0)) ∧ W.ownsRow n0 47 2 v acc.length (hintsV (acc.map asHint))
theorem OutAt.local {acc : List (Path × Str)} (h : OutAt n0 bo W acc) (hb : ∀ (b : Nat) (cs : Array Value) (t : TypeId) (fr : Nat × Nat), W.heap[b]? = some (Obj.cells cs t fr) → W1.heap[b]? = some (Obj.cells cs t fr)) : OutAt n0 bo W1 acc := by
  obtain ⟨hn, v, h1, h2⟩ := h
  refine ⟨hn, v, hb _ _ _ _ h1, ownsRow_local h2 (fun k hk => ?_)⟩
  rcases h2.2 with ⟨rfl, -⟩ | ⟨g, cap, cur, rfl, -, hg, -⟩
  · simp [Value.ownBlock] at hk
  · obtain rfl : g = k := by simpa [Value.ownBlock] using hk
    rw [hg]; exact hb _ _ _ _ hg
theorem OutAt.below {acc : List (Path × Str)} (h : OutAt n0 bo W acc) (hb : Below W.heap.size W W1) : OutAt n0 bo W1 acc :=
  h.local fun b cs t fr h3 => by rw [hb.block b (Array.getElem?_eq_some_iff.1 h3).1]; exact h3
theorem ranges_iter {k : TypeId} {R : Value → Option (DataW Unit × List MemPlace)} {b r n cnt : Nat} {D : DataW Unit} {left : Lit → Bool} (h : W.ranges Tryz.prog k R b r n D left cnt) : ∃ m a s c, W.heap[r]? = some (.mapIter m a s c) := by
  obtain ⟨es, clock, since, seen, c0, a1, a2, a3, a4, a5, a6⟩ := h
  exact ⟨_, _, _, _, a5⟩
theorem OutAt.iter {acc : List (Path × Str)} {r : Nat} {k : TypeId} {R : Value → Option (DataW Unit × List MemPlace)} {b n cnt : Nat} {D : DataW Unit} {left : Lit → Bool} (h : OutAt n0 bo W acc) (hg : W.grownBy W1 (some r)) (hi : W.ranges Tryz.prog k R b r n D left cnt) : OutAt n0 bo W1 acc :=
  h.local fun b cs t fr h3 => by
    obtain ⟨m, a, s, c, hr⟩ := ranges_iter hi
    rw [hg.block b (Array.getElem?_eq_some_iff.1 h3).1 (fun e => by cases e; rw [h3] at hr; cases hr)]; exact h3
theorem OutAt.made {acc : List (Path × Str)} {r : Option Nat} (h : OutAt n0 bo W acc) (hg : W.grownBy W1 r) (hr : ∀ k, r = some k → W.heap.size ≤ k) : OutAt n0 bo W1 acc :=
  h.local fun b cs t fr h3 => by
    have hl := (Array.getElem?_eq_some_iff.1 h3).1
    rw [hg.block b hl (fun e => by have := hr b e.symm; omega)]; exact h3
theorem ranges_keep {k : TypeId} {R : Value → Option (DataW Unit × List MemPlace)} {b r n cnt : Nat} {D : DataW Unit} {left : Lit → Bool} (h : W.ranges Tryz.prog k R b r n D left cnt) (h1 : W1.heap[b]? = W.heap[b]?) (h2 : W1.heap[r]? = W.heap[r]?) : W1.ranges Tryz.prog k R b r n D left cnt := by
  obtain ⟨es, clock, since, seen, c0, a1, a2, a3, a4, a5, a6⟩ := h
  exact ⟨es, clock, since, seen, c0, h1.trans a1, a2, a3, a4, h2.trans a5, a6⟩
theorem KH.ranges {k : TypeId} {R : Value → Option (DataW Unit × List MemPlace)} {b r n cnt : Nat} {D : DataW Unit} {left : Lit → Bool} (hk : KH n0 bo W W1) (hb : b ≠ bo) (hr : r ≠ bo) (h : W.ranges Tryz.prog k R b r n D left cnt) : W1.ranges Tryz.prog k R b r n D left cnt := by
  obtain ⟨es, clock, since, seen, c0, a1, a2, a3, a4, a5, a6⟩ := id h
  exact ranges_keep h ((hk.keeps b _ hb (by simp) a1).trans a1.symm) ((hk.keeps r _ hr (by simp) a5).trans a5.symm)
theorem below_drew1 (w : World) : Below w.heap.size w w.drew := drewN_below w 1
theorem ownsRow_low {w w' : World} {B : Nat} {e : TypeId} {size n : Nat} {v : Value} {xs : List Value} (h : w.ownsRow B e size v n xs) (hb : Below w.heap.size w w') : w'.ownsRow B e size v n xs :=
  ownsRow_local h fun k hk => hb.block k (h.lt k hk).2
theorem out_ne {v : Value} {n : Nat} {xs : List Value} (hv : W.heap[bo]? = some (.cells #[v] 40 (0, 0))) (hrow : W.ownsRow n0 47 2 v n xs) : v.ownBlock ≠ some bo := by
  intro hk
  rcases hrow.2 with ⟨rfl, -⟩ | ⟨g', cap', cur, rfl, hb', hgb, -⟩
  · simp [Value.ownBlock] at hk
  · obtain rfl : g' = bo := by simpa [Value.ownBlock] using hk
    rw [hv] at hgb
    simp at hgb
/-- one hint more -/
theorem out_app {acc : List (Path × Str)} {h : Path × Str} {v : Value} {g cap : Nat} {tmp : Obj} (hn : n0 ≤ bo) (hv : W.heap[bo]? = some (.cells #[v] 40 (0, 0))) (hrow : W.ownsRow n0 47 2 v acc.length (hintsV (acc.map asHint)))
    (hown : W1.ownsRow n0 47 2 (.slice (some ⟨g, 0, none⟩) (acc.length + 1) cap) (acc.length + 1) (hintsV (acc.map asHint) ++ hintCells (asHint h))) (hgrow : (W.alloc tmp).grownBy W1 v.ownBlock) (hn0 : n0 ≤ W.heap.size) :
    OutAt n0 bo (W1.setCell ⟨bo, 0, none⟩ (.slice (some ⟨g, 0, none⟩) (acc.length + 1) cap)) (acc ++ [h]) ∧ KH n0 bo W (W1.setCell ⟨bo, 0, none⟩ (.slice (some ⟨g, 0, none⟩) (acc.length + 1) cap)) := by
  have hbl := (Array.getElem?_eq_some_iff.1 hv).1
  have hrowb : ∀ k, v.ownBlock = some k → n0 ≤ k ∧ k < W.heap.size ∧ ∃ cur, W.heap[k]? = some (.cells cur 47 (0, 0)) := by
    intro k hk
    rcases hrow.2 with ⟨rfl, -⟩ | ⟨g', cap', cur, rfl, hb', hgb, -⟩
    · simp [Value.ownBlock] at hk
    · obtain rfl : g' = k := by simpa [Value.ownBlock] using hk
      exact ⟨hb', (Array.getElem?_eq_some_iff.1 hgb).1, cur, hgb⟩
  have hne : v.ownBlock ≠ some bo := fun e => by
    obtain ⟨_, _, cur, hc⟩ := hrowb _ e
    rw [hv] at hc
    simp at hc
  have h1 := grown_keep hgrow hv hne
  have hgbo : g ≠ bo := by
    rintro rfl
    rcases hown.2 with ⟨hnil, -⟩ | ⟨g', cap', cur, hv', hb', hgb, -⟩
    · cases hnil
    · cases hv'
      rw [h1] at hgb
      simp at hgb
  refine ⟨⟨hn, .slice (some ⟨g, 0, none⟩) (acc.length + 1) cap, ?_, ?_⟩, ?_, ?_⟩
  · rw [heap_setCell_same _ _ 0 _ _ _ h1]; rfl
  · rw [List.length_append, List.map_append, hintsV_append]
    refine ownsRow_local (w := W1) (by simpa [hintsV] using hown) (fun k hk => ?_)
    obtain rfl : g = k := by simpa [Value.ownBlock] using hk
    exact Below.heap_setCell _ _ _ _ hgbo
  · have hb : Below n0 W W1 := ((Below.refl _ W).alloc hn0 tmp).grown hgrow (by simp; omega) (fun k hk => (hrowb k hk).1)
    exact hb.setCell hn _
  · intro b o hb ho h3
    have hl := (Array.getElem?_eq_some_iff.1 h3).1
    rw [Below.heap_setCell _ _ _ _ hb, hgrow.block b (by simp; omega) (fun e => ?_), Below.heap_alloc _ _ _ hl]
    · exact h3
    · obtain ⟨_, _, cur, hc⟩ := hrowb _ e.symm
      rw [h3] at hc
      exact ho _ _ (Option.some.inj hc)
/-- the levels on the way -/
def PathAt (bo : Nat) (W : World) (v : Value) (p : Path) : Prop :=
  (p = [] ∧ v = .slice none 0 0) ∨ ∃ b c cs fr, v = .slice (some ⟨b, 0, none⟩) p.length c ∧ p.length ≤ c ∧ b ≠ bo ∧ W.heap[b]? = some (.cells cs 9 fr) ∧ cs.toList.take p.length = strs p
theorem PathAt.kept {v : Value} {p : Path} (h : PathAt bo W v p) (hk : KH n0 bo W W1) : PathAt bo W1 v p := by
  rcases h with h | ⟨b, c, cs, fr, h1, h2, h3, h4, h5⟩
  · exact .inl h
  · exact .inr ⟨b, c, cs, fr, h1, h2, h3, hk.keeps b _ h3 (by simp) h4, h5⟩
theorem PathAt.cells {v : Value} {p : Path} (h : PathAt bo W v p) (hp : p ≠ []) : ∃ b c, v = .slice (some ⟨b, 0, none⟩) (p.map (fun x => (⟨x.toArray⟩ : ByteArray))).length c ∧ p.length ≤ c ∧ b < W.heap.size ∧ ∀ j x, (p.map (fun x => (⟨x.toArray⟩ : ByteArray)))[j]? = some x → W.cell? ⟨b, 0 + j, none⟩ = some (.string x) := by
  rcases h with ⟨h, -⟩ | ⟨b, c, cs, fr, rfl, h2, h3, h4, h5⟩
  · exact absurd h hp
  · refine ⟨b, c, by simp, h2, (Array.getElem?_eq_some_iff.1 h4).1, fun j x hj => ?_⟩
    rw [Nat.zero_add, cell_of_row W b j _ _ _ h4]
    have hjl : j < p.length := by have := (List.getElem?_eq_some_iff.1 hj).1; simpa using this
    have h6 : (strs p)[j]? = some (.string x) := by
      rw [List.getElem?_map] at hj
      obtain ⟨y, hy, rfl⟩ := Option.map_eq_some_iff.1 hj
      simp [strs, hy]
    rw [← h5, List.getElem?_take_of_lt hjl] at h6
    simpa using h6
theorem tjoin_any {v : Value} {p : Path} (h : PathAt bo W v p) (hp : p ≠ []) (hl : p.length ≤ 1000000) (hj : (joinP p).length ≤ 1000000) :
    Calls Tryz.prog 76 #[v] W fun e w' => e = .returned (.string ⟨(joinP p).toArray⟩) ∧ Below W.heap.size W w' := by
  obtain ⟨b, c, rfl, hc, hb, hcells⟩ := h.cells hp
  have hmap : (p.map (fun x => (⟨x.toArray⟩ : ByteArray))).map (·.data.toList) = p := by rw [List.map_map]; exact List.map_id _
  have H := Lib.hid (Tryz.strings_Join b 0 c (p.map (fun x => (⟨x.toArray⟩ : ByteArray))) ⟨#[47]⟩ W hcells hb (by simp; omega) (by simpa using hc) (by rw [hmap]; show (joinP p).length ≤ _; omega))
  have hsep : (⟨#[47]⟩ : ByteArray).data.toList = [47] := rfl
  rw [hmap, hsep] at H
  have HE : Hid (Lib.join p [47] = joinP p) := Lib.hid rfl
  clear hcells hmap hl hj
  generalize (p.map (fun x => (⟨x.toArray⟩ : ByteArray))).length = n at H ⊢
  generalize Lib.join p [47] = jp at H HE
  go_enter Tryz.func76, Tryz.ntmps76
  go_wp2_with fail
  refine H.out.mono ?_
  rintro e w1 ⟨rfl, hk⟩
  go_wp2_with fail
  go_ret
  exact ⟨by rw [← HE.out]; rfl, hk⟩
theorem T_strs : ElemT Tryz.prog 33 9 (.string ⟨#[]⟩) 1 16 := ⟨Tryz.underlying33, by kernel_rfl, rfl, by decide⟩
theorem PathAt.shape {v : Value} {p : Path} (h : PathAt bo W v p) : ∃ ao c, v = .slice ao p.length c ∧ (ao = none → p.length = 0) ∧ (∀ W', (Instr.slice 33 v none (some (.int .i64 p.length)) (some (.int .i64 p.length))).run Tryz.prog W' = .ok (.slice ao p.length p.length) W') ∧
    (∀ W1 : World, KH n0 bo W W1 → ∀ b, ao = some b → ∀ j u, (strs p)[j]? = some u → W1.cell? (b.add j) = some u) := by
  rcases id h with ⟨rfl, rfl⟩ | ⟨b, c, cs, fr, rfl, h2, h3, h4, h5⟩
  · exact ⟨none, 0, rfl, fun _ => rfl, fun W' => by kernel_rfl, fun _ _ b hb => by cases hb⟩
  · refine ⟨_, c, rfl, fun e => (by cases e), fun W' => ?_, fun W1 hk b' hb' j u hj => ?_⟩
    · have h6 : (0 : Int) ≤ p.length := by omega
      have h7 : (p.length : Int) ≤ c := by omega
      go_simp
    · cases hb'
      have e1 : (⟨b, 0, none⟩ : Addr).add j = ⟨b, j, none⟩ := by unfold Addr.add; split <;> simp_all
      rw [e1, cell_of_row W1 b j _ _ _ (hk.keeps b _ h3 (by simp) h4)]
      have hjl : j < p.length := by have := (List.getElem?_eq_some_iff.1 hj).1; simpa [strs] using this
      rw [← h5, List.getElem?_take_of_lt hjl] at hj
      simpa using hj
/-- the levels on the way, one more -/
theorem path_more {v' : Value} {p : Path} {z : Str} (h : W1.ownsRow W.heap.size 9 1 v' (p.length + 1) (strs p ++ [.string ⟨z.toArray⟩])) (hb : bo < W.heap.size) : PathAt bo W1 v' (p ++ [z]) := by
  rcases h.2 with ⟨-, h⟩ | ⟨g, cap, cur, rfl, hg, hgb, hnc, -, -, htk⟩
  · omega
  · refine .inr ⟨g, cap, cur, (0, 0), by simp, by simpa using hnc, by omega, hgb, ?_⟩
    rw [List.length_append, List.length_singleton]
    simpa [strs] using htk
end
section
open Go Go.RowKit Go.Maps

structure AllE (n0 bo bf t B : Nat) (hn nn : Int) (nd : Path → Nd) (Ns : List Path) (Hs : List (Path × Str)) (w : World) : Prop where
  rep : MemRep w t B hn nn nd Ns Hs
  low : ∀ p ∈ Ns, ∀ k ∈ (nd p).blocks, k < n0
  size : n0 ≤ w.heap.size
  ne : bf ≠ bo
  self : w.heap[bf]? = some (.cells #[.func (.func 75) #[] #[.pointer (some ⟨bo, 0, none⟩), .pointer (some ⟨bf, 0, none⟩)]] 130 (0, 0))
theorem AllE.kept {n0 bo bf t B : Nat} {hn nn : Int} {nd : Path → Nd} {Ns : List Path} {Hs : List (Path × Str)} {w w' : World} (h : AllE n0 bo bf t B hn nn nd Ns Hs w) (hk : KH n0 bo w w') : AllE n0 bo bf t B hn nn nd Ns Hs w' :=
  ⟨h.rep.keep (fun p hp k hk' => hk.below.block k (h.low p hp k hk')), h.low, hk.size h.size, h.ne, hk.keeps _ _ h.ne (by simp) h.self⟩
/-- the hints below a node -/
def Sub (Hs : List (Path × Str)) (p : Path) (new : List (Path × Str)) : Prop := new.Nodup ∧ ∀ q c, (q, c) ∈ new ↔ p <+: q ∧ (q, c) ∈ Hs
/-- what is told is among the hints, and none of it below p -/
def Acc (Hs : List (Path × Str)) (p : Path) (acc : List (Path × Str)) : Prop := acc.Nodup ∧ ∀ h ∈ acc, h ∈ Hs ∧ ¬ p <+: h.1
def AllG (n0 bo : Nat) (Hs : List (Path × Str)) (p : Path) (acc : List (Path × Str)) (w : World) (e : Ending) (w' : World) : Prop :=
  e = .returned (.tuple #[]) ∧ ∃ new, OutAt n0 bo w' (acc ++ new) ∧ Sub Hs p new ∧ KH n0 bo w w'
theorem clients_nodup {p : Path} {new : List Str} (h : new.Nodup) : (new.map fun c => (p, c)).Nodup := by
  rw [List.Nodup, List.pairwise_map]
  exact h.imp (fun hne e => hne (by simpa using congrArg Prod.snd e))
/-- what is told of a node's kids while they are gone through: has: who there is; left: who is to come -/
def NewK (Hs : List (Path × Str)) (p : Path) (has left : Str → Bool) (new : List (Path × Str)) : Prop :=
  new.Nodup ∧ ∀ q c, (q, c) ∈ new ↔ (q, c) ∈ Hs ∧ (q = p ∨ ∃ x r, q = p ++ x :: r ∧ has x = true ∧ left x = false)
theorem newK_start {Hs : List (Path × Str)} {p : Path} {has : Str → Bool} {left : Str → Bool} {cl : List Str} (h1 : cl.Nodup) (h2 : ∀ c, c ∈ cl ↔ (p, c) ∈ Hs) (hl : ∀ x, has x = true → left x = true) : NewK Hs p has left (cl.map fun c => (p, c)) := by
  refine ⟨clients_nodup h1, fun q c => ?_⟩
  constructor
  · intro h
    obtain ⟨c', hc', e⟩ := List.mem_map.1 h
    cases e
    exact ⟨(h2 c).1 hc', .inl rfl⟩
  · rintro ⟨h, rfl | ⟨x, r, rfl, h3, h4⟩⟩
    · exact List.mem_map.2 ⟨c, (h2 c).2 h, rfl⟩
    · rw [hl x h3] at h4; cases h4
theorem app_inj1 {p : Path} {x y : Str} {r s : Path} (h : p ++ x :: r = p ++ y :: s) : x = y := by
  have := List.append_cancel_left h
  exact (List.cons.inj this).1
theorem pre_app {p q : Path} {z : Str} (h : p ++ [z] <+: q) : ∃ r, q = p ++ z :: r := by
  obtain ⟨r, rfl⟩ := h
  exact ⟨r, by simp⟩
theorem newK_acc {Hs : List (Path × Str)} {p : Path} {has left : Str → Bool} {acc new : List (Path × Str)} (hA : Acc Hs p acc) (hK : NewK Hs p has left new) : (acc ++ new).Nodup ∧ ∀ h ∈ acc ++ new, h ∈ Hs := by
  refine ⟨List.nodup_append.2 ⟨hA.1, hK.1, ?_⟩, fun h hh => ?_⟩
  · rintro ⟨q, c⟩ ha b hb rfl
    obtain ⟨-, h3⟩ := (hK.2 q c).1 hb
    refine (hA.2 _ ha).2 ?_
    rcases h3 with rfl | ⟨x, r, rfl, -, -⟩
    · exact List.prefix_refl _
    · exact List.prefix_append _ _
  · obtain ⟨q, c⟩ := h
    rcases List.mem_append.1 hh with hh | hh
    · exact (hA.2 _ hh).1
    · exact ((hK.2 q c).1 hh).1
theorem newK_kid {Hs : List (Path × Str)} {p : Path} {has left : Str → Bool} {acc new : List (Path × Str)} {z : Str} (hA : Acc Hs p acc) (hK : NewK Hs p has left new) (hz : left z = true) : Acc Hs (p ++ [z]) (acc ++ new) := by
  obtain ⟨h1, h2⟩ := newK_acc hA hK
  refine ⟨h1, fun h hh => ⟨h2 h hh, fun hp => ?_⟩⟩
  obtain ⟨q, c⟩ := h
  obtain ⟨r, e⟩ := pre_app hp
  rcases List.mem_append.1 hh with hh | hh
  · exact (hA.2 _ hh).2 (by rw [e]; exact List.prefix_append _ _)
  · obtain ⟨-, h3⟩ := (hK.2 q c).1 hh
    simp only at e
    rcases h3 with h3 | ⟨x, r', h3, -, h4⟩
    · rw [h3] at e; simp at e
    · rw [h3] at e
      rw [app_inj1 e, hz] at h4; cases h4
theorem newK_step {Hs : List (Path × Str)} {p : Path} {has left left' : Str → Bool} {new sub : List (Path × Str)} {z : Str} (hK : NewK Hs p has left new) (hz : left z = true) (hh : has z = true) (hS : Sub Hs (p ++ [z]) sub) (hl : ∀ x, left' x = (left x && !(x == z))) : NewK Hs p has left' (new ++ sub) := by
  refine ⟨List.nodup_append.2 ⟨hK.1, hS.1, ?_⟩, fun q c => ?_⟩
  · rintro ⟨q, c⟩ ha b hb rfl
    obtain ⟨h1, -⟩ := (hS.2 q c).1 hb
    obtain ⟨r, e⟩ := pre_app h1
    obtain ⟨-, h3⟩ := (hK.2 q c).1 ha
    rcases h3 with h3 | ⟨x, r', h3, -, h4⟩
    · rw [h3] at e; simp at e
    · rw [h3] at e
      rw [app_inj1 e, hz] at h4; cases h4
  · rw [List.mem_append, hK.2, hS.2]
    constructor
    · rintro (⟨h1, h2 | ⟨x, r, h2, h3, h4⟩⟩ | ⟨h1, h2⟩)
      · exact ⟨h1, .inl h2⟩
      · exact ⟨h1, .inr ⟨x, r, h2, h3, by rw [hl, h4]; rfl⟩⟩
      · obtain ⟨r, e⟩ := pre_app h1
        exact ⟨h2, .inr ⟨z, r, e, hh, by rw [hl]; simp⟩⟩
    · rintro ⟨h1, h2 | ⟨x, r, h2, h3, h4⟩⟩
      · exact .inl ⟨h1, .inl h2⟩
      · by_cases e : x = z
        · subst e
          exact .inr ⟨⟨r, by rw [h2]; simp⟩, h1⟩
        · refine .inl ⟨h1, .inr ⟨x, r, h2, h3, ?_⟩⟩
          rw [hl] at h4
          simpa [e] using h4
theorem newK_done {Ns : List Path} {Hs : List (Path × Str)} {p : Path} {has left : Str → Bool} {new : List (Path × Str)} (hti : Tight Ns Hs) (hK : NewK Hs p has left new) (hl : ∀ x, has x = true → left x = false) (hh : ∀ x, has x = true ↔ p ++ [x] ∈ Ns) : Sub Hs p new := by
  refine ⟨hK.1, fun q c => ?_⟩
  rw [hK.2]
  constructor
  · rintro ⟨h1, rfl | ⟨x, r, rfl, -, -⟩⟩
    · exact ⟨List.prefix_refl _, h1⟩
    · exact ⟨List.prefix_append _ _, h1⟩
  · rintro ⟨⟨r, e⟩, h1⟩
    refine ⟨h1, ?_⟩
    subst e
    cases r with
    | nil => left; simp
    | cons x r =>
      have h3 : has x = true := (hh x).2 ((hti.mem _).2 (.inr ⟨_, h1, ⟨r, by simp⟩⟩))
      exact .inr ⟨x, r, rfl, h3, hl x h3⟩

set_option maxRecDepth 100000 in
set_option maxHeartbeats 4000000 in
theorem all_leaf_00 (n0 bo bf t B : Nat) (hn nn : Int) (nd : Path → Nd) (Ns : List Path) (Hs : List (Path × Str)) (hti : Tight Ns Hs) (_hH : Hs.length < 1000000) (hN : ∀ q ∈ Ns, q.length < 1000000) (hJ : ∀ h ∈ Hs, h.1 ≠ [] ∧ (joinP h.1).length ≤ 1000000) (p : Path) (acc : List (Path × Str)) (w : World) (v : Value) (hp : p ∈ Ns) (hE : AllE n0 bo bf t B hn nn nd Ns Hs w) (hO : OutAt n0 bo w acc) (hA : Acc Hs p acc) (hP : PathAt bo w v p) (hcb : (nd p).cb = none) (hkb : (nd p).kb = none) :
    Calls Tryz.prog 75 #[.pointer (some ⟨(nd p).b, 0, none⟩), v, .pointer (some ⟨bo, 0, none⟩), .pointer (some ⟨bf, 0, none⟩)] w (AllG n0 bo Hs p acc w) := by
  have hcl := hE.rep.cls p hp
  rw [hcb] at hcl
  have hlow := hE.low p hp
  have HCN := Lib.hid hcl
  clear hcl
  have c1 := hE.rep.c1 hp
  rw [hcb] at c1
  have hsz := hE.size
  have HE := Lib.hid hE
  have HO := Lib.hid hO
  have HP := Lib.hid hP
  have HJ := Lib.hid (fun c (h : (p, c) ∈ Hs) => hJ _ h)
  have HA := Lib.hid hA
  have hnb : n0 ≤ bo := hO.1
  have hbol : bo < w.heap.size := by obtain ⟨-, v, hv, -⟩ := hO; exact (Array.getElem?_eq_some_iff.1 hv).1
  have hpl := hN p hp
  clear hE hO hP hJ hA
  have hrg := run_range_nilMap (P := Tryz.prog) w 100 _ _ Tryz.underlying100
  have hnx : ∀ ty, (Instr.next (.pointer (some ⟨w.heap.size, 0, none⟩)) false ty).run Tryz.prog (w.alloc (.mapIter none 0 #[] 0)) = _ := fun ty => run_next_nilMap _ ty 0 0 #[]
  go_enter Tryz.func75, Tryz.ntmps75
  go_wp2_with fail
  refine wp_loop_rounds 1 ?_
  rw [rounds_succ]
  have hb1 : Below w.heap.size w (w.alloc (.mapIter none 0 #[] 0)) := (Below.refl _ _).alloc (Nat.le_refl _) _
  have HF := Lib.hid (show ∃ cl : List Str, OutAt n0 bo (w.alloc (.mapIter none 0 #[] 0)) (acc ++ cl.map fun c => (p, c)) ∧ cl.Nodup ∧ (∀ c, c ∈ cl ↔ (p, c) ∈ Hs) ∧ KH n0 bo w (w.alloc (.mapIter none 0 #[] 0)) from
    ⟨[], by simpa using HO.out.below hb1, List.nodup_nil, fun c => by have := HCN.out c; simp at this; simp [this], KH.of_below hsz hb1⟩)
  have hws : w.heap.size ≤ (w.alloc (.mapIter none 0 #[] 0)).heap.size := by simp
  clear hb1
  generalize (w.alloc (.mapIter none 0 #[] 0)) = wb at *
  obtain ⟨cl, hOa, hnd1, hcl1, hKa⟩ := HF.out
  have hE1 := HE.out.kept hKa
  have c0 := hE1.rep.c0 hp
  rw [hkb] at c0
  have hsz1 := hKa.size hsz
  have HEl := Lib.hid hE1
  have HKa := Lib.hid hKa
  have HOa := Lib.hid hOa
  have HPa := Lib.hid (HP.out.kept hKa)
  have HCL := Lib.hid hcl1
  have hki := hE1.rep.kids p hp
  rw [hkb] at hki
  clear hOa hKa hE1 hcl1
  have HKI := Lib.hid hki
  clear hki
  have hrg2 := run_range_nilMap (P := Tryz.prog) wb 103 _ _ Tryz.underlying103
  have hnx2 : ∀ ty, (Instr.next (.pointer (some ⟨wb.heap.size, 0, none⟩)) false ty).run Tryz.prog (wb.alloc (.mapIter none 0 #[] 0)) = .ok (.tuple #[.bool false]) (wb.alloc (.mapIter none 0 #[] 0)) := fun ty => by
    have h := run_next_nilMap (P := Tryz.prog) wb ty 0 0 #[]
    first | exact h | (rw [World.size_alloc] at h; exact h)
  go_wp2_with fail
  refine wp_loop_rounds 1 ?_
  rw [rounds_succ]
  go_wp2_with fail
  go_end0
  have hb2 : Below (wb).heap.size wb (wb.alloc (.mapIter none 0 #[] 0)) := (Below.refl _ _).alloc (Nat.le_refl _) _
  refine ⟨rfl, cl.map fun c => (p, c), HOa.out.below hb2, ?_, HKa.out.trans (KH.of_below hsz1 hb2)⟩
  exact newK_done (has := fun _ => false) (left := fun _ => true) hti (newK_start hnd1 HCL.out (by simp)) (by simp) (fun x => by have := HKI.out x; unfold kidOf at this; simpa using this)

set_option maxRecDepth 100000 in
set_option maxHeartbeats 4000000 in
theorem all_leaf_01 (n0 bo bf t B : Nat) (hn nn : Int) (nd : Path → Nd) (Ns : List Path) (Hs : List (Path × Str)) (hti : Tight Ns Hs) (_hH : Hs.length < 1000000) (hN : ∀ q ∈ Ns, q.length < 1000000) (hJ : ∀ h ∈ Hs, h.1 ≠ [] ∧ (joinP h.1).length ≤ 1000000) (p : Path) (acc : List (Path × Str)) (w : World) (v : Value) (hp : p ∈ Ns) (hE : AllE n0 bo bf t B hn nn nd Ns Hs w) (hO : OutAt n0 bo w acc) (hA : Acc Hs p acc) (hP : PathAt bo w v p) (hcb : (nd p).cb = none) (kbk : Nat) (hkb : (nd p).kb = some kbk) (IH : ∀ z acc w v, p ++ [z] ∈ Ns → AllE n0 bo bf t B hn nn nd Ns Hs w → OutAt n0 bo w acc → Acc Hs (p ++ [z]) acc → PathAt bo w v (p ++ [z]) → Calls Tryz.prog 75 #[.pointer (some ⟨(nd (p ++ [z])).b, 0, none⟩), v, .pointer (some ⟨bo, 0, none⟩), .pointer (some ⟨bf, 0, none⟩)] w (AllG n0 bo Hs (p ++ [z]) acc w)) :
    Calls Tryz.prog 75 #[.pointer (some ⟨(nd p).b, 0, none⟩), v, .pointer (some ⟨bo, 0, none⟩), .pointer (some ⟨bf, 0, none⟩)] w (AllG n0 bo Hs p acc w) := by
  have hcl := hE.rep.cls p hp
  rw [hcb] at hcl
  have hlow := hE.low p hp
  have HCN := Lib.hid hcl
  clear hcl
  have HIH := Lib.hid IH
  clear IH
  have c1 := hE.rep.c1 hp
  rw [hcb] at c1
  have hsz := hE.size
  have HE := Lib.hid hE
  have HO := Lib.hid hO
  have HP := Lib.hid hP
  have HJ := Lib.hid (fun c (h : (p, c) ∈ Hs) => hJ _ h)
  have HA := Lib.hid hA
  have hnb : n0 ≤ bo := hO.1
  have hbol : bo < w.heap.size := by obtain ⟨-, v, hv, -⟩ := hO; exact (Array.getElem?_eq_some_iff.1 hv).1
  have hpl := hN p hp
  clear hE hO hP hJ hA
  have hrg := run_range_nilMap (P := Tryz.prog) w 100 _ _ Tryz.underlying100
  have hnx : ∀ ty, (Instr.next (.pointer (some ⟨w.heap.size, 0, none⟩)) false ty).run Tryz.prog (w.alloc (.mapIter none 0 #[] 0)) = _ := fun ty => run_next_nilMap _ ty 0 0 #[]
  go_enter Tryz.func75, Tryz.ntmps75
  go_wp2_with fail
  refine wp_loop_rounds 1 ?_
  rw [rounds_succ]
  have hb1 : Below w.heap.size w (w.alloc (.mapIter none 0 #[] 0)) := (Below.refl _ _).alloc (Nat.le_refl _) _
  have HF := Lib.hid (show ∃ cl : List Str, OutAt n0 bo (w.alloc (.mapIter none 0 #[] 0)) (acc ++ cl.map fun c => (p, c)) ∧ cl.Nodup ∧ (∀ c, c ∈ cl ↔ (p, c) ∈ Hs) ∧ KH n0 bo w (w.alloc (.mapIter none 0 #[] 0)) from
    ⟨[], by simpa using HO.out.below hb1, List.nodup_nil, fun c => by have := HCN.out c; simp at this; simp [this], KH.of_below hsz hb1⟩)
  have hws : w.heap.size ≤ (w.alloc (.mapIter none 0 #[] 0)).heap.size := by simp
  clear hb1
  generalize (w.alloc (.mapIter none 0 #[] 0)) = wb at *
  obtain ⟨cl, hOa, hnd1, hcl1, hKa⟩ := HF.out
  have hE1 := HE.out.kept hKa
  have c0 := hE1.rep.c0 hp
  rw [hkb] at c0
  have hsz1 := hKa.size hsz
  have HEl := Lib.hid hE1
  have HKa := Lib.hid hKa
  have HOa := Lib.hid hOa
  have HPa := Lib.hid (HP.out.kept hKa)
  have HCL := Lib.hid hcl1
  have hki := hE1.rep.kids p hp
  rw [hkb] at hki
  clear hOa hKa hE1 hcl1
  obtain ⟨D2, hkm, hk2B, hk2⟩ := hki
  have hkbl : kbk < n0 := hlow _ (blocks_kb hkb)
  have HK2 := Lib.hid hk2
  obtain ⟨ao, cc, rfl, hao, hsl, hcells⟩ := HPa.out.shape (n0 := n0)
  have HCE := Lib.hid hcells
  clear hk2 hcells
  go_wp2_with (first
    | (at_range; refine wpList_range_own _ rfl _ 103 rfl 9 102 kS Tryz.underlying103 ptrElem kbk _ _ rfl hkm ?_; intro w4 hrg4 hg4 hs4)
    | fail)
  try go_frame
  have hO4 := HOa.out.made hg4 (by simp)
  have hK4 : KH n0 bo wb w4 := KH.made KH.refl hg4 (by simp) hsz1
  go_loopw [30] (fun _ wr => ∃ (left : Lit → Bool) (cnt : Nat) (new : List (Path × Str)), wr.ranges Tryz.prog 9 ptrElem kbk (wb.heap.size) (Maps.size D2) D2 left cnt ∧ cnt ≤ Maps.size D2 ∧
      OutAt n0 bo wr (acc ++ new) ∧ NewK Hs p (fun x => Maps.has D2 (.string x)) (fun x => left (.string x)) new ∧ KH n0 bo (wb) wr)
    (fun _ wr => wr.rangeLeft kbk (wb.heap.size))
  case atStart =>
    exact ⟨_, _, cl.map fun c => (p, c), hrg4, Nat.le_refl _, hO4, newK_start hnd1 HCL.out (fun x h => h), hK4⟩
  case round =>
    obtain ⟨left2, cnt2, new2, hrg2, hcs2, hout2, hM2, hgw2⟩ := hrel
    go_wp2_with (first
      | (at_next; refine wpList_next_ranges _ rfl _ rfl 9 kS ptrElem (fun v => v) (fun v => v) (fun key _ _ => ⟨key, rfl⟩) (fun v y _ => ⟨v, rfl⟩) kbk (wb.heap.size) _ _ _ _ rfl hrg2 ?_ ?_)
      | fail)
    · intro hc0 hl0
      have HF2 := Lib.hid (show ∃ new, OutAt n0 bo wr (acc ++ new) ∧ Sub Hs p new ∧ KH n0 bo w wr from
        ⟨new2, hout2, newK_done hti hM2 (fun x _ => hl0 _) (fun x => by rw [(HK2.out x).1]; unfold kidOf; by_cases h : p ++ [x] ∈ Ns <;> simp [h]), HKa.out.trans hgw2⟩)
      clear hc0 hl0 hM2 hgw2 hout2 hrg2
      go_wp2_with fail
      go_end0
      exact ⟨rfl, HF2.out⟩
    · intro x v2 kl yd yp w5 cnt3 hkey hlx hv hat hrg5 hlt hg5 hs5 hen
      obtain ⟨z, rfl, rfl, hzl⟩ := Maps.keyOf_str Tryz.underlying9 hkey
      have hhas : Maps.has D2 (.string z) = true := Maps.has_true_of_atKey hat
      have hzN : p ++ [z] ∈ Ns := by
        rw [(HK2.out z).1] at hhas
        unfold kidOf at hhas
        by_cases h : p ++ [z] ∈ Ns
        · exact h
        · simp [h] at hhas
      have hyd := (hat nilDat).symm.trans ((HK2.out z).2 _ (if_pos hzN) nilDat)
      obtain rfl : yd = _ := hyd
      obtain rfl := ptrElem_inv hv
      have hK5 : KH n0 bo (wb) w5 := KH.iter hgw2 hg5 (by simp) hsz1
      have hsz5 := hK5.size hsz1
      have hO5 := (hout2.iter hg5 hrg2).below (below_drew1 w5)
      have HA5 := Lib.hid (newK_kid HA.out hM2 (z := z) hlx)
      have HKd := Lib.hid (KH.of_below (bo := bo) (W1 := w5.drew) hsz5 (below_drew1 w5))
      have HKs := Lib.hid (hK5.trans HKd.out)
      have HEd := Lib.hid (HEl.out.kept HKs.out)
      have HO5 := Lib.hid hO5
      have HK5 := Lib.hid hK5
      have HR5 := Lib.hid hrg5
      have HM2 := Lib.hid hM2
      have HLX := Lib.hid hlx
      have hbol5 : bo < w5.drew.heap.size := by obtain ⟨-, v, hv, -⟩ := hO5; exact (Array.getElem?_eq_some_iff.1 hv).1
      have cself := cell_of_row _ _ 0 _ _ _ HEd.out.self
      clear hat hlx hM2 hgw2 hg5 hout2 hO5 hrg5 hK5 hv hkey hzl hs5
      go_wp2_with fail
      refine wp_region_held_drew (S := fun W => W.cell? ⟨bf, 0, none⟩ = some (.func (.func 75) #[] #[.pointer (some ⟨bo, 0, none⟩), .pointer (some ⟨bf, 0, none⟩)])) (by kernel_rfl) cself (fun hHeld => ?_)
      refine wpAnyH_take (i := 0) (v := ?_) rfl (by kernel_rfl) (by kernel_rfl) (by kernel_rfl) (fun _ _ _ h => h) (Or.inl ⟨rfl, ?_⟩) hHeld ?_
      rotate_left
      · intro w0 hS0
        try dsimp only at hS0
        go_simp
        try with_reducible rfl
      simp only [List.getElem_toArray, List.getElem_cons_zero, Act.put, List.setIfInBounds_toArray, List.set_cons_zero, List.set_cons_succ]
      refine wpAnyH_take (i := 1) (v := ?_) rfl (by kernel_rfl) (by kernel_rfl) (by kernel_rfl) (fun _ _ _ h => h) (Or.inl ⟨rfl, ?_⟩) hHeld ?_
      rotate_left
      · intro w0 hS0
        try dsimp only at hS0
        go_simp
        try with_reducible rfl
      simp only [List.getElem_toArray, List.getElem_cons_zero, List.getElem_cons_succ, Act.put, List.setIfInBounds_toArray, List.set_cons_zero, List.set_cons_succ]
      refine wpAnyH_take (i := 2) (v := ?_) rfl (by kernel_rfl) (by kernel_rfl) (by kernel_rfl) (fun _ _ _ h => h) (Or.inl ⟨rfl, ?_⟩) hHeld ?_
      rotate_left
      · intro w0 hS0
        try dsimp only at hS0
        go_simp
        try with_reducible rfl
      simp only [List.getElem_toArray, List.getElem_cons_zero, List.getElem_cons_succ, Act.put, List.setIfInBounds_toArray, List.set_cons_zero, List.set_cons_succ]
      refine wpAnyH_take (i := 3) (v := ?_) rfl (by kernel_rfl) (by kernel_rfl) (by kernel_rfl) (fun _ _ _ h => h) (Or.inl ⟨rfl, ?_⟩) hHeld ?_
      rotate_left
      · intro w0 hS0
        try dsimp only at hS0
        go_simp
        try with_reducible rfl
      simp only [List.getElem_toArray, List.getElem_cons_zero, List.getElem_cons_succ, Act.put, List.setIfInBounds_toArray, List.set_cons_zero, List.set_cons_succ]
      refine wpAnyH_take (i := 4) (v := ?_) rfl (by kernel_rfl) (by kernel_rfl) (by kernel_rfl) (fun _ _ _ h => h) (Or.inl ⟨rfl, ?_⟩) hHeld ?_
      rotate_left
      · intro w0 hS0
        try dsimp only at hS0
        go_simp
        try with_reducible rfl
      simp only [List.getElem_toArray, List.getElem_cons_zero, List.getElem_cons_succ, Act.put, List.setIfInBounds_toArray, List.set_cons_zero, List.set_cons_succ]
      refine wpAnyH_take (i := 5) (v := ?_) rfl (by kernel_rfl) (by kernel_rfl) (by kernel_rfl) (fun _ _ _ h => h) (Or.inl ⟨rfl, ?_⟩) hHeld ?_
      rotate_left
      · intro w0 hS0
        try dsimp only at hS0
        go_simp
        try with_reducible rfl
      simp only [List.getElem_toArray, List.getElem_cons_zero, List.getElem_cons_succ, Act.put, List.setIfInBounds_toArray, List.set_cons_zero, List.set_cons_succ]
      refine wpAnyH_take (i := 6) (v := ?_) rfl (by kernel_rfl) (by kernel_rfl) (by kernel_rfl) (fun _ _ _ h => h) (Or.inl ⟨rfl, ?_⟩) hHeld ?_
      rotate_left
      · intro w0 hS0
        try dsimp only at hS0
        go_simp
        try with_reducible rfl
      simp only [List.getElem_toArray, List.getElem_cons_zero, List.getElem_cons_succ, Act.put, List.setIfInBounds_toArray, List.set_cons_zero, List.set_cons_succ]
      refine wpAnyH_take (i := 7) (v := ?_) rfl (by kernel_rfl) (by kernel_rfl) (by kernel_rfl) (fun _ _ _ h => h) (Or.inl ⟨rfl, ?_⟩) hHeld ?_
      rotate_left
      · intro w0 hS0
        try dsimp only at hS0
        go_simp
        try with_reducible rfl
      simp only [List.getElem_toArray, List.getElem_cons_zero, List.getElem_cons_succ, Act.put, List.setIfInBounds_toArray, List.set_cons_zero, List.set_cons_succ]
      refine wpAnyH_take (i := 8) (v := ?_) rfl (by kernel_rfl) (by kernel_rfl) (by kernel_rfl) (fun _ _ _ h => h) (Or.inl ⟨rfl, ?_⟩) hHeld ?_
      rotate_left
      · intro w0 hS0
        try dsimp only at hS0
        go_simp
        try with_reducible rfl
      simp only [List.getElem_toArray, List.getElem_cons_zero, List.getElem_cons_succ, Act.put, List.setIfInBounds_toArray, List.set_cons_zero, List.set_cons_succ]
      refine wpAnyH_ready (rs := [9]) (by kernel_rfl) (by simp) ?_
      refine AllReadyH.cons rfl (fun K hK => ?_) AllReadyH.nil
      rw [if_pos (by rfl)]
      go_simp
      have hbn : Below w5.drew.heap.size w5.drew (w5.drew.alloc (.cells #[.string ⟨z.toArray⟩] 9)) := (Below.refl _ _).alloc (Nat.le_refl _) _
      have HKn := Lib.hid (KH.of_below (W := w5.drew) (bo := bo) hsz5 hbn)
      have hnw : (w5.drew.alloc (.cells #[.string ⟨z.toArray⟩] 9)).heap[w5.drew.heap.size]? = _ := heap_alloc_new _ _
      have HOn := Lib.hid (HO5.out.below hbn)
      have hbon : bo < (w5.drew.alloc (.cells #[.string ⟨z.toArray⟩] 9)).heap.size := Nat.lt_of_lt_of_le hbol5 hbn.size
      have cself2 := cell_of_row _ _ 0 _ _ _ (HEd.out.kept HKn.out).self
      refine hK.out _ _ cself2 (fun hHeld => ?_)
      refine wpAnyH_ready (rs := [10]) (by kernel_rfl) (by simp) ?_
      refine AllReadyH.cons rfl (fun K hK => ?_) AllReadyH.nil
      refine step_grows T_strs hao (by simp [strs]) (HCE.out _ ((HKs.out).trans HKn.out)) hnw rfl rfl rfl rfl rfl (by decide) (by simp [Value.oneCell']) (by omega) (by omega) ?_
      intro v' w6 hown6 hgrow6
      have hP6 : PathAt bo w6 v' (p ++ [z]) := path_more hown6 hbon
      have hK6 : KH n0 bo w5.drew w6 := KH.made HKn.out hgrow6 (by simp) (by exact hsz5)
      have hO6 := HOn.out.made hgrow6 (by simp)
      have hE6 := HEd.out.kept hK6
      have hIH := HIH.out z (acc ++ new2) w6 v' hzN hE6 hO6 HA5.out hP6
      refine hK.out _ _ (cell_of_row _ _ 0 _ _ _ hE6.self) (fun hHeld => ?_)
      refine wpAnyH_ready (rs := [11]) (by kernel_rfl) (by simp) ?_
      refine AllReadyH.cons rfl (fun K hK => ?_) AllReadyH.nil
      rw [if_pos (by rfl)]
      go_simp
      go_at_call 75
      refine hIH.mono ?_
      rintro e w7 ⟨rfl, sub, hO7, hS7, hK7⟩
      have hE7 := hE6.kept hK7
      refine hK.out _ _ (cell_of_row _ _ 0 _ _ _ hE7.self) (fun hHeld => ?_)
      refine wpAnyH_done (by kernel_rfl) ?_ _
      have HK7 := Lib.hid ((HKd.out.trans hK6).trans hK7)
      have HR7 := Lib.hid (HK7.out.ranges (by omega) (by omega) HR5.out)
      have HO7 := Lib.hid hO7
      have HS7 := Lib.hid hS7
      clear hIH hE6 hO6 hP6 hK6 hE7 hK7 hO7 hS7 hown6 hgrow6 cself cself2 hnw hbn
      go_roundw
      case rel =>
        refine ⟨_, _, _, _, _, _, _, _, _, _, _, _, _, _, _, _, _, _, _, ?_, rfl⟩
        refine ⟨_, cnt3, new2 ++ sub, HR7.out, by omega, by have := HO7.out; rwa [List.append_assoc] at this, newK_step HM2.out HLX.out hhas HS7.out (fun x => by simp [Lit.sameKey]), HK5.out.trans HK7.out⟩
      case measure => rw [HR7.out.left_eq, hrg2.left_eq]; exact hlt

set_option maxRecDepth 100000 in
set_option maxHeartbeats 4000000 in
theorem all_leaf_10 (n0 bo bf t B : Nat) (hn nn : Int) (nd : Path → Nd) (Ns : List Path) (Hs : List (Path × Str)) (hti : Tight Ns Hs) (hH : Hs.length < 1000000) (hN : ∀ q ∈ Ns, q.length < 1000000) (hJ : ∀ h ∈ Hs, h.1 ≠ [] ∧ (joinP h.1).length ≤ 1000000) (p : Path) (acc : List (Path × Str)) (w : World) (v : Value) (hp : p ∈ Ns) (hE : AllE n0 bo bf t B hn nn nd Ns Hs w) (hO : OutAt n0 bo w acc) (hA : Acc Hs p acc) (hP : PathAt bo w v p) (cbk : Nat) (hcb : (nd p).cb = some cbk) (hkb : (nd p).kb = none) :
    Calls Tryz.prog 75 #[.pointer (some ⟨(nd p).b, 0, none⟩), v, .pointer (some ⟨bo, 0, none⟩), .pointer (some ⟨bf, 0, none⟩)] w (AllG n0 bo Hs p acc w) := by
  have hcl := hE.rep.cls p hp
  rw [hcb] at hcl
  have hlow := hE.low p hp
  obtain ⟨D, hcl, hDB, hDg⟩ := hcl
  have hcbl : cbk < n0 := hlow _ (blocks_cb hcb)
  have HD := Lib.hid hDg
  clear hDg
  have c1 := hE.rep.c1 hp
  rw [hcb] at c1
  have hsz := hE.size
  have HE := Lib.hid hE
  have HO := Lib.hid hO
  have HP := Lib.hid hP
  have HJ := Lib.hid (fun c (h : (p, c) ∈ Hs) => hJ _ h)
  have HA := Lib.hid hA
  have hnb : n0 ≤ bo := hO.1
  have hbol : bo < w.heap.size := by obtain ⟨-, v, hv, -⟩ := hO; exact (Array.getElem?_eq_some_iff.1 hv).1
  have hpl := hN p hp
  clear hE hO hP hJ hA
  go_enter Tryz.func75, Tryz.ntmps75
  go_wp2_with (first
    | (at_range; refine wpList_range_own _ rfl _ 100 rfl 9 108 kS Tryz.underlying100 unitElem cbk _ _ rfl hcl ?_; intro w0 hrg0 hg0 hs0)
    | fail)
  have hO0 := HO.out.made hg0 (by simp)
  have hK0 : KH n0 bo w w0 := KH.made KH.refl hg0 (by simp) hsz
  go_loopw [14] (fun _ wr => ∃ (left : Lit → Bool) (cnt : Nat) (new : List Str), wr.ranges Tryz.prog 9 unitElem cbk w.heap.size (Maps.size D) D left cnt ∧ cnt ≤ Maps.size D ∧
      OutAt n0 bo wr (acc ++ new.map fun c => (p, c)) ∧ new.Nodup ∧ (∀ c, c ∈ new ↔ (Maps.has D (.string c) && !left (.string c)) = true) ∧ KH n0 bo w wr)
    (fun _ wr => wr.rangeLeft cbk w.heap.size)
  case atStart =>
    exact ⟨_, _, [], hrg0, Nat.le_refl _, by simpa using hO0, List.nodup_nil, fun c => by simp, hK0⟩
  case round =>
    obtain ⟨left, cnt, new, hrg, hcs, hout, hnd, hM, hgw⟩ := hrel
    go_wp2_with (first
      | (at_next; refine wpList_next_ranges _ rfl _ rfl 9 kS unitElem id (fun (_ : Unit) => Value.agg #[]) (fun key _ _ => ⟨key, rfl⟩) (fun v y hv => ⟨(), (unitElem_inv hv).1⟩) cbk w.heap.size _ _ _ _ rfl hrg ?_ ?_)
      | fail)
    · intro hc0 hl0
      have HF := Lib.hid (show ∃ cl : List Str, OutAt n0 bo wr (acc ++ cl.map fun c => (p, c)) ∧ cl.Nodup ∧ (∀ c, c ∈ cl ↔ (p, c) ∈ Hs) ∧ KH n0 bo w wr from
        ⟨new, hout, hnd, fun c => by rw [hM c, hl0, HD.out]; simp, hgw⟩)
      have hws : w.heap.size ≤ wr.heap.size := hgw.below.size
      clear hc0 hl0 hM hgw hout hnd hrg
      generalize wr = wb at *
      obtain ⟨cl, hOa, hnd1, hcl1, hKa⟩ := HF.out
      have hE1 := HE.out.kept hKa
      have c0 := hE1.rep.c0 hp
      rw [hkb] at c0
      have hsz1 := hKa.size hsz
      have HEl := Lib.hid hE1
      have HKa := Lib.hid hKa
      have HOa := Lib.hid hOa
      have HPa := Lib.hid (HP.out.kept hKa)
      have HCL := Lib.hid hcl1
      have hki := hE1.rep.kids p hp
      rw [hkb] at hki
      clear hOa hKa hE1 hcl1
      have HKI := Lib.hid hki
      clear hki
      have hrg2 := run_range_nilMap (P := Tryz.prog) wb 103 _ _ Tryz.underlying103
      have hnx2 : ∀ ty, (Instr.next (.pointer (some ⟨wb.heap.size, 0, none⟩)) false ty).run Tryz.prog (wb.alloc (.mapIter none 0 #[] 0)) = .ok (.tuple #[.bool false]) (wb.alloc (.mapIter none 0 #[] 0)) := fun ty => by
        have h := run_next_nilMap (P := Tryz.prog) wb ty 0 0 #[]
        first | exact h | (rw [World.size_alloc] at h; exact h)
      go_wp2_with fail
      refine wp_loop_rounds 1 ?_
      rw [rounds_succ]
      go_wp2_with fail
      go_end0
      have hb2 : Below (wb).heap.size wb (wb.alloc (.mapIter none 0 #[] 0)) := (Below.refl _ _).alloc (Nat.le_refl _) _
      refine ⟨rfl, cl.map fun c => (p, c), HOa.out.below hb2, ?_, HKa.out.trans (KH.of_below hsz1 hb2)⟩
      exact newK_done (has := fun _ => false) (left := fun _ => true) hti (newK_start hnd1 HCL.out (by simp)) (by simp) (fun x => by have := HKI.out x; unfold kidOf at this; simpa using this)
    · intro x kl yd yp w1 cnt1 hkey hlx hv hat hrg1 hlt hg1 hs1 hen
      obtain ⟨z, rfl, rfl, hzl⟩ := Maps.keyOf_str Tryz.underlying9 hkey
      obtain ⟨rfl, rfl⟩ : yd = .agg [] ∧ yp = [] := by have := (unitElem_inv hv).2; simpa using this
      have hhas : Maps.has D (.string z) = true := Maps.has_true_of_atKey hat
      have hzH : (p, z) ∈ Hs := by have := HD.out z; rw [hhas] at this; simpa using this.symm
      obtain ⟨hpn, hpj⟩ := HJ.out z hzH
      have hK1 : KH n0 bo w w1 := KH.iter hgw hg1 (Nat.le_refl _) hsz
      have hO1 := hout.iter hg1 hrg
      have hznew : z ∉ new := fun h => by have := (hM z).1 h; rw [hlx] at this; simp at this
      have hlen : (acc ++ new.map fun c => (p, c)).length < Hs.length := by
        have h1 := nodup_le (l := (acc ++ new.map fun c => (p, c)) ++ [(p, z)]) (k := Hs) ?_ ?_
        · simp at h1 ⊢; omega
        · refine List.nodup_append.2 ⟨List.nodup_append.2 ⟨HA.out.1, clients_nodup hnd, ?_⟩, by simp, ?_⟩
          · rintro a ha b hb rfl
            obtain ⟨c, hc, rfl⟩ := List.mem_map.1 hb
            exact (HA.out.2 _ ha).2 (List.prefix_refl _)
          · rintro a ha b hb rfl
            obtain rfl := List.mem_singleton.1 hb
            rcases List.mem_append.1 ha with ha | ha
            · exact (HA.out.2 _ ha).2 (List.prefix_refl _)
            · obtain ⟨c, hc, e⟩ := List.mem_map.1 ha
              have : c = z := by simpa using e
              subst this; exact hznew hc
        · intro x hx
          rcases List.mem_append.1 hx with hx | hx
          · rcases List.mem_append.1 hx with hx | hx
            · exact (HA.out.2 _ hx).1
            · obtain ⟨c, hc, rfl⟩ := List.mem_map.1 hx
              have h2 := (hM c).1 hc
              have h3 := HD.out c
              rw [Bool.and_eq_true] at h2
              rw [h2.1] at h3; simpa using h3.symm
          · obtain rfl := List.mem_singleton.1 hx; exact hzH
      obtain ⟨acc1, hacc1⟩ : ∃ a, (acc ++ new.map fun c => (p, c)) = a := ⟨_, rfl⟩
      rw [hacc1] at hO1 hlen
      have HJN := Lib.hid (tjoin_any ((HP.out.kept hK1).kept (KH.of_below (W1 := w1.drew) (hK1.size hsz) (below_drew1 w1))) hpn (Nat.le_of_lt hpl) hpj)
      have HK1 := Lib.hid hK1
      have HR1 := Lib.hid hrg1
      obtain ⟨-, vo, hvo, hro⟩ := hO1.below (below_drew1 w1)
      have HVO := Lib.hid hvo
      have HRO := Lib.hid hro
      have cvo := cell_of_row _ _ 0 _ _ _ hvo
      have hsz1 := hK1.size hsz
      have HM := Lib.hid hM
      have HAT := Lib.hid hat
      have HLX := Lib.hid hlx
      clear hat hlx hM hgw hg1 hout hO1 hrg1 hvo hro hK1 hv hkey hzl
      go_wp2_with fail
      go_region_law ((first
        | (rw [if_pos (by rfl)]; go_simp; go_at_call 76; refine HJN.out.mono ?_; rintro e w2 ⟨rfl, hb2⟩
           have hs2 : n0 ≤ w2.heap.size := Nat.le_trans hsz1 hb2.size
           have hv2 := Lib.hid ((hb2.block bo (Array.getElem?_eq_some_iff.1 HVO.out).1).trans HVO.out)
           have cv2 := cell_of_row _ _ 0 _ _ _ hv2.out
           have cv2a : ∀ o, (w2.alloc o).cell? ⟨bo, 0, none⟩ = some vo := fun o => cell_of_row _ _ 0 _ _ _ ((Below.heap_alloc _ _ _ (Array.getElem?_eq_some_iff.1 hv2.out).1).trans hv2.out)
           have hr2 := Lib.hid (ownsRow_low HRO.out hb2)
           have hk2 := Lib.hid (KH.of_below (bo := bo) (by exact hsz1) hb2))
        | (refine step_app T_hint (by exact hr2.out.alloc _) (by exact heap_alloc_new _ _) rfl rfl rfl rfl rfl (by decide) (by simp [Value.oneCell']) (by omega) (by omega) (by simp; omega) ?_
           intro g' cap' w3 hown3 hgrow hat3 hlt3
           have hfin := Lib.hid (out_app hnb hv2.out hr2.out (h := (p, z)) hown3 hgrow hs2)
           have c3 := cell_of_row _ _ 0 _ _ _ (grown_keep hgrow hv2.out (out_ne hv2.out hr2.out))
           have f3 := frozen_of_row _ _ 0 _ _ (grown_keep hgrow hv2.out (out_ne hv2.out hr2.out)))))
      all_goals
        clear c3 f3 cv2 cv2a cvo
        have HKW := Lib.hid (show KH n0 bo w1 _ from ((KH.of_below hsz1 (below_drew1 w1)).trans hk2.out).trans hfin.out.2)
        have HRW := Lib.hid (HKW.out.ranges (by omega) (by omega) HR1.out)
        go_roundw
        case rel =>
          refine ⟨_, _, _, _, _, _, _, _, _, _, _, _, ?_, rfl⟩
          refine ⟨_, cnt1, new ++ [z], HRW.out, by omega, ?_, ?_, fun c => ?_, HK1.out.trans HKW.out⟩
          · have hml : acc1 ++ [(p, z)] = acc ++ (new ++ [z]).map fun c => (p, c) := by rw [← hacc1]; simp
            rw [← hml]; exact hfin.out.1
          · exact List.nodup_append.2 ⟨hnd, by simp, by rintro a ha b hb rfl; obtain rfl := List.mem_singleton.1 hb; exact hznew ha⟩
          · by_cases e : c = z
            · subst e
              simp [hhas, Lit.sameKey]
            · have ez : (c == z) = false := by simpa using e
              rw [List.mem_append, HM.out c]
              simp [Lit.sameKey, ez, e]
        case measure => rw [HRW.out.left_eq, hrg.left_eq]; exact hlt

set_option maxRecDepth 100000 in
set_option maxHeartbeats 4000000 in
theorem all_leaf_11 (n0 bo bf t B : Nat) (hn nn : Int) (nd : Path → Nd) (Ns : List Path) (Hs : List (Path × Str)) (hti : Tight Ns Hs) (hH : Hs.length < 1000000) (hN : ∀ q ∈ Ns, q.length < 1000000) (hJ : ∀ h ∈ Hs, h.1 ≠ [] ∧ (joinP h.1).length ≤ 1000000) (p : Path) (acc : List (Path × Str)) (w : World) (v : Value) (hp : p ∈ Ns) (hE : AllE n0 bo bf t B hn nn nd Ns Hs w) (hO : OutAt n0 bo w acc) (hA : Acc Hs p acc) (hP : PathAt bo w v p) (cbk : Nat) (hcb : (nd p).cb = some cbk) (kbk : Nat) (hkb : (nd p).kb = some kbk) (IH : ∀ z acc w v, p ++ [z] ∈ Ns → AllE n0 bo bf t B hn nn nd Ns Hs w → OutAt n0 bo w acc → Acc Hs (p ++ [z]) acc → PathAt bo w v (p ++ [z]) → Calls Tryz.prog 75 #[.pointer (some ⟨(nd (p ++ [z])).b, 0, none⟩), v, .pointer (some ⟨bo, 0, none⟩), .pointer (some ⟨bf, 0, none⟩)] w (AllG n0 bo Hs (p ++ [z]) acc w)) :
    Calls Tryz.prog 75 #[.pointer (some ⟨(nd p).b, 0, none⟩), v, .pointer (some ⟨bo, 0, none⟩), .pointer (some ⟨bf, 0, none⟩)] w (AllG n0 bo Hs p acc w) := by
  have hcl := hE.rep.cls p hp
  rw [hcb] at hcl
  have hlow := hE.low p hp
  obtain ⟨D, hcl, hDB, hDg⟩ := hcl
  have hcbl : cbk < n0 := hlow _ (blocks_cb hcb)
  have HD := Lib.hid hDg
  clear hDg
  have HIH := Lib.hid IH
  clear IH
  have c1 := hE.rep.c1 hp
  rw [hcb] at c1
  have hsz := hE.size
  have HE := Lib.hid hE
  have HO := Lib.hid hO
  have HP := Lib.hid hP
  have HJ := Lib.hid (fun c (h : (p, c) ∈ Hs) => hJ _ h)
  have HA := Lib.hid hA
  have hnb : n0 ≤ bo := hO.1
  have hbol : bo < w.heap.size := by obtain ⟨-, v, hv, -⟩ := hO; exact (Array.getElem?_eq_some_iff.1 hv).1
  have hpl := hN p hp
  clear hE hO hP hJ hA
  go_enter Tryz.func75, Tryz.ntmps75
  go_wp2_with (first
    | (at_range; refine wpList_range_own _ rfl _ 100 rfl 9 108 kS Tryz.underlying100 unitElem cbk _ _ rfl hcl ?_; intro w0 hrg0 hg0 hs0)
    | fail)
  have hO0 := HO.out.made hg0 (by simp)
  have hK0 : KH n0 bo w w0 := KH.made KH.refl hg0 (by simp) hsz
  go_loopw [14] (fun _ wr => ∃ (left : Lit → Bool) (cnt : Nat) (new : List Str), wr.ranges Tryz.prog 9 unitElem cbk w.heap.size (Maps.size D) D left cnt ∧ cnt ≤ Maps.size D ∧
      OutAt n0 bo wr (acc ++ new.map fun c => (p, c)) ∧ new.Nodup ∧ (∀ c, c ∈ new ↔ (Maps.has D (.string c) && !left (.string c)) = true) ∧ KH n0 bo w wr)
    (fun _ wr => wr.rangeLeft cbk w.heap.size)
  case atStart =>
    exact ⟨_, _, [], hrg0, Nat.le_refl _, by simpa using hO0, List.nodup_nil, fun c => by simp, hK0⟩
  case round =>
    obtain ⟨left, cnt, new, hrg, hcs, hout, hnd, hM, hgw⟩ := hrel
    go_wp2_with (first
      | (at_next; refine wpList_next_ranges _ rfl _ rfl 9 kS unitElem id (fun (_ : Unit) => Value.agg #[]) (fun key _ _ => ⟨key, rfl⟩) (fun v y hv => ⟨(), (unitElem_inv hv).1⟩) cbk w.heap.size _ _ _ _ rfl hrg ?_ ?_)
      | fail)
    · intro hc0 hl0
      have HF := Lib.hid (show ∃ cl : List Str, OutAt n0 bo wr (acc ++ cl.map fun c => (p, c)) ∧ cl.Nodup ∧ (∀ c, c ∈ cl ↔ (p, c) ∈ Hs) ∧ KH n0 bo w wr from
        ⟨new, hout, hnd, fun c => by rw [hM c, hl0, HD.out]; simp, hgw⟩)
      have hws : w.heap.size ≤ wr.heap.size := hgw.below.size
      clear hc0 hl0 hM hgw hout hnd hrg
      generalize wr = wb at *
      obtain ⟨cl, hOa, hnd1, hcl1, hKa⟩ := HF.out
      have hE1 := HE.out.kept hKa
      have c0 := hE1.rep.c0 hp
      rw [hkb] at c0
      have hsz1 := hKa.size hsz
      have HEl := Lib.hid hE1
      have HKa := Lib.hid hKa
      have HOa := Lib.hid hOa
      have HPa := Lib.hid (HP.out.kept hKa)
      have HCL := Lib.hid hcl1
      have hki := hE1.rep.kids p hp
      rw [hkb] at hki
      clear hOa hKa hE1 hcl1
      obtain ⟨D2, hkm, hk2B, hk2⟩ := hki
      have hkbl : kbk < n0 := hlow _ (blocks_kb hkb)
      have HK2 := Lib.hid hk2
      obtain ⟨ao, cc, rfl, hao, hsl, hcells⟩ := HPa.out.shape (n0 := n0)
      have HCE := Lib.hid hcells
      clear hk2 hcells
      go_wp2_with (first
        | (at_range; refine wpList_range_own _ rfl _ 103 rfl 9 102 kS Tryz.underlying103 ptrElem kbk _ _ rfl hkm ?_; intro w4 hrg4 hg4 hs4)
        | fail)
      try go_frame
      have hO4 := HOa.out.made hg4 (by simp)
      have hK4 : KH n0 bo wb w4 := KH.made KH.refl hg4 (by simp) hsz1
      go_loopw [30] (fun _ wr => ∃ (left : Lit → Bool) (cnt : Nat) (new : List (Path × Str)), wr.ranges Tryz.prog 9 ptrElem kbk (wb.heap.size) (Maps.size D2) D2 left cnt ∧ cnt ≤ Maps.size D2 ∧
          OutAt n0 bo wr (acc ++ new) ∧ NewK Hs p (fun x => Maps.has D2 (.string x)) (fun x => left (.string x)) new ∧ KH n0 bo (wb) wr)
        (fun _ wr => wr.rangeLeft kbk (wb.heap.size))
      case atStart =>
        exact ⟨_, _, cl.map fun c => (p, c), hrg4, Nat.le_refl _, hO4, newK_start hnd1 HCL.out (fun x h => h), hK4⟩
      case round =>
        obtain ⟨left2, cnt2, new2, hrg2, hcs2, hout2, hM2, hgw2⟩ := hrel
        go_wp2_with (first
          | (at_next; refine wpList_next_ranges _ rfl _ rfl 9 kS ptrElem (fun v => v) (fun v => v) (fun key _ _ => ⟨key, rfl⟩) (fun v y _ => ⟨v, rfl⟩) kbk (wb.heap.size) _ _ _ _ rfl hrg2 ?_ ?_)
          | fail)
        · intro hc0 hl0
          have HF2 := Lib.hid (show ∃ new, OutAt n0 bo wr (acc ++ new) ∧ Sub Hs p new ∧ KH n0 bo w wr from
            ⟨new2, hout2, newK_done hti hM2 (fun x _ => hl0 _) (fun x => by rw [(HK2.out x).1]; unfold kidOf; by_cases h : p ++ [x] ∈ Ns <;> simp [h]), HKa.out.trans hgw2⟩)
          clear hc0 hl0 hM2 hgw2 hout2 hrg2
          go_wp2_with fail
          go_end0
          exact ⟨rfl, HF2.out⟩
        · intro x v2 kl yd yp w5 cnt3 hkey hlx hv hat hrg5 hlt hg5 hs5 hen
          obtain ⟨z, rfl, rfl, hzl⟩ := Maps.keyOf_str Tryz.underlying9 hkey
          have hhas : Maps.has D2 (.string z) = true := Maps.has_true_of_atKey hat
          have hzN : p ++ [z] ∈ Ns := by
            rw [(HK2.out z).1] at hhas
            unfold kidOf at hhas
            by_cases h : p ++ [z] ∈ Ns
            · exact h
            · simp [h] at hhas
          have hyd := (hat nilDat).symm.trans ((HK2.out z).2 _ (if_pos hzN) nilDat)
          obtain rfl : yd = _ := hyd
          obtain rfl := ptrElem_inv hv
          have hK5 : KH n0 bo (wb) w5 := KH.iter hgw2 hg5 (by simp) hsz1
          have hsz5 := hK5.size hsz1
          have hO5 := (hout2.iter hg5 hrg2).below (below_drew1 w5)
          have HA5 := Lib.hid (newK_kid HA.out hM2 (z := z) hlx)
          have HKd := Lib.hid (KH.of_below (bo := bo) (W1 := w5.drew) hsz5 (below_drew1 w5))
          have HKs := Lib.hid (hK5.trans HKd.out)
          have HEd := Lib.hid (HEl.out.kept HKs.out)
          have HO5 := Lib.hid hO5
          have HK5 := Lib.hid hK5
          have HR5 := Lib.hid hrg5
          have HM2 := Lib.hid hM2
          have HLX := Lib.hid hlx
          have hbol5 : bo < w5.drew.heap.size := by obtain ⟨-, v, hv, -⟩ := hO5; exact (Array.getElem?_eq_some_iff.1 hv).1
          have cself := cell_of_row _ _ 0 _ _ _ HEd.out.self
          clear hat hlx hM2 hgw2 hg5 hout2 hO5 hrg5 hK5 hv hkey hzl hs5
          go_wp2_with fail
          refine wp_region_held_drew (S := fun W => W.cell? ⟨bf, 0, none⟩ = some (.func (.func 75) #[] #[.pointer (some ⟨bo, 0, none⟩), .pointer (some ⟨bf, 0, none⟩)])) (by kernel_rfl) cself (fun hHeld => ?_)
          refine wpAnyH_take (i := 0) (v := ?_) rfl (by kernel_rfl) (by kernel_rfl) (by kernel_rfl) (fun _ _ _ h => h) (Or.inl ⟨rfl, ?_⟩) hHeld ?_
          rotate_left
          · intro w0 hS0
            try dsimp only at hS0
            go_simp
            try with_reducible rfl
          simp only [List.getElem_toArray, List.getElem_cons_zero, Act.put, List.setIfInBounds_toArray, List.set_cons_zero, List.set_cons_succ]
          refine wpAnyH_take (i := 1) (v := ?_) rfl (by kernel_rfl) (by kernel_rfl) (by kernel_rfl) (fun _ _ _ h => h) (Or.inl ⟨rfl, ?_⟩) hHeld ?_
          rotate_left
          · intro w0 hS0
            try dsimp only at hS0
            go_simp
            try with_reducible rfl
          simp only [List.getElem_toArray, List.getElem_cons_zero, List.getElem_cons_succ, Act.put, List.setIfInBounds_toArray, List.set_cons_zero, List.set_cons_succ]
          refine wpAnyH_take (i := 2) (v := ?_) rfl (by kernel_rfl) (by kernel_rfl) (by kernel_rfl) (fun _ _ _ h => h) (Or.inl ⟨rfl, ?_⟩) hHeld ?_
          rotate_left
          · intro w0 hS0
            try dsimp only at hS0
            go_simp
            try with_reducible rfl
          simp only [List.getElem_toArray, List.getElem_cons_zero, List.getElem_cons_succ, Act.put, List.setIfInBounds_toArray, List.set_cons_zero, List.set_cons_succ]
          refine wpAnyH_take (i := 3) (v := ?_) rfl (by kernel_rfl) (by kernel_rfl) (by kernel_rfl) (fun _ _ _ h => h) (Or.inl ⟨rfl, ?_⟩) hHeld ?_
          rotate_left
          · intro w0 hS0
            try dsimp only at hS0
            go_simp
            try with_reducible rfl
          simp only [List.getElem_toArray, List.getElem_cons_zero, List.getElem_cons_succ, Act.put, List.setIfInBounds_toArray, List.set_cons_zero, List.set_cons_succ]
          refine wpAnyH_take (i := 4) (v := ?_) rfl (by kernel_rfl) (by kernel_rfl) (by kernel_rfl) (fun _ _ _ h => h) (Or.inl ⟨rfl, ?_⟩) hHeld ?_
          rotate_left
          · intro w0 hS0
            try dsimp only at hS0
            go_simp
            try with_reducible rfl
          simp only [List.getElem_toArray, List.getElem_cons_zero, List.getElem_cons_succ, Act.put, List.setIfInBounds_toArray, List.set_cons_zero, List.set_cons_succ]
          refine wpAnyH_take (i := 5) (v := ?_) rfl (by kernel_rfl) (by kernel_rfl) (by kernel_rfl) (fun _ _ _ h => h) (Or.inl ⟨rfl, ?_⟩) hHeld ?_
          rotate_left
          · intro w0 hS0
            try dsimp only at hS0
            go_simp
            try with_reducible rfl
          simp only [List.getElem_toArray, List.getElem_cons_zero, List.getElem_cons_succ, Act.put, List.setIfInBounds_toArray, List.set_cons_zero, List.set_cons_succ]
          refine wpAnyH_take (i := 6) (v := ?_) rfl (by kernel_rfl) (by kernel_rfl) (by kernel_rfl) (fun _ _ _ h => h) (Or.inl ⟨rfl, ?_⟩) hHeld ?_
          rotate_left
          · intro w0 hS0
            try dsimp only at hS0
            go_simp
            try with_reducible rfl
          simp only [List.getElem_toArray, List.getElem_cons_zero, List.getElem_cons_succ, Act.put, List.setIfInBounds_toArray, List.set_cons_zero, List.set_cons_succ]
          refine wpAnyH_take (i := 7) (v := ?_) rfl (by kernel_rfl) (by kernel_rfl) (by kernel_rfl) (fun _ _ _ h => h) (Or.inl ⟨rfl, ?_⟩) hHeld ?_
          rotate_left
          · intro w0 hS0
            try dsimp only at hS0
            go_simp
            try with_reducible rfl
          simp only [List.getElem_toArray, List.getElem_cons_zero, List.getElem_cons_succ, Act.put, List.setIfInBounds_toArray, List.set_cons_zero, List.set_cons_succ]
          refine wpAnyH_take (i := 8) (v := ?_) rfl (by kernel_rfl) (by kernel_rfl) (by kernel_rfl) (fun _ _ _ h => h) (Or.inl ⟨rfl, ?_⟩) hHeld ?_
          rotate_left
          · intro w0 hS0
            try dsimp only at hS0
            go_simp
            try with_reducible rfl
          simp only [List.getElem_toArray, List.getElem_cons_zero, List.getElem_cons_succ, Act.put, List.setIfInBounds_toArray, List.set_cons_zero, List.set_cons_succ]
          refine wpAnyH_ready (rs := [9]) (by kernel_rfl) (by simp) ?_
          refine AllReadyH.cons rfl (fun K hK => ?_) AllReadyH.nil
          rw [if_pos (by rfl)]
          go_simp
          have hbn : Below w5.drew.heap.size w5.drew (w5.drew.alloc (.cells #[.string ⟨z.toArray⟩] 9)) := (Below.refl _ _).alloc (Nat.le_refl _) _
          have HKn := Lib.hid (KH.of_below (W := w5.drew) (bo := bo) hsz5 hbn)
          have hnw : (w5.drew.alloc (.cells #[.string ⟨z.toArray⟩] 9)).heap[w5.drew.heap.size]? = _ := heap_alloc_new _ _
          have HOn := Lib.hid (HO5.out.below hbn)
          have hbon : bo < (w5.drew.alloc (.cells #[.string ⟨z.toArray⟩] 9)).heap.size := Nat.lt_of_lt_of_le hbol5 hbn.size
          have cself2 := cell_of_row _ _ 0 _ _ _ (HEd.out.kept HKn.out).self
          refine hK.out _ _ cself2 (fun hHeld => ?_)
          refine wpAnyH_ready (rs := [10]) (by kernel_rfl) (by simp) ?_
          refine AllReadyH.cons rfl (fun K hK => ?_) AllReadyH.nil
          refine step_grows T_strs hao (by simp [strs]) (HCE.out _ ((HKs.out).trans HKn.out)) hnw rfl rfl rfl rfl rfl (by decide) (by simp [Value.oneCell']) (by omega) (by omega) ?_
          intro v' w6 hown6 hgrow6
          have hP6 : PathAt bo w6 v' (p ++ [z]) := path_more hown6 hbon
          have hK6 : KH n0 bo w5.drew w6 := KH.made HKn.out hgrow6 (by simp) (by exact hsz5)
          have hO6 := HOn.out.made hgrow6 (by simp)
          have hE6 := HEd.out.kept hK6
          have hIH := HIH.out z (acc ++ new2) w6 v' hzN hE6 hO6 HA5.out hP6
          refine hK.out _ _ (cell_of_row _ _ 0 _ _ _ hE6.self) (fun hHeld => ?_)
          refine wpAnyH_ready (rs := [11]) (by kernel_rfl) (by simp) ?_
          refine AllReadyH.cons rfl (fun K hK => ?_) AllReadyH.nil
          rw [if_pos (by rfl)]
          go_simp
          go_at_call 75
          refine hIH.mono ?_
          rintro e w7 ⟨rfl, sub, hO7, hS7, hK7⟩
          have hE7 := hE6.kept hK7
          refine hK.out _ _ (cell_of_row _ _ 0 _ _ _ hE7.self) (fun hHeld => ?_)
          refine wpAnyH_done (by kernel_rfl) ?_ _
          have HK7 := Lib.hid ((HKd.out.trans hK6).trans hK7)
          have HR7 := Lib.hid (HK7.out.ranges (by omega) (by omega) HR5.out)
          have HO7 := Lib.hid hO7
          have HS7 := Lib.hid hS7
          clear hIH hE6 hO6 hP6 hK6 hE7 hK7 hO7 hS7 hown6 hgrow6 cself cself2 hnw hbn
          go_roundw
          case rel =>
            refine ⟨_, _, _, _, _, _, _, _, _, _, _, _, _, _, _, _, _, _, _, ?_, rfl⟩
            refine ⟨_, cnt3, new2 ++ sub, HR7.out, by omega, by have := HO7.out; rwa [List.append_assoc] at this, newK_step HM2.out HLX.out hhas HS7.out (fun x => by simp [Lit.sameKey]), HK5.out.trans HK7.out⟩
          case measure => rw [HR7.out.left_eq, hrg2.left_eq]; exact hlt
    · intro x kl yd yp w1 cnt1 hkey hlx hv hat hrg1 hlt hg1 hs1 hen
      obtain ⟨z, rfl, rfl, hzl⟩ := Maps.keyOf_str Tryz.underlying9 hkey
      obtain ⟨rfl, rfl⟩ : yd = .agg [] ∧ yp = [] := by have := (unitElem_inv hv).2; simpa using this
      have hhas : Maps.has D (.string z) = true := Maps.has_true_of_atKey hat
      have hzH : (p, z) ∈ Hs := by have := HD.out z; rw [hhas] at this; simpa using this.symm
      obtain ⟨hpn, hpj⟩ := HJ.out z hzH
      have hK1 : KH n0 bo w w1 := KH.iter hgw hg1 (Nat.le_refl _) hsz
      have hO1 := hout.iter hg1 hrg
      have hznew : z ∉ new := fun h => by have := (hM z).1 h; rw [hlx] at this; simp at this
      have hlen : (acc ++ new.map fun c => (p, c)).length < Hs.length := by
        have h1 := nodup_le (l := (acc ++ new.map fun c => (p, c)) ++ [(p, z)]) (k := Hs) ?_ ?_
        · simp at h1 ⊢; omega
        · refine List.nodup_append.2 ⟨List.nodup_append.2 ⟨HA.out.1, clients_nodup hnd, ?_⟩, by simp, ?_⟩
          · rintro a ha b hb rfl
            obtain ⟨c, hc, rfl⟩ := List.mem_map.1 hb
            exact (HA.out.2 _ ha).2 (List.prefix_refl _)
          · rintro a ha b hb rfl
            obtain rfl := List.mem_singleton.1 hb
            rcases List.mem_append.1 ha with ha | ha
            · exact (HA.out.2 _ ha).2 (List.prefix_refl _)
            · obtain ⟨c, hc, e⟩ := List.mem_map.1 ha
              have : c = z := by simpa using e
              subst this; exact hznew hc
        · intro x hx
          rcases List.mem_append.1 hx with hx | hx
          · rcases List.mem_append.1 hx with hx | hx
            · exact (HA.out.2 _ hx).1
            · obtain ⟨c, hc, rfl⟩ := List.mem_map.1 hx
              have h2 := (hM c).1 hc
              have h3 := HD.out c
              rw [Bool.and_eq_true] at h2
              rw [h2.1] at h3; simpa using h3.symm
          · obtain rfl := List.mem_singleton.1 hx; exact hzH
      obtain ⟨acc1, hacc1⟩ : ∃ a, (acc ++ new.map fun c => (p, c)) = a := ⟨_, rfl⟩
      rw [hacc1] at hO1 hlen
      have HJN := Lib.hid (tjoin_any ((HP.out.kept hK1).kept (KH.of_below (W1 := w1.drew) (hK1.size hsz) (below_drew1 w1))) hpn (Nat.le_of_lt hpl) hpj)
      have HK1 := Lib.hid hK1
      have HR1 := Lib.hid hrg1
      obtain ⟨-, vo, hvo, hro⟩ := hO1.below (below_drew1 w1)
      have HVO := Lib.hid hvo
      have HRO := Lib.hid hro
      have cvo := cell_of_row _ _ 0 _ _ _ hvo
      have hsz1 := hK1.size hsz
      have HM := Lib.hid hM
      have HAT := Lib.hid hat
      have HLX := Lib.hid hlx
      clear hat hlx hM hgw hg1 hout hO1 hrg1 hvo hro hK1 hv hkey hzl
      go_wp2_with fail
      go_region_law ((first
        | (rw [if_pos (by rfl)]; go_simp; go_at_call 76; refine HJN.out.mono ?_; rintro e w2 ⟨rfl, hb2⟩
           have hs2 : n0 ≤ w2.heap.size := Nat.le_trans hsz1 hb2.size
           have hv2 := Lib.hid ((hb2.block bo (Array.getElem?_eq_some_iff.1 HVO.out).1).trans HVO.out)
           have cv2 := cell_of_row _ _ 0 _ _ _ hv2.out
           have cv2a : ∀ o, (w2.alloc o).cell? ⟨bo, 0, none⟩ = some vo := fun o => cell_of_row _ _ 0 _ _ _ ((Below.heap_alloc _ _ _ (Array.getElem?_eq_some_iff.1 hv2.out).1).trans hv2.out)
           have hr2 := Lib.hid (ownsRow_low HRO.out hb2)
           have hk2 := Lib.hid (KH.of_below (bo := bo) (by exact hsz1) hb2))
        | (refine step_app T_hint (by exact hr2.out.alloc _) (by exact heap_alloc_new _ _) rfl rfl rfl rfl rfl (by decide) (by simp [Value.oneCell']) (by omega) (by omega) (by simp; omega) ?_
           intro g' cap' w3 hown3 hgrow hat3 hlt3
           have hfin := Lib.hid (out_app hnb hv2.out hr2.out (h := (p, z)) hown3 hgrow hs2)
           have c3 := cell_of_row _ _ 0 _ _ _ (grown_keep hgrow hv2.out (out_ne hv2.out hr2.out))
           have f3 := frozen_of_row _ _ 0 _ _ (grown_keep hgrow hv2.out (out_ne hv2.out hr2.out)))))
      all_goals
        clear c3 f3 cv2 cv2a cvo
        have HKW := Lib.hid (show KH n0 bo w1 _ from ((KH.of_below hsz1 (below_drew1 w1)).trans hk2.out).trans hfin.out.2)
        have HRW := Lib.hid (HKW.out.ranges (by omega) (by omega) HR1.out)
        go_roundw
        case rel =>
          refine ⟨_, _, _, _, _, _, _, _, _, _, _, _, ?_, rfl⟩
          refine ⟨_, cnt1, new ++ [z], HRW.out, by omega, ?_, ?_, fun c => ?_, HK1.out.trans HKW.out⟩
          · have hml : acc1 ++ [(p, z)] = acc ++ (new ++ [z]).map fun c => (p, c) := by rw [← hacc1]; simp
            rw [← hml]; exact hfin.out.1
          · exact List.nodup_append.2 ⟨hnd, by simp, by rintro a ha b hb rfl; obtain rfl := List.mem_singleton.1 hb; exact hznew ha⟩
          · by_cases e : c = z
            · subst e
              simp [hhas, Lit.sameKey]
            · have ez : (c == z) = false := by simpa using e
              rw [List.mem_append, HM.out c]
              simp [Lit.sameKey, ez, e]
        case measure => rw [HRW.out.left_eq, hrg.left_eq]; exact hlt

theorem all_from (n0 bo bf t B : Nat) (hn nn : Int) (nd : Path → Nd) (Ns : List Path) (Hs : List (Path × Str)) (hti : Tight Ns Hs) (hH : Hs.length < 1000000) (hN : ∀ q ∈ Ns, q.length < 1000000) (hJ : ∀ h ∈ Hs, h.1 ≠ [] ∧ (joinP h.1).length ≤ 1000000) :
    ∀ (n : Nat) (p : Path) (acc : List (Path × Str)) (w : World) (v : Value), (∀ q ∈ Ns, q.length ≤ p.length + n) → p ∈ Ns → AllE n0 bo bf t B hn nn nd Ns Hs w → OutAt n0 bo w acc → Acc Hs p acc → PathAt bo w v p →
    Calls Tryz.prog 75 #[.pointer (some ⟨(nd p).b, 0, none⟩), v, .pointer (some ⟨bo, 0, none⟩), .pointer (some ⟨bf, 0, none⟩)] w (AllG n0 bo Hs p acc w) := by
  intro n
  induction n with
  | zero =>
    intro p acc w v hle hp hE hO hA hP
    have IH : ∀ z acc w v, p ++ [z] ∈ Ns → AllE n0 bo bf t B hn nn nd Ns Hs w → OutAt n0 bo w acc → Acc Hs (p ++ [z]) acc → PathAt bo w v (p ++ [z]) → Calls Tryz.prog 75 #[.pointer (some ⟨(nd (p ++ [z])).b, 0, none⟩), v, .pointer (some ⟨bo, 0, none⟩), .pointer (some ⟨bf, 0, none⟩)] w (AllG n0 bo Hs (p ++ [z]) acc w) := by
      intro z _ _ _ hz
      have h1 := hle _ hz
      rw [List.length_append, List.length_singleton] at h1
      omega
    cases hcb : (nd p).cb with
    | none => cases hkb : (nd p).kb with
      | none => exact all_leaf_00 n0 bo bf t B hn nn nd Ns Hs hti hH hN hJ p acc w v hp hE hO hA hP hcb hkb
      | some kbk => exact all_leaf_01 n0 bo bf t B hn nn nd Ns Hs hti hH hN hJ p acc w v hp hE hO hA hP hcb kbk hkb IH
    | some cbk => cases hkb : (nd p).kb with
      | none => exact all_leaf_10 n0 bo bf t B hn nn nd Ns Hs hti hH hN hJ p acc w v hp hE hO hA hP cbk hcb hkb
      | some kbk => exact all_leaf_11 n0 bo bf t B hn nn nd Ns Hs hti hH hN hJ p acc w v hp hE hO hA hP cbk hcb kbk hkb IH
  | succ n ih =>
    intro p acc w v hle hp hE hO hA hP
    have IH : ∀ z acc w v, p ++ [z] ∈ Ns → AllE n0 bo bf t B hn nn nd Ns Hs w → OutAt n0 bo w acc → Acc Hs (p ++ [z]) acc → PathAt bo w v (p ++ [z]) → Calls Tryz.prog 75 #[.pointer (some ⟨(nd (p ++ [z])).b, 0, none⟩), v, .pointer (some ⟨bo, 0, none⟩), .pointer (some ⟨bf, 0, none⟩)] w (AllG n0 bo Hs (p ++ [z]) acc w) := by
      intro z acc w v hz
      exact ih (p ++ [z]) acc w v (fun q hq => by have := hle q hq; simp; omega) hz
    cases hcb : (nd p).cb with
    | none => cases hkb : (nd p).kb with
      | none => exact all_leaf_00 n0 bo bf t B hn nn nd Ns Hs hti hH hN hJ p acc w v hp hE hO hA hP hcb hkb
      | some kbk => exact all_leaf_01 n0 bo bf t B hn nn nd Ns Hs hti hH hN hJ p acc w v hp hE hO hA hP hcb kbk hkb IH
    | some cbk => cases hkb : (nd p).kb with
      | none => exact all_leaf_10 n0 bo bf t B hn nn nd Ns Hs hti hH hN hJ p acc w v hp hE hO hA hP cbk hcb hkb
      | some kbk => exact all_leaf_11 n0 bo bf t B hn nn nd Ns Hs hti hH hN hJ p acc w v hp hE hO hA hP cbk hcb kbk hkb IH
end
end Go.Proofs.YthfdcphecggjeaaGreatDoor
