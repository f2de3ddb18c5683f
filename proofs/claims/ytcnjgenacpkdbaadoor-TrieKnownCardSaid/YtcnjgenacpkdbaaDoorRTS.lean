/- The trie under way: the steps of Add and Remove in memory. -/
import Derived.Test.YtcnjgenacpkdbaaDoorRMem
namespace Go.Proofs.YtcnjgenacpkdbaaDoor
open Go Go.RowKit Go.Maps

/-- the trie, behind a start whose blocks F0 (and new ones) alone were turned -/
structure TS (w0 : World) (F0 : List Nat) (w : World) (t B : Nat) (hn nn : Int) (nd : Path → Nd) (Ns : List Path) (Hs : List (Path × Str)) : Prop where
  rep : MemRep w t B hn nn nd Ns Hs
  mod : Mod F0 w0 w
  ft : ∀ p ∈ Ns, ∀ k ∈ (nd p).blocks, k ∈ F0 ∨ w0.heap.size ≤ k
variable {w0 w : World} {F0 : List Nat} {t B : Nat} {hn nn : Int} {nd : Path → Nd} {Ns : List Path} {Hs : List (Path × Str)}
theorem TS.below {w' : World} (h : TS w0 F0 w t B hn nn nd Ns Hs) (hk : Below w.heap.size w w') : TS w0 F0 w' t B hn nn nd Ns Hs :=
  ⟨h.rep.keep (fun p hp k hk' => hk.block k (h.rep.lt p hp k hk')), h.mod.next hk, h.ft⟩
theorem TS.drewN (h : TS w0 F0 w t B hn nn nd Ns Hs) (n : Nat) : TS w0 F0 (w.drewN n) t B hn nn nd Ns Hs := h.below (below_drewN (Below.refl _ _) n)
theorem TS.modS {w' : World} {S : List Nat} (h : TS w0 F0 w t B hn nn nd Ns Hs) (hm : Mod S w w') (hS : ∀ k ∈ S, ∃ p ∈ Ns, k ∈ (nd p).blocks) : Mod F0 w0 w' :=
  h.mod.trans hm fun k hk => by obtain ⟨p, hp, hkp⟩ := hS k hk; exact h.ft p hp k hkp
theorem klS (x : Str) : WideAt.IsKeyLit (.string x) := trivial
theorem blocks_b (n : Nd) : n.b ∈ n.blocks := by simp [Nd.blocks]
theorem blocks_kb {n : Nd} {m : Nat} (h : n.kb = some m) : m ∈ n.blocks := by simp [Nd.blocks, h]
theorem blocks_cb {n : Nd} {m : Nat} (h : n.cb = some m) : m ∈ n.blocks := by simp [Nd.blocks, h]

/-- one node's own blocks are turned -/
theorem TS.turn {w' : World} {B' : Nat} {hn' nn' : Int} {Hs' : List (Path × Str)} (h : TS w0 F0 w t B hn nn nd Ns Hs) {p : Path} (hp : p ∈ Ns) (n' : Nd) (hb : n'.b = (nd p).b) (hB : B ≤ B')
    (hm : Mod (nd p).blocks w w') (hcell : w'.heap[(nd p).b]? = some (.cells (n'.cells p hn' nn') (Nd.ty p) (0, 0))) (hk : KidsAt w' B' n'.kb (kidOf nd Ns p)) (hc : ClAt w' B' n'.cb (fun c => decide ((p, c) ∈ Hs')))
    (hnew : ∀ k ∈ n'.blocks, k ∈ (nd p).blocks ∨ w.heap.size ≤ k) (hdis : n'.blocks.Nodup) (hroot : p ≠ [] → hn' = hn ∧ nn' = nn) (hHs : ∀ q c, q ≠ p → ((q, c) ∈ Hs' ↔ (q, c) ∈ Hs)) :
    TS w0 F0 w' t B' hn' nn' (updN nd p n') Ns Hs' := by
  refine ⟨h.rep.turn hp n' hb hB hm hcell hk hc hnew hdis hroot hHs, h.modS hm (fun k hk => ⟨p, hp, hk⟩), fun q hq k hk => ?_⟩
  by_cases e : q = p
  · subst e
    rw [updN_same] at hk
    rcases hnew k hk with h1 | h1
    · exact h.ft q hq k h1
    · right; have := h.mod.size; omega
  · rw [updN_other e] at hk; exact h.ft q hq k hk
theorem cells_set0 {n : Nd} {p : Path} {v : Option Nat} : (n.cells p hn nn).setIfInBounds 0 (.map v) = ({ n with kb := v } : Nd).cells p hn nn := by
  unfold Nd.cells; split <;> rfl
theorem cells_set1 {n : Nd} {p : Path} {v : Option Nat} : (n.cells p hn nn).setIfInBounds 1 (.map v) = ({ n with cb := v } : Nd).cells p hn nn := by
  unfold Nd.cells; split <;> rfl
theorem mod_new (w : World) (o : Obj) (b : Nat) (off : Nat) (v : Value) (S : List Nat) (hb : b ∈ S) : Mod S w ((w.alloc o).setCell ⟨b, off, none⟩ v) := ((Mod.refl S w).alloc o).setCell (.inl hb) v

/-- 'n.kids = map[string]*node{}' -/
theorem TS.newKids (h : TS w0 F0 w t B hn nn nd Ns Hs) {p : Path} (hp : p ∈ Ns) (hkb : (nd p).kb = none) :
    TS w0 F0 ((w.alloc (.map #[] 0)).setCell ⟨(nd p).b, 0, none⟩ (.map (some w.heap.size))) t B hn nn (updN nd p { nd p with kb := some w.heap.size }) Ns Hs := by
  have hlt := h.rep.lt p hp
  have hbl := hlt _ (blocks_b _)
  have hc0 : (w.alloc (.map #[] 0)).heap[(nd p).b]? = some (.cells ((nd p).cells p hn nn) (Nd.ty p) (0, 0)) := (Below.heap_alloc _ _ _ hbl).trans (h.rep.cell p hp)
  have hd := h.rep.dis p hp
  have hkn : ∀ x, kidOf nd Ns p x = none := by have := h.rep.kids p hp; rw [hkb] at this; exact this
  refine h.turn hp { nd p with kb := some w.heap.size } rfl (Nat.le_refl _) (mod_new w _ _ _ _ _ (blocks_b _)) ?_ ?_ ?_ ?_ ?_ (fun _ => ⟨rfl, rfl⟩) (fun _ _ _ => Iff.rfl)
  · rw [heap_setCell_same _ _ 0 _ _ _ hc0, cells_set0]
  · refine ⟨.map [], ?_, Nat.zero_le _, fun x => ⟨by rw [hkn]; rfl, fun b hb => by rw [hkn] at hb; cases hb⟩⟩
    exact (World.ownsMap_made w _ _ _).setCell (a := ⟨(nd p).b, 0, none⟩) (by show w.heap.size ≠ (nd p).b; omega) _
  · refine (h.rep.cls p hp).of (fun m hm => ?_) (Nat.le_refl _) (fun _ => rfl)
    have hml := hlt m (blocks_cb hm)
    rw [Below.heap_setCell _ _ _ _ ?_, Below.heap_alloc _ _ _ hml]
    show m ≠ (nd p).b
    rintro rfl
    rw [Nd.blocks, hm] at hd
    simp at hd
  · intro k hk
    simp only [Nd.blocks, Option.toList_some, List.cons_append, List.nil_append, List.mem_cons] at hk ⊢
    rcases hk with h1 | h1 | h1
    · exact .inl (.inl h1)
    · exact .inr (by omega)
    · exact .inl (.inr (List.mem_append.2 (.inr h1)))
  · rw [Nd.blocks, hkb] at hd
    simp only [Nd.blocks, Option.toList_some, Option.toList_none, List.nil_append, List.cons_append, List.nodup_cons, List.mem_cons, not_or] at hd ⊢
    refine ⟨⟨by omega, hd.1⟩, fun hk => ?_, hd.2⟩
    have := hlt w.heap.size (by simp only [Nd.blocks, List.mem_cons, List.mem_append]; exact .inr (.inr hk))
    omega
/-- 'n.clients = map[string]mark{}' -/
theorem TS.newCl (h : TS w0 F0 w t B hn nn nd Ns Hs) {p : Path} (hp : p ∈ Ns) (hcb : (nd p).cb = none) :
    TS w0 F0 ((w.alloc (.map #[] 0)).setCell ⟨(nd p).b, 1, none⟩ (.map (some w.heap.size))) t B hn nn (updN nd p { nd p with cb := some w.heap.size }) Ns Hs := by
  have hlt := h.rep.lt p hp
  have hbl := hlt _ (blocks_b _)
  have hc0 : (w.alloc (.map #[] 0)).heap[(nd p).b]? = some (.cells ((nd p).cells p hn nn) (Nd.ty p) (0, 0)) := (Below.heap_alloc _ _ _ hbl).trans (h.rep.cell p hp)
  have hd := h.rep.dis p hp
  have hkn : ∀ c, decide ((p, c) ∈ Hs) = false := by have := h.rep.cls p hp; rw [hcb] at this; exact this
  refine h.turn hp { nd p with cb := some w.heap.size } rfl (Nat.le_refl _) (mod_new w _ _ _ _ _ (blocks_b _)) ?_ ?_ ?_ ?_ ?_ (fun _ => ⟨rfl, rfl⟩) (fun _ _ _ => Iff.rfl)
  · rw [heap_setCell_same _ _ 1 _ _ _ hc0, cells_set1]
  · refine (h.rep.kids p hp).of (fun m hm => ?_) (Nat.le_refl _) (fun _ => rfl)
    have hml := hlt m (blocks_kb hm)
    rw [Below.heap_setCell _ _ _ _ ?_, Below.heap_alloc _ _ _ hml]
    show m ≠ (nd p).b
    rintro rfl
    rw [Nd.blocks, hm] at hd
    simp at hd
  · refine ⟨.map [], ?_, Nat.zero_le _, fun x => (hkn x).symm⟩
    exact (World.ownsMap_made w _ _ _).setCell (a := ⟨(nd p).b, 1, none⟩) (by show w.heap.size ≠ (nd p).b; omega) _
  · intro k hk
    simp only [Nd.blocks, Option.toList_some, List.mem_cons, List.mem_append, List.not_mem_nil, or_false] at hk ⊢
    rcases hk with h1 | h1 | h1
    · exact .inl (.inl h1)
    · exact .inl (.inr (.inl h1))
    · exact .inr (by omega)
  · rw [Nd.blocks, hcb] at hd
    simp only [Nd.blocks, Option.toList_some, Option.toList_none, List.append_nil, List.nodup_cons, List.mem_append, List.mem_singleton, not_or, List.nodup_append] at hd ⊢
    refine ⟨⟨hd.1, by omega⟩, hd.2, by simp, fun a ha b hb e => ?_⟩
    have := hlt a (by simp only [Nd.blocks, List.mem_cons, List.mem_append]; exact .inr (.inl ha))
    omega
/-- 'n.kids[x] = &node{}' -/
theorem TS.addKid (h : TS w0 F0 w t B hn nn nd Ns Hs) {p : Path} (hp : p ∈ Ns) {x : Str} (hx : p ++ [x] ∉ Ns) (hx2 : ∀ y, p ++ [x] ++ [y] ∉ Ns) (hHs : ∀ c, (p ++ [x], c) ∉ Hs)
    {m n : Nat} (hkb : (nd p).kb = some m) {D : DataW Unit} (hD1 : w.ownsMap Tryd.prog 9 ptrElem m (Maps.size D) D) (hD2 : Maps.size D ≤ B) (hD3 : ∀ x, Maps.has D (.string x) = (kidOf nd Ns p x).isSome ∧ ∀ b, kidOf nd Ns p x = some b → ∀ z, D.atKey (.string x) z = ptrDat b)
    {w2 : World} (hown2 : w2.ownsMap Tryd.prog 9 ptrElem m n (D.put (.string x) (ptrDat w.heap.size))) (hg : (w.alloc (.cells #[.map none, .map none] 38)).grownBy w2 (some m)) :
    TS w0 F0 w2 t (B + 1) hn nn (updN nd (p ++ [x]) ⟨w.heap.size, none, none⟩) ((p ++ [x]) :: Ns) Hs := by
  have hT := hD1.tidy kS
  have hm : Mod [m] w w2 := ((Mod.refl [m] w).alloc _).grown hg (fun k hk => by cases hk; left; simp)
  have hml := h.rep.lt p hp m (blocks_kb hkb)
  refine ⟨h.rep.addKid hp hx hx2 hHs hkb (Nat.le_succ _) hm (Nat.le_refl _) ?_ ?_, h.modS hm (fun k hk => ⟨p, hp, by obtain rfl := List.mem_singleton.1 hk; exact blocks_kb hkb⟩), fun q hq k hk => ?_⟩
  · rw [hg.block _ (by simp) (by simp; omega)]; exact heap_alloc_new w _
  · refine ⟨_, owns_tightR hown2, ?_, fun y => ?_⟩
    · rw [size_put hT]
      split <;> omega
    · by_cases e : y = x
      · subst e
        refine ⟨by rw [has_put_same hT.isMap (klS _)]; simp, fun b hb z => ?_⟩
        simp only [if_true, Option.some.injEq] at hb
        rw [atKey_put_same hT.isMap (klS _), hb]
      · refine ⟨by rw [has_put_other (by simpa using e)]; simp only [if_neg e]; exact (hD3 y).1, fun b hb z => ?_⟩
        simp only [if_neg e] at hb
        rw [atKey_put_other (by simpa using e)]
        exact (hD3 y).2 b hb z
  · rcases List.mem_cons.1 hq with rfl | hq1
    · rw [updN_same] at hk
      obtain rfl := List.mem_singleton.1 (show k ∈ [w.heap.size] from hk)
      exact .inr h.mod.size
    · rw [updN_other (show q ≠ p ++ [x] from fun e => hx (by rw [← e]; exact hq1))] at hk
      exact h.ft q hq1 k hk
/-- 'n.clients[client] = mark{}' -/
theorem TS.addCl (h : TS w0 F0 w t B hn nn nd Ns Hs) {p : Path} (hp : p ∈ Ns) {c : Str} {m n : Nat} (hcb : (nd p).cb = some m) {D : DataW Unit} (hD1 : w.ownsMap Tryd.prog 9 unitElem m (Maps.size D) D) (hD2 : Maps.size D ≤ B) (hD3 : ∀ x, Maps.has D (.string x) = decide ((p, x) ∈ Hs))
    {w2 : World} (hown2 : w2.ownsMap Tryd.prog 9 unitElem m n (D.put (.string c) (.agg []))) (hg : w.grownBy w2 (some m)) :
    TS w0 F0 w2 t (B + 1) hn nn nd Ns ((p, c) :: Hs) := by
  have hT := hD1.tidy kS
  have hm : Mod [m] w w2 := (Mod.refl [m] w).grown hg (fun k hk => by cases hk; left; simp)
  have hd := h.rep.dis p hp
  have hbne : (nd p).b ≠ m := by
    intro e
    rw [Nd.blocks, hcb, e] at hd
    simp at hd
  have e := h.turn (w' := w2) (B' := B + 1) (hn' := hn) (nn' := nn) (Hs' := (p, c) :: Hs) hp (nd p) rfl (Nat.le_succ _) (hm.mono (fun k hk => by obtain rfl := List.mem_singleton.1 hk; exact blocks_cb hcb)) ?_ ?_ ?_ (fun k hk => .inl hk) hd (fun _ => ⟨rfl, rfl⟩) (fun q d hq => by simp [hq])
  · have : updN nd p (nd p) = nd := by
      funext q
      by_cases e : q = p
      · rw [e, updN_same]
      · rw [updN_other e]
    rw [this] at e
    exact e
  · rw [hm.block _ (h.rep.lt p hp _ (blocks_b _)) (by simpa using hbne)]; exact h.rep.cell p hp
  · refine (h.rep.kids p hp).of (fun m' hm' => hm.block _ (h.rep.lt p hp _ (blocks_kb hm')) ?_) (Nat.le_succ _) (fun _ => rfl)
    simp only [List.mem_singleton]
    rintro rfl
    rw [Nd.blocks, hcb, hm'] at hd
    simp at hd
  · rw [hcb]
    refine ⟨_, owns_tightR hown2, ?_, fun y => ?_⟩
    · rw [size_put hT]
      split <;> omega
    · by_cases e : y = c
      · subst e; rw [has_put_same hT.isMap (klS _)]; simp
      · rw [has_put_other (by simpa using e), hD3]
        simp [e]
/-- 'delete(n.clients, client)' -/
theorem TS.delCl (h : TS w0 F0 w t B hn nn nd Ns Hs) {p : Path} (hp : p ∈ Ns) {c : Str} {m n : Nat} (hcb : (nd p).cb = some m) {D : DataW Unit} (hD1 : w.ownsMap Tryd.prog 9 unitElem m (Maps.size D) D) (hD2 : Maps.size D ≤ B) (hD3 : ∀ x, Maps.has D (.string x) = decide ((p, x) ∈ Hs))
    {w2 : World} (hown2 : w2.ownsMap Tryd.prog 9 unitElem m n (D.del (.string c))) (hg : w.grownBy w2 (some m)) (hnd : Hs.Nodup) :
    TS w0 F0 w2 t B hn nn nd Ns (Hs.erase (p, c)) := by
  have hT := hD1.tidy kS
  have hm : Mod [m] w w2 := (Mod.refl [m] w).grown hg (fun k hk => by cases hk; left; simp)
  have hd := h.rep.dis p hp
  have hbne : (nd p).b ≠ m := by
    intro e
    rw [Nd.blocks, hcb, e] at hd
    simp at hd
  have e := h.turn (w' := w2) (B' := B) (hn' := hn) (nn' := nn) (Hs' := Hs.erase (p, c)) hp (nd p) rfl (Nat.le_refl _) (hm.mono (fun k hk => by obtain rfl := List.mem_singleton.1 hk; exact blocks_cb hcb)) ?_ ?_ ?_ (fun k hk => .inl hk) hd (fun _ => ⟨rfl, rfl⟩) (fun q d hq => by rw [hnd.mem_erase_iff]; simp [hq])
  · have : updN nd p (nd p) = nd := by
      funext q
      by_cases e : q = p
      · rw [e, updN_same]
      · rw [updN_other e]
    rw [this] at e
    exact e
  · rw [hm.block _ (h.rep.lt p hp _ (blocks_b _)) (by simpa using hbne)]; exact h.rep.cell p hp
  · refine (h.rep.kids p hp).of (fun m' hm' => hm.block _ (h.rep.lt p hp _ (blocks_kb hm')) ?_) (Nat.le_refl _) (fun _ => rfl)
    simp only [List.mem_singleton]
    rintro rfl
    rw [Nd.blocks, hcb, hm'] at hd
    simp at hd
  · rw [hcb]
    refine ⟨_, owns_tightR hown2, ?_, fun y => ?_⟩
    · have := size_del (k := .string c) hT
      omega
    · by_cases e : y = c
      · subst e; rw [has_del_same]; simp [hnd.mem_erase_iff]
      · rw [has_del_other (by simpa using e), hD3, decide_eq_decide, hnd.mem_erase_iff]
        simp [e]
/-- 'delete(n.kids, x)' -/
theorem TS.dropKid (h : TS w0 F0 w t B hn nn nd Ns Hs) {p : Path} (hp : p ∈ Ns) {x : Str} {m n : Nat} (hkb : (nd p).kb = some m) {D : DataW Unit} (hD1 : w.ownsMap Tryd.prog 9 ptrElem m (Maps.size D) D) (hD2 : Maps.size D ≤ B)
    (hD3 : ∀ x, Maps.has D (.string x) = (kidOf nd Ns p x).isSome ∧ ∀ b, kidOf nd Ns p x = some b → ∀ z, D.atKey (.string x) z = ptrDat b)
    {w2 : World} (hown2 : w2.ownsMap Tryd.prog 9 ptrElem m n (D.del (.string x))) (hg : w.grownBy w2 (some m)) :
    TS w0 F0 w2 t B hn nn nd (Ns.filter fun q => q != p ++ [x]) Hs := by
  have hT := hD1.tidy kS
  have hm : Mod [m] w w2 := (Mod.refl [m] w).grown hg (fun k hk => by cases hk; left; simp)
  refine ⟨h.rep.dropKid hp hkb hm ?_, h.modS hm (fun k hk => ⟨p, hp, by obtain rfl := List.mem_singleton.1 hk; exact blocks_kb hkb⟩), fun q hq k hk => h.ft q (List.mem_filter.1 hq).1 k hk⟩
  refine ⟨_, owns_tightR hown2, ?_, fun y => ?_⟩
  · have := size_del (k := .string x) hT
    omega
  · by_cases e : y = x
    · subst e
      refine ⟨by rw [has_del_same]; simp, fun b hb => by simp at hb⟩
    · refine ⟨by rw [has_del_other (by simpa using e)]; simp only [if_neg e]; exact (hD3 y).1, fun b hb z => ?_⟩
      simp only [if_neg e] at hb
      rw [atKey_del_other (by simpa using e)]
      exact (hD3 y).2 b hb z
/-- 't.hints', 't.nodes' are set -/
theorem TS.count (h : TS w0 F0 w t B hn nn nd Ns Hs) (o : Nat) (v : Int) (ho : o = 2 ∨ o = 3) :
    TS w0 F0 (w.setCell ⟨t, o, none⟩ (.int .i64 v)) t B (if o = 2 then v else hn) (if o = 3 then v else nn) nd Ns Hs := by
  have h0 := h.rep.has0
  have hd := h.rep.dis [] h0
  have hr := h.rep.root
  have hm : Mod [t] w (w.setCell ⟨t, o, none⟩ (.int .i64 v)) := (Mod.refl [t] w).setCell (.inl (by simp)) _
  have hc := h.rep.cell [] h0
  rw [hr] at hc
  have e := h.turn (w' := w.setCell ⟨t, o, none⟩ (.int .i64 v)) (B' := B) (hn' := if o = 2 then v else hn) (nn' := if o = 3 then v else nn) (Hs' := Hs) h0 (nd []) rfl (Nat.le_refl _) (hm.mono (fun k hk => by obtain rfl := List.mem_singleton.1 hk; rw [← hr]; exact blocks_b _)) ?_ ?_ ?_ (fun k hk => .inl hk) hd (fun h => absurd rfl h) (fun _ _ _ => Iff.rfl)
  · have : updN nd [] (nd []) = nd := by
      funext q
      by_cases e : q = []
      · rw [e, updN_same]
      · rw [updN_other e]
    rw [this] at e
    exact e
  · rw [hr, heap_setCell_same w t o _ _ _ hc]
    rcases ho with rfl | rfl <;> rfl
  · refine (h.rep.kids [] h0).of (fun m' hm' => ?_) (Nat.le_refl _) (fun _ => rfl)
    rw [Below.heap_setCell]
    show m' ≠ t
    rintro rfl
    rw [Nd.blocks, hr, hm'] at hd
    simp at hd
  · refine (h.rep.cls [] h0).of (fun m' hm' => ?_) (Nat.le_refl _) (fun _ => rfl)
    rw [Below.heap_setCell]
    show m' ≠ t
    rintro rfl
    rw [Nd.blocks, hr, hm'] at hd
    simp at hd
end Go.Proofs.YtcnjgenacpkdbaaDoor
