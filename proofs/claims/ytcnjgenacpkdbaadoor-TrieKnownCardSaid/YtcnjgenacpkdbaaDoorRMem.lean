/- The trie, how it lies in memory: each node by its path. -/
import Derived.Test.YtcnjgenacpkdbaaDoorRPlain
import Derived.Test.YtcnjgenacpkdbaaDoorMem3
import Derived.Test.YtcnjgenacpkdbaaDoorKTopic3
import Derived.Maps.OwnSet
import Derived.Maps.Ext
import Derived.Maps.RangeWalk
import Derived.Sort.KeysCollected
namespace Go.Proofs.YtcnjgenacpkdbaaDoor
open Go Go.RowKit Go.Maps

theorem kS : Keyed Tryd.prog 9 := string_keyed Tryd.underlying9
theorem zeroPtr (w : World) : (zeroValue 35).run Tryd.prog w = .ok (.pointer none) w := by kernel_rfl
theorem zeroMark (w : World) : (zeroValue 41).run Tryd.prog w = .ok (.agg #[]) w := by kernel_rfl
theorem owns_tightR {P : Program} {k : TypeId} {R : Value → Option (DataW Unit × List MemPlace)} {w : World} {b n : Nat} {D : DataW Unit} (h : w.ownsMap P k R b n D) : w.ownsMap P k R b (Maps.size D) D := by
  obtain ⟨es, clock, hb, F, hs, rfl⟩ := h
  exact ⟨es, clock, hb, F, by simp [Maps.size, length_sorted], rfl⟩
theorem owns_block {P : Program} {k : TypeId} {R : Value → Option (DataW Unit × List MemPlace)} {w w' : World} {b n : Nat} {D : DataW Unit} (h : w.ownsMap P k R b n D) (hb : w'.heap[b]? = w.heap[b]?) : w'.ownsMap P k R b n D := by
  obtain ⟨es, clock, h1, r⟩ := h
  exact ⟨es, clock, hb.trans h1, r⟩

def ptrDat (b : Nat) : DataW Unit := .lit (.int .i64 b)
def nilDat : DataW Unit := .lit (.bool false)
def ptrElem : Value → Option (DataW Unit × List MemPlace)
  | .pointer (some ⟨b, 0, none⟩) => some (ptrDat b, [])
  | .pointer none => some (nilDat, [])
  | _ => none
def ptrV : Option Nat → Value
  | none => .pointer none
  | some b => .pointer (some ⟨b, 0, none⟩)
theorem ptrElem_inv {v : Value} {b : Nat} {ps : List MemPlace} (h : ptrElem v = some (ptrDat b, ps)) : v = .pointer (some ⟨b, 0, none⟩) := by
  unfold ptrElem at h
  split at h
  · simp only [ptrDat, Option.some.injEq, Prod.mk.injEq, DataW.lit.injEq, Lit.int.injEq, true_and] at h
    rename_i b'
    have : b' = b := by have := h.1; omega
    rw [this]
  · simp [ptrDat, nilDat] at h
  · cases h
theorem ptrElem_nil {v : Value} {ps : List MemPlace} (h : ptrElem v = some (nilDat, ps)) : v = .pointer none := by
  unfold ptrElem at h
  split at h
  · simp [ptrDat, nilDat] at h
  · rfl
  · cases h

/-- a map of kids, or none: f says which block a level's kid has -/
def KidsAt (w : World) (B : Nat) (kb : Option Nat) (f : Str → Option Nat) : Prop :=
  match kb with
  | none => ∀ x, f x = none
  | some m => ∃ D, w.ownsMap Tryd.prog 9 ptrElem m (Maps.size D) D ∧ Maps.size D ≤ B ∧ ∀ x, Maps.has D (.string x) = (f x).isSome ∧ ∀ b, f x = some b → ∀ z, D.atKey (.string x) z = ptrDat b
/-- a map of clients, or none -/
def ClAt (w : World) (B : Nat) (cb : Option Nat) (g : Str → Bool) : Prop :=
  match cb with
  | none => ∀ c, g c = false
  | some m => ∃ D : DataW Unit, w.ownsMap Tryd.prog 9 unitElem m (Maps.size D) D ∧ Maps.size D ≤ B ∧ ∀ c, Maps.has D (.string c) = g c
theorem KidsAt.of {w w' : World} {B B' : Nat} {kb : Option Nat} {f f' : Str → Option Nat} (h : KidsAt w B kb f) (hb : ∀ m, kb = some m → w'.heap[m]? = w.heap[m]?) (hB : B ≤ B') (hf : ∀ x, f' x = f x) : KidsAt w' B' kb f' := by
  obtain rfl : f' = f := funext hf
  cases kb with
  | none => exact h
  | some m =>
    obtain ⟨D, h1, h2, h3⟩ := h
    exact ⟨D, owns_block h1 (hb m rfl), Nat.le_trans h2 hB, h3⟩
theorem ClAt.of {w w' : World} {B B' : Nat} {cb : Option Nat} {g g' : Str → Bool} (h : ClAt w B cb g) (hb : ∀ m, cb = some m → w'.heap[m]? = w.heap[m]?) (hB : B ≤ B') (hg : ∀ x, g' x = g x) : ClAt w' B' cb g' := by
  obtain rfl : g' = g := funext hg
  cases cb with
  | none => exact h
  | some m =>
    obtain ⟨D, h1, h2, h3⟩ := h
    exact ⟨D, owns_block h1 (hb m rfl), Nat.le_trans h2 hB, h3⟩
theorem skey {s : ByteArray} (hs : s.size ≤ maxLen) : keyOf Tryd.prog 9 (.string s) = some (.string s.data.toList) := WideMaps.keyOf_string_mk Tryd.underlying9 hs
theorem KidsAt.look {w : World} {B : Nat} {kb : Option Nat} {f : Str → Option Nat} (h : KidsAt w B kb f) {s : ByteArray} (hs : s.size ≤ maxLen) :
    (Instr.lookup 36 (.map kb) (.string s) false).run Tryd.prog w = .ok (ptrV (f s.data.toList)) w := by
  cases kb with
  | none =>
    rw [Maps.look_nil false kS Tryd.underlying36 (zeroPtr w) (skey hs), show f s.data.toList = none from h _]
    rfl
  | some m =>
    obtain ⟨D, h1, -, h3⟩ := h
    obtain ⟨v, ps, hrun, hv⟩ := h1.lookup kS Tryd.underlying36 (zeroPtr w) (zd := nilDat) (zp := []) rfl (skey hs)
    obtain ⟨h4, h5⟩ := h3 s.data.toList
    rw [hrun]
    cases hf : f s.data.toList with
    | none =>
      rw [hf] at h4
      rw [atKey_of_not_has h4] at hv
      rw [ptrElem_nil hv]; rfl
    | some b =>
      rw [h5 b hf] at hv
      rw [ptrElem_inv hv]; rfl
theorem ClAt.look {w : World} {B : Nat} {cb : Option Nat} {g : Str → Bool} (h : ClAt w B cb g) {s : ByteArray} (hs : s.size ≤ maxLen) :
    (Instr.lookup 33 (.map cb) (.string s) true).run Tryd.prog w = .ok (.tuple #[.agg #[], .bool (g s.data.toList)]) w := by
  cases cb with
  | none =>
    rw [Maps.look_nil true kS Tryd.underlying33 (zeroMark w) (skey hs), show g s.data.toList = false from h _]
    rfl
  | some m =>
    obtain ⟨D, h1, -, h3⟩ := h
    obtain ⟨v, ps, hrun, hv⟩ := h1.look_ok kS Tryd.underlying33 (zeroMark w) (zd := .agg []) (zp := []) unitElem_mk (skey hs)
    obtain ⟨rfl, -⟩ := unitElem_inv hv
    rw [hrun, h3]
theorem size_zero {D : DataW Unit} (hD : IsMap D) (h : Maps.size D = 0) : ∀ k, Maps.has D k = false := by
  obtain ⟨es, rfl⟩ := hD
  intro k
  have : es = [] := by cases es with
    | nil => rfl
    | cons a r => simp [Maps.size] at h
  subst this; rfl
theorem KidsAt.len {w : World} {B : Nat} {kb : Option Nat} {f : Str → Option Nat} (h : KidsAt w B kb f) : ∃ n : Nat, n ≤ B ∧ (n = 0 ↔ ∀ x, f x = none) ∧ ∀ ty W, (∀ m, kb = some m → W.heap[m]? = w.heap[m]?) → (Builtin.len_ #[36] ty #[.map kb]).run Tryd.prog W = .ok (.int .i64 n) W := by
  cases kb with
  | none => exact ⟨0, Nat.zero_le _, ⟨fun _ => h, fun _ => rfl⟩, fun ty W _ => Maps.len_nil Tryd.underlying36 ty⟩
  | some m =>
    obtain ⟨D, h1, h2, h3⟩ := h
    obtain ⟨es, hD, -, hk⟩ := h1.entries kS
    refine ⟨Maps.size D, h2, ⟨fun h0 x => ?_, fun h0 => ?_⟩, fun ty W hW => (owns_block h1 (hW m rfl)).len Tryd.underlying36 ty⟩
    · have := size_zero h1.isMap h0 (.string x)
      rw [(h3 x).1] at this
      simpa using this
    · obtain ⟨es', hD', hko⟩ := h1.keysOf
      obtain rfl : es = es' := by rw [hD] at hD'; simpa using hD'
      subst hD
      cases es with
      | nil => rfl
      | cons a r =>
        obtain ⟨v, hv⟩ := hko a (by simp)
        obtain ⟨x, _, hx, _⟩ := Maps.keyOf_str Tryd.underlying9 hv
        have h4 := (h3 x).1
        rw [h0 x, Maps.has_eq] at h4
        simp [hx, Lit.sameKey] at h4
theorem ClAt.len {w : World} {B : Nat} {cb : Option Nat} {g : Str → Bool} (h : ClAt w B cb g) : ∃ n : Nat, n ≤ B ∧ (n = 0 ↔ ∀ x, g x = false) ∧ ∀ ty W, (∀ m, cb = some m → W.heap[m]? = w.heap[m]?) → (Builtin.len_ #[33] ty #[.map cb]).run Tryd.prog W = .ok (.int .i64 n) W := by
  cases cb with
  | none => exact ⟨0, Nat.zero_le _, ⟨fun _ => h, fun _ => rfl⟩, fun ty W _ => Maps.len_nil Tryd.underlying33 ty⟩
  | some m =>
    obtain ⟨D, h1, h2, h3⟩ := h
    obtain ⟨es, hD, -, hk⟩ := h1.entries kS
    refine ⟨Maps.size D, h2, ⟨fun h0 x => ?_, fun h0 => ?_⟩, fun ty W hW => (owns_block h1 (hW m rfl)).len Tryd.underlying33 ty⟩
    · have := size_zero h1.isMap h0 (.string x)
      rw [h3 x] at this
      exact this
    · obtain ⟨es', hD', hko⟩ := h1.keysOf
      obtain rfl : es = es' := by rw [hD] at hD'; simpa using hD'
      subst hD
      cases es with
      | nil => rfl
      | cons a r =>
        obtain ⟨v, hv⟩ := hko a (by simp)
        obtain ⟨x, _, hx, _⟩ := Maps.keyOf_str Tryd.underlying9 hv
        have h4 := h3 x
        rw [h0 x, Maps.has_eq] at h4
        simp [hx, Lit.sameKey] at h4

structure Nd where
  b : Nat
  kb : Option Nat
  cb : Option Nat
def Nd.blocks (n : Nd) : List Nat := n.b :: (n.kb.toList ++ n.cb.toList)
def Nd.cells (n : Nd) (p : Path) (hn nn : Int) : Array Value := if p = [] then #[.map n.kb, .map n.cb, .int .i64 hn, .int .i64 nn] else #[.map n.kb, .map n.cb]
def Nd.ty (p : Path) : TypeId := if p = [] then 43 else 38
def kidOf (nd : Path → Nd) (Ns : List Path) (p : Path) (x : Str) : Option Nat := if p ++ [x] ∈ Ns then some (nd (p ++ [x])).b else none
def updN (nd : Path → Nd) (p : Path) (n : Nd) : Path → Nd := fun q => if q = p then n else nd q
theorem updN_same {nd : Path → Nd} {p : Path} {n : Nd} : updN nd p n p = n := by simp [updN]
theorem updN_other {nd : Path → Nd} {p q : Path} {n : Nd} (h : q ≠ p) : updN nd p n q = nd q := by simp [updN, h]

structure MemRep (w : World) (t B : Nat) (hn nn : Int) (nd : Path → Nd) (Ns : List Path) (Hs : List (Path × Str)) : Prop where
  root : (nd []).b = t
  has0 : [] ∈ Ns
  cell : ∀ p ∈ Ns, w.heap[(nd p).b]? = some (.cells ((nd p).cells p hn nn) (Nd.ty p) (0, 0))
  kids : ∀ p ∈ Ns, KidsAt w B (nd p).kb (kidOf nd Ns p)
  cls : ∀ p ∈ Ns, ClAt w B (nd p).cb (fun c => decide ((p, c) ∈ Hs))
  inj : ∀ p ∈ Ns, ∀ q ∈ Ns, ∀ k ∈ (nd p).blocks, k ∈ (nd q).blocks → p = q
  dis : ∀ p ∈ Ns, (nd p).blocks.Nodup
theorem MemRep.lt {w : World} {t B : Nat} {hn nn : Int} {nd : Path → Nd} {Ns : List Path} {Hs : List (Path × Str)} (h : MemRep w t B hn nn nd Ns Hs) : ∀ p ∈ Ns, ∀ k ∈ (nd p).blocks, k < w.heap.size := by
  intro p hp k hk
  simp only [Nd.blocks, List.mem_cons, List.mem_append, Option.mem_toList] at hk
  rcases hk with rfl | hk | hk
  · exact (Array.getElem?_eq_some_iff.1 (h.cell p hp)).1
  · have := h.kids p hp
    rw [hk] at this
    obtain ⟨D, h1, -⟩ := this
    exact h1.lt
  · have := h.cls p hp
    rw [hk] at this
    obtain ⟨D, h1, -⟩ := this
    exact h1.lt
theorem MemRep.keep {w w' : World} {t B : Nat} {hn nn : Int} {nd : Path → Nd} {Ns : List Path} {Hs : List (Path × Str)} (h : MemRep w t B hn nn nd Ns Hs) (hs : ∀ p ∈ Ns, ∀ k ∈ (nd p).blocks, w'.heap[k]? = w.heap[k]?) : MemRep w' t B hn nn nd Ns Hs :=
  ⟨h.root, h.has0, fun p hp => (hs p hp _ (by simp [Nd.blocks])).trans (h.cell p hp), fun p hp => (h.kids p hp).of (fun m hm => hs p hp m (by simp [Nd.blocks, hm])) (Nat.le_refl _) (fun _ => rfl),
    fun p hp => (h.cls p hp).of (fun m hm => hs p hp m (by simp [Nd.blocks, hm])) (Nat.le_refl _) (fun _ => rfl), h.inj, h.dis⟩
theorem cells_at {n : Nd} {p : Path} {hn nn : Int} : (n.cells p hn nn)[0]? = some (.map n.kb) ∧ (n.cells p hn nn)[1]? = some (.map n.cb) := by
  unfold Nd.cells
  split <;> exact ⟨rfl, rfl⟩
theorem MemRep.c0 {w : World} {t B : Nat} {hn nn : Int} {nd : Path → Nd} {Ns : List Path} {Hs : List (Path × Str)} (h : MemRep w t B hn nn nd Ns Hs) {p : Path} (hp : p ∈ Ns) : w.cell? ⟨(nd p).b, 0, none⟩ = some (.map (nd p).kb) := by
  rw [cell_of_row w (nd p).b 0 _ _ _ (h.cell p hp)]; exact cells_at.1
theorem MemRep.c1 {w : World} {t B : Nat} {hn nn : Int} {nd : Path → Nd} {Ns : List Path} {Hs : List (Path × Str)} (h : MemRep w t B hn nn nd Ns Hs) {p : Path} (hp : p ∈ Ns) : w.cell? ⟨(nd p).b, 1, none⟩ = some (.map (nd p).cb) := by
  rw [cell_of_row w (nd p).b 1 _ _ _ (h.cell p hp)]; exact cells_at.2
theorem MemRep.c2 {w : World} {t B : Nat} {hn nn : Int} {nd : Path → Nd} {Ns : List Path} {Hs : List (Path × Str)} (h : MemRep w t B hn nn nd Ns Hs) : w.cell? ⟨t, 2, none⟩ = some (.int .i64 hn) ∧ w.cell? ⟨t, 3, none⟩ = some (.int .i64 nn) := by
  have h0 := h.cell [] h.has0
  rw [h.root] at h0
  rw [cell_of_row w t 2 _ _ _ h0, cell_of_row w t 3 _ _ _ h0]
  exact ⟨rfl, rfl⟩
theorem MemRep.fz {w : World} {t B : Nat} {hn nn : Int} {nd : Path → Nd} {Ns : List Path} {Hs : List (Path × Str)} (h : MemRep w t B hn nn nd Ns Hs) {p : Path} (hp : p ∈ Ns) (o : Nat) : w.frozen? ⟨(nd p).b, o, none⟩ = false :=
  frozen_of_row w (nd p).b o _ _ (h.cell p hp)
theorem kidOf_upd {nd : Path → Nd} {Ns : List Path} {p q : Path} {n : Nd} (hb : n.b = (nd p).b) (x : Str) : kidOf (updN nd p n) Ns q x = kidOf nd Ns q x := by
  unfold kidOf
  by_cases e : q ++ [x] = p
  · rw [e, updN_same, hb]
  · rw [updN_other e]
/-- one node's own blocks are turned -/
theorem MemRep.turn {w w' : World} {t B B' : Nat} {hn nn hn' nn' : Int} {nd : Path → Nd} {Ns : List Path} {Hs Hs' : List (Path × Str)} (h : MemRep w t B hn nn nd Ns Hs) {p : Path} (hp : p ∈ Ns) (n' : Nd) (hb : n'.b = (nd p).b) (hB : B ≤ B')
    (hm : Mod (nd p).blocks w w') (hcell : w'.heap[(nd p).b]? = some (.cells (n'.cells p hn' nn') (Nd.ty p) (0, 0))) (hk : KidsAt w' B' n'.kb (kidOf nd Ns p)) (hc : ClAt w' B' n'.cb (fun c => decide ((p, c) ∈ Hs')))
    (hnew : ∀ k ∈ n'.blocks, k ∈ (nd p).blocks ∨ w.heap.size ≤ k) (hdis : n'.blocks.Nodup) (hroot : p ≠ [] → hn' = hn ∧ nn' = nn) (hHs : ∀ q c, q ≠ p → ((q, c) ∈ Hs' ↔ (q, c) ∈ Hs)) :
    MemRep w' t B' hn' nn' (updN nd p n') Ns Hs' := by
  have hoth : ∀ q ∈ Ns, q ≠ p → ∀ k ∈ (nd q).blocks, w'.heap[k]? = w.heap[k]? := fun q hq hqp k hk => hm.block k (h.lt q hq k hk) (fun hk' => hqp (h.inj q hq p hp k hk hk'))
  have hnb : ∀ q ∈ Ns, q ≠ p → ∀ k ∈ (nd q).blocks, k ∉ n'.blocks := fun q hq hqp k hk hk' => by
    rcases hnew k hk' with h1 | h1
    · exact hqp (h.inj q hq p hp k hk h1)
    · have := h.lt q hq k hk; omega
  refine ⟨?_, h.has0, fun q hq => ?_, fun q hq => ?_, fun q hq => ?_, fun q hq r hr k hk hk' => ?_, fun q hq => ?_⟩
  · by_cases e : [] = p
    · rw [← e, updN_same, hb, ← e]; exact h.root
    · rw [updN_other e]; exact h.root
  · by_cases e : q = p
    · subst e; rw [updN_same, hb]; exact hcell
    · rw [updN_other e, hoth q hq e _ (by simp [Nd.blocks]), h.cell q hq]
      by_cases hp0 : p = []
      · have : q ≠ [] := fun e' => e (e'.trans hp0.symm)
        simp [Nd.cells, this]
      · rw [(hroot hp0).1, (hroot hp0).2]
  · by_cases e : q = p
    · subst e; rw [updN_same]
      exact hk.of (fun _ _ => rfl) (Nat.le_refl _) (fun x => kidOf_upd hb x)
    · rw [updN_other e]
      exact (h.kids q hq).of (fun m hm' => hoth q hq e m (by simp [Nd.blocks, hm'])) hB (fun x => kidOf_upd hb x)
  · by_cases e : q = p
    · subst e; rw [updN_same]; exact hc
    · rw [updN_other e]
      exact (h.cls q hq).of (fun m hm' => hoth q hq e m (by simp [Nd.blocks, hm'])) hB (fun c => by rw [decide_eq_decide]; exact hHs q c e)
  · by_cases e : q = p
    · by_cases e' : r = p
      · rw [e, e']
      · subst e
        rw [updN_same] at hk
        rw [updN_other e'] at hk'
        exact absurd hk (hnb r hr e' k hk')
    · by_cases e' : r = p
      · subst e'
        rw [updN_same] at hk'
        rw [updN_other e] at hk
        exact absurd hk' (hnb q hq e k hk)
      · rw [updN_other e] at hk
        rw [updN_other e'] at hk'
        exact h.inj q hq r hr k hk hk'
  · by_cases e : q = p
    · subst e; rw [updN_same]; exact hdis
    · rw [updN_other e]; exact h.dis q hq
theorem app_inj {p q : Path} {x y : Str} (h : p ++ [x] = q ++ [y]) : p = q ∧ x = y := by
  have := List.append_inj' h rfl
  exact ⟨this.1, by simpa using this.2⟩
/-- a kid more -/
theorem MemRep.addKid {w w' : World} {t B B' : Nat} {hn nn : Int} {nd : Path → Nd} {Ns : List Path} {Hs : List (Path × Str)} (h : MemRep w t B hn nn nd Ns Hs) {p : Path} (hp : p ∈ Ns) {x : Str} (hx : p ++ [x] ∉ Ns) (hx2 : ∀ y, p ++ [x] ++ [y] ∉ Ns) (hHs : ∀ c, (p ++ [x], c) ∉ Hs)
    {m b' : Nat} (hkb : (nd p).kb = some m) (hB : B ≤ B') (hm : Mod [m] w w') (hb' : w.heap.size ≤ b') (hcell : w'.heap[b']? = some (.cells #[.map none, .map none] 38 (0, 0)))
    (hkk : KidsAt w' B' (some m) (fun y => if y = x then some b' else kidOf nd Ns p y)) : MemRep w' t B' hn nn (updN nd (p ++ [x]) ⟨b', none, none⟩) ((p ++ [x]) :: Ns) Hs := by
  have hne : ∀ q ∈ Ns, q ≠ p ++ [x] := fun q hq e => hx (e ▸ hq)
  have hmp : m ∈ (nd p).blocks := by simp [Nd.blocks, hkb]
  have hoth : ∀ q ∈ Ns, ∀ k ∈ (nd q).blocks, k ≠ m → w'.heap[k]? = w.heap[k]? := fun q hq k hk hkm => hm.block k (h.lt q hq k hk) (by simpa using hkm)
  have hbn : ∀ q ∈ Ns, b' ∉ (nd q).blocks := fun q hq hk => by have := h.lt q hq b' hk; omega
  have hn0 : p ++ [x] ≠ [] := by simp
  have hnb : (⟨b', none, none⟩ : Nd).blocks = [b'] := rfl
  have hkid : ∀ q ∈ Ns, q ≠ p → ∀ y, kidOf (updN nd (p ++ [x]) ⟨b', none, none⟩) ((p ++ [x]) :: Ns) q y = kidOf nd Ns q y := fun q _ hqp y => by
    have e : q ++ [y] ≠ p ++ [x] := fun e => hqp (app_inj e).1
    simp only [kidOf, List.mem_cons, e, false_or, updN_other e]
  refine ⟨?_, by simp [h.has0], fun q hq => ?_, fun q hq => ?_, fun q hq => ?_, fun q hq r hr k hk hk' => ?_, fun q hq => ?_⟩
  · rw [updN_other hn0.symm]; exact h.root
  · rcases List.mem_cons.1 hq with rfl | hq1
    · rw [updN_same]; simpa [Nd.cells, Nd.ty] using hcell
    · rw [updN_other (hne q hq1)]
      refine (hoth q hq1 _ (by simp [Nd.blocks]) ?_).trans (h.cell q hq1)
      intro e
      have h1 := h.dis q hq1
      have h2 : q = p := h.inj q hq1 p hp (nd q).b (by simp [Nd.blocks]) (by rw [e]; exact hmp)
      subst h2
      rw [Nd.blocks, hkb, e] at h1
      simp at h1
  · rcases List.mem_cons.1 hq with rfl | hq1
    · rw [updN_same]
      intro y
      unfold kidOf
      rw [if_neg]
      simp only [List.mem_cons, not_or]
      exact ⟨by simp, hx2 y⟩
    · rw [updN_other (hne q hq1)]
      by_cases e : q = p
      · subst e
        rw [hkb]
        refine hkk.of (fun _ _ => rfl) (Nat.le_refl _) (fun y => ?_)
        unfold kidOf
        by_cases ey : y = x
        · subst ey; simp [updN_same]
        · have e' : q ++ [y] ≠ q ++ [x] := fun e => ey (app_inj e).2
          simp only [List.mem_cons, e', false_or, updN_other e', ey, if_false]
      · refine (h.kids q hq1).of (fun m' hm' => hoth q hq1 m' (by simp [Nd.blocks, hm']) ?_) hB (fun y => hkid q hq1 e y)
        rintro rfl
        exact e (h.inj q hq1 p hp m' (by simp [Nd.blocks, hm']) hmp)
  · rcases List.mem_cons.1 hq with rfl | hq1
    · rw [updN_same]
      intro c
      simpa using hHs c
    · rw [updN_other (hne q hq1)]
      refine (h.cls q hq1).of (fun m' hm' => hoth q hq1 m' (by simp [Nd.blocks, hm']) ?_) hB (fun _ => rfl)
      rintro rfl
      have h2 : q = p := h.inj q hq1 p hp m' (by simp [Nd.blocks, hm']) hmp
      subst h2
      have h1 := h.dis q hq1
      rw [Nd.blocks, hkb, hm'] at h1
      simp at h1
  · rcases List.mem_cons.1 hq with rfl | hq1
    · rcases List.mem_cons.1 hr with rfl | hr1
      · rfl
      · rw [updN_same, hnb] at hk
        rw [updN_other (hne r hr1)] at hk'
        obtain rfl := List.mem_singleton.1 hk
        exact absurd hk' (hbn r hr1)
    · rcases List.mem_cons.1 hr with rfl | hr1
      · rw [updN_same, hnb] at hk'
        rw [updN_other (hne q hq1)] at hk
        obtain rfl := List.mem_singleton.1 hk'
        exact absurd hk (hbn q hq1)
      · rw [updN_other (hne q hq1)] at hk
        rw [updN_other (hne r hr1)] at hk'
        exact h.inj q hq1 r hr1 k hk hk'
  · rcases List.mem_cons.1 hq with rfl | hq1
    · rw [updN_same, hnb]; simp
    · rw [updN_other (hne q hq1)]; exact h.dis q hq1
/-- a kid less -/
theorem MemRep.dropKid {w w' : World} {t B : Nat} {hn nn : Int} {nd : Path → Nd} {Ns : List Path} {Hs : List (Path × Str)} (h : MemRep w t B hn nn nd Ns Hs) {p : Path} (hp : p ∈ Ns) {x : Str}
    {m : Nat} (hkb : (nd p).kb = some m) (hm : Mod [m] w w') (hk : KidsAt w' B (some m) (fun y => if y = x then none else kidOf nd Ns p y)) : MemRep w' t B hn nn nd (Ns.filter fun q => q != p ++ [x]) Hs := by
  have hmp : m ∈ (nd p).blocks := by simp [Nd.blocks, hkb]
  have hoth : ∀ q ∈ Ns, ∀ k ∈ (nd q).blocks, k ≠ m → w'.heap[k]? = w.heap[k]? := fun q hq k hk hkm => hm.block k (h.lt q hq k hk) (by simpa using hkm)
  have hin : ∀ q, q ∈ (Ns.filter fun q => q != p ++ [x]) → q ∈ Ns := fun q hq => (List.mem_filter.1 hq).1
  have hkid : ∀ q y, kidOf nd (Ns.filter fun q => q != p ++ [x]) q y = if q ++ [y] = p ++ [x] then none else kidOf nd Ns q y := fun q y => by
    unfold kidOf
    by_cases e : q ++ [y] = p ++ [x]
    · simp [e]
    · simp [e, List.mem_filter]
  refine ⟨h.root, by simp [List.mem_filter, h.has0], fun q hq => ?_, fun q hq => ?_, fun q hq => ?_, fun q hq r hr => h.inj q (hin q hq) r (hin r hr), fun q hq => h.dis q (hin q hq)⟩
  · have hq' := hin q hq
    refine (hoth q hq' _ (by simp [Nd.blocks]) ?_).trans (h.cell q hq')
    intro e
    have h1 := h.dis q hq'
    have h2 : q = p := h.inj q hq' p hp (nd q).b (by simp [Nd.blocks]) (by rw [e]; exact hmp)
    subst h2
    rw [Nd.blocks, hkb, e] at h1
    simp at h1
  · have hq' := hin q hq
    by_cases e : q = p
    · subst e
      rw [hkb]
      refine hk.of (fun _ _ => rfl) (Nat.le_refl _) (fun y => ?_)
      rw [hkid]
      by_cases ey : y = x
      · simp [ey]
      · have e' : q ++ [y] ≠ q ++ [x] := fun e => ey (app_inj e).2
        rw [if_neg e', if_neg ey]
    · refine (h.kids q hq').of (fun m' hm' => hoth q hq' m' (by simp [Nd.blocks, hm']) ?_) (Nat.le_refl _) (fun y => ?_)
      · rintro rfl
        exact e (h.inj q hq' p hp m' (by simp [Nd.blocks, hm']) hmp)
      · rw [hkid, if_neg (fun e' => e (app_inj e').1)]
  · have hq' := hin q hq
    refine (h.cls q hq').of (fun m' hm' => hoth q hq' m' (by simp [Nd.blocks, hm']) ?_) (Nat.le_refl _) (fun _ => rfl)
    rintro rfl
    have h2 : q = p := h.inj q hq' p hp m' (by simp [Nd.blocks, hm']) hmp
    subst h2
    have h1 := h.dis q hq'
    rw [Nd.blocks, hkb, hm'] at h1
    simp at h1
end Go.Proofs.YtcnjgenacpkdbaaDoor
