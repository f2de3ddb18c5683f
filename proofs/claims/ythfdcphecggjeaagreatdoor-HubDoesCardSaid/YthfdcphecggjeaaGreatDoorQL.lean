/- Hints: rows of them in memory. No program in sight. Who is told of a name: the plain law. No program in sight. The trie: Match walked: 'from'. -/
import Derived.Test.YthfdcphecggjeaaGreatDoorQB
import Derived.Test.YthfdcphecggjeaaGreatDoorQJ
import Derived.Test.YthfdcphecggjeaaGreatDoorQK
import Derived.Deep.CutRange
namespace Go.Proofs.YthfdcphecggjeaaGreatDoor
section
open Go Go.RowKit

theorem T_hint : ElemT Tryz.prog 40 47 (.agg #[.string ⟨#[]⟩, .string ⟨#[]⟩]) 2 32 := ⟨Tryz.underlying40, by kernel_rfl, rfl, by decide⟩
abbrev Hint := Str × Str
def hintCells (h : Hint) : List Value := [.string ⟨h.1.toArray⟩, .string ⟨h.2.toArray⟩]
def hintsV (l : List Hint) : List Value := l.flatMap hintCells
theorem hintsV_length (l : List Hint) : (hintsV l).length = l.length * 2 := by
  induction l with
  | nil => rfl
  | cons a r ih => simp only [hintsV, List.flatMap_cons, List.length_append, List.length_cons] at *; rw [ih]; simp [hintCells]; omega
theorem hintsV_append (a b : List Hint) : hintsV (a ++ b) = hintsV a ++ hintsV b := List.flatMap_append ..
theorem hintsV_at {l : List Hint} {i : Nat} (h : i < l.length) : (hintsV l)[i * 2]? = some (.string ⟨l[i].1.toArray⟩) ∧ (hintsV l)[i * 2 + 1]? = some (.string ⟨l[i].2.toArray⟩) := by
  induction l generalizing i with
  | nil => simp at h
  | cons a r ih =>
    cases i with
    | zero => exact ⟨rfl, rfl⟩
    | succ i =>
      have := @ih i (by simpa using h)
      rw [show (i + 1) * 2 = i * 2 + 1 + 1 by omega]
      simpa [hintsV, hintCells] using this
theorem nodup_le {α : Type} [DecidableEq α] {l : List α} : ∀ {k : List α}, l.Nodup → (∀ x ∈ l, x ∈ k) → l.length ≤ k.length := by
  induction l with
  | nil => intro k _ _; simp
  | cons a r ih =>
    intro k hn h
    obtain ⟨h1, h2⟩ := List.nodup_cons.1 hn
    have := ih (k := k.erase a) h2 (fun x hx => (List.mem_erase_of_ne (fun (e : x = a) => h1 (by rw [← e]; exact hx))).2 (h x (by simp [hx])))
    have hl := List.length_erase_of_mem (h a (by simp))
    have hp := List.length_pos_of_mem (h a (by simp))
    simp only [List.length_cons]; omega
theorem slt_tri {a b : Str} (h : ¬ a < b) (h' : a ≠ b) : b < a := by
  by_cases h2 : b < a
  · exact h2
  · exact absurd (List.le_antisymm (α := UInt8) (show a ≤ b from h2) (show b ≤ a from h)) h'
theorem hints_row {w : World} {a : Option Addr} {l : List Hint} {k : Nat} (h : Row w a (hintsV l)) (hk : k < l.length) : ∃ b o, a = some ⟨b, o, none⟩ ∧ w.cell? ⟨b, o + k * 2, none⟩ = some (.string ⟨l[k].1.toArray⟩) ∧ w.cell? ⟨b, o + k * 2 + 1, none⟩ = some (.string ⟨l[k].2.toArray⟩) := by
  obtain ⟨h1, h2⟩ := hintsV_at hk
  rcases h with h | ⟨b, o, rfl, hc⟩
  · rw [h] at h1; cases h1
  · exact ⟨b, o, rfl, hc _ _ h1, by have := hc _ _ h2; rwa [← Nat.add_assoc] at this⟩
end
section
open Go

/-- is a client met on the way from p with levels r (hid: the wild ones are passed over at first)? -/
def tkB (Hs : List (Path × Str)) (c : Str) : Bool → Path → Path → Bool
  | hid, p, [] => (!hid && decide ((p ++ [[35]], c) ∈ Hs)) || decide ((p, c) ∈ Hs)
  | hid, p, x :: r => (!hid && decide ((p ++ [[35]], c) ∈ Hs)) || (!hid && tkB Hs c false (p ++ [[43]]) r) || tkB Hs c false (p ++ [x]) r
theorem tkB_mem {Hs : List (Path × Str)} {c : Str} : ∀ {r : Path} {hid : Bool} {p : Path}, tkB Hs c hid p r = true → ∃ q, p <+: q ∧ (q, c) ∈ Hs := by
  intro r
  induction r with
  | nil =>
    intro hid p h
    simp only [tkB, Bool.or_eq_true, Bool.and_eq_true, decide_eq_true_eq] at h
    rcases h with ⟨-, h⟩ | h
    · exact ⟨_, ⟨_, rfl⟩, h⟩
    · exact ⟨_, List.prefix_refl _, h⟩
  | cons x r ih =>
    intro hid p h
    simp only [tkB, Bool.or_eq_true, Bool.and_eq_true, decide_eq_true_eq] at h
    rcases h with (⟨-, h⟩ | ⟨-, h⟩) | h
    · exact ⟨_, ⟨_, rfl⟩, h⟩
    · obtain ⟨q, h1, h2⟩ := ih h
      exact ⟨q, List.IsPrefix.trans ⟨_, rfl⟩ h1, h2⟩
    · obtain ⟨q, h1, h2⟩ := ih h
      exact ⟨q, List.IsPrefix.trans ⟨_, rfl⟩ h1, h2⟩
theorem tkB_dead {Ns : List Path} {Hs : List (Path × Str)} (h : Tight Ns Hs) {c : Str} {hid : Bool} {p r : Path} (hp : p ∉ Ns) : tkB Hs c hid p r = false := by
  rw [Bool.eq_false_iff]
  intro ht
  obtain ⟨q, h1, h2⟩ := tkB_mem ht
  exact hp (h.up (h.hint h2) h1)
theorem dead_hint {Ns : List Path} {Hs : List (Path × Str)} (h : Tight Ns Hs) {c : Str} {p : Path} (hp : p ∉ Ns) : decide ((p, c) ∈ Hs) = false := by
  rw [decide_eq_false_iff_not]
  exact fun h' => hp (h.hint h')
/-- # stands only at a filter's end -/
theorem hash_end {p a : Path} (h : levelsB (p ++ [35] :: a) = true) : a = [] := by
  induction p with
  | nil =>
    cases a with
    | nil => rfl
    | cons y r => simp [levelsB, levelB, plainB, wildc] at h
  | cons x p ih =>
    rw [List.cons_append, levelsB, Bool.and_eq_true] at h
    exact ih h.2
/-- the way through the trie takes what the filters take -/
theorem tkB_iff {Hs : List (Path × Str)} (hv : ∀ h ∈ Hs, levelsB h.1 = true) {c : Str} : ∀ {r : Path} {hid : Bool} {p : Path}, (∀ y ∈ r, y ≠ [35] ∧ y ≠ [43]) →
    (tkB Hs c hid p r = true ↔ ∃ f, (p ++ f, c) ∈ Hs ∧ coversL f r = true ∧ (hid = true → f.headD [] ≠ [35] ∧ f.headD [] ≠ [43])) := by
  intro r
  induction r with
  | nil =>
    intro hid p _
    simp only [tkB, Bool.or_eq_true, Bool.and_eq_true, Bool.not_eq_true', decide_eq_true_eq]
    constructor
    · rintro (⟨h1, h2⟩ | h)
      · exact ⟨[[35]], h2, by simp [coversL], fun e => by rw [h1] at e; cases e⟩
      · exact ⟨[], by simpa using h, by simp [coversL], fun _ => by simp⟩
    · rintro ⟨f, h1, h2, h3⟩
      cases f with
      | nil => exact .inr (by simpa using h1)
      | cons x a =>
        simp only [coversL, Bool.or_false, beq_iff_eq] at h2
        subst h2
        obtain rfl := hash_end (hv _ h1)
        refine .inl ⟨?_, h1⟩
        cases hid with
        | false => rfl
        | true => exact absurd rfl (h3 rfl).1
  | cons y r ih =>
    intro hid p hr
    have hy := hr y (by simp)
    have hr' : ∀ z ∈ r, z ≠ [35] ∧ z ≠ [43] := fun z hz => hr z (by simp [hz])
    simp only [tkB, Bool.or_eq_true, Bool.and_eq_true, Bool.not_eq_true', decide_eq_true_eq, ih hr', Bool.false_eq_true, false_imp_iff, and_true]
    constructor
    · rintro ((⟨h1, h2⟩ | ⟨h1, f, h2, h3⟩) | ⟨f, h2, h3⟩)
      · exact ⟨[[35]], h2, by simp [coversL], fun e => by rw [h1] at e; cases e⟩
      · exact ⟨[43] :: f, by simpa using h2, by simp [coversL, h3, hy.1], fun e => by rw [h1] at e; cases e⟩
      · exact ⟨y :: f, by simpa using h2, by simp [coversL, h3, hy.1], fun _ => hy⟩
    · rintro ⟨f, h1, h2, h3⟩
      cases f with
      | nil => simp [coversL] at h2
      | cons x a =>
        simp only [coversL, Bool.or_eq_true, Bool.and_eq_true, beq_iff_eq, bne_iff_ne, ne_eq] at h2
        rcases h2 with rfl | ⟨⟨-, rfl | rfl⟩, h4⟩
        · obtain rfl := hash_end (hv _ h1)
          refine .inl (.inl ⟨?_, h1⟩)
          cases hid with
          | false => rfl
          | true => exact absurd rfl (h3 rfl).1
        · refine .inl (.inr ⟨?_, a, by simpa using h1, h4⟩)
          cases hid with
          | false => rfl
          | true => exact absurd rfl (h3 rfl).2
        · exact .inr ⟨a, by simpa using h1, h4⟩
end
section
open Go Go.RowKit Go.Maps

def hidB (i : Nat) (nm : Str) : Bool := i == 0 && nm.headD 0 == 36
/-- what Match's 'from' has captured, and the trie -/
structure MatE (bn bmb bl bf bm t B : Nat) (hn nn : Int) (nd : Path → Nd) (Ns : List Path) (Hs : List (Path × Str)) (nm : ByteArray) (L : Path) (w : World) : Prop where
  rep : MemRep w t B hn nn nd Ns Hs
  off : ∀ p ∈ Ns, bm ∉ (nd p).blocks
  cn : w.cell? ⟨bn, 0, none⟩ = some (.string nm)
  cm : w.cell? ⟨bmb, 0, none⟩ = some (.map (some bm))
  cl : ∃ a ca, w.cell? ⟨bl, 0, none⟩ = some (.slice a L.length ca) ∧ Row w a (strs L)
  self : w.cell? ⟨bf, 0, none⟩ = some (.func (.func 56) #[] #[.pointer (some ⟨bn, 0, none⟩), .pointer (some ⟨bmb, 0, none⟩), .pointer (some ⟨bl, 0, none⟩), .pointer (some ⟨bf, 0, none⟩)])
  map : ∃ es clock, w.heap[bm]? = some (.map es clock)
structure Met (bm : Nat) (Hs : List (Path × Str)) (w : World) (D : DataW Unit) : Prop where
  own : w.ownsMap Tryz.prog 9 unitElem bm (Maps.size D) D
  keys : ∀ c, Maps.has D (.string c) = true → ∃ q, (q, c) ∈ Hs
theorem cell_ne {w : World} {bm k : Nat} {o : Nat} {v : Value} (hm : ∃ es clock, w.heap[bm]? = some (.map es clock)) (hc : w.cell? ⟨k, o, none⟩ = some v) : k ≠ bm := by
  rintro rfl
  obtain ⟨es, clock, h⟩ := hm
  simp [World.cell?, h] at hc
theorem mod_cell {w w' : World} {bm k o : Nat} {v : Value} (hm : ∃ es clock, w.heap[bm]? = some (.map es clock)) (hmod : Mod [bm] w w') (hc : w.cell? ⟨k, o, none⟩ = some v) : w'.cell? ⟨k, o, none⟩ = some v := by
  have hne := cell_ne hm hc
  have hl := World.block_lt_of_cell? w _ hc
  rw [World.cell?_of_block (w := w) (hmod.block k hl (by simpa using hne))]; exact hc
variable {bn bmb bl bf bm t B : Nat} {hn nn : Int} {nd : Path → Nd} {Ns : List Path} {Hs : List (Path × Str)} {nm : ByteArray} {L : Path} {w : World}
theorem MatE.mod {w' : World} (h : MatE bn bmb bl bf bm t B hn nn nd Ns Hs nm L w) (hm : Mod [bm] w w') (hmap : ∃ es clock, w'.heap[bm]? = some (.map es clock)) : MatE bn bmb bl bf bm t B hn nn nd Ns Hs nm L w' := by
  obtain ⟨a, ca, h1, h2⟩ := h.cl
  refine ⟨h.rep.keep (fun p hp k hk => hm.block k (h.rep.lt p hp k hk) (fun e => by obtain rfl := List.mem_singleton.1 e; exact h.off p hp hk)), h.off, mod_cell h.map hm h.cn, mod_cell h.map hm h.cm, ⟨a, ca, mod_cell h.map hm h1, ?_⟩, mod_cell h.map hm h.self, hmap⟩
  rcases h2 with h2 | ⟨b, o, ha, h2⟩
  · exact .inl h2
  · exact .inr ⟨b, o, ha, fun j u hj => mod_cell h.map hm (h2 j u hj)⟩
theorem MatE.below {w' : World} (h : MatE bn bmb bl bf bm t B hn nn nd Ns Hs nm L w) (hb : Below w.heap.size w w') : MatE bn bmb bl bf bm t B hn nn nd Ns Hs nm L w' := by
  refine h.mod (Mod.of_below hb _) ?_
  obtain ⟨es, clock, hm⟩ := h.map
  exact ⟨es, clock, (hb.block bm (Array.getElem?_eq_some_iff.1 hm).1).trans hm⟩
theorem Met.below {w' : World} {D : DataW Unit} (h : Met bm Hs w D) (hb : Below w.heap.size w w') : Met bm Hs w' D := ⟨owns_block h.own (hb.block bm h.own.lt), h.keys⟩
theorem Met.size {D : DataW Unit} (h : Met bm Hs w D) : Maps.size D ≤ Hs.length := by
  obtain ⟨es, hD, hpw, hk⟩ := h.own.entries kS
  obtain ⟨es', hD', hko⟩ := h.own.keysOf
  obtain rfl : es = es' := by rw [hD] at hD'; simpa using hD'
  subst hD
  have hinj : ∀ p ∈ es, ∃ x : Str, p.1 = .string x := fun p hp => by
    obtain ⟨v, hv⟩ := hko p hp
    obtain ⟨x, _, hx, _⟩ := Maps.keyOf_str Tryz.underlying9 hv
    exact ⟨x, hx⟩
  let f : Lit × DataW Unit → Str := fun p => match p.1 with | .string x => x | _ => []
  have hf : ∀ p ∈ es, p.1 = .string (f p) := fun p hp => by
    obtain ⟨x, hx⟩ := hinj p hp
    simp [f, hx]
  have h1 : (es.map f).Nodup := by
    rw [List.Nodup, List.pairwise_map]
    refine hpw.imp_of_mem (fun ha hb hne e => hne ?_)
    rw [hf _ ha, hf _ hb, e]
  have h2 : ∀ x ∈ es.map f, x ∈ Hs.map (·.2) := fun x hx => by
    obtain ⟨p, hp, rfl⟩ := List.mem_map.1 hx
    have hh : Maps.has (.map es) (.string (f p)) = true := by
      rw [Maps.has_eq, List.any_eq_true]
      exact ⟨p, hp, by rw [hf p hp]; simp [Lit.sameKey]⟩
    obtain ⟨q, hq⟩ := h.keys _ hh
    exact List.mem_map.2 ⟨_, hq, rfl⟩
  have := nodup_le h1 h2
  simpa [Maps.size] using this
/-- a copy of a node's clients -/
theorem mat_copy {D : DataW Unit} (hE : MatE bn bmb bl bf bm t B hn nn nd Ns Hs nm L w) (hM : Met bm Hs w D) {q : Path} (hq : q ∈ Ns) (hroom : Hs.length + B ≤ 4294967296) :
    Calls Tryz.prog 57 #[.map (some bm), .map (nd q).cb] w fun e w' => e = .returned (.tuple #[]) ∧ ∃ D' : DataW Unit, MatE bn bmb bl bf bm t B hn nn nd Ns Hs nm L w' ∧ Met bm Hs w' D' ∧
      (∀ c, Maps.has D' (.string c) = (Maps.has D (.string c) || decide ((q, c) ∈ Hs))) ∧ Mod [bm] w w' := by
  refine (mcopy_any bm B D (nd q).cb _ w hM.own (hE.rep.cls q hq) (fun e => hE.off q hq (blocks_cb e)) (by have := hM.size; omega)).mono ?_
  rintro e w' ⟨rfl, D', hown, -, hhas, hmod⟩
  obtain ⟨es, clock, hb, -⟩ := id hown
  refine ⟨rfl, D', hE.mod hmod ⟨es, clock, hb⟩, ⟨hown, fun c hc => ?_⟩, hhas, hmod⟩
  rw [hhas, Bool.or_eq_true] at hc
  rcases hc with hc | hc
  · exact hM.keys c hc
  · exact ⟨q, by simpa using hc⟩
theorem drewN_below (w : World) (n : Nat) : Below w.heap.size w (w.drewN n) := below_drewN (Below.refl _ _) n
def MatG (bm : Nat) (Hs : List (Path × Str)) (w : World) (D : DataW Unit) (g : Str → Bool) (e : Ending) (w' : World) : Prop :=
  e = .returned (.tuple #[]) ∧ ∃ D' : DataW Unit, Met bm Hs w' D' ∧ (∀ c, Maps.has D' (.string c) = (Maps.has D (.string c) || g c)) ∧ Mod [bm] w w'

theorem MatE.at {p : Path} (h : MatE bn bmb bl bf bm t B hn nn nd Ns Hs nm L w) (hp : p ∈ Ns) {i : Nat} (hi : i < L.length) (hx : (⟨L[i].toArray⟩ : ByteArray).size ≤ maxLen) :
    ∃ ca b o, w.cell? ⟨bl, 0, none⟩ = some (.slice (some ⟨b, o, none⟩) L.length ca) ∧ w.cell? ⟨b, o + i, none⟩ = some (.string ⟨L[i].toArray⟩) ∧ w.cell? ⟨(nd p).b, 0, none⟩ = some (.map (nd p).kb) ∧
      ∀ n, (Instr.lookup 103 (.map (nd p).kb) (.string ⟨L[i].toArray⟩) false).run Tryz.prog (w.drewN n) = .ok (ptrV (kidOf nd Ns p L[i])) (w.drewN n) := by
  obtain ⟨a, ca, h1, h2⟩ := h.cl
  obtain ⟨b, o, ha, k0⟩ := strs_row h2 (k := i) (x := L[i]) (by simp [hi])
  subst ha
  exact ⟨ca, b, o, h1, k0, h.rep.c0 hp, fun n => ((h.rep.kids p hp).of (w' := w.drewN n) (fun _ _ => rfl) (Nat.le_refl _) (fun _ => rfl)).look hx⟩
theorem MatE.kid {p : Path} (h : MatE bn bmb bl bf bm t B hn nn nd Ns Hs nm L w) (hp : p ∈ Ns) (x : List UInt8) (hx : (⟨x.toArray⟩ : ByteArray).size ≤ maxLen) :
    w.cell? ⟨(nd p).b, 0, none⟩ = some (.map (nd p).kb) ∧ (Instr.lookup 103 (.map (nd p).kb) (.string ⟨x.toArray⟩) false).run Tryz.prog w = .ok (ptrV (kidOf nd Ns p x)) w :=
  ⟨h.rep.c0 hp, (h.rep.kids p hp).look hx⟩
theorem Met.map {D : DataW Unit} (h : Met bm Hs w D) : ∃ es clock, w.heap[bm]? = some (.map es clock) := by
  obtain ⟨es, clock, hb, -⟩ := h.own
  exact ⟨es, clock, hb⟩
set_option maxRecDepth 100000 in
set_option maxHeartbeats 8000000 in
theorem mat_zero (bn bmb bl bf bm t B : Nat) (hn nn : Int) (nd : Path → Nd) (Ns : List Path) (Hs : List (Path × Str)) (nm : ByteArray) (L : Path) (hti : Tight Ns Hs) (hnm : 0 < nm.size) (hroom : Hs.length + B ≤ 4294967296) (i : Nat) (p : Path) (w : World) (D : DataW Unit) (hn2 : L.length = i) (hp : p ∈ Ns) (hE : MatE bn bmb bl bf bm t B hn nn nd Ns Hs nm L w) (hM : Met bm Hs w D) :
    Calls Tryz.prog 56 #[.pointer (some ⟨(nd p).b, 0, none⟩), .int .i64 i, .pointer (some ⟨bn, 0, none⟩), .pointer (some ⟨bmb, 0, none⟩), .pointer (some ⟨bl, 0, none⟩), .pointer (some ⟨bf, 0, none⟩)] w
      (MatG bm Hs w D (fun c => tkB Hs c (hidB i nm.data.toList) p (L.drop i))) := by
  have hLi : L.drop i = [] := List.drop_eq_nil_of_le (by omega)
  rw [hLi]
  have h1 : ((i : Int) == L.length) = true := by simp; omega
  have HEw := Lib.hid hE
  have HMw := Lib.hid hM
  have HDw := Lib.hid (Mod.refl [bm] w)
  have hcn := hE.cn
  obtain ⟨b0, hb0⟩ : ∃ b, ((i : Int) == 0) = b := ⟨_, rfl⟩
  obtain ⟨bd, hbd⟩ : ∃ b, (((nm[0]'hnm).toNat : Int) == 36) = b := ⟨_, rfl⟩
  obtain ⟨hd, hhd⟩ : ∃ h, hidB i nm.data.toList = h := ⟨_, rfl⟩
  have HHD : Hid ((b0 && bd) = hd) := Lib.hid (by
    rw [← hhd, ← hb0, ← hbd]
    unfold hidB
    congr 1
    · rw [Bool.eq_iff_iff]; simp
    · have h0 := bget nm 0 hnm
      rw [show nm.data.toList.headD 0 = nm[0]'hnm by rw [List.headD_eq_head?_getD, List.head?_eq_getElem?, h0]; rfl, Bool.eq_iff_iff, beq_iff_eq, beq_iff_eq]
      exact ⟨fun h => UInt8.toNat_inj.1 (by simp; omega), fun h => by rw [h]; rfl⟩)
  rw [hhd]
  have hnm0 : (0 : Int) < nm.size := by omega
  have hbl := byte_lt (nm[0]'hnm)
  clear hE hM hhd
  by_cases hk35 : p ++ [[35]] ∈ Ns
  · cases hd with
    | false =>
      go_enter Tryz.func56, Tryz.ntmps56
      go_upto_region 0 with fail
      go_cut [8] from 12 to 18 (fun h wx => h = .bool false ∧ w = wx)
      case first =>
        cases b0 with
        | false =>
          go_wp2_with fail
          go_meet
          exact ⟨rfl, rfl⟩
        | true =>
          obtain rfl : bd = false := by have := HHD.out; simpa using this
          go_wp2_with fail
          go_meet
          exact ⟨rfl, rfl⟩
      case rest =>
        obtain ⟨rfl, rfl⟩ := hcut
        clear hb0 hbd hcn hnm0 HHD
        obtain ⟨c0w35, hlw35⟩ := HEw.out.kid hp [35] (by show 1 ≤ maxLen; unfold maxLen; omega)
        rw [show kidOf nd Ns p [35] = some (nd (p ++ [[35]])).b from if_pos hk35] at hlw35
        simp only [ptrV] at hlw35
        go_wp2_with fail
        have cm := HEw.out.cm
        have c1 := HEw.out.rep.c1 hk35
        refine wp_region_held_drew (S := fun W => W.cell? ⟨bmb, 0, none⟩ = some (.map (some bm)) ∧ W.cell? ⟨(nd (p ++ [[35]])).b, 1, none⟩ = some (.map (nd (p ++ [[35]])).cb)) (by kernel_rfl) ⟨cm, c1⟩ (fun hHeld => ?_)
        refine wpAnyH_take (i := 0) (v := ?_) rfl (by kernel_rfl) (by kernel_rfl) (by kernel_rfl) (fun _ _ _ h => h) (Or.inl ⟨rfl, ?_⟩) hHeld ?_
        rotate_left
        · intro w0 hS0
          try dsimp only at hS0
          go_simp
          try with_reducible rfl
        simp only [List.getElem_toArray, List.getElem_cons_zero, Act.put, List.setIfInBounds_toArray, List.set_cons_zero, List.set_cons_succ]
        refine wpAnyH_take (i := 1) (v := ?_) rfl (by kernel_rfl) (by kernel_rfl) (by kernel_rfl) (fun _ _ _ h => h) (Or.inl ⟨rfl, ?_⟩) hHeld ?_
        rotate_left
        · intro w0 hS0
          try dsimp only at hS0
          go_simp
          try with_reducible rfl
        simp only [List.getElem_toArray, List.getElem_cons_zero, List.getElem_cons_succ, Act.put, List.setIfInBounds_toArray, List.set_cons_zero, List.set_cons_succ]
        refine wpAnyH_take (i := 2) (v := ?_) rfl (by kernel_rfl) (by kernel_rfl) (by kernel_rfl) (fun _ _ _ h => h) (Or.inl ⟨rfl, ?_⟩) hHeld ?_
        rotate_left
        · intro w0 hS0
          try dsimp only at hS0
          go_simp
          try with_reducible rfl
        simp only [List.getElem_toArray, List.getElem_cons_zero, List.getElem_cons_succ, Act.put, List.setIfInBounds_toArray, List.set_cons_zero, List.set_cons_succ]
        refine wpAnyH_take (i := 3) (v := ?_) rfl (by kernel_rfl) (by kernel_rfl) (by kernel_rfl) (fun _ _ _ h => h) (Or.inl ⟨rfl, ?_⟩) hHeld ?_
        rotate_left
        · intro w0 hS0
          try dsimp only at hS0
          go_simp
          try with_reducible rfl
        simp only [List.getElem_toArray, List.getElem_cons_zero, List.getElem_cons_succ, Act.put, List.setIfInBounds_toArray, List.set_cons_zero, List.set_cons_succ]
        refine wpAnyH_take (i := 4) (v := ?_) rfl (by kernel_rfl) (by kernel_rfl) (by kernel_rfl) (fun _ _ _ h => h) (Or.inl ⟨rfl, ?_⟩) hHeld ?_
        rotate_left
        · intro w0 hS0
          try dsimp only at hS0
          go_simp
          try with_reducible rfl
        simp only [List.getElem_toArray, List.getElem_cons_zero, List.getElem_cons_succ, Act.put, List.setIfInBounds_toArray, List.set_cons_zero, List.set_cons_succ]
        refine wpAnyH_ready (rs := [5]) (by kernel_rfl) (by simp) ?_
        refine AllReadyH.cons rfl (fun K hK => ?_) AllReadyH.nil
        rw [if_pos (by rfl)]
        go_simp
        go_at_call 57
        refine (mat_copy (HEw.out.below (drewN_below _ 1)) (HMw.out.below (drewN_below _ 1)) hk35 hroom).mono ?_
        rintro e wA ⟨rfl, DA, hE, hM, hhwA, hm⟩
        have HEwA := Lib.hid hE
        have HMwA := Lib.hid hM
        have HDwA := Lib.hid (show Mod [bm] w wA from (HDw.out.drewN 1).trans hm (fun _ h => .inl h))
        have HHwA := Lib.hid hhwA
        refine hK.out _ _ ⟨hE.cm, hE.rep.c1 hk35⟩ (fun hHeld => ?_)
        refine wpAnyH_done (by kernel_rfl) ?_ _
        clear hHeld hE hM hm cm c1 hhwA
        obtain ⟨al, cal, cl1, -⟩ := HEwA.out.cl
        go_wp2_with fail
        have cm := HEwA.out.cm
        have c1 := HEwA.out.rep.c1 hp
        refine wp_region_held_drew (S := fun W => W.cell? ⟨bmb, 0, none⟩ = some (.map (some bm)) ∧ W.cell? ⟨(nd (p)).b, 1, none⟩ = some (.map (nd (p)).cb)) (by kernel_rfl) ⟨cm, c1⟩ (fun hHeld => ?_)
        refine wpAnyH_take (i := 0) (v := ?_) rfl (by kernel_rfl) (by kernel_rfl) (by kernel_rfl) (fun _ _ _ h => h) (Or.inl ⟨rfl, ?_⟩) hHeld ?_
        rotate_left
        · intro w0 hS0
          try dsimp only at hS0
          go_simp
          try with_reducible rfl
        simp only [List.getElem_toArray, List.getElem_cons_zero, Act.put, List.setIfInBounds_toArray, List.set_cons_zero, List.set_cons_succ]
        refine wpAnyH_take (i := 1) (v := ?_) rfl (by kernel_rfl) (by kernel_rfl) (by kernel_rfl) (fun _ _ _ h => h) (Or.inl ⟨rfl, ?_⟩) hHeld ?_
        rotate_left
        · intro w0 hS0
          try dsimp only at hS0
          go_simp
          try with_reducible rfl
        simp only [List.getElem_toArray, List.getElem_cons_zero, List.getElem_cons_succ, Act.put, List.setIfInBounds_toArray, List.set_cons_zero, List.set_cons_succ]
        refine wpAnyH_take (i := 2) (v := ?_) rfl (by kernel_rfl) (by kernel_rfl) (by kernel_rfl) (fun _ _ _ h => h) (Or.inl ⟨rfl, ?_⟩) hHeld ?_
        rotate_left
        · intro w0 hS0
          try dsimp only at hS0
          go_simp
          try with_reducible rfl
        simp only [List.getElem_toArray, List.getElem_cons_zero, List.getElem_cons_succ, Act.put, List.setIfInBounds_toArray, List.set_cons_zero, List.set_cons_succ]
        refine wpAnyH_take (i := 3) (v := ?_) rfl (by kernel_rfl) (by kernel_rfl) (by kernel_rfl) (fun _ _ _ h => h) (Or.inl ⟨rfl, ?_⟩) hHeld ?_
        rotate_left
        · intro w0 hS0
          try dsimp only at hS0
          go_simp
          try with_reducible rfl
        simp only [List.getElem_toArray, List.getElem_cons_zero, List.getElem_cons_succ, Act.put, List.setIfInBounds_toArray, List.set_cons_zero, List.set_cons_succ]
        refine wpAnyH_take (i := 4) (v := ?_) rfl (by kernel_rfl) (by kernel_rfl) (by kernel_rfl) (fun _ _ _ h => h) (Or.inl ⟨rfl, ?_⟩) hHeld ?_
        rotate_left
        · intro w0 hS0
          try dsimp only at hS0
          go_simp
          try with_reducible rfl
        simp only [List.getElem_toArray, List.getElem_cons_zero, List.getElem_cons_succ, Act.put, List.setIfInBounds_toArray, List.set_cons_zero, List.set_cons_succ]
        refine wpAnyH_ready (rs := [5]) (by kernel_rfl) (by simp) ?_
        refine AllReadyH.cons rfl (fun K hK => ?_) AllReadyH.nil
        rw [if_pos (by rfl)]
        go_simp
        go_at_call 57
        refine (mat_copy (HEwA.out.below (drewN_below _ 1)) (HMwA.out.below (drewN_below _ 1)) hp hroom).mono ?_
        rintro e wB ⟨rfl, DB, hE, hM, hhwB, hm⟩
        have HEwB := Lib.hid hE
        have HMwB := Lib.hid hM
        have HDwB := Lib.hid (show Mod [bm] w wB from (HDwA.out.drewN 1).trans hm (fun _ h => .inl h))
        have HHwB := Lib.hid hhwB
        refine hK.out _ _ ⟨hE.cm, hE.rep.c1 hp⟩ (fun hHeld => ?_)
        refine wpAnyH_done (by kernel_rfl) ?_ _
        clear hHeld hE hM hm cm c1 hhwB
        go_wp2_with fail
        go_end0
        exact ⟨rfl, DB, HMwB.out, fun c => by rw [HHwB.out, HHwA.out]; simp [tkB, Bool.or_assoc], HDwB.out⟩
    | true =>
      go_enter Tryz.func56, Tryz.ntmps56
      go_upto_region 0 with fail
      go_cut [8] from 12 to 18 (fun h wx => h = .bool true ∧ w = wx)
      case first =>
        obtain ⟨rfl, rfl⟩ : b0 = true ∧ bd = true := by have := HHD.out; simpa using this
        go_wp2_with fail
        go_meet
        exact ⟨rfl, rfl⟩
      case rest =>
        obtain ⟨rfl, rfl⟩ := hcut
        clear hb0 hbd hcn hnm0 HHD
        obtain ⟨al, cal, cl1, -⟩ := HEw.out.cl
        obtain ⟨c0w35, hlw35⟩ := HEw.out.kid hp [35] (by show 1 ≤ maxLen; unfold maxLen; omega)
        rw [show kidOf nd Ns p [35] = some (nd (p ++ [[35]])).b from if_pos hk35] at hlw35
        simp only [ptrV] at hlw35
        go_wp2_with fail
        have cm := HEw.out.cm
        have c1 := HEw.out.rep.c1 hp
        refine wp_region_held_drew (S := fun W => W.cell? ⟨bmb, 0, none⟩ = some (.map (some bm)) ∧ W.cell? ⟨(nd (p)).b, 1, none⟩ = some (.map (nd (p)).cb)) (by kernel_rfl) ⟨cm, c1⟩ (fun hHeld => ?_)
        refine wpAnyH_take (i := 0) (v := ?_) rfl (by kernel_rfl) (by kernel_rfl) (by kernel_rfl) (fun _ _ _ h => h) (Or.inl ⟨rfl, ?_⟩) hHeld ?_
        rotate_left
        · intro w0 hS0
          try dsimp only at hS0
          go_simp
          try with_reducible rfl
        simp only [List.getElem_toArray, List.getElem_cons_zero, Act.put, List.setIfInBounds_toArray, List.set_cons_zero, List.set_cons_succ]
        refine wpAnyH_take (i := 1) (v := ?_) rfl (by kernel_rfl) (by kernel_rfl) (by kernel_rfl) (fun _ _ _ h => h) (Or.inl ⟨rfl, ?_⟩) hHeld ?_
        rotate_left
        · intro w0 hS0
          try dsimp only at hS0
          go_simp
          try with_reducible rfl
        simp only [List.getElem_toArray, List.getElem_cons_zero, List.getElem_cons_succ, Act.put, List.setIfInBounds_toArray, List.set_cons_zero, List.set_cons_succ]
        refine wpAnyH_take (i := 2) (v := ?_) rfl (by kernel_rfl) (by kernel_rfl) (by kernel_rfl) (fun _ _ _ h => h) (Or.inl ⟨rfl, ?_⟩) hHeld ?_
        rotate_left
        · intro w0 hS0
          try dsimp only at hS0
          go_simp
          try with_reducible rfl
        simp only [List.getElem_toArray, List.getElem_cons_zero, List.getElem_cons_succ, Act.put, List.setIfInBounds_toArray, List.set_cons_zero, List.set_cons_succ]
        refine wpAnyH_take (i := 3) (v := ?_) rfl (by kernel_rfl) (by kernel_rfl) (by kernel_rfl) (fun _ _ _ h => h) (Or.inl ⟨rfl, ?_⟩) hHeld ?_
        rotate_left
        · intro w0 hS0
          try dsimp only at hS0
          go_simp
          try with_reducible rfl
        simp only [List.getElem_toArray, List.getElem_cons_zero, List.getElem_cons_succ, Act.put, List.setIfInBounds_toArray, List.set_cons_zero, List.set_cons_succ]
        refine wpAnyH_take (i := 4) (v := ?_) rfl (by kernel_rfl) (by kernel_rfl) (by kernel_rfl) (fun _ _ _ h => h) (Or.inl ⟨rfl, ?_⟩) hHeld ?_
        rotate_left
        · intro w0 hS0
          try dsimp only at hS0
          go_simp
          try with_reducible rfl
        simp only [List.getElem_toArray, List.getElem_cons_zero, List.getElem_cons_succ, Act.put, List.setIfInBounds_toArray, List.set_cons_zero, List.set_cons_succ]
        refine wpAnyH_ready (rs := [5]) (by kernel_rfl) (by simp) ?_
        refine AllReadyH.cons rfl (fun K hK => ?_) AllReadyH.nil
        rw [if_pos (by rfl)]
        go_simp
        go_at_call 57
        refine (mat_copy (HEw.out.below (drewN_below _ 1)) (HMw.out.below (drewN_below _ 1)) hp hroom).mono ?_
        rintro e wB ⟨rfl, DB, hE, hM, hhwB, hm⟩
        have HEwB := Lib.hid hE
        have HMwB := Lib.hid hM
        have HDwB := Lib.hid (show Mod [bm] w wB from (HDw.out.drewN 1).trans hm (fun _ h => .inl h))
        have HHwB := Lib.hid hhwB
        refine hK.out _ _ ⟨hE.cm, hE.rep.c1 hp⟩ (fun hHeld => ?_)
        refine wpAnyH_done (by kernel_rfl) ?_ _
        clear hHeld hE hM hm cm c1 hhwB
        go_wp2_with fail
        go_end0
        exact ⟨rfl, DB, HMwB.out, fun c => by rw [HHwB.out]; simp [tkB], HDwB.out⟩
  · cases hd with
    | false =>
      go_enter Tryz.func56, Tryz.ntmps56
      go_upto_region 0 with fail
      go_cut [8] from 12 to 18 (fun h wx => h = .bool false ∧ w = wx)
      case first =>
        cases b0 with
        | false =>
          go_wp2_with fail
          go_meet
          exact ⟨rfl, rfl⟩
        | true =>
          obtain rfl : bd = false := by have := HHD.out; simpa using this
          go_wp2_with fail
          go_meet
          exact ⟨rfl, rfl⟩
      case rest =>
        obtain ⟨rfl, rfl⟩ := hcut
        clear hb0 hbd hcn hnm0 HHD
        obtain ⟨al, cal, cl1, -⟩ := HEw.out.cl
        obtain ⟨c0w35, hlw35⟩ := HEw.out.kid hp [35] (by show 1 ≤ maxLen; unfold maxLen; omega)
        rw [show kidOf nd Ns p [35] = none from if_neg hk35] at hlw35
        simp only [ptrV] at hlw35
        go_wp2_with fail
        have cm := HEw.out.cm
        have c1 := HEw.out.rep.c1 hp
        refine wp_region_held_drew (S := fun W => W.cell? ⟨bmb, 0, none⟩ = some (.map (some bm)) ∧ W.cell? ⟨(nd (p)).b, 1, none⟩ = some (.map (nd (p)).cb)) (by kernel_rfl) ⟨cm, c1⟩ (fun hHeld => ?_)
        refine wpAnyH_take (i := 0) (v := ?_) rfl (by kernel_rfl) (by kernel_rfl) (by kernel_rfl) (fun _ _ _ h => h) (Or.inl ⟨rfl, ?_⟩) hHeld ?_
        rotate_left
        · intro w0 hS0
          try dsimp only at hS0
          go_simp
          try with_reducible rfl
        simp only [List.getElem_toArray, List.getElem_cons_zero, Act.put, List.setIfInBounds_toArray, List.set_cons_zero, List.set_cons_succ]
        refine wpAnyH_take (i := 1) (v := ?_) rfl (by kernel_rfl) (by kernel_rfl) (by kernel_rfl) (fun _ _ _ h => h) (Or.inl ⟨rfl, ?_⟩) hHeld ?_
        rotate_left
        · intro w0 hS0
          try dsimp only at hS0
          go_simp
          try with_reducible rfl
        simp only [List.getElem_toArray, List.getElem_cons_zero, List.getElem_cons_succ, Act.put, List.setIfInBounds_toArray, List.set_cons_zero, List.set_cons_succ]
        refine wpAnyH_take (i := 2) (v := ?_) rfl (by kernel_rfl) (by kernel_rfl) (by kernel_rfl) (fun _ _ _ h => h) (Or.inl ⟨rfl, ?_⟩) hHeld ?_
        rotate_left
        · intro w0 hS0
          try dsimp only at hS0
          go_simp
          try with_reducible rfl
        simp only [List.getElem_toArray, List.getElem_cons_zero, List.getElem_cons_succ, Act.put, List.setIfInBounds_toArray, List.set_cons_zero, List.set_cons_succ]
        refine wpAnyH_take (i := 3) (v := ?_) rfl (by kernel_rfl) (by kernel_rfl) (by kernel_rfl) (fun _ _ _ h => h) (Or.inl ⟨rfl, ?_⟩) hHeld ?_
        rotate_left
        · intro w0 hS0
          try dsimp only at hS0
          go_simp
          try with_reducible rfl
        simp only [List.getElem_toArray, List.getElem_cons_zero, List.getElem_cons_succ, Act.put, List.setIfInBounds_toArray, List.set_cons_zero, List.set_cons_succ]
        refine wpAnyH_take (i := 4) (v := ?_) rfl (by kernel_rfl) (by kernel_rfl) (by kernel_rfl) (fun _ _ _ h => h) (Or.inl ⟨rfl, ?_⟩) hHeld ?_
        rotate_left
        · intro w0 hS0
          try dsimp only at hS0
          go_simp
          try with_reducible rfl
        simp only [List.getElem_toArray, List.getElem_cons_zero, List.getElem_cons_succ, Act.put, List.setIfInBounds_toArray, List.set_cons_zero, List.set_cons_succ]
        refine wpAnyH_ready (rs := [5]) (by kernel_rfl) (by simp) ?_
        refine AllReadyH.cons rfl (fun K hK => ?_) AllReadyH.nil
        rw [if_pos (by rfl)]
        go_simp
        go_at_call 57
        refine (mat_copy (HEw.out.below (drewN_below _ 1)) (HMw.out.below (drewN_below _ 1)) hp hroom).mono ?_
        rintro e wB ⟨rfl, DB, hE, hM, hhwB, hm⟩
        have HEwB := Lib.hid hE
        have HMwB := Lib.hid hM
        have HDwB := Lib.hid (show Mod [bm] w wB from (HDw.out.drewN 1).trans hm (fun _ h => .inl h))
        have HHwB := Lib.hid hhwB
        refine hK.out _ _ ⟨hE.cm, hE.rep.c1 hp⟩ (fun hHeld => ?_)
        refine wpAnyH_done (by kernel_rfl) ?_ _
        clear hHeld hE hM hm cm c1 hhwB
        go_wp2_with fail
        go_end0
        exact ⟨rfl, DB, HMwB.out, fun c => by rw [HHwB.out]; simp [tkB, dead_hint hti hk35], HDwB.out⟩
    | true =>
      go_enter Tryz.func56, Tryz.ntmps56
      go_upto_region 0 with fail
      go_cut [8] from 12 to 18 (fun h wx => h = .bool true ∧ w = wx)
      case first =>
        obtain ⟨rfl, rfl⟩ : b0 = true ∧ bd = true := by have := HHD.out; simpa using this
        go_wp2_with fail
        go_meet
        exact ⟨rfl, rfl⟩
      case rest =>
        obtain ⟨rfl, rfl⟩ := hcut
        clear hb0 hbd hcn hnm0 HHD
        obtain ⟨al, cal, cl1, -⟩ := HEw.out.cl
        obtain ⟨c0w35, hlw35⟩ := HEw.out.kid hp [35] (by show 1 ≤ maxLen; unfold maxLen; omega)
        rw [show kidOf nd Ns p [35] = none from if_neg hk35] at hlw35
        simp only [ptrV] at hlw35
        go_wp2_with fail
        have cm := HEw.out.cm
        have c1 := HEw.out.rep.c1 hp
        refine wp_region_held_drew (S := fun W => W.cell? ⟨bmb, 0, none⟩ = some (.map (some bm)) ∧ W.cell? ⟨(nd (p)).b, 1, none⟩ = some (.map (nd (p)).cb)) (by kernel_rfl) ⟨cm, c1⟩ (fun hHeld => ?_)
        refine wpAnyH_take (i := 0) (v := ?_) rfl (by kernel_rfl) (by kernel_rfl) (by kernel_rfl) (fun _ _ _ h => h) (Or.inl ⟨rfl, ?_⟩) hHeld ?_
        rotate_left
        · intro w0 hS0
          try dsimp only at hS0
          go_simp
          try with_reducible rfl
        simp only [List.getElem_toArray, List.getElem_cons_zero, Act.put, List.setIfInBounds_toArray, List.set_cons_zero, List.set_cons_succ]
        refine wpAnyH_take (i := 1) (v := ?_) rfl (by kernel_rfl) (by kernel_rfl) (by kernel_rfl) (fun _ _ _ h => h) (Or.inl ⟨rfl, ?_⟩) hHeld ?_
        rotate_left
        · intro w0 hS0
          try dsimp only at hS0
          go_simp
          try with_reducible rfl
        simp only [List.getElem_toArray, List.getElem_cons_zero, List.getElem_cons_succ, Act.put, List.setIfInBounds_toArray, List.set_cons_zero, List.set_cons_succ]
        refine wpAnyH_take (i := 2) (v := ?_) rfl (by kernel_rfl) (by kernel_rfl) (by kernel_rfl) (fun _ _ _ h => h) (Or.inl ⟨rfl, ?_⟩) hHeld ?_
        rotate_left
        · intro w0 hS0
          try dsimp only at hS0
          go_simp
          try with_reducible rfl
        simp only [List.getElem_toArray, List.getElem_cons_zero, List.getElem_cons_succ, Act.put, List.setIfInBounds_toArray, List.set_cons_zero, List.set_cons_succ]
        refine wpAnyH_take (i := 3) (v := ?_) rfl (by kernel_rfl) (by kernel_rfl) (by kernel_rfl) (fun _ _ _ h => h) (Or.inl ⟨rfl, ?_⟩) hHeld ?_
        rotate_left
        · intro w0 hS0
          try dsimp only at hS0
          go_simp
          try with_reducible rfl
        simp only [List.getElem_toArray, List.getElem_cons_zero, List.getElem_cons_succ, Act.put, List.setIfInBounds_toArray, List.set_cons_zero, List.set_cons_succ]
        refine wpAnyH_take (i := 4) (v := ?_) rfl (by kernel_rfl) (by kernel_rfl) (by kernel_rfl) (fun _ _ _ h => h) (Or.inl ⟨rfl, ?_⟩) hHeld ?_
        rotate_left
        · intro w0 hS0
          try dsimp only at hS0
          go_simp
          try with_reducible rfl
        simp only [List.getElem_toArray, List.getElem_cons_zero, List.getElem_cons_succ, Act.put, List.setIfInBounds_toArray, List.set_cons_zero, List.set_cons_succ]
        refine wpAnyH_ready (rs := [5]) (by kernel_rfl) (by simp) ?_
        refine AllReadyH.cons rfl (fun K hK => ?_) AllReadyH.nil
        rw [if_pos (by rfl)]
        go_simp
        go_at_call 57
        refine (mat_copy (HEw.out.below (drewN_below _ 1)) (HMw.out.below (drewN_below _ 1)) hp hroom).mono ?_
        rintro e wB ⟨rfl, DB, hE, hM, hhwB, hm⟩
        have HEwB := Lib.hid hE
        have HMwB := Lib.hid hM
        have HDwB := Lib.hid (show Mod [bm] w wB from (HDw.out.drewN 1).trans hm (fun _ h => .inl h))
        have HHwB := Lib.hid hhwB
        refine hK.out _ _ ⟨hE.cm, hE.rep.c1 hp⟩ (fun hHeld => ?_)
        refine wpAnyH_done (by kernel_rfl) ?_ _
        clear hHeld hE hM hm cm c1 hhwB
        go_wp2_with fail
        go_end0
        exact ⟨rfl, DB, HMwB.out, fun c => by rw [HHwB.out]; simp [tkB], HDwB.out⟩
end
end Go.Proofs.YthfdcphecggjeaaGreatDoor
