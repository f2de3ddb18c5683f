/- The trie: New, Len, Nodes, Add walked. The trie: Remove walked. The trie: Remove walked, the call. maps.Copy at sets of texts, walked. -/
import Derived.Test.YthfdcphecggjeaaGreatDoorQJ
import Derived.StillTailTactics
import Derived.Laws.IdiomRangeMap
namespace Go.Proofs.YthfdcphecggjeaaGreatDoor
section
open Go Go.RowKit Go.Maps

def foot (nd : Path → Nd) (Ns : List Path) : List Nat := Ns.flatMap fun p => (nd p).blocks
theorem mem_foot {nd : Path → Nd} {Ns : List Path} {k : Nat} : k ∈ foot nd Ns ↔ ∃ p ∈ Ns, k ∈ (nd p).blocks := by simp [foot]
/-- The trie lies at block t: its nodes, its hints by paths; its blocks are F. -/
def PRep (w : World) (t B : Nat) (Ns : List Path) (Hs : List (Path × Str)) (F : List Nat) : Prop :=
  ∃ nd, Tight Ns Hs ∧ MemRep w t B Hs.length Ns.length nd Ns Hs ∧ F = foot nd Ns
theorem PRep.lt {w : World} {t B : Nat} {Ns : List Path} {Hs : List (Path × Str)} {F : List Nat} (h : PRep w t B Ns Hs F) : ∀ k ∈ F, k < w.heap.size := by
  obtain ⟨nd, -, hr, rfl⟩ := h
  intro k hk
  obtain ⟨p, hp, hk⟩ := mem_foot.1 hk
  exact hr.lt p hp k hk
theorem PRep.mod {S : List Nat} {w w' : World} {t B : Nat} {Ns : List Path} {Hs : List (Path × Str)} {F : List Nat} (h : PRep w t B Ns Hs F) (hm : Mod S w w') (hS : ∀ k ∈ F, k ∉ S) : PRep w' t B Ns Hs F := by
  obtain ⟨nd, ht, hr, rfl⟩ := h
  exact ⟨nd, ht, hr.keep (fun p hp k hk => hm.block k (hr.lt p hp k hk) (hS k (mem_foot.2 ⟨p, hp, hk⟩))), rfl⟩
theorem PRep.below {w w' : World} {t B : Nat} {Ns : List Path} {Hs : List (Path × Str)} {F : List Nat} (h : PRep w t B Ns Hs F) (hk : Below w.heap.size w w') : PRep w' t B Ns Hs F := h.mod (Mod.of_below hk []) (by simp)
theorem PRep.tight {w : World} {t B : Nat} {Ns : List Path} {Hs : List (Path × Str)} {F : List Nat} (h : PRep w t B Ns Hs F) : Tight Ns Hs := by obtain ⟨_, h, _⟩ := h; exact h
theorem TS.monoB {w0 w : World} {F0 : List Nat} {t B B' : Nat} {hn nn : Int} {nd : Path → Nd} {Ns : List Path} {Hs : List (Path × Str)} (h : TS w0 F0 w t B hn nn nd Ns Hs) (hB : B ≤ B') : TS w0 F0 w t B' hn nn nd Ns Hs :=
  ⟨⟨h.rep.root, h.rep.has0, h.rep.cell, fun p hp => (h.rep.kids p hp).of (fun _ _ => rfl) hB (fun _ => rfl), fun p hp => (h.rep.cls p hp).of (fun _ _ => rfl) hB (fun _ => rfl), h.rep.inj, h.rep.dis⟩, h.mod, h.ft⟩
theorem eqK : ∀ (w : World) (r : Option Nat), (binOp .eql 103 (.map r) (.map none)).run Tryz.prog w = .ok (.bool r.isNone) w := fun w r => run_eql_map_nil w _ _ _ r Tryz.underlying103
theorem eqC : ∀ (w : World) (r : Option Nat), (binOp .eql 100 (.map r) (.map none)).run Tryz.prog w = .ok (.bool r.isNone) w := fun w r => run_eql_map_nil w _ _ _ r Tryz.underlying100
/-- no block of the trie holds texts -/
theorem MemRep.no_str {w : World} {t B : Nat} {hn nn : Int} {nd : Path → Nd} {Ns : List Path} {Hs : List (Path × Str)} (h : MemRep w t B hn nn nd Ns Hs) {p : Path} (hp : p ∈ Ns) {k : Nat} (hk : k ∈ (nd p).blocks) (o : Nat) (s : ByteArray) : w.cell? ⟨k, o, none⟩ ≠ some (.string s) := by
  intro hc
  simp only [Nd.blocks, List.mem_cons, List.mem_append, Option.mem_toList] at hk
  rcases hk with rfl | hk | hk
  · rw [cell_of_row w _ o _ _ _ (h.cell p hp)] at hc
    unfold Nd.cells at hc
    split at hc
    · rcases o with _ | _ | _ | _ | o <;> simp at hc
    · rcases o with _ | _ | o <;> simp at hc
  · have hkk := h.kids p hp
    rw [hk] at hkk
    obtain ⟨D, ⟨es, clock, hb, -⟩, -⟩ := hkk
    simp [World.cell?, hb] at hc
  · have hkk := h.cls p hp
    rw [hk] at hkk
    obtain ⟨D, ⟨es, clock, hb, -⟩, -⟩ := hkk
    simp [World.cell?, hb] at hc
theorem row_off {w : World} {t B : Nat} {hn nn : Int} {nd : Path → Nd} {Ns : List Path} {Hs : List (Path × Str)} (h : MemRep w t B hn nn nd Ns Hs) {a : Option Addr} {L : List (List UInt8)} (hr : Row w a (strs L)) (hL : L ≠ []) : ∀ b o, a = some ⟨b, o, none⟩ → b ∉ foot nd Ns := by
  intro b o ha hb
  obtain ⟨p, hp, hk⟩ := mem_foot.1 hb
  obtain ⟨x, r, rfl⟩ := List.exists_cons_of_ne_nil hL
  rcases hr with hr | ⟨b', o', ha', hc⟩
  · simp [strs] at hr
  · rw [ha] at ha'
    cases ha'
    exact h.no_str hp hk o ⟨x.toArray⟩ (hc 0 _ (by simp [strs]))

theorem tnew (w : World) : Calls Tryz.prog 44 #[] w fun e w' => ∃ t F, e = .returned (.pointer (some ⟨t, 0, none⟩)) ∧ PRep w' t 0 [[]] [] F ∧ Upd [] F w w' := by
  go_enter Tryz.func44, Tryz.ntmps44
  go_wp2_with fail
  go_ret
  refine ⟨w.heap.size, [w.heap.size], rfl, ⟨fun _ => ⟨w.heap.size, none, none⟩, tight_nil, ⟨rfl, by simp, ?_, ?_, ?_, ?_, ?_⟩, by simp [foot, Nd.blocks]⟩, (Mod.refl _ _).alloc _, by simp⟩
  · intro p hp
    obtain rfl := List.mem_singleton.1 hp
    exact heap_alloc_new w _
  · intro p hp
    obtain rfl := List.mem_singleton.1 hp
    intro x
    simp [kidOf]
  · intro p _ c
    simp
  · intro p hp q hq _ _ _
    rw [List.mem_singleton.1 hp, List.mem_singleton.1 hq]
  · intro p _
    simp [Nd.blocks]
theorem tadd_no (t : Nat) (s c : ByteArray) (w : World) (hT : Tabs w) (hs : s.size < 4294967281) (hf : filterB s.data.toList = false) :
    Calls Tryz.prog 35 #[.pointer (some ⟨t, 0, none⟩), .string s, .string c] w fun e w' => e = .returned (.bool false) ∧ Below w.heap.size w w' := by
  have HF := Lib.hid (filter_any s w hT hs)
  rw [hf] at HF
  clear hT hf
  go_enter Tryz.func35, Tryz.ntmps35
  go_wp2_with fail
  refine HF.out.mono ?_
  rintro e w1 ⟨rfl, hk⟩
  go_wp2_with fail
  go_ret
  exact ⟨rfl, hk⟩
theorem len_addN_le {r : Path} : ∀ {p : Path} {Ns : List Path}, (addN p r Ns).length ≤ Ns.length + r.length := by
  induction r with
  | nil => intro p Ns; simp [addN]
  | cons x r ih =>
    intro p Ns
    rw [addN]
    refine Nat.le_trans ih ?_
    split <;> simp <;> omega
theorem take_addN {L : Path} {Ns : List Path} (h0 : [] ∈ Ns) (k : Nat) : L.take k ∈ addN [] (L.take k) Ns := by
  by_cases h : L.take k = []
  · rw [h]; exact h0
  · exact mem_addN.2 (.inr ⟨_, h, List.prefix_refl _, rfl⟩)
theorem str_data (l : List UInt8) : (⟨l.toArray⟩ : ByteArray).data.toList = l := rfl
theorem kidsD {w : World} {B m : Nat} {f : Str → Option Nat} {kb : Option Nat} (h : KidsAt w B kb f) (hk : kb = some m) : ∃ D, w.ownsMap Tryz.prog 9 ptrElem m (Maps.size D) D ∧ Maps.size D ≤ B ∧ ∀ x, Maps.has D (.string x) = (f x).isSome ∧ ∀ b, f x = some b → ∀ z, D.atKey (.string x) z = ptrDat b := by subst hk; exact h
theorem clD {w : World} {B m : Nat} {g : Str → Bool} {cb : Option Nat} (h : ClAt w B cb g) (hk : cb = some m) : ∃ D : DataW Unit, w.ownsMap Tryz.prog 9 unitElem m (Maps.size D) D ∧ Maps.size D ≤ B ∧ ∀ c, Maps.has D (.string c) = g c := by subst hk; exact h

/-- what is known when a kid was made, and t.nodes is set -/
theorem kid_step {w0 w : World} {F0 : List Nat} {t B : Nat} {hn nn : Int} {nd : Path → Nd} {N : List Path} {Hs : List (Path × Str)} (h : TS w0 F0 w t B hn nn nd N Hs) {p : Path} (hp : p ∈ N) {x : Str} (hx : p ++ [x] ∉ N) (hx2 : ∀ y, p ++ [x] ++ [y] ∉ N) (hHs : ∀ c, (p ++ [x], c) ∉ Hs)
    {m b : Nat} (hkb : (nd p).kb = some m) (hb : (nd p).b = b) (hxs : (⟨x.toArray⟩ : ByteArray).size ≤ maxLen) {D : DataW Unit} (hD1 : w.ownsMap Tryz.prog 9 ptrElem m (Maps.size D) D) (hD2 : Maps.size D ≤ B) (hD3 : ∀ x, Maps.has D (.string x) = (kidOf nd N p x).isSome ∧ ∀ b, kidOf nd N p x = some b → ∀ z, D.atKey (.string x) z = ptrDat b)
    (v : Int) (w2 : World) (n : Nat) (hown2 : w2.ownsMap Tryz.prog 9 ptrElem m n (D.put (.string x) (ptrDat w.heap.size))) (hg : (w.alloc (.cells #[.map none, .map none] 105)).grownBy w2 (some m)) :
    ∃ nd3, w2.cell? ⟨t, 3, none⟩ = some (.int .i64 nn) ∧ w2.frozen? ⟨t, 3, none⟩ = false ∧ (w2.setCell ⟨t, 3, none⟩ (.int .i64 v)).cell? ⟨b, 0, none⟩ = some (.map (some m)) ∧
      (Instr.lookup 103 (.map (some m)) (.string ⟨x.toArray⟩) false).run Tryz.prog (w2.setCell ⟨t, 3, none⟩ (.int .i64 v)) = .ok (.pointer (some ⟨w.heap.size, 0, none⟩)) (w2.setCell ⟨t, 3, none⟩ (.int .i64 v)) ∧
      (nd3 (p ++ [x])).b = w.heap.size ∧ TS w0 F0 (w2.setCell ⟨t, 3, none⟩ (.int .i64 v)) t (B + 1) hn v nd3 ((p ++ [x]) :: N) Hs := by
  have h2 := h.addKid hp hx hx2 hHs hkb hD1 hD2 hD3 hown2 hg
  have h3 := h2.count 3 v (.inr rfl)
  simp only [if_true, show ¬ (3 : Nat) = 2 by omega, if_false] at h3
  have hpx : p ≠ p ++ [x] := fun e => hx (e ▸ hp)
  have hp3 : p ∈ (p ++ [x]) :: N := by simp [hp]
  have hx3 : p ++ [x] ∈ (p ++ [x]) :: N := by simp
  have e3 : updN nd (p ++ [x]) ⟨w.heap.size, none, none⟩ p = nd p := updN_other hpx
  have f3 := h2.rep.fz h2.rep.has0 3
  rw [h2.rep.root] at f3
  have c0 := h3.rep.c0 hp3
  rw [e3, hb, hkb] at c0
  have hl := (h3.rep.kids p hp3).look hxs
  rw [e3, hkb, str_data, kidOf, if_pos hx3, updN_same] at hl
  exact ⟨_, h2.rep.c2.2, f3, c0, hl, by rw [updN_same], h3⟩

theorem cl_step {w0 w : World} {F0 : List Nat} {t B : Nat} {hn nn : Int} {nd : Path → Nd} {N : List Path} {Hs : List (Path × Str)} (h : TS w0 F0 w t B hn nn nd N Hs) {p : Path} (hp : p ∈ N) {c : Str}
    {m : Nat} (hcb : (nd p).cb = some m) {D : DataW Unit} (hD1 : w.ownsMap Tryz.prog 9 unitElem m (Maps.size D) D) (hD2 : Maps.size D ≤ B) (hD3 : ∀ x, Maps.has D (.string x) = decide ((p, x) ∈ Hs))
    (v : Int) (w2 : World) (n : Nat) (hown2 : w2.ownsMap Tryz.prog 9 unitElem m n (D.put (.string c) (.agg []))) (hg : w.grownBy w2 (some m)) :
    w2.cell? ⟨t, 2, none⟩ = some (.int .i64 hn) ∧ w2.frozen? ⟨t, 2, none⟩ = false ∧ TS w0 F0 (w2.setCell ⟨t, 2, none⟩ (.int .i64 v)) t (B + 1) v nn nd N ((p, c) :: Hs) := by
  have h2 := h.addCl hp hcb hD1 hD2 hD3 hown2 hg
  have h3 := h2.count 2 v (.inl rfl)
  simp only [if_true, show ¬ (2 : Nat) = 3 by omega, if_false] at h3
  have f3 := h2.rep.fz h2.rep.has0 2
  rw [h2.rep.root] at f3
  exact ⟨h2.rep.c2.1, f3, h3⟩
theorem ts_prep {w w0 w' : World} {F0 : List Nat} {t B B' : Nat} {hn nn : Int} {nd : Path → Nd} {N : List Path} {Hs : List (Path × Str)} (h : TS w0 F0 w' t B hn nn nd N Hs) (ht : Tight N Hs) (hhn : hn = Hs.length) (hnn : nn = N.length) (hb : Below w.heap.size w w0) (hB : B ≤ B') :
    ∃ F', PRep w' t B' N Hs F' ∧ Upd F0 F' w w' := by
  subst hhn hnn
  refine ⟨foot nd N, ⟨nd, ht, (h.monoB hB).rep, rfl⟩, (Mod.of_below hb F0).trans h.mod (fun k hk => .inl hk), fun k hk => ?_⟩
  obtain ⟨p, hp, hk⟩ := mem_foot.1 hk
  rcases h.ft p hp k hk with h1 | h1
  · exact .inl h1
  · exact .inr (Nat.le_trans hb.size h1)

set_option maxRecDepth 100000 in
set_option maxHeartbeats 4000000 in
theorem tadd_yes (t B : Nat) (s c : ByteArray) (Ns : List Path) (Hs : List (Path × Str)) (F : List Nat) (w : World) (h : PRep w t B Ns Hs F) (hT : Tabs w) (hs : s.size < 4294967281) (hc : c.size ≤ maxLen) (hf : filterB s.data.toList = true) (hB : B < 100000000) (hN : Ns.length < 100000000) (hH : Hs.length < 100000000) :
    Calls Tryz.prog 35 #[.pointer (some ⟨t, 0, none⟩), .string s, .string c] w fun e w' => e = .returned (.bool (!decide ((levels s.data.toList, c.data.toList) ∈ Hs))) ∧
      ∃ F', PRep w' t (B + (s.size + 2)) (addN [] (levels s.data.toList) Ns) (if (levels s.data.toList, c.data.toList) ∈ Hs then Hs else (levels s.data.toList, c.data.toList) :: Hs) F' ∧ Upd F F' w w' := by
  have HF := Lib.hid (filter_any s w hT hs)
  rw [hf] at HF
  have HL := Lib.hid (fun W hT => levels_any s W hT hs)
  have HT := Lib.hid hT
  have hLl := levels_len_le s.data.toList
  have hLs := Lib.hid (levels_sum s.data.toList)
  have hL0 := levels_ne s.data.toList
  rw [show s.data.toList.length = s.size from rfl] at hLl hLs
  generalize levels s.data.toList = L at *
  obtain ⟨nd, ht, hr, rfl⟩ := h
  have HTI := Lib.hid ht
  have HRP := Lib.hid hr
  clear hT ht hr hf
  have qK := eqK
  have qC := eqC
  have hmm := @run_makeMap Tryz.prog
  go_enter Tryz.func35, Tryz.ntmps35
  go_wp2_with fail
  refine HF.out.mono ?_
  rintro e w1 ⟨rfl, hk⟩
  have HK := Lib.hid hk
  go_wp2_with fail
  refine (HL.out _ (HT.out.below hk)).mono ?_
  rintro e w5 ⟨a, ca, rfl, hra, hk2⟩
  have HK5 := Lib.hid (bnext hk (Nat.le_refl _) hk2)
  have hR5 := HRP.out.keep (w' := w5) (fun p hp k hk' => HK5.out.block k (HRP.out.lt p hp k hk'))
  have HS := Lib.hid (show TS w5 (foot nd Ns) w5 t (B + 0) Hs.length Ns.length nd Ns Hs from ⟨hR5, Mod.refl _ _, fun p hp k hk => .inl (mem_foot.2 ⟨p, hp, hk⟩)⟩)
  have HRO := Lib.hid (fun W (hm : Mod (foot nd Ns) w5 W) => hra.mod hm (row_off hR5 hra hL0))
  clear hk hk2 hra hR5 HK HF HL
  go_wp2_with fail
  go_loopw [7, 25] (fun n i wr => ∃ (k : Nat) (nd' : Path → Nd), i = .int .i64 k ∧ k ≤ L.length ∧ n = .pointer (some ⟨(nd' (L.take k)).b, 0, none⟩) ∧ TS w5 (foot nd Ns) wr t (B + k) Hs.length (addN [] (L.take k) Ns).length nd' (addN [] (L.take k) Ns) Hs) (fun _ i _ => (L.length - intOf i).toNat)
  case atStart => exact ⟨0, nd, rfl, by omega, by rw [List.take_zero, HRP.out.root], by simpa [addN] using HS.out⟩
  case round =>
    obtain ⟨k, nd1, rfl, hk, rfl, hS⟩ := hrel
    clear HS
    have HS1 := Lib.hid hS
    clear hS
    have hNl : (addN [] (L.take k) Ns).length ≤ Ns.length + k := by have := len_addN_le (r := L.take k) (p := []) (Ns := Ns); rw [List.length_take] at this; omega
    by_cases hlt : k < L.length
    · have hk0 : (0 : Int) ≤ k := by omega
      have hkL : (k : Int) < L.length := by omega
      have hp := take_addN (L := L) HTI.out.root k
      have hN1 : ∀ q, q ∈ addN [] (L.take k) Ns ↔ q ∈ Ns ∨ ∃ s, s ≠ [] ∧ s <+: L.take k ∧ q = [] ++ s := fun q => mem_addN
      have hst := addN_app (r := L.take k) (y := L[k]) (p := []) (Ns := Ns)
      rw [← List.take_succ_eq_append_getElem hlt, List.nil_append] at hst
      have HTK := Lib.hid (List.take_succ_eq_append_getElem hlt)
      obtain ⟨b1, o1, rfl, k0⟩ := strs_row (HRO.out _ HS1.out.mod) (k := k) (x := L[k]) (by simp [hlt])
      have hxl := hLs.out L[k] (List.getElem_mem hlt)
      have hpl : (L.take k).length = k := by rw [List.length_take]; omega
      obtain ⟨N2, hN2e⟩ : ∃ N2, addN [] (L.take (k + 1)) Ns = N2 := ⟨_, rfl⟩
      rw [hN2e] at hst
      have HE2 := Lib.hid hN2e
      clear hN2e
      generalize hN1e : addN [] (L.take k) Ns = N1 at *
      generalize L[k] = x at *
      generalize hpe : L.take k = p at *
      have hxs : (⟨x.toArray⟩ : ByteArray).size ≤ maxLen := by show x.length ≤ _; unfold maxLen; omega
      have hkb0 := HS1.out.rep.kids p hp
      have c0 := HS1.out.rep.c0 hp
      have f0 := HS1.out.rep.fz hp 0
      by_cases hx : p ++ [x] ∈ N1
      · have hkn : kidOf nd1 N1 p x = some (nd1 (p ++ [x])).b := if_pos hx
        obtain ⟨m, hkb⟩ : ∃ m, (nd1 p).kb = some m := by
          cases hkb : (nd1 p).kb with
          | none => rw [hkb] at hkb0; rw [hkb0 x] at hkn; cases hkn
          | some m => exact ⟨m, rfl⟩
        have hl := hkb0.look hxs
        rw [hkb, str_data, hkn] at hl
        simp only [ptrV] at hl
        rw [hkb] at c0
        have HN2 := Lib.hid (hst.trans (if_pos hx))
        clear hkb0 hst hN1 hkb
        go_wp2_with fail
        go_roundw
        case rel => exact ⟨k + 1, nd1, by go_num, by omega, by rw [HTK.out], by rw [HE2.out, HN2.out]; exact HS1.out.monoB (by omega)⟩
        case measure => simp [intOf]; omega
      · have hkn : ∀ nd, kidOf nd N1 p x = none := fun nd => if_neg hx
        have hHs2 : ∀ c, (p ++ [x], c) ∉ Hs := fun c hc => hx ((hN1 _).2 (.inl (HTI.out.hint hc)))
        have hx2 : ∀ y, p ++ [x] ++ [y] ∉ N1 := fun y hy => by
          rcases (hN1 _).1 hy with h1 | ⟨s, -, h1, h2⟩
          · exact hx ((hN1 _).2 (.inl (HTI.out.up h1 ⟨[y], rfl⟩)))
          · have := h1.length_le
            rw [List.nil_append] at h2
            rw [← h2] at this
            simp at this
            omega
        have HN2 := Lib.hid (hst.trans (if_neg hx))
        clear hst
        cases hkb : (nd1 p).kb with
        | none =>
          rw [hkb] at c0
          have hA := (Below.heap_alloc wr (.map #[] 0) _ (HS1.out.rep.lt p hp _ (blocks_b _))).trans (HS1.out.rep.cell p hp)
          have fA := frozen_of_row _ _ 0 _ _ hA
          have cA := (cell_of_row _ _ 0 _ _ _ hA).trans cells_at.1
          clear hA
          have HS2 := Lib.hid (HS1.out.newKids hp hkb)
          have hkb2 : (updN nd1 p { nd1 p with kb := some wr.heap.size } p).kb = some wr.heap.size := by rw [updN_same]
          have hb2 : (updN nd1 p { nd1 p with kb := some wr.heap.size } p).b = (nd1 p).b := by rw [updN_same]
          generalize updN nd1 p { nd1 p with kb := some wr.heap.size } = nd2 at *
          clear hkb0
          obtain ⟨D, hD1, hD2, hD3⟩ := kidsD (HS2.out.rep.kids _ hp) hkb2
          have hown3 := hD1.alloc (.cells #[.map none, .map none] 105)
          have hsz : Maps.size D < maxLen := by unfold maxLen; omega
          have HAK := Lib.hid (kid_step HS2.out hp hx hx2 hHs2 hkb2 hb2 hxs hD1 hD2 hD3 ((N1.length : Int) + 1))
          have hz1 : ((wr.alloc (.map #[] 0)).setCell ⟨(nd1 p).b, 0, none⟩ (.map (some wr.heap.size))).heap.size = wr.heap.size + 1 := by simp
          rw [hz1] at HAK
          clear hz1
          have hl1 := (HS2.out.rep.kids _ hp).look hxs
          rw [hkb2, str_data, hkn] at hl1
          simp only [ptrV] at hl1
          have c0' := HS2.out.rep.c0 hp
          rw [hkb2, hb2] at c0'
          have hw1 : IntKind.i64.wrap ((N1.length : Int) + 1) = (N1.length : Int) + 1 := w_i64 _ (by omega) (by omega)
          clear hD1 hD2 hD3 hx2 hHs2 hkn hN1
          go_wp2_with (first | (at_mapUpdate; refine wpList_mapUpdate_own _ rfl _ _ _ 103 rfl 9 102 kS Tryz.underlying103 _ wr.heap.size _ _ rfl hown3 hsz _ _ _ rfl rfl (skey hxs) _ [] (ptrElem_mk _) ?_; intro w3 hown4 hgrow4; obtain ⟨nd3, c3, f3, c4, hl4, hb3, hS4⟩ := HAK.out w3 _ hown4 hgrow4; have HS4 := Lib.hid hS4; clear hown4 hgrow4 hS4) | fail)
          go_roundw
          case rel => exact ⟨k + 1, nd3, by go_num, by omega, by rw [HTK.out, hb3], by rw [HE2.out, HN2.out]; exact HS4.out.monoB (by omega)⟩
          case measure => simp [intOf]; omega
        | some m =>
          rw [hkb] at c0
          have HS2 := HS1
          have hkb2 := hkb
          have hb2 : (nd1 p).b = (nd1 p).b := rfl
          clear hkb0
          obtain ⟨D, hD1, hD2, hD3⟩ := kidsD (HS2.out.rep.kids _ hp) hkb2
          have hown3 := hD1.alloc (.cells #[.map none, .map none] 105)
          have hsz : Maps.size D < maxLen := by unfold maxLen; omega
          have HAK := Lib.hid (kid_step HS2.out hp hx hx2 hHs2 hkb2 hb2 hxs hD1 hD2 hD3 ((N1.length : Int) + 1))
          have hl1 := (HS2.out.rep.kids _ hp).look hxs
          rw [hkb2, str_data, hkn] at hl1
          simp only [ptrV] at hl1
          have c0' := HS2.out.rep.c0 hp
          rw [hkb2, hb2] at c0'
          have hw1 : IntKind.i64.wrap ((N1.length : Int) + 1) = (N1.length : Int) + 1 := w_i64 _ (by omega) (by omega)
          clear hD1 hD2 hD3 hx2 hHs2 hkn hN1
          go_wp2_with (first | (at_mapUpdate; refine wpList_mapUpdate_own _ rfl _ _ _ 103 rfl 9 102 kS Tryz.underlying103 _ m _ _ rfl hown3 hsz _ _ _ rfl rfl (skey hxs) _ [] (ptrElem_mk _) ?_; intro w3 hown4 hgrow4; obtain ⟨nd3, c3, f3, c4, hl4, hb3, hS4⟩ := HAK.out w3 _ hown4 hgrow4; have HS4 := Lib.hid hS4; clear hown4 hgrow4 hS4) | fail)
          go_roundw
          case rel => exact ⟨k + 1, nd3, by go_num, by omega, by rw [HTK.out, hb3], by rw [HE2.out, HN2.out]; exact HS4.out.monoB (by omega)⟩
          case measure => simp [intOf]; omega
    · have hkL : ¬ (k : Int) < L.length := by omega
      have etk : L.take k = L := List.take_of_length_le (by omega)
      rw [etk] at HS1 hNl ⊢
      have hp : L ∈ addN [] L Ns := by have := take_addN (L := L) HTI.out.root k; rwa [etk] at this
      have HTA := Lib.hid (fun (hin : (L, c.data.toList) ∉ Hs) => tight_add HTI.out hin)
      have HTH := Lib.hid (fun (hin : (L, c.data.toList) ∈ Hs) => add_there HTI.out hin)
      generalize hN1e : addN [] L Ns = N1 at *
      have hcl := HS1.out.rep.cls L hp
      have c1 := HS1.out.rep.c1 hp
      have hlk := hcl.look hc
      have HSZ := Lib.hid (HS1.out.below ((Below.refl _ _).alloc (Nat.le_refl _) (.cells #[] 108)))
      clear HRO hLs hL0
      by_cases hin : (L, c.data.toList) ∈ Hs
      · have HE := Lib.hid (HTH.out hin)
        rw [decide_eq_true hin] at hlk
        clear hcl HTA HTH
        go_wp2_with fail
        go_ret
        exact ⟨rfl, ts_prep HSZ.out (by rw [HE.out]; exact HTI.out) rfl rfl HK5.out (by omega)⟩
      · have HTA := Lib.hid (HTA.out hin)
        rw [decide_eq_false hin] at hlk
        have c1z := HSZ.out.rep.c1 hp
        have hw1 : IntKind.i64.wrap ((Hs.length : Int) + 1) = (Hs.length : Int) + 1 := w_i64 _ (by omega) (by omega)
        have hA := (Below.heap_alloc (wr.alloc (.cells #[] 108)) (.map #[] 0) _ (HSZ.out.rep.lt L hp _ (blocks_b _))).trans (HSZ.out.rep.cell L hp)
        clear hcl HTH
        cases hcb : (nd1 L).cb with
        | none =>
          rw [hcb] at c1 c1z hlk
          have fA := frozen_of_row _ _ 1 _ _ hA
          have cA := (cell_of_row _ _ 1 _ _ _ hA).trans cells_at.2
          rw [hcb] at cA
          clear hA
          have HS2 := Lib.hid (HSZ.out.newCl hp hcb)
          have hcb2 : (updN nd1 L { nd1 L with cb := some (wr.alloc (.cells #[] 108)).heap.size } L).cb = some (wr.alloc (.cells #[] 108)).heap.size := by rw [updN_same]
          have hb2 : (updN nd1 L { nd1 L with cb := some (wr.alloc (.cells #[] 108)).heap.size } L).b = (nd1 L).b := by rw [updN_same]
          generalize updN nd1 L { nd1 L with cb := some (wr.alloc (.cells #[] 108)).heap.size } = nd2 at *
          rw [World.size_alloc] at HS2 hcb2
          obtain ⟨D, hD1, hD2, hD3⟩ := clD (HS2.out.rep.cls _ hp) hcb2
          have hD1' := hD1
          have hsz : Maps.size D < maxLen := by unfold maxLen; omega
          have HAK := Lib.hid (cl_step (c := c.data.toList) HS2.out hp hcb2 hD1 hD2 hD3 ((Hs.length : Int) + 1))
          have c0' := HS2.out.rep.c1 hp
          rw [hcb2, hb2] at c0'
          clear hD1 hD2 hD3
          go_wp2_with (first | (at_mapUpdate; refine wpList_mapUpdate_own _ rfl _ _ _ 100 rfl 9 108 kS Tryz.underlying100 _ (wr.heap.size + 1) _ _ rfl hD1' hsz _ _ _ rfl rfl (skey hc) _ [] unitElem_mk ?_; intro w3 hown4 hgrow4; obtain ⟨c3, f3, hS4⟩ := HAK.out w3 _ hown4 hgrow4; have HS4 := Lib.hid hS4; clear hown4 hgrow4 hS4) | fail)
          go_ret
          exact ⟨rfl, ts_prep HS4.out HTA.out (by simp) (by simp) HK5.out (by omega)⟩
        | some m =>
          rw [hcb] at c1 c1z hlk
          clear hA
          have HS2 := HSZ
          have hcb2 := hcb
          have hb2 : (nd1 L).b = (nd1 L).b := rfl
          obtain ⟨D, hD1, hD2, hD3⟩ := clD (HS2.out.rep.cls _ hp) hcb2
          have hD1' := hD1
          have hsz : Maps.size D < maxLen := by unfold maxLen; omega
          have HAK := Lib.hid (cl_step (c := c.data.toList) HS2.out hp hcb2 hD1 hD2 hD3 ((Hs.length : Int) + 1))
          have c0' := HS2.out.rep.c1 hp
          rw [hcb2, hb2] at c0'
          clear hD1 hD2 hD3
          go_wp2_with (first | (at_mapUpdate; refine wpList_mapUpdate_own _ rfl _ _ _ 100 rfl 9 108 kS Tryz.underlying100 _ m _ _ rfl hD1' hsz _ _ _ rfl rfl (skey hc) _ [] unitElem_mk ?_; intro w3 hown4 hgrow4; obtain ⟨c3, f3, hS4⟩ := HAK.out w3 _ hown4 hgrow4; have HS4 := Lib.hid hS4; clear hown4 hgrow4 hS4) | fail)
          go_ret
          exact ⟨rfl, ts_prep HS4.out HTA.out (by simp) (by simp) HK5.out (by omega)⟩
end
section
open Go Go.RowKit Go.Maps

/-- what Remove's 'from' has captured -/
structure RemW (bl bc bf bt t : Nat) (L : Path) (c : ByteArray) (w : World) : Prop where
  l : ∃ a ca, w.cell? ⟨bl, 0, none⟩ = some (.slice a L.length ca) ∧ Row w a (strs L)
  c : w.cell? ⟨bc, 0, none⟩ = some (.string c)
  self : w.cell? ⟨bf, 0, none⟩ = some (.func (.func 68) #[] #[.pointer (some ⟨bl, 0, none⟩), .pointer (some ⟨bc, 0, none⟩), .pointer (some ⟨bf, 0, none⟩), .pointer (some ⟨bt, 0, none⟩)])
  t : w.cell? ⟨bt, 0, none⟩ = some (.pointer (some ⟨t, 0, none⟩))
def remN (p L : Path) (c : Str) (Ns : List Path) (Hs : List (Path × Str)) : List Path := if (L, c) ∈ Hs then cut p (Hs.erase (L, c)) Ns else Ns
theorem len_filter_ne {l : List Path} {a : Path} (hn : l.Nodup) (ha : a ∈ l) : (l.filter fun q => q != a).length + 1 = l.length := by
  induction l with
  | nil => simp at ha
  | cons y r ih =>
    obtain ⟨h1, h2⟩ := List.nodup_cons.1 hn
    by_cases e : y = a
    · subst e
      have : r.filter (fun q => q != y) = r := by
        rw [List.filter_eq_self]
        intro z hz
        simp only [bne_iff_ne, ne_eq]
        rintro rfl
        exact h1 hz
      simp [this]
    · have := ih h2 (by simpa [show ¬ a = y from fun e' => e e'.symm] using ha)
      rw [List.filter_cons_of_pos (by simpa using e)]
      simp only [List.length_cons]; omega

theorem drop_step {w0 w : World} {F0 : List Nat} {t B : Nat} {hn nn : Int} {nd : Path → Nd} {N : List Path} {Hs : List (Path × Str)} (h : TS w0 F0 w t B hn nn nd N Hs) {p : Path} (hp : p ∈ N) {x : Str}
    {m : Nat} (hkb : (nd p).kb = some m) {D : DataW Unit} (hD1 : w.ownsMap Tryz.prog 9 ptrElem m (Maps.size D) D) (hD2 : Maps.size D ≤ B) (hD3 : ∀ x, Maps.has D (.string x) = (kidOf nd N p x).isSome ∧ ∀ b, kidOf nd N p x = some b → ∀ z, D.atKey (.string x) z = ptrDat b)
    (v : Int) (w2 : World) (n : Nat) (hown2 : w2.ownsMap Tryz.prog 9 ptrElem m n (D.del (.string x))) (hg : w.grownBy w2 (some m)) :
    w2.cell? ⟨t, 3, none⟩ = some (.int .i64 nn) ∧ w2.frozen? ⟨t, 3, none⟩ = false ∧ Mod F0 w0 w2 ∧ TS w0 F0 (w2.setCell ⟨t, 3, none⟩ (.int .i64 v)) t B hn v nd (N.filter fun q => q != p ++ [x]) Hs := by
  have h2 := h.dropKid hp hkb hD1 hD2 hD3 hown2 hg
  have h3 := h2.count 3 v (.inr rfl)
  simp only [if_true, show ¬ (3 : Nat) = 2 by omega, if_false] at h3
  have f3 := h2.rep.fz h2.rep.has0 3
  rw [h2.rep.root] at f3
  exact ⟨h2.rep.c2.2, f3, h2.mod, h3⟩

set_option maxRecDepth 100000 in
set_option maxHeartbeats 4000000 in
theorem rem_from (bl bc bf bt t : Nat) (L : Path) (c : ByteArray) (w0 : World) (F0 : List Nat) (hc : c.size ≤ maxLen) (hLs : ∀ x ∈ L, x.length ≤ 4294967296) (hE : ∀ W, Mod F0 w0 W → RemW bl bc bf bt t L c W) (B : Nat) (hB : B < 200000000) (hLl : L.length < 4294967296) (hn : Int) :
    ∀ (n i : Nat) (w : World) (nd : Path → Nd) (Ns : List Path) (Hs : List (Path × Str)), L.length = i + n → TS w0 F0 w t B hn Ns.length nd Ns Hs → Tight Ns Hs → L.take i ∈ Ns → Ns.length < 200000000 →
    Calls Tryz.prog 68 #[.pointer (some ⟨(nd (L.take i)).b, 0, none⟩), .int .i64 i, .pointer (some ⟨bl, 0, none⟩), .pointer (some ⟨bc, 0, none⟩), .pointer (some ⟨bf, 0, none⟩), .pointer (some ⟨bt, 0, none⟩)] w fun e w' =>
      e = .returned (.bool (decide ((L, c.data.toList) ∈ Hs))) ∧ TS w0 F0 w' t B hn (remN (L.take i) L c.data.toList Ns Hs).length nd (remN (L.take i) L c.data.toList Ns Hs) (Hs.erase (L, c.data.toList)) := by
  intro n
  induction n with
  | zero =>
    intro i w nd Ns Hs hn' hS hTi hp hNl
    have HS := Lib.hid hS
    have HR := Lib.hid (hE w hS.mod)
    have etk : L.take i = L := List.take_of_length_le (by omega)
    rw [etk] at hp ⊢
    have HEND : Hid (remN L L c.data.toList Ns Hs = Ns) := Lib.hid (by unfold remN; split; exact cut_all hTi; rfl)
    rw [HEND.out]
    obtain ⟨a, ca, cl, -⟩ := HR.out.l
    have cc := HR.out.c
    have h1 : ((i : Int) == L.length) = true := by simp; omega
    have c1 := hS.rep.c1 hp
    have hcl := hS.rep.cls L hp
    have HLK := Lib.hid (fun (W : World) (hb : Below w.heap.size w W) => show (Instr.lookup 100 (.map (nd L).cb) (.string c) true).run Tryz.prog W = .ok (.tuple #[.agg #[], .bool (decide ((L, c.data.toList) ∈ Hs))]) W from (hcl.of (w' := W) (fun m hm => hb.block m (hS.rep.lt L hp m (blocks_cb hm))) (Nat.le_refl _) (fun _ => rfl)).look hc)
    have hnd := hTi.hn
    obtain ⟨bin, hbin⟩ : ∃ b, decide ((L, c.data.toList) ∈ Hs) = b := ⟨_, rfl⟩
    rw [hbin] at HLK ⊢
    have HSZ := Lib.hid ((hS.drewN 1).below ((Below.refl _ _).alloc (Nat.le_refl _) (.cells #[] 108)))
    have HBZ := Lib.hid (show Below w.heap.size w ((w.drewN 1).alloc (.cells #[] 108)) from (below_drewN (Below.refl _ _) 1).alloc (Nat.le_refl _) _)
    have hl1 := HLK.out _ (below_drewN (Below.refl _ _) 1)
    have hl2 := HLK.out _ HBZ.out
    have c2 := HSZ.out.rep.c1 hp
    have cc2 := (hE _ HSZ.out.mod).c
    have hcl2 := HSZ.out.rep.cls L hp
    generalize hcbe : (nd L).cb = cb at *
    clear hS etk hE hLs hcl HLK
    go_enter Tryz.func68, Tryz.ntmps68
    go_wp2_with fail
    refine wp_region_held_drew (S := fun W => W.cell? ⟨(nd L).b, 1, none⟩ = some (.map cb) ∧ W.cell? ⟨bc, 0, none⟩ = some (.string c) ∧ (Instr.lookup 100 (.map cb) (.string c) true).run Tryz.prog W = .ok (.tuple #[.agg #[], .bool bin]) W) (by kernel_rfl) ⟨c1, cc, hl1⟩ (fun hHeld => ?_)
    refine wpAnyH_take (i := 0) (v := ?_) rfl (by kernel_rfl) (by kernel_rfl) (by kernel_rfl) (fun _ _ _ h => h) (Or.inl ⟨rfl, ?_⟩) hHeld ?_
    rotate_left
    · intro w0 hS0
      try dsimp only at hS0
      go_simp
      try with_reducible rfl
    simp only [List.getElem_toArray, List.getElem_cons_zero, Act.put, List.setIfInBounds_toArray, List.set_cons_zero, List.set_cons_succ]
    refine wpAnyH_take (i := 1) (v := ?_) rfl (by kernel_rfl) (by kernel_rfl) (by kernel_rfl) (fun _ _ _ h => h) (Or.inl ⟨rfl, ?_⟩) hHeld ?_
    rotate_left
    · intro w0 hS0
      try dsimp only at hS0
      go_simp
      try with_reducible rfl
    simp only [List.getElem_toArray, List.getElem_cons_zero, List.getElem_cons_succ, Act.put, List.setIfInBounds_toArray, List.set_cons_zero, List.set_cons_succ]
    refine wpAnyH_take (i := 2) (v := ?_) rfl (by kernel_rfl) (by kernel_rfl) (by kernel_rfl) (fun _ _ _ h => h) (Or.inl ⟨rfl, ?_⟩) hHeld ?_
    rotate_left
    · intro w0 hS0
      try dsimp only at hS0
      go_simp
      try with_reducible rfl
    simp only [List.getElem_toArray, List.getElem_cons_zero, List.getElem_cons_succ, Act.put, List.setIfInBounds_toArray, List.set_cons_zero, List.set_cons_succ]
    refine wpAnyH_take (i := 3) (v := ?_) rfl (by kernel_rfl) (by kernel_rfl) (by kernel_rfl) (fun _ _ _ h => h) (Or.inl ⟨rfl, ?_⟩) hHeld ?_
    rotate_left
    · intro w0 hS0
      try dsimp only at hS0
      go_simp
      try with_reducible rfl
    simp only [List.getElem_toArray, List.getElem_cons_zero, List.getElem_cons_succ, Act.put, List.setIfInBounds_toArray, List.set_cons_zero, List.set_cons_succ]
    refine wpAnyH_take (i := 4) (v := ?_) rfl (by kernel_rfl) (by kernel_rfl) (by kernel_rfl) (fun _ _ _ h => h) (Or.inl ⟨rfl, ?_⟩) hHeld ?_
    rotate_left
    · intro w0 hS0
      try dsimp only at hS0
      go_simp
      try with_reducible rfl
    simp only [List.getElem_toArray, List.getElem_cons_zero, List.getElem_cons_succ, Act.put, List.setIfInBounds_toArray, List.set_cons_zero, List.set_cons_succ]
    refine wpAnyH_take (i := 5) (v := ?_) rfl (by kernel_rfl) (by kernel_rfl) (by kernel_rfl) (fun _ _ _ h => h) (Or.inl ⟨rfl, ?_⟩) hHeld ?_
    rotate_left
    · intro w0 hS0
      try dsimp only at hS0
      go_simp
      try with_reducible rfl
    simp only [List.getElem_toArray, List.getElem_cons_zero, List.getElem_cons_succ, Act.put, List.setIfInBounds_toArray, List.set_cons_zero, List.set_cons_succ]
    refine wpAnyH_take (i := 6) (v := ?_) rfl (by kernel_rfl) (by kernel_rfl) (by kernel_rfl) (fun _ _ _ h => h) (Or.inl ⟨rfl, ?_⟩) hHeld ?_
    rotate_left
    · intro w0 hS0
      try dsimp only at hS0
      go_simp
      try with_reducible rfl
    simp only [List.getElem_toArray, List.getElem_cons_zero, List.getElem_cons_succ, Act.put, List.setIfInBounds_toArray, List.set_cons_zero, List.set_cons_succ]
    refine wpAnyH_take (i := 7) (v := ?_) rfl (by kernel_rfl) (by kernel_rfl) (by kernel_rfl) (fun _ _ _ h => h) (Or.inl ⟨rfl, ?_⟩) hHeld ?_
    rotate_left
    · intro w0 hS0
      try dsimp only at hS0
      go_simp
      try with_reducible rfl
    simp only [List.getElem_toArray, List.getElem_cons_zero, List.getElem_cons_succ, Act.put, List.setIfInBounds_toArray, List.set_cons_zero, List.set_cons_succ]
    refine wpAnyH_take (i := 8) (v := ?_) rfl (by kernel_rfl) (by kernel_rfl) (by kernel_rfl) (fun _ _ _ h => h) (Or.inl ⟨rfl, ?_⟩) hHeld ?_
    rotate_left
    · intro w0 hS0
      try dsimp only at hS0
      go_simp
      try with_reducible rfl
    simp only [List.getElem_toArray, List.getElem_cons_zero, List.getElem_cons_succ, Act.put, List.setIfInBounds_toArray, List.set_cons_zero, List.set_cons_succ]
    refine wpAnyH_ready (rs := [9]) (by kernel_rfl) (by simp) ?_
    refine AllReadyH.cons rfl (fun K hK => ?_) AllReadyH.nil
    rw [if_pos (by rfl)]
    go_simp
    refine hK.out _ _ ⟨c2, cc2, hl2⟩ (fun hHeld => ?_)
    refine wpAnyH_ready (rs := [10]) (by kernel_rfl) (by simp) ?_
    refine AllReadyH.cons rfl (fun K hK => ?_) AllReadyH.nil
    rw [if_pos (by rfl)]
    go_simp
    refine hK.out _ _ ⟨c2, cc2, hl2⟩ (fun hHeld => ?_)
    refine wpAnyH_take (i := 11) (v := ?_) rfl (by kernel_rfl) (by kernel_rfl) (by kernel_rfl) (fun _ _ _ h => h) (Or.inl ⟨rfl, ?_⟩) hHeld ?_
    rotate_left
    · intro w0 hS0
      try dsimp only at hS0
      go_simp
      try with_reducible rfl
    simp only [List.getElem_toArray, List.getElem_cons_zero, List.getElem_cons_succ, Act.put, List.setIfInBounds_toArray, List.set_cons_zero, List.set_cons_succ]
    refine wpAnyH_done (by kernel_rfl) ?_ _
    change Exit.then _ _ _ _ ((w.drewN 1).alloc (.cells #[] 108))
    clear hHeld c1 cc hl1 hl2 cl h1
    generalize (w.drewN 1).alloc (.cells #[] 108) = w2 at *
    go_wp2_with fail
    go_still_tail 5, (by kernel_rfl)
    change wpList _ _ _ _ _ w2.drew
    cases cb with
    | none =>
      have hnil : (L, c.data.toList) ∉ Hs := by simpa using hcl2 c.data.toList
      have HER := Lib.hid (List.erase_of_not_mem hnil)
      have hdn : ∀ ty W, (Builtin.delete_ #[100, 9] ty #[.map none, .string c]).run Tryz.prog W = .ok (.tuple #[]) W := fun ty W => Maps.drop_nil kS Tryz.underlying100 (skey hc) ty
      go_wp2_with fail
      go_ret
      exact ⟨rfl, by rw [HER.out]; exact HSZ.out.drewN 1⟩
    | some m =>
      obtain ⟨D, hD1, hD2, hD3⟩ := hcl2
      have HDEL := Lib.hid (fun w3 n hown hg => (HSZ.out.drewN 1).delCl hp hcbe hD1.drew hD2 hD3 (c := c.data.toList) (w2 := w3) (n := n) hown hg hnd)
      have hD := hD1.drew
      clear hD1 hD2 hD3
      go_wp2_with (first | (at_delete; refine wpList_delete_own _ rfl _ _ 100 9 rfl 108 kS Tryz.underlying100 _ m _ _ rfl hD _ _ rfl (skey hc) ?_; intro w3 hown3 hturn3) | fail)
      go_ret
      exact ⟨rfl, HDEL.out _ _ hown3 hturn3.grown⟩
  | succ n ih =>
    intro i w nd Ns Hs hn' hS hTi hp hNl
    have HI := Lib.hid ih
    have HS := Lib.hid hS
    have HTI := Lib.hid hTi
    have hlt : i < L.length := by omega
    have hi0 : (0 : Int) ≤ i := by omega
    have hiL : (i : Int) < L.length := by omega
    have h1 : ((i : Int) == L.length) = false := by simp; omega
    have hw1 : IntKind.i64.wrap ((i : Int) + 1) = (i : Int) + 1 := w_i64 _ (by omega) (by omega)
    have etk1 := List.take_succ_eq_append_getElem hlt
    have hxs : (⟨L[i].toArray⟩ : ByteArray).size ≤ maxLen := by have := hLs _ (List.getElem_mem hlt); show L[i].length ≤ _; unfold maxLen; omega
    have hpre : ∃ r, L = L.take i ++ L[i] :: r := ⟨L.drop (i + 1), by rw [← List.drop_eq_getElem_cons hlt, List.take_append_drop]⟩
    have HBOX := Lib.hid (fun W (hm : Mod F0 w0 W) => show (∃ a ca b o, a = some ⟨b, o, none⟩ ∧ W.cell? ⟨bl, 0, none⟩ = some (.slice a L.length ca) ∧ W.cell? ⟨b, o + i, none⟩ = some (.string ⟨L[i].toArray⟩)) ∧ W.cell? ⟨bf, 0, none⟩ = some (.func (.func 68) #[] #[.pointer (some ⟨bl, 0, none⟩), .pointer (some ⟨bc, 0, none⟩), .pointer (some ⟨bf, 0, none⟩), .pointer (some ⟨bt, 0, none⟩)]) ∧ W.cell? ⟨bt, 0, none⟩ = some (.pointer (some ⟨t, 0, none⟩)) from by
      obtain ⟨⟨a, ca, c1, c2⟩, -, c3, c4⟩ := hE W hm
      obtain ⟨b, o, ha, k0⟩ := strs_row c2 (k := i) (x := L[i]) (by simp [hlt])
      exact ⟨⟨a, ca, b, o, ha, c1, k0⟩, c3, c4⟩)
    have HNN := Lib.hid hn'
    have hin : i + 1 ≤ L.length := by omega
    generalize L[i] = x at *
    generalize hpe : L.take i = p at *
    obtain ⟨⟨_, ca, b1, o1, rfl, cl, k0⟩, cf, ct⟩ := HBOX.out w hS.mod
    have c0 := hS.rep.c0 hp
    have hkk := hS.rep.kids p hp
    have hlq := fun n => (hkk.of (w' := w.drewN n) (fun _ _ => rfl) (Nat.le_refl _) (fun _ => rfl)).look hxs
    rw [str_data] at hlq
    by_cases hx : p ++ [x] ∈ Ns
    · rw [show kidOf nd Ns p x = some (nd (p ++ [x])).b from if_pos hx] at hlq
      simp only [ptrV] at hlq
      have HC := Lib.hid (fun (m : Nat) => HI.out (i + 1) (w.drewN m) nd Ns Hs (by have := HNN.out; omega) (HS.out.drewN m) HTI.out (by rw [etk1]; exact hx) hNl)
      rw [etk1, show ((i + 1 : Nat) : Int) = (i : Int) + 1 by omega] at HC
      obtain ⟨bin, hbin⟩ : ∃ b, decide ((L, c.data.toList) ∈ Hs) = b := ⟨_, rfl⟩
      rw [hbin] at HC ⊢
      clear hkk hS hn' hTi
      cases bin with
      | false =>
        have hnin : (L, c.data.toList) ∉ Hs := by simpa using hbin
        have HE1 := Lib.hid (show remN (p ++ [x]) L c.data.toList Ns Hs = Ns by unfold remN; rw [if_neg hnin])
        have HE2 := Lib.hid (show remN p L c.data.toList Ns Hs = Ns by unfold remN; rw [if_neg hnin])
        rw [HE1.out] at HC
        rw [HE2.out]
        clear hE hLs hbin hpre
        go_enter Tryz.func68, Tryz.ntmps68
        go_wp2_with fail
        go_quiet (fail)
        go_wp2_with fail
        refine (HC.out nq).mono ?_
        rintro e w2 ⟨rfl, hS2⟩
        have HS2 := Lib.hid hS2
        clear hS2
        go_wp2_with fail
        go_ret
        exact ⟨rfl, HS2.out⟩
      | true =>
        have hyin : (L, c.data.toList) ∈ Hs := by simpa using hbin
        have HE1 := Lib.hid (show remN (p ++ [x]) L c.data.toList Ns Hs = cut (p ++ [x]) (Hs.erase (L, c.data.toList)) Ns by unfold remN; rw [if_pos hyin])
        have HE2 := Lib.hid (show remN p L c.data.toList Ns Hs = cut p (Hs.erase (L, c.data.toList)) Ns by unfold remN; rw [if_pos hyin])
        have hstep : cut p (Hs.erase (L, c.data.toList)) Ns = if live (Hs.erase (L, c.data.toList)) (p ++ [x]) then cut (p ++ [x]) (Hs.erase (L, c.data.toList)) Ns else (cut (p ++ [x]) (Hs.erase (L, c.data.toList)) Ns).filter fun q => q != p ++ [x] := by
          obtain ⟨r, hr⟩ := hpre
          have := cut_step HTI.out (p := p) (x := x) (r := r) (c := c.data.toList)
          rw [← hr] at this
          exact this
        have hdead := dead_iff HTI.out (ls := L) (c := c.data.toList) (q := p ++ [x])
        have hnd1 : (cut (p ++ [x]) (Hs.erase (L, c.data.toList)) Ns).Nodup := HTI.out.nn.filter _
        have hx1 : p ++ [x] ∈ cut (p ++ [x]) (Hs.erase (L, c.data.toList)) Ns := mem_cut.2 ⟨hx, fun _ h => absurd rfl h⟩
        have hp1 : p ∈ cut (p ++ [x]) (Hs.erase (L, c.data.toList)) Ns := mem_cut.2 ⟨hp, fun h => absurd h.length_le (by simp)⟩
        have hl1 : (cut (p ++ [x]) (Hs.erase (L, c.data.toList)) Ns).length ≤ Ns.length := List.length_filter_le _ _
        rw [HE1.out] at HC
        rw [HE2.out]
        generalize cut (p ++ [x]) (Hs.erase (L, c.data.toList)) Ns = N1 at *
        generalize cut p (Hs.erase (L, c.data.toList)) Ns = N2 at *
        generalize Hs.erase (L, c.data.toList) = Hs1 at *
        clear hE hLs hbin hpre HE1 HE2
        go_enter Tryz.func68, Tryz.ntmps68
        go_wp2_with fail
        go_quiet (fail)
        go_wp2_with fail
        refine (HC.out nq).mono ?_
        rintro e w2 ⟨rfl, hS2⟩
        have HS2 := Lib.hid hS2
        obtain ⟨n1, hB1, hz1, hq1⟩ := (hS2.rep.kids _ hx1).len
        obtain ⟨n2, hB2, hz2, hq2⟩ := (hS2.rep.cls _ hx1).len
        have e0 := hS2.rep.c0 hx1
        have e1 := hS2.rep.c1 hx1
        have hq1' := fun n ty => hq1 ty (w2.drewN n) (fun _ _ => rfl)
        have hq2' := fun n ty => hq2 ty (w2.drewN n) (fun _ _ => rfl)
        have hw2 : IntKind.i64.wrap ((n1 : Int) + n2) = (n1 : Int) + n2 := w_i64 _ (by omega) (by omega)
        have hzz : (n1 = 0 ∧ n2 = 0) ↔ live Hs1 (p ++ [x]) = false := by
          rw [hz1, hz2, hdead]
          refine and_congr (forall_congr' fun y => ?_) (forall_congr' fun d => by simp)
          unfold kidOf
          split
          · rename_i h; exact ⟨fun e => (by cases e), fun e => absurd h e⟩
          · rename_i h; exact ⟨fun _ => h, fun _ => rfl⟩
        clear hz1 hz2 hq1 hq2 hS2 hdead c0 cl k0 cf ct hlq HC
        cases hlv : live Hs1 (p ++ [x]) with
        | true =>
          rw [hlv] at hstep
          simp only [if_true] at hstep
          subst hstep
          have hsum : ((n1 : Int) + n2 == 0) = false := by
            rw [beq_eq_false_iff_ne]
            intro h
            have := hzz.1 ⟨by omega, by omega⟩
            rw [hlv] at this; cases this
          clear hzz
          go_wp2_with fail
          go_quiet (fail)
          go_wp2_with fail
          go_ret
          exact ⟨rfl, HS2.out.drewN _⟩
        | false =>
          rw [hlv] at hstep
          simp only [Bool.false_eq_true, if_false] at hstep
          obtain ⟨h0, h0'⟩ := hzz.2 hlv
          subst h0 h0'
          clear hzz
          go_wp2_with fail
          go_quiet (fail)
          have HS3 := Lib.hid (HS2.out.drewN nq)
          generalize w2.drewN nq = w3 at *
          clear hq1' hq2' e0 e1
          obtain ⟨⟨_, ca3, b3, o3, rfl, cl3, k3⟩, -, -⟩ := HBOX.out w3 HS3.out.mod
          have c0 := HS3.out.rep.c0 hp1
          have hkk := HS3.out.rep.kids p hp1
          obtain ⟨m, hkb⟩ : ∃ m, (nd p).kb = some m := by
            have hkn : kidOf nd N1 p x = some (nd (p ++ [x])).b := if_pos hx1
            cases hkb : (nd p).kb with
            | none => rw [hkb] at hkk; rw [hkk x] at hkn; cases hkn
            | some m => exact ⟨m, rfl⟩
          rw [hkb] at c0
          obtain ⟨D, hD1, hD2, hD3⟩ := kidsD hkk hkb
          have HDK := Lib.hid (fun v (_ : v = (N1.length : Int) - 1) => drop_step (HS3.out.drewN 1) hp1 (x := x) hkb hD1.drew hD2 hD3 v)
          have hD := hD1.drew
          have hw3 : IntKind.i64.wrap ((N1.length : Int) - 1) = (N1.length : Int) - 1 := w_i64 _ (by omega) (by omega)
          have hlen : (((N1.filter fun q => q != p ++ [x]).length : Nat) : Int) = (N1.length : Int) - 1 := by have h5 : (N1.filter fun q => q != p ++ [x]).length + 1 = N1.length := len_filter_ne hnd1 hx1; omega
          subst hstep
          clear hD1 hD2 hD3 hkk
          go_wp2_with fail
          go_still_tail 8, (by kernel_rfl)
          change wpList _ _ _ _ _ w3.drew
          go_wp2_with (first | (at_delete; refine wpList_delete_own _ rfl _ _ 103 9 rfl 102 kS Tryz.underlying103 _ m _ _ rfl hD _ _ rfl (skey hxs) ?_; intro w4 hown4 hturn4; obtain ⟨c3, f3, hm4, hS4⟩ := HDK.out _ rfl _ _ hown4 hturn4.grown; have HS4 := Lib.hid hS4; have ct4 := (HBOX.out w4 hm4).2.2; clear hS4 hm4 hown4 hturn4) | fail)
          go_ret
          exact ⟨rfl, by rw [hlen]; exact HS4.out⟩
    · have hnin : (L, c.data.toList) ∉ Hs := fun h => hx (HTI.out.up (HTI.out.hint h) (by obtain ⟨r, hr⟩ := hpre; exact ⟨r, by rw [hr]; simp⟩))
      rw [show kidOf nd Ns p x = none from if_neg hx] at hlq
      simp only [ptrV] at hlq
      have HE2 := Lib.hid (show remN p L c.data.toList Ns Hs = Ns by unfold remN; rw [if_neg hnin])
      have HE3 := Lib.hid (List.erase_of_not_mem hnin)
      have HE4 := Lib.hid (decide_eq_false hnin)
      rw [HE2.out, HE3.out, HE4.out]
      clear hE hLs hpre hkk hS hTi hn'
      go_enter Tryz.func68, Tryz.ntmps68
      go_wp2_with fail
      go_quiet (fail)
      go_wp2_with fail
      go_ret
      exact ⟨rfl, HS.out.drewN _⟩
end
section
open Go Go.RowKit Go.Maps

theorem trem_no (t : Nat) (s c : ByteArray) (w : World) (hT : Tabs w) (hs : s.size < 4294967281) (hf : filterB s.data.toList = false) :
    Calls Tryz.prog 37 #[.pointer (some ⟨t, 0, none⟩), .string s, .string c] w fun e w' => e = .returned (.bool false) ∧ Below w.heap.size w w' := by
  have hb : Below w.heap.size w ((w.alloc (.cells #[.pointer (some ⟨t, 0, none⟩)] 63)).alloc (.cells #[.string c] 9)) := ((Below.refl _ _).alloc (Nat.le_refl _) _).alloc (by simp) _
  have c3 : ((w.alloc (.cells #[.pointer (some ⟨t, 0, none⟩)] 63)).alloc (.cells #[.string c] 9)).cell? ⟨w.heap.size, 0, none⟩ = some (.pointer (some ⟨t, 0, none⟩)) :=
    cell_of_row _ _ 0 _ _ _ ((Below.heap_alloc _ _ _ (by simp)).trans (heap_alloc_new w _))
  have HF := Lib.hid (filter_any s _ (hT.below hb) hs)
  rw [hf] at HF
  have HB := Lib.hid hb
  clear hT hf hb
  go_enter Tryz.func37, Tryz.ntmps37
  go_wp2_with fail
  refine HF.out.mono ?_
  rintro e w1 ⟨rfl, hk⟩
  have HK := Lib.hid (bnext HB.out (by simp) hk)
  clear hk
  go_wp2_with fail
  go_ret
  exact ⟨rfl, HK.out⟩

set_option maxRecDepth 100000 in
set_option maxHeartbeats 4000000 in
theorem trem_yes (t B : Nat) (s c : ByteArray) (Ns : List Path) (Hs : List (Path × Str)) (F : List Nat) (w : World) (h : PRep w t B Ns Hs F) (hT : Tabs w) (hs : s.size < 4294967281) (hc : c.size ≤ maxLen) (hf : filterB s.data.toList = true) (hB : B < 200000000) (hN : Ns.length < 200000000) (hH : Hs.length < 200000000) :
    Calls Tryz.prog 37 #[.pointer (some ⟨t, 0, none⟩), .string s, .string c] w fun e w' => e = .returned (.bool (decide ((levels s.data.toList, c.data.toList) ∈ Hs))) ∧
      ∃ F', PRep w' t B (remN [] (levels s.data.toList) c.data.toList Ns Hs) (Hs.erase (levels s.data.toList, c.data.toList)) F' ∧ Upd F F' w w' := by
  have hb : Below w.heap.size w ((w.alloc (.cells #[.pointer (some ⟨t, 0, none⟩)] 63)).alloc (.cells #[.string c] 9)) := ((Below.refl _ _).alloc (Nat.le_refl _) _).alloc (by simp) _
  have h3 : ((w.alloc (.cells #[.pointer (some ⟨t, 0, none⟩)] 63)).alloc (.cells #[.string c] 9)).heap[w.heap.size]? = some (.cells #[.pointer (some ⟨t, 0, none⟩)] 63 (0, 0)) := (Below.heap_alloc _ _ _ (by simp)).trans (heap_alloc_new w _)
  have h5 : ((w.alloc (.cells #[.pointer (some ⟨t, 0, none⟩)] 63)).alloc (.cells #[.string c] 9)).heap[w.heap.size + 1]? = some (.cells #[.string c] 9 (0, 0)) := by have := heap_alloc_new (w.alloc (.cells #[.pointer (some ⟨t, 0, none⟩)] 63)) (.cells #[.string c] 9); rwa [World.size_alloc] at this
  have c3 := cell_of_row _ _ 0 _ _ _ h3
  have HF := Lib.hid (filter_any s _ (hT.below hb) hs)
  rw [hf] at HF
  have HL := Lib.hid (fun W hT => levels_any s W hT hs)
  have HT := Lib.hid (hT.below hb)
  have HP := Lib.hid (h.below hb)
  have hlt2 := h.lt
  have HB := Lib.hid hb
  have H3 := Lib.hid h3
  have H5 := Lib.hid h5
  have hLl := levels_len_le s.data.toList
  have hLs := Lib.hid (levels_sum s.data.toList)
  have hL0 := levels_ne s.data.toList
  rw [show s.data.toList.length = s.size from rfl] at hLl hLs
  generalize levels s.data.toList = L at *
  clear hT hf hb h h3 h5
  obtain ⟨bin, hbin⟩ : ∃ b, decide ((L, c.data.toList) ∈ Hs) = b := ⟨_, rfl⟩
  rw [hbin]
  go_enter Tryz.func37, Tryz.ntmps37
  go_wp2_with fail
  refine HF.out.mono ?_
  rintro e w1 ⟨rfl, hk⟩
  have HK := Lib.hid hk
  go_wp2_with fail
  refine (HL.out _ (HT.out.below hk)).mono ?_
  rintro e w2 ⟨a, ca, rfl, hra, hk2⟩
  go_wp2_with fail
  have hb12 : Below ((w.alloc (.cells #[.pointer (some ⟨t, 0, none⟩)] 63)).alloc (.cells #[.string c] 9)).heap.size ((w.alloc (.cells #[.pointer (some ⟨t, 0, none⟩)] 63)).alloc (.cells #[.string c] 9)) w2 := bnext hk (Nat.le_refl _) hk2
  have hb2 : Below w.heap.size w w2 := bnext HB.out (by simp) hb12
  have h3 := (hb12.block _ (by simp; omega)).trans H3.out
  have h5 := (hb12.block _ (by simp)).trans H5.out
  have hP2 := HP.out.below hb12
  have hs2 : w.heap.size + 2 ≤ w2.heap.size := by have := hb12.size; simp at this; omega
  obtain ⟨nd, hti, hr, rfl⟩ := hP2
  have hoff := row_off hr hra hL0
  have hb25 : Below w2.heap.size w2 ((w2.alloc (.cells #[.slice a L.length ca] 33)).alloc (.cells #[.func (.func 68) #[] #[.pointer (some ⟨w2.heap.size, 0, none⟩), .pointer (some ⟨w.heap.size + 1, 0, none⟩), .pointer (some ⟨w2.heap.size + 1, 0, none⟩), .pointer (some ⟨w.heap.size, 0, none⟩)]] 122)) := ((Below.refl _ _).alloc (Nat.le_refl _) _).alloc (by simp) _
  have h7 : ((w2.alloc (.cells #[.slice a L.length ca] 33)).alloc (.cells #[.func (.func 68) #[] #[.pointer (some ⟨w2.heap.size, 0, none⟩), .pointer (some ⟨w.heap.size + 1, 0, none⟩), .pointer (some ⟨w2.heap.size + 1, 0, none⟩), .pointer (some ⟨w.heap.size, 0, none⟩)]] 122)).heap[w2.heap.size]? = some (.cells #[.slice a L.length ca] 33 (0, 0)) := (Below.heap_alloc _ _ _ (by simp)).trans (heap_alloc_new w2 _)
  have h8 : ((w2.alloc (.cells #[.slice a L.length ca] 33)).alloc (.cells #[.func (.func 68) #[] #[.pointer (some ⟨w2.heap.size, 0, none⟩), .pointer (some ⟨w.heap.size + 1, 0, none⟩), .pointer (some ⟨w2.heap.size + 1, 0, none⟩), .pointer (some ⟨w.heap.size, 0, none⟩)]] 122)).heap[w2.heap.size + 1]? = some (.cells #[.func (.func 68) #[] #[.pointer (some ⟨w2.heap.size, 0, none⟩), .pointer (some ⟨w.heap.size + 1, 0, none⟩), .pointer (some ⟨w2.heap.size + 1, 0, none⟩), .pointer (some ⟨w.heap.size, 0, none⟩)]] 122 (0, 0)) := by have := heap_alloc_new (w2.alloc (.cells #[.slice a L.length ca] 33)) (.cells #[.func (.func 68) #[] #[.pointer (some ⟨w2.heap.size, 0, none⟩), .pointer (some ⟨w.heap.size + 1, 0, none⟩), .pointer (some ⟨w2.heap.size + 1, 0, none⟩), .pointer (some ⟨w.heap.size, 0, none⟩)]] 122); rwa [World.size_alloc] at this
  have h3 := (hb25.block _ (Array.getElem?_eq_some_iff.1 h3).1).trans h3
  have h5 := (hb25.block _ (Array.getElem?_eq_some_iff.1 h5).1).trans h5
  have hR5 := hr.keep (w' := ((w2.alloc (.cells #[.slice a L.length ca] 33)).alloc (.cells #[.func (.func 68) #[] #[.pointer (some ⟨w2.heap.size, 0, none⟩), .pointer (some ⟨w.heap.size + 1, 0, none⟩), .pointer (some ⟨w2.heap.size + 1, 0, none⟩), .pointer (some ⟨w.heap.size, 0, none⟩)]] 122))) (fun p hp k hk => hb25.block k (hr.lt p hp k hk))
  have hra5 := hra.below hb25 (Nat.le_refl _)
  have hb5 : Below w.heap.size w ((w2.alloc (.cells #[.slice a L.length ca] 33)).alloc (.cells #[.func (.func 68) #[] #[.pointer (some ⟨w2.heap.size, 0, none⟩), .pointer (some ⟨w.heap.size + 1, 0, none⟩), .pointer (some ⟨w2.heap.size + 1, 0, none⟩), .pointer (some ⟨w.heap.size, 0, none⟩)]] 122)) := bnext hb2 (Nat.le_refl _) hb25
  generalize ((w2.alloc (.cells #[.slice a L.length ca] 33)).alloc (.cells #[.func (.func 68) #[] #[.pointer (some ⟨w2.heap.size, 0, none⟩), .pointer (some ⟨w.heap.size + 1, 0, none⟩), .pointer (some ⟨w2.heap.size + 1, 0, none⟩), .pointer (some ⟨w.heap.size, 0, none⟩)]] 122)) = w5 at *
  have HE : Hid (∀ W, Mod (foot nd Ns) w5 W → RemW w2.heap.size (w.heap.size + 1) (w2.heap.size + 1) w.heap.size t L c W) := Lib.hid fun W hm => by
    have hg : ∀ (k : Nat) (o : Obj), w5.heap[k]? = some o → w.heap.size ≤ k → W.heap[k]? = some o := fun k o ho hk => (hm.block k (Array.getElem?_eq_some_iff.1 ho).1 (fun hf => by have := hlt2 k hf; omega)).trans ho
    exact ⟨⟨a, ca, cell_of_row _ _ 0 _ _ _ (hg _ _ h7 (by omega)), hra5.mod hm hoff⟩, cell_of_row _ _ 0 _ _ _ (hg _ _ h5 (by omega)), cell_of_row _ _ 0 _ _ _ (hg _ _ h8 (by omega)), cell_of_row _ _ 0 _ _ _ (hg _ _ h3 (by omega))⟩
  have HS := Lib.hid (show TS w5 (foot nd Ns) w5.drew t B Hs.length Ns.length nd Ns Hs from TS.drewN (w := w5) ⟨hR5, Mod.refl _ _, fun p hp k hk => .inl (mem_foot.2 ⟨p, hp, hk⟩)⟩ 1)
  have HC := Lib.hid (rem_from w2.heap.size (w.heap.size + 1) (w2.heap.size + 1) w.heap.size t L c w5 (foot nd Ns) hc (fun x hx => by have := hLs.out x hx; omega) HE.out B hB (by omega) Hs.length L.length 0 w5.drew nd Ns Hs (by omega) HS.out hti (by simpa using hti.root) hN)
  have HTI := Lib.hid hti
  rw [List.take_zero, hr.root, hbin] at HC
  have HB5 := Lib.hid hb5
  obtain ⟨-, -, cf, ct⟩ := HE.out _ HS.out.mod
  clear hk hk2 hra hb12 hb2 hlt2 hoff hb25 h7 h8 h3 h5 hR5 hra5 hb5 hti hr HB HT HP HL HF H3 H5 HK c3
  refine wp_region_held_drew (S := fun W => W.cell? ⟨w2.heap.size + 1, 0, none⟩ = some (.func (.func 68) #[] #[.pointer (some ⟨w2.heap.size, 0, none⟩), .pointer (some ⟨w.heap.size + 1, 0, none⟩), .pointer (some ⟨w2.heap.size + 1, 0, none⟩), .pointer (some ⟨w.heap.size, 0, none⟩)]) ∧ W.cell? ⟨w.heap.size, 0, none⟩ = some (.pointer (some ⟨t, 0, none⟩))) (by kernel_rfl) ⟨cf, ct⟩ (fun hHeld => ?_)
  refine wpAnyH_take (i := 0) (v := ?_) rfl (by kernel_rfl) (by kernel_rfl) (by kernel_rfl) (fun _ _ _ h => h) (Or.inl ⟨rfl, ?_⟩) hHeld ?_
  rotate_left
  · intro w0 hS0
    try dsimp only at hS0
    go_simp
    try with_reducible rfl
  simp only [List.getElem_toArray, List.getElem_cons_zero, Act.put, List.setIfInBounds_toArray, List.set_cons_zero, List.set_cons_succ]
  refine wpAnyH_take (i := 1) (v := ?_) rfl (by kernel_rfl) (by kernel_rfl) (by kernel_rfl) (fun _ _ _ h => h) (Or.inl ⟨rfl, ?_⟩) hHeld ?_
  rotate_left
  · intro w0 hS0
    try dsimp only at hS0
    go_simp
    try with_reducible rfl
  simp only [List.getElem_toArray, List.getElem_cons_zero, List.getElem_cons_succ, Act.put, List.setIfInBounds_toArray, List.set_cons_zero, List.set_cons_succ]
  refine wpAnyH_take (i := 2) (v := ?_) rfl (by kernel_rfl) (by kernel_rfl) (by kernel_rfl) (fun _ _ _ h => h) (Or.inl ⟨rfl, ?_⟩) hHeld ?_
  rotate_left
  · intro w0 hS0
    try dsimp only at hS0
    go_simp
    try with_reducible rfl
  simp only [List.getElem_toArray, List.getElem_cons_zero, List.getElem_cons_succ, Act.put, List.setIfInBounds_toArray, List.set_cons_zero, List.set_cons_succ]
  refine wpAnyH_take (i := 3) (v := ?_) rfl (by kernel_rfl) (by kernel_rfl) (by kernel_rfl) (fun _ _ _ h => h) (Or.inl ⟨rfl, ?_⟩) hHeld ?_
  rotate_left
  · intro w0 hS0
    try dsimp only at hS0
    go_simp
    try with_reducible rfl
  simp only [List.getElem_toArray, List.getElem_cons_zero, List.getElem_cons_succ, Act.put, List.setIfInBounds_toArray, List.set_cons_zero, List.set_cons_succ]
  refine wpAnyH_ready (rs := [4]) (by kernel_rfl) (by simp) ?_
  refine AllReadyH.cons rfl (fun K hK => ?_) AllReadyH.nil
  rw [if_pos (by rfl)]
  go_simp
  go_at_call 68
  refine HC.out.mono ?_
  rintro e w6 ⟨rfl, hS6⟩
  have HS6 := Lib.hid hS6
  obtain ⟨-, -, cf6, ct6⟩ := HE.out _ hS6.mod
  refine hK.out _ _ ⟨cf6, ct6⟩ (fun hHeld => ?_)
  clear hS6 cf6 ct6 cf ct HC HS
  refine wpAnyH_take (i := 5) (v := ?_) rfl (by kernel_rfl) (by kernel_rfl) (by kernel_rfl) (fun _ _ _ h => h) (Or.inl ⟨rfl, ?_⟩) hHeld ?_
  rotate_left
  · intro w0 hS0
    try dsimp only at hS0
    go_simp
    try with_reducible rfl
  simp only [List.getElem_toArray, List.getElem_cons_zero, List.getElem_cons_succ, Act.put, List.setIfInBounds_toArray, List.set_cons_zero, List.set_cons_succ]
  refine wpAnyH_done (by kernel_rfl) ?_ _
  have hti6 : Tight (remN [] L c.data.toList Ns Hs) (Hs.erase (L, c.data.toList)) := by
    unfold remN
    split
    · exact tight_rem HTI.out
    · rename_i h; rw [List.erase_of_not_mem h]; exact HTI.out
  have HTI6 := Lib.hid hti6
  have hft : ∀ p ∈ remN [] L c.data.toList Ns Hs, p ∈ Ns := by
    intro p hp
    unfold remN at hp
    split at hp
    · exact (mem_cut.1 hp).1
    · exact hp
  have HFT := Lib.hid hft
  have HLE := Lib.hid (fun (h : (L, c.data.toList) ∈ Hs) => List.length_erase_of_mem h)
  have HPOS := Lib.hid (fun (h : (L, c.data.toList) ∈ Hs) => List.length_pos_of_mem h)
  have HLN := Lib.hid (fun (h : (L, c.data.toList) ∉ Hs) => congrArg List.length (List.erase_of_not_mem h))
  clear hti6 hft
  have HB5' := HB5
  cases bin with
  | false =>
    have hnin : (L, c.data.toList) ∉ Hs := by simpa using hbin
    go_wp2_with fail
    go_ret
    exact ⟨rfl, ts_prep HS6.out HTI6.out (by rw [HLN.out hnin]) rfl HB5'.out (Nat.le_refl _)⟩
  | true =>
    have hyin : (L, c.data.toList) ∈ Hs := by simpa using hbin
    have hlen := HLE.out hyin
    have hpos := HPOS.out hyin
    obtain ⟨c2, -⟩ := HS6.out.rep.c2
    have f2 := HS6.out.rep.fz HS6.out.rep.has0 2
    rw [HS6.out.rep.root] at f2
    have hw1 : IntKind.i64.wrap ((Hs.length : Int) - 1) = (Hs.length : Int) - 1 := w_i64 _ (by omega) (by omega)
    have ct := hHeld.2
    have HFIN := Lib.hid (HS6.out.count 2 ((Hs.length : Int) - 1) (.inl rfl))
    simp only [if_true, show ¬ (2 : Nat) = 3 by omega, if_false] at HFIN
    clear hHeld
    go_wp2_with fail
    go_ret
    exact ⟨rfl, ts_prep HFIN.out HTI6.out (by rw [hlen]; omega) rfl HB5'.out (Nat.le_refl _)⟩
end
section
open Go Go.RowKit Go.Maps

theorem mod_grown {S : List Nat} {w w' : World} {r : Option Nat} (hg : w.grownBy w' r) (hr : ∀ k, r = some k → k ∈ S) : Mod S w w' := (Mod.refl S w).grown hg (fun k hk => .inl (hr k hk))
set_option maxRecDepth 100000 in
set_option maxHeartbeats 4000000 in
theorem mcopy_some (bd bs B : Nat) (Dd : DataW Unit) (g : Str → Bool) (w : World) (hd : w.ownsMap Tryz.prog 9 unitElem bd (Maps.size Dd) Dd) (hs : ClAt w B (some bs) g) (hne : bd ≠ bs) (hroom : Maps.size Dd + B ≤ 4294967296) :
    Calls Tryz.prog 57 #[.map (some bd), .map (some bs)] w fun e w' => e = .returned (.tuple #[]) ∧ ∃ D' : DataW Unit, w'.ownsMap Tryz.prog 9 unitElem bd (Maps.size D') D' ∧ Maps.size D' ≤ Maps.size Dd + B ∧
      (∀ c, Maps.has D' (.string c) = (Maps.has Dd (.string c) || g c)) ∧ Mod [bd] w w' := by
  obtain ⟨Ds, hs, hsB, hsg⟩ := hs
  have hbd := hd.lt
  have hbs := hs.lt
  have HSG := Lib.hid hsg
  clear hsg
  go_enter Tryz.func57, Tryz.ntmps57
  go_wp2_with (first
    | (at_range; refine wpList_range_own _ rfl _ 100 rfl 9 108 kS Tryz.underlying100 unitElem bs _ _ rfl hs ?_; intro w0 hrg0 hg0 hs0)
    | fail)
  go_frame
  go_loopw [8] (fun _ wr => ∃ (left : Lit → Bool) (cnt : Nat) (Dout : DataW Unit), wr.ranges Tryz.prog 9 unitElem bs w.heap.size (Maps.size Ds) Ds left cnt ∧ cnt ≤ Maps.size Ds ∧
      wr.ownsMap Tryz.prog 9 unitElem bd (Maps.size Dd + (Maps.size Ds - cnt)) Dout ∧ (∀ c, Maps.has Dout (.string c) = (Maps.has Dd (.string c) || (Maps.has Ds (.string c) && !left (.string c)))) ∧ Mod [bd] w wr)
    (fun _ wr => wr.rangeLeft bs w.heap.size)
  case atStart =>
    exact ⟨_, _, Dd, hrg0, Nat.le_refl _, (hd.kept hg0 (by simp)).mono (by omega), fun c => by simp, mod_grown hg0 (by simp)⟩
  case round =>
    obtain ⟨left, cnt, Dout, hrg, hcs, hout, hM, hgw⟩ := hrel
    go_wp2_with (first
      | (at_next; refine wpList_next_ranges _ rfl _ rfl 9 kS unitElem id (fun (_ : Unit) => Value.agg #[]) (fun key _ _ => ⟨key, rfl⟩) (fun v y hv => ⟨(), (unitElem_inv hv).1⟩) bs w.heap.size _ _ _ _ rfl hrg ?_ ?_)
      | fail)
    · intro hc0 hl0
      have hfin : ∀ c, Maps.has Dout (.string c) = (Maps.has Dd (.string c) || g c) := fun c => by rw [hM, hl0, HSG.out]; simp
      have HF := Lib.hid (show ∃ D' : DataW Unit, wr.ownsMap Tryz.prog 9 unitElem bd (Maps.size D') D' ∧ Maps.size D' ≤ Maps.size Dd + B ∧ (∀ c, Maps.has D' (.string c) = (Maps.has Dd (.string c) || g c)) ∧ Mod [bd] w wr from ⟨Dout, owns_tightR hout, by have := hout.size_le; omega, hfin, hgw⟩)
      clear hfin hM hgw hout hrg hl0
      go_wp2_with fail
      go_end0
      exact ⟨rfl, HF.out⟩
    · intro x kl yd yp w1 cnt1 hkey hlx hv hat hrg1 hlt hg1 hs1 hen
      obtain ⟨z, rfl, rfl, hzl⟩ := Maps.keyOf_str Tryz.underlying9 hkey
      obtain ⟨rfl, rfl⟩ : yd = .agg [] ∧ yp = [] := by have := (unitElem_inv hv).2; simpa using this
      have hbz : Below w1.heap.size w1 (w1.alloc (.cells #[] 108)) := (Below.refl _ _).alloc (Nat.le_refl _) _
      have hout1 := (hout.kept hg1 (fun e => by have := Option.some.inj e; omega)).alloc (.cells #[] 108)
      have hmx : Maps.size Dd + (Maps.size Ds - cnt) < maxLen := by unfold maxLen; omega
      have hhas : Maps.has Ds (.string z) = true := Maps.has_true_of_atKey hat
      have HM := Lib.hid hM
      have HW := Lib.hid hgw
      have hrg1' := hrg1.alloc (.cells #[] 108)
      have HG1 := Lib.hid hg1
      have HAT := Lib.hid hat
      have HLX := Lib.hid hlx
      clear hat hlx hM hgw hg1
      go_wp2_with (first
        | (at_mapUpdate; refine wpList_mapUpdate_own _ rfl _ _ _ 100 rfl 9 108 kS Tryz.underlying100 unitElem bd _ _ rfl hout1 hmx _ _ _ rfl rfl hkey _ [] unitElem_mk ?_; intro w2 hout2 hg2; go_frame)
        | fail)
      have hrg2 := hrg1'.kept hg2 (fun e => hne (Option.some.inj e).symm) (fun e => by have := Option.some.inj e; omega)
      have hT := hout1.tidy kS
      go_roundw
      case rel =>
        refine ⟨_, cnt1, _, hrg2, by omega, hout2.mono (by omega), fun c => ?_, ?_⟩
        · by_cases e : c = z
          · subst e
            rw [has_put_same hT.isMap (klS _), hhas]
            simp [Lit.sameKey]
          · have ez : (c == z) = false := by simpa using e
            rw [has_put_other (by simpa using e), HM.out]
            simp [Lit.sameKey, ez]
        · exact ((HW.out.grown HG1.out (fun k hk => .inr (by cases hk; exact Nat.le_refl _))).next hbz).grown hg2 (fun k hk => .inl (by cases hk; simp))
      case measure => rw [hrg2.left_eq, hrg.left_eq]; exact hlt
set_option maxHeartbeats 1000000 in
theorem mcopy_nil (bd : Nat) (w : World) : Calls Tryz.prog 57 #[.map (some bd), .map none] w fun e w' => e = .returned (.tuple #[]) ∧ Below w.heap.size w w' := by
  have hrg := run_range_nilMap (P := Tryz.prog) w 100 _ _ Tryz.underlying100
  have hnx : ∀ ty, (Instr.next (.pointer (some ⟨w.heap.size, 0, none⟩)) false ty).run Tryz.prog (w.alloc (.mapIter none 0 #[] 0)) = _ := fun ty => run_next_nilMap _ ty 0 0 #[]
  go_enter Tryz.func57, Tryz.ntmps57
  go_wp2_with fail
  refine wp_loop_rounds 1 ?_
  rw [rounds_succ]
  go_wp2_with fail
  go_end0
  exact ⟨rfl, (Below.refl _ _).alloc (Nat.le_refl _) _⟩
theorem mcopy_any (bd B : Nat) (Dd : DataW Unit) (ps : Option Nat) (g : Str → Bool) (w : World) (hd : w.ownsMap Tryz.prog 9 unitElem bd (Maps.size Dd) Dd) (hs : ClAt w B ps g) (hne : ps ≠ some bd) (hroom : Maps.size Dd + B ≤ 4294967296) :
    Calls Tryz.prog 57 #[.map (some bd), .map ps] w fun e w' => e = .returned (.tuple #[]) ∧ ∃ D' : DataW Unit, w'.ownsMap Tryz.prog 9 unitElem bd (Maps.size D') D' ∧ Maps.size D' ≤ Maps.size Dd + B ∧
      (∀ c, Maps.has D' (.string c) = (Maps.has Dd (.string c) || g c)) ∧ Mod [bd] w w' := by
  cases ps with
  | none =>
    refine (mcopy_nil bd w).mono ?_
    rintro e w' ⟨rfl, hb⟩
    exact ⟨rfl, Dd, owns_block hd (hb.block bd hd.lt), by omega, fun c => by rw [show g c = false from hs c]; simp, Mod.of_below hb _⟩
  | some bs => exact mcopy_some bd bs B Dd g w hd hs (fun e => hne (by rw [e])) hroom
end
end Go.Proofs.YthfdcphecggjeaaGreatDoor
