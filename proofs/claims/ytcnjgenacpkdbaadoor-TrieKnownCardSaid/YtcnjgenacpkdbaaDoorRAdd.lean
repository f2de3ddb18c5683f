/- The trie: New, Len, Nodes, Add walked. -/
import Derived.Test.YtcnjgenacpkdbaaDoorRTS
import Derived.StillTailTactics
namespace Go.Proofs.YtcnjgenacpkdbaaDoor
open Go Go.RowKit Go.Maps

def foot (nd : Path → Nd) (Ns : List Path) : List Nat := Ns.flatMap fun p => (nd p).blocks
theorem mem_foot {nd : Path → Nd} {Ns : List Path} {k : Nat} : k ∈ foot nd Ns ↔ ∃ p ∈ Ns, k ∈ (nd p).blocks := by simp [foot]
/-- The trie lies at block t: its nodes, its hints by paths; its blocks are F. -/
def PRep (w : World) (t B : Nat) (Ns : List Path) (Hs : List (Path × Str)) (F : List Nat) : Prop :=
  ∃ nd, Tight Ns Hs ∧ MemRep w t B Hs.length Ns.length nd Ns Hs ∧ F = foot nd Ns
theorem PRep.lt {w : World} {t B : Nat} {Ns : List Path} {Hs : List (Path × Str)} {F : List Nat} (h : PRep w t B Ns Hs F) : ∀ k ∈ F, k < w.heap.size := by
  obtain ⟨nd, -, hr, rfl⟩ := h
  intro k hk
  obtain ⟨p, hp, hk⟩ := mem_foot.1 hk
  exact hr.lt p hp k hk
theorem PRep.mod {S : List Nat} {w w' : World} {t B : Nat} {Ns : List Path} {Hs : List (Path × Str)} {F : List Nat} (h : PRep w t B Ns Hs F) (hm : Mod S w w') (hS : ∀ k ∈ F, k ∉ S) : PRep w' t B Ns Hs F := by
  obtain ⟨nd, ht, hr, rfl⟩ := h
  exact ⟨nd, ht, hr.keep (fun p hp k hk => hm.block k (hr.lt p hp k hk) (hS k (mem_foot.2 ⟨p, hp, hk⟩))), rfl⟩
theorem PRep.below {w w' : World} {t B : Nat} {Ns : List Path} {Hs : List (Path × Str)} {F : List Nat} (h : PRep w t B Ns Hs F) (hk : Below w.heap.size w w') : PRep w' t B Ns Hs F := h.mod (Mod.of_below hk []) (by simp)
theorem PRep.tight {w : World} {t B : Nat} {Ns : List Path} {Hs : List (Path × Str)} {F : List Nat} (h : PRep w t B Ns Hs F) : Tight Ns Hs := by obtain ⟨_, h, _⟩ := h; exact h
theorem TS.monoB {w0 w : World} {F0 : List Nat} {t B B' : Nat} {hn nn : Int} {nd : Path → Nd} {Ns : List Path} {Hs : List (Path × Str)} (h : TS w0 F0 w t B hn nn nd Ns Hs) (hB : B ≤ B') : TS w0 F0 w t B' hn nn nd Ns Hs :=
  ⟨⟨h.rep.root, h.rep.has0, h.rep.cell, fun p hp => (h.rep.kids p hp).of (fun _ _ => rfl) hB (fun _ => rfl), fun p hp => (h.rep.cls p hp).of (fun _ _ => rfl) hB (fun _ => rfl), h.rep.inj, h.rep.dis⟩, h.mod, h.ft⟩
theorem eqK : ∀ (w : World) (r : Option Nat), (binOp .eql 36 (.map r) (.map none)).run Tryd.prog w = .ok (.bool r.isNone) w := fun w r => run_eql_map_nil w _ _ _ r Tryd.underlying36
theorem eqC : ∀ (w : World) (r : Option Nat), (binOp .eql 33 (.map r) (.map none)).run Tryd.prog w = .ok (.bool r.isNone) w := fun w r => run_eql_map_nil w _ _ _ r Tryd.underlying33
theorem ptrElem_mk (b : Nat) : ptrElem (.pointer (some ⟨b, 0, none⟩)) = some (ptrDat b, []) := rfl
/-- no block of the trie holds texts -/
theorem MemRep.no_str {w : World} {t B : Nat} {hn nn : Int} {nd : Path → Nd} {Ns : List Path} {Hs : List (Path × Str)} (h : MemRep w t B hn nn nd Ns Hs) {p : Path} (hp : p ∈ Ns) {k : Nat} (hk : k ∈ (nd p).blocks) (o : Nat) (s : ByteArray) : w.cell? ⟨k, o, none⟩ ≠ some (.string s) := by
  intro hc
  simp only [Nd.blocks, List.mem_cons, List.mem_append, Option.mem_toList] at hk
  rcases hk with rfl | hk | hk
  · rw [cell_of_row w _ o _ _ _ (h.cell p hp)] at hc
    unfold Nd.cells at hc
    split at hc
    · rcases o with _ | _ | _ | _ | o <;> simp at hc
    · rcases o with _ | _ | o <;> simp at hc
  · have hkk := h.kids p hp
    rw [hk] at hkk
    obtain ⟨D, ⟨es, clock, hb, -⟩, -⟩ := hkk
    simp [World.cell?, hb] at hc
  · have hkk := h.cls p hp
    rw [hk] at hkk
    obtain ⟨D, ⟨es, clock, hb, -⟩, -⟩ := hkk
    simp [World.cell?, hb] at hc
theorem row_off {w : World} {t B : Nat} {hn nn : Int} {nd : Path → Nd} {Ns : List Path} {Hs : List (Path × Str)} (h : MemRep w t B hn nn nd Ns Hs) {a : Option Addr} {L : List (List UInt8)} (hr : Row w a (strs L)) (hL : L ≠ []) : ∀ b o, a = some ⟨b, o, none⟩ → b ∉ foot nd Ns := by
  intro b o ha hb
  obtain ⟨p, hp, hk⟩ := mem_foot.1 hb
  obtain ⟨x, r, rfl⟩ := List.exists_cons_of_ne_nil hL
  rcases hr with hr | ⟨b', o', ha', hc⟩
  · simp [strs] at hr
  · rw [ha] at ha'
    cases ha'
    exact h.no_str hp hk o ⟨x.toArray⟩ (hc 0 _ (by simp [strs]))

theorem tnew (w : World) : Calls Tryd.prog 13 #[] w fun e w' => ∃ t F, e = .returned (.pointer (some ⟨t, 0, none⟩)) ∧ PRep w' t 0 [[]] [] F ∧ Upd [] F w w' := by
  go_enter Tryd.func13, Tryd.ntmps13
  go_wp2_with fail
  go_ret
  refine ⟨w.heap.size, [w.heap.size], rfl, ⟨fun _ => ⟨w.heap.size, none, none⟩, tight_nil, ⟨rfl, by simp, ?_, ?_, ?_, ?_, ?_⟩, by simp [foot, Nd.blocks]⟩, (Mod.refl _ _).alloc _, by simp⟩
  · intro p hp
    obtain rfl := List.mem_singleton.1 hp
    exact heap_alloc_new w _
  · intro p hp
    obtain rfl := List.mem_singleton.1 hp
    intro x
    simp [kidOf]
  · intro p _ c
    simp
  · intro p hp q hq _ _ _
    rw [List.mem_singleton.1 hp, List.mem_singleton.1 hq]
  · intro p _
    simp [Nd.blocks]
theorem tlen_any (t B : Nat) (Ns : List Path) (Hs : List (Path × Str)) (F : List Nat) (w : World) (h : PRep w t B Ns Hs F) :
    Calls Tryd.prog 11 #[.pointer (some ⟨t, 0, none⟩)] w fun e w' => e = .returned (.int .i64 Hs.length) ∧ w = w' := by
  obtain ⟨nd, -, hr, -⟩ := h
  obtain ⟨c2, c3⟩ := hr.c2
  clear hr
  go_enter Tryd.func11, Tryd.ntmps11
  go_wp2_with fail
  go_ret
  exact ⟨rfl, rfl⟩
theorem tnodes_any (t B : Nat) (Ns : List Path) (Hs : List (Path × Str)) (F : List Nat) (w : World) (h : PRep w t B Ns Hs F) :
    Calls Tryd.prog 10 #[.pointer (some ⟨t, 0, none⟩)] w fun e w' => e = .returned (.int .i64 Ns.length) ∧ w = w' := by
  obtain ⟨nd, -, hr, -⟩ := h
  obtain ⟨c2, c3⟩ := hr.c2
  clear hr
  go_enter Tryd.func10, Tryd.ntmps10
  go_wp2_with fail
  go_ret
  exact ⟨rfl, rfl⟩
theorem tadd_no (t : Nat) (s c : ByteArray) (w : World) (hT : Tabs w) (hs : s.size < 4294967281) (hf : filterB s.data.toList = false) :
    Calls Tryd.prog 8 #[.pointer (some ⟨t, 0, none⟩), .string s, .string c] w fun e w' => e = .returned (.bool false) ∧ Below w.heap.size w w' := by
  have HF := Lib.hid (filter_any s w hT hs)
  rw [hf] at HF
  clear hT hf
  go_enter Tryd.func8, Tryd.ntmps8
  go_wp2_with fail
  refine HF.out.mono ?_
  rintro e w1 ⟨rfl, hk⟩
  go_wp2_with fail
  go_ret
  exact ⟨rfl, hk⟩
theorem len_addN_le {r : Path} : ∀ {p : Path} {Ns : List Path}, (addN p r Ns).length ≤ Ns.length + r.length := by
  induction r with
  | nil => intro p Ns; simp [addN]
  | cons x r ih =>
    intro p Ns
    rw [addN]
    refine Nat.le_trans ih ?_
    split <;> simp <;> omega
theorem take_addN {L : Path} {Ns : List Path} (h0 : [] ∈ Ns) (k : Nat) : L.take k ∈ addN [] (L.take k) Ns := by
  by_cases h : L.take k = []
  · rw [h]; exact h0
  · exact mem_addN.2 (.inr ⟨_, h, List.prefix_refl _, rfl⟩)
theorem str_data (l : List UInt8) : (⟨l.toArray⟩ : ByteArray).data.toList = l := rfl
theorem kidsD {w : World} {B m : Nat} {f : Str → Option Nat} {kb : Option Nat} (h : KidsAt w B kb f) (hk : kb = some m) : ∃ D, w.ownsMap Tryd.prog 9 ptrElem m (Maps.size D) D ∧ Maps.size D ≤ B ∧ ∀ x, Maps.has D (.string x) = (f x).isSome ∧ ∀ b, f x = some b → ∀ z, D.atKey (.string x) z = ptrDat b := by subst hk; exact h
theorem clD {w : World} {B m : Nat} {g : Str → Bool} {cb : Option Nat} (h : ClAt w B cb g) (hk : cb = some m) : ∃ D : DataW Unit, w.ownsMap Tryd.prog 9 unitElem m (Maps.size D) D ∧ Maps.size D ≤ B ∧ ∀ c, Maps.has D (.string c) = g c := by subst hk; exact h

/-- what is known when a kid was made, and t.nodes is set -/
theorem kid_step {w0 w : World} {F0 : List Nat} {t B : Nat} {hn nn : Int} {nd : Path → Nd} {N : List Path} {Hs : List (Path × Str)} (h : TS w0 F0 w t B hn nn nd N Hs) {p : Path} (hp : p ∈ N) {x : Str} (hx : p ++ [x] ∉ N) (hx2 : ∀ y, p ++ [x] ++ [y] ∉ N) (hHs : ∀ c, (p ++ [x], c) ∉ Hs)
    {m b : Nat} (hkb : (nd p).kb = some m) (hb : (nd p).b = b) (hxs : (⟨x.toArray⟩ : ByteArray).size ≤ maxLen) {D : DataW Unit} (hD1 : w.ownsMap Tryd.prog 9 ptrElem m (Maps.size D) D) (hD2 : Maps.size D ≤ B) (hD3 : ∀ x, Maps.has D (.string x) = (kidOf nd N p x).isSome ∧ ∀ b, kidOf nd N p x = some b → ∀ z, D.atKey (.string x) z = ptrDat b)
    (v : Int) (w2 : World) (n : Nat) (hown2 : w2.ownsMap Tryd.prog 9 ptrElem m n (D.put (.string x) (ptrDat w.heap.size))) (hg : (w.alloc (.cells #[.map none, .map none] 38)).grownBy w2 (some m)) :
    ∃ nd3, w2.cell? ⟨t, 3, none⟩ = some (.int .i64 nn) ∧ w2.frozen? ⟨t, 3, none⟩ = false ∧ (w2.setCell ⟨t, 3, none⟩ (.int .i64 v)).cell? ⟨b, 0, none⟩ = some (.map (some m)) ∧
      (Instr.lookup 36 (.map (some m)) (.string ⟨x.toArray⟩) false).run Tryd.prog (w2.setCell ⟨t, 3, none⟩ (.int .i64 v)) = .ok (.pointer (some ⟨w.heap.size, 0, none⟩)) (w2.setCell ⟨t, 3, none⟩ (.int .i64 v)) ∧
      (nd3 (p ++ [x])).b = w.heap.size ∧ TS w0 F0 (w2.setCell ⟨t, 3, none⟩ (.int .i64 v)) t (B + 1) hn v nd3 ((p ++ [x]) :: N) Hs := by
  have h2 := h.addKid hp hx hx2 hHs hkb hD1 hD2 hD3 hown2 hg
  have h3 := h2.count 3 v (.inr rfl)
  simp only [if_true, show ¬ (3 : Nat) = 2 by omega, if_false] at h3
  have hpx : p ≠ p ++ [x] := fun e => hx (e ▸ hp)
  have hp3 : p ∈ (p ++ [x]) :: N := by simp [hp]
  have hx3 : p ++ [x] ∈ (p ++ [x]) :: N := by simp
  have e3 : updN nd (p ++ [x]) ⟨w.heap.size, none, none⟩ p = nd p := updN_other hpx
  have f3 := h2.rep.fz h2.rep.has0 3
  rw [h2.rep.root] at f3
  have c0 := h3.rep.c0 hp3
  rw [e3, hb, hkb] at c0
  have hl := (h3.rep.kids p hp3).look hxs
  rw [e3, hkb, str_data, kidOf, if_pos hx3, updN_same] at hl
  exact ⟨_, h2.rep.c2.2, f3, c0, hl, by rw [updN_same], h3⟩

theorem cl_step {w0 w : World} {F0 : List Nat} {t B : Nat} {hn nn : Int} {nd : Path → Nd} {N : List Path} {Hs : List (Path × Str)} (h : TS w0 F0 w t B hn nn nd N Hs) {p : Path} (hp : p ∈ N) {c : Str}
    {m : Nat} (hcb : (nd p).cb = some m) {D : DataW Unit} (hD1 : w.ownsMap Tryd.prog 9 unitElem m (Maps.size D) D) (hD2 : Maps.size D ≤ B) (hD3 : ∀ x, Maps.has D (.string x) = decide ((p, x) ∈ Hs))
    (v : Int) (w2 : World) (n : Nat) (hown2 : w2.ownsMap Tryd.prog 9 unitElem m n (D.put (.string c) (.agg []))) (hg : w.grownBy w2 (some m)) :
    w2.cell? ⟨t, 2, none⟩ = some (.int .i64 hn) ∧ w2.frozen? ⟨t, 2, none⟩ = false ∧ TS w0 F0 (w2.setCell ⟨t, 2, none⟩ (.int .i64 v)) t (B + 1) v nn nd N ((p, c) :: Hs) := by
  have h2 := h.addCl hp hcb hD1 hD2 hD3 hown2 hg
  have h3 := h2.count 2 v (.inl rfl)
  simp only [if_true, show ¬ (2 : Nat) = 3 by omega, if_false] at h3
  have f3 := h2.rep.fz h2.rep.has0 2
  rw [h2.rep.root] at f3
  exact ⟨h2.rep.c2.1, f3, h3⟩
theorem ts_prep {w w0 w' : World} {F0 : List Nat} {t B B' : Nat} {hn nn : Int} {nd : Path → Nd} {N : List Path} {Hs : List (Path × Str)} (h : TS w0 F0 w' t B hn nn nd N Hs) (ht : Tight N Hs) (hhn : hn = Hs.length) (hnn : nn = N.length) (hb : Below w.heap.size w w0) (hB : B ≤ B') :
    ∃ F', PRep w' t B' N Hs F' ∧ Upd F0 F' w w' := by
  subst hhn hnn
  refine ⟨foot nd N, ⟨nd, ht, (h.monoB hB).rep, rfl⟩, (Mod.of_below hb F0).trans h.mod (fun k hk => .inl hk), fun k hk => ?_⟩
  obtain ⟨p, hp, hk⟩ := mem_foot.1 hk
  rcases h.ft p hp k hk with h1 | h1
  · exact .inl h1
  · exact .inr (Nat.le_trans hb.size h1)

set_option maxRecDepth 100000 in
set_option maxHeartbeats 4000000 in
theorem tadd_yes (t B : Nat) (s c : ByteArray) (Ns : List Path) (Hs : List (Path × Str)) (F : List Nat) (w : World) (h : PRep w t B Ns Hs F) (hT : Tabs w) (hs : s.size < 4294967281) (hc : c.size ≤ maxLen) (hf : filterB s.data.toList = true) (hB : B < 100000000) (hN : Ns.length < 100000000) (hH : Hs.length < 100000000) :
    Calls Tryd.prog 8 #[.pointer (some ⟨t, 0, none⟩), .string s, .string c] w fun e w' => e = .returned (.bool (!decide ((levels s.data.toList, c.data.toList) ∈ Hs))) ∧
      ∃ F', PRep w' t (B + (s.size + 2)) (addN [] (levels s.data.toList) Ns) (if (levels s.data.toList, c.data.toList) ∈ Hs then Hs else (levels s.data.toList, c.data.toList) :: Hs) F' ∧ Upd F F' w w' := by
  have HF := Lib.hid (filter_any s w hT hs)
  rw [hf] at HF
  have HL := Lib.hid (fun W hT => levels_any s W hT hs)
  have HT := Lib.hid hT
  have hLl := levels_len_le s.data.toList
  have hLs := Lib.hid (levels_sum s.data.toList)
  have hL0 := levels_ne s.data.toList
  rw [show s.data.toList.length = s.size from rfl] at hLl hLs
  generalize levels s.data.toList = L at *
  obtain ⟨nd, ht, hr, rfl⟩ := h
  have HTI := Lib.hid ht
  have HRP := Lib.hid hr
  clear hT ht hr hf
  have qK := eqK
  have qC := eqC
  have hmm := @run_makeMap Tryd.prog
  go_enter Tryd.func8, Tryd.ntmps8
  go_wp2_with fail
  refine HF.out.mono ?_
  rintro e w1 ⟨rfl, hk⟩
  have HK := Lib.hid hk
  go_wp2_with fail
  refine (HL.out _ (HT.out.below hk)).mono ?_
  rintro e w5 ⟨a, ca, rfl, hra, hk2⟩
  have HK5 := Lib.hid (bnext hk (Nat.le_refl _) hk2)
  have hR5 := HRP.out.keep (w' := w5) (fun p hp k hk' => HK5.out.block k (HRP.out.lt p hp k hk'))
  have HS := Lib.hid (show TS w5 (foot nd Ns) w5 t (B + 0) Hs.length Ns.length nd Ns Hs from ⟨hR5, Mod.refl _ _, fun p hp k hk => .inl (mem_foot.2 ⟨p, hp, hk⟩)⟩)
  have HRO := Lib.hid (fun W (hm : Mod (foot nd Ns) w5 W) => hra.mod hm (row_off hR5 hra hL0))
  clear hk hk2 hra hR5 HK HF HL
  go_wp2_with fail
  go_loopw [7, 25] (fun n i wr => ∃ (k : Nat) (nd' : Path → Nd), i = .int .i64 k ∧ k ≤ L.length ∧ n = .pointer (some ⟨(nd' (L.take k)).b, 0, none⟩) ∧ TS w5 (foot nd Ns) wr t (B + k) Hs.length (addN [] (L.take k) Ns).length nd' (addN [] (L.take k) Ns) Hs) (fun _ i _ => (L.length - intOf i).toNat)
  case atStart => exact ⟨0, nd, rfl, by omega, by rw [List.take_zero, HRP.out.root], by simpa [addN] using HS.out⟩
  case round =>
    obtain ⟨k, nd1, rfl, hk, rfl, hS⟩ := hrel
    clear HS
    have HS1 := Lib.hid hS
    clear hS
    have hNl : (addN [] (L.take k) Ns).length ≤ Ns.length + k := by have := len_addN_le (r := L.take k) (p := []) (Ns := Ns); rw [List.length_take] at this; omega
    by_cases hlt : k < L.length
    · have hk0 : (0 : Int) ≤ k := by omega
      have hkL : (k : Int) < L.length := by omega
      have hp := take_addN (L := L) HTI.out.root k
      have hN1 : ∀ q, q ∈ addN [] (L.take k) Ns ↔ q ∈ Ns ∨ ∃ s, s ≠ [] ∧ s <+: L.take k ∧ q = [] ++ s := fun q => mem_addN
      have hst := addN_app (r := L.take k) (y := L[k]) (p := []) (Ns := Ns)
      rw [← List.take_succ_eq_append_getElem hlt, List.nil_append] at hst
      have HTK := Lib.hid (List.take_succ_eq_append_getElem hlt)
      obtain ⟨b1, o1, rfl, k0⟩ := strs_row (HRO.out _ HS1.out.mod) (k := k) (x := L[k]) (by simp [hlt])
      have hxl := hLs.out L[k] (List.getElem_mem hlt)
      have hpl : (L.take k).length = k := by rw [List.length_take]; omega
      obtain ⟨N2, hN2e⟩ : ∃ N2, addN [] (L.take (k + 1)) Ns = N2 := ⟨_, rfl⟩
      rw [hN2e] at hst
      have HE2 := Lib.hid hN2e
      clear hN2e
      generalize hN1e : addN [] (L.take k) Ns = N1 at *
      generalize L[k] = x at *
      generalize hpe : L.take k = p at *
      have hxs : (⟨x.toArray⟩ : ByteArray).size ≤ maxLen := by show x.length ≤ _; unfold maxLen; omega
      have hkb0 := HS1.out.rep.kids p hp
      have c0 := HS1.out.rep.c0 hp
      have f0 := HS1.out.rep.fz hp 0
      by_cases hx : p ++ [x] ∈ N1
      · have hkn : kidOf nd1 N1 p x = some (nd1 (p ++ [x])).b := if_pos hx
        obtain ⟨m, hkb⟩ : ∃ m, (nd1 p).kb = some m := by
          cases hkb : (nd1 p).kb with
          | none => rw [hkb] at hkb0; rw [hkb0 x] at hkn; cases hkn
          | some m => exact ⟨m, rfl⟩
        have hl := hkb0.look hxs
        rw [hkb, str_data, hkn] at hl
        simp only [ptrV] at hl
        rw [hkb] at c0
        have HN2 := Lib.hid (hst.trans (if_pos hx))
        clear hkb0 hst hN1 hkb
        go_wp2_with fail
        go_roundw
        case rel => exact ⟨k + 1, nd1, by go_num, by omega, by rw [HTK.out], by rw [HE2.out, HN2.out]; exact HS1.out.monoB (by omega)⟩
        case measure => simp [intOf]; omega
      · have hkn : ∀ nd, kidOf nd N1 p x = none := fun nd => if_neg hx
        have hHs2 : ∀ c, (p ++ [x], c) ∉ Hs := fun c hc => hx ((hN1 _).2 (.inl (HTI.out.hint hc)))
        have hx2 : ∀ y, p ++ [x] ++ [y] ∉ N1 := fun y hy => by
          rcases (hN1 _).1 hy with h1 | ⟨s, -, h1, h2⟩
          · exact hx ((hN1 _).2 (.inl (HTI.out.up h1 ⟨[y], rfl⟩)))
          · have := h1.length_le
            rw [List.nil_append] at h2
            rw [← h2] at this
            simp at this
            omega
        have HN2 := Lib.hid (hst.trans (if_neg hx))
        clear hst
        cases hkb : (nd1 p).kb with
        | none =>
          rw [hkb] at c0
          have hA := (Below.heap_alloc wr (.map #[] 0) _ (HS1.out.rep.lt p hp _ (blocks_b _))).trans (HS1.out.rep.cell p hp)
          have fA := frozen_of_row _ _ 0 _ _ hA
          have cA := (cell_of_row _ _ 0 _ _ _ hA).trans cells_at.1
          clear hA
          have HS2 := Lib.hid (HS1.out.newKids hp hkb)
          have hkb2 : (updN nd1 p { nd1 p with kb := some wr.heap.size } p).kb = some wr.heap.size := by rw [updN_same]
          have hb2 : (updN nd1 p { nd1 p with kb := some wr.heap.size } p).b = (nd1 p).b := by rw [updN_same]
          generalize updN nd1 p { nd1 p with kb := some wr.heap.size } = nd2 at *
          clear hkb0
          obtain ⟨D, hD1, hD2, hD3⟩ := kidsD (HS2.out.rep.kids _ hp) hkb2
          have hown3 := hD1.alloc (.cells #[.map none, .map none] 38)
          have hsz : Maps.size D < maxLen := by unfold maxLen; omega
          have HAK := Lib.hid (kid_step HS2.out hp hx hx2 hHs2 hkb2 hb2 hxs hD1 hD2 hD3 ((N1.length : Int) + 1))
          have hz1 : ((wr.alloc (.map #[] 0)).setCell ⟨(nd1 p).b, 0, none⟩ (.map (some wr.heap.size))).heap.size = wr.heap.size + 1 := by simp
          rw [hz1] at HAK
          clear hz1
          have hl1 := (HS2.out.rep.kids _ hp).look hxs
          rw [hkb2, str_data, hkn] at hl1
          simp only [ptrV] at hl1
          have c0' := HS2.out.rep.c0 hp
          rw [hkb2, hb2] at c0'
          have hw1 : IntKind.i64.wrap ((N1.length : Int) + 1) = (N1.length : Int) + 1 := w_i64 _ (by omega) (by omega)
          clear hD1 hD2 hD3 hx2 hHs2 hkn hN1
          go_wp2_with (first | (at_mapUpdate; refine wpList_mapUpdate_own _ rfl _ _ _ 36 rfl 9 35 kS Tryd.underlying36 _ wr.heap.size _ _ rfl hown3 hsz _ _ _ rfl rfl (skey hxs) _ [] (ptrElem_mk _) ?_; intro w3 hown4 hgrow4; obtain ⟨nd3, c3, f3, c4, hl4, hb3, hS4⟩ := HAK.out w3 _ hown4 hgrow4; have HS4 := Lib.hid hS4; clear hown4 hgrow4 hS4) | fail)
          go_roundw
          case rel => exact ⟨k + 1, nd3, by go_num, by omega, by rw [HTK.out, hb3], by rw [HE2.out, HN2.out]; exact HS4.out.monoB (by omega)⟩
          case measure => simp [intOf]; omega
        | some m =>
          rw [hkb] at c0
          have HS2 := HS1
          have hkb2 := hkb
          have hb2 : (nd1 p).b = (nd1 p).b := rfl
          clear hkb0
          obtain ⟨D, hD1, hD2, hD3⟩ := kidsD (HS2.out.rep.kids _ hp) hkb2
          have hown3 := hD1.alloc (.cells #[.map none, .map none] 38)
          have hsz : Maps.size D < maxLen := by unfold maxLen; omega
          have HAK := Lib.hid (kid_step HS2.out hp hx hx2 hHs2 hkb2 hb2 hxs hD1 hD2 hD3 ((N1.length : Int) + 1))
          have hl1 := (HS2.out.rep.kids _ hp).look hxs
          rw [hkb2, str_data, hkn] at hl1
          simp only [ptrV] at hl1
          have c0' := HS2.out.rep.c0 hp
          rw [hkb2, hb2] at c0'
          have hw1 : IntKind.i64.wrap ((N1.length : Int) + 1) = (N1.length : Int) + 1 := w_i64 _ (by omega) (by omega)
          clear hD1 hD2 hD3 hx2 hHs2 hkn hN1
          go_wp2_with (first | (at_mapUpdate; refine wpList_mapUpdate_own _ rfl _ _ _ 36 rfl 9 35 kS Tryd.underlying36 _ m _ _ rfl hown3 hsz _ _ _ rfl rfl (skey hxs) _ [] (ptrElem_mk _) ?_; intro w3 hown4 hgrow4; obtain ⟨nd3, c3, f3, c4, hl4, hb3, hS4⟩ := HAK.out w3 _ hown4 hgrow4; have HS4 := Lib.hid hS4; clear hown4 hgrow4 hS4) | fail)
          go_roundw
          case rel => exact ⟨k + 1, nd3, by go_num, by omega, by rw [HTK.out, hb3], by rw [HE2.out, HN2.out]; exact HS4.out.monoB (by omega)⟩
          case measure => simp [intOf]; omega
    · have hkL : ¬ (k : Int) < L.length := by omega
      have etk : L.take k = L := List.take_of_length_le (by omega)
      rw [etk] at HS1 hNl ⊢
      have hp : L ∈ addN [] L Ns := by have := take_addN (L := L) HTI.out.root k; rwa [etk] at this
      have HTA := Lib.hid (fun (hin : (L, c.data.toList) ∉ Hs) => tight_add HTI.out hin)
      have HTH := Lib.hid (fun (hin : (L, c.data.toList) ∈ Hs) => add_there HTI.out hin)
      generalize hN1e : addN [] L Ns = N1 at *
      have hcl := HS1.out.rep.cls L hp
      have c1 := HS1.out.rep.c1 hp
      have hlk := hcl.look hc
      have HSZ := Lib.hid (HS1.out.below ((Below.refl _ _).alloc (Nat.le_refl _) (.cells #[] 41)))
      clear HRO hLs hL0
      by_cases hin : (L, c.data.toList) ∈ Hs
      · have HE := Lib.hid (HTH.out hin)
        rw [decide_eq_true hin] at hlk
        clear hcl HTA HTH
        go_wp2_with fail
        go_ret
        exact ⟨rfl, ts_prep HSZ.out (by rw [HE.out]; exact HTI.out) rfl rfl HK5.out (by omega)⟩
      · have HTA := Lib.hid (HTA.out hin)
        rw [decide_eq_false hin] at hlk
        have c1z := HSZ.out.rep.c1 hp
        have hw1 : IntKind.i64.wrap ((Hs.length : Int) + 1) = (Hs.length : Int) + 1 := w_i64 _ (by omega) (by omega)
        have hA := (Below.heap_alloc (wr.alloc (.cells #[] 41)) (.map #[] 0) _ (HSZ.out.rep.lt L hp _ (blocks_b _))).trans (HSZ.out.rep.cell L hp)
        clear hcl HTH
        cases hcb : (nd1 L).cb with
        | none =>
          rw [hcb] at c1 c1z hlk
          have fA := frozen_of_row _ _ 1 _ _ hA
          have cA := (cell_of_row _ _ 1 _ _ _ hA).trans cells_at.2
          rw [hcb] at cA
          clear hA
          have HS2 := Lib.hid (HSZ.out.newCl hp hcb)
          have hcb2 : (updN nd1 L { nd1 L with cb := some (wr.alloc (.cells #[] 41)).heap.size } L).cb = some (wr.alloc (.cells #[] 41)).heap.size := by rw [updN_same]
          have hb2 : (updN nd1 L { nd1 L with cb := some (wr.alloc (.cells #[] 41)).heap.size } L).b = (nd1 L).b := by rw [updN_same]
          generalize updN nd1 L { nd1 L with cb := some (wr.alloc (.cells #[] 41)).heap.size } = nd2 at *
          rw [World.size_alloc] at HS2 hcb2
          obtain ⟨D, hD1, hD2, hD3⟩ := clD (HS2.out.rep.cls _ hp) hcb2
          have hD1' := hD1
          have hsz : Maps.size D < maxLen := by unfold maxLen; omega
          have HAK := Lib.hid (cl_step (c := c.data.toList) HS2.out hp hcb2 hD1 hD2 hD3 ((Hs.length : Int) + 1))
          have c0' := HS2.out.rep.c1 hp
          rw [hcb2, hb2] at c0'
          clear hD1 hD2 hD3
          go_wp2_with (first | (at_mapUpdate; refine wpList_mapUpdate_own _ rfl _ _ _ 33 rfl 9 41 kS Tryd.underlying33 _ (wr.heap.size + 1) _ _ rfl hD1' hsz _ _ _ rfl rfl (skey hc) _ [] unitElem_mk ?_; intro w3 hown4 hgrow4; obtain ⟨c3, f3, hS4⟩ := HAK.out w3 _ hown4 hgrow4; have HS4 := Lib.hid hS4; clear hown4 hgrow4 hS4) | fail)
          go_ret
          exact ⟨rfl, ts_prep HS4.out HTA.out (by simp) (by simp) HK5.out (by omega)⟩
        | some m =>
          rw [hcb] at c1 c1z hlk
          clear hA
          have HS2 := HSZ
          have hcb2 := hcb
          have hb2 : (nd1 L).b = (nd1 L).b := rfl
          obtain ⟨D, hD1, hD2, hD3⟩ := clD (HS2.out.rep.cls _ hp) hcb2
          have hD1' := hD1
          have hsz : Maps.size D < maxLen := by unfold maxLen; omega
          have HAK := Lib.hid (cl_step (c := c.data.toList) HS2.out hp hcb2 hD1 hD2 hD3 ((Hs.length : Int) + 1))
          have c0' := HS2.out.rep.c1 hp
          rw [hcb2, hb2] at c0'
          clear hD1 hD2 hD3
          go_wp2_with (first | (at_mapUpdate; refine wpList_mapUpdate_own _ rfl _ _ _ 33 rfl 9 41 kS Tryd.underlying33 _ m _ _ rfl hD1' hsz _ _ _ rfl rfl (skey hc) _ [] unitElem_mk ?_; intro w3 hown4 hgrow4; obtain ⟨c3, f3, hS4⟩ := HAK.out w3 _ hown4 hgrow4; have HS4 := Lib.hid hS4; clear hown4 hgrow4 hS4) | fail)
          go_ret
          exact ⟨rfl, ts_prep HS4.out HTA.out (by simp) (by simp) HK5.out (by omega)⟩
end Go.Proofs.YtcnjgenacpkdbaaDoor
