/- The model's laws: Great walked. The model's laws: rows of notes; Great walked. The model's laws: three models side by side. No program in sight but the representation. -/
import Derived.Test.YthfeckndkmhieaaGreatDoorMAwake
import Derived.Deep.MidRow
namespace Go.Proofs.YthfeckndkmhieaaGreatDoor
section
open Go Go.RowKit Go.Maps Go.Lib

theorem T_strS : ElemT Tryz.prog 111 9 (.string ⟨#[]⟩) 1 16 := ⟨Tryz.underlying111, by kernel_rfl, rfl, by decide⟩
theorem own_new (w : World) (b : Nat) (hb : b = w.heap.size) (xs : List Value) (T : TypeId) (sz n : Nat) (hn : xs.length = n * sz) (hm : n ≤ maxLen) (B : Nat) (hB : B ≤ w.heap.size) : (w.alloc (.cells xs.toArray T)).ownsRow B T sz (.slice (some ⟨b, 0, none⟩) n n) n xs := by
  subst hb
  exact ⟨hn, .inr ⟨w.heap.size, n, xs.toArray, rfl, hB, heap_alloc_new w _, Nat.le_refl _, hm, by simpa using hn, by rw [List.toList_toArray, List.take_of_length_le (by omega)]⟩⟩
theorem pkt_cell {w : World} {b : Nat} {n : Pkt} {T : TypeId} {fr : Nat × Nat} (h : w.heap[b]? = some (.cells n.cells.toArray T fr)) :
    w.cell? ⟨b, 5, none⟩ = some (.string n.topic) ∧ w.cell? ⟨b, 6, none⟩ = some (.string n.payload) ∧ w.cell? ⟨b, 10, none⟩ = some (.string n.client) ∧ w.cell? ⟨b, 12, none⟩ = some (.string n.will.t) ∧ w.cell? ⟨b, 13, none⟩ = some (.string n.will.p) ∧ w.cell? ⟨b, 18, none⟩ = some (.string n.user) ∧ w.cell? ⟨b, 19, none⟩ = some (.string n.pass) ∧ w.cell? ⟨b, 22, none⟩ = some (.slice n.subsA n.subs.length n.subsC) ∧ w.cell? ⟨b, 23, none⟩ = some (.string n.codes) :=
  ⟨cell_of_row w b 5 _ _ _ h, cell_of_row w b 6 _ _ _ h, cell_of_row w b 10 _ _ _ h, cell_of_row w b 12 _ _ _ h, cell_of_row w b 13 _ _ _ h, cell_of_row w b 18 _ _ _ h, cell_of_row w b 19 _ _ _ h, cell_of_row w b 22 _ _ _ h, cell_of_row w b 23 _ _ _ h⟩
def subStrs (l : List SubE) : List ByteArray := l.map fun x => ⟨x.1.toArray⟩
def sumLen (l : List ByteArray) : Int := (l.map fun x => (x.size : Int)).sum
theorem sumLen_snoc (l : List ByteArray) (x : ByteArray) : sumLen (l ++ [x]) = sumLen l + x.size := by simp [sumLen]
theorem sumLen_nonneg : ∀ l : List ByteArray, 0 ≤ sumLen l
  | [] => by simp [sumLen]
  | x :: r => by have := sumLen_nonneg r; simp only [sumLen, List.map_cons, List.sum_cons] at *; omega
theorem sumLen_mem {l : List ByteArray} {x : ByteArray} (h : x ∈ l) : (x.size : Int) ≤ sumLen l := by
  induction l with
  | nil => cases h
  | cons y r ih =>
    have h0 := sumLen_nonneg r
    have e : sumLen (y :: r) = y.size + sumLen r := by simp [sumLen]
    rcases List.mem_cons.1 h with rfl | h
    · omega
    · have := ih h; omega
set_option maxRecDepth 100000 in
set_option maxHeartbeats 2000000 in
theorem great03_any (p : Pkt) (w : World) (hr : Row w p.subsA (subsV p.subs)) (hl : p.subs.length ≤ maxLen) :
    Calls Tryz.prog 39 #[.agg p.cells.toArray] w fun e w' => (e = .returned (.bool true) ∨ (e = .returned (.bool false) ∧ p.subs.length ≤ 100 ∧ ∀ x ∈ p.subs, x.1.length ≤ 10000)) ∧ Below w.heap.size w w' := by
  have hba := low_alloc w (.cells p.cells.toArray 29)
  have HBA := Lib.hid hba
  have HNB := Lib.hid (heap_alloc_new w (.cells p.cells.toArray 29))
  have HR := Lib.hid (hr.below hba (Nat.le_refl _))
  obtain ⟨c5, c6, c10, c12, c13, c18, c19, c22, c23⟩ := pkt_cell HNB.out
  have hl2 : (p.subs.length : Int) ≤ 9223372036854775807 := by unfold maxLen at hl; omega
  clear hba hr
  generalize p.cells.toArray = PC at *
  generalize p.topic = s1 at *
  generalize p.payload = s2 at *
  generalize p.client = s3 at *
  generalize p.will.t = s4 at *
  generalize p.will.p = s5 at *
  generalize p.user = s6 at *
  generalize p.pass = s7 at *
  generalize p.codes = s8 at *
  generalize p.subs = xs at *
  by_cases h100 : 100 < xs.length
  · have hI : (100 : Int) < xs.length := by omega
    go_enter Tryz.func39, Tryz.ntmps39
    go_wp2_with fail
    go_ret
    exact ⟨.inl rfl, HBA.out⟩
  · have hI : ¬ ((100 : Int) < xs.length) := by omega
    go_enter Tryz.func39, Tryz.ntmps39
    go_wp2_with fail
    have hsz0 : w.heap.size + 1 = (w.alloc (.cells PC 29)).heap.size := by simp
    generalize w.alloc (.cells PC 29) = w0 at *
    have hown0 := own_new w0 (w.heap.size + 1) hsz0 ([s1, s2, s3, s4, s5, s6, s7, s8].map Value.string) 9 1 8 rfl (by decide) w0.heap.size (Nat.le_refl _)
    have hb0 := low_alloc w0 (.cells ([s1, s2, s3, s4, s5, s6, s7, s8].map Value.string).toArray 9)
    have HC : Hid (∀ X, Below w0.heap.size w0 X → X.cell? ⟨w.heap.size, 22, none⟩ = some (.slice p.subsA xs.length p.subsC) ∧ Row X p.subsA (subsV xs)) := Lib.hid (fun X hX => ⟨(hX.cell (World.block_lt_of_cell? _ _ c22)).trans c22, HR.out.below hX (Nat.le_refl _)⟩)
    clear c5 c6 c10 c12 c13 c18 c19 c22 c23 HNB HR
    obtain ⟨S0, hS0⟩ : ∃ S0, [s1, s2, s3, s4, s5, s6, s7, s8] = S0 := ⟨_, rfl⟩
    have HS8 := Lib.hid (show S0.length = 8 by rw [← hS0]; rfl)
    rw [hS0] at hown0 hb0
    have hgo : (w0.alloc (.cells #[.string s1, .string s2, .string s3, .string s4, .string s5, .string s6, .string s7, .string s8] 9)) = w0.alloc (.cells (S0.map Value.string).toArray 9) := by rw [← hS0]; rfl
    rw [hgo]
    have hxl : (xs.length : Int) ≤ 100 := by omega
    clear hS0 hgo hl hl2 hI h100
    go_loopw [4, 5] (fun v i wr => ∃ k : Nat, i = .int .i64 k ∧ k ≤ xs.length ∧ wr.ownsRow w0.heap.size 9 1 v (8 + k) ((S0 ++ subStrs (xs.take k)).map Value.string) ∧ Below w0.heap.size w0 wr) (fun _ i _ => (xs.length - intOf i).toNat)
    case atStart => exact ⟨0, rfl, by omega, by simpa [subStrs] using hown0, hb0⟩
    case round =>
      clear hown0 hb0
      obtain ⟨k, rfl, hk, hown, hb⟩ := hrel
      by_cases hlt : k < xs.length
      · have hk0 : (0 : Int) ≤ k := by omega
        have hkI : (k : Int) < xs.length := by omega
        obtain ⟨cc, hrw⟩ := HC.out _ hb
        obtain ⟨b1, o1, hea, d0, d1⟩ := subs_row hrw hlt
        rw [hea] at cc
        have HTK : Hid ((S0 ++ subStrs (xs.take k)).map Value.string ++ [Value.string ⟨xs[k].1.toArray⟩] = (S0 ++ subStrs (xs.take (k + 1))).map Value.string) := Lib.hid (by
          rw [List.take_succ_eq_append_getElem hlt]; simp only [subStrs, List.map_append, List.map_cons, List.map_nil, List.append_assoc])
        generalize xs[k] = y at *
        obtain ⟨yf, yq⟩ := y
        dsimp only at *
        have hbs := hb.size
        generalize (S0 ++ subStrs (xs.take k)).map Value.string = V at *
        clear hrw hea
        go_wp2_with (first
          | (at_builtin; refine wpList_app T_strS hown hb hbs rfl rfl rfl rfl (by rfl) (by simp [Value.oneCell']) (by omega) (by omega) ?_; intro v' w3 hown' hbel3 hsz3 hlt3; clear hown hb; go_frame)
          | fail)
        go_roundw
        case rel => exact ⟨k + 1, by go_num, by omega, by rw [← HTK.out]; exact hown', hbel3⟩
        case measure => simp [intOf]; omega
      · have hkI : ¬ (k : Int) < xs.length := by omega
        obtain ⟨cc, hrw⟩ := HC.out _ hb
        have HB := Lib.hid hb
        obtain rfl : k = xs.length := by omega
        rw [List.take_length] at hown
        obtain ⟨a2, c2, rfl, hr2, -, -⟩ := ownsRow_row hown
        have HR2 := Lib.hid hr2
        have HLN := Lib.hid (show (S0 ++ subStrs xs).length = 8 + xs.length by rw [List.length_append, HS8.out]; simp [subStrs])
        have HSUB : Hid (sumLen (S0 ++ subStrs xs) ≤ 10000 → ∀ x ∈ xs, x.1.length ≤ 10000) := Lib.hid (fun h x hx => by
          have := sumLen_mem (l := S0 ++ subStrs xs) (x := ⟨x.1.toArray⟩) (List.mem_append.2 (.inr (List.mem_map.2 ⟨x, hx, rfl⟩)))
          have e : (⟨x.1.toArray⟩ : ByteArray).size = x.1.length := by show x.1.toArray.size = _; simp
          omega)
        generalize S0 ++ subStrs xs = S at *
        clear hown hr2 hb hrw
        go_wp2_with fail
        go_loopw [3, 6] (fun lf i wq => ∃ k : Nat, i = .int .i64 k ∧ k ≤ 8 + xs.length ∧ lf = .int .i64 (10000 - sumLen (S.take k)) ∧ sumLen (S.take k) ≤ 10000 ∧ wq = wr) (fun _ i _ => (8 + xs.length - intOf i).toNat)
        case atStart => exact ⟨0, rfl, by omega, by simp [sumLen], by simp [sumLen], rfl⟩
        case round =>
          obtain ⟨k, rfl, hk, rfl, hle, rfl⟩ := hrel
          by_cases hlt : k < 8 + xs.length
          · have hk0 : (0 : Int) ≤ k := by omega
            have hkI : (k : Int) < 8 + xs.length := by omega
            have hkS : k < S.length := by rw [HLN.out]; exact hlt
            have hj : (S.map Value.string)[k]? = some (.string S[k]) := by simp [hkS]
            obtain ⟨b1, o1, rfl, d0⟩ := HR2.out.at hj
            have HST := Lib.hid (show sumLen (S.take (k + 1)) = sumLen (S.take k) + S[k].size by rw [List.take_succ_eq_append_getElem hkS, sumLen_snoc])
            have h0 := sumLen_nonneg (S.take k)
            have h1 := sumLen_nonneg (S.take (k + 1))
            generalize S[k] = y at *
            generalize sumLen (S.take k) = t at *
            by_cases hgt : (10000 - t : Int) < y.size
            · go_wp2_with fail
              go_ret
              exact ⟨.inl rfl, HBA.out.trans (HB.out.mono HBA.out.size)⟩
            · have hw : IntKind.i64.wrap (10000 - t - y.size) = 10000 - (t + y.size) := by rw [w_i64 _ (by omega) (by omega)]; omega
              go_wp2_with fail
              go_roundw
              case rel => exact ⟨k + 1, by go_num, by omega, by rw [HST.out], by rw [HST.out]; omega, trivial⟩
              case measure => simp [intOf]; omega
          · have hkI : ¬ (k : Int) < 8 + xs.length := by omega
            have hfin := HSUB.out (by rw [List.take_of_length_le (by rw [HLN.out]; omega)] at hle; exact hle)
            have HFIN := Lib.hid hfin
            clear hfin
            go_wp2_with fail
            go_ret
            exact ⟨.inr ⟨rfl, by omega, fun a b h => HFIN.out (a, b) h⟩, HBA.out.trans (HB.out.mono HBA.out.size)⟩
end
section
open Go Go.RowKit Go.Maps Go.Lib

def notesV (l : List Note) : List Value := l.flatMap Note.cells
theorem range_below {w w' : World} {b o : Nat} {cs : List Value} (h : w.rangeAt b o cs) (hb : Below w.heap.size w w') : w'.rangeAt b o cs := fun j v hj => by
  have := h j v hj
  exact (hb.cell (p := ⟨b, o + j, none⟩) (World.block_lt_of_cell? w _ this)).trans this
theorem range_sub {w : World} {b o : Nat} {xs ys zs : List Value} (h : w.rangeAt b o (xs ++ (ys ++ zs))) : w.rangeAt b (o + xs.length) ys := fun j v hj => by
  rw [Nat.add_assoc]
  refine h _ v ?_
  rw [List.getElem?_append_right (by omega), Nat.add_sub_cancel_left, List.getElem?_append_left (List.getElem?_eq_some_iff.1 hj).1]
  exact hj
theorem notes_row {w : World} {a : Option Addr} {l : List Note} {k : Nat} (h : Row w a (notesV l)) (hk : k < l.length) : ∃ b o, a = some ⟨b, o, none⟩ ∧ w.rangeAt b (o + k * 35) l[k].cells := by
  have hat : ∀ j, j < 35 → (notesV l)[k * 35 + j]? = l[k].cells[j]? := fun j hj => by
    unfold notesV
    rw [flatMap_at note_len l k j hj, List.getElem?_eq_getElem hk]; rfl
  rcases h with h | ⟨b, o, rfl, hc⟩
  · have := hat 0 (by omega)
    rw [h] at this
    cases this
  · refine ⟨b, o, rfl, fun j v hj => ?_⟩
    have hj35 : j < 35 := by have := (List.getElem?_eq_some_iff.1 hj).1; rw [note_len] at this; exact this
    have := hc (k * 35 + j) v (by rw [hat j hj35]; exact hj)
    rwa [← Nat.add_assoc] at this
structure NoteAt (w : World) (b o : Nat) (n : Note) : Prop where
  kind : w.cell? ⟨b, o, none⟩ = some (.int .u8 n.kind)
  conn : w.cell? ⟨b, o + 2, none⟩ = some (.int .i64 n.conn)
  client : w.cell? ⟨b, o + 3, none⟩ = some (.string n.client)
  ty : w.cell? ⟨b, o + 4, none⟩ = some (.int .u8 n.pk.ty)
  clean : w.cell? ⟨b, o + 12, none⟩ = some (.bool n.pk.clean)
  topic : w.cell? ⟨b, o + 28, none⟩ = some (.string n.msg.t)
  payload : w.cell? ⟨b, o + 29, none⟩ = some (.string n.msg.p)
theorem note_at {w : World} {b o : Nat} {n : Note} (h : w.rangeAt b o n.cells) : NoteAt w b o n :=
  ⟨h 0 _ rfl, h 2 _ rfl, h 3 _ rfl, h 4 _ rfl, h 12 _ rfl, h 28 _ rfl, h 29 _ rfl⟩
theorem note_pk {w : World} {b o : Nat} {n : Note} (h : w.rangeAt b o n.cells) : w.rangeAt b (o + 4) n.pk.cells := range_sub (xs := [.int .u8 n.kind, .int .i64 n.op, .int .i64 n.conn, .string n.client]) h
theorem pk_len24 (p : Pkt) : (Tryz.prog.info? 29).map (·.size) = some p.cells.length := by kernel_rfl
theorem note_len35 (n : Note) : (Tryz.prog.info? 32).map (·.size) = some n.cells.length := by kernel_rfl
theorem load_pk {w : World} {b o : Nat} {p : Pkt} (h : w.rangeAt b o p.cells) : (Instr.loadAt 29 (.pointer (some ⟨b, o, none⟩))).run Tryz.prog w = .ok (.agg p.cells.toArray) w :=
  run_loadAt_mid w b o _ _ _ h Tryz.underlying29 rfl (pk_len24 p)
theorem load_note {w : World} {b o : Nat} {n : Note} (h : w.rangeAt b o n.cells) : (Instr.loadAt 32 (.pointer (some ⟨b, o, none⟩))).run Tryz.prog w = .ok (.agg n.cells.toArray) w :=
  run_loadAt_mid w b o _ _ _ h Tryz.underlying32 rfl (note_len35 n)
/-- what Great leaves -/
def SmallN (n : Note) : Prop := n.pk.subs.length ≤ 100 ∧ (∀ x ∈ n.pk.subs, x.1.length ≤ 10000) ∧ n.client.size ≤ 300
def SmallL (l : List Note) : Prop := l.length ≤ 200 ∧ ∀ n ∈ l, SmallN n
/-- what Great is asked for -/
def GreatQ (a : Option Addr) (c : Nat) (l : List Note) (w : World) : Prop :=
  Calls Tryz.prog 17 #[.slice a l.length c] w fun e w' => ∃ g : Bool, e = .returned (.bool g) ∧ (g = false → SmallL l) ∧ Below w.heap.size w w'
end
section
open Go Go.RowKit Go.Maps

theorem wpList_loadM {P : Program} {ops : Array Oper} {rest : List Oper} {op : Oper} {a : Act} {w : World} {Q : Exit → Act → World → Prop} (hw : Region.wanted op (yielded ops a.tmps) = true) (ty : TypeId) (x : Operand) (ho : op.op = .load ty x)
    (b o : Nat) (hx : a.eval x = .pointer (some ⟨b, o, none⟩)) (cs : List Value) (d : TypeDesc) (hc : w.rangeAt b o cs)
    (hu : P.underlying ty = some d) (hd : d.isRow = true) (hi : (P.info? ty).map (·.size) = some cs.length)
    (h : wpList P ops Q rest (a.put op.dst (.agg cs.toArray)) w) : wpList P ops Q (op :: rest) a w :=
  wpList_ask hw fun _ hK => wp_load_mid ty x ho b o hx cs d hc hu hd hi (hK _ _ h)
theorem disj_upd {F F' G : List Nat} {w w' : World} (h : ∀ k ∈ F, k ∉ G) (hG : ∀ k ∈ G, k < w.heap.size) (hu : Upd F F' w w') : ∀ k ∈ F', k ∉ G := fun k hk hg => by
  rcases hu.2 k hk with h1 | h1
  · exact h k h1 hg
  · have := hG k hg; omega
structure Tri (w0 w : World) (n m0 : Nat) (s0 : MS) (F0 : List Nat) (m1 : Nat) (s1 : MS) (F1 : List Nat) (m2 : Nat) (s2 : MS) (F2 : List Nat) : Prop where
  a : Mo w0 w n m0 s0 F0
  b : Mo w0 w n m1 s1 F1
  c : Mo w0 w n m2 s2 F2
  ab : ∀ k ∈ F0, k ∉ F1
  ac : ∀ k ∈ F0, k ∉ F2
  bc : ∀ k ∈ F1, k ∉ F2
theorem Tri.rot {w0 w : World} {n m0 m1 m2 : Nat} {s0 s1 s2 : MS} {F0 F1 F2 : List Nat} (h : Tri w0 w n m0 s0 F0 m1 s1 F1 m2 s2 F2) : Tri w0 w n m1 s1 F1 m2 s2 F2 m0 s0 F0 :=
  ⟨h.b, h.c, h.a, h.bc, fun k hk hk' => h.ab k hk' hk, fun k hk hk' => h.ac k hk' hk⟩
theorem Tri.below {w0 w w' : World} {n m0 m1 m2 : Nat} {s0 s1 s2 : MS} {F0 F1 F2 : List Nat} (h : Tri w0 w n m0 s0 F0 m1 s1 F1 m2 s2 F2) (hk : Below w.heap.size w w') : Tri w0 w' n m0 s0 F0 m1 s1 F1 m2 s2 F2 :=
  ⟨h.a.below hk, h.b.below hk, h.c.below hk, h.ab, h.ac, h.bc⟩
theorem Tri.more {w0 w : World} {n n' m0 m1 m2 : Nat} {s0 s1 s2 : MS} {F0 F1 F2 : List Nat} (h : Tri w0 w n m0 s0 F0 m1 s1 F1 m2 s2 F2) (hn : n ≤ n') : Tri w0 w n' m0 s0 F0 m1 s1 F1 m2 s2 F2 :=
  ⟨h.a.more hn, h.b.more hn, h.c.more hn, h.ab, h.ac, h.bc⟩
theorem Tri.updA {w0 w w' : World} {n n' m0 m1 m2 : Nat} {s0 s0' s1 s2 : MS} {F0 F0' F1 F2 : List Nat} (h : Tri w0 w n m0 s0 F0 m1 s1 F1 m2 s2 F2) (hm : Mo w0 w' n' m0 s0' F0') (hu : Upd F0 F0' w w') (hn : n ≤ n') : Tri w0 w' n' m0 s0' F0' m1 s1 F1 m2 s2 F2 :=
  ⟨hm, (h.b.mod hu (fun k hk hk' => h.ab k hk' hk) h.a.fF).more hn, (h.c.mod hu (fun k hk hk' => h.ac k hk' hk) h.a.fF).more hn, disj_upd h.ab h.b.c.lt hu, disj_upd h.ac h.c.c.lt hu, h.bc⟩
theorem Tri.updB {w0 w w' : World} {n n' m0 m1 m2 : Nat} {s0 s1 s1' s2 : MS} {F0 F1 F1' F2 : List Nat} (h : Tri w0 w n m0 s0 F0 m1 s1 F1 m2 s2 F2) (hm : Mo w0 w' n' m1 s1' F1') (hu : Upd F1 F1' w w') (hn : n ≤ n') : Tri w0 w' n' m0 s0 F0 m1 s1' F1' m2 s2 F2 :=
  (h.rot.updA hm hu hn).rot.rot
theorem Tri.updC {w0 w w' : World} {n n' m0 m1 m2 : Nat} {s0 s1 s2 s2' : MS} {F0 F1 F2 F2' : List Nat} (h : Tri w0 w n m0 s0 F0 m1 s1 F1 m2 s2 F2) (hm : Mo w0 w' n' m2 s2' F2') (hu : Upd F2 F2' w w') (hn : n ≤ n') : Tri w0 w' n' m0 s0 F0 m1 s1 F1 m2 s2' F2' :=
  (h.rot.rot.updA hm hu hn).rot
theorem Tri.start {w0 wa wb wc : World} {m0 m1 m2 : Nat} {F0 F1 F2 : List Nat} (ha : Mo w0 wa 0 m0 MS.new F0) (hb : Mo w0 wb 0 m1 MS.new F1) (hub : Upd [] F1 wa wb) (hc : Mo w0 wc 0 m2 MS.new F2) (huc : Upd [] F2 wb wc) : Tri w0 wc 0 m0 MS.new F0 m1 MS.new F1 m2 MS.new F2 := by
  have ha1 := ha.mod hub (fun k _ => by simp) (by simp)
  have ha2 := ha1.mod huc (fun k _ => by simp) (by simp)
  have hb2 := hb.mod huc (fun k _ => by simp) (by simp)
  refine ⟨ha2, hb2, hc, fun k hk hk' => ?_, fun k hk hk' => ?_, fun k hk hk' => ?_⟩
  · have := ha.c.lt k hk
    rcases hub.2 k hk' with h | h
    · cases h
    · omega
  · have := ha1.c.lt k hk
    rcases huc.2 k hk' with h | h
    · cases h
    · omega
  · have := hb.c.lt k hk
    rcases huc.2 k hk' with h | h
    · cases h
    · omega
/-- notes that came in, and are not too great, do -/
theorem noteOk_in {W : World} {n : Note} (h : n.ok W) (hs : SmallN n) : NoteOk n := by
  obtain ⟨⟨k0, k1⟩, -, ⟨c0, c1⟩, hc, hp, hm, -, -⟩ := h
  obtain ⟨s1, s2, s3⟩ := hs
  obtain ⟨⟨t0, t1⟩, -, -, -, -, -, -, -, -, -, -, -, ⟨-, -, -, hq⟩, -⟩ := hp
  exact ⟨c0, c1, k0, k1, t0, t1, hc, by have := hm.1; unfold maxLen at this; omega, hm.2.2.1, by have := hm.2.2.2; omega, fun x hx => ⟨(hq x hx).1, by have := (hq x hx).2; omega, by have := s2 x hx; omega⟩, by omega⟩
theorem note_subs {W : World} {n : Note} (h : n.ok W) : Row W n.pk.subsA (subsV n.pk.subs) := by
  obtain ⟨-, -, -, -, hp, -⟩ := h
  obtain ⟨-, -, -, -, -, -, -, -, -, -, -, -, ⟨hr, -⟩, -⟩ := hp
  exact hr
theorem Mo.kept_eq {w0 w : World} {n m : Nat} {s : MS} {F : List Nat} (h : Mo w0 w n m s F) (hn : n ≤ 10000) : s.kept.length ≤ 10000 := by have := h.kl; omega
theorem sameH_x (bb : Bool) (a b : Option Addr) (c d n k : Nat) (l m : List Hint) (w : World) (ha : Row w a (hintsV l)) (hb : Row w b (hintsV m)) (hm : (m.length : Int) ≤ 4611686018427387904) (hn : l.length = n) (hk : m.length = k) (hbb : decide (l = m) = bb) :
    Calls Tryz.prog 24 #[.slice a n c, .slice b k d] w fun e w' => e = .returned (.bool bb) ∧ ∃ n, w' = w.drewN n := by
  subst hn hk
  exact sameH_any bb a b c d l m w ha hb hm hbb
end
end Go.Proofs.YthfeckndkmhieaaGreatDoor
