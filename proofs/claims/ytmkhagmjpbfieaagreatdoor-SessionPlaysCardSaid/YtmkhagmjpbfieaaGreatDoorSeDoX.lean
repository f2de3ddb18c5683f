/- A session's law: do walked, each kind of call. (Printed by gen_sdo.py.) A session's law: its small functions walked; a session of the call's own. -/
import Derived.Test.YtmkhagmjpbfieaaGreatDoorSeWX
namespace Go.Proofs.YtmkhagmjpbfieaaGreatDoor
section
open Go Go.RowKit

def actC (a : ActS) : List Value := [.int .u8 a.kind, .int .i64 a.conn] ++ (a.p.cells ++ (subCells a.sub ++ a.m.cells))
theorem actC_len (a : ActS) : (actC a).length = 32 := rfl
/-- what is known of a call that statements go through -/
structure ActOk (a : ActS) : Prop where
  k0 : 0 ≤ a.kind
  k1 : a.kind ≤ 255
  f : a.sub.1.length ≤ 300
  q0 : 0 ≤ a.sub.2
  q1 : a.sub.2 ≤ 255
  ms : a.m.t.size + a.m.p.size ≤ 300
  mq : 0 ≤ a.m.q
  i0 : 0 ≤ a.p.id
  i1 : a.p.id ≤ 65535
theorem cfirst_u (g : Nat) (x : Int) (l : List Int) (F : List Nat) (w : World) (h : CRep w g l F) (hx0 : 0 ≤ x) (hx1 : x ≤ 65535) :
    Calls Tryz.prog 45 #[.pointer (some ⟨g, 0, none⟩), .int .u16 x] w fun e w' => e = .returned (.bool (!decide (x = 0 ∨ x ∈ l))) ∧ CRep w' g (firstI x l) F ∧ Upd F F w w' := by
  by_cases hc : x = 0 ∨ x ∈ l
  · refine (cfirst_no g x l F w h hx0 hx1 hc).mono ?_
    rintro e w' ⟨rfl, h1, h2⟩
    exact ⟨by simp [hc], by rw [firstI, if_pos hc]; exact h1, h2⟩
  · refine (cfirst_yes g x l F w h (by omega) hx1 (fun h => hc (.inr h))).mono ?_
    rintro e w' ⟨rfl, h1, h2⟩
    exact ⟨by simp [hc], by rw [firstI, if_neg hc]; exact h1, h2⟩
theorem crel_u (g : Nat) (x : Int) (l : List Int) (F : List Nat) (w : World) (h : CRep w g l F) (hx0 : 0 ≤ x) (hx1 : x ≤ 65535) :
    Calls Tryz.prog 47 #[.pointer (some ⟨g, 0, none⟩), .int .u16 x] w fun e w' => e = .returned (.bool (decide (x ∈ l))) ∧ CRep w' g (out x l) F ∧ Upd F F w w' := by
  by_cases hc : x ∈ l
  · refine (crel_yes g x l F w h hx0 hx1 hc).mono ?_
    rintro e w' ⟨rfl, h1, h2⟩
    exact ⟨by simp [hc], h1, h2⟩
  · refine (crel_no g x l F w h hx0 hx1 hc).mono ?_
    rintro e w' ⟨rfl, h1, h2⟩
    exact ⟨by simp [hc], by rw [out_none hc]; exact h1, h2⟩
theorem act_range {w : World} {b : Nat} {a : ActS} {T : TypeId} {fr : Nat × Nat} (h : w.heap[b]? = some (.cells (actC a).toArray T fr)) : w.rangeAt b 2 a.p.cells ∧ w.rangeAt b 28 a.m.cells := by
  have h0 := range_blk h
  refine ⟨fun j v hj => ?_, fun j v hj => ?_⟩
  · have hl := (List.getElem?_eq_some_iff.1 hj).1
    have := h0 (2 + j) v (by
      unfold actC
      rw [List.getElem?_append_right (by simp <;> omega), show 2 + j - [Value.int .u8 a.kind, .int .i64 a.conn].length = j by simp <;> omega, List.getElem?_append_left hl]; exact hj)
    rwa [Nat.zero_add] at this
  · have hl := (List.getElem?_eq_some_iff.1 hj).1
    have := h0 (28 + j) v (by
      unfold actC
      rw [List.getElem?_append_right (by simp <;> omega), show 28 + j - [Value.int .u8 a.kind, .int .i64 a.conn].length = 24 + (2 + j) by simp <;> omega, List.getElem?_append_right (by rw [pkt_len]; omega), pkt_len, show 24 + (2 + j) - 24 = 2 + j by omega, List.getElem?_append_right (by simp [subCells]), show 2 + j - (subCells a.sub).length = j by simp [subCells]]; exact hj)
    rwa [Nat.zero_add] at this
theorem act_cells {w : World} {b : Nat} {a : ActS} {T : TypeId} {fr : Nat × Nat} (h : w.heap[b]? = some (.cells (actC a).toArray T fr)) :
    w.cell? ⟨b, 0, none⟩ = some (.int .u8 a.kind) ∧ w.cell? ⟨b, 1, none⟩ = some (.int .i64 a.conn) ∧ w.cell? ⟨b, 6, none⟩ = some (.int .u16 a.p.id) ∧ w.cell? ⟨b, 26, none⟩ = some (.string ⟨a.sub.1.toArray⟩) ∧ w.cell? ⟨b, 27, none⟩ = some (.int .u8 a.sub.2) :=
  ⟨cell_of_row _ _ 0 _ _ _ h, cell_of_row _ _ 1 _ _ _ h, cell_of_row _ _ 6 _ _ _ h, cell_of_row _ _ 26 _ _ _ h, cell_of_row _ _ 27 _ _ _ h⟩
theorem range_kept {w w' : World} {b o : Nat} {cs : List Value} (h : w'.heap[b]? = w.heap[b]?) (hr : w.rangeAt b o cs) : w'.rangeAt b o cs := fun j v hj => (World.cell?_of_block (w := w) h).trans (hr j v hj)
section
variable (s : Nat) (x : SS) (win most : Int) (F : List Nat) (a : ActS) (w : World)
end
end
section
open Go Go.RowKit

/-- a session of the call's own -/
structure Se (w0 w : World) (s : Nat) (win most : Int) (x : SS) (F : List Nat) : Prop where
  bel : Below w0.heap.size w0 w
  rep : SesRep w s win most x F
  hi : ∀ k ∈ F, w0.heap.size ≤ k
theorem Se.upd {w0 w w' : World} {s : Nat} {win most : Int} {x x' : SS} {F F' : List Nat} (h : Se w0 w s win most x F) (hr : SesRep w' s win most x' F') (hu : Upd F F' w w') : Se w0 w' s win most x' F' :=
  ⟨h.bel.trans (hu.1.below h.bel.size h.hi), hr, fun k hk => (hu.2 k hk).elim (h.hi k) fun h1 => Nat.le_trans h.bel.size h1⟩
theorem Se.below {w0 w w' : World} {s : Nat} {win most : Int} {x : SS} {F : List Nat} (h : Se w0 w s win most x F) (hb : Below w.heap.size w w') : Se w0 w' s win most x F := ⟨bnext h.bel (Nat.le_refl _) hb, h.rep.below hb, h.hi⟩
theorem Se.zero {w0 w : World} {s : Nat} {win most : Int} {x : SS} {F : List Nat} (h : Se w0 w s win most x F) (h0 : 0 < w0.heap.size) : 0 ∉ F := fun hk => by have := h.hi 0 hk; omega
def conK (c : Bool) : Pkt := ⟨1, false, 0, false, 0, ⟨#[]⟩, ⟨#[]⟩, 4, c, 0, ⟨#[99]⟩, false, Msg.none, false, false, ⟨#[]⟩, ⟨#[]⟩, false, 0, none, 0, [], ⟨#[]⟩⟩
theorem built_con (c : Bool) : Tryz.prog.built 37 [(0, .int .u8 1), (7, .int .u8 4), (10, .string ⟨#[99]⟩), (8, .bool c)] = some (conK c).cells.toArray := by
  kernel_rfl
set_option maxRecDepth 100000 in
theorem connect_any (c : Bool) (w : World) : Calls Tryz.prog 18 #[.bool c] w fun e w' => e = .returned (.agg (conK c).cells.toArray) ∧ Below w.heap.size w w' := by
  have HBU := Lib.hid (fun (_ : Unit) => built_con c)
  have HFS := Lib.hid (pk_size (conK c))
  have HF1 := Lib.hid (pk_one (conK c))
  have H24 : Hid ((24 : Nat) = (conK c).cells.toArray.size) := Lib.hid rfl
  generalize (conK c).cells = CL at *
  go_enter Tryz.func18, Tryz.ntmps18
  go_wp2_with (first
    | (refine wpList_buildBy rfl 37 _ rfl _ rfl CL.toArray [(0, .int .u8 1), (7, .int .u8 4), (10, .string ⟨#[99]⟩), (8, .bool c)] (by kernel_rfl) (HBU.out ()) ?_)
    | (refine wpList_store_newTo rfl 37 _ _ rfl rfl w.heap.size rfl CL.toArray _ rfl rfl HFS.out H24.out HF1.out ?_)
    | fail)
  exact bodyPost_ret (results_cell_row rfl _ _ w.heap.size 37 CL.toArray (0, 0) _ rfl (heap_alloc_new w _) Tryz.underlying37 rfl HFS.out) rfl ⟨rfl, low_alloc _ _⟩
theorem config_any (win most : Int) (w : World) : Calls Tryz.prog 21 #[.int .i64 win, .int .i64 most] w fun e w' => e = .returned (.agg #[.int .i64 1, .int .i64 1, .int .i64 64, .int .i64 most, .int .i64 win]) ∧ Below w.heap.size w w' := by
  go_enter Tryz.func21, Tryz.ntmps21
  go_wp2_with fail
  exact bodyPost_ret (results_cell_row rfl _ _ w.heap.size 23 _ (0, 0) _ rfl (heap_alloc_new w _) Tryz.underlying23 rfl (by kernel_rfl)) rfl ⟨rfl, low_alloc _ _⟩
theorem names_row {w : World} {a : Option Addr} {l : List (List UInt8)} (h : Row w a (namesV l)) {k : Nat} (hk : k < l.length) : ∃ b o, a = some ⟨b, o, none⟩ ∧ w.cell? ⟨b, o + k, none⟩ = some (.string ⟨l[k].toArray⟩) :=
  h.at (by simp [namesV, hk])
set_option maxRecDepth 100000 in
theorem texts_same (a b : Option Addr) (c d : Nat) (l : List (List UInt8)) (w : World) (ha : Row w a (namesV l)) (hb : Row w b (namesV l)) (hl : l.length ≤ 100000) :
    Calls Tryz.prog 33 #[.slice a l.length c, .slice b l.length d] w fun e w' => e = .returned (.bool true) ∧ Below w.heap.size w w' := by
  have HA := Lib.hid ha
  have HB := Lib.hid hb
  clear ha hb
  go_enter Tryz.func33, Tryz.ntmps33
  go_wp2_with fail
  go_loopw [5] (fun i wr => ∃ k : Nat, i = .int .i64 k ∧ k ≤ l.length ∧ ∃ n, wr = w.drewN n) (fun i _ => (l.length - intOf i).toNat)
  case atStart => exact ⟨0, rfl, by omega, 0, rfl⟩
  case round =>
    obtain ⟨k, rfl, hk, n, rfl⟩ := hrel
    by_cases hlt : k < l.length
    · obtain ⟨b1, o1, rfl, k0⟩ := names_row HA.out hlt
      obtain ⟨b2, o2, rfl, j0⟩ := names_row HB.out hlt
      have hk0 : (0 : Int) ≤ k := by omega
      have hkl : (k : Int) < l.length := by omega
      generalize l[k] = x at *
      have hw1 : IntKind.i64.wrap ((k : Int) + 1) = (k : Int) + 1 := w_i64 _ (by omega) (by omega)
      go_wp2_with fail
      go_quiet (fail)
      go_wp2_with fail
      go_roundw
      case rel => exact ⟨k + 1, by go_num, by omega, n + _, rfl⟩
      case measure => simp [intOf]; omega
    · have hkl : ¬ (k : Int) < l.length := by omega
      go_wp2_with fail
      go_ret
      exact ⟨rfl, below_draws n⟩
set_option maxRecDepth 100000 in
set_option maxHeartbeats 2000000 in
theorem begins_any (w0 : World) (s : Nat) (win most : Int) (x : SS) (F : List Nat) (w : World) (h : Se w0 w s win most x F) (conn : Int) (p : Pkt) (want : Bool) (l : List (List UInt8)) (a : Option Addr) (c : Nat) (ha : Row w a (namesV l)) (hl : l.length ≤ 100000) (hA : beginA conn p x = (want, l))
    (hrow : ∀ (b o : Nat), a = some ⟨b, o, none⟩ → l ≠ [] → b ∉ F) :
    Calls Tryz.prog 22 #[.pointer (some ⟨s, 0, none⟩), .int .i64 conn, .agg p.cells.toArray, .bool want, .slice a l.length c] w fun e w' => e = .returned (.bool true) ∧ ∃ F', Se w0 w' s win most (beginS conn p x) F' ∧ Upd F F' w w' := by
  have hb := low_alloc w (.cells p.cells.toArray 37)
  have HX := Lib.hid (heap_alloc_new w (.cells p.cells.toArray 37))
  have HLS := Lib.hid (pk_size p)
  have h1 := h.below hb
  have HC := Lib.hid (begin_any s x win most F conn p _ h1.rep)
  have HH := Lib.hid h1
  have ha1 := ha.below hb (Nat.le_refl _)
  have HR := Lib.hid ha1
  have HBW := Lib.hid hb
  have HROW := Lib.hid hrow
  rw [hA] at HC
  clear h h1 ha ha1 hb hrow hA
  generalize p.cells = PL at *
  generalize beginS conn p x = y at *
  go_enter Tryz.func22, Tryz.ntmps22
  go_wp2_with (first
    | (refine wpList_load_row rfl 37 _ rfl w.heap.size rfl 37 PL.toArray _ _ HX.out Tryz.underlying37 rfl HLS.out ?_)
    | fail)
  refine HC.out.mono ?_
  rintro e w2 ⟨v, F', rfl, ho, hr, hu, -⟩
  have HS := Lib.hid (HH.out.upd hr hu)
  have HU := Lib.hid (Upd.pre HBW.out hu)
  obtain ⟨va, vc, rfl, hrow2, -, -⟩ := ownsRow_row ho
  have hra : Row w2 a (namesV l) := by
    by_cases e : l = []
    · subst e; exact .inl rfl
    · exact HR.out.mod hu.1 fun b o e2 => HROW.out b o e2 e
  have HT := Lib.hid (texts_same va a vc c l w2 hrow2 hra hl)
  clear ho hr hu hrow2 hra
  cases want
  · go_wp2_with fail
    refine HT.out.mono ?_
    rintro e w3 ⟨rfl, hk⟩
    have HS3 := Lib.hid (HS.out.below hk)
    have HU3 := Lib.hid (HU.out.next hk)
    clear hk
    go_wp2_with fail
    go_ret
    exact ⟨rfl, _, HS3.out, HU3.out⟩
  · go_wp2_with fail
    refine HT.out.mono ?_
    rintro e w3 ⟨rfl, hk⟩
    have HS3 := Lib.hid (HS.out.below hk)
    have HU3 := Lib.hid (HU.out.next hk)
    clear hk
    go_wp2_with fail
    go_ret
    exact ⟨rfl, _, HS3.out, HU3.out⟩
end
end Go.Proofs.YtmkhagmjpbfieaaGreatDoor
