/- The laws' helpers: two rows compared; acts as arguments; contracts with the answer as a variable. -/
import Derived.Test.YtjfmnlhbodekaaaIRef2
import Derived.Test.YtjfmnlhbodekaaaOpen
namespace Go.Proofs.Ytjfmnlhbodekaaa
open Go Go.ChangeShapes Go.WideShapes Go.ChangeAt Go.RowKit Go.WideMaps Go.WideElems Go.Joins

set_option maxRecDepth 100000 in
theorem same_any (b : Bool) (a a' : Option Addr) (c c' : Nat) (l m : List Int) (w : World) (ha : Row w a (u16s l)) (ha' : Row w a' (u16s m)) (hl : (l.length : Int) < 4611686018427387904) (hb : decide (l = m) = b) :
    Calls Try.prog 20 #[.slice a l.length c, .slice a' m.length c'] w fun e w' => e = .returned (.bool b) ∧ ∃ n, w' = w.drewN n := by
  have HA := Lib.hid ha
  have HA' := Lib.hid ha'
  have HB := Lib.hid hb
  clear ha ha' hb
  by_cases hne : l.length = m.length
  · have HE := Lib.hid hne
    have hq : ((l.length : Int) != m.length) = false := by simp [hne]
    have hle : (m.length : Int) < 4611686018427387904 := by omega
    clear hne
    go_enter Try.func20, Try.ntmps20
    go_wp2_with fail
    go_loopw [5] (fun i wr => ∃ k : Nat, i = .int .i64 k ∧ k ≤ l.length ∧ l.take k = m.take k ∧ ∃ n, wr = w.drewN n) (fun i _ => (l.length - intOf i).toNat)
    case atStart => exact ⟨0, rfl, by omega, by simp, 0, rfl⟩
    case round =>
      obtain ⟨k, rfl, hk, ht, nd, rfl⟩ := hrel
      have HT := Lib.hid ht
      clear ht
      by_cases hlt : k < l.length
      · have hlt' : k < m.length := by rw [← HE.out]; exact hlt
        obtain ⟨b1, o1, rfl, k0⟩ := row_at HA.out (k := k) (x := l[k]) (by simp [hlt])
        obtain ⟨b2, o2, rfl, k1⟩ := row_at HA'.out (k := k) (x := m[k]) (by simp [hlt'])
        have hk0 : (0 : Int) ≤ k := by omega
        have hkl : (k : Int) < l.length := by omega
        have hkm : (k : Int) < m.length := by omega
        have HX := Lib.hid (show l[k]? = some l[k] by simp [hlt])
        have HY := Lib.hid (show m[k]? = some m[k] by simp [hlt'])
        generalize l[k] = x at *
        generalize m[k] = y at *
        by_cases hxy : x = y
        · subst hxy
          have hq2 : (x != x) = false := by simp
          go_wp2_with fail
          go_quiet (fail)
          go_wp2_with fail
          go_roundw
          case rel => exact ⟨k + 1, by go_num, by omega, by rw [List.take_add_one, List.take_add_one, HX.out, HY.out, HT.out], _, rfl⟩
          case measure => simp [intOf]; omega
        · have hq2 : (x != y) = true := by simpa using hxy
          have HF := Lib.hid (show false = b by
            rw [← HB.out]
            have : l ≠ m := by
              rintro rfl
              have h1 := HX.out; have h2 := HY.out
              rw [h1] at h2; exact hxy (by simpa using h2)
            simp [this])
          clear hxy
          go_wp2_with fail
          go_quiet (fail)
          go_wp2_with fail
          go_ret
          exact ⟨ret_bool HF.out, _, World.drewN_drewN _ _ _⟩
      · have hkl : ¬ (k : Int) < l.length := by omega
        have HF := Lib.hid (show true = b by
          rw [← HB.out]
          have h := HT.out
          have he := HE.out
          rw [List.take_of_length_le (by omega), List.take_of_length_le (by omega)] at h
          simp [h])
        go_wp2_with fail
        go_ret
        exact ⟨ret_bool HF.out, nd, rfl⟩
  · have hq : ((l.length : Int) != m.length) = true := by simp; omega
    have HF := Lib.hid (show false = b by rw [← HB.out]; have : l ≠ m := fun e => hne (by rw [e]); simp [this])
    clear hne
    go_enter Try.func20, Try.ntmps20
    go_wp2_with fail
    go_ret
    exact ⟨ret_bool HF.out, 0, rfl⟩

def frs (x : Int) (l : List Int) : List Int := if x = 0 ∨ x ∈ l then l else ins x l
theorem cfirst_u (b : Bool) (g : Nat) (x : Int) (l : List Int) (F : List Nat) (w : World) (h : CRep w g l F) (hx0 : 0 ≤ x) (hx1 : x ≤ 65535) (hb : decide (x ≠ 0 ∧ x ∉ l) = b) :
    Calls Try.prog 9 #[.pointer (some ⟨g, 0, none⟩), .int .u16 x] w fun e w' => e = .returned (.bool b) ∧ CRep w' g (frs x l) F ∧ Upd F F w w' := by
  subst hb
  by_cases hc : x = 0 ∨ x ∈ l
  · have : decide (x ≠ 0 ∧ x ∉ l) = false := by simp; intro h1; exact hc.resolve_left h1
    rw [this, frs, if_pos hc]
    exact cfirst_no g x l F w h hx0 hx1 hc
  · have hc' : x ≠ 0 ∧ x ∉ l := ⟨fun e => hc (.inl e), fun e => hc (.inr e)⟩
    rw [decide_eq_true hc', frs, if_neg hc]
    exact cfirst_yes g x l F w h (by omega) hx1 hc'.2
theorem tfirst_u (b : Bool) (g : Nat) (x : Int) (l : List Int) (F : List Nat) (w : World) (h : TRep w g l F) (hlen : l.length ≤ 1000000) (hb : decide (x ≠ 0 ∧ x ∉ l) = b) :
    Calls Try.prog 16 #[.pointer (some ⟨g, 0, none⟩), .int .u16 x] w fun e w' => e = .returned (.bool b) ∧ ∃ F', TRep w' g (frs x l) F' ∧ Upd F F' w w' := by
  subst hb
  by_cases hc : x = 0 ∨ x ∈ l
  · have : decide (x ≠ 0 ∧ x ∉ l) = false := by simp; intro h1; exact hc.resolve_left h1
    rw [this, frs, if_pos hc]
    exact (tfirst_no g x l F w h hlen hc).mono fun e w' ⟨h1, h2⟩ => ⟨h1, F, h2 ▸ h, h2 ▸ Mod.refl _ _, fun k hk => .inl hk⟩
  · have hc' : x ≠ 0 ∧ x ∉ l := ⟨fun e => hc (.inl e), fun e => hc (.inr e)⟩
    rw [decide_eq_true hc', frs, if_neg hc]
    exact tfirst_yes g x l F w h hlen hc'.1 hc'.2
theorem crel_u (b : Bool) (g : Nat) (x : Int) (l : List Int) (F : List Nat) (w : World) (h : CRep w g l F) (hx0 : 0 ≤ x) (hx1 : x ≤ 65535) (hb : decide (x ∈ l) = b) :
    Calls Try.prog 11 #[.pointer (some ⟨g, 0, none⟩), .int .u16 x] w fun e w' => e = .returned (.bool b) ∧ CRep w' g (out x l) F ∧ Upd F F w w' := by
  subst hb
  by_cases hc : x ∈ l
  · rw [decide_eq_true hc]
    exact crel_yes g x l F w h hx0 hx1 hc
  · rw [decide_eq_false hc, out_none hc]
    exact crel_no g x l F w h hx0 hx1 hc
theorem trel_u (b : Bool) (g : Nat) (x : Int) (l : List Int) (F : List Nat) (w : World) (h : TRep w g l F) (hlen : l.length ≤ 1000000) (hb : decide (x ∈ l) = b) :
    Calls Try.prog 17 #[.pointer (some ⟨g, 0, none⟩), .int .u16 x] w fun e w' => e = .returned (.bool b) ∧ ∃ F', TRep w' g (out x l) F' ∧ Upd F F' w w' := by
  subst hb
  by_cases hc : x ∈ l
  · rw [decide_eq_true hc]
    exact trel_yes g x l F w h hlen hc
  · rw [decide_eq_false hc, out_none hc]
    exact (trel_no g x l F w h hlen hc).mono fun e w' ⟨h1, h2⟩ => ⟨h1, F, h2 ▸ h, h2 ▸ Mod.refl _ _, fun k hk => .inl hk⟩

def Far (F G : List Nat) : Prop := ∀ k ∈ F, k ∉ G
theorem Far.symm {F G : List Nat} (h : Far F G) : Far G F := fun k hk hf => h k hf hk
theorem Far.upd {F F' G : List Nat} {w w' : World} (h : Far F G) (hu : Upd F F' w w') (hG : ∀ k ∈ G, k < w.heap.size) : Far F' G := fun k hk hg => by
  rcases hu.2 k hk with h1 | h1
  · exact h k h1 hg
  · have := hG k hg; omega
theorem far_new {F G : List Nat} {w w' : World} (hu : Upd [] F w w') (hG : ∀ k ∈ G, k < w.heap.size) : Far F G := Far.upd (F := []) (fun _ h => by simp at h) hu hG
theorem CRep.upd {F F' G : List Nat} {w w' : World} {g : Nat} {l : List Int} (h : CRep w g l G) (hu : Upd F F' w w') (hf : Far F G) : CRep w' g l G := h.mod hu.1 fun k hk => hf.symm k hk
theorem TRep.upd {F F' G : List Nat} {w w' : World} {g : Nat} {l : List Int} (h : TRep w g l G) (hu : Upd F F' w w') (hf : Far F G) : TRep w' g l G := h.mod hu.1 fun k hk => hf.symm k hk
theorem upd_below {F F' : List Nat} {w w1 w2 : World} {B : Nat} (hb : Below B w w1) (hB : B ≤ w.heap.size) (hF : ∀ k ∈ F, B ≤ k) (hu : Upd F F' w1 w2) : Below B w w2 ∧ ∀ k ∈ F', B ≤ k :=
  ⟨hb.trans (hu.1.below (Nat.le_trans hB hb.size) hF), fun k hk => by
    rcases hu.2 k hk with h | h
    · exact hF k h
    · have := hb.size; omega⟩

/-- an act: a kind and an id -/
structure Act2 where
  k : Int
  id : Int
def Act2.cells (d : Act2) : List Value := [.int .u8 d.k, .int .u16 d.id]
def acts (l : List Act2) : List Value := l.flatMap Act2.cells
structure Act2.ok (d : Act2) : Prop where
  k0 : 0 ≤ d.k
  k1 : d.k ≤ 255
  i0 : 0 ≤ d.id
  i1 : d.id ≤ 65535
theorem flat_act : Flat Try.prog 37 Act2.cells Act2.ok := by
  intro H enc w base sp held fuel cs x h
  obtain ⟨y0, y1, n, -, hl, h0, h1⟩ := trod_struct2 Try.underlying37 h
  have hc : Try.prog.cellsOf 37 = 2 := by kernel_rfl
  have c4 : Try.prog.cellsOf 25 = 1 := by kernel_rfl
  have c5 : Try.prog.cellsOf 5 = 1 := by kernel_rfl
  rw [hc] at hl
  match cs, hl with
  | [k, a], _ =>
    simp only [c4, c5, List.drop_zero, List.drop_succ_cons, List.take_succ_cons, List.take_zero] at h0 h1
    obtain ⟨k', e0, -, z0⟩ := DataW.trod_int Try.underlying5 h0
    obtain ⟨m, e1, -, z1⟩ := DataW.trod_int Try.underlying25 h1
    have b0 := bounds_u8 z0
    have b1 := wfU_iff z1
    refine ⟨⟨k', m⟩, ?_, b0.1, b0.2, b1.1, b1.2⟩
    simp only [List.cons.injEq, and_true] at e0 e1
    rw [e0, e1]
    rfl
theorem act_len (d : Act2) : d.cells.length = Try.prog.cellsOf 37 := (show (2 : Nat) = Try.prog.cellsOf 37 from by kernel_rfl)
theorem act_pos : 0 < Try.prog.cellsOf 37 := by rw [← act_len ⟨0, 0⟩]; exact Nat.succ_pos _
/-- the two cells of the act at k -/
theorem acts_row {w : World} {a : Option Addr} {l : List Act2} (h : Row w a (acts l)) {k : Nat} {d : Act2} (hk : l[k]? = some d) :
    ∃ b off, a = some ⟨b, off, none⟩ ∧ w.cell? ⟨b, off + k * 2, none⟩ = some (.int .u8 d.k) ∧ w.cell? ⟨b, off + k * 2 + 1, none⟩ = some (.int .u16 d.id) := by
  have hc : ∀ d : Act2, d.cells.length = 2 := fun _ => rfl
  have ha : ∀ r, r < 2 → (acts l)[k * 2 + r]? = d.cells[r]? := fun r hr => by rw [acts, flatMap_at hc _ _ _ hr, hk]; rfl
  have m0 := ha 0 (by omega)
  rcases h with h | ⟨b, off, e, hcell⟩
  · rw [h] at m0; simp [Act2.cells] at m0
  · exact ⟨b, off, e, hcell _ _ m0, by rw [Nat.add_assoc]; exact hcell _ _ (ha 1 (by omega))⟩
end Go.Proofs.Ytjfmnlhbodekaaa
