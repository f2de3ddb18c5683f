/- Packets: how much statements go through. (Cut by mksess.py.) A session's law: Great walked. -/
import Derived.Test.YtmkhagmjpbfieaaGreatDoorSeAX
namespace Go.Proofs.YtmkhagmjpbfieaaGreatDoor
section
open Go Go.RowKit

theorem own_new (w : World) (b : Nat) (hb : b = w.heap.size) (xs : List Value) (T : TypeId) (sz n : Nat) (hn : xs.length = n * sz) (hm : n ≤ maxLen) (B : Nat) (hB : B ≤ w.heap.size) : (w.alloc (.cells xs.toArray T)).ownsRow B T sz (.slice (some ⟨b, 0, none⟩) n n) n xs := by
  subst hb
  exact ⟨hn, .inr ⟨w.heap.size, n, xs.toArray, rfl, hB, heap_alloc_new w _, Nat.le_refl _, hm, by simpa using hn, by rw [List.toList_toArray, List.take_of_length_le (by omega)]⟩⟩
theorem pkt_cell {w : World} {b : Nat} {n : Pkt} {T : TypeId} {fr : Nat × Nat} (h : w.heap[b]? = some (.cells n.cells.toArray T fr)) :
    w.cell? ⟨b, 5, none⟩ = some (.string n.topic) ∧ w.cell? ⟨b, 6, none⟩ = some (.string n.payload) ∧ w.cell? ⟨b, 10, none⟩ = some (.string n.client) ∧ w.cell? ⟨b, 12, none⟩ = some (.string n.will.t) ∧ w.cell? ⟨b, 13, none⟩ = some (.string n.will.p) ∧ w.cell? ⟨b, 18, none⟩ = some (.string n.user) ∧ w.cell? ⟨b, 19, none⟩ = some (.string n.pass) ∧ w.cell? ⟨b, 22, none⟩ = some (.slice n.subsA n.subs.length n.subsC) ∧ w.cell? ⟨b, 23, none⟩ = some (.string n.codes) :=
  ⟨cell_of_row w b 5 _ _ _ h, cell_of_row w b 6 _ _ _ h, cell_of_row w b 10 _ _ _ h, cell_of_row w b 12 _ _ _ h, cell_of_row w b 13 _ _ _ h, cell_of_row w b 18 _ _ _ h, cell_of_row w b 19 _ _ _ h, cell_of_row w b 22 _ _ _ h, cell_of_row w b 23 _ _ _ h⟩
def subStrs (l : List SubE) : List ByteArray := l.map fun x => ⟨x.1.toArray⟩
def sumLen (l : List ByteArray) : Int := (l.map fun x => (x.size : Int)).sum
theorem sumLen_snoc (l : List ByteArray) (x : ByteArray) : sumLen (l ++ [x]) = sumLen l + x.size := by simp [sumLen]
theorem sumLen_nonneg : ∀ l : List ByteArray, 0 ≤ sumLen l
  | [] => by simp [sumLen]
  | x :: r => by have := sumLen_nonneg r; simp only [sumLen, List.map_cons, List.sum_cons] at *; omega
theorem sumLen_mem {l : List ByteArray} {x : ByteArray} (h : x ∈ l) : (x.size : Int) ≤ sumLen l := by
  induction l with
  | nil => cases h
  | cons y r ih =>
    have h0 := sumLen_nonneg r
    have e : sumLen (y :: r) = y.size + sumLen r := by simp [sumLen]
    rcases List.mem_cons.1 h with rfl | h
    · omega
    · have := ih h; omega
set_option maxRecDepth 100000 in
set_option maxHeartbeats 2000000 in
theorem great03_any (p : Pkt) (w : World) (hr : Row w p.subsA (subsV p.subs)) (hl : p.subs.length ≤ maxLen) :
    Calls Tryz.prog 20 #[.agg p.cells.toArray] w fun e w' => (e = .returned (.bool true) ∨ (e = .returned (.bool false) ∧ p.subs.length ≤ 100 ∧ ∀ x ∈ p.subs, x.1.length ≤ 10000)) ∧ Below w.heap.size w w' := by
  have hba := low_alloc w (.cells p.cells.toArray 37)
  have HBA := Lib.hid hba
  have HNB := Lib.hid (heap_alloc_new w (.cells p.cells.toArray 37))
  have HR := Lib.hid (hr.below hba (Nat.le_refl _))
  obtain ⟨c5, c6, c10, c12, c13, c18, c19, c22, c23⟩ := pkt_cell HNB.out
  have hl2 : (p.subs.length : Int) ≤ 9223372036854775807 := by unfold maxLen at hl; omega
  clear hba hr
  generalize p.cells.toArray = PC at *
  generalize p.topic = s1 at *
  generalize p.payload = s2 at *
  generalize p.client = s3 at *
  generalize p.will.t = s4 at *
  generalize p.will.p = s5 at *
  generalize p.user = s6 at *
  generalize p.pass = s7 at *
  generalize p.codes = s8 at *
  generalize p.subs = xs at *
  by_cases h100 : 100 < xs.length
  · have hI : (100 : Int) < xs.length := by omega
    go_enter Tryz.func20, Tryz.ntmps20
    go_wp2_with fail
    go_ret
    exact ⟨.inl rfl, HBA.out⟩
  · have hI : ¬ ((100 : Int) < xs.length) := by omega
    go_enter Tryz.func20, Tryz.ntmps20
    go_wp2_with fail
    have hsz0 : w.heap.size + 1 = (w.alloc (.cells PC 37)).heap.size := by simp
    generalize w.alloc (.cells PC 37) = w0 at *
    have hown0 := own_new w0 (w.heap.size + 1) hsz0 ([s1, s2, s3, s4, s5, s6, s7, s8].map Value.string) 9 1 8 rfl (by decide) w0.heap.size (Nat.le_refl _)
    have hb0 := low_alloc w0 (.cells ([s1, s2, s3, s4, s5, s6, s7, s8].map Value.string).toArray 9)
    have HC : Hid (∀ X, Below w0.heap.size w0 X → X.cell? ⟨w.heap.size, 22, none⟩ = some (.slice p.subsA xs.length p.subsC) ∧ Row X p.subsA (subsV xs)) := Lib.hid (fun X hX => ⟨(hX.cell (World.block_lt_of_cell? _ _ c22)).trans c22, HR.out.below hX (Nat.le_refl _)⟩)
    clear c5 c6 c10 c12 c13 c18 c19 c22 c23 HNB HR
    obtain ⟨S0, hS0⟩ : ∃ S0, [s1, s2, s3, s4, s5, s6, s7, s8] = S0 := ⟨_, rfl⟩
    have HS8 := Lib.hid (show S0.length = 8 by rw [← hS0]; rfl)
    rw [hS0] at hown0 hb0
    have hgo : (w0.alloc (.cells #[.string s1, .string s2, .string s3, .string s4, .string s5, .string s6, .string s7, .string s8] 9)) = w0.alloc (.cells (S0.map Value.string).toArray 9) := by rw [← hS0]; rfl
    rw [hgo]
    have hxl : (xs.length : Int) ≤ 100 := by omega
    clear hS0 hgo hl hl2 hI h100
    go_loopw [4, 5] (fun v i wr => ∃ k : Nat, i = .int .i64 k ∧ k ≤ xs.length ∧ wr.ownsRow w0.heap.size 9 1 v (8 + k) ((S0 ++ subStrs (xs.take k)).map Value.string) ∧ Below w0.heap.size w0 wr) (fun _ i _ => (xs.length - intOf i).toNat)
    case atStart => exact ⟨0, rfl, by omega, by simpa [subStrs] using hown0, hb0⟩
    case round =>
      clear hown0 hb0
      obtain ⟨k, rfl, hk, hown, hb⟩ := hrel
      by_cases hlt : k < xs.length
      · have hk0 : (0 : Int) ≤ k := by omega
        have hkI : (k : Int) < xs.length := by omega
        obtain ⟨cc, hrw⟩ := HC.out _ hb
        obtain ⟨b1, o1, hea, d0, d1⟩ := subs_row hrw hlt
        rw [hea] at cc
        have HTK : Hid ((S0 ++ subStrs (xs.take k)).map Value.string ++ [Value.string ⟨xs[k].1.toArray⟩] = (S0 ++ subStrs (xs.take (k + 1))).map Value.string) := Lib.hid (by
          rw [List.take_succ_eq_append_getElem hlt]; simp only [subStrs, List.map_append, List.map_cons, List.map_nil, List.append_assoc])
        generalize xs[k] = y at *
        obtain ⟨yf, yq⟩ := y
        dsimp only at *
        have hbs := hb.size
        generalize (S0 ++ subStrs (xs.take k)).map Value.string = V at *
        clear hrw hea
        go_wp2_with (first
          | (at_builtin; refine wpList_app T_strS hown hb hbs rfl rfl rfl rfl (by rfl) (by simp [Value.oneCell']) (by omega) (by omega) ?_; intro v' w3 hown' hbel3 hsz3 hlt3; clear hown hb; go_frame)
          | fail)
        go_roundw
        case rel => exact ⟨k + 1, by go_num, by omega, by rw [← HTK.out]; exact hown', hbel3⟩
        case measure => simp [intOf]; omega
      · have hkI : ¬ (k : Int) < xs.length := by omega
        obtain ⟨cc, hrw⟩ := HC.out _ hb
        have HB := Lib.hid hb
        obtain rfl : k = xs.length := by omega
        rw [List.take_length] at hown
        obtain ⟨a2, c2, rfl, hr2, -, -⟩ := ownsRow_row hown
        have HR2 := Lib.hid hr2
        have HLN := Lib.hid (show (S0 ++ subStrs xs).length = 8 + xs.length by rw [List.length_append, HS8.out]; simp [subStrs])
        have HSUB : Hid (sumLen (S0 ++ subStrs xs) ≤ 10000 → ∀ x ∈ xs, x.1.length ≤ 10000) := Lib.hid (fun h x hx => by
          have := sumLen_mem (l := S0 ++ subStrs xs) (x := ⟨x.1.toArray⟩) (List.mem_append.2 (.inr (List.mem_map.2 ⟨x, hx, rfl⟩)))
          have e : (⟨x.1.toArray⟩ : ByteArray).size = x.1.length := by show x.1.toArray.size = _; simp
          omega)
        generalize S0 ++ subStrs xs = S at *
        clear hown hr2 hb hrw
        go_wp2_with fail
        go_loopw [3, 6] (fun lf i wq => ∃ k : Nat, i = .int .i64 k ∧ k ≤ 8 + xs.length ∧ lf = .int .i64 (10000 - sumLen (S.take k)) ∧ sumLen (S.take k) ≤ 10000 ∧ wq = wr) (fun _ i _ => (8 + xs.length - intOf i).toNat)
        case atStart => exact ⟨0, rfl, by omega, by simp [sumLen], by simp [sumLen], rfl⟩
        case round =>
          obtain ⟨k, rfl, hk, rfl, hle, rfl⟩ := hrel
          by_cases hlt : k < 8 + xs.length
          · have hk0 : (0 : Int) ≤ k := by omega
            have hkI : (k : Int) < 8 + xs.length := by omega
            have hkS : k < S.length := by rw [HLN.out]; exact hlt
            have hj : (S.map Value.string)[k]? = some (.string S[k]) := by simp [hkS]
            obtain ⟨b1, o1, rfl, d0⟩ := HR2.out.at hj
            have HST := Lib.hid (show sumLen (S.take (k + 1)) = sumLen (S.take k) + S[k].size by rw [List.take_succ_eq_append_getElem hkS, sumLen_snoc])
            have h0 := sumLen_nonneg (S.take k)
            have h1 := sumLen_nonneg (S.take (k + 1))
            generalize S[k] = y at *
            generalize sumLen (S.take k) = t at *
            by_cases hgt : (10000 - t : Int) < y.size
            · go_wp2_with fail
              go_ret
              exact ⟨.inl rfl, HBA.out.trans (HB.out.mono HBA.out.size)⟩
            · have hw : IntKind.i64.wrap (10000 - t - y.size) = 10000 - (t + y.size) := by rw [w_i64 _ (by omega) (by omega)]; omega
              go_wp2_with fail
              go_roundw
              case rel => exact ⟨k + 1, by go_num, by omega, by rw [HST.out], by rw [HST.out]; omega, trivial⟩
              case measure => simp [intOf]; omega
          · have hkI : ¬ (k : Int) < 8 + xs.length := by omega
            have hfin := HSUB.out (by rw [List.take_of_length_le (by rw [HLN.out]; omega)] at hle; exact hle)
            have HFIN := Lib.hid hfin
            clear hfin
            go_wp2_with fail
            go_ret
            exact ⟨.inr ⟨rfl, by omega, fun a b h => HFIN.out (a, b) h⟩, HBA.out.trans (HB.out.mono HBA.out.size)⟩
end
section
open Go Go.RowKit

def actsV (l : List ActS) : List Value := l.flatMap actC
/-- what is known of a call that came in -/
structure ActPre (W : World) (a : ActS) : Prop where
  k0 : 0 ≤ a.kind
  k1 : a.kind ≤ 255
  q0 : 0 ≤ a.sub.2
  q1 : a.sub.2 ≤ 255
  mq : 0 ≤ a.m.q
  i0 : 0 ≤ a.p.id
  i1 : a.p.id ≤ 65535
  ms : a.m.t.size + a.m.p.size ≤ 4611686018427387904
  row : Row W a.p.subsA (subsV a.p.subs)
  rl : a.p.subs.length ≤ maxLen
theorem ActPre.ok {W : World} {a : ActS} (h : ActPre W a) (hf : a.sub.1.length ≤ 300) (hm : a.m.t.size + a.m.p.size ≤ 300) : ActOk a := ⟨h.k0, h.k1, hf, h.q0, h.q1, hm, h.mq, h.i0, h.i1⟩
/-- what the walk reads of the k-th -/
theorem acts_at {w : World} {a : Option Addr} {l : List ActS} (h : Row w a (actsV l)) {k : Nat} (hk : k < l.length) : ∃ b o, a = some ⟨b, o, none⟩ ∧ w.rangeAt b (o + k * 32) (actC l[k]) := row_mid (mk := actC) (m := 32) actC_len h hk (by decide)
theorem act_parts {X : World} {b o : Nat} {a : ActS} (h : X.rangeAt b o (actC a)) : X.rangeAt b (o + 2) a.p.cells ∧ X.cell? ⟨b, o + 26, none⟩ = some (.string ⟨a.sub.1.toArray⟩) ∧ X.cell? ⟨b, o + 28, none⟩ = some (.string a.m.t) ∧ X.cell? ⟨b, o + 28 + 1, none⟩ = some (.string a.m.p) := by
  refine ⟨fun j v hj => ?_, h 26 _ rfl, h 28 _ rfl, h 29 _ rfl⟩
  have hl := (List.getElem?_eq_some_iff.1 hj).1
  have := h (2 + j) v (by
    unfold actC
    rw [List.getElem?_append_right (by simp <;> omega), show 2 + j - [Value.int .u8 a.kind, .int .i64 a.conn].length = j by simp <;> omega, List.getElem?_append_left hl]; exact hj)
  rwa [← Nat.add_assoc] at this
def SmallA (a : ActS) : Prop := a.sub.1.length ≤ 300 ∧ a.m.t.size + a.m.p.size ≤ 300
set_option maxRecDepth 100000 in
set_option maxHeartbeats 4000000 in
theorem great18_any (a : Option Addr) (c : Nat) (l : List ActS) (w : World) (ha : Row w a (actsV l)) (hl : l.length ≤ maxLen) (hP : ∀ x ∈ l, ActPre w x) :
    Calls Tryz.prog 6 #[.slice a l.length c] w fun e w' => (e = .returned (.bool true) ∨ (e = .returned (.bool false) ∧ l.length ≤ 200 ∧ ∀ x ∈ l, SmallA x)) ∧ Below w.heap.size w w' := by
  have HA : Hid (∀ X, Below w.heap.size w X → Row X a (actsV l)) := Lib.hid (fun X hX => ha.below hX (Nat.le_refl _))
  have HP := Lib.hid hP
  clear ha hP
  have hlm : (l.length : Int) ≤ 9223372036854775807 := by unfold maxLen at hl; omega
  by_cases h200 : 200 < l.length
  · have hI : (200 : Int) < l.length := by omega
    go_enter Tryz.func6, Tryz.ntmps6
    go_wp2_with fail
    go_ret
    exact ⟨.inl rfl, Below.refl _ _⟩
  · have hI : ¬ ((200 : Int) < l.length) := by omega
    go_enter Tryz.func6, Tryz.ntmps6
    go_wp2_with fail
    go_loopw [3] (fun i wr => ∃ k : Nat, i = .int .i64 k ∧ k ≤ l.length ∧ Below w.heap.size w wr ∧ ∀ j (hj : j < k) (hjl : j < l.length), SmallA l[j]) (fun i _ => (l.length - intOf i).toNat)
    case atStart => exact ⟨0, rfl, by omega, Below.refl _ _, fun j hj => by omega⟩
    case round =>
      obtain ⟨k, rfl, hk, hbr, hsm⟩ := hrel
      have HSM := Lib.hid hsm
      have HBR := Lib.hid hbr
      clear hsm
      by_cases hlt : k < l.length
      · have hk0 : (0 : Int) ≤ k := by omega
        have hkl : (k : Int) < l.length := by omega
        obtain ⟨b, off, rfl, hra⟩ := acts_at (HA.out _ hbr) hlt
        have HX : Hid (SmallA l[k] → ∀ j (hj : j < k + 1) (hjl : j < l.length), SmallA l[j]) := Lib.hid (fun h j hj hjl => by
          by_cases e : j = k
          · subst e; exact h
          · exact HSM.out j (by omega) hjl)
        have hpre := HP.out _ (List.getElem_mem hlt)
        generalize l[k] = x at *
        obtain ⟨p2, c26, c28, c29⟩ := act_parts hra
        have hbl : b < wr.heap.size := World.block_lt_of_cell? wr _ c26
        have HS : Hid (∀ X, Below wr.heap.size wr X → X.rangeAt b (off + k * 32 + 2) x.p.cells ∧ X.cell? ⟨b, off + k * 32 + 26, none⟩ = some (.string ⟨x.sub.1.toArray⟩) ∧ X.cell? ⟨b, off + k * 32 + 28, none⟩ = some (.string x.m.t) ∧ X.cell? ⟨b, off + k * 32 + 28 + 1, none⟩ = some (.string x.m.p)) := Lib.hid (fun X hX =>
          ⟨fun j v hj => (hX.cell (p := ⟨b, _, none⟩) hbl).trans (p2 j v hj), (hX.cell (p := ⟨b, _, none⟩) hbl).trans c26, (hX.cell (p := ⟨b, _, none⟩) hbl).trans c28, (hX.cell (p := ⟨b, _, none⟩) hbl).trans c29⟩)
        have HG := Lib.hid (fun X (hX : Below w.heap.size w X) => great03_any x.p X (hpre.row.below hX (Nat.le_refl _)) hpre.rl)
        have HLS := Lib.hid (pk_size' x.p)
        have hw1 : IntKind.i64.wrap ((k : Int) + 1) = (k : Int) + 1 := w_i64 _ (by omega) (by omega)
        have hms := hpre.ms
        have hsum : IntKind.i64.wrap ((x.m.t.size : Int) + x.m.p.size) = (x.m.t.size : Int) + x.m.p.size := w_i64 _ (by omega) (by omega)
        have hfs : (⟨x.sub.1.toArray⟩ : ByteArray).size = x.sub.1.length := by simp [ByteArray.size]
        clear hra hpre p2 c26 c28 c29 hbr
        generalize x.p.cells = PL at *
        go_upto_region 6 with fail
        refine wp_region_held_drew (S := fun X => X.rangeAt b (off + k * 32 + 2) PL ∧ X.cell? ⟨b, off + k * 32 + 26, none⟩ = some (.string ⟨x.sub.1.toArray⟩) ∧ X.cell? ⟨b, off + k * 32 + 28, none⟩ = some (.string x.m.t) ∧ X.cell? ⟨b, off + k * 32 + 28 + 1, none⟩ = some (.string x.m.p)) (by kernel_rfl) (HS.out _ (by first | exact Below.refl _ _ | exact (Below.refl _ _).drew)) (fun hHeld => ?_)
        refine tk 0 (v := ?_) ?_ hHeld ?_; rotate_left; · (intro w0 hS0; (try dsimp only at hS0); go_simp; try with_reducible rfl)
        simp only [tks]
        refine tk 1 (v := ?_) ?_ hHeld ?_; rotate_left; · (intro w0 hS0; (try dsimp only at hS0); go_simp; try with_reducible rfl)
        simp only [tks]
        refine tk 2 (v := ?_) ?_ hHeld ?_; rotate_left; · (intro w0 hS0; (try dsimp only at hS0); go_simp; try with_reducible rfl)
        simp only [tks]
        refine tk 3 (v := ?_) ?_ hHeld ?_; rotate_left; · (intro w0 hS0; (try dsimp only at hS0); go_simp; try with_reducible rfl)
        simp only [tks]
        refine wpAnyH_take (i := 4) (v := .agg PL.toArray) rfl (by kernel_rfl) (by kernel_rfl) (by kernel_rfl) (fun _ _ _ h => h) (Or.inl ⟨rfl, ?_⟩) hHeld ?_
        · intro w0 hS0
          exact exec_load_row rfl rfl hS0.1 Tryz.underlying37 rfl HLS.out
        simp only [List.getElem_toArray, List.getElem_cons_zero, List.getElem_cons_succ, Act.put, List.setIfInBounds_toArray, List.set_cons_zero, List.set_cons_succ]
        refine wpAnyH_ready (rs := [5]) (by kernel_rfl) (by simp) ?_
        refine AllReadyH.cons rfl (fun K hK => ?_) AllReadyH.nil
        rw [if_pos (by rfl)]
        go_simp
        go_at_call 20
        refine (HG.out _ (HBR.out.drew)).mono ?_
        rintro e w2 ⟨he, hk2⟩
        have hb2 : Below wr.heap.size wr w2 := ((Below.refl _ _).drew).trans hk2
        have HB2 := Lib.hid hb2
        clear hk2 hb2
        rcases he with rfl | ⟨rfl, -, -⟩
        · refine hK.out _ _ (HS.out _ HB2.out) (fun hHeld => ?_)
          refine tk 6 (v := ?_) ?_ hHeld ?_; rotate_left; · (intro w0 hS0; (try dsimp only at hS0); go_simp; try with_reducible rfl)
          simp only [tks]
          refine tsk 7 hHeld ?_
          simp only [tks]
          refine tsk 8 hHeld ?_
          simp only [tks]
          refine tsk 9 hHeld ?_
          simp only [tks]
          refine tsk 10 hHeld ?_
          simp only [tks]
          refine tsk 11 hHeld ?_
          simp only [tks]
          refine tsk 12 hHeld ?_
          simp only [tks]
          refine tsk 13 hHeld ?_
          simp only [tks]
          refine tsk 14 hHeld ?_
          simp only [tks]
          refine tk 15 (v := ?_) ?_ hHeld ?_; rotate_left; · (intro w0 hS0; (try dsimp only at hS0); go_simp; try with_reducible rfl)
          simp only [tks]
          refine tk 16 (v := ?_) ?_ hHeld ?_; rotate_left; · (intro w0 hS0; (try dsimp only at hS0); go_simp; try with_reducible rfl)
          simp only [tks]
          refine tsk 17 hHeld ?_
          simp only [tks]
          refine tsk 18 hHeld ?_
          simp only [tks]
          refine tsk 19 hHeld ?_
          simp only [tks]
          refine tsk 20 hHeld ?_
          simp only [tks]
          refine tsk 21 hHeld ?_
          simp only [tks]
          refine tsk 22 hHeld ?_
          simp only [tks]
          refine tsk 23 hHeld ?_
          simp only [tks]
          refine tsk 24 hHeld ?_
          simp only [tks]
          refine tsk 25 hHeld ?_
          simp only [tks]
          refine tsk 26 hHeld ?_
          simp only [tks]
          refine tsk 27 hHeld ?_
          simp only [tks]
          refine tsk 28 hHeld ?_
          simp only [tks]
          refine tsk 29 hHeld ?_
          simp only [tks]
          refine tsk 30 hHeld ?_
          simp only [tks]
          refine tsk 31 hHeld ?_
          simp only [tks]
          refine tsk 32 hHeld ?_
          simp only [tks]
          refine tk 33 (v := ?_) ?_ hHeld ?_; rotate_left; · (intro w0 hS0; (try dsimp only at hS0); go_simp; try with_reducible rfl)
          simp only [tks]
          refine wpAnyH_done (by kernel_rfl) ?_ _
          clear hHeld
          go_wp2_with fail
          go_ret
          exact ⟨.inl rfl, bnext HBR.out (Nat.le_refl _) HB2.out⟩
        · refine hK.out _ _ (HS.out _ HB2.out) (fun hHeld => ?_)
          by_cases hf : 300 < x.sub.1.length
          · have hfI : decide ((300 : Int) < x.sub.1.length) = true := decide_eq_true (by omega)
            refine tk 6 (v := ?_) ?_ hHeld ?_; rotate_left; · (intro w0 hS0; (try dsimp only at hS0); go_simp; try with_reducible rfl)
            simp only [tks]
            refine tk 7 (v := ?_) ?_ hHeld ?_; rotate_left; · (intro w0 hS0; (try dsimp only at hS0); go_simp; try with_reducible rfl)
            simp only [tks]
            refine tk 8 (v := ?_) ?_ hHeld ?_; rotate_left; · (intro w0 hS0; (try dsimp only at hS0); go_simp; try with_reducible rfl)
            simp only [tks]
            refine tk 9 (v := ?_) ?_ hHeld ?_; rotate_left; · (intro w0 hS0; (try dsimp only at hS0); go_simp; try with_reducible rfl)
            simp only [tks]
            refine tk 10 (v := ?_) ?_ hHeld ?_; rotate_left; · (intro w0 hS0; (try dsimp only at hS0); go_simp; try with_reducible rfl)
            simp only [tks]
            refine tk 11 (v := ?_) ?_ hHeld ?_; rotate_left; · (intro w0 hS0; (try dsimp only at hS0); go_simp; try with_reducible rfl)
            simp only [tks]
            refine tk 12 (v := ?_) ?_ hHeld ?_; rotate_left; · (intro w0 hS0; (try dsimp only at hS0); go_simp; try with_reducible rfl)
            simp only [tks]
            refine tk 13 (v := ?_) ?_ hHeld ?_; rotate_left; · (intro w0 hS0; (try dsimp only at hS0); go_simp; try with_reducible rfl)
            simp only [tks]
            refine tk 14 (v := ?_) ?_ hHeld ?_; rotate_left; · (intro w0 hS0; (try dsimp only at hS0); go_simp; try with_reducible rfl)
            simp only [tks]
            refine tk 15 (v := ?_) ?_ hHeld ?_; rotate_left; · (intro w0 hS0; (try dsimp only at hS0); go_simp; try with_reducible rfl)
            simp only [tks]
            refine tk 16 (v := ?_) ?_ hHeld ?_; rotate_left; · (intro w0 hS0; (try dsimp only at hS0); go_simp; try with_reducible rfl)
            simp only [tks]
            refine tsk 17 hHeld ?_
            simp only [tks]
            refine tsk 18 hHeld ?_
            simp only [tks]
            refine tsk 19 hHeld ?_
            simp only [tks]
            refine tsk 20 hHeld ?_
            simp only [tks]
            refine tsk 21 hHeld ?_
            simp only [tks]
            refine tsk 22 hHeld ?_
            simp only [tks]
            refine tsk 23 hHeld ?_
            simp only [tks]
            refine tsk 24 hHeld ?_
            simp only [tks]
            refine tsk 25 hHeld ?_
            simp only [tks]
            refine tsk 26 hHeld ?_
            simp only [tks]
            refine tsk 27 hHeld ?_
            simp only [tks]
            refine tsk 28 hHeld ?_
            simp only [tks]
            refine tsk 29 hHeld ?_
            simp only [tks]
            refine tsk 30 hHeld ?_
            simp only [tks]
            refine tsk 31 hHeld ?_
            simp only [tks]
            refine tsk 32 hHeld ?_
            simp only [tks]
            refine tk 33 (v := ?_) ?_ hHeld ?_; rotate_left; · (intro w0 hS0; (try dsimp only at hS0); go_simp; try with_reducible rfl)
            simp only [tks]
            refine wpAnyH_done (by kernel_rfl) ?_ _
            clear hHeld
            go_wp2_with fail
            go_ret
            exact ⟨.inl rfl, bnext HBR.out (Nat.le_refl _) HB2.out⟩
          · have hfI : decide ((300 : Int) < x.sub.1.length) = false := decide_eq_false (by omega)
            by_cases hm : 300 < x.m.t.size + x.m.p.size
            · have hmI : decide ((300 : Int) < (x.m.t.size : Int) + x.m.p.size) = true := decide_eq_true (by omega)
              refine tk 6 (v := ?_) ?_ hHeld ?_; rotate_left; · (intro w0 hS0; (try dsimp only at hS0); go_simp; try with_reducible rfl)
              simp only [tks]
              refine tk 7 (v := ?_) ?_ hHeld ?_; rotate_left; · (intro w0 hS0; (try dsimp only at hS0); go_simp; try with_reducible rfl)
              simp only [tks]
              refine tk 8 (v := ?_) ?_ hHeld ?_; rotate_left; · (intro w0 hS0; (try dsimp only at hS0); go_simp; try with_reducible rfl)
              simp only [tks]
              refine tk 9 (v := ?_) ?_ hHeld ?_; rotate_left; · (intro w0 hS0; (try dsimp only at hS0); go_simp; try with_reducible rfl)
              simp only [tks]
              refine tk 10 (v := ?_) ?_ hHeld ?_; rotate_left; · (intro w0 hS0; (try dsimp only at hS0); go_simp; try with_reducible rfl)
              simp only [tks]
              refine tk 11 (v := ?_) ?_ hHeld ?_; rotate_left; · (intro w0 hS0; (try dsimp only at hS0); go_simp; try with_reducible rfl)
              simp only [tks]
              refine tk 12 (v := ?_) ?_ hHeld ?_; rotate_left; · (intro w0 hS0; (try dsimp only at hS0); go_simp; try with_reducible rfl)
              simp only [tks]
              refine tk 13 (v := ?_) ?_ hHeld ?_; rotate_left; · (intro w0 hS0; (try dsimp only at hS0); go_simp; try with_reducible rfl)
              simp only [tks]
              refine tk 14 (v := ?_) ?_ hHeld ?_; rotate_left; · (intro w0 hS0; (try dsimp only at hS0); go_simp; try with_reducible rfl)
              simp only [tks]
              refine tk 15 (v := ?_) ?_ hHeld ?_; rotate_left; · (intro w0 hS0; (try dsimp only at hS0); go_simp; try with_reducible rfl)
              simp only [tks]
              refine tk 16 (v := ?_) ?_ hHeld ?_; rotate_left; · (intro w0 hS0; (try dsimp only at hS0); go_simp; try with_reducible rfl)
              simp only [tks]
              refine tk 17 (v := ?_) ?_ hHeld ?_; rotate_left; · (intro w0 hS0; (try dsimp only at hS0); go_simp; try with_reducible rfl)
              simp only [tks]
              refine tk 18 (v := ?_) ?_ hHeld ?_; rotate_left; · (intro w0 hS0; (try dsimp only at hS0); go_simp; try with_reducible rfl)
              simp only [tks]
              refine tk 19 (v := ?_) ?_ hHeld ?_; rotate_left; · (intro w0 hS0; (try dsimp only at hS0); go_simp; try with_reducible rfl)
              simp only [tks]
              refine tk 20 (v := ?_) ?_ hHeld ?_; rotate_left; · (intro w0 hS0; (try dsimp only at hS0); go_simp; try with_reducible rfl)
              simp only [tks]
              refine tk 21 (v := ?_) ?_ hHeld ?_; rotate_left; · (intro w0 hS0; (try dsimp only at hS0); go_simp; try with_reducible rfl)
              simp only [tks]
              refine tk 22 (v := ?_) ?_ hHeld ?_; rotate_left; · (intro w0 hS0; (try dsimp only at hS0); go_simp; try with_reducible rfl)
              simp only [tks]
              refine tk 23 (v := ?_) ?_ hHeld ?_; rotate_left; · (intro w0 hS0; (try dsimp only at hS0); go_simp; try with_reducible rfl)
              simp only [tks]
              refine tk 24 (v := ?_) ?_ hHeld ?_; rotate_left; · (intro w0 hS0; (try dsimp only at hS0); go_simp; try with_reducible rfl)
              simp only [tks]
              refine tk 25 (v := ?_) ?_ hHeld ?_; rotate_left; · (intro w0 hS0; (try dsimp only at hS0); go_simp; try with_reducible rfl)
              simp only [tks]
              refine tk 26 (v := ?_) ?_ hHeld ?_; rotate_left; · (intro w0 hS0; (try dsimp only at hS0); go_simp; try with_reducible rfl)
              simp only [tks]
              refine tk 27 (v := ?_) ?_ hHeld ?_; rotate_left; · (intro w0 hS0; (try dsimp only at hS0); go_simp; try with_reducible rfl)
              simp only [tks]
              refine tk 28 (v := ?_) ?_ hHeld ?_; rotate_left; · (intro w0 hS0; (try dsimp only at hS0); go_simp; try with_reducible rfl)
              simp only [tks]
              refine tk 29 (v := ?_) ?_ hHeld ?_; rotate_left; · (intro w0 hS0; (try dsimp only at hS0); go_simp; try with_reducible rfl)
              simp only [tks]
              refine tk 30 (v := ?_) ?_ hHeld ?_; rotate_left; · (intro w0 hS0; (try dsimp only at hS0); go_simp; try with_reducible rfl)
              simp only [tks]
              refine tk 31 (v := ?_) ?_ hHeld ?_; rotate_left; · (intro w0 hS0; (try dsimp only at hS0); go_simp; try with_reducible rfl)
              simp only [tks]
              refine tk 32 (v := ?_) ?_ hHeld ?_; rotate_left; · (intro w0 hS0; (try dsimp only at hS0); go_simp; try with_reducible rfl)
              simp only [tks]
              refine tk 33 (v := ?_) ?_ hHeld ?_; rotate_left; · (intro w0 hS0; (try dsimp only at hS0); go_simp; try with_reducible rfl)
              simp only [tks]
              refine wpAnyH_done (by kernel_rfl) ?_ _
              clear hHeld
              go_wp2_with fail
              go_ret
              exact ⟨.inl rfl, bnext HBR.out (Nat.le_refl _) HB2.out⟩
            · have hmI : decide ((300 : Int) < (x.m.t.size : Int) + x.m.p.size) = false := decide_eq_false (by omega)
              have HXS := Lib.hid (HX.out ⟨by omega, by omega⟩)
              refine tk 6 (v := ?_) ?_ hHeld ?_; rotate_left; · (intro w0 hS0; (try dsimp only at hS0); go_simp; try with_reducible rfl)
              simp only [tks]
              refine tk 7 (v := ?_) ?_ hHeld ?_; rotate_left; · (intro w0 hS0; (try dsimp only at hS0); go_simp; try with_reducible rfl)
              simp only [tks]
              refine tk 8 (v := ?_) ?_ hHeld ?_; rotate_left; · (intro w0 hS0; (try dsimp only at hS0); go_simp; try with_reducible rfl)
              simp only [tks]
              refine tk 9 (v := ?_) ?_ hHeld ?_; rotate_left; · (intro w0 hS0; (try dsimp only at hS0); go_simp; try with_reducible rfl)
              simp only [tks]
              refine tk 10 (v := ?_) ?_ hHeld ?_; rotate_left; · (intro w0 hS0; (try dsimp only at hS0); go_simp; try with_reducible rfl)
              simp only [tks]
              refine tk 11 (v := ?_) ?_ hHeld ?_; rotate_left; · (intro w0 hS0; (try dsimp only at hS0); go_simp; try with_reducible rfl)
              simp only [tks]
              refine tk 12 (v := ?_) ?_ hHeld ?_; rotate_left; · (intro w0 hS0; (try dsimp only at hS0); go_simp; try with_reducible rfl)
              simp only [tks]
              refine tk 13 (v := ?_) ?_ hHeld ?_; rotate_left; · (intro w0 hS0; (try dsimp only at hS0); go_simp; try with_reducible rfl)
              simp only [tks]
              refine tk 14 (v := ?_) ?_ hHeld ?_; rotate_left; · (intro w0 hS0; (try dsimp only at hS0); go_simp; try with_reducible rfl)
              simp only [tks]
              refine tk 15 (v := ?_) ?_ hHeld ?_; rotate_left; · (intro w0 hS0; (try dsimp only at hS0); go_simp; try with_reducible rfl)
              simp only [tks]
              refine tk 16 (v := ?_) ?_ hHeld ?_; rotate_left; · (intro w0 hS0; (try dsimp only at hS0); go_simp; try with_reducible rfl)
              simp only [tks]
              refine tk 17 (v := ?_) ?_ hHeld ?_; rotate_left; · (intro w0 hS0; (try dsimp only at hS0); go_simp; try with_reducible rfl)
              simp only [tks]
              refine tk 18 (v := ?_) ?_ hHeld ?_; rotate_left; · (intro w0 hS0; (try dsimp only at hS0); go_simp; try with_reducible rfl)
              simp only [tks]
              refine tk 19 (v := ?_) ?_ hHeld ?_; rotate_left; · (intro w0 hS0; (try dsimp only at hS0); go_simp; try with_reducible rfl)
              simp only [tks]
              refine tk 20 (v := ?_) ?_ hHeld ?_; rotate_left; · (intro w0 hS0; (try dsimp only at hS0); go_simp; try with_reducible rfl)
              simp only [tks]
              refine tk 21 (v := ?_) ?_ hHeld ?_; rotate_left; · (intro w0 hS0; (try dsimp only at hS0); go_simp; try with_reducible rfl)
              simp only [tks]
              refine tk 22 (v := ?_) ?_ hHeld ?_; rotate_left; · (intro w0 hS0; (try dsimp only at hS0); go_simp; try with_reducible rfl)
              simp only [tks]
              refine tk 23 (v := ?_) ?_ hHeld ?_; rotate_left; · (intro w0 hS0; (try dsimp only at hS0); go_simp; try with_reducible rfl)
              simp only [tks]
              refine tk 24 (v := ?_) ?_ hHeld ?_; rotate_left; · (intro w0 hS0; (try dsimp only at hS0); go_simp; try with_reducible rfl)
              simp only [tks]
              refine tk 25 (v := ?_) ?_ hHeld ?_; rotate_left; · (intro w0 hS0; (try dsimp only at hS0); go_simp; try with_reducible rfl)
              simp only [tks]
              refine tk 26 (v := ?_) ?_ hHeld ?_; rotate_left; · (intro w0 hS0; (try dsimp only at hS0); go_simp; try with_reducible rfl)
              simp only [tks]
              refine tk 27 (v := ?_) ?_ hHeld ?_; rotate_left; · (intro w0 hS0; (try dsimp only at hS0); go_simp; try with_reducible rfl)
              simp only [tks]
              refine tk 28 (v := ?_) ?_ hHeld ?_; rotate_left; · (intro w0 hS0; (try dsimp only at hS0); go_simp; try with_reducible rfl)
              simp only [tks]
              refine tk 29 (v := ?_) ?_ hHeld ?_; rotate_left; · (intro w0 hS0; (try dsimp only at hS0); go_simp; try with_reducible rfl)
              simp only [tks]
              refine tk 30 (v := ?_) ?_ hHeld ?_; rotate_left; · (intro w0 hS0; (try dsimp only at hS0); go_simp; try with_reducible rfl)
              simp only [tks]
              refine tk 31 (v := ?_) ?_ hHeld ?_; rotate_left; · (intro w0 hS0; (try dsimp only at hS0); go_simp; try with_reducible rfl)
              simp only [tks]
              refine tk 32 (v := ?_) ?_ hHeld ?_; rotate_left; · (intro w0 hS0; (try dsimp only at hS0); go_simp; try with_reducible rfl)
              simp only [tks]
              refine tk 33 (v := ?_) ?_ hHeld ?_; rotate_left; · (intro w0 hS0; (try dsimp only at hS0); go_simp; try with_reducible rfl)
              simp only [tks]
              refine wpAnyH_done (by kernel_rfl) ?_ _
              clear hHeld
              go_wp2_with fail
              go_roundw
              case rel => exact ⟨k + 1, by go_num, by omega, bnext HBR.out (Nat.le_refl _) HB2.out, HXS.out⟩
              case measure => simp [intOf]; omega
      · have hkl : ¬ (k : Int) < l.length := by omega
        clear hbr
        go_wp2_with fail
        go_ret
        exact ⟨.inr ⟨rfl, by omega, fun x hx => by
          obtain ⟨j, hj, rfl⟩ := List.mem_iff_getElem.1 hx
          exact HSM.out j (by omega) hj⟩, HBR.out⟩
end
end Go.Proofs.YtmkhagmjpbfieaaGreatDoor
