/- Rows beside what a set of blocks holds. No program in sight but the rows. The model: Apply walked, filters are set and dropped. The model: Apply walked: SUBSCRIBE. -/
import Derived.Test.YthfeckndkmhieaaGreatDoorQD
import Derived.Test.YthfeckndkmhieaaGreatDoorQM
namespace Go.Proofs.YthfeckndkmhieaaGreatDoor
section
open Go Go.RowKit

/-- a row beside what F holds -/
def Beside (w : World) (F : List Nat) (a : Option Addr) (xs : List Value) : Prop :=
  xs = [] ∨ ∃ b o, a = some ⟨b, o, none⟩ ∧ b ∉ F ∧ b < w.heap.size ∧ Row w a xs
theorem Beside.row {w : World} {F : List Nat} {a : Option Addr} {xs : List Value} (h : Beside w F a xs) : Row w a xs := by
  rcases h with h | ⟨b, o, -, -, -, h⟩
  · exact .inl h
  · exact h
theorem Beside.upd {w w' : World} {F F' : List Nat} {a : Option Addr} {xs : List Value} (h : Beside w F a xs) (hu : Upd F F' w w') : Beside w' F' a xs := by
  rcases h with h | ⟨b, o, ha, h1, h2, h3⟩
  · exact .inl h
  · refine .inr ⟨b, o, ha, fun hk => ?_, Nat.lt_of_lt_of_le h2 hu.1.size, ?_⟩
    · rcases hu.2 b hk with h | h
      · exact h1 h
      · omega
    · rcases h3 with h3 | ⟨b', o', ha', hc⟩
      · exact .inl h3
      · subst ha'
        cases ha
        exact .inr ⟨_, _, rfl, fun i v hi => by rw [World.cell?_of_block (w := w) (hu.1.block _ h2 h1)]; exact hc i v hi⟩
theorem Beside.below {w w' : World} {F : List Nat} {a : Option Addr} {xs : List Value} (h : Beside w F a xs) (hb : Below w.heap.size w w') : Beside w' F a xs := h.upd ⟨Mod.of_below hb _, fun _ hk => .inl hk⟩
theorem Beside.sub {w : World} {F G : List Nat} {a : Option Addr} {xs : List Value} (h : Beside w F a xs) (hG : ∀ k ∈ G, k ∈ F) : Beside w G a xs := by
  rcases h with h | ⟨b, o, ha, h1, h2, h3⟩
  · exact .inl h
  · exact .inr ⟨b, o, ha, fun hk => h1 (hG b hk), h2, h3⟩
theorem Row.lt {w : World} {a : Option Addr} {xs : List Value} (h : Row w a xs) (hn : xs ≠ []) : ∃ b o, a = some ⟨b, o, none⟩ ∧ b < w.heap.size := by
  rcases h with h | ⟨b, o, e, hc⟩
  · exact absurd h hn
  · cases xs with
    | nil => exact absurd rfl hn
    | cons x r =>
      have := hc 0 x rfl
      exact ⟨b, o, e, World.block_lt_of_cell? (a := ⟨b, o + 0, none⟩) w this⟩
/-- a row that was there ahead of all that F holds -/
theorem Beside.base {w0 w : World} {F : List Nat} {a : Option Addr} {xs : List Value} (h : Row w0 a xs) (hb : Below w0.heap.size w0 w) (hF : ∀ k ∈ F, w0.heap.size ≤ k) : Beside w F a xs := by
  by_cases hn : xs = []
  · exact .inl hn
  · obtain ⟨b, o, e, hlt⟩ := Row.lt h hn
    exact .inr ⟨b, o, e, fun hk => by have := hF b hk; omega, Nat.lt_of_lt_of_le hlt hb.size, h.below hb (Nat.le_refl _)⟩
theorem Beside.own {w : World} {F : List Nat} {v : Value} {m : Nat} {T : TypeId} {sz : Nat} {xs : List Value} {B : Nat} (h : w.ownsRow B T sz v m xs) (hF : ∀ k ∈ F, k < B) : ∃ a c, v = .slice a m c ∧ m ≤ c ∧ c ≤ maxLen ∧ Beside w F a xs := by
  obtain ⟨a, c, rfl, hr, h1, h2⟩ := ownsRow_row h
  refine ⟨a, c, rfl, h1, h2, ?_⟩
  rcases h.2 with ⟨e, hn⟩ | ⟨g, cap, cur, e, hb, hg, -⟩
  · cases e
    rcases hr with hr | ⟨b, o, e, -⟩
    · exact .inl hr
    · cases e
  · cases e
    exact .inr ⟨g, 0, rfl, fun hk => by have := hF g hk; omega, (Array.getElem?_eq_some_iff.1 hg).1, hr⟩
/-- a row that was laid just now -/
theorem Beside.new {w : World} {F : List Nat} (hF : ∀ k ∈ F, k < w.heap.size) (xs : List Value) (T : TypeId) : Beside (w.alloc (.cells xs.toArray T)) F (some ⟨w.heap.size, 0, none⟩) xs :=
  .inr ⟨_, _, rfl, fun hk => by have := hF _ hk; omega, by simp, row_new w xs T⟩
end
section
open Go Go.RowKit Go.Maps

theorem dropGo_snoc (xs : List SubE) (y : SubE) (l : List SubE) : dropGo (xs ++ [y]) l = delE y.1 (dropGo xs l) := by unfold dropGo; rw [List.foldl_append]; rfl
theorem subGo_snoc (xs : List SubE) (y : SubE) (r : Str × List SubE) : subGo (xs ++ [y]) r = ((subGo xs r).1 ++ [setCu y.1 y.2 (subGo xs r).2], setE y.1 y.2 (subGo xs r).2) := by unfold subGo; rw [List.foldl_append]; rfl
theorem subGo_len : ∀ (xs : List SubE) (r : Str × List SubE), (subGo xs r).1.length = r.1.length + xs.length
  | [], r => by simp [subGo]
  | x :: xs, r => by
    have := subGo_len xs (r.1 ++ [setCu x.1 x.2 r.2], setE x.1 x.2 r.2)
    simp only [List.length_append, List.length_cons, List.length_nil] at this
    show (subGo xs _).1.length = _
    rw [this, List.length_cons]
    omega
theorem setC_range {f : Str} {q : Int} {l : List SubE} (h0 : 0 ≤ q) : 0 ≤ setC f q l ∧ setC f q l ≤ 128 := by
  unfold setC setOk
  split
  · rename_i h
    simp only [Bool.and_eq_true, decide_eq_true_eq] at h
    omega
  · omega
theorem setCu_int {f : Str} {q : Int} {l : List SubE} (h0 : 0 ≤ q) : ((setCu f q l).toNat : Int) = setC f q l := by
  have := setC_range (f := f) (l := l) h0
  unfold setCu
  rw [UInt8.toNat_ofNat']
  omega
/-- a session's filters are turned -/
theorem MParts.listed {W : World} {m N sb kg : Nat} {KF : List Nat} {bl : Str → Nat × List Nat} {s : MS} (h : MParts W m N sb kg KF bl s) {c : Str} {x : Seat} (hx : lookS c s.seats = some x) :
    ∃ lb G, W.heap[(bl c).1]? = some (.cells #[.pointer (some ⟨lb, 0, none⟩), .int .i64 x.conn, .bool x.clean] 77 (0, 0)) ∧ SRep W lb x.l G ∧ (bl c).1 ∉ G ∧ (∀ k ∈ G, k ∈ footM m sb KF bl s.seats) ∧
      ∀ W' l' G', SRep W' lb l' G' → Upd G G' W W' → ∃ F1, MRep W' m (N + 1) ⟨turnS c { x with l := l' } s.seats, s.kept⟩ F1 ∧ Upd (footM m sb KF bl s.seats) F1 W W' := by
  obtain ⟨lb, G, hb, hr, hn, hF⟩ := h.fam.rep c x hx
  have hGin : ∀ k ∈ G, k ∈ (bl c).2 := fun k hk => by rw [hF]; exact List.mem_cons_of_mem _ hk
  have hbin : (bl c).1 ∈ (bl c).2 := by rw [hF]; simp
  have hsb : sb ∉ G := fun hin => (h.off c x hx sb (hGin sb hin)).2.1 rfl
  refine ⟨lb, G, hb, hr, hn, fun k hk => foot_old hx (hGin k hk), fun W' l' G' hr' hu => ?_⟩
  refine h.set c (x' := { x with l := l' }) (b' := (bl c).1) (F' := (bl c).1 :: G') hu.1 (fun k hk => .inr ⟨x, hx, hGin k hk⟩) (SeatRep.list hb hn hr' hu) (fun k hk => ?_) (h.map.of (hu.1.block sb h.map.lt hsb) (Nat.le_succ _) fun d => by rw [seatB_set hx]) (fun d => lookS_turn' hx d) rfl
  rcases List.mem_cons.1 hk with rfl | hk
  · exact .inl ⟨x, hx, hbin⟩
  · rcases hu.2 k hk with h1 | h1
    · exact .inl ⟨x, hx, hGin k h1⟩
    · exact .inr h1
/-- bytes of the call's own are no list's -/
theorem SRep.apart {w : World} {lb : Nat} {l : List SubE} {G : List Nat} (h : SRep w lb l G) {B : Nat} {v : Value} {n : Nat} {xs : List Value} (ho : w.ownsRow B 5 1 v n xs) : ∀ b, v.ownBlock = some b → b ∉ G := by
  intro b hb hin
  obtain ⟨a, c, G', h1, h2, -, -, -, -, -, rfl⟩ := h
  rcases ho.2 with ⟨rfl, _⟩ | ⟨g, cap, cur, rfl, _, hg, _⟩
  · simp [Value.ownBlock] at hb
  · obtain rfl : g = b := by simpa [Value.ownBlock] using hb
    rcases List.mem_cons.1 hin with rfl | hin
    · rw [h1] at hg
      simp at hg
    · rcases h2 with ⟨-, -, rfl⟩ | ⟨g', cur', -, hg', -, rfl⟩
      · cases hin
      · obtain rfl := List.mem_singleton.1 hin
        rw [hg'] at hg
        simp at hg
set_option maxRecDepth 100000 in
set_option maxHeartbeats 2000000 in
theorem mapply_unsub (m N : Nat) (s : MS) (F : List Nat) (n : Note) (w : World) (hrow : Beside w F n.pk.subsA (subsV n.pk.subs)) (hn : NoteOk n) (h : MRep w m N s F) (hk : n.kind = 2) (x : Seat) (ho : lookS n.client.data.toList s.seats = some x) (hc1 : ¬ n.conn < 1) (hc2 : x.conn = n.conn) (ht : n.pk.ty = 10) :
    Calls Tryz.prog 19 #[.pointer (some ⟨m, 0, none⟩), .agg n.cells.toArray] w (ApplyQ m N s F n w) := by
  have HE : Hid (applyM n s = ((does1 n n.client.data.toList x s.seats).1, ⟨(does1 n n.client.data.toList x s.seats).2, s.kept⟩)) := Lib.hid (by
    unfold applyM
    rw [if_neg (by omega), if_neg (by omega), if_neg (by omega), ho]
    simp only
    rw [if_neg (by rintro (h | h); exact hc1 h; exact h hc2)])
  have hc := hn.client
  have HE2 : Hid (does1 n n.client.data.toList x s.seats = (([], false, true), turnS n.client.data.toList { x with l := dropGo n.pk.subs x.l } s.seats)) := Lib.hid (by
    unfold does1
    rw [if_neg (by omega), if_pos ht])
  obtain ⟨sb, kg, KF, bl, h, rfl⟩ := h
  have hnew := heap_alloc_new w (.cells n.cells.toArray 32)
  have hba := (Below.refl w.heap.size w).alloc (Nat.le_refl _) (.cells n.cells.toArray 32)
  have h1 := h.mod (Mod.of_below hba []) (by simp)
  obtain ⟨n0, n2, n3, n4, -, n26, -⟩ := note_cell hnew
  have c0 := cell_of_row _ m 0 _ _ _ h1.top
  simp only [List.getElem?_toArray, List.getElem?_cons_zero] at c0
  have HB := Lib.hid hba
  have HP := Lib.hid h1
  have HC := Lib.hid (mseat_any m N sb kg KF bl s n.client.data.toList _ h1 (by show n.client.data.toList.length ≤ _; simpa using hc))
  rw [str_mk] at HC
  have eqn := eqmap
  have HBB := Lib.hid (show (bl n.client.data.toList).1 < w.heap.size from h.fam.lt seat_local ho _ (by obtain ⟨lb, G, -, -, -, hF⟩ := h.fam.rep _ x ho; rw [hF]; simp))
  have HNB := Lib.hid hnew
  rw [seatB_some ho] at HC
  simp only [ptrV] at HC
  obtain ⟨lb, G, d0, d1, d2, -⟩ := (HP.out.fam.rep _ x ho).cells
  clear hnew h h1 hba
  rw [hc2] at d1
  clear hc2
  go_enter Tryz.func19, Tryz.ntmps19
  go_wp2_with fail
  refine HC.out.mono ?_
  rintro e w' ⟨rfl, rfl⟩
  go_wp2_with fail
  go_quiet (fail)
  have HB2 : Hid (Below w.heap.size w ((w.alloc (.cells n.cells.toArray 32)).drewN nq)) := Lib.hid (below_drewN HB.out nq)
  have HP2 := Lib.hid (HP.out.mod (Mod.of_below (below_drewN (Below.refl _ _) nq) []) (by simp))
  obtain ⟨lb2, G0, hb, hr, hnG, hGF, HOUT⟩ := HP2.out.listed ho
  have HO2 := Lib.hid HOUT
  have HROW : Hid (∀ G X, Upd G0 G ((w.alloc (.cells n.cells.toArray 32)).drewN nq) X → Row X n.pk.subsA (subsV n.pk.subs)) := Lib.hid (fun G X hu => (((hrow.below HB2.out).sub hGF).upd hu).row)
  have HSO := Lib.hid hn.subs
  have hlen := hn.len
  have HBL : Hid (∀ G X, Upd G0 G ((w.alloc (.cells n.cells.toArray 32)).drewN nq) X → X.heap[(bl n.client.data.toList).1]? = some (.cells #[.pointer (some ⟨lb2, 0, none⟩), .int .i64 x.conn, .bool x.clean] 77 (0, 0))) := Lib.hid (fun G X hu => (hu.1.block _ (Array.getElem?_eq_some_iff.1 hb).1 hnG).trans hb)
  have HR0 := Lib.hid hr
  have c0w : ((w.alloc (.cells n.cells.toArray 32)).drewN nq).cell? ⟨m, 0, none⟩ = some (.map (some sb)) := c0
  have n26w : ((w.alloc (.cells n.cells.toArray 32)).drewN nq).cell? ⟨w.heap.size, 26, none⟩ = some (.slice n.pk.subsA n.pk.subs.length n.pk.subsC) := n26
  have n4w : ((w.alloc (.cells n.cells.toArray 32)).drewN nq).cell? ⟨w.heap.size, 4, none⟩ = some (.int .u8 n.pk.ty) := n4
  rw [ht] at n4w
  clear hb hr HOUT hnG hGF hrow hn c0 n3 n0 n2 n4 n26 d0 d1 d2 HB HP HP2 HC HNB HBB
  generalize hW1 : ((w.alloc (.cells n.cells.toArray 32)).drewN nq) = w1 at *
  clear hW1
  generalize (bl n.client.data.toList).1 = sbk at *
  generalize n.pk.subs = xs at *
  go_wp2_with fail
  go_loopw [109] (fun i wr => ∃ k : Nat, i = .int .i64 k ∧ k ≤ xs.length ∧ ∃ G, SRep wr lb2 (dropGo (xs.take k) x.l) G ∧ Upd G0 G w1 wr) (fun i _ => (xs.length - intOf i).toNat)
  case atStart => exact ⟨0, rfl, by omega, G0, HR0.out, upd_refl _ _⟩
  case round =>
    obtain ⟨k, rfl, hkl, G, hr, hu⟩ := hrel
    by_cases hlt : k < xs.length
    · have hkI : (k : Int) < xs.length := by omega
      have hk0 : (0 : Int) ≤ k := by omega
      obtain ⟨b1, o1, hea, d0, d1⟩ := subs_row (HROW.out G wr hu) hlt
      rw [hea] at *
      have HTK := Lib.hid (show dropGo (xs.take (k + 1)) x.l = delE xs[k].1 (dropGo (xs.take k) x.l) by rw [List.take_succ_eq_append_getElem hlt, dropGo_snoc])
      generalize xs[k] = y at *
      obtain ⟨yf, yq⟩ := y
      dsimp only at *
      have hbn := (Below.refl wr.heap.size wr).alloc (Nat.le_refl _) (.cells #[.string ⟨yf.toArray⟩, .int .u8 yq] 39)
      have hs := (HBL.out G wr hu)
      have hs2 := (hbn.block sbk (Array.getElem?_eq_some_iff.1 hs).1).trans hs
      obtain ⟨s0, -, -⟩ := cells3 hs2
      have b0 := cell_of_row _ _ 0 _ _ _ (heap_alloc_new wr (.cells #[.string ⟨yf.toArray⟩, .int .u8 yq] 39))
      simp only [List.getElem?_toArray, List.getElem?_cons_zero] at b0
      have HU := Lib.hid hu
      have HR := Lib.hid hr
      clear hu hr hs hs2
      go_wp2_with fail
      have HBN := Lib.hid hbn
      clear hbn
      generalize wr.alloc (.cells #[.string ⟨yf.toArray⟩, .int .u8 yq] 39) = w2 at *
      have HD := Lib.hid (sdrop_any lb2 _ G yf w2.drew (HR.out.below HBN.out.drew))
      go_still_tail 6, (by kernel_rfl)
      change wpList _ _ _ _ _ w2.drew
      go_wp2_with fail
      refine HD.out.mono ?_
      rintro e w3 ⟨rfl, G2, hr3, hu3⟩
      have HR3 := Lib.hid hr3
      have HU3 := Lib.hid (upd_trans HU.out (upd_pre HBN.out.drew hu3))
      clear hr3 hu3
      go_wp2_with fail
      go_roundw
      case rel => exact ⟨k + 1, by go_num, by omega, G2, by rw [HTK.out]; exact HR3.out, HU3.out⟩
      case measure => simp [intOf]; omega
    · have hkI : ¬ (k : Int) < xs.length := by omega
      rw [List.take_of_length_le (by omega)] at hr
      have HU := Lib.hid hu
      have HR := Lib.hid hr
      clear hu hr
      go_wp2_with fail
      go_ret3
      unfold ApplyQ
      rw [HE.out, HE2.out]
      obtain ⟨F1, g1, g2⟩ := HO2.out wr _ G HR.out HU.out
      exact ⟨rfl, F1, g1, upd_pre HB2.out g2⟩
end
section
open Go Go.RowKit Go.Maps

set_option maxRecDepth 100000 in
set_option maxHeartbeats 4000000 in
theorem mapply_sub (w0 : World) (m N : Nat) (s : MS) (F : List Nat) (n : Note) (w : World) (hb0 : Below w0.heap.size w0 w) (hF0 : ∀ k ∈ F, w0.heap.size ≤ k) (hT : Tabs w0) (hrow : Beside w F n.pk.subsA (subsV n.pk.subs)) (hn : NoteOk n) (h : MRep w m N s F) (hk : n.kind = 2) (x : Seat) (ho : lookS n.client.data.toList s.seats = some x) (hc1 : ¬ n.conn < 1) (hc2 : x.conn = n.conn) (ht : n.pk.ty = 8) :
    Calls Tryz.prog 19 #[.pointer (some ⟨m, 0, none⟩), .agg n.cells.toArray] w (ApplyQ m N s F n w) := by
  have HE : Hid (applyM n s = ((does1 n n.client.data.toList x s.seats).1, ⟨(does1 n n.client.data.toList x s.seats).2, s.kept⟩)) := Lib.hid (by
    unfold applyM
    rw [if_neg (by omega), if_neg (by omega), if_neg (by omega), ho]
    simp only
    rw [if_neg (by rintro (h | h); exact hc1 h; exact h hc2)])
  have hc := hn.client
  have HE2 : Hid (does1 n n.client.data.toList x s.seats = (((subGo n.pk.subs ([], x.l)).1, false, true), turnS n.client.data.toList { x with l := (subGo n.pk.subs ([], x.l)).2 } s.seats)) := Lib.hid (by
    unfold does1
    rw [if_pos ht])
  obtain ⟨sb, kg, KF, bl, h, rfl⟩ := h
  have hnew := heap_alloc_new w (.cells n.cells.toArray 32)
  have hba := (Below.refl w.heap.size w).alloc (Nat.le_refl _) (.cells n.cells.toArray 32)
  have h1 := h.mod (Mod.of_below hba []) (by simp)
  obtain ⟨n0, n2, n3, n4, -, n26, -⟩ := note_cell hnew
  have c0 := cell_of_row _ m 0 _ _ _ h1.top
  simp only [List.getElem?_toArray, List.getElem?_cons_zero] at c0
  have HB := Lib.hid hba
  have HP := Lib.hid h1
  have HC := Lib.hid (mseat_any m N sb kg KF bl s n.client.data.toList _ h1 (by show n.client.data.toList.length ≤ _; simpa using hc))
  rw [str_mk] at HC
  have eqn := eqmap
  have HBB := Lib.hid (show (bl n.client.data.toList).1 < w.heap.size from h.fam.lt seat_local ho _ (by obtain ⟨lb, G, -, -, -, hF⟩ := h.fam.rep _ x ho; rw [hF]; simp))
  have HNB := Lib.hid hnew
  rw [seatB_some ho] at HC
  simp only [ptrV] at HC
  obtain ⟨lb, G, d0, d1, d2, -⟩ := (HP.out.fam.rep _ x ho).cells
  clear hnew h h1 hba
  rw [hc2] at d1
  clear hc2
  go_enter Tryz.func19, Tryz.ntmps19
  go_wp2_with fail
  refine HC.out.mono ?_
  rintro e w' ⟨rfl, rfl⟩
  go_wp2_with fail
  go_quiet (fail)
  have HB2 : Hid (Below w.heap.size w ((w.alloc (.cells n.cells.toArray 32)).drewN nq)) := Lib.hid (below_drewN HB.out nq)
  have HP2 := Lib.hid (HP.out.mod (Mod.of_below (below_drewN (Below.refl _ _) nq) []) (by simp))
  obtain ⟨lb2, G0, hb, hr, hnG, hGF, HOUT⟩ := HP2.out.listed ho
  have HO2 := Lib.hid HOUT
  have HB3 : Hid (Below w0.heap.size w0 ((w.alloc (.cells n.cells.toArray 32)).drewN nq)) := Lib.hid (below_drewN (bnext hb0 (Nat.le_refl _) ((Below.refl _ _).alloc (Nat.le_refl _) _)) nq)
  have HG0 : Hid (∀ k ∈ G0, w0.heap.size ≤ k) := Lib.hid (fun k hk => hF0 k (hGF k hk))
  have HROW : Hid (∀ G X, Upd G0 G ((w.alloc (.cells n.cells.toArray 32)).drewN nq) X → Row X n.pk.subsA (subsV n.pk.subs)) := Lib.hid (fun G X hu => (((hrow.below HB2.out).sub hGF).upd hu).row)
  have HTT : Hid (∀ X, Below w0.heap.size w0 X → Tabs X) := Lib.hid (fun X hX => hT.below hX)
  have HSO := Lib.hid hn.subs
  have hlen := hn.len
  have HBL : Hid (∀ G X, Upd G0 G ((w.alloc (.cells n.cells.toArray 32)).drewN nq) X → X.heap[(bl n.client.data.toList).1]? = some (.cells #[.pointer (some ⟨lb2, 0, none⟩), .int .i64 x.conn, .bool x.clean] 77 (0, 0)) ∧ (bl n.client.data.toList).1 ∉ G) := Lib.hid (fun G X hu => ⟨(hu.1.block _ (Array.getElem?_eq_some_iff.1 hb).1 hnG).trans hb, fun hin => by
    rcases hu.2 _ hin with h | h
    · exact hnG h
    · have := (Array.getElem?_eq_some_iff.1 hb).1; omega⟩)
  have HR0 := Lib.hid hr
  have c0w : ((w.alloc (.cells n.cells.toArray 32)).drewN nq).cell? ⟨m, 0, none⟩ = some (.map (some sb)) := c0
  have n26w : ((w.alloc (.cells n.cells.toArray 32)).drewN nq).cell? ⟨w.heap.size, 26, none⟩ = some (.slice n.pk.subsA n.pk.subs.length n.pk.subsC) := n26
  have n4w : ((w.alloc (.cells n.cells.toArray 32)).drewN nq).cell? ⟨w.heap.size, 4, none⟩ = some (.int .u8 n.pk.ty) := n4
  rw [ht] at n4w
  clear hb hr HOUT hnG hGF hb0 hF0 hrow hT hn c0 n3 n0 n2 n4 n26 d0 d1 d2 HB HP HP2 HC HNB HBB
  generalize hW1 : ((w.alloc (.cells n.cells.toArray 32)).drewN nq) = w1 at *
  clear hW1
  generalize (bl n.client.data.toList).1 = sbk at *
  generalize n.pk.subs = xs at *
  go_wp2_with (first | (at_make; refine wpList_mk T_u8 (Below.refl w1.heap.size w1) (Nat.le_refl _) rfl rfl rfl rfl (by omega) (by omega) (by omega) ?_; intro v1 w2 hown2 hk2 hsz2; have n26x : w2.cell? ⟨w.heap.size, 26, none⟩ = some (.slice n.pk.subsA xs.length n.pk.subsC) := (hk2.cell (World.block_lt_of_cell? _ _ n26w)).trans n26w; have HK2 := Lib.hid hk2; have HOWN2 := Lib.hid hown2; clear hown2 hk2 c0w n26w n4w) | fail)
  go_loopw [8, 84] (fun v i wr => ∃ k : Nat, i = .int .i64 k ∧ k ≤ xs.length ∧ ∃ G, SRep wr lb2 (subGo (xs.take k) ([], x.l)).2 G ∧ Upd G0 G w1 wr ∧ wr.ownsRow w1.heap.size 5 1 v k (u8s (subGo (xs.take k) ([], x.l)).1)) (fun _ i _ => (xs.length - intOf i).toNat)
  case atStart => exact ⟨0, rfl, by omega, G0, HR0.out.below HK2.out, upd_below HK2.out, by simpa [subGo, u8s] using HOWN2.out⟩
  case round =>
    obtain ⟨k, rfl, hkl, G, hr, hu, hown⟩ := hrel
    by_cases hlt : k < xs.length
    · have hkI : (k : Int) < xs.length := by omega
      have hk0 : (0 : Int) ≤ k := by omega
      obtain ⟨hbw, hGw⟩ := lie_below HB3.out (Nat.le_refl _) HG0.out hu
      obtain ⟨b1, o1, hea, d0, d1⟩ := subs_row (HROW.out G wr hu) hlt
      rw [hea] at *
      have HTK := Lib.hid (show subGo (xs.take (k + 1)) ([], x.l) = ((subGo (xs.take k) ([], x.l)).1 ++ [setCu xs[k].1 xs[k].2 (subGo (xs.take k) ([], x.l)).2], setE xs[k].1 xs[k].2 (subGo (xs.take k) ([], x.l)).2) by rw [List.take_succ_eq_append_getElem hlt, subGo_snoc])
      have HXO := Lib.hid (HSO.out _ (List.getElem_mem hlt))
      have HAP := Lib.hid (hr.apart hown)
      generalize xs[k] = y at *
      obtain ⟨yf, yq⟩ := y
      dsimp only at *
      have hbn := (Below.refl wr.heap.size wr).alloc (Nat.le_refl _) (.cells #[.string ⟨yf.toArray⟩, .int .u8 yq] 39)
      obtain ⟨hs, hsG⟩ := (HBL.out G wr hu)
      have hs2 := (hbn.block sbk (Array.getElem?_eq_some_iff.1 hs).1).trans hs
      obtain ⟨s0, -, -⟩ := cells3 hs2
      have hxb := heap_alloc_new wr (.cells #[.string ⟨yf.toArray⟩, .int .u8 yq] 39)
      have b0 := cell_of_row _ _ 0 _ _ _ hxb
      have b1 := cell_of_row _ _ 1 _ _ _ hxb
      simp only [List.getElem?_toArray, List.getElem?_cons_zero, List.getElem?_cons_succ] at b0 b1
      have HU := Lib.hid hu
      have HR := Lib.hid hr
      have HOS := Lib.hid (show sbk < w1.heap.size from by have := HBL.out G0 w1 (upd_refl _ _); exact (Array.getElem?_eq_some_iff.1 this.1).1)
      have HOW := Lib.hid (ownsRow_local hown fun k hk => hbn.block k (hown.lt k hk).2)
      have HGL := Lib.hid hr.lt
      have HOB := Lib.hid hown.lt
      have HTB := Lib.hid (HTT.out _ (bnext hbw (Nat.le_refl _) hbn))
      have hszr : w1.heap.size ≤ wr.heap.size := hu.1.size
      clear hu hr hs hs2 hbw hGw hown
      go_wp2_with fail
      have HBN := Lib.hid hbn
      have HXB := Lib.hid hxb
      have hxbn : wr.heap.size < (wr.alloc (.cells #[.string ⟨yf.toArray⟩, .int .u8 yq] 39)).heap.size := by simp
      clear hbn hxb
      generalize wr.alloc (.cells #[.string ⟨yf.toArray⟩, .int .u8 yq] 39) = w2 at *
      generalize subGo (xs.take k) ([], x.l) = R at *
      obtain ⟨rc, rl⟩ := R
      dsimp only at *
      have HD := Lib.hid (sset_any lb2 _ G yf yq w2.drew (HR.out.below HBN.out.drew) (HTB.out.below (Below.refl _ _).drew) HXO.out.2.2 HXO.out.1 HXO.out.2.1)
      have HCI := Lib.hid (setCu_int (f := yf) (q := yq) (l := rl) HXO.out.1)
      rw [← HCI.out] at HD
      generalize setCu yf yq rl = cu at *
      obtain ⟨ad, cc, rfl, -, hn1, hn2⟩ := ownsRow_row HOW.out
      refine wp_region_held_drew (S := fun X => X.cell? ⟨sbk, 0, none⟩ = some (.pointer (some ⟨lb2, 0, none⟩)) ∧ X.cell? ⟨wr.heap.size, 0, none⟩ = some (.string ⟨yf.toArray⟩) ∧ X.cell? ⟨wr.heap.size, 1, none⟩ = some (.int .u8 yq)) (by kernel_rfl) ⟨s0, b0, b1⟩ (fun hHeld => ?_)
      refine wpAnyH_take (i := 0) (v := ?_) rfl (by kernel_rfl) (by kernel_rfl) (by kernel_rfl) (fun _ _ _ h => h) (Or.inl ⟨rfl, ?_⟩) hHeld ?_
      rotate_left
      · intro w0 hS0
        try dsimp only at hS0
        go_simp
        try with_reducible rfl
      simp only [List.getElem_toArray, List.getElem_cons_zero, Act.put, List.setIfInBounds_toArray, List.set_cons_zero, List.set_cons_succ]
      refine wpAnyH_take (i := 1) (v := ?_) rfl (by kernel_rfl) (by kernel_rfl) (by kernel_rfl) (fun _ _ _ h => h) (Or.inl ⟨rfl, ?_⟩) hHeld ?_
      rotate_left
      · intro w0 hS0
        try dsimp only at hS0
        go_simp
        try with_reducible rfl
      simp only [List.getElem_toArray, List.getElem_cons_zero, List.getElem_cons_succ, Act.put, List.setIfInBounds_toArray, List.set_cons_zero, List.set_cons_succ]
      refine wpAnyH_take (i := 2) (v := ?_) rfl (by kernel_rfl) (by kernel_rfl) (by kernel_rfl) (fun _ _ _ h => h) (Or.inl ⟨rfl, ?_⟩) hHeld ?_
      rotate_left
      · intro w0 hS0
        try dsimp only at hS0
        go_simp
        try with_reducible rfl
      simp only [List.getElem_toArray, List.getElem_cons_zero, List.getElem_cons_succ, Act.put, List.setIfInBounds_toArray, List.set_cons_zero, List.set_cons_succ]
      refine wpAnyH_take (i := 3) (v := ?_) rfl (by kernel_rfl) (by kernel_rfl) (by kernel_rfl) (fun _ _ _ h => h) (Or.inl ⟨rfl, ?_⟩) hHeld ?_
      rotate_left
      · intro w0 hS0
        try dsimp only at hS0
        go_simp
        try with_reducible rfl
      simp only [List.getElem_toArray, List.getElem_cons_zero, List.getElem_cons_succ, Act.put, List.setIfInBounds_toArray, List.set_cons_zero, List.set_cons_succ]
      refine wpAnyH_take (i := 4) (v := ?_) rfl (by kernel_rfl) (by kernel_rfl) (by kernel_rfl) (fun _ _ _ h => h) (Or.inl ⟨rfl, ?_⟩) hHeld ?_
      rotate_left
      · intro w0 hS0
        try dsimp only at hS0
        go_simp
        try with_reducible rfl
      simp only [List.getElem_toArray, List.getElem_cons_zero, List.getElem_cons_succ, Act.put, List.setIfInBounds_toArray, List.set_cons_zero, List.set_cons_succ]
      refine wpAnyH_take (i := 5) (v := ?_) rfl (by kernel_rfl) (by kernel_rfl) (by kernel_rfl) (fun _ _ _ h => h) (Or.inl ⟨rfl, ?_⟩) hHeld ?_
      rotate_left
      · intro w0 hS0
        try dsimp only at hS0
        go_simp
        try with_reducible rfl
      simp only [List.getElem_toArray, List.getElem_cons_zero, List.getElem_cons_succ, Act.put, List.setIfInBounds_toArray, List.set_cons_zero, List.set_cons_succ]
      refine wpAnyH_take (i := 6) (v := ?_) rfl (by kernel_rfl) (by kernel_rfl) (by kernel_rfl) (fun _ _ _ h => h) (Or.inl ⟨rfl, ?_⟩) hHeld ?_
      rotate_left
      · intro w0 hS0
        try dsimp only at hS0
        go_simp
        try with_reducible rfl
      simp only [List.getElem_toArray, List.getElem_cons_zero, List.getElem_cons_succ, Act.put, List.setIfInBounds_toArray, List.set_cons_zero, List.set_cons_succ]
      refine wpAnyH_take (i := 7) (v := ?_) rfl (by kernel_rfl) (by kernel_rfl) (by kernel_rfl) (fun _ _ _ h => h) (Or.inl ⟨rfl, ?_⟩) hHeld ?_
      rotate_left
      · intro w0 hS0
        try dsimp only at hS0
        go_simp
        try with_reducible rfl
      simp only [List.getElem_toArray, List.getElem_cons_zero, List.getElem_cons_succ, Act.put, List.setIfInBounds_toArray, List.set_cons_zero, List.set_cons_succ]
      refine wpAnyH_take (i := 8) (v := ?_) rfl (by kernel_rfl) (by kernel_rfl) (by kernel_rfl) (fun _ _ _ h => h) (Or.inl ⟨rfl, ?_⟩) hHeld ?_
      rotate_left
      · intro w0 hS0
        try dsimp only at hS0
        go_simp
        try with_reducible rfl
      simp only [List.getElem_toArray, List.getElem_cons_zero, List.getElem_cons_succ, Act.put, List.setIfInBounds_toArray, List.set_cons_zero, List.set_cons_succ]
      refine wpAnyH_ready (rs := [9]) (by kernel_rfl) (by simp) ?_
      refine AllReadyH.cons rfl (fun K hK => ?_) AllReadyH.nil
      rw [if_pos (by rfl)]
      go_simp
      go_at_call 42
      refine HD.out.mono ?_
      rintro e w3 ⟨rfl, G2, hr3, hu3⟩
      have hub : sbk < w2.heap.size := World.block_lt_of_cell? _ _ s0
      have hS3 : w3.cell? ⟨sbk, 0, none⟩ = some (.pointer (some ⟨lb2, 0, none⟩)) ∧ w3.cell? ⟨wr.heap.size, 0, none⟩ = some (.string ⟨yf.toArray⟩) ∧ w3.cell? ⟨wr.heap.size, 1, none⟩ = some (.int .u8 yq) := by
        have k1 := hu3.1.block sbk (by simpa using hub) hsG
        have k2 := hu3.1.block wr.heap.size (by simpa using hxbn) (fun h => by have := HGL.out _ h; omega)
        refine ⟨?_, ?_, ?_⟩
        · rw [World.cell?_of_block k1]; exact s0
        · rw [World.cell?_of_block k2]; exact b0
        · rw [World.cell?_of_block k2]; exact b1
      have HOW3 : Hid (w3.ownsRow w1.heap.size 5 1 (.slice ad k cc) k (u8s rc)) := Lib.hid (ownsRow_local HOW.out fun j hj => hu3.1.block j (by have := (HOB.out j hj).2; have := HBN.out.size; simp; omega) (HAP.out j hj))
      have HU3 := Lib.hid (upd_trans HU.out (upd_pre HBN.out.drew hu3))
      have HR3 := Lib.hid hr3
      have hsz3 : w2.heap.size ≤ w3.heap.size := by have := hu3.1.size; simpa using this
      clear hr3 hu3
      refine hK.out _ _ hS3 (fun hHeld => ?_)
      refine wpAnyH_ready (rs := [10]) (by kernel_rfl) (by simp) ?_
      refine AllReadyH.cons rfl (fun K hK => ?_) AllReadyH.nil
      rw [if_pos (by rfl)]
      go_simp
      have hba3 := (Below.refl w3.heap.size w3).alloc (Nat.le_refl _) (.cells #[.int .u8 cu.toNat] 5)
      have hS4 : ∀ X, Below w3.heap.size w3 X → X.cell? ⟨sbk, 0, none⟩ = some (.pointer (some ⟨lb2, 0, none⟩)) ∧ X.cell? ⟨wr.heap.size, 0, none⟩ = some (.string ⟨yf.toArray⟩) ∧ X.cell? ⟨wr.heap.size, 1, none⟩ = some (.int .u8 yq) := fun X hX =>
        ⟨(hX.cell (World.block_lt_of_cell? _ _ hS3.1)).trans hS3.1, (hX.cell (World.block_lt_of_cell? _ _ hS3.2.1)).trans hS3.2.1, (hX.cell (World.block_lt_of_cell? _ _ hS3.2.2)).trans hS3.2.2⟩
      refine hK.out _ _ (hS4 _ hba3) (fun hHeld => ?_)
      refine wpAnyH_ready (rs := [11]) (by kernel_rfl) (by simp) ?_
      refine AllReadyH.cons rfl (fun K hK => ?_) AllReadyH.nil
      refine step_app (m := 1) T_u8 (HOW3.out.alloc _) (heap_alloc_new w3 (.cells #[.int .u8 cu.toNat] 5)) rfl rfl rfl rfl rfl (by omega) (by simp [Value.oneCell']) ?_ ?_ ?_ ?_
      · omega
      · omega
      · simp; omega
      intro g cap w4 hown4 hgr4 hg4 hgl4
      have hS5 : w4.cell? ⟨sbk, 0, none⟩ = some (.pointer (some ⟨lb2, 0, none⟩)) ∧ w4.cell? ⟨wr.heap.size, 0, none⟩ = some (.string ⟨yf.toArray⟩) ∧ w4.cell? ⟨wr.heap.size, 1, none⟩ = some (.int .u8 yq) := by
        have hb1 : sbk < w3.heap.size := World.block_lt_of_cell? _ _ hS3.1
        have hb2 : wr.heap.size < w3.heap.size := World.block_lt_of_cell? _ _ hS3.2.1
        have k0 : ∀ j, j < w3.heap.size → (Value.slice ad k cc).ownBlock ≠ some j → w4.heap[j]? = w3.heap[j]? := fun j hj hne => by
          rw [hgr4.block j (by simp; omega) (fun e => hne e.symm), Below.heap_alloc _ _ _ hj]
        have k1 := k0 sbk hb1 (fun e => by have := (HOB.out _ e).1; have := HOS.out; omega)
        have k2 := k0 wr.heap.size hb2 (fun e => by have := (HOB.out _ e).2; omega)
        refine ⟨?_, ?_, ?_⟩
        · rw [World.cell?_of_block k1]; exact hS3.1
        · rw [World.cell?_of_block k2]; exact hS3.2.1
        · rw [World.cell?_of_block k2]; exact hS3.2.2
      have HR4 : Hid (SRep w4 lb2 (setE yf yq rl) G2) := Lib.hid (srep_local.keep HR3.out fun j hj => by
        rw [hgr4.block j (by have := HR3.out.lt j hj; simp; omega) (fun e => (HR3.out.apart HOW3.out) j e.symm hj), Below.heap_alloc _ _ _ (HR3.out.lt j hj)])
      have HU4 : Hid (Upd G0 G2 w1 w4) := Lib.hid ⟨(HU3.out.1.alloc _).grown hgr4 (fun j hj => .inr (HOB.out j hj).1), HU3.out.2⟩
      have HOW4 := Lib.hid hown4
      clear hown4 hgr4 hg4
      refine hK.out _ _ hS5 (fun hHeld => ?_)
      refine wpAnyH_take (i := 12) (v := ?_) rfl (by kernel_rfl) (by kernel_rfl) (by kernel_rfl) (fun _ _ _ h => h) (Or.inl ⟨rfl, ?_⟩) hHeld ?_
      rotate_left
      · intro w0 hS0
        try dsimp only at hS0
        go_simp
        try with_reducible rfl
      simp only [List.getElem_toArray, List.getElem_cons_zero, List.getElem_cons_succ, Act.put, List.setIfInBounds_toArray, List.set_cons_zero, List.set_cons_succ]
      refine wpAnyH_done (by kernel_rfl) ?_ _
      clear hHeld
      go_wp2_with fail
      go_roundw
      case rel => exact ⟨k + 1, by go_num, by omega, G2, by rw [HTK.out]; exact HR4.out, HU4.out, by rw [HTK.out]; simpa [u8s] using HOW4.out⟩
      case measure => simp [intOf]; omega
    · have hkI : ¬ (k : Int) < xs.length := by omega
      rw [List.take_of_length_le (by omega)] at hr hown
      have HU := Lib.hid hu
      have HR := Lib.hid hr
      obtain ⟨ad, cc, rfl, -, hn1, hn2⟩ := ownsRow_row hown
      have hstr := str_own hown
      clear hu hr hown
      go_wp2_with fail
      go_ret3
      unfold ApplyQ
      rw [HE.out, HE2.out]
      obtain ⟨F1, g1, g2⟩ := HO2.out wr _ G HR.out HU.out
      exact ⟨rfl, F1, g1, upd_pre HB2.out g2⟩
end
end Go.Proofs.YthfeckndkmhieaaGreatDoor
