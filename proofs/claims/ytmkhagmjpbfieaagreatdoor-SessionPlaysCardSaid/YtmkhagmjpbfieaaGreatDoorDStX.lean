/- SessionPlays: a session and the document's one, side by side; rows of packets that are the same. SessionPlays: step walked, each kind of call. (Printed by gen_step.py.) SessionPlays: alike walked. (Printed by gen_alike.py.) A session and the document's one answer the same, and stay alike: SessionPlays walked. -/
import Derived.Test.YtmkhagmjpbfieaaGreatDoorDSeX
import Derived.Test.YtmkhagmjpbfieaaGreatDoorSe2X
import Derived.Test.YtmkhagmjpbfieaaGreatDoorDPkX
namespace Go.Proofs.YtmkhagmjpbfieaaGreatDoor
section
open Go Go.RowKit

/-- the document's session, of the call's own -/
structure SeDc (w0 w : World) (r : Nat) (win most : Int) (x : SS) (G : List Nat) : Prop where
  bel : Below w0.heap.size w0 w
  rep : DSesRep w r win most x G
  hi : ∀ k ∈ G, w0.heap.size ≤ k
theorem SeDc.upd {w0 w w' : World} {r : Nat} {win most : Int} {x x' : SS} {G G' : List Nat} (h : SeDc w0 w r win most x G) (hr : DSesRep w' r win most x' G') (hu : Upd G G' w w') : SeDc w0 w' r win most x' G' :=
  ⟨h.bel.trans (hu.1.below h.bel.size h.hi), hr, fun k hk => (hu.2 k hk).elim (h.hi k) fun h1 => Nat.le_trans h.bel.size h1⟩
theorem SeDc.below {w0 w w' : World} {r : Nat} {win most : Int} {x : SS} {G : List Nat} (h : SeDc w0 w r win most x G) (hb : Below w.heap.size w w') : SeDc w0 w' r win most x G := ⟨bnext h.bel (Nat.le_refl _) hb, h.rep.below hb, h.hi⟩
structure Sd (w0 w : World) (s r : Nat) (win most : Int) (x y : SS) (F G : List Nat) : Prop where
  a : Se w0 w s win most x F
  b : SeDc w0 w r win most y G
  off : Off F G
section
variable {w0 w w' : World} {s r : Nat} {win most : Int} {x y x' y' : SS} {F G F' G' : List Nat}
theorem Sd.ua (h : Sd w0 w s r win most x y F G) (hr : SesRep w' s win most x' F') (hu : Upd F F' w w') : Sd w0 w' s r win most x' y F' G := by
  have h1 := h.a.upd hr hu
  exact ⟨h1, ⟨h1.bel, h.b.rep.mod hu.1 fun k hk hk' => h.off k hk' hk, h.b.hi⟩, hu.off h.off h.b.rep.lt⟩
theorem Sd.ub (h : Sd w0 w s r win most x y F G) (hr : DSesRep w' r win most y' G') (hu : Upd G G' w w') : Sd w0 w' s r win most x y' F G' := by
  have h1 := h.b.upd hr hu
  exact ⟨⟨h1.bel, h.a.rep.mod hu.1 fun k hk hk' => h.off k hk hk', h.a.hi⟩, h1, (hu.off h.off.symm h.a.rep.lt).symm⟩
theorem Sd.below (h : Sd w0 w s r win most x y F G) (hb : Below w.heap.size w w') : Sd w0 w' s r win most x y F G := ⟨h.a.below hb, h.b.below hb, h.off⟩
end
theorem tfirst_u (g : Nat) (x : Int) (l : List Int) (F : List Nat) (w : World) (h : TRep w g l F) (hlen : l.length ≤ 1000000) :
    Calls Tryz.prog 46 #[.pointer (some ⟨g, 0, none⟩), .int .u16 x] w fun e w' => e = .returned (.bool (!decide (x = 0 ∨ x ∈ l))) ∧ ∃ F', TRep w' g (firstI x l) F' ∧ Upd F F' w w' := by
  by_cases hc : x = 0 ∨ x ∈ l
  · refine (tfirst_no g x l F w h hlen hc).mono ?_
    rintro e w' ⟨rfl, rfl⟩
    exact ⟨by simp [hc], F, by rw [firstI, if_pos hc]; exact h, Upd.refl _ _⟩
  · refine (tfirst_yes g x l F w h hlen (fun e => hc (.inl e)) (fun e => hc (.inr e))).mono ?_
    rintro e w' ⟨rfl, F', h1, h2⟩
    exact ⟨by simp [hc], F', by rw [firstI, if_neg hc]; exact h1, h2⟩
theorem trel_u (g : Nat) (x : Int) (l : List Int) (F : List Nat) (w : World) (h : TRep w g l F) (hlen : l.length ≤ 1000000) :
    Calls Tryz.prog 48 #[.pointer (some ⟨g, 0, none⟩), .int .u16 x] w fun e w' => e = .returned (.bool (decide (x ∈ l))) ∧ ∃ F', TRep w' g (out x l) F' ∧ Upd F F' w w' := by
  by_cases hc : x ∈ l
  · refine (trel_yes g x l F w h hlen hc).mono ?_
    rintro e w' ⟨rfl, F', h1, h2⟩
    exact ⟨by simp [hc], F', h1, h2⟩
  · refine (trel_no g x l F w h hlen hc).mono ?_
    rintro e w' ⟨rfl, rfl⟩
    exact ⟨by simp [hc], F, by rw [out_none hc]; exact h, Upd.refl _ _⟩
set_option maxRecDepth 100000 in
theorem meql_same (t p : ByteArray) (q : Int) (r : Bool) (w : World) : (binOp .eql 34 (.agg #[.string t, .string p, .int .u8 q, .bool r]) (.agg #[.string t, .string p, .int .u8 q, .bool r])).run Tryz.prog w = .ok (.bool true) w := by
  have hst : Tryz.prog.stoodInHeld 34 = false := by kernel_rfl
  have hgd : Tryz.prog.eqGuardType Tryz.prog.depth 34 = false := by kernel_rfl
  go_simp
set_option maxRecDepth 100000 in
set_option maxHeartbeats 4000000 in
theorem dsameall_any (R : List Pkt) (a b : Option Addr) (c d : Nat) (w : World) (ha : Row w a (pksV R)) (hb : Row w b (pksV R)) (hs : ∀ x ∈ R, x.subs = []) (hl : R.length ≤ 100000) :
    Calls Tryz.prog 40 #[.slice a R.length c, .slice b R.length d] w fun e w' => e = .returned (.bool true) ∧ Below w.heap.size w w' := by
  have HR : Hid (∀ X, Below w.heap.size w X → Row X a (pksV R) ∧ Row X b (pksV R)) := Lib.hid (fun X hX => ⟨ha.below hX (Nat.le_refl _), hb.below hX (Nat.le_refl _)⟩)
  have HS := Lib.hid hs
  clear ha hb hs
  go_enter Tryz.func40, Tryz.ntmps40
  go_wp2_with fail
  go_loopw [5] (fun i wr => ∃ k : Nat, i = .int .i64 k ∧ k ≤ R.length ∧ Below w.heap.size w wr) (fun i _ => (R.length - intOf i).toNat)
  case atStart => exact ⟨0, rfl, by omega, Below.refl _ _⟩
  case round =>
    obtain ⟨k, rfl, hk, hbr⟩ := hrel
    have HBR := Lib.hid hbr
    by_cases hlt : k < R.length
    · obtain ⟨r1, r2⟩ := HR.out _ hbr
      obtain ⟨x1, o1, rfl, g1⟩ := row_mid (mk := Pkt.cells) (m := 24) pkt_len r1 hlt (by decide)
      obtain ⟨x2, o2, rfl, g2⟩ := row_mid (mk := Pkt.cells) (m := 24) pkt_len r2 hlt (by decide)
      have hk0 : (0 : Int) ≤ k := by omega
      have hkl : (k : Int) < R.length := by omega
      have hw1 : IntKind.i64.wrap ((k : Int) + 1) = (k : Int) + 1 := w_i64 _ (by omega) (by omega)
      have HSX := Lib.hid (HS.out _ (List.getElem_mem hlt))
      generalize R[k] = x at *
      have HPS := Lib.hid (fun X => dsame_any x X HSX.out)
      have HLS := Lib.hid (pk_size' x)
      have HSX2 : Hid (∀ X, Below wr.heap.size wr X → X.rangeAt x1 (o1 + k * 24) x.cells ∧ X.rangeAt x2 (o2 + k * 24) x.cells) := Lib.hid (fun X hX =>
        ⟨fun j v hj => (hX.cell (p := ⟨x1, _, none⟩) (World.block_lt_of_cell? wr _ (g1 j v hj))).trans (g1 j v hj), fun j v hj => (hX.cell (p := ⟨x2, _, none⟩) (World.block_lt_of_cell? wr _ (g2 j v hj))).trans (g2 j v hj)⟩)
      generalize x.cells = XL at *
      clear r1 r2 hbr g1 g2
      go_upto_region 6 with fail
      refine wp_region_held_drew (S := fun X => X.rangeAt x1 (o1 + k * 24) XL ∧ X.rangeAt x2 (o2 + k * 24) XL) (by kernel_rfl) (HSX2.out _ (by first | exact Below.refl _ _ | exact (Below.refl _ _).drew)) (fun hHeld => ?_)
      refine tk 0 (v := ?_) ?_ hHeld ?_; rotate_left; · (intro w0 hS0; (try dsimp only at hS0); go_simp; try with_reducible rfl)
      simp only [tks]
      refine tk 1 (v := ?_) ?_ hHeld ?_; rotate_left; · (intro w0 hS0; (try dsimp only at hS0); go_simp; try with_reducible rfl)
      simp only [tks]
      refine tk 2 (v := ?_) ?_ hHeld ?_; rotate_left; · (intro w0 hS0; (try dsimp only at hS0); go_simp; try with_reducible rfl)
      simp only [tks]
      refine wpAnyH_take (i := 3) (v := .agg XL.toArray) rfl (by kernel_rfl) (by kernel_rfl) (by kernel_rfl) (fun _ _ _ h => h) (Or.inl ⟨rfl, ?_⟩) hHeld ?_
      · intro w0 hS0
        exact exec_load_row rfl rfl hS0.1 Tryz.underlying37 rfl HLS.out
      simp only [List.getElem_toArray, List.getElem_cons_zero, List.getElem_cons_succ, Act.put, List.setIfInBounds_toArray, List.set_cons_zero, List.set_cons_succ]
      refine tk 4 (v := ?_) ?_ hHeld ?_; rotate_left; · (intro w0 hS0; (try dsimp only at hS0); go_simp; try with_reducible rfl)
      simp only [tks]
      refine tk 5 (v := ?_) ?_ hHeld ?_; rotate_left; · (intro w0 hS0; (try dsimp only at hS0); go_simp; try with_reducible rfl)
      simp only [tks]
      refine tk 6 (v := ?_) ?_ hHeld ?_; rotate_left; · (intro w0 hS0; (try dsimp only at hS0); go_simp; try with_reducible rfl)
      simp only [tks]
      refine wpAnyH_take (i := 7) (v := .agg XL.toArray) rfl (by kernel_rfl) (by kernel_rfl) (by kernel_rfl) (fun _ _ _ h => h) (Or.inl ⟨rfl, ?_⟩) hHeld ?_
      · intro w0 hS0
        exact exec_load_row rfl rfl hS0.2 Tryz.underlying37 rfl HLS.out
      simp only [List.getElem_toArray, List.getElem_cons_zero, List.getElem_cons_succ, Act.put, List.setIfInBounds_toArray, List.set_cons_zero, List.set_cons_succ]
      refine wpAnyH_ready (rs := [8]) (by kernel_rfl) (by simp) ?_
      refine AllReadyH.cons rfl (fun K hK => ?_) AllReadyH.nil
      rw [if_pos (by rfl)]
      go_simp
      go_at_call 77
      refine (HPS.out _).mono ?_
      rintro e w2 ⟨rfl, hk2⟩
      have HB2 : Hid (Below wr.heap.size wr w2) := Lib.hid (((Below.refl _ _).drew).trans hk2)
      clear hk2
      refine hK.out _ _ (HSX2.out _ HB2.out) (fun hHeld => ?_)
      refine tk 9 (v := ?_) ?_ hHeld ?_; rotate_left; · (intro w0 hS0; (try dsimp only at hS0); go_simp; try with_reducible rfl)
      simp only [tks]
      refine wpAnyH_done (by kernel_rfl) ?_ _
      clear hHeld
      go_wp2_with fail
      go_roundw
      case rel => exact ⟨k + 1, by go_num, by omega, HBR.out.trans (HB2.out.mono HBR.out.size)⟩
      case measure => simp [intOf]; omega
    · have hkl : ¬ (k : Int) < R.length := by omega
      clear hbr
      go_wp2_with fail
      go_ret
      exact ⟨rfl, HBR.out⟩
end
section
open Go Go.RowKit

/-- what a step comes to -/
def StepDone (w0 w' : World) (s r : Nat) (win most : Int) (e : Ending) (x' : SS) : Prop := e = .returned (.bool true) ∧ ∃ F' G', Sd w0 w' s r win most x' x' F' G'
theorem beginA_len (conn : Int) (p : Pkt) (x : SS) : (beginA conn p x).2.length ≤ x.l.length := by
  unfold beginA
  split
  · split
    · simp [namesE]
    · simp
  · simp
theorem pumpO_subs (win : Int) : ∀ (wait : List Msg) (row : List Sent), ∀ x ∈ (pumpO win wait row).1, x.subs = []
  | [], row => by simp [pumpO]
  | m :: r, row => by
    unfold pumpO
    split
    · split
      · simp
      · intro x hx
        rcases List.mem_cons.1 hx with rfl | hx
        · rfl
        · exact pumpO_subs win r _ x hx
    · intro x hx
      rcases List.mem_cons.1 hx with rfl | hx
      · rfl
      · exact pumpO_subs win r _ x hx
theorem ackO_rows (ty id : Int) (o : OT) : (∀ x ∈ (ackO ty id o).1.1, x.subs = []) ∧ (ackO ty id o).1.1.length ≤ 1 := by
  unfold ackO
  split
  · simp
  · split
    · simp
    · split
      · simp [relK]
      · split <;> simp
theorem row_keep {w w' : World} {B : Nat} {T : TypeId} {sz : Nat} {v : Value} {n : Nat} {xs : List Value} {G G' : List Nat} (h : w.ownsRow B T sz v n xs) (hu : Upd G G' w w') (hG : ∀ k ∈ G, k < B) : w'.ownsRow B T sz v n xs :=
  ownsRow_local h fun k hk => hu.1.block k (h.lt k hk).2 fun hk' => by have := hG k hk'; have := (h.lt k hk).1; omega
section
variable (w0 : World) (s r : Nat) (x : SS) (win most : Int) (F G : List Nat) (a : ActS) (w : World)
set_option maxRecDepth 100000 in
set_option maxHeartbeats 4000000 in
theorem step_k0 (h : Sd w0 w s r win most x x F G) (ha : ActOk a) (hT : Tabs w0) (hB : Bru w0) {K : Int} (hk : a.kind % 16 = K) (hK : K = 0 ∨ K = 1 ∨ K = 2) :
    Calls Tryz.prog 10 #[.pointer (some ⟨s, 0, none⟩), .pointer (some ⟨r, 0, none⟩), .agg (actC a).toArray] w fun e w' => StepDone w0 w' s r win most e (beginS a.conn a.p x) := by
  have hb := low_alloc w (.cells (actC a).toArray 41)
  have hX := heap_alloc_new w (.cells (actC a).toArray 41)
  have hnF : w.heap.size ∉ F := fun hk => by have := h.a.rep.lt _ hk; omega
  have hnG : w.heap.size ∉ G := fun hk => by have := h.b.rep.lt _ hk; omega
  obtain ⟨W, hW⟩ : ∃ W, w.alloc (.cells (actC a).toArray 41) = W := ⟨_, rfl⟩
  have hnl : w.heap.size < W.heap.size := by rw [← hW]; simp
  rw [hW] at hX hb
  have h1 := h.below hb
  have HGL : Hid (∀ k ∈ G, k < W.heap.size) := Lib.hid (fun k hk => h1.b.rep.lt k hk)
  have HT := Lib.hid (fun X (hX : Below w0.heap.size w0 X) => hT.below hX)
  have HBR := Lib.hid (fun X (hX : Below w0.heap.size w0 X) => hB.below hX)
  have HZ := Lib.hid (h1.a.zero (World.block_lt_of_cell? w0 _ (hB 0 (by decide))))
  obtain ⟨hlS, hrS, hoS, hwS⟩ := h1.a.rep.lens
  obtain ⟨lb, tb, cb, FL, FO, FC, hp, rfl⟩ := h1.a.rep
  obtain ⟨lr, tr, cr, GL, GO, GC, hq, rfl⟩ := h1.b.rep
  have hsl := hp.lts
  have hrl := hq.lts
  have hrF : r ∉ sFoot s FL FO FC := fun hk => h1.off r hk (mem_sFoot.2 (.inl rfl))
  have hsG : s ∉ sFoot r GL GO GC := fun hk => h1.off s (mem_sFoot.2 (.inl rfl)) hk
  have HS : Hid (∀ X : World, X.heap[s]? = W.heap[s]? → X.heap[r]? = W.heap[r]? → X.heap[w.heap.size]? = W.heap[w.heap.size]? → (X.cell? ⟨s, 8, none⟩ = some (.pointer (some ⟨lb, 0, none⟩)) ∧ X.cell? ⟨s, 9, none⟩ = some (.pointer (some ⟨tb, 0, none⟩)) ∧ X.cell? ⟨s, 10, none⟩ = some (.pointer (some ⟨cb, 0, none⟩))) ∧ (X.cell? ⟨r, 8, none⟩ = some (.pointer (some ⟨lr, 0, none⟩)) ∧ X.cell? ⟨r, 9, none⟩ = some (.pointer (some ⟨tr, 0, none⟩)) ∧ X.cell? ⟨r, 10, none⟩ = some (.pointer (some ⟨cr, 0, none⟩))) ∧ (X.cell? ⟨w.heap.size, 6, none⟩ = some (.int .u16 a.p.id) ∧ X.cell? ⟨w.heap.size, 26, none⟩ = some (.string ⟨a.sub.1.toArray⟩) ∧ X.cell? ⟨w.heap.size, 27, none⟩ = some (.int .u8 a.sub.2)) ∧ X.rangeAt w.heap.size 2 a.p.cells ∧ X.rangeAt w.heap.size 28 a.m.cells) := Lib.hid (fun X e1 e2 e3 => by
    have p1 := e1.trans hp.hd
    have p2 := e2.trans hq.hd
    have p3 := e3.trans hX
    obtain ⟨-, -, a6, a26, a27⟩ := act_cells p3
    obtain ⟨q2, q28⟩ := act_range p3
    exact ⟨⟨cell_of_row _ _ 8 _ _ _ p1, cell_of_row _ _ 9 _ _ _ p1, cell_of_row _ _ 10 _ _ _ p1⟩, ⟨cell_of_row _ _ 8 _ _ _ p2, cell_of_row _ _ 9 _ _ _ p2, cell_of_row _ _ 10 _ _ _ p2⟩, ⟨a6, a26, a27⟩, q2, q28⟩)
  have HA1 : Hid (∀ X : World, X.heap[w.heap.size]? = W.heap[w.heap.size]? → X.cell? ⟨w.heap.size, 1, none⟩ = some (.int .i64 a.conn)) := Lib.hid (fun X e => (act_cells (e.trans hX)).2.1)
  have a0 := (act_cells hX).1
  have hk0 := ha.k0
  have HP := Lib.hid hp
  have HQ := Lib.hid hq
  have HSD := Lib.hid h1
  have HA := Lib.hid ha
  have HLP := Lib.hid (pk_size' a.p)
  have HNF := Lib.hid hnF
  have HNG := Lib.hid hnG
  have HL16 := Lib.hid hlS
  have HRS := Lib.hid hrS
  have HWS := Lib.hid hwS
  have HRF := Lib.hid hrF
  have HSG := Lib.hid hsG
  have HNL := Lib.hid hnl
  have HSL := Lib.hid hsl
  have HRL := Lib.hid hrl
  clear hp hq h1 hb hX h hT hB ha hnF hnG hlS hrS hoS hwS hrF hsG hsl hrl
  generalize (actC a).toArray = AC at *
  rcases hK with rfl | rfl | rfl
  all_goals
    go_enter Tryz.func10, Tryz.ntmps10
    have a1 := HA1.out W rfl
    have hr2 := Lib.hid (HS.out W rfl rfl rfl).2.2.2.1
    have HLN := Lib.hid (beginA_len a.conn a.p x)
    obtain ⟨⟨pb, nl⟩, hbA⟩ : ∃ q, beginA a.conn a.p x = q := ⟨_, rfl⟩
    have HBA := Lib.hid hbA
    rw [hbA] at HLN
    clear hbA
    go_wp2_with (first
      | (refine wpList_loadMid rfl 37 _ rfl w.heap.size 2 rfl a.p.cells _ hr2.out Tryz.underlying37 rfl HLP.out _ rfl ?_)
      | fail)
    refine (begin_any s x win most _ a.conn a.p W HSD.out.a.rep).mono ?_
    rintro e w2 ⟨v, F2, rfl, ho, hr, hu, -⟩
    rw [HBA.out] at ho ⊢
    dsimp only at ho
    have SD2 := Lib.hid (HSD.out.ua hr hu)
    have EB := Lib.hid (show w2.heap[w.heap.size]? = W.heap[w.heap.size]? from hu.1.block w.heap.size HNL.out HNF.out)
    have ES := Lib.hid (show w2.heap[r]? = W.heap[r]? from hu.1.block r HRL.out HRF.out)
    obtain ⟨va, vc, rfl, -, -, -⟩ := ownsRow_row ho
    have HO := Lib.hid ho
    have hr2' := Lib.hid (range_kept EB.out hr2.out)
    replace a1 := HA1.out w2 EB.out
    clear ho hr hu a0
    go_wp2_with (first
      | (refine wpList_loadMid rfl 37 _ rfl w.heap.size 2 rfl a.p.cells _ hr2'.out Tryz.underlying37 rfl HLP.out _ rfl ?_)
      | fail)
    refine (dbegin_any r x win most _ a.conn a.p w2 SD2.out.b.rep).mono ?_
    rintro e w3 ⟨v, G3, rfl, ho, hr, hu, -⟩
    rw [HBA.out] at ho ⊢
    dsimp only at ho
    have SD3 := Lib.hid (SD2.out.ub hr hu)
    have HO3 := Lib.hid (row_keep HO.out hu HGL.out)
    obtain ⟨vb, vd, rfl, hrw2, -, -⟩ := ownsRow_row ho
    obtain ⟨_, _, e3, hrw1, -, -⟩ := ownsRow_row HO3.out
    cases e3
    have HR1 := Lib.hid hrw1
    have HR2 := Lib.hid hrw2
    clear ho hr hu a1 hrw1 hrw2
    go_wp2_with fail
    refine (texts_same va vb vc vd nl w3 HR1.out HR2.out (by have h9 : nl.length ≤ x.l.length := HLN.out; have := HL16.out; omega)).mono ?_
    rintro e w4 ⟨rfl, hk4⟩
    have SD4 := Lib.hid (SD3.out.below hk4)
    clear hk4
    go_wp2_with fail
    go_ret
    exact ⟨rfl, _, _, SD4.out⟩
set_option maxRecDepth 100000 in
set_option maxHeartbeats 4000000 in
theorem step_k3 (h : Sd w0 w s r win most x x F G) (ha : ActOk a) (hT : Tabs w0) (hB : Bru w0) (hk : a.kind % 16 = 3) :
    Calls Tryz.prog 10 #[.pointer (some ⟨s, 0, none⟩), .pointer (some ⟨r, 0, none⟩), .agg (actC a).toArray] w fun e w' => StepDone w0 w' s r win most e (leaveS x) := by
  have hb := low_alloc w (.cells (actC a).toArray 41)
  have hX := heap_alloc_new w (.cells (actC a).toArray 41)
  have hnF : w.heap.size ∉ F := fun hk => by have := h.a.rep.lt _ hk; omega
  have hnG : w.heap.size ∉ G := fun hk => by have := h.b.rep.lt _ hk; omega
  obtain ⟨W, hW⟩ : ∃ W, w.alloc (.cells (actC a).toArray 41) = W := ⟨_, rfl⟩
  have hnl : w.heap.size < W.heap.size := by rw [← hW]; simp
  rw [hW] at hX hb
  have h1 := h.below hb
  have HGL : Hid (∀ k ∈ G, k < W.heap.size) := Lib.hid (fun k hk => h1.b.rep.lt k hk)
  have HT := Lib.hid (fun X (hX : Below w0.heap.size w0 X) => hT.below hX)
  have HBR := Lib.hid (fun X (hX : Below w0.heap.size w0 X) => hB.below hX)
  have HZ := Lib.hid (h1.a.zero (World.block_lt_of_cell? w0 _ (hB 0 (by decide))))
  obtain ⟨hlS, hrS, hoS, hwS⟩ := h1.a.rep.lens
  obtain ⟨lb, tb, cb, FL, FO, FC, hp, rfl⟩ := h1.a.rep
  obtain ⟨lr, tr, cr, GL, GO, GC, hq, rfl⟩ := h1.b.rep
  have hsl := hp.lts
  have hrl := hq.lts
  have hrF : r ∉ sFoot s FL FO FC := fun hk => h1.off r hk (mem_sFoot.2 (.inl rfl))
  have hsG : s ∉ sFoot r GL GO GC := fun hk => h1.off s (mem_sFoot.2 (.inl rfl)) hk
  have HS : Hid (∀ X : World, X.heap[s]? = W.heap[s]? → X.heap[r]? = W.heap[r]? → X.heap[w.heap.size]? = W.heap[w.heap.size]? → (X.cell? ⟨s, 8, none⟩ = some (.pointer (some ⟨lb, 0, none⟩)) ∧ X.cell? ⟨s, 9, none⟩ = some (.pointer (some ⟨tb, 0, none⟩)) ∧ X.cell? ⟨s, 10, none⟩ = some (.pointer (some ⟨cb, 0, none⟩))) ∧ (X.cell? ⟨r, 8, none⟩ = some (.pointer (some ⟨lr, 0, none⟩)) ∧ X.cell? ⟨r, 9, none⟩ = some (.pointer (some ⟨tr, 0, none⟩)) ∧ X.cell? ⟨r, 10, none⟩ = some (.pointer (some ⟨cr, 0, none⟩))) ∧ (X.cell? ⟨w.heap.size, 6, none⟩ = some (.int .u16 a.p.id) ∧ X.cell? ⟨w.heap.size, 26, none⟩ = some (.string ⟨a.sub.1.toArray⟩) ∧ X.cell? ⟨w.heap.size, 27, none⟩ = some (.int .u8 a.sub.2)) ∧ X.rangeAt w.heap.size 2 a.p.cells ∧ X.rangeAt w.heap.size 28 a.m.cells) := Lib.hid (fun X e1 e2 e3 => by
    have p1 := e1.trans hp.hd
    have p2 := e2.trans hq.hd
    have p3 := e3.trans hX
    obtain ⟨-, -, a6, a26, a27⟩ := act_cells p3
    obtain ⟨q2, q28⟩ := act_range p3
    exact ⟨⟨cell_of_row _ _ 8 _ _ _ p1, cell_of_row _ _ 9 _ _ _ p1, cell_of_row _ _ 10 _ _ _ p1⟩, ⟨cell_of_row _ _ 8 _ _ _ p2, cell_of_row _ _ 9 _ _ _ p2, cell_of_row _ _ 10 _ _ _ p2⟩, ⟨a6, a26, a27⟩, q2, q28⟩)
  have HA1 : Hid (∀ X : World, X.heap[w.heap.size]? = W.heap[w.heap.size]? → X.cell? ⟨w.heap.size, 1, none⟩ = some (.int .i64 a.conn)) := Lib.hid (fun X e => (act_cells (e.trans hX)).2.1)
  have a0 := (act_cells hX).1
  have hk0 := ha.k0
  have HP := Lib.hid hp
  have HQ := Lib.hid hq
  have HSD := Lib.hid h1
  have HA := Lib.hid ha
  have HLP := Lib.hid (pk_size' a.p)
  have HNF := Lib.hid hnF
  have HNG := Lib.hid hnG
  have HL16 := Lib.hid hlS
  have HRS := Lib.hid hrS
  have HWS := Lib.hid hwS
  have HRF := Lib.hid hrF
  have HSG := Lib.hid hsG
  have HNL := Lib.hid hnl
  have HSL := Lib.hid hsl
  have HRL := Lib.hid hrl
  clear hp hq h1 hb hX h hT hB ha hnF hnG hlS hrS hoS hwS hrF hsG hsl hrl
  generalize (actC a).toArray = AC at *
  go_enter Tryz.func10, Tryz.ntmps10
  obtain ⟨⟨lm, lok⟩, hla⟩ : ∃ q, loseA x = q := ⟨_, rfl⟩
  have HLA := Lib.hid hla
  have HMZ := Lib.hid (msg_size' lm)
  have HM4 : Hid ((4 : Nat) = lm.cells.toArray.size) := Lib.hid rfl
  have HM1 := Lib.hid (msg_one' lm)
  clear hla
  go_wp2_with fail
  refine (lose_any s x win most _ W HSD.out.a.rep).mono ?_
  rintro e w2 ⟨rfl, hr, hu⟩
  rw [HLA.out]
  have SD2 := Lib.hid (HSD.out.ua hr hu)
  have HXB := Lib.hid (heap_alloc_new w2 (.cells lm.cells.toArray 34))
  have SD2b := Lib.hid (SD2.out.below (low_alloc w2 (.cells lm.cells.toArray 34)))
  have HSZ := Lib.hid (show W.heap.size ≤ w2.heap.size from hu.1.size)
  clear hr hu a0
  unfold Msg.val
  go_wp2_with (first
    | (refine wpList_store_newTo rfl 34 _ _ rfl rfl w2.heap.size rfl lm.cells.toArray _ rfl rfl HMZ.out HM4.out HM1.out ?_)
    | fail)
  refine (dlose_any r x win most _ (w2.alloc (.cells lm.cells.toArray 34)) SD2b.out.b.rep).mono ?_
  rintro e w3 ⟨rfl, hr, hu⟩
  rw [HLA.out]
  have SD3 := Lib.hid (SD2b.out.ub hr hu)
  have hx3 := (hu.1.block w2.heap.size (by simp) (fun hk => by have := HGL.out _ hk; have := HSZ.out; omega)).trans HXB.out
  have hx4 := (Below.heap_alloc w3 (.cells lm.cells.toArray 34) w2.heap.size (Array.getElem?_eq_some_iff.1 hx3).1).trans hx3
  have hy4 := heap_alloc_new w3 (.cells lm.cells.toArray 34)
  have SD4 := Lib.hid (SD3.out.below (low_alloc w3 (.cells lm.cells.toArray 34)))
  have k0 : (w3.alloc (.cells lm.cells.toArray 34)).cell? ⟨w2.heap.size, 0, none⟩ = some (.string lm.t) := cell_of_row _ _ 0 _ _ _ hx4
  have k1 : (w3.alloc (.cells lm.cells.toArray 34)).cell? ⟨w2.heap.size, 1, none⟩ = some (.string lm.p) := cell_of_row _ _ 1 _ _ _ hx4
  have k2 : (w3.alloc (.cells lm.cells.toArray 34)).cell? ⟨w2.heap.size, 2, none⟩ = some (.int .u8 lm.q) := cell_of_row _ _ 2 _ _ _ hx4
  have k3 : (w3.alloc (.cells lm.cells.toArray 34)).cell? ⟨w2.heap.size, 3, none⟩ = some (.bool lm.r) := cell_of_row _ _ 3 _ _ _ hx4
  have l0 : (w3.alloc (.cells lm.cells.toArray 34)).cell? ⟨w3.heap.size, 0, none⟩ = some (.string lm.t) := cell_of_row _ _ 0 _ _ _ hy4
  have l1 : (w3.alloc (.cells lm.cells.toArray 34)).cell? ⟨w3.heap.size, 1, none⟩ = some (.string lm.p) := cell_of_row _ _ 1 _ _ _ hy4
  have l2 : (w3.alloc (.cells lm.cells.toArray 34)).cell? ⟨w3.heap.size, 2, none⟩ = some (.int .u8 lm.q) := cell_of_row _ _ 2 _ _ _ hy4
  have l3 : (w3.alloc (.cells lm.cells.toArray 34)).cell? ⟨w3.heap.size, 3, none⟩ = some (.bool lm.r) := cell_of_row _ _ 3 _ _ _ hy4
  have hcmp := fun w => meql_same lm.t lm.p lm.q lm.r w
  clear hr hu hx3 hx4 hy4
  unfold Msg.val
  go_upto_region 12 with (first
    | (refine wpList_store_newTo rfl 34 _ _ rfl rfl w3.heap.size rfl lm.cells.toArray _ rfl rfl HMZ.out HM4.out HM1.out ?_)
    | fail)
  generalize w3.alloc (.cells lm.cells.toArray 34) = w4 at *
  go_wp2_with fail
  go_ret
  exact ⟨rfl, _, _, SD4.out⟩
set_option maxRecDepth 100000 in
set_option maxHeartbeats 4000000 in
theorem step_k4 (h : Sd w0 w s r win most x x F G) (ha : ActOk a) (hT : Tabs w0) (hB : Bru w0) (hk : a.kind % 16 = 4) :
    Calls Tryz.prog 10 #[.pointer (some ⟨s, 0, none⟩), .pointer (some ⟨r, 0, none⟩), .agg (actC a).toArray] w fun e w' => StepDone w0 w' s r win most e (leaveS x) := by
  have hb := low_alloc w (.cells (actC a).toArray 41)
  have hX := heap_alloc_new w (.cells (actC a).toArray 41)
  have hnF : w.heap.size ∉ F := fun hk => by have := h.a.rep.lt _ hk; omega
  have hnG : w.heap.size ∉ G := fun hk => by have := h.b.rep.lt _ hk; omega
  obtain ⟨W, hW⟩ : ∃ W, w.alloc (.cells (actC a).toArray 41) = W := ⟨_, rfl⟩
  have hnl : w.heap.size < W.heap.size := by rw [← hW]; simp
  rw [hW] at hX hb
  have h1 := h.below hb
  have HGL : Hid (∀ k ∈ G, k < W.heap.size) := Lib.hid (fun k hk => h1.b.rep.lt k hk)
  have HT := Lib.hid (fun X (hX : Below w0.heap.size w0 X) => hT.below hX)
  have HBR := Lib.hid (fun X (hX : Below w0.heap.size w0 X) => hB.below hX)
  have HZ := Lib.hid (h1.a.zero (World.block_lt_of_cell? w0 _ (hB 0 (by decide))))
  obtain ⟨hlS, hrS, hoS, hwS⟩ := h1.a.rep.lens
  obtain ⟨lb, tb, cb, FL, FO, FC, hp, rfl⟩ := h1.a.rep
  obtain ⟨lr, tr, cr, GL, GO, GC, hq, rfl⟩ := h1.b.rep
  have hsl := hp.lts
  have hrl := hq.lts
  have hrF : r ∉ sFoot s FL FO FC := fun hk => h1.off r hk (mem_sFoot.2 (.inl rfl))
  have hsG : s ∉ sFoot r GL GO GC := fun hk => h1.off s (mem_sFoot.2 (.inl rfl)) hk
  have HS : Hid (∀ X : World, X.heap[s]? = W.heap[s]? → X.heap[r]? = W.heap[r]? → X.heap[w.heap.size]? = W.heap[w.heap.size]? → (X.cell? ⟨s, 8, none⟩ = some (.pointer (some ⟨lb, 0, none⟩)) ∧ X.cell? ⟨s, 9, none⟩ = some (.pointer (some ⟨tb, 0, none⟩)) ∧ X.cell? ⟨s, 10, none⟩ = some (.pointer (some ⟨cb, 0, none⟩))) ∧ (X.cell? ⟨r, 8, none⟩ = some (.pointer (some ⟨lr, 0, none⟩)) ∧ X.cell? ⟨r, 9, none⟩ = some (.pointer (some ⟨tr, 0, none⟩)) ∧ X.cell? ⟨r, 10, none⟩ = some (.pointer (some ⟨cr, 0, none⟩))) ∧ (X.cell? ⟨w.heap.size, 6, none⟩ = some (.int .u16 a.p.id) ∧ X.cell? ⟨w.heap.size, 26, none⟩ = some (.string ⟨a.sub.1.toArray⟩) ∧ X.cell? ⟨w.heap.size, 27, none⟩ = some (.int .u8 a.sub.2)) ∧ X.rangeAt w.heap.size 2 a.p.cells ∧ X.rangeAt w.heap.size 28 a.m.cells) := Lib.hid (fun X e1 e2 e3 => by
    have p1 := e1.trans hp.hd
    have p2 := e2.trans hq.hd
    have p3 := e3.trans hX
    obtain ⟨-, -, a6, a26, a27⟩ := act_cells p3
    obtain ⟨q2, q28⟩ := act_range p3
    exact ⟨⟨cell_of_row _ _ 8 _ _ _ p1, cell_of_row _ _ 9 _ _ _ p1, cell_of_row _ _ 10 _ _ _ p1⟩, ⟨cell_of_row _ _ 8 _ _ _ p2, cell_of_row _ _ 9 _ _ _ p2, cell_of_row _ _ 10 _ _ _ p2⟩, ⟨a6, a26, a27⟩, q2, q28⟩)
  have HA1 : Hid (∀ X : World, X.heap[w.heap.size]? = W.heap[w.heap.size]? → X.cell? ⟨w.heap.size, 1, none⟩ = some (.int .i64 a.conn)) := Lib.hid (fun X e => (act_cells (e.trans hX)).2.1)
  have a0 := (act_cells hX).1
  have hk0 := ha.k0
  have HP := Lib.hid hp
  have HQ := Lib.hid hq
  have HSD := Lib.hid h1
  have HA := Lib.hid ha
  have HLP := Lib.hid (pk_size' a.p)
  have HNF := Lib.hid hnF
  have HNG := Lib.hid hnG
  have HL16 := Lib.hid hlS
  have HRS := Lib.hid hrS
  have HWS := Lib.hid hwS
  have HRF := Lib.hid hrF
  have HSG := Lib.hid hsG
  have HNL := Lib.hid hnl
  have HSL := Lib.hid hsl
  have HRL := Lib.hid hrl
  clear hp hq h1 hb hX h hT hB ha hnF hnG hlS hrS hoS hwS hrF hsG hsl hrl
  generalize (actC a).toArray = AC at *
  go_enter Tryz.func10, Tryz.ntmps10
  go_wp2_with fail
  refine (leave_any s x win most _ W HSD.out.a.rep).mono ?_
  rintro e w2 ⟨rfl, hr, hu⟩
  have SD2 := Lib.hid (HSD.out.ua hr hu)
  clear hr hu a0
  go_wp2_with fail
  refine (dleave_any r x win most _ w2 SD2.out.b.rep).mono ?_
  rintro e w3 ⟨rfl, hr, hu⟩
  have SD3 := Lib.hid (SD2.out.ub hr hu)
  clear hr hu
  go_wp2_with fail
  go_ret
  exact ⟨rfl, _, _, SD3.out⟩
set_option maxRecDepth 100000 in
set_option maxHeartbeats 4000000 in
theorem step_k5 (h : Sd w0 w s r win most x x F G) (ha : ActOk a) (hT : Tabs w0) (hB : Bru w0) {K : Int} (hk : a.kind % 16 = K) (hK : K = 5 ∨ K = 6) :
    Calls Tryz.prog 10 #[.pointer (some ⟨s, 0, none⟩), .pointer (some ⟨r, 0, none⟩), .agg (actC a).toArray] w fun e w' => StepDone w0 w' s r win most e ({ x with l := setE a.sub.1 a.sub.2 x.l }) := by
  have hb := low_alloc w (.cells (actC a).toArray 41)
  have hX := heap_alloc_new w (.cells (actC a).toArray 41)
  have hnF : w.heap.size ∉ F := fun hk => by have := h.a.rep.lt _ hk; omega
  have hnG : w.heap.size ∉ G := fun hk => by have := h.b.rep.lt _ hk; omega
  obtain ⟨W, hW⟩ : ∃ W, w.alloc (.cells (actC a).toArray 41) = W := ⟨_, rfl⟩
  have hnl : w.heap.size < W.heap.size := by rw [← hW]; simp
  rw [hW] at hX hb
  have h1 := h.below hb
  have HGL : Hid (∀ k ∈ G, k < W.heap.size) := Lib.hid (fun k hk => h1.b.rep.lt k hk)
  have HT := Lib.hid (fun X (hX : Below w0.heap.size w0 X) => hT.below hX)
  have HBR := Lib.hid (fun X (hX : Below w0.heap.size w0 X) => hB.below hX)
  have HZ := Lib.hid (h1.a.zero (World.block_lt_of_cell? w0 _ (hB 0 (by decide))))
  obtain ⟨hlS, hrS, hoS, hwS⟩ := h1.a.rep.lens
  obtain ⟨lb, tb, cb, FL, FO, FC, hp, rfl⟩ := h1.a.rep
  obtain ⟨lr, tr, cr, GL, GO, GC, hq, rfl⟩ := h1.b.rep
  have hsl := hp.lts
  have hrl := hq.lts
  have hrF : r ∉ sFoot s FL FO FC := fun hk => h1.off r hk (mem_sFoot.2 (.inl rfl))
  have hsG : s ∉ sFoot r GL GO GC := fun hk => h1.off s (mem_sFoot.2 (.inl rfl)) hk
  have HS : Hid (∀ X : World, X.heap[s]? = W.heap[s]? → X.heap[r]? = W.heap[r]? → X.heap[w.heap.size]? = W.heap[w.heap.size]? → (X.cell? ⟨s, 8, none⟩ = some (.pointer (some ⟨lb, 0, none⟩)) ∧ X.cell? ⟨s, 9, none⟩ = some (.pointer (some ⟨tb, 0, none⟩)) ∧ X.cell? ⟨s, 10, none⟩ = some (.pointer (some ⟨cb, 0, none⟩))) ∧ (X.cell? ⟨r, 8, none⟩ = some (.pointer (some ⟨lr, 0, none⟩)) ∧ X.cell? ⟨r, 9, none⟩ = some (.pointer (some ⟨tr, 0, none⟩)) ∧ X.cell? ⟨r, 10, none⟩ = some (.pointer (some ⟨cr, 0, none⟩))) ∧ (X.cell? ⟨w.heap.size, 6, none⟩ = some (.int .u16 a.p.id) ∧ X.cell? ⟨w.heap.size, 26, none⟩ = some (.string ⟨a.sub.1.toArray⟩) ∧ X.cell? ⟨w.heap.size, 27, none⟩ = some (.int .u8 a.sub.2)) ∧ X.rangeAt w.heap.size 2 a.p.cells ∧ X.rangeAt w.heap.size 28 a.m.cells) := Lib.hid (fun X e1 e2 e3 => by
    have p1 := e1.trans hp.hd
    have p2 := e2.trans hq.hd
    have p3 := e3.trans hX
    obtain ⟨-, -, a6, a26, a27⟩ := act_cells p3
    obtain ⟨q2, q28⟩ := act_range p3
    exact ⟨⟨cell_of_row _ _ 8 _ _ _ p1, cell_of_row _ _ 9 _ _ _ p1, cell_of_row _ _ 10 _ _ _ p1⟩, ⟨cell_of_row _ _ 8 _ _ _ p2, cell_of_row _ _ 9 _ _ _ p2, cell_of_row _ _ 10 _ _ _ p2⟩, ⟨a6, a26, a27⟩, q2, q28⟩)
  have HA1 : Hid (∀ X : World, X.heap[w.heap.size]? = W.heap[w.heap.size]? → X.cell? ⟨w.heap.size, 1, none⟩ = some (.int .i64 a.conn)) := Lib.hid (fun X e => (act_cells (e.trans hX)).2.1)
  have a0 := (act_cells hX).1
  have hk0 := ha.k0
  have HP := Lib.hid hp
  have HQ := Lib.hid hq
  have HSD := Lib.hid h1
  have HA := Lib.hid ha
  have HLP := Lib.hid (pk_size' a.p)
  have HNF := Lib.hid hnF
  have HNG := Lib.hid hnG
  have HL16 := Lib.hid hlS
  have HRS := Lib.hid hrS
  have HWS := Lib.hid hwS
  have HRF := Lib.hid hrF
  have HSG := Lib.hid hsG
  have HNL := Lib.hid hnl
  have HSL := Lib.hid hsl
  have HRL := Lib.hid hrl
  clear hp hq h1 hb hX h hT hB ha hnF hnG hlS hrS hoS hwS hrF hsG hsl hrl
  generalize (actC a).toArray = AC at *
  rcases hK with rfl | rfl
  all_goals
    go_enter Tryz.func10, Tryz.ntmps10
    go_upto_region 18 with fail
    refine wp_region_held_drew (S := fun X => (X.cell? ⟨s, 8, none⟩ = some (.pointer (some ⟨lb, 0, none⟩)) ∧ X.cell? ⟨s, 9, none⟩ = some (.pointer (some ⟨tb, 0, none⟩)) ∧ X.cell? ⟨s, 10, none⟩ = some (.pointer (some ⟨cb, 0, none⟩))) ∧ (X.cell? ⟨r, 8, none⟩ = some (.pointer (some ⟨lr, 0, none⟩)) ∧ X.cell? ⟨r, 9, none⟩ = some (.pointer (some ⟨tr, 0, none⟩)) ∧ X.cell? ⟨r, 10, none⟩ = some (.pointer (some ⟨cr, 0, none⟩))) ∧ (X.cell? ⟨w.heap.size, 6, none⟩ = some (.int .u16 a.p.id) ∧ X.cell? ⟨w.heap.size, 26, none⟩ = some (.string ⟨a.sub.1.toArray⟩) ∧ X.cell? ⟨w.heap.size, 27, none⟩ = some (.int .u8 a.sub.2)) ∧ X.rangeAt w.heap.size 2 a.p.cells ∧ X.rangeAt w.heap.size 28 a.m.cells) (by kernel_rfl) (HS.out _ rfl rfl rfl) (fun hHeld => ?_)
    refine tk 0 (v := ?_) ?_ hHeld ?_; rotate_left; · (intro w0 hS0; (try dsimp only at hS0); go_simp; try with_reducible rfl)
    simp only [tks]
    refine tk 1 (v := ?_) ?_ hHeld ?_; rotate_left; · (intro w0 hS0; (try dsimp only at hS0); go_simp; try with_reducible rfl)
    simp only [tks]
    refine tk 2 (v := ?_) ?_ hHeld ?_; rotate_left; · (intro w0 hS0; (try dsimp only at hS0); go_simp; try with_reducible rfl)
    simp only [tks]
    refine tk 3 (v := ?_) ?_ hHeld ?_; rotate_left; · (intro w0 hS0; (try dsimp only at hS0); go_simp; try with_reducible rfl)
    simp only [tks]
    refine tk 4 (v := ?_) ?_ hHeld ?_; rotate_left; · (intro w0 hS0; (try dsimp only at hS0); go_simp; try with_reducible rfl)
    simp only [tks]
    refine tk 5 (v := ?_) ?_ hHeld ?_; rotate_left; · (intro w0 hS0; (try dsimp only at hS0); go_simp; try with_reducible rfl)
    simp only [tks]
    refine tk 6 (v := ?_) ?_ hHeld ?_; rotate_left; · (intro w0 hS0; (try dsimp only at hS0); go_simp; try with_reducible rfl)
    simp only [tks]
    refine tk 7 (v := ?_) ?_ hHeld ?_; rotate_left; · (intro w0 hS0; (try dsimp only at hS0); go_simp; try with_reducible rfl)
    simp only [tks]
    refine tk 8 (v := ?_) ?_ hHeld ?_; rotate_left; · (intro w0 hS0; (try dsimp only at hS0); go_simp; try with_reducible rfl)
    simp only [tks]
    refine tk 9 (v := ?_) ?_ hHeld ?_; rotate_left; · (intro w0 hS0; (try dsimp only at hS0); go_simp; try with_reducible rfl)
    simp only [tks]
    refine tk 11 (v := ?_) ?_ hHeld ?_; rotate_left; · (intro w0 hS0; (try dsimp only at hS0); go_simp; try with_reducible rfl)
    simp only [tks]
    refine tk 12 (v := ?_) ?_ hHeld ?_; rotate_left; · (intro w0 hS0; (try dsimp only at hS0); go_simp; try with_reducible rfl)
    simp only [tks]
    refine tk 13 (v := ?_) ?_ hHeld ?_; rotate_left; · (intro w0 hS0; (try dsimp only at hS0); go_simp; try with_reducible rfl)
    simp only [tks]
    refine tk 14 (v := ?_) ?_ hHeld ?_; rotate_left; · (intro w0 hS0; (try dsimp only at hS0); go_simp; try with_reducible rfl)
    simp only [tks]
    refine tk 15 (v := ?_) ?_ hHeld ?_; rotate_left; · (intro w0 hS0; (try dsimp only at hS0); go_simp; try with_reducible rfl)
    simp only [tks]
    refine tk 16 (v := ?_) ?_ hHeld ?_; rotate_left; · (intro w0 hS0; (try dsimp only at hS0); go_simp; try with_reducible rfl)
    simp only [tks]
    refine tk 17 (v := ?_) ?_ hHeld ?_; rotate_left; · (intro w0 hS0; (try dsimp only at hS0); go_simp; try with_reducible rfl)
    simp only [tks]
    refine tk 18 (v := ?_) ?_ hHeld ?_; rotate_left; · (intro w0 hS0; (try dsimp only at hS0); go_simp; try with_reducible rfl)
    simp only [tks]
    refine tk 19 (v := ?_) ?_ hHeld ?_; rotate_left; · (intro w0 hS0; (try dsimp only at hS0); go_simp; try with_reducible rfl)
    simp only [tks]
    refine tk 20 (v := ?_) ?_ hHeld ?_; rotate_left; · (intro w0 hS0; (try dsimp only at hS0); go_simp; try with_reducible rfl)
    simp only [tks]
    refine wpAnyH_ready (rs := [10]) (by kernel_rfl) (by simp) ?_
    refine AllReadyH.cons rfl (fun K hK => ?_) AllReadyH.nil
    rw [if_pos (by rfl)]
    go_simp
    go_at_call 23
    have hp1 := HP.out.below (Below.refl _ _).drew
    have hs1 := HSD.out.below (Below.refl _ _).drew
    refine (sset_any lb x.l FL a.sub.1 a.sub.2 _ hp1.subs (HT.out _ hs1.a.bel) (by have := HA.out.f; omega) HA.out.q0 (by have := HA.out.q1; omega)).mono ?_
    rintro e w2 ⟨rfl, FL', hr, hu⟩
    obtain ⟨h3, hu3⟩ := hp1.turnL hr hu
    have SD2 := Lib.hid (hs1.ua ⟨lb, tb, cb, _, _, _, h3, rfl⟩ hu3)
    have HQ2 := Lib.hid ((HQ.out.below (Below.refl _ _).drew).mod hu3.1 fun k hk hk' => HSD.out.off k hk' hk)
    have ES := Lib.hid (show w2.heap[s]? = W.heap[s]? from hu.1.block s HSL.out HP.out.sl)
    have ER := Lib.hid (show w2.heap[r]? = W.heap[r]? from hu3.1.block r HRL.out HRF.out)
    have EB := Lib.hid (show w2.heap[w.heap.size]? = W.heap[w.heap.size]? from hu3.1.block w.heap.size HNL.out HNF.out)
    have HSZ := Lib.hid (show W.heap.size ≤ w2.heap.size from hu.1.size)
    clear h3 hu3 hr hu hs1 hp1
    refine hK.out _ _ (HS.out _ ES.out ER.out EB.out) (fun hHeld => ?_)
    refine wpAnyH_ready (rs := [21]) (by kernel_rfl) (by simp) ?_
    refine AllReadyH.cons rfl (fun K hK => ?_) AllReadyH.nil
    rw [if_pos (by rfl)]
    go_simp
    go_at_call 36
    refine (dset_any lr x.l GL a.sub.1 a.sub.2 w2 HQ2.out.subs (by have := HA.out.f; omega) HA.out.q0 (by have := HA.out.q1; omega)).mono ?_
    rintro e w3 ⟨rfl, GL', hr, hu⟩
    obtain ⟨h4, hu4⟩ := HQ2.out.turnL hr hu
    have SD3 := Lib.hid (SD2.out.ub ⟨lr, tr, cr, _, _, _, h4, rfl⟩ hu4)
    have ES3 := Lib.hid (show w3.heap[s]? = W.heap[s]? from (hu4.1.block s (Nat.lt_of_lt_of_le HSL.out HSZ.out) HSG.out).trans ES.out)
    have ER3 := Lib.hid (show w3.heap[r]? = W.heap[r]? from (hu.1.block r (Nat.lt_of_lt_of_le HRL.out HSZ.out) HQ.out.sl).trans ER.out)
    have EB3 := Lib.hid (show w3.heap[w.heap.size]? = W.heap[w.heap.size]? from (hu4.1.block w.heap.size (Nat.lt_of_lt_of_le HNL.out HSZ.out) HNG.out).trans EB.out)
    clear h4 hu4 hr hu
    refine hK.out _ _ (HS.out _ ES3.out ER3.out EB3.out) (fun hHeld => ?_)
    refine tk 22 (v := ?_) ?_ hHeld ?_; rotate_left; · (intro w0 hS0; (try dsimp only at hS0); go_simp; try with_reducible rfl)
    simp only [tks]
    refine tk 23 (v := ?_) ?_ hHeld ?_; rotate_left; · (intro w0 hS0; (try dsimp only at hS0); go_simp; try with_reducible rfl)
    simp only [tks]
    refine wpAnyH_done (by kernel_rfl) ?_ _
    clear hHeld
    go_wp2_with fail
    go_ret
    exact ⟨rfl, _, _, SD3.out⟩
set_option maxRecDepth 100000 in
set_option maxHeartbeats 4000000 in
theorem step_k7 (h : Sd w0 w s r win most x x F G) (ha : ActOk a) (hT : Tabs w0) (hB : Bru w0) (hk : a.kind % 16 = 7) :
    Calls Tryz.prog 10 #[.pointer (some ⟨s, 0, none⟩), .pointer (some ⟨r, 0, none⟩), .agg (actC a).toArray] w fun e w' => StepDone w0 w' s r win most e ({ x with l := delE a.sub.1 x.l }) := by
  have hb := low_alloc w (.cells (actC a).toArray 41)
  have hX := heap_alloc_new w (.cells (actC a).toArray 41)
  have hnF : w.heap.size ∉ F := fun hk => by have := h.a.rep.lt _ hk; omega
  have hnG : w.heap.size ∉ G := fun hk => by have := h.b.rep.lt _ hk; omega
  obtain ⟨W, hW⟩ : ∃ W, w.alloc (.cells (actC a).toArray 41) = W := ⟨_, rfl⟩
  have hnl : w.heap.size < W.heap.size := by rw [← hW]; simp
  rw [hW] at hX hb
  have h1 := h.below hb
  have HGL : Hid (∀ k ∈ G, k < W.heap.size) := Lib.hid (fun k hk => h1.b.rep.lt k hk)
  have HT := Lib.hid (fun X (hX : Below w0.heap.size w0 X) => hT.below hX)
  have HBR := Lib.hid (fun X (hX : Below w0.heap.size w0 X) => hB.below hX)
  have HZ := Lib.hid (h1.a.zero (World.block_lt_of_cell? w0 _ (hB 0 (by decide))))
  obtain ⟨hlS, hrS, hoS, hwS⟩ := h1.a.rep.lens
  obtain ⟨lb, tb, cb, FL, FO, FC, hp, rfl⟩ := h1.a.rep
  obtain ⟨lr, tr, cr, GL, GO, GC, hq, rfl⟩ := h1.b.rep
  have hsl := hp.lts
  have hrl := hq.lts
  have hrF : r ∉ sFoot s FL FO FC := fun hk => h1.off r hk (mem_sFoot.2 (.inl rfl))
  have hsG : s ∉ sFoot r GL GO GC := fun hk => h1.off s (mem_sFoot.2 (.inl rfl)) hk
  have HS : Hid (∀ X : World, X.heap[s]? = W.heap[s]? → X.heap[r]? = W.heap[r]? → X.heap[w.heap.size]? = W.heap[w.heap.size]? → (X.cell? ⟨s, 8, none⟩ = some (.pointer (some ⟨lb, 0, none⟩)) ∧ X.cell? ⟨s, 9, none⟩ = some (.pointer (some ⟨tb, 0, none⟩)) ∧ X.cell? ⟨s, 10, none⟩ = some (.pointer (some ⟨cb, 0, none⟩))) ∧ (X.cell? ⟨r, 8, none⟩ = some (.pointer (some ⟨lr, 0, none⟩)) ∧ X.cell? ⟨r, 9, none⟩ = some (.pointer (some ⟨tr, 0, none⟩)) ∧ X.cell? ⟨r, 10, none⟩ = some (.pointer (some ⟨cr, 0, none⟩))) ∧ (X.cell? ⟨w.heap.size, 6, none⟩ = some (.int .u16 a.p.id) ∧ X.cell? ⟨w.heap.size, 26, none⟩ = some (.string ⟨a.sub.1.toArray⟩) ∧ X.cell? ⟨w.heap.size, 27, none⟩ = some (.int .u8 a.sub.2)) ∧ X.rangeAt w.heap.size 2 a.p.cells ∧ X.rangeAt w.heap.size 28 a.m.cells) := Lib.hid (fun X e1 e2 e3 => by
    have p1 := e1.trans hp.hd
    have p2 := e2.trans hq.hd
    have p3 := e3.trans hX
    obtain ⟨-, -, a6, a26, a27⟩ := act_cells p3
    obtain ⟨q2, q28⟩ := act_range p3
    exact ⟨⟨cell_of_row _ _ 8 _ _ _ p1, cell_of_row _ _ 9 _ _ _ p1, cell_of_row _ _ 10 _ _ _ p1⟩, ⟨cell_of_row _ _ 8 _ _ _ p2, cell_of_row _ _ 9 _ _ _ p2, cell_of_row _ _ 10 _ _ _ p2⟩, ⟨a6, a26, a27⟩, q2, q28⟩)
  have HA1 : Hid (∀ X : World, X.heap[w.heap.size]? = W.heap[w.heap.size]? → X.cell? ⟨w.heap.size, 1, none⟩ = some (.int .i64 a.conn)) := Lib.hid (fun X e => (act_cells (e.trans hX)).2.1)
  have a0 := (act_cells hX).1
  have hk0 := ha.k0
  have HP := Lib.hid hp
  have HQ := Lib.hid hq
  have HSD := Lib.hid h1
  have HA := Lib.hid ha
  have HLP := Lib.hid (pk_size' a.p)
  have HNF := Lib.hid hnF
  have HNG := Lib.hid hnG
  have HL16 := Lib.hid hlS
  have HRS := Lib.hid hrS
  have HWS := Lib.hid hwS
  have HRF := Lib.hid hrF
  have HSG := Lib.hid hsG
  have HNL := Lib.hid hnl
  have HSL := Lib.hid hsl
  have HRL := Lib.hid hrl
  clear hp hq h1 hb hX h hT hB ha hnF hnG hlS hrS hoS hwS hrF hsG hsl hrl
  generalize (actC a).toArray = AC at *
  go_enter Tryz.func10, Tryz.ntmps10
  go_upto_region 20 with fail
  refine wp_region_held_drew (S := fun X => (X.cell? ⟨s, 8, none⟩ = some (.pointer (some ⟨lb, 0, none⟩)) ∧ X.cell? ⟨s, 9, none⟩ = some (.pointer (some ⟨tb, 0, none⟩)) ∧ X.cell? ⟨s, 10, none⟩ = some (.pointer (some ⟨cb, 0, none⟩))) ∧ (X.cell? ⟨r, 8, none⟩ = some (.pointer (some ⟨lr, 0, none⟩)) ∧ X.cell? ⟨r, 9, none⟩ = some (.pointer (some ⟨tr, 0, none⟩)) ∧ X.cell? ⟨r, 10, none⟩ = some (.pointer (some ⟨cr, 0, none⟩))) ∧ (X.cell? ⟨w.heap.size, 6, none⟩ = some (.int .u16 a.p.id) ∧ X.cell? ⟨w.heap.size, 26, none⟩ = some (.string ⟨a.sub.1.toArray⟩) ∧ X.cell? ⟨w.heap.size, 27, none⟩ = some (.int .u8 a.sub.2)) ∧ X.rangeAt w.heap.size 2 a.p.cells ∧ X.rangeAt w.heap.size 28 a.m.cells) (by kernel_rfl) (HS.out _ rfl rfl rfl) (fun hHeld => ?_)
  refine tk 0 (v := ?_) ?_ hHeld ?_; rotate_left; · (intro w0 hS0; (try dsimp only at hS0); go_simp; try with_reducible rfl)
  simp only [tks]
  refine tk 1 (v := ?_) ?_ hHeld ?_; rotate_left; · (intro w0 hS0; (try dsimp only at hS0); go_simp; try with_reducible rfl)
  simp only [tks]
  refine tk 2 (v := ?_) ?_ hHeld ?_; rotate_left; · (intro w0 hS0; (try dsimp only at hS0); go_simp; try with_reducible rfl)
  simp only [tks]
  refine tk 3 (v := ?_) ?_ hHeld ?_; rotate_left; · (intro w0 hS0; (try dsimp only at hS0); go_simp; try with_reducible rfl)
  simp only [tks]
  refine tk 4 (v := ?_) ?_ hHeld ?_; rotate_left; · (intro w0 hS0; (try dsimp only at hS0); go_simp; try with_reducible rfl)
  simp only [tks]
  refine tk 5 (v := ?_) ?_ hHeld ?_; rotate_left; · (intro w0 hS0; (try dsimp only at hS0); go_simp; try with_reducible rfl)
  simp only [tks]
  refine tk 6 (v := ?_) ?_ hHeld ?_; rotate_left; · (intro w0 hS0; (try dsimp only at hS0); go_simp; try with_reducible rfl)
  simp only [tks]
  refine tk 8 (v := ?_) ?_ hHeld ?_; rotate_left; · (intro w0 hS0; (try dsimp only at hS0); go_simp; try with_reducible rfl)
  simp only [tks]
  refine tk 9 (v := ?_) ?_ hHeld ?_; rotate_left; · (intro w0 hS0; (try dsimp only at hS0); go_simp; try with_reducible rfl)
  simp only [tks]
  refine tk 10 (v := ?_) ?_ hHeld ?_; rotate_left; · (intro w0 hS0; (try dsimp only at hS0); go_simp; try with_reducible rfl)
  simp only [tks]
  refine tk 11 (v := ?_) ?_ hHeld ?_; rotate_left; · (intro w0 hS0; (try dsimp only at hS0); go_simp; try with_reducible rfl)
  simp only [tks]
  refine tk 12 (v := ?_) ?_ hHeld ?_; rotate_left; · (intro w0 hS0; (try dsimp only at hS0); go_simp; try with_reducible rfl)
  simp only [tks]
  refine tk 13 (v := ?_) ?_ hHeld ?_; rotate_left; · (intro w0 hS0; (try dsimp only at hS0); go_simp; try with_reducible rfl)
  simp only [tks]
  refine tk 14 (v := ?_) ?_ hHeld ?_; rotate_left; · (intro w0 hS0; (try dsimp only at hS0); go_simp; try with_reducible rfl)
  simp only [tks]
  refine wpAnyH_ready (rs := [7]) (by kernel_rfl) (by simp) ?_
  refine AllReadyH.cons rfl (fun K hK => ?_) AllReadyH.nil
  rw [if_pos (by rfl)]
  go_simp
  go_at_call 37
  have hp1 := HP.out.below (Below.refl _ _).drew
  have hs1 := HSD.out.below (Below.refl _ _).drew
  refine (sdrop_any lb x.l FL a.sub.1 _ hp1.subs).mono ?_
  rintro e w2 ⟨rfl, FL', hr, hu⟩
  obtain ⟨h3, hu3⟩ := hp1.turnL hr hu
  have SD2 := Lib.hid (hs1.ua ⟨lb, tb, cb, _, _, _, h3, rfl⟩ hu3)
  have HQ2 := Lib.hid ((HQ.out.below (Below.refl _ _).drew).mod hu3.1 fun k hk hk' => HSD.out.off k hk' hk)
  have ES := Lib.hid (show w2.heap[s]? = W.heap[s]? from hu.1.block s HSL.out HP.out.sl)
  have ER := Lib.hid (show w2.heap[r]? = W.heap[r]? from hu3.1.block r HRL.out HRF.out)
  have EB := Lib.hid (show w2.heap[w.heap.size]? = W.heap[w.heap.size]? from hu3.1.block w.heap.size HNL.out HNF.out)
  have HSZ := Lib.hid (show W.heap.size ≤ w2.heap.size from hu.1.size)
  clear h3 hu3 hr hu hs1 hp1
  refine hK.out _ _ (HS.out _ ES.out ER.out EB.out) (fun hHeld => ?_)
  refine wpAnyH_ready (rs := [15]) (by kernel_rfl) (by simp) ?_
  refine AllReadyH.cons rfl (fun K hK => ?_) AllReadyH.nil
  rw [if_pos (by rfl)]
  go_simp
  go_at_call 38
  refine (ddrop_any lr x.l GL a.sub.1 w2 HQ2.out.subs).mono ?_
  rintro e w3 ⟨rfl, GL', hr, hu⟩
  obtain ⟨h4, hu4⟩ := HQ2.out.turnL hr hu
  have SD3 := Lib.hid (SD2.out.ub ⟨lr, tr, cr, _, _, _, h4, rfl⟩ hu4)
  have ES3 := Lib.hid (show w3.heap[s]? = W.heap[s]? from (hu4.1.block s (Nat.lt_of_lt_of_le HSL.out HSZ.out) HSG.out).trans ES.out)
  have ER3 := Lib.hid (show w3.heap[r]? = W.heap[r]? from (hu.1.block r (Nat.lt_of_lt_of_le HRL.out HSZ.out) HQ.out.sl).trans ER.out)
  have EB3 := Lib.hid (show w3.heap[w.heap.size]? = W.heap[w.heap.size]? from (hu4.1.block w.heap.size (Nat.lt_of_lt_of_le HNL.out HSZ.out) HNG.out).trans EB.out)
  clear h4 hu4 hr hu
  refine hK.out _ _ (HS.out _ ES3.out ER3.out EB3.out) (fun hHeld => ?_)
  refine tk 16 (v := ?_) ?_ hHeld ?_; rotate_left; · (intro w0 hS0; (try dsimp only at hS0); go_simp; try with_reducible rfl)
  simp only [tks]
  refine tk 17 (v := ?_) ?_ hHeld ?_; rotate_left; · (intro w0 hS0; (try dsimp only at hS0); go_simp; try with_reducible rfl)
  simp only [tks]
  refine wpAnyH_done (by kernel_rfl) ?_ _
  clear hHeld
  go_wp2_with fail
  go_ret
  exact ⟨rfl, _, _, SD3.out⟩
set_option maxRecDepth 100000 in
set_option maxHeartbeats 4000000 in
theorem step_k8 (h : Sd w0 w s r win most x x F G) (ha : ActOk a) (hT : Tabs w0) (hB : Bru w0) {K : Int} (hk : a.kind % 16 = K) (hK : K = 8 ∨ K = 9 ∨ K = 10) :
    Calls Tryz.prog 10 #[.pointer (some ⟨s, 0, none⟩), .pointer (some ⟨r, 0, none⟩), .agg (actC a).toArray] w fun e w' => StepDone w0 w' s r win most e ({ x with o := (putO most a.m x.o).2 }) := by
  have hb := low_alloc w (.cells (actC a).toArray 41)
  have hX := heap_alloc_new w (.cells (actC a).toArray 41)
  have hnF : w.heap.size ∉ F := fun hk => by have := h.a.rep.lt _ hk; omega
  have hnG : w.heap.size ∉ G := fun hk => by have := h.b.rep.lt _ hk; omega
  obtain ⟨W, hW⟩ : ∃ W, w.alloc (.cells (actC a).toArray 41) = W := ⟨_, rfl⟩
  have hnl : w.heap.size < W.heap.size := by rw [← hW]; simp
  rw [hW] at hX hb
  have h1 := h.below hb
  have HGL : Hid (∀ k ∈ G, k < W.heap.size) := Lib.hid (fun k hk => h1.b.rep.lt k hk)
  have HT := Lib.hid (fun X (hX : Below w0.heap.size w0 X) => hT.below hX)
  have HBR := Lib.hid (fun X (hX : Below w0.heap.size w0 X) => hB.below hX)
  have HZ := Lib.hid (h1.a.zero (World.block_lt_of_cell? w0 _ (hB 0 (by decide))))
  obtain ⟨hlS, hrS, hoS, hwS⟩ := h1.a.rep.lens
  obtain ⟨lb, tb, cb, FL, FO, FC, hp, rfl⟩ := h1.a.rep
  obtain ⟨lr, tr, cr, GL, GO, GC, hq, rfl⟩ := h1.b.rep
  have hsl := hp.lts
  have hrl := hq.lts
  have hrF : r ∉ sFoot s FL FO FC := fun hk => h1.off r hk (mem_sFoot.2 (.inl rfl))
  have hsG : s ∉ sFoot r GL GO GC := fun hk => h1.off s (mem_sFoot.2 (.inl rfl)) hk
  have HS : Hid (∀ X : World, X.heap[s]? = W.heap[s]? → X.heap[r]? = W.heap[r]? → X.heap[w.heap.size]? = W.heap[w.heap.size]? → (X.cell? ⟨s, 8, none⟩ = some (.pointer (some ⟨lb, 0, none⟩)) ∧ X.cell? ⟨s, 9, none⟩ = some (.pointer (some ⟨tb, 0, none⟩)) ∧ X.cell? ⟨s, 10, none⟩ = some (.pointer (some ⟨cb, 0, none⟩))) ∧ (X.cell? ⟨r, 8, none⟩ = some (.pointer (some ⟨lr, 0, none⟩)) ∧ X.cell? ⟨r, 9, none⟩ = some (.pointer (some ⟨tr, 0, none⟩)) ∧ X.cell? ⟨r, 10, none⟩ = some (.pointer (some ⟨cr, 0, none⟩))) ∧ (X.cell? ⟨w.heap.size, 6, none⟩ = some (.int .u16 a.p.id) ∧ X.cell? ⟨w.heap.size, 26, none⟩ = some (.string ⟨a.sub.1.toArray⟩) ∧ X.cell? ⟨w.heap.size, 27, none⟩ = some (.int .u8 a.sub.2)) ∧ X.rangeAt w.heap.size 2 a.p.cells ∧ X.rangeAt w.heap.size 28 a.m.cells) := Lib.hid (fun X e1 e2 e3 => by
    have p1 := e1.trans hp.hd
    have p2 := e2.trans hq.hd
    have p3 := e3.trans hX
    obtain ⟨-, -, a6, a26, a27⟩ := act_cells p3
    obtain ⟨q2, q28⟩ := act_range p3
    exact ⟨⟨cell_of_row _ _ 8 _ _ _ p1, cell_of_row _ _ 9 _ _ _ p1, cell_of_row _ _ 10 _ _ _ p1⟩, ⟨cell_of_row _ _ 8 _ _ _ p2, cell_of_row _ _ 9 _ _ _ p2, cell_of_row _ _ 10 _ _ _ p2⟩, ⟨a6, a26, a27⟩, q2, q28⟩)
  have HA1 : Hid (∀ X : World, X.heap[w.heap.size]? = W.heap[w.heap.size]? → X.cell? ⟨w.heap.size, 1, none⟩ = some (.int .i64 a.conn)) := Lib.hid (fun X e => (act_cells (e.trans hX)).2.1)
  have a0 := (act_cells hX).1
  have hk0 := ha.k0
  have HP := Lib.hid hp
  have HQ := Lib.hid hq
  have HSD := Lib.hid h1
  have HA := Lib.hid ha
  have HLP := Lib.hid (pk_size' a.p)
  have HNF := Lib.hid hnF
  have HNG := Lib.hid hnG
  have HL16 := Lib.hid hlS
  have HRS := Lib.hid hrS
  have HWS := Lib.hid hwS
  have HRF := Lib.hid hrF
  have HSG := Lib.hid hsG
  have HNL := Lib.hid hnl
  have HSL := Lib.hid hsl
  have HRL := Lib.hid hrl
  clear hp hq h1 hb hX h hT hB ha hnF hnG hlS hrS hoS hwS hrF hsG hsl hrl
  generalize (actC a).toArray = AC at *
  rcases hK with rfl | rfl | rfl
  all_goals
    go_enter Tryz.func10, Tryz.ntmps10
    go_upto_region 24 with fail
    refine wp_region_held_drew (S := fun X => (X.cell? ⟨s, 8, none⟩ = some (.pointer (some ⟨lb, 0, none⟩)) ∧ X.cell? ⟨s, 9, none⟩ = some (.pointer (some ⟨tb, 0, none⟩)) ∧ X.cell? ⟨s, 10, none⟩ = some (.pointer (some ⟨cb, 0, none⟩))) ∧ (X.cell? ⟨r, 8, none⟩ = some (.pointer (some ⟨lr, 0, none⟩)) ∧ X.cell? ⟨r, 9, none⟩ = some (.pointer (some ⟨tr, 0, none⟩)) ∧ X.cell? ⟨r, 10, none⟩ = some (.pointer (some ⟨cr, 0, none⟩))) ∧ (X.cell? ⟨w.heap.size, 6, none⟩ = some (.int .u16 a.p.id) ∧ X.cell? ⟨w.heap.size, 26, none⟩ = some (.string ⟨a.sub.1.toArray⟩) ∧ X.cell? ⟨w.heap.size, 27, none⟩ = some (.int .u8 a.sub.2)) ∧ X.rangeAt w.heap.size 2 a.p.cells ∧ X.rangeAt w.heap.size 28 a.m.cells) (by kernel_rfl) (HS.out _ rfl rfl rfl) (fun hHeld => ?_)
    refine tk 0 (v := ?_) ?_ hHeld ?_; rotate_left; · (intro w0 hS0; (try dsimp only at hS0); go_simp; try with_reducible rfl)
    simp only [tks]
    refine tk 1 (v := ?_) ?_ hHeld ?_; rotate_left; · (intro w0 hS0; (try dsimp only at hS0); go_simp; try with_reducible rfl)
    simp only [tks]
    refine tk 2 (v := ?_) ?_ hHeld ?_; rotate_left; · (intro w0 hS0; (try dsimp only at hS0); go_simp; try with_reducible rfl)
    simp only [tks]
    refine tk 3 (v := ?_) ?_ hHeld ?_; rotate_left; · (intro w0 hS0; (try dsimp only at hS0); go_simp; try with_reducible rfl)
    simp only [tks]
    refine tk 4 (v := ?_) ?_ hHeld ?_; rotate_left; · (intro w0 hS0; (try dsimp only at hS0); go_simp; try with_reducible rfl)
    simp only [tks]
    refine tk 5 (v := .agg a.m.cells.toArray) (fun w0 hS0 => exec_load_row rfl rfl hS0.2.2.2.2 Tryz.underlying34 rfl (by kernel_rfl)) hHeld ?_
    simp only [tks]
    refine tk 7 (v := ?_) ?_ hHeld ?_; rotate_left; · (intro w0 hS0; (try dsimp only at hS0); go_simp; try with_reducible rfl)
    simp only [tks]
    refine tk 8 (v := ?_) ?_ hHeld ?_; rotate_left; · (intro w0 hS0; (try dsimp only at hS0); go_simp; try with_reducible rfl)
    simp only [tks]
    refine tk 9 (v := ?_) ?_ hHeld ?_; rotate_left; · (intro w0 hS0; (try dsimp only at hS0); go_simp; try with_reducible rfl)
    simp only [tks]
    refine tk 10 (v := ?_) ?_ hHeld ?_; rotate_left; · (intro w0 hS0; (try dsimp only at hS0); go_simp; try with_reducible rfl)
    simp only [tks]
    refine tk 11 (v := ?_) ?_ hHeld ?_; rotate_left; · (intro w0 hS0; (try dsimp only at hS0); go_simp; try with_reducible rfl)
    simp only [tks]
    refine tk 12 (v := .agg a.m.cells.toArray) (fun w0 hS0 => exec_load_row rfl rfl hS0.2.2.2.2 Tryz.underlying34 rfl (by kernel_rfl)) hHeld ?_
    simp only [tks]
    refine wpAnyH_ready (rs := [6]) (by kernel_rfl) (by simp) ?_
    refine AllReadyH.cons rfl (fun K hK => ?_) AllReadyH.nil
    rw [if_pos (by rfl)]
    go_simp
    go_at_call 24
    have hp1 := HP.out.below (Below.refl _ _).drew
    have hs1 := HSD.out.below (Below.refl _ _).drew
    refine (oput_any tb win most x.o FO a.m _ hp1.out (HT.out _ hs1.a.bel) (by have := HA.out.ms; omega) HA.out.mq).mono ?_
    rintro e w2 ⟨rfl, FO', hr, hu⟩
    obtain ⟨h3, hu3⟩ := hp1.turnO hr hu
    have SD2 := Lib.hid (hs1.ua ⟨lb, tb, cb, _, _, _, h3, rfl⟩ hu3)
    have HQ2 := Lib.hid ((HQ.out.below (Below.refl _ _).drew).mod hu3.1 fun k hk hk' => HSD.out.off k hk' hk)
    have ES := Lib.hid (show w2.heap[s]? = W.heap[s]? from hu.1.block s HSL.out HP.out.so)
    have ER := Lib.hid (show w2.heap[r]? = W.heap[r]? from hu3.1.block r HRL.out HRF.out)
    have EB := Lib.hid (show w2.heap[w.heap.size]? = W.heap[w.heap.size]? from hu3.1.block w.heap.size HNL.out HNF.out)
    have HSZ := Lib.hid (show W.heap.size ≤ w2.heap.size from hu.1.size)
    clear h3 hu3 hr hu hs1 hp1
    refine hK.out _ _ (HS.out _ ES.out ER.out EB.out) (fun hHeld => ?_)
    refine wpAnyH_ready (rs := [13]) (by kernel_rfl) (by simp) ?_
    refine AllReadyH.cons rfl (fun K hK => ?_) AllReadyH.nil
    rw [if_pos (by rfl)]
    go_simp
    go_at_call 39
    refine (dput_any tr win most x.o GO a.m w2 HQ2.out.out (by have := HA.out.ms; omega) HA.out.mq).mono ?_
    rintro e w3 ⟨rfl, GO', hr, hu⟩
    obtain ⟨h4, hu4⟩ := HQ2.out.turnO hr hu
    have SD3 := Lib.hid (SD2.out.ub ⟨lr, tr, cr, _, _, _, h4, rfl⟩ hu4)
    have ES3 := Lib.hid (show w3.heap[s]? = W.heap[s]? from (hu4.1.block s (Nat.lt_of_lt_of_le HSL.out HSZ.out) HSG.out).trans ES.out)
    have ER3 := Lib.hid (show w3.heap[r]? = W.heap[r]? from (hu.1.block r (Nat.lt_of_lt_of_le HRL.out HSZ.out) HQ.out.so).trans ER.out)
    have EB3 := Lib.hid (show w3.heap[w.heap.size]? = W.heap[w.heap.size]? from (hu4.1.block w.heap.size (Nat.lt_of_lt_of_le HNL.out HSZ.out) HNG.out).trans EB.out)
    clear h4 hu4 hr hu
    refine hK.out _ _ (HS.out _ ES3.out ER3.out EB3.out) (fun hHeld => ?_)
    refine tk 14 (v := ?_) ?_ hHeld ?_; rotate_left; · (intro w0 hS0; (try dsimp only at hS0); go_simp; try with_reducible rfl)
    simp only [tks]
    refine tk 15 (v := ?_) ?_ hHeld ?_; rotate_left; · (intro w0 hS0; (try dsimp only at hS0); go_simp; try with_reducible rfl)
    simp only [tks]
    refine wpAnyH_done (by kernel_rfl) ?_ _
    clear hHeld
    go_wp2_with fail
    go_ret
    exact ⟨rfl, _, _, SD3.out⟩
set_option maxRecDepth 100000 in
set_option maxHeartbeats 4000000 in
theorem step_k11 (h : Sd w0 w s r win most x x F G) (ha : ActOk a) (hT : Tabs w0) (hB : Bru w0) (hk : a.kind % 16 = 11) :
    Calls Tryz.prog 10 #[.pointer (some ⟨s, 0, none⟩), .pointer (some ⟨r, 0, none⟩), .agg (actC a).toArray] w fun e w' => StepDone w0 w' s r win most e ({ x with o := (pumpO win x.o.wait x.o.row).2 }) := by
  have hb := low_alloc w (.cells (actC a).toArray 41)
  have hX := heap_alloc_new w (.cells (actC a).toArray 41)
  have hnF : w.heap.size ∉ F := fun hk => by have := h.a.rep.lt _ hk; omega
  have hnG : w.heap.size ∉ G := fun hk => by have := h.b.rep.lt _ hk; omega
  obtain ⟨W, hW⟩ : ∃ W, w.alloc (.cells (actC a).toArray 41) = W := ⟨_, rfl⟩
  have hnl : w.heap.size < W.heap.size := by rw [← hW]; simp
  rw [hW] at hX hb
  have h1 := h.below hb
  have HGL : Hid (∀ k ∈ G, k < W.heap.size) := Lib.hid (fun k hk => h1.b.rep.lt k hk)
  have HT := Lib.hid (fun X (hX : Below w0.heap.size w0 X) => hT.below hX)
  have HBR := Lib.hid (fun X (hX : Below w0.heap.size w0 X) => hB.below hX)
  have HZ := Lib.hid (h1.a.zero (World.block_lt_of_cell? w0 _ (hB 0 (by decide))))
  obtain ⟨hlS, hrS, hoS, hwS⟩ := h1.a.rep.lens
  obtain ⟨lb, tb, cb, FL, FO, FC, hp, rfl⟩ := h1.a.rep
  obtain ⟨lr, tr, cr, GL, GO, GC, hq, rfl⟩ := h1.b.rep
  have hsl := hp.lts
  have hrl := hq.lts
  have hrF : r ∉ sFoot s FL FO FC := fun hk => h1.off r hk (mem_sFoot.2 (.inl rfl))
  have hsG : s ∉ sFoot r GL GO GC := fun hk => h1.off s (mem_sFoot.2 (.inl rfl)) hk
  have HS : Hid (∀ X : World, X.heap[s]? = W.heap[s]? → X.heap[r]? = W.heap[r]? → X.heap[w.heap.size]? = W.heap[w.heap.size]? → (X.cell? ⟨s, 8, none⟩ = some (.pointer (some ⟨lb, 0, none⟩)) ∧ X.cell? ⟨s, 9, none⟩ = some (.pointer (some ⟨tb, 0, none⟩)) ∧ X.cell? ⟨s, 10, none⟩ = some (.pointer (some ⟨cb, 0, none⟩))) ∧ (X.cell? ⟨r, 8, none⟩ = some (.pointer (some ⟨lr, 0, none⟩)) ∧ X.cell? ⟨r, 9, none⟩ = some (.pointer (some ⟨tr, 0, none⟩)) ∧ X.cell? ⟨r, 10, none⟩ = some (.pointer (some ⟨cr, 0, none⟩))) ∧ (X.cell? ⟨w.heap.size, 6, none⟩ = some (.int .u16 a.p.id) ∧ X.cell? ⟨w.heap.size, 26, none⟩ = some (.string ⟨a.sub.1.toArray⟩) ∧ X.cell? ⟨w.heap.size, 27, none⟩ = some (.int .u8 a.sub.2)) ∧ X.rangeAt w.heap.size 2 a.p.cells ∧ X.rangeAt w.heap.size 28 a.m.cells) := Lib.hid (fun X e1 e2 e3 => by
    have p1 := e1.trans hp.hd
    have p2 := e2.trans hq.hd
    have p3 := e3.trans hX
    obtain ⟨-, -, a6, a26, a27⟩ := act_cells p3
    obtain ⟨q2, q28⟩ := act_range p3
    exact ⟨⟨cell_of_row _ _ 8 _ _ _ p1, cell_of_row _ _ 9 _ _ _ p1, cell_of_row _ _ 10 _ _ _ p1⟩, ⟨cell_of_row _ _ 8 _ _ _ p2, cell_of_row _ _ 9 _ _ _ p2, cell_of_row _ _ 10 _ _ _ p2⟩, ⟨a6, a26, a27⟩, q2, q28⟩)
  have HA1 : Hid (∀ X : World, X.heap[w.heap.size]? = W.heap[w.heap.size]? → X.cell? ⟨w.heap.size, 1, none⟩ = some (.int .i64 a.conn)) := Lib.hid (fun X e => (act_cells (e.trans hX)).2.1)
  have a0 := (act_cells hX).1
  have hk0 := ha.k0
  have HP := Lib.hid hp
  have HQ := Lib.hid hq
  have HSD := Lib.hid h1
  have HA := Lib.hid ha
  have HLP := Lib.hid (pk_size' a.p)
  have HNF := Lib.hid hnF
  have HNG := Lib.hid hnG
  have HL16 := Lib.hid hlS
  have HRS := Lib.hid hrS
  have HWS := Lib.hid hwS
  have HRF := Lib.hid hrF
  have HSG := Lib.hid hsG
  have HNL := Lib.hid hnl
  have HSL := Lib.hid hsl
  have HRL := Lib.hid hrl
  clear hp hq h1 hb hX h hT hB ha hnF hnG hlS hrS hoS hwS hrF hsG hsl hrl
  generalize (actC a).toArray = AC at *
  go_enter Tryz.func10, Tryz.ntmps10
  have HSB := Lib.hid (pumpO_subs win x.o.wait x.o.row)
  have HPL := Lib.hid (pump_len win x.o.wait x.o.row)
  go_upto_region 26 with fail
  refine wp_region_held_drew (S := fun X => (X.cell? ⟨s, 8, none⟩ = some (.pointer (some ⟨lb, 0, none⟩)) ∧ X.cell? ⟨s, 9, none⟩ = some (.pointer (some ⟨tb, 0, none⟩)) ∧ X.cell? ⟨s, 10, none⟩ = some (.pointer (some ⟨cb, 0, none⟩))) ∧ (X.cell? ⟨r, 8, none⟩ = some (.pointer (some ⟨lr, 0, none⟩)) ∧ X.cell? ⟨r, 9, none⟩ = some (.pointer (some ⟨tr, 0, none⟩)) ∧ X.cell? ⟨r, 10, none⟩ = some (.pointer (some ⟨cr, 0, none⟩))) ∧ (X.cell? ⟨w.heap.size, 6, none⟩ = some (.int .u16 a.p.id) ∧ X.cell? ⟨w.heap.size, 26, none⟩ = some (.string ⟨a.sub.1.toArray⟩) ∧ X.cell? ⟨w.heap.size, 27, none⟩ = some (.int .u8 a.sub.2)) ∧ X.rangeAt w.heap.size 2 a.p.cells ∧ X.rangeAt w.heap.size 28 a.m.cells) (by kernel_rfl) (HS.out _ rfl rfl rfl) (fun hHeld => ?_)
  refine tk 0 (v := ?_) ?_ hHeld ?_; rotate_left; · (intro w0 hS0; (try dsimp only at hS0); go_simp; try with_reducible rfl)
  simp only [tks]
  refine tk 1 (v := ?_) ?_ hHeld ?_; rotate_left; · (intro w0 hS0; (try dsimp only at hS0); go_simp; try with_reducible rfl)
  simp only [tks]
  refine tk 2 (v := ?_) ?_ hHeld ?_; rotate_left; · (intro w0 hS0; (try dsimp only at hS0); go_simp; try with_reducible rfl)
  simp only [tks]
  refine tk 3 (v := ?_) ?_ hHeld ?_; rotate_left; · (intro w0 hS0; (try dsimp only at hS0); go_simp; try with_reducible rfl)
  simp only [tks]
  refine tk 5 (v := ?_) ?_ hHeld ?_; rotate_left; · (intro w0 hS0; (try dsimp only at hS0); go_simp; try with_reducible rfl)
  simp only [tks]
  refine tk 6 (v := ?_) ?_ hHeld ?_; rotate_left; · (intro w0 hS0; (try dsimp only at hS0); go_simp; try with_reducible rfl)
  simp only [tks]
  refine tk 7 (v := ?_) ?_ hHeld ?_; rotate_left; · (intro w0 hS0; (try dsimp only at hS0); go_simp; try with_reducible rfl)
  simp only [tks]
  refine tk 8 (v := ?_) ?_ hHeld ?_; rotate_left; · (intro w0 hS0; (try dsimp only at hS0); go_simp; try with_reducible rfl)
  simp only [tks]
  refine wpAnyH_ready (rs := [4]) (by kernel_rfl) (by simp) ?_
  refine AllReadyH.cons rfl (fun K hK => ?_) AllReadyH.nil
  rw [if_pos (by rfl)]
  go_simp
  go_at_call 41
  have hp1 := HP.out.below (Below.refl _ _).drew
  have hs1 := HSD.out.below (Below.refl _ _).drew
  refine (pump_any tb win most x.o FO _ hp1.out (HBR.out _ hs1.a.bel) (fun h => HZ.out (mem_sFoot.2 (.inr (.inr (.inl h)))))).mono ?_
  rintro e w2 ⟨v, FO', rfl, ho, hr, hu, -⟩
  obtain ⟨h3, hu3⟩ := hp1.turnO hr hu
  have SD2 := Lib.hid (hs1.ua ⟨lb, tb, cb, _, _, _, h3, rfl⟩ hu3)
  have HQ2 := Lib.hid ((HQ.out.below (Below.refl _ _).drew).mod hu3.1 fun k hk hk' => HSD.out.off k hk' hk)
  have ES := Lib.hid (show w2.heap[s]? = W.heap[s]? from hu.1.block s HSL.out HP.out.so)
  have ER := Lib.hid (show w2.heap[r]? = W.heap[r]? from hu3.1.block r HRL.out HRF.out)
  have EB := Lib.hid (show w2.heap[w.heap.size]? = W.heap[w.heap.size]? from hu3.1.block w.heap.size HNL.out HNF.out)
  have HSZ := Lib.hid (show W.heap.size ≤ w2.heap.size from hu.1.size)
  obtain ⟨va, vc, rfl, -, -, -⟩ := ownsRow_row ho
  have HO := Lib.hid ho
  clear ho
  clear h3 hu3 hr hu hs1 hp1
  refine hK.out _ _ (HS.out _ ES.out ER.out EB.out) (fun hHeld => ?_)
  refine wpAnyH_ready (rs := [9]) (by kernel_rfl) (by simp) ?_
  refine AllReadyH.cons rfl (fun K hK => ?_) AllReadyH.nil
  rw [if_pos (by rfl)]
  go_simp
  go_at_call 42
  refine (dpump_any tr win most x.o GO w2 HQ2.out.out).mono ?_
  rintro e w3 ⟨v, GO', rfl, ho, hr, hu, -⟩
  obtain ⟨h4, hu4⟩ := HQ2.out.turnO hr hu
  have SD3 := Lib.hid (SD2.out.ub ⟨lr, tr, cr, _, _, _, h4, rfl⟩ hu4)
  have ES3 := Lib.hid (show w3.heap[s]? = W.heap[s]? from (hu4.1.block s (Nat.lt_of_lt_of_le HSL.out HSZ.out) HSG.out).trans ES.out)
  have ER3 := Lib.hid (show w3.heap[r]? = W.heap[r]? from (hu.1.block r (Nat.lt_of_lt_of_le HRL.out HSZ.out) HQ.out.so).trans ER.out)
  have EB3 := Lib.hid (show w3.heap[w.heap.size]? = W.heap[w.heap.size]? from (hu4.1.block w.heap.size (Nat.lt_of_lt_of_le HNL.out HSZ.out) HNG.out).trans EB.out)
  have HO3 := Lib.hid (row_keep HO.out hu4 HGL.out)
  obtain ⟨vb, vd, rfl, hrw2, -, -⟩ := ownsRow_row ho
  obtain ⟨_, _, e3, hrw1, -, -⟩ := ownsRow_row HO3.out
  cases e3
  have HR1 := Lib.hid hrw1
  have HR2 := Lib.hid hrw2
  clear ho hrw1 hrw2
  clear h4 hu4 hr hu
  refine hK.out _ _ (HS.out _ ES3.out ER3.out EB3.out) (fun hHeld => ?_)
  refine wpAnyH_ready (rs := [10]) (by kernel_rfl) (by simp) ?_
  refine AllReadyH.cons rfl (fun K hK => ?_) AllReadyH.nil
  rw [if_pos (by rfl)]
  go_simp
  go_at_call 40
  refine (dsameall_any (pumpO win x.o.wait x.o.row).1 va vb vc vd w3 HR1.out HR2.out HSB.out (by have := HPL.out.1; have := HWS.out; omega)).mono ?_
  rintro e w4 ⟨rfl, hk4⟩
  have SD4 := Lib.hid (SD3.out.below hk4)
  refine hK.out _ _ (HS.out _ ((hk4.block s (Array.getElem?_eq_some_iff.1 (ES3.out.trans (Array.getElem?_eq_getElem HSL.out))).1).trans ES3.out) ((hk4.block r (Array.getElem?_eq_some_iff.1 (ER3.out.trans (Array.getElem?_eq_getElem HRL.out))).1).trans ER3.out) ((hk4.block w.heap.size (Array.getElem?_eq_some_iff.1 (EB3.out.trans (Array.getElem?_eq_getElem HNL.out))).1).trans EB3.out)) (fun hHeld => ?_)
  clear hk4
  refine tk 11 (v := ?_) ?_ hHeld ?_; rotate_left; · (intro w0 hS0; (try dsimp only at hS0); go_simp; try with_reducible rfl)
  simp only [tks]
  refine wpAnyH_done (by kernel_rfl) ?_ _
  clear hHeld
  go_wp2_with fail
  go_ret
  exact ⟨rfl, _, _, SD4.out⟩
set_option maxRecDepth 100000 in
set_option maxHeartbeats 4000000 in
theorem step_k12 (h : Sd w0 w s r win most x x F G) (ha : ActOk a) (hT : Tabs w0) (hB : Bru w0) (hk : a.kind % 16 = 12) :
    Calls Tryz.prog 10 #[.pointer (some ⟨s, 0, none⟩), .pointer (some ⟨r, 0, none⟩), .agg (actC a).toArray] w fun e w' => StepDone w0 w' s r win most e ({ x with o := (ackO a.p.ty a.p.id x.o).2 }) := by
  have hb := low_alloc w (.cells (actC a).toArray 41)
  have hX := heap_alloc_new w (.cells (actC a).toArray 41)
  have hnF : w.heap.size ∉ F := fun hk => by have := h.a.rep.lt _ hk; omega
  have hnG : w.heap.size ∉ G := fun hk => by have := h.b.rep.lt _ hk; omega
  obtain ⟨W, hW⟩ : ∃ W, w.alloc (.cells (actC a).toArray 41) = W := ⟨_, rfl⟩
  have hnl : w.heap.size < W.heap.size := by rw [← hW]; simp
  rw [hW] at hX hb
  have h1 := h.below hb
  have HGL : Hid (∀ k ∈ G, k < W.heap.size) := Lib.hid (fun k hk => h1.b.rep.lt k hk)
  have HT := Lib.hid (fun X (hX : Below w0.heap.size w0 X) => hT.below hX)
  have HBR := Lib.hid (fun X (hX : Below w0.heap.size w0 X) => hB.below hX)
  have HZ := Lib.hid (h1.a.zero (World.block_lt_of_cell? w0 _ (hB 0 (by decide))))
  obtain ⟨hlS, hrS, hoS, hwS⟩ := h1.a.rep.lens
  obtain ⟨lb, tb, cb, FL, FO, FC, hp, rfl⟩ := h1.a.rep
  obtain ⟨lr, tr, cr, GL, GO, GC, hq, rfl⟩ := h1.b.rep
  have hsl := hp.lts
  have hrl := hq.lts
  have hrF : r ∉ sFoot s FL FO FC := fun hk => h1.off r hk (mem_sFoot.2 (.inl rfl))
  have hsG : s ∉ sFoot r GL GO GC := fun hk => h1.off s (mem_sFoot.2 (.inl rfl)) hk
  have HS : Hid (∀ X : World, X.heap[s]? = W.heap[s]? → X.heap[r]? = W.heap[r]? → X.heap[w.heap.size]? = W.heap[w.heap.size]? → (X.cell? ⟨s, 8, none⟩ = some (.pointer (some ⟨lb, 0, none⟩)) ∧ X.cell? ⟨s, 9, none⟩ = some (.pointer (some ⟨tb, 0, none⟩)) ∧ X.cell? ⟨s, 10, none⟩ = some (.pointer (some ⟨cb, 0, none⟩))) ∧ (X.cell? ⟨r, 8, none⟩ = some (.pointer (some ⟨lr, 0, none⟩)) ∧ X.cell? ⟨r, 9, none⟩ = some (.pointer (some ⟨tr, 0, none⟩)) ∧ X.cell? ⟨r, 10, none⟩ = some (.pointer (some ⟨cr, 0, none⟩))) ∧ (X.cell? ⟨w.heap.size, 6, none⟩ = some (.int .u16 a.p.id) ∧ X.cell? ⟨w.heap.size, 26, none⟩ = some (.string ⟨a.sub.1.toArray⟩) ∧ X.cell? ⟨w.heap.size, 27, none⟩ = some (.int .u8 a.sub.2)) ∧ X.rangeAt w.heap.size 2 a.p.cells ∧ X.rangeAt w.heap.size 28 a.m.cells) := Lib.hid (fun X e1 e2 e3 => by
    have p1 := e1.trans hp.hd
    have p2 := e2.trans hq.hd
    have p3 := e3.trans hX
    obtain ⟨-, -, a6, a26, a27⟩ := act_cells p3
    obtain ⟨q2, q28⟩ := act_range p3
    exact ⟨⟨cell_of_row _ _ 8 _ _ _ p1, cell_of_row _ _ 9 _ _ _ p1, cell_of_row _ _ 10 _ _ _ p1⟩, ⟨cell_of_row _ _ 8 _ _ _ p2, cell_of_row _ _ 9 _ _ _ p2, cell_of_row _ _ 10 _ _ _ p2⟩, ⟨a6, a26, a27⟩, q2, q28⟩)
  have HA1 : Hid (∀ X : World, X.heap[w.heap.size]? = W.heap[w.heap.size]? → X.cell? ⟨w.heap.size, 1, none⟩ = some (.int .i64 a.conn)) := Lib.hid (fun X e => (act_cells (e.trans hX)).2.1)
  have a0 := (act_cells hX).1
  have hk0 := ha.k0
  have HP := Lib.hid hp
  have HQ := Lib.hid hq
  have HSD := Lib.hid h1
  have HA := Lib.hid ha
  have HLP := Lib.hid (pk_size' a.p)
  have HNF := Lib.hid hnF
  have HNG := Lib.hid hnG
  have HL16 := Lib.hid hlS
  have HRS := Lib.hid hrS
  have HWS := Lib.hid hwS
  have HRF := Lib.hid hrF
  have HSG := Lib.hid hsG
  have HNL := Lib.hid hnl
  have HSL := Lib.hid hsl
  have HRL := Lib.hid hrl
  clear hp hq h1 hb hX h hT hB ha hnF hnG hlS hrS hoS hwS hrF hsG hsl hrl
  generalize (actC a).toArray = AC at *
  go_enter Tryz.func10, Tryz.ntmps10
  have HAR := Lib.hid (ackO_rows a.p.ty a.p.id x.o)
  obtain ⟨⟨⟨pks, ok⟩, o'⟩, hak⟩ : ∃ q, ackO a.p.ty a.p.id x.o = q := ⟨_, rfl⟩
  have HAK := Lib.hid hak
  rw [hak] at HAR ⊢
  clear hak
  dsimp only at HAR ⊢
  go_upto_region 28 with fail
  refine wp_region_held_drew (S := fun X => (X.cell? ⟨s, 8, none⟩ = some (.pointer (some ⟨lb, 0, none⟩)) ∧ X.cell? ⟨s, 9, none⟩ = some (.pointer (some ⟨tb, 0, none⟩)) ∧ X.cell? ⟨s, 10, none⟩ = some (.pointer (some ⟨cb, 0, none⟩))) ∧ (X.cell? ⟨r, 8, none⟩ = some (.pointer (some ⟨lr, 0, none⟩)) ∧ X.cell? ⟨r, 9, none⟩ = some (.pointer (some ⟨tr, 0, none⟩)) ∧ X.cell? ⟨r, 10, none⟩ = some (.pointer (some ⟨cr, 0, none⟩))) ∧ (X.cell? ⟨w.heap.size, 6, none⟩ = some (.int .u16 a.p.id) ∧ X.cell? ⟨w.heap.size, 26, none⟩ = some (.string ⟨a.sub.1.toArray⟩) ∧ X.cell? ⟨w.heap.size, 27, none⟩ = some (.int .u8 a.sub.2)) ∧ X.rangeAt w.heap.size 2 a.p.cells ∧ X.rangeAt w.heap.size 28 a.m.cells) (by kernel_rfl) (HS.out _ rfl rfl rfl) (fun hHeld => ?_)
  refine tk 0 (v := ?_) ?_ hHeld ?_; rotate_left; · (intro w0 hS0; (try dsimp only at hS0); go_simp; try with_reducible rfl)
  simp only [tks]
  refine tk 1 (v := ?_) ?_ hHeld ?_; rotate_left; · (intro w0 hS0; (try dsimp only at hS0); go_simp; try with_reducible rfl)
  simp only [tks]
  refine tk 2 (v := ?_) ?_ hHeld ?_; rotate_left; · (intro w0 hS0; (try dsimp only at hS0); go_simp; try with_reducible rfl)
  simp only [tks]
  refine tk 3 (v := ?_) ?_ hHeld ?_; rotate_left; · (intro w0 hS0; (try dsimp only at hS0); go_simp; try with_reducible rfl)
  simp only [tks]
  refine tk 4 (v := ?_) ?_ hHeld ?_; rotate_left; · (intro w0 hS0; (try dsimp only at hS0); go_simp; try with_reducible rfl)
  simp only [tks]
  refine tk 5 (v := .agg a.p.cells.toArray) (fun w0 hS0 => exec_load_row rfl rfl hS0.2.2.2.1 Tryz.underlying37 rfl HLP.out) hHeld ?_
  simp only [tks]
  refine wpAnyH_ready (rs := [6]) (by kernel_rfl) (by simp) ?_
  refine AllReadyH.cons rfl (fun K hK => ?_) AllReadyH.nil
  rw [if_pos (by rfl)]
  go_simp
  go_at_call 43
  have hack := ack_any tb win most x.o FO a.p W.drew (HP.out.below (Below.refl _ _).drew).out
  rw [HAK.out] at hack
  have HACK := Lib.hid hack
  clear hack
  have hp1 := HP.out.below (Below.refl _ _).drew
  have hs1 := HSD.out.below (Below.refl _ _).drew
  refine (HACK.out).mono ?_
  rintro e w2 ⟨v, FO', rfl, ho, hr, hu, -⟩
  obtain ⟨h3, hu3⟩ := hp1.turnO hr hu
  have SD2 := Lib.hid (hs1.ua ⟨lb, tb, cb, _, _, _, h3, rfl⟩ hu3)
  have HQ2 := Lib.hid ((HQ.out.below (Below.refl _ _).drew).mod hu3.1 fun k hk hk' => HSD.out.off k hk' hk)
  have ES := Lib.hid (show w2.heap[s]? = W.heap[s]? from hu.1.block s HSL.out HP.out.so)
  have ER := Lib.hid (show w2.heap[r]? = W.heap[r]? from hu3.1.block r HRL.out HRF.out)
  have EB := Lib.hid (show w2.heap[w.heap.size]? = W.heap[w.heap.size]? from hu3.1.block w.heap.size HNL.out HNF.out)
  have HSZ := Lib.hid (show W.heap.size ≤ w2.heap.size from hu.1.size)
  obtain ⟨va, vc, rfl, -, -, -⟩ := ownsRow_row ho
  have HO := Lib.hid ho
  clear ho
  clear h3 hu3 hr hu hs1 hp1
  refine hK.out _ _ (HS.out _ ES.out ER.out EB.out) (fun hHeld => ?_)
  refine tk 7 (v := ?_) ?_ hHeld ?_; rotate_left; · (intro w0 hS0; (try dsimp only at hS0); go_simp; try with_reducible rfl)
  simp only [tks]
  refine tk 8 (v := ?_) ?_ hHeld ?_; rotate_left; · (intro w0 hS0; (try dsimp only at hS0); go_simp; try with_reducible rfl)
  simp only [tks]
  refine tk 9 (v := ?_) ?_ hHeld ?_; rotate_left; · (intro w0 hS0; (try dsimp only at hS0); go_simp; try with_reducible rfl)
  simp only [tks]
  refine tk 10 (v := ?_) ?_ hHeld ?_; rotate_left; · (intro w0 hS0; (try dsimp only at hS0); go_simp; try with_reducible rfl)
  simp only [tks]
  refine tk 11 (v := ?_) ?_ hHeld ?_; rotate_left; · (intro w0 hS0; (try dsimp only at hS0); go_simp; try with_reducible rfl)
  simp only [tks]
  refine wpAnyH_done (by kernel_rfl) ?_ _
  clear hHeld
  have hack := dack_any tr win most x.o GO a.p w2.drew (HQ2.out.below (Below.refl _ _).drew).out
  rw [HAK.out] at hack
  replace HACK := Lib.hid hack
  clear hack
  go_upto_region 29 with fail
  refine wp_region_held_drew (S := fun X => (X.cell? ⟨s, 8, none⟩ = some (.pointer (some ⟨lb, 0, none⟩)) ∧ X.cell? ⟨s, 9, none⟩ = some (.pointer (some ⟨tb, 0, none⟩)) ∧ X.cell? ⟨s, 10, none⟩ = some (.pointer (some ⟨cb, 0, none⟩))) ∧ (X.cell? ⟨r, 8, none⟩ = some (.pointer (some ⟨lr, 0, none⟩)) ∧ X.cell? ⟨r, 9, none⟩ = some (.pointer (some ⟨tr, 0, none⟩)) ∧ X.cell? ⟨r, 10, none⟩ = some (.pointer (some ⟨cr, 0, none⟩))) ∧ (X.cell? ⟨w.heap.size, 6, none⟩ = some (.int .u16 a.p.id) ∧ X.cell? ⟨w.heap.size, 26, none⟩ = some (.string ⟨a.sub.1.toArray⟩) ∧ X.cell? ⟨w.heap.size, 27, none⟩ = some (.int .u8 a.sub.2)) ∧ X.rangeAt w.heap.size 2 a.p.cells ∧ X.rangeAt w.heap.size 28 a.m.cells) (by kernel_rfl) (HS.out _ ES.out ER.out EB.out) (fun hHeld => ?_)
  refine tk 0 (v := ?_) ?_ hHeld ?_; rotate_left; · (intro w0 hS0; (try dsimp only at hS0); go_simp; try with_reducible rfl)
  simp only [tks]
  refine tk 1 (v := ?_) ?_ hHeld ?_; rotate_left; · (intro w0 hS0; (try dsimp only at hS0); go_simp; try with_reducible rfl)
  simp only [tks]
  refine tk 2 (v := ?_) ?_ hHeld ?_; rotate_left; · (intro w0 hS0; (try dsimp only at hS0); go_simp; try with_reducible rfl)
  simp only [tks]
  refine tk 3 (v := ?_) ?_ hHeld ?_; rotate_left; · (intro w0 hS0; (try dsimp only at hS0); go_simp; try with_reducible rfl)
  simp only [tks]
  refine tk 4 (v := ?_) ?_ hHeld ?_; rotate_left; · (intro w0 hS0; (try dsimp only at hS0); go_simp; try with_reducible rfl)
  simp only [tks]
  refine tk 5 (v := .agg a.p.cells.toArray) (fun w0 hS0 => exec_load_row rfl rfl hS0.2.2.2.1 Tryz.underlying37 rfl HLP.out) hHeld ?_
  simp only [tks]
  refine wpAnyH_ready (rs := [6]) (by kernel_rfl) (by simp) ?_
  refine AllReadyH.cons rfl (fun K hK => ?_) AllReadyH.nil
  rw [if_pos (by rfl)]
  go_simp
  go_at_call 44
  replace SD2 := Lib.hid (SD2.out.below (Below.refl _ _).drew)
  replace HQ2 := Lib.hid (HQ2.out.below (Below.refl _ _).drew)
  refine (HACK.out).mono ?_
  rintro e w3 ⟨v, GO', rfl, ho, hr, hu, -⟩
  obtain ⟨h4, hu4⟩ := HQ2.out.turnO hr hu
  have SD3 := Lib.hid (SD2.out.ub ⟨lr, tr, cr, _, _, _, h4, rfl⟩ hu4)
  have ES3 := Lib.hid (show w3.heap[s]? = W.heap[s]? from (hu4.1.block s (Nat.lt_of_lt_of_le HSL.out HSZ.out) HSG.out).trans ES.out)
  have ER3 := Lib.hid (show w3.heap[r]? = W.heap[r]? from (hu.1.block r (Nat.lt_of_lt_of_le HRL.out HSZ.out) HQ.out.so).trans ER.out)
  have EB3 := Lib.hid (show w3.heap[w.heap.size]? = W.heap[w.heap.size]? from (hu4.1.block w.heap.size (Nat.lt_of_lt_of_le HNL.out HSZ.out) HNG.out).trans EB.out)
  have HO3 := Lib.hid (row_keep (w := w2.drew) (ownsRow_local HO.out fun _ _ => rfl) hu4 HGL.out)
  obtain ⟨vb, vd, rfl, hrw2, -, -⟩ := ownsRow_row ho
  obtain ⟨_, _, e3, hrw1, -, -⟩ := ownsRow_row HO3.out
  cases e3
  have HR1 := Lib.hid hrw1
  have HR2 := Lib.hid hrw2
  clear ho hrw1 hrw2
  clear h4 hu4 hr hu
  refine hK.out _ _ (HS.out _ ES3.out ER3.out EB3.out) (fun hHeld => ?_)
  refine tk 7 (v := ?_) ?_ hHeld ?_; rotate_left; · (intro w0 hS0; (try dsimp only at hS0); go_simp; try with_reducible rfl)
  simp only [tks]
  refine tk 8 (v := ?_) ?_ hHeld ?_; rotate_left; · (intro w0 hS0; (try dsimp only at hS0); go_simp; try with_reducible rfl)
  simp only [tks]
  refine tk 9 (v := ?_) ?_ hHeld ?_; rotate_left; · (intro w0 hS0; (try dsimp only at hS0); go_simp; try with_reducible rfl)
  simp only [tks]
  refine tk 10 (v := ?_) ?_ hHeld ?_; rotate_left; · (intro w0 hS0; (try dsimp only at hS0); go_simp; try with_reducible rfl)
  simp only [tks]
  refine tk 11 (v := ?_) ?_ hHeld ?_; rotate_left; · (intro w0 hS0; (try dsimp only at hS0); go_simp; try with_reducible rfl)
  simp only [tks]
  refine wpAnyH_done (by kernel_rfl) ?_ _
  clear hHeld
  go_wp2_with fail
  refine (dsameall_any pks va vb vc vd w3 HR1.out HR2.out HAR.out.1 (by have := HAR.out.2; omega)).mono ?_
  rintro e w4 ⟨rfl, hk4⟩
  have SD4 := Lib.hid (SD3.out.below hk4)
  clear hk4
  go_wp2_with fail
  go_ret
  exact ⟨rfl, _, _, SD4.out⟩
set_option maxRecDepth 100000 in
set_option maxHeartbeats 4000000 in
theorem step_k13 (h : Sd w0 w s r win most x x F G) (ha : ActOk a) (hT : Tabs w0) (hB : Bru w0) (hk : a.kind % 16 = 13) :
    Calls Tryz.prog 10 #[.pointer (some ⟨s, 0, none⟩), .pointer (some ⟨r, 0, none⟩), .agg (actC a).toArray] w fun e w' => StepDone w0 w' s r win most e ({ x with came := firstI a.p.id x.came }) := by
  have hb := low_alloc w (.cells (actC a).toArray 41)
  have hX := heap_alloc_new w (.cells (actC a).toArray 41)
  have hnF : w.heap.size ∉ F := fun hk => by have := h.a.rep.lt _ hk; omega
  have hnG : w.heap.size ∉ G := fun hk => by have := h.b.rep.lt _ hk; omega
  obtain ⟨W, hW⟩ : ∃ W, w.alloc (.cells (actC a).toArray 41) = W := ⟨_, rfl⟩
  have hnl : w.heap.size < W.heap.size := by rw [← hW]; simp
  rw [hW] at hX hb
  have h1 := h.below hb
  have HGL : Hid (∀ k ∈ G, k < W.heap.size) := Lib.hid (fun k hk => h1.b.rep.lt k hk)
  have HT := Lib.hid (fun X (hX : Below w0.heap.size w0 X) => hT.below hX)
  have HBR := Lib.hid (fun X (hX : Below w0.heap.size w0 X) => hB.below hX)
  have HZ := Lib.hid (h1.a.zero (World.block_lt_of_cell? w0 _ (hB 0 (by decide))))
  obtain ⟨hlS, hrS, hoS, hwS⟩ := h1.a.rep.lens
  obtain ⟨lb, tb, cb, FL, FO, FC, hp, rfl⟩ := h1.a.rep
  obtain ⟨lr, tr, cr, GL, GO, GC, hq, rfl⟩ := h1.b.rep
  have hsl := hp.lts
  have hrl := hq.lts
  have hrF : r ∉ sFoot s FL FO FC := fun hk => h1.off r hk (mem_sFoot.2 (.inl rfl))
  have hsG : s ∉ sFoot r GL GO GC := fun hk => h1.off s (mem_sFoot.2 (.inl rfl)) hk
  have HS : Hid (∀ X : World, X.heap[s]? = W.heap[s]? → X.heap[r]? = W.heap[r]? → X.heap[w.heap.size]? = W.heap[w.heap.size]? → (X.cell? ⟨s, 8, none⟩ = some (.pointer (some ⟨lb, 0, none⟩)) ∧ X.cell? ⟨s, 9, none⟩ = some (.pointer (some ⟨tb, 0, none⟩)) ∧ X.cell? ⟨s, 10, none⟩ = some (.pointer (some ⟨cb, 0, none⟩))) ∧ (X.cell? ⟨r, 8, none⟩ = some (.pointer (some ⟨lr, 0, none⟩)) ∧ X.cell? ⟨r, 9, none⟩ = some (.pointer (some ⟨tr, 0, none⟩)) ∧ X.cell? ⟨r, 10, none⟩ = some (.pointer (some ⟨cr, 0, none⟩))) ∧ (X.cell? ⟨w.heap.size, 6, none⟩ = some (.int .u16 a.p.id) ∧ X.cell? ⟨w.heap.size, 26, none⟩ = some (.string ⟨a.sub.1.toArray⟩) ∧ X.cell? ⟨w.heap.size, 27, none⟩ = some (.int .u8 a.sub.2)) ∧ X.rangeAt w.heap.size 2 a.p.cells ∧ X.rangeAt w.heap.size 28 a.m.cells) := Lib.hid (fun X e1 e2 e3 => by
    have p1 := e1.trans hp.hd
    have p2 := e2.trans hq.hd
    have p3 := e3.trans hX
    obtain ⟨-, -, a6, a26, a27⟩ := act_cells p3
    obtain ⟨q2, q28⟩ := act_range p3
    exact ⟨⟨cell_of_row _ _ 8 _ _ _ p1, cell_of_row _ _ 9 _ _ _ p1, cell_of_row _ _ 10 _ _ _ p1⟩, ⟨cell_of_row _ _ 8 _ _ _ p2, cell_of_row _ _ 9 _ _ _ p2, cell_of_row _ _ 10 _ _ _ p2⟩, ⟨a6, a26, a27⟩, q2, q28⟩)
  have HA1 : Hid (∀ X : World, X.heap[w.heap.size]? = W.heap[w.heap.size]? → X.cell? ⟨w.heap.size, 1, none⟩ = some (.int .i64 a.conn)) := Lib.hid (fun X e => (act_cells (e.trans hX)).2.1)
  have a0 := (act_cells hX).1
  have hk0 := ha.k0
  have HP := Lib.hid hp
  have HQ := Lib.hid hq
  have HSD := Lib.hid h1
  have HA := Lib.hid ha
  have HLP := Lib.hid (pk_size' a.p)
  have HNF := Lib.hid hnF
  have HNG := Lib.hid hnG
  have HL16 := Lib.hid hlS
  have HRS := Lib.hid hrS
  have HWS := Lib.hid hwS
  have HOS := Lib.hid hoS
  have HRF := Lib.hid hrF
  have HSG := Lib.hid hsG
  have HNL := Lib.hid hnl
  have HSL := Lib.hid hsl
  have HRL := Lib.hid hrl
  clear hp hq h1 hb hX h hT hB ha hnF hnG hlS hrS hoS hwS hrF hsG hsl hrl
  generalize (actC a).toArray = AC at *
  go_enter Tryz.func10, Tryz.ntmps10
  go_upto_region 32 with fail
  refine wp_region_held_drew (S := fun X => (X.cell? ⟨s, 8, none⟩ = some (.pointer (some ⟨lb, 0, none⟩)) ∧ X.cell? ⟨s, 9, none⟩ = some (.pointer (some ⟨tb, 0, none⟩)) ∧ X.cell? ⟨s, 10, none⟩ = some (.pointer (some ⟨cb, 0, none⟩))) ∧ (X.cell? ⟨r, 8, none⟩ = some (.pointer (some ⟨lr, 0, none⟩)) ∧ X.cell? ⟨r, 9, none⟩ = some (.pointer (some ⟨tr, 0, none⟩)) ∧ X.cell? ⟨r, 10, none⟩ = some (.pointer (some ⟨cr, 0, none⟩))) ∧ (X.cell? ⟨w.heap.size, 6, none⟩ = some (.int .u16 a.p.id) ∧ X.cell? ⟨w.heap.size, 26, none⟩ = some (.string ⟨a.sub.1.toArray⟩) ∧ X.cell? ⟨w.heap.size, 27, none⟩ = some (.int .u8 a.sub.2)) ∧ X.rangeAt w.heap.size 2 a.p.cells ∧ X.rangeAt w.heap.size 28 a.m.cells) (by kernel_rfl) (HS.out _ rfl rfl rfl) (fun hHeld => ?_)
  refine tk 0 (v := ?_) ?_ hHeld ?_; rotate_left; · (intro w0 hS0; (try dsimp only at hS0); go_simp; try with_reducible rfl)
  simp only [tks]
  refine tk 1 (v := ?_) ?_ hHeld ?_; rotate_left; · (intro w0 hS0; (try dsimp only at hS0); go_simp; try with_reducible rfl)
  simp only [tks]
  refine tk 2 (v := ?_) ?_ hHeld ?_; rotate_left; · (intro w0 hS0; (try dsimp only at hS0); go_simp; try with_reducible rfl)
  simp only [tks]
  refine tk 3 (v := ?_) ?_ hHeld ?_; rotate_left; · (intro w0 hS0; (try dsimp only at hS0); go_simp; try with_reducible rfl)
  simp only [tks]
  refine tk 4 (v := ?_) ?_ hHeld ?_; rotate_left; · (intro w0 hS0; (try dsimp only at hS0); go_simp; try with_reducible rfl)
  simp only [tks]
  refine tk 5 (v := ?_) ?_ hHeld ?_; rotate_left; · (intro w0 hS0; (try dsimp only at hS0); go_simp; try with_reducible rfl)
  simp only [tks]
  refine tk 6 (v := ?_) ?_ hHeld ?_; rotate_left; · (intro w0 hS0; (try dsimp only at hS0); go_simp; try with_reducible rfl)
  simp only [tks]
  refine tk 8 (v := ?_) ?_ hHeld ?_; rotate_left; · (intro w0 hS0; (try dsimp only at hS0); go_simp; try with_reducible rfl)
  simp only [tks]
  refine tk 9 (v := ?_) ?_ hHeld ?_; rotate_left; · (intro w0 hS0; (try dsimp only at hS0); go_simp; try with_reducible rfl)
  simp only [tks]
  refine tk 10 (v := ?_) ?_ hHeld ?_; rotate_left; · (intro w0 hS0; (try dsimp only at hS0); go_simp; try with_reducible rfl)
  simp only [tks]
  refine tk 11 (v := ?_) ?_ hHeld ?_; rotate_left; · (intro w0 hS0; (try dsimp only at hS0); go_simp; try with_reducible rfl)
  simp only [tks]
  refine tk 12 (v := ?_) ?_ hHeld ?_; rotate_left; · (intro w0 hS0; (try dsimp only at hS0); go_simp; try with_reducible rfl)
  simp only [tks]
  refine tk 13 (v := ?_) ?_ hHeld ?_; rotate_left; · (intro w0 hS0; (try dsimp only at hS0); go_simp; try with_reducible rfl)
  simp only [tks]
  refine tk 14 (v := ?_) ?_ hHeld ?_; rotate_left; · (intro w0 hS0; (try dsimp only at hS0); go_simp; try with_reducible rfl)
  simp only [tks]
  refine wpAnyH_ready (rs := [7]) (by kernel_rfl) (by simp) ?_
  refine AllReadyH.cons rfl (fun K hK => ?_) AllReadyH.nil
  rw [if_pos (by rfl)]
  go_simp
  go_at_call 45
  have hp1 := HP.out.below (Below.refl _ _).drew
  have hs1 := HSD.out.below (Below.refl _ _).drew
  refine (cfirst_u cb a.p.id x.came FC _ hp1.came HA.out.i0 HA.out.i1).mono ?_
  rintro e w2 ⟨rfl, hr, hu⟩
  obtain ⟨h3, hu3⟩ := hp1.turnC hr hu
  have SD2 := Lib.hid (hs1.ua ⟨lb, tb, cb, _, _, _, h3, rfl⟩ hu3)
  have HQ2 := Lib.hid ((HQ.out.below (Below.refl _ _).drew).mod hu3.1 fun k hk hk' => HSD.out.off k hk' hk)
  have ES := Lib.hid (show w2.heap[s]? = W.heap[s]? from hu.1.block s HSL.out HP.out.sc)
  have ER := Lib.hid (show w2.heap[r]? = W.heap[r]? from hu3.1.block r HRL.out HRF.out)
  have EB := Lib.hid (show w2.heap[w.heap.size]? = W.heap[w.heap.size]? from hu3.1.block w.heap.size HNL.out HNF.out)
  have HSZ := Lib.hid (show W.heap.size ≤ w2.heap.size from hu.1.size)
  clear h3 hu3 hr hu hs1 hp1
  refine hK.out _ _ (HS.out _ ES.out ER.out EB.out) (fun hHeld => ?_)
  refine wpAnyH_ready (rs := [15]) (by kernel_rfl) (by simp) ?_
  refine AllReadyH.cons rfl (fun K hK => ?_) AllReadyH.nil
  rw [if_pos (by rfl)]
  go_simp
  go_at_call 46
  refine (tfirst_u cr a.p.id x.came GC w2 HQ2.out.came (by have := HOS.out; omega)).mono ?_
  rintro e w3 ⟨rfl, GC', hr, hu⟩
  obtain ⟨h4, hu4⟩ := HQ2.out.turnC hr hu
  have SD3 := Lib.hid (SD2.out.ub ⟨lr, tr, cr, _, _, _, h4, rfl⟩ hu4)
  have ES3 := Lib.hid (show w3.heap[s]? = W.heap[s]? from (hu4.1.block s (Nat.lt_of_lt_of_le HSL.out HSZ.out) HSG.out).trans ES.out)
  have ER3 := Lib.hid (show w3.heap[r]? = W.heap[r]? from (hu.1.block r (Nat.lt_of_lt_of_le HRL.out HSZ.out) HQ.out.sc).trans ER.out)
  have EB3 := Lib.hid (show w3.heap[w.heap.size]? = W.heap[w.heap.size]? from (hu4.1.block w.heap.size (Nat.lt_of_lt_of_le HNL.out HSZ.out) HNG.out).trans EB.out)
  clear h4 hu4 hr hu
  refine hK.out _ _ (HS.out _ ES3.out ER3.out EB3.out) (fun hHeld => ?_)
  refine tk 16 (v := ?_) ?_ hHeld ?_; rotate_left; · (intro w0 hS0; (try dsimp only at hS0); go_simp; try with_reducible rfl)
  simp only [tks]
  refine tk 17 (v := ?_) ?_ hHeld ?_; rotate_left; · (intro w0 hS0; (try dsimp only at hS0); go_simp; try with_reducible rfl)
  simp only [tks]
  refine wpAnyH_done (by kernel_rfl) ?_ _
  clear hHeld
  go_wp2_with fail
  go_ret
  exact ⟨rfl, _, _, SD3.out⟩
set_option maxRecDepth 100000 in
set_option maxHeartbeats 4000000 in
theorem step_k14 (h : Sd w0 w s r win most x x F G) (ha : ActOk a) (hT : Tabs w0) (hB : Bru w0) (hk : a.kind % 16 = 14) :
    Calls Tryz.prog 10 #[.pointer (some ⟨s, 0, none⟩), .pointer (some ⟨r, 0, none⟩), .agg (actC a).toArray] w fun e w' => StepDone w0 w' s r win most e ({ x with came := out a.p.id x.came }) := by
  have hb := low_alloc w (.cells (actC a).toArray 41)
  have hX := heap_alloc_new w (.cells (actC a).toArray 41)
  have hnF : w.heap.size ∉ F := fun hk => by have := h.a.rep.lt _ hk; omega
  have hnG : w.heap.size ∉ G := fun hk => by have := h.b.rep.lt _ hk; omega
  obtain ⟨W, hW⟩ : ∃ W, w.alloc (.cells (actC a).toArray 41) = W := ⟨_, rfl⟩
  have hnl : w.heap.size < W.heap.size := by rw [← hW]; simp
  rw [hW] at hX hb
  have h1 := h.below hb
  have HGL : Hid (∀ k ∈ G, k < W.heap.size) := Lib.hid (fun k hk => h1.b.rep.lt k hk)
  have HT := Lib.hid (fun X (hX : Below w0.heap.size w0 X) => hT.below hX)
  have HBR := Lib.hid (fun X (hX : Below w0.heap.size w0 X) => hB.below hX)
  have HZ := Lib.hid (h1.a.zero (World.block_lt_of_cell? w0 _ (hB 0 (by decide))))
  obtain ⟨hlS, hrS, hoS, hwS⟩ := h1.a.rep.lens
  obtain ⟨lb, tb, cb, FL, FO, FC, hp, rfl⟩ := h1.a.rep
  obtain ⟨lr, tr, cr, GL, GO, GC, hq, rfl⟩ := h1.b.rep
  have hsl := hp.lts
  have hrl := hq.lts
  have hrF : r ∉ sFoot s FL FO FC := fun hk => h1.off r hk (mem_sFoot.2 (.inl rfl))
  have hsG : s ∉ sFoot r GL GO GC := fun hk => h1.off s (mem_sFoot.2 (.inl rfl)) hk
  have HS : Hid (∀ X : World, X.heap[s]? = W.heap[s]? → X.heap[r]? = W.heap[r]? → X.heap[w.heap.size]? = W.heap[w.heap.size]? → (X.cell? ⟨s, 8, none⟩ = some (.pointer (some ⟨lb, 0, none⟩)) ∧ X.cell? ⟨s, 9, none⟩ = some (.pointer (some ⟨tb, 0, none⟩)) ∧ X.cell? ⟨s, 10, none⟩ = some (.pointer (some ⟨cb, 0, none⟩))) ∧ (X.cell? ⟨r, 8, none⟩ = some (.pointer (some ⟨lr, 0, none⟩)) ∧ X.cell? ⟨r, 9, none⟩ = some (.pointer (some ⟨tr, 0, none⟩)) ∧ X.cell? ⟨r, 10, none⟩ = some (.pointer (some ⟨cr, 0, none⟩))) ∧ (X.cell? ⟨w.heap.size, 6, none⟩ = some (.int .u16 a.p.id) ∧ X.cell? ⟨w.heap.size, 26, none⟩ = some (.string ⟨a.sub.1.toArray⟩) ∧ X.cell? ⟨w.heap.size, 27, none⟩ = some (.int .u8 a.sub.2)) ∧ X.rangeAt w.heap.size 2 a.p.cells ∧ X.rangeAt w.heap.size 28 a.m.cells) := Lib.hid (fun X e1 e2 e3 => by
    have p1 := e1.trans hp.hd
    have p2 := e2.trans hq.hd
    have p3 := e3.trans hX
    obtain ⟨-, -, a6, a26, a27⟩ := act_cells p3
    obtain ⟨q2, q28⟩ := act_range p3
    exact ⟨⟨cell_of_row _ _ 8 _ _ _ p1, cell_of_row _ _ 9 _ _ _ p1, cell_of_row _ _ 10 _ _ _ p1⟩, ⟨cell_of_row _ _ 8 _ _ _ p2, cell_of_row _ _ 9 _ _ _ p2, cell_of_row _ _ 10 _ _ _ p2⟩, ⟨a6, a26, a27⟩, q2, q28⟩)
  have HA1 : Hid (∀ X : World, X.heap[w.heap.size]? = W.heap[w.heap.size]? → X.cell? ⟨w.heap.size, 1, none⟩ = some (.int .i64 a.conn)) := Lib.hid (fun X e => (act_cells (e.trans hX)).2.1)
  have a0 := (act_cells hX).1
  have hk0 := ha.k0
  have HP := Lib.hid hp
  have HQ := Lib.hid hq
  have HSD := Lib.hid h1
  have HA := Lib.hid ha
  have HLP := Lib.hid (pk_size' a.p)
  have HNF := Lib.hid hnF
  have HNG := Lib.hid hnG
  have HL16 := Lib.hid hlS
  have HRS := Lib.hid hrS
  have HWS := Lib.hid hwS
  have HOS := Lib.hid hoS
  have HRF := Lib.hid hrF
  have HSG := Lib.hid hsG
  have HNL := Lib.hid hnl
  have HSL := Lib.hid hsl
  have HRL := Lib.hid hrl
  clear hp hq h1 hb hX h hT hB ha hnF hnG hlS hrS hoS hwS hrF hsG hsl hrl
  generalize (actC a).toArray = AC at *
  go_enter Tryz.func10, Tryz.ntmps10
  go_upto_region 34 with fail
  refine wp_region_held_drew (S := fun X => (X.cell? ⟨s, 8, none⟩ = some (.pointer (some ⟨lb, 0, none⟩)) ∧ X.cell? ⟨s, 9, none⟩ = some (.pointer (some ⟨tb, 0, none⟩)) ∧ X.cell? ⟨s, 10, none⟩ = some (.pointer (some ⟨cb, 0, none⟩))) ∧ (X.cell? ⟨r, 8, none⟩ = some (.pointer (some ⟨lr, 0, none⟩)) ∧ X.cell? ⟨r, 9, none⟩ = some (.pointer (some ⟨tr, 0, none⟩)) ∧ X.cell? ⟨r, 10, none⟩ = some (.pointer (some ⟨cr, 0, none⟩))) ∧ (X.cell? ⟨w.heap.size, 6, none⟩ = some (.int .u16 a.p.id) ∧ X.cell? ⟨w.heap.size, 26, none⟩ = some (.string ⟨a.sub.1.toArray⟩) ∧ X.cell? ⟨w.heap.size, 27, none⟩ = some (.int .u8 a.sub.2)) ∧ X.rangeAt w.heap.size 2 a.p.cells ∧ X.rangeAt w.heap.size 28 a.m.cells) (by kernel_rfl) (HS.out _ rfl rfl rfl) (fun hHeld => ?_)
  refine tk 0 (v := ?_) ?_ hHeld ?_; rotate_left; · (intro w0 hS0; (try dsimp only at hS0); go_simp; try with_reducible rfl)
  simp only [tks]
  refine tk 1 (v := ?_) ?_ hHeld ?_; rotate_left; · (intro w0 hS0; (try dsimp only at hS0); go_simp; try with_reducible rfl)
  simp only [tks]
  refine tk 2 (v := ?_) ?_ hHeld ?_; rotate_left; · (intro w0 hS0; (try dsimp only at hS0); go_simp; try with_reducible rfl)
  simp only [tks]
  refine tk 3 (v := ?_) ?_ hHeld ?_; rotate_left; · (intro w0 hS0; (try dsimp only at hS0); go_simp; try with_reducible rfl)
  simp only [tks]
  refine tk 4 (v := ?_) ?_ hHeld ?_; rotate_left; · (intro w0 hS0; (try dsimp only at hS0); go_simp; try with_reducible rfl)
  simp only [tks]
  refine tk 5 (v := ?_) ?_ hHeld ?_; rotate_left; · (intro w0 hS0; (try dsimp only at hS0); go_simp; try with_reducible rfl)
  simp only [tks]
  refine tk 6 (v := ?_) ?_ hHeld ?_; rotate_left; · (intro w0 hS0; (try dsimp only at hS0); go_simp; try with_reducible rfl)
  simp only [tks]
  refine tk 8 (v := ?_) ?_ hHeld ?_; rotate_left; · (intro w0 hS0; (try dsimp only at hS0); go_simp; try with_reducible rfl)
  simp only [tks]
  refine tk 9 (v := ?_) ?_ hHeld ?_; rotate_left; · (intro w0 hS0; (try dsimp only at hS0); go_simp; try with_reducible rfl)
  simp only [tks]
  refine tk 10 (v := ?_) ?_ hHeld ?_; rotate_left; · (intro w0 hS0; (try dsimp only at hS0); go_simp; try with_reducible rfl)
  simp only [tks]
  refine tk 11 (v := ?_) ?_ hHeld ?_; rotate_left; · (intro w0 hS0; (try dsimp only at hS0); go_simp; try with_reducible rfl)
  simp only [tks]
  refine tk 12 (v := ?_) ?_ hHeld ?_; rotate_left; · (intro w0 hS0; (try dsimp only at hS0); go_simp; try with_reducible rfl)
  simp only [tks]
  refine tk 13 (v := ?_) ?_ hHeld ?_; rotate_left; · (intro w0 hS0; (try dsimp only at hS0); go_simp; try with_reducible rfl)
  simp only [tks]
  refine tk 14 (v := ?_) ?_ hHeld ?_; rotate_left; · (intro w0 hS0; (try dsimp only at hS0); go_simp; try with_reducible rfl)
  simp only [tks]
  refine wpAnyH_ready (rs := [7]) (by kernel_rfl) (by simp) ?_
  refine AllReadyH.cons rfl (fun K hK => ?_) AllReadyH.nil
  rw [if_pos (by rfl)]
  go_simp
  go_at_call 47
  have hp1 := HP.out.below (Below.refl _ _).drew
  have hs1 := HSD.out.below (Below.refl _ _).drew
  refine (crel_u cb a.p.id x.came FC _ hp1.came HA.out.i0 HA.out.i1).mono ?_
  rintro e w2 ⟨rfl, hr, hu⟩
  obtain ⟨h3, hu3⟩ := hp1.turnC hr hu
  have SD2 := Lib.hid (hs1.ua ⟨lb, tb, cb, _, _, _, h3, rfl⟩ hu3)
  have HQ2 := Lib.hid ((HQ.out.below (Below.refl _ _).drew).mod hu3.1 fun k hk hk' => HSD.out.off k hk' hk)
  have ES := Lib.hid (show w2.heap[s]? = W.heap[s]? from hu.1.block s HSL.out HP.out.sc)
  have ER := Lib.hid (show w2.heap[r]? = W.heap[r]? from hu3.1.block r HRL.out HRF.out)
  have EB := Lib.hid (show w2.heap[w.heap.size]? = W.heap[w.heap.size]? from hu3.1.block w.heap.size HNL.out HNF.out)
  have HSZ := Lib.hid (show W.heap.size ≤ w2.heap.size from hu.1.size)
  clear h3 hu3 hr hu hs1 hp1
  refine hK.out _ _ (HS.out _ ES.out ER.out EB.out) (fun hHeld => ?_)
  refine wpAnyH_ready (rs := [15]) (by kernel_rfl) (by simp) ?_
  refine AllReadyH.cons rfl (fun K hK => ?_) AllReadyH.nil
  rw [if_pos (by rfl)]
  go_simp
  go_at_call 48
  refine (trel_u cr a.p.id x.came GC w2 HQ2.out.came (by have := HOS.out; omega)).mono ?_
  rintro e w3 ⟨rfl, GC', hr, hu⟩
  obtain ⟨h4, hu4⟩ := HQ2.out.turnC hr hu
  have SD3 := Lib.hid (SD2.out.ub ⟨lr, tr, cr, _, _, _, h4, rfl⟩ hu4)
  have ES3 := Lib.hid (show w3.heap[s]? = W.heap[s]? from (hu4.1.block s (Nat.lt_of_lt_of_le HSL.out HSZ.out) HSG.out).trans ES.out)
  have ER3 := Lib.hid (show w3.heap[r]? = W.heap[r]? from (hu.1.block r (Nat.lt_of_lt_of_le HRL.out HSZ.out) HQ.out.sc).trans ER.out)
  have EB3 := Lib.hid (show w3.heap[w.heap.size]? = W.heap[w.heap.size]? from (hu4.1.block w.heap.size (Nat.lt_of_lt_of_le HNL.out HSZ.out) HNG.out).trans EB.out)
  clear h4 hu4 hr hu
  refine hK.out _ _ (HS.out _ ES3.out ER3.out EB3.out) (fun hHeld => ?_)
  refine tk 16 (v := ?_) ?_ hHeld ?_; rotate_left; · (intro w0 hS0; (try dsimp only at hS0); go_simp; try with_reducible rfl)
  simp only [tks]
  refine tk 17 (v := ?_) ?_ hHeld ?_; rotate_left; · (intro w0 hS0; (try dsimp only at hS0); go_simp; try with_reducible rfl)
  simp only [tks]
  refine wpAnyH_done (by kernel_rfl) ?_ _
  clear hHeld
  go_wp2_with fail
  go_ret
  exact ⟨rfl, _, _, SD3.out⟩
set_option maxRecDepth 100000 in
set_option maxHeartbeats 4000000 in
theorem step_k15 (h : Sd w0 w s r win most x x F G) (ha : ActOk a) (hT : Tabs w0) (hB : Bru w0) (hk : a.kind % 16 = 15) :
    Calls Tryz.prog 10 #[.pointer (some ⟨s, 0, none⟩), .pointer (some ⟨r, 0, none⟩), .agg (actC a).toArray] w fun e w' => StepDone w0 w' s r win most e (x) := by
  have hb := low_alloc w (.cells (actC a).toArray 41)
  have hX := heap_alloc_new w (.cells (actC a).toArray 41)
  have hnF : w.heap.size ∉ F := fun hk => by have := h.a.rep.lt _ hk; omega
  have hnG : w.heap.size ∉ G := fun hk => by have := h.b.rep.lt _ hk; omega
  obtain ⟨W, hW⟩ : ∃ W, w.alloc (.cells (actC a).toArray 41) = W := ⟨_, rfl⟩
  have hnl : w.heap.size < W.heap.size := by rw [← hW]; simp
  rw [hW] at hX hb
  have h1 := h.below hb
  have HGL : Hid (∀ k ∈ G, k < W.heap.size) := Lib.hid (fun k hk => h1.b.rep.lt k hk)
  have HT := Lib.hid (fun X (hX : Below w0.heap.size w0 X) => hT.below hX)
  have HBR := Lib.hid (fun X (hX : Below w0.heap.size w0 X) => hB.below hX)
  have HZ := Lib.hid (h1.a.zero (World.block_lt_of_cell? w0 _ (hB 0 (by decide))))
  obtain ⟨hlS, hrS, hoS, hwS⟩ := h1.a.rep.lens
  obtain ⟨lb, tb, cb, FL, FO, FC, hp, rfl⟩ := h1.a.rep
  obtain ⟨lr, tr, cr, GL, GO, GC, hq, rfl⟩ := h1.b.rep
  have hsl := hp.lts
  have hrl := hq.lts
  have hrF : r ∉ sFoot s FL FO FC := fun hk => h1.off r hk (mem_sFoot.2 (.inl rfl))
  have hsG : s ∉ sFoot r GL GO GC := fun hk => h1.off s (mem_sFoot.2 (.inl rfl)) hk
  have HS : Hid (∀ X : World, X.heap[s]? = W.heap[s]? → X.heap[r]? = W.heap[r]? → X.heap[w.heap.size]? = W.heap[w.heap.size]? → (X.cell? ⟨s, 8, none⟩ = some (.pointer (some ⟨lb, 0, none⟩)) ∧ X.cell? ⟨s, 9, none⟩ = some (.pointer (some ⟨tb, 0, none⟩)) ∧ X.cell? ⟨s, 10, none⟩ = some (.pointer (some ⟨cb, 0, none⟩))) ∧ (X.cell? ⟨r, 8, none⟩ = some (.pointer (some ⟨lr, 0, none⟩)) ∧ X.cell? ⟨r, 9, none⟩ = some (.pointer (some ⟨tr, 0, none⟩)) ∧ X.cell? ⟨r, 10, none⟩ = some (.pointer (some ⟨cr, 0, none⟩))) ∧ (X.cell? ⟨w.heap.size, 6, none⟩ = some (.int .u16 a.p.id) ∧ X.cell? ⟨w.heap.size, 26, none⟩ = some (.string ⟨a.sub.1.toArray⟩) ∧ X.cell? ⟨w.heap.size, 27, none⟩ = some (.int .u8 a.sub.2)) ∧ X.rangeAt w.heap.size 2 a.p.cells ∧ X.rangeAt w.heap.size 28 a.m.cells) := Lib.hid (fun X e1 e2 e3 => by
    have p1 := e1.trans hp.hd
    have p2 := e2.trans hq.hd
    have p3 := e3.trans hX
    obtain ⟨-, -, a6, a26, a27⟩ := act_cells p3
    obtain ⟨q2, q28⟩ := act_range p3
    exact ⟨⟨cell_of_row _ _ 8 _ _ _ p1, cell_of_row _ _ 9 _ _ _ p1, cell_of_row _ _ 10 _ _ _ p1⟩, ⟨cell_of_row _ _ 8 _ _ _ p2, cell_of_row _ _ 9 _ _ _ p2, cell_of_row _ _ 10 _ _ _ p2⟩, ⟨a6, a26, a27⟩, q2, q28⟩)
  have HA1 : Hid (∀ X : World, X.heap[w.heap.size]? = W.heap[w.heap.size]? → X.cell? ⟨w.heap.size, 1, none⟩ = some (.int .i64 a.conn)) := Lib.hid (fun X e => (act_cells (e.trans hX)).2.1)
  have a0 := (act_cells hX).1
  have hk0 := ha.k0
  have HP := Lib.hid hp
  have HQ := Lib.hid hq
  have HSD := Lib.hid h1
  have HA := Lib.hid ha
  have HLP := Lib.hid (pk_size' a.p)
  have HNF := Lib.hid hnF
  have HNG := Lib.hid hnG
  have HL16 := Lib.hid hlS
  have HRS := Lib.hid hrS
  have HWS := Lib.hid hwS
  have HRF := Lib.hid hrF
  have HSG := Lib.hid hsG
  have HNL := Lib.hid hnl
  have HSL := Lib.hid hsl
  have HRL := Lib.hid hrl
  clear hp hq h1 hb hX h hT hB ha hnF hnG hlS hrS hoS hwS hrF hsG hsl hrl
  generalize (actC a).toArray = AC at *
  go_enter Tryz.func10, Tryz.ntmps10
  have HSB := Lib.hid (resume_subs x.o)
  go_upto_region 2 with fail
  refine wp_region_held_drew (S := fun X => (X.cell? ⟨s, 8, none⟩ = some (.pointer (some ⟨lb, 0, none⟩)) ∧ X.cell? ⟨s, 9, none⟩ = some (.pointer (some ⟨tb, 0, none⟩)) ∧ X.cell? ⟨s, 10, none⟩ = some (.pointer (some ⟨cb, 0, none⟩))) ∧ (X.cell? ⟨r, 8, none⟩ = some (.pointer (some ⟨lr, 0, none⟩)) ∧ X.cell? ⟨r, 9, none⟩ = some (.pointer (some ⟨tr, 0, none⟩)) ∧ X.cell? ⟨r, 10, none⟩ = some (.pointer (some ⟨cr, 0, none⟩))) ∧ (X.cell? ⟨w.heap.size, 6, none⟩ = some (.int .u16 a.p.id) ∧ X.cell? ⟨w.heap.size, 26, none⟩ = some (.string ⟨a.sub.1.toArray⟩) ∧ X.cell? ⟨w.heap.size, 27, none⟩ = some (.int .u8 a.sub.2)) ∧ X.rangeAt w.heap.size 2 a.p.cells ∧ X.rangeAt w.heap.size 28 a.m.cells) (by kernel_rfl) (HS.out _ rfl rfl rfl) (fun hHeld => ?_)
  refine tk 0 (v := ?_) ?_ hHeld ?_; rotate_left; · (intro w0 hS0; (try dsimp only at hS0); go_simp; try with_reducible rfl)
  simp only [tks]
  refine tk 1 (v := ?_) ?_ hHeld ?_; rotate_left; · (intro w0 hS0; (try dsimp only at hS0); go_simp; try with_reducible rfl)
  simp only [tks]
  refine tk 2 (v := ?_) ?_ hHeld ?_; rotate_left; · (intro w0 hS0; (try dsimp only at hS0); go_simp; try with_reducible rfl)
  simp only [tks]
  refine tk 3 (v := ?_) ?_ hHeld ?_; rotate_left; · (intro w0 hS0; (try dsimp only at hS0); go_simp; try with_reducible rfl)
  simp only [tks]
  refine tk 5 (v := ?_) ?_ hHeld ?_; rotate_left; · (intro w0 hS0; (try dsimp only at hS0); go_simp; try with_reducible rfl)
  simp only [tks]
  refine tk 6 (v := ?_) ?_ hHeld ?_; rotate_left; · (intro w0 hS0; (try dsimp only at hS0); go_simp; try with_reducible rfl)
  simp only [tks]
  refine tk 7 (v := ?_) ?_ hHeld ?_; rotate_left; · (intro w0 hS0; (try dsimp only at hS0); go_simp; try with_reducible rfl)
  simp only [tks]
  refine tk 8 (v := ?_) ?_ hHeld ?_; rotate_left; · (intro w0 hS0; (try dsimp only at hS0); go_simp; try with_reducible rfl)
  simp only [tks]
  refine wpAnyH_ready (rs := [4]) (by kernel_rfl) (by simp) ?_
  refine AllReadyH.cons rfl (fun K hK => ?_) AllReadyH.nil
  rw [if_pos (by rfl)]
  go_simp
  go_at_call 49
  have hp1 := HP.out.below (Below.refl _ _).drew
  refine (resume_any tb win most x.o FO _ hp1.out).mono ?_
  rintro e w2 ⟨v, rfl, ho, hk⟩
  have HB2 : Hid (Below W.heap.size W w2) := Lib.hid ((Below.refl _ _).drew.trans hk)
  obtain ⟨va, vc, rfl, hrow, -, -⟩ := ownsRow_row ho
  have HR1 := Lib.hid hrow
  clear ho hk hrow hp1
  refine hK.out _ _ (HS.out _ (HB2.out.block s HSL.out) (HB2.out.block r HRL.out) (HB2.out.block w.heap.size HNL.out)) (fun hHeld => ?_)
  refine wpAnyH_ready (rs := [9]) (by kernel_rfl) (by simp) ?_
  refine AllReadyH.cons rfl (fun K hK => ?_) AllReadyH.nil
  rw [if_pos (by rfl)]
  go_simp
  go_at_call 50
  refine (dresume_any tr win most x.o GO w2 (HQ.out.below HB2.out).out).mono ?_
  rintro e w3 ⟨v, rfl, ho, hk⟩
  have HB3 : Hid (Below W.heap.size W w3) := Lib.hid (HB2.out.trans (hk.mono HB2.out.size))
  have HR13 := Lib.hid (HR1.out.below hk (Nat.le_refl _))
  obtain ⟨vb, vd, rfl, hrow, -, -⟩ := ownsRow_row ho
  have HR2 := Lib.hid hrow
  clear ho hk hrow
  refine hK.out _ _ (HS.out _ (HB3.out.block s HSL.out) (HB3.out.block r HRL.out) (HB3.out.block w.heap.size HNL.out)) (fun hHeld => ?_)
  refine wpAnyH_ready (rs := [10]) (by kernel_rfl) (by simp) ?_
  refine AllReadyH.cons rfl (fun K hK => ?_) AllReadyH.nil
  rw [if_pos (by rfl)]
  go_simp
  go_at_call 40
  refine (dsameall_any (resumeO x.o) va vb vc vd w3 HR13.out HR2.out HSB.out (by have := HRS.out; omega)).mono ?_
  rintro e w4 ⟨rfl, hk⟩
  have HB4 : Hid (Below W.heap.size W w4) := Lib.hid (HB3.out.trans (hk.mono HB3.out.size))
  have SD3 := Lib.hid (HSD.out.below HB4.out)
  refine hK.out _ _ (HS.out _ (HB4.out.block s HSL.out) (HB4.out.block r HRL.out) (HB4.out.block w.heap.size HNL.out)) (fun hHeld => ?_)
  clear hk
  refine tk 11 (v := ?_) ?_ hHeld ?_; rotate_left; · (intro w0 hS0; (try dsimp only at hS0); go_simp; try with_reducible rfl)
  simp only [tks]
  refine wpAnyH_done (by kernel_rfl) ?_ _
  clear hHeld
  go_wp2_with fail
  go_ret
  exact ⟨rfl, _, _, SD3.out⟩
theorem step_any (h : Sd w0 w s r win most x x F G) (ha : ActOk a) (hT : Tabs w0) (hB : Bru w0) :
    Calls Tryz.prog 10 #[.pointer (some ⟨s, 0, none⟩), .pointer (some ⟨r, 0, none⟩), .agg (actC a).toArray] w fun e w' => StepDone w0 w' s r win most e (doS win most a x) := by
  have h1 : 0 ≤ a.kind % 16 := Int.emod_nonneg _ (by decide)
  have h2 : a.kind % 16 < 16 := Int.emod_lt_of_pos _ (by decide)
  have hc : a.kind % 16 = 0 ∨ a.kind % 16 = 1 ∨ a.kind % 16 = 2 ∨ a.kind % 16 = 3 ∨ a.kind % 16 = 4 ∨ a.kind % 16 = 5 ∨ a.kind % 16 = 6 ∨ a.kind % 16 = 7 ∨ a.kind % 16 = 8 ∨ a.kind % 16 = 9 ∨ a.kind % 16 = 10 ∨ a.kind % 16 = 11 ∨ a.kind % 16 = 12 ∨ a.kind % 16 = 13 ∨ a.kind % 16 = 14 ∨ a.kind % 16 = 15 := by omega
  unfold doS
  dsimp only
  rcases hc with hk | hk | hk | hk | hk | hk | hk | hk | hk | hk | hk | hk | hk | hk | hk | hk
  · rw [hk]; exact step_k0 w0 s r x win most F G a w h ha hT hB hk (by simp)
  · rw [hk]; exact step_k0 w0 s r x win most F G a w h ha hT hB hk (by simp)
  · rw [hk]; exact step_k0 w0 s r x win most F G a w h ha hT hB hk (by simp)
  · rw [hk]; exact step_k3 w0 s r x win most F G a w h ha hT hB hk
  · rw [hk]; exact step_k4 w0 s r x win most F G a w h ha hT hB hk
  · rw [hk]; exact step_k5 w0 s r x win most F G a w h ha hT hB hk (by simp)
  · rw [hk]; exact step_k5 w0 s r x win most F G a w h ha hT hB hk (by simp)
  · rw [hk]; exact step_k7 w0 s r x win most F G a w h ha hT hB hk
  · rw [hk]; exact step_k8 w0 s r x win most F G a w h ha hT hB hk (by simp)
  · rw [hk]; exact step_k8 w0 s r x win most F G a w h ha hT hB hk (by simp)
  · rw [hk]; exact step_k8 w0 s r x win most F G a w h ha hT hB hk (by simp)
  · rw [hk]; exact step_k11 w0 s r x win most F G a w h ha hT hB hk
  · rw [hk]; exact step_k12 w0 s r x win most F G a w h ha hT hB hk
  · rw [hk]; exact step_k13 w0 s r x win most F G a w h ha hT hB hk
  · rw [hk]; exact step_k14 w0 s r x win most F G a w h ha hT hB hk
  · rw [hk]; exact step_k15 w0 s r x win most F G a w h ha hT hB hk
end
end
section
open Go Go.RowKit

set_option maxRecDepth 100000 in
set_option maxHeartbeats 4000000 in
theorem alike_any (w0 : World) (s r : Nat) (x : SS) (win most : Int) (F G : List Nat) (w : World) (h : Sd w0 w s r win most x x F G) :
    Calls Tryz.prog 11 #[.pointer (some ⟨s, 0, none⟩), .pointer (some ⟨r, 0, none⟩)] w fun e w' => e = .returned (.bool true) ∧ Below w.heap.size w w' := by
  obtain ⟨hlS, -, hoS, -⟩ := h.a.rep.lens
  obtain ⟨lb, tb, cb, FL, FO, FC, hp, -⟩ := h.a.rep
  obtain ⟨lr, tr, cr, GL, GO, GC, hq, -⟩ := h.b.rep
  have HL16 := Lib.hid hlS
  have HLC := Lib.hid hoS
  have HPA := Lib.hid (fun X (hX : Below w.heap.size w X) => hp.below hX)
  have HQA := Lib.hid (fun X (hX : Below w.heap.size w X) => hq.below hX)
  have HS : Hid (∀ X, Below w.heap.size w X → (X.cell? ⟨s, 0, none⟩ = some (.string x.client) ∧ X.cell? ⟨s, 1, none⟩ = some (.int .i64 x.conn) ∧ X.cell? ⟨s, 2, none⟩ = some (.bool x.clean) ∧ X.cell? ⟨s, 3, none⟩ = some (.string x.will.t) ∧ X.cell? ⟨s, 4, none⟩ = some (.string x.will.p) ∧ X.cell? ⟨s, 5, none⟩ = some (.int .u8 x.will.q) ∧ X.cell? ⟨s, 6, none⟩ = some (.bool x.will.r) ∧ X.cell? ⟨s, 7, none⟩ = some (.bool x.has) ∧ X.cell? ⟨s, 9, none⟩ = some (.pointer (some ⟨tb, 0, none⟩))) ∧ (X.cell? ⟨r, 0, none⟩ = some (.string x.client) ∧ X.cell? ⟨r, 1, none⟩ = some (.int .i64 x.conn) ∧ X.cell? ⟨r, 2, none⟩ = some (.bool x.clean) ∧ X.cell? ⟨r, 3, none⟩ = some (.string x.will.t) ∧ X.cell? ⟨r, 4, none⟩ = some (.string x.will.p) ∧ X.cell? ⟨r, 5, none⟩ = some (.int .u8 x.will.q) ∧ X.cell? ⟨r, 6, none⟩ = some (.bool x.will.r) ∧ X.cell? ⟨r, 7, none⟩ = some (.bool x.has) ∧ X.cell? ⟨r, 9, none⟩ = some (.pointer (some ⟨tr, 0, none⟩)))) := Lib.hid (fun X hX => by
    obtain ⟨a0, a1, a2, a3, a4, a5, a6, a7, -, a9, -⟩ := (hp.below hX).cells
    obtain ⟨b0, b1, b2, b3, b4, b5, b6, b7, -, b9, -⟩ := (hq.below hX).cells
    exact ⟨⟨a0, a1, a2, a3, a4, a5, a6, a7, a9⟩, b0, b1, b2, b3, b4, b5, b6, b7, b9⟩)
  have HS2 : Hid (∀ X, Below w.heap.size w X → X.cell? ⟨s, 8, none⟩ = some (.pointer (some ⟨lb, 0, none⟩)) ∧ X.cell? ⟨s, 10, none⟩ = some (.pointer (some ⟨cb, 0, none⟩))) := Lib.hid (fun X hX => by
    obtain ⟨-, -, -, -, -, -, -, -, a8, -, a10⟩ := (hp.below hX).cells
    exact ⟨a8, a10⟩)
  obtain ⟨da, dc, -, hda⟩ := hq.subs.held
  obtain ⟨vi, hgi, hoi, -⟩ := hq.came
  obtain ⟨ia, ic, rfl, hri, -, -⟩ := ownsRow_row hoi
  have HS3 : Hid (∀ X, Below w.heap.size w X → X.cell? ⟨r, 8, none⟩ = some (.pointer (some ⟨lr, 0, none⟩)) ∧ X.cell? ⟨r, 10, none⟩ = some (.pointer (some ⟨cr, 0, none⟩)) ∧ X.cell? ⟨lr, 0, none⟩ = some (.slice da x.l.length dc) ∧ X.cell? ⟨cr, 0, none⟩ = some (.slice ia x.came.length ic) ∧ Row X da (subsV x.l) ∧ Row X ia (u16s x.came)) := Lib.hid (fun X hX => by
    obtain ⟨-, -, -, -, -, -, -, -, b8, -, b10⟩ := (hq.below hX).cells
    obtain ⟨d0, dr⟩ := hda X hX
    exact ⟨b8, b10, d0, cell_of_row _ _ 0 _ _ _ ((hX.block cr (Array.getElem?_eq_some_iff.1 hgi).1).trans hgi), dr, hri.below hX (Nat.le_refl _)⟩)
  clear hp hq h hlS hoS hda hgi hoi hri
  go_enter Tryz.func11, Tryz.ntmps11
  go_upto_region 1 with fail
  have hcmp := fun w => mneq_same x.will.t x.will.p x.will.q x.will.r w
  refine wp_region_held_drew (S := fun X => (X.cell? ⟨s, 0, none⟩ = some (.string x.client) ∧ X.cell? ⟨s, 1, none⟩ = some (.int .i64 x.conn) ∧ X.cell? ⟨s, 2, none⟩ = some (.bool x.clean) ∧ X.cell? ⟨s, 3, none⟩ = some (.string x.will.t) ∧ X.cell? ⟨s, 4, none⟩ = some (.string x.will.p) ∧ X.cell? ⟨s, 5, none⟩ = some (.int .u8 x.will.q) ∧ X.cell? ⟨s, 6, none⟩ = some (.bool x.will.r) ∧ X.cell? ⟨s, 7, none⟩ = some (.bool x.has) ∧ X.cell? ⟨s, 9, none⟩ = some (.pointer (some ⟨tb, 0, none⟩))) ∧ (X.cell? ⟨r, 0, none⟩ = some (.string x.client) ∧ X.cell? ⟨r, 1, none⟩ = some (.int .i64 x.conn) ∧ X.cell? ⟨r, 2, none⟩ = some (.bool x.clean) ∧ X.cell? ⟨r, 3, none⟩ = some (.string x.will.t) ∧ X.cell? ⟨r, 4, none⟩ = some (.string x.will.p) ∧ X.cell? ⟨r, 5, none⟩ = some (.int .u8 x.will.q) ∧ X.cell? ⟨r, 6, none⟩ = some (.bool x.will.r) ∧ X.cell? ⟨r, 7, none⟩ = some (.bool x.has) ∧ X.cell? ⟨r, 9, none⟩ = some (.pointer (some ⟨tr, 0, none⟩)))) (by kernel_rfl) (HS.out _ (Below.refl _ _).drew) (fun hHeld => ?_)
  refine tk 0 (v := ?_) ?_ hHeld ?_; rotate_left; · (intro w0 hS0; (try dsimp only at hS0); go_simp; try with_reducible rfl)
  simp only [tks]
  refine tk 1 (v := ?_) ?_ hHeld ?_; rotate_left; · (intro w0 hS0; (try dsimp only at hS0); go_simp; try with_reducible rfl)
  simp only [tks]
  refine tk 2 (v := ?_) ?_ hHeld ?_; rotate_left; · (intro w0 hS0; (try dsimp only at hS0); go_simp; try with_reducible rfl)
  simp only [tks]
  refine tk 3 (v := ?_) ?_ hHeld ?_; rotate_left; · (intro w0 hS0; (try dsimp only at hS0); go_simp; try with_reducible rfl)
  simp only [tks]
  refine tk 4 (v := ?_) ?_ hHeld ?_; rotate_left; · (intro w0 hS0; (try dsimp only at hS0); go_simp; try with_reducible rfl)
  simp only [tks]
  refine tk 5 (v := ?_) ?_ hHeld ?_; rotate_left; · (intro w0 hS0; (try dsimp only at hS0); go_simp; try with_reducible rfl)
  simp only [tks]
  refine tk 6 (v := ?_) ?_ hHeld ?_; rotate_left; · (intro w0 hS0; (try dsimp only at hS0); go_simp; try with_reducible rfl)
  simp only [tks]
  refine tk 7 (v := ?_) ?_ hHeld ?_; rotate_left; · (intro w0 hS0; (try dsimp only at hS0); go_simp; try with_reducible rfl)
  simp only [tks]
  refine tk 8 (v := ?_) ?_ hHeld ?_; rotate_left; · (intro w0 hS0; (try dsimp only at hS0); go_simp; try with_reducible rfl)
  simp only [tks]
  refine tk 9 (v := ?_) ?_ hHeld ?_; rotate_left; · (intro w0 hS0; (try dsimp only at hS0); go_simp; try with_reducible rfl)
  simp only [tks]
  refine tk 10 (v := ?_) ?_ hHeld ?_; rotate_left; · (intro w0 hS0; (try dsimp only at hS0); go_simp; try with_reducible rfl)
  simp only [tks]
  refine tk 11 (v := ?_) ?_ hHeld ?_; rotate_left; · (intro w0 hS0; (try dsimp only at hS0); go_simp; try with_reducible rfl)
  simp only [tks]
  refine tk 12 (v := ?_) ?_ hHeld ?_; rotate_left; · (intro w0 hS0; (try dsimp only at hS0); go_simp; try with_reducible rfl)
  simp only [tks]
  refine tk 13 (v := ?_) ?_ hHeld ?_; rotate_left; · (intro w0 hS0; (try dsimp only at hS0); go_simp; try with_reducible rfl)
  simp only [tks]
  refine tk 14 (v := ?_) ?_ hHeld ?_; rotate_left; · (intro w0 hS0; (try dsimp only at hS0); go_simp; try with_reducible rfl)
  simp only [tks]
  refine tk 15 (v := ?_) ?_ hHeld ?_; rotate_left; · (intro w0 hS0; (try dsimp only at hS0); go_simp; try with_reducible rfl)
  simp only [tks]
  refine tk 16 (v := ?_) ?_ hHeld ?_; rotate_left; · (intro w0 hS0; (try dsimp only at hS0); go_simp; try with_reducible rfl)
  simp only [tks]
  refine tk 17 (v := ?_) ?_ hHeld ?_; rotate_left; · (intro w0 hS0; (try dsimp only at hS0); go_simp; try with_reducible rfl)
  simp only [tks]
  refine tk 18 (v := ?_) ?_ hHeld ?_; rotate_left; · (intro w0 hS0; (try dsimp only at hS0); go_simp; try with_reducible rfl)
  simp only [tks]
  refine tk 19 (v := ?_) ?_ hHeld ?_; rotate_left; · (intro w0 hS0; (try dsimp only at hS0); go_simp; try with_reducible rfl)
  simp only [tks]
  refine tk 20 (v := ?_) ?_ hHeld ?_; rotate_left; · (intro w0 hS0; (try dsimp only at hS0); go_simp; try with_reducible rfl)
  simp only [tks]
  refine tk 21 (v := ?_) ?_ hHeld ?_; rotate_left; · (intro w0 hS0; (try dsimp only at hS0); go_simp; try with_reducible rfl)
  simp only [tks]
  refine tk 22 (v := ?_) ?_ hHeld ?_; rotate_left; · (intro w0 hS0; (try dsimp only at hS0); go_simp; try with_reducible rfl)
  simp only [tks]
  refine tk 23 (v := ?_) ?_ hHeld ?_; rotate_left; · (intro w0 hS0; (try dsimp only at hS0); go_simp; try with_reducible rfl)
  simp only [tks]
  refine tk 24 (v := ?_) ?_ hHeld ?_; rotate_left; · (intro w0 hS0; (try dsimp only at hS0); go_simp; try with_reducible rfl)
  simp only [tks]
  refine tk 25 (v := ?_) ?_ hHeld ?_; rotate_left; · (intro w0 hS0; (try dsimp only at hS0); go_simp; try with_reducible rfl)
  simp only [tks]
  refine tk 26 (v := ?_) ?_ hHeld ?_; rotate_left; · (intro w0 hS0; (try dsimp only at hS0); go_simp; try with_reducible rfl)
  simp only [tks]
  refine tk 27 (v := ?_) ?_ hHeld ?_; rotate_left; · (intro w0 hS0; (try dsimp only at hS0); go_simp; try with_reducible rfl)
  simp only [tks]
  refine tk 28 (v := ?_) ?_ hHeld ?_; rotate_left; · (intro w0 hS0; (try dsimp only at hS0); go_simp; try with_reducible rfl)
  simp only [tks]
  refine tk 29 (v := ?_) ?_ hHeld ?_; rotate_left; · (intro w0 hS0; (try dsimp only at hS0); go_simp; try with_reducible rfl)
  simp only [tks]
  refine tk 30 (v := ?_) ?_ hHeld ?_; rotate_left; · (intro w0 hS0; (try dsimp only at hS0); go_simp; try with_reducible rfl)
  simp only [tks]
  refine tk 31 (v := ?_) ?_ hHeld ?_; rotate_left; · (intro w0 hS0; (try dsimp only at hS0); go_simp; try with_reducible rfl)
  simp only [tks]
  refine tk 32 (v := ?_) ?_ hHeld ?_; rotate_left; · (intro w0 hS0; (try dsimp only at hS0); go_simp; try with_reducible rfl)
  simp only [tks]
  refine tk 33 (v := ?_) ?_ hHeld ?_; rotate_left; · (intro w0 hS0; (try dsimp only at hS0); go_simp; try with_reducible rfl)
  simp only [tks]
  refine tk 34 (v := ?_) ?_ hHeld ?_; rotate_left; · (intro w0 hS0; (try dsimp only at hS0); go_simp; try with_reducible rfl)
  simp only [tks]
  refine tk 35 (v := ?_) ?_ hHeld ?_; rotate_left; · (intro w0 hS0; (try dsimp only at hS0); go_simp; try with_reducible rfl)
  simp only [tks]
  refine tk 36 (v := ?_) ?_ hHeld ?_; rotate_left; · (intro w0 hS0; (try dsimp only at hS0); go_simp; try with_reducible rfl)
  simp only [tks]
  refine tk 37 (v := ?_) ?_ hHeld ?_; rotate_left; · (intro w0 hS0; (try dsimp only at hS0); go_simp; try with_reducible rfl)
  simp only [tks]
  refine tk 38 (v := ?_) ?_ hHeld ?_; rotate_left; · (intro w0 hS0; (try dsimp only at hS0); go_simp; try with_reducible rfl)
  simp only [tks]
  refine tk 39 (v := ?_) ?_ hHeld ?_; rotate_left; · (intro w0 hS0; (try dsimp only at hS0); go_simp; try with_reducible rfl)
  simp only [tks]
  refine tk 40 (v := ?_) ?_ hHeld ?_; rotate_left; · (intro w0 hS0; (try dsimp only at hS0); go_simp; try with_reducible rfl)
  simp only [tks]
  refine tk 41 (v := ?_) ?_ hHeld ?_; rotate_left; · (intro w0 hS0; (try dsimp only at hS0); go_simp; try with_reducible rfl)
  simp only [tks]
  refine tk 42 (v := ?_) ?_ hHeld ?_; rotate_left; · (intro w0 hS0; (try dsimp only at hS0); go_simp; try with_reducible rfl)
  simp only [tks]
  refine tk 43 (v := ?_) ?_ hHeld ?_; rotate_left; · (intro w0 hS0; (try dsimp only at hS0); go_simp; try with_reducible rfl)
  simp only [tks]
  refine tk 44 (v := ?_) ?_ hHeld ?_; rotate_left; · (intro w0 hS0; (try dsimp only at hS0); go_simp; try with_reducible rfl)
  simp only [tks]
  refine tk 45 (v := ?_) ?_ hHeld ?_; rotate_left; · (intro w0 hS0; (try dsimp only at hS0); go_simp; try with_reducible rfl)
  simp only [tks]
  refine tk 46 (v := ?_) ?_ hHeld ?_; rotate_left; · (intro w0 hS0; (try dsimp only at hS0); go_simp; try with_reducible rfl)
  simp only [tks]
  refine tk 47 (v := ?_) ?_ hHeld ?_; rotate_left; · (intro w0 hS0; (try dsimp only at hS0); go_simp; try with_reducible rfl)
  simp only [tks]
  refine tk 48 (v := ?_) ?_ hHeld ?_; rotate_left; · (intro w0 hS0; (try dsimp only at hS0); go_simp; try with_reducible rfl)
  simp only [tks]
  refine tk 49 (v := ?_) ?_ hHeld ?_; rotate_left; · (intro w0 hS0; (try dsimp only at hS0); go_simp; try with_reducible rfl)
  simp only [tks]
  refine tk 50 (v := ?_) ?_ hHeld ?_; rotate_left; · (intro w0 hS0; (try dsimp only at hS0); go_simp; try with_reducible rfl)
  simp only [tks]
  refine tk 51 (v := ?_) ?_ hHeld ?_; rotate_left; · (intro w0 hS0; (try dsimp only at hS0); go_simp; try with_reducible rfl)
  simp only [tks]
  refine tk 52 (v := ?_) ?_ hHeld ?_; rotate_left; · (intro w0 hS0; (try dsimp only at hS0); go_simp; try with_reducible rfl)
  simp only [tks]
  refine tk 53 (v := ?_) ?_ hHeld ?_; rotate_left; · (intro w0 hS0; (try dsimp only at hS0); go_simp; try with_reducible rfl)
  simp only [tks]
  refine tk 54 (v := ?_) ?_ hHeld ?_; rotate_left; · (intro w0 hS0; (try dsimp only at hS0); go_simp; try with_reducible rfl)
  simp only [tks]
  refine tk 55 (v := ?_) ?_ hHeld ?_; rotate_left; · (intro w0 hS0; (try dsimp only at hS0); go_simp; try with_reducible rfl)
  simp only [tks]
  refine tk 56 (v := ?_) ?_ hHeld ?_; rotate_left; · (intro w0 hS0; (try dsimp only at hS0); go_simp; try with_reducible rfl)
  simp only [tks]
  refine tk 57 (v := ?_) ?_ hHeld ?_; rotate_left; · (intro w0 hS0; (try dsimp only at hS0); go_simp; try with_reducible rfl)
  simp only [tks]
  refine tk 59 (v := ?_) ?_ hHeld ?_; rotate_left; · (intro w0 hS0; (try dsimp only at hS0); go_simp; try with_reducible rfl)
  simp only [tks]
  refine tk 60 (v := ?_) ?_ hHeld ?_; rotate_left; · (intro w0 hS0; (try dsimp only at hS0); go_simp; try with_reducible rfl)
  simp only [tks]
  refine tk 61 (v := ?_) ?_ hHeld ?_; rotate_left; · (intro w0 hS0; (try dsimp only at hS0); go_simp; try with_reducible rfl)
  simp only [tks]
  refine tk 62 (v := ?_) ?_ hHeld ?_; rotate_left; · (intro w0 hS0; (try dsimp only at hS0); go_simp; try with_reducible rfl)
  simp only [tks]
  refine wpAnyH_ready (rs := [58]) (by kernel_rfl) (by simp) ?_
  refine AllReadyH.cons rfl (fun K hK => ?_) AllReadyH.nil
  rw [if_pos (by kernel_rfl)]
  go_simp
  go_at_call 19
  refine (flight_any tb win most x.o FO _ (HPA.out _ (Below.refl _ _).drew).out).mono ?_
  rintro e w1 ⟨rfl, hw1⟩
  have HB1 : Hid (Below w.heap.size w w1) := Lib.hid (by rw [← hw1]; exact (Below.refl _ _).drew)
  clear hw1
  refine hK.out _ _ (HS.out _ HB1.out) (fun hHeld => ?_)
  refine wpAnyH_ready (rs := [63]) (by kernel_rfl) (by simp) ?_
  refine AllReadyH.cons rfl (fun K hK => ?_) AllReadyH.nil
  rw [if_pos (by kernel_rfl)]
  go_simp
  go_at_call 51
  refine (dflight_any tr win most x.o GO _ (HQA.out _ HB1.out).out).mono ?_
  rintro e w2 ⟨rfl, hw2⟩
  have HB2 : Hid (Below w.heap.size w w2) := Lib.hid (by rw [← hw2]; exact HB1.out)
  clear hw2
  refine hK.out _ _ (HS.out _ HB2.out) (fun hHeld => ?_)
  refine tk 64 (v := ?_) ?_ hHeld ?_; rotate_left; · (intro w0 hS0; (try dsimp only at hS0); go_simp; try with_reducible rfl)
  simp only [tks]
  refine tk 65 (v := ?_) ?_ hHeld ?_; rotate_left; · (intro w0 hS0; (try dsimp only at hS0); go_simp; try with_reducible rfl)
  simp only [tks]
  refine tk 66 (v := ?_) ?_ hHeld ?_; rotate_left; · (intro w0 hS0; (try dsimp only at hS0); go_simp; try with_reducible rfl)
  simp only [tks]
  refine tk 67 (v := ?_) ?_ hHeld ?_; rotate_left; · (intro w0 hS0; (try dsimp only at hS0); go_simp; try with_reducible rfl)
  simp only [tks]
  refine tk 68 (v := ?_) ?_ hHeld ?_; rotate_left; · (intro w0 hS0; (try dsimp only at hS0); go_simp; try with_reducible rfl)
  simp only [tks]
  refine tk 69 (v := ?_) ?_ hHeld ?_; rotate_left; · (intro w0 hS0; (try dsimp only at hS0); go_simp; try with_reducible rfl)
  simp only [tks]
  refine tk 70 (v := ?_) ?_ hHeld ?_; rotate_left; · (intro w0 hS0; (try dsimp only at hS0); go_simp; try with_reducible rfl)
  simp only [tks]
  refine tk 72 (v := ?_) ?_ hHeld ?_; rotate_left; · (intro w0 hS0; (try dsimp only at hS0); go_simp; try with_reducible rfl)
  simp only [tks]
  refine tk 73 (v := ?_) ?_ hHeld ?_; rotate_left; · (intro w0 hS0; (try dsimp only at hS0); go_simp; try with_reducible rfl)
  simp only [tks]
  refine tk 74 (v := ?_) ?_ hHeld ?_; rotate_left; · (intro w0 hS0; (try dsimp only at hS0); go_simp; try with_reducible rfl)
  simp only [tks]
  refine tk 75 (v := ?_) ?_ hHeld ?_; rotate_left; · (intro w0 hS0; (try dsimp only at hS0); go_simp; try with_reducible rfl)
  simp only [tks]
  refine wpAnyH_ready (rs := [71]) (by kernel_rfl) (by simp) ?_
  refine AllReadyH.cons rfl (fun K hK => ?_) AllReadyH.nil
  rw [if_pos (by kernel_rfl)]
  go_simp
  go_at_call 25
  refine (waits_any tb win most x.o FO _ (HPA.out _ HB2.out).out).mono ?_
  rintro e w3 ⟨rfl, hk⟩
  have HB3 : Hid (Below w.heap.size w w3) := Lib.hid (HB2.out.trans (hk.mono HB2.out.size))
  clear hk
  refine hK.out _ _ (HS.out _ HB3.out) (fun hHeld => ?_)
  refine wpAnyH_ready (rs := [76]) (by kernel_rfl) (by simp) ?_
  refine AllReadyH.cons rfl (fun K hK => ?_) AllReadyH.nil
  rw [if_pos (by kernel_rfl)]
  go_simp
  go_at_call 52
  refine (dwaits_any tr win most x.o GO _ (HQA.out _ HB3.out).out).mono ?_
  rintro e w4 ⟨rfl, hw4⟩
  have HB4 : Hid (Below w.heap.size w w4) := Lib.hid (by rw [← hw4]; exact HB3.out)
  clear hw4
  refine hK.out _ _ (HS.out _ HB4.out) (fun hHeld => ?_)
  refine tk 77 (v := ?_) ?_ hHeld ?_; rotate_left; · (intro w0 hS0; (try dsimp only at hS0); go_simp; try with_reducible rfl)
  simp only [tks]
  refine tk 78 (v := ?_) ?_ hHeld ?_; rotate_left; · (intro w0 hS0; (try dsimp only at hS0); go_simp; try with_reducible rfl)
  simp only [tks]
  refine wpAnyH_done (by kernel_rfl) ?_ _
  clear hHeld hcmp
  go_upto_region 3 with fail
  refine wp_region_held_drew (S := fun X => X.cell? ⟨s, 8, none⟩ = some (.pointer (some ⟨lb, 0, none⟩)) ∧ X.cell? ⟨s, 10, none⟩ = some (.pointer (some ⟨cb, 0, none⟩))) (by kernel_rfl) (HS2.out _ HB4.out.drew) (fun hHeld => ?_)
  refine tk 0 (v := ?_) ?_ hHeld ?_; rotate_left; · (intro w0 hS0; (try dsimp only at hS0); go_simp; try with_reducible rfl)
  simp only [tks]
  refine tk 1 (v := ?_) ?_ hHeld ?_; rotate_left; · (intro w0 hS0; (try dsimp only at hS0); go_simp; try with_reducible rfl)
  simp only [tks]
  refine tk 2 (v := ?_) ?_ hHeld ?_; rotate_left; · (intro w0 hS0; (try dsimp only at hS0); go_simp; try with_reducible rfl)
  simp only [tks]
  refine tk 3 (v := ?_) ?_ hHeld ?_; rotate_left; · (intro w0 hS0; (try dsimp only at hS0); go_simp; try with_reducible rfl)
  simp only [tks]
  refine tk 5 (v := ?_) ?_ hHeld ?_; rotate_left; · (intro w0 hS0; (try dsimp only at hS0); go_simp; try with_reducible rfl)
  simp only [tks]
  refine tk 6 (v := ?_) ?_ hHeld ?_; rotate_left; · (intro w0 hS0; (try dsimp only at hS0); go_simp; try with_reducible rfl)
  simp only [tks]
  refine tk 7 (v := ?_) ?_ hHeld ?_; rotate_left; · (intro w0 hS0; (try dsimp only at hS0); go_simp; try with_reducible rfl)
  simp only [tks]
  refine tk 8 (v := ?_) ?_ hHeld ?_; rotate_left; · (intro w0 hS0; (try dsimp only at hS0); go_simp; try with_reducible rfl)
  simp only [tks]
  refine wpAnyH_ready (rs := [4]) (by kernel_rfl) (by simp) ?_
  refine AllReadyH.cons rfl (fun K hK => ?_) AllReadyH.nil
  rw [if_pos (by kernel_rfl)]
  go_simp
  go_at_call 26
  refine (subs_any lb x.l FL _ (HPA.out _ HB4.out.drew).subs).mono ?_
  rintro e w5 ⟨v1, rfl, ho, hk⟩
  have HB5 : Hid (Below w.heap.size w w5) := Lib.hid (HB4.out.drew.trans (hk.mono HB4.out.size))
  obtain ⟨sa, sc, rfl, hr1, -, -⟩ := ownsRow_row ho
  have HR1 := Lib.hid hr1
  clear ho hk hr1
  refine hK.out _ _ (HS2.out _ HB5.out) (fun hHeld => ?_)
  refine wpAnyH_ready (rs := [9]) (by kernel_rfl) (by simp) ?_
  refine AllReadyH.cons rfl (fun K hK => ?_) AllReadyH.nil
  rw [if_pos (by kernel_rfl)]
  go_simp
  go_at_call 53
  refine (copen cb x.came FC _ (HPA.out _ HB5.out).came).mono ?_
  rintro e w6 ⟨v2, rfl, ho, hk⟩
  have HB6 : Hid (Below w.heap.size w w6) := Lib.hid (HB5.out.trans (hk.mono HB5.out.size))
  obtain ⟨oa, oc, rfl, hr2, -, -⟩ := ownsRow_row ho
  have HR16 := Lib.hid (HR1.out.below hk (Nat.le_refl _))
  have HR2 := Lib.hid hr2
  clear ho hk hr2
  refine hK.out _ _ (HS2.out _ HB6.out) (fun hHeld => ?_)
  refine tk 10 (v := ?_) ?_ hHeld ?_; rotate_left; · (intro w0 hS0; (try dsimp only at hS0); go_simp; try with_reducible rfl)
  simp only [tks]
  refine tk 11 (v := ?_) ?_ hHeld ?_; rotate_left; · (intro w0 hS0; (try dsimp only at hS0); go_simp; try with_reducible rfl)
  simp only [tks]
  refine wpAnyH_done (by kernel_rfl) ?_ _
  clear hHeld
  obtain ⟨m8, m10, d0, i0, -, -⟩ := HS3.out _ HB6.out
  go_wp2_with fail
  clear m8 m10 d0 i0
  go_loopw [7] (fun i wr => ∃ k : Nat, i = .int .i64 k ∧ k ≤ x.l.length ∧ Below w6.heap.size w6 wr) (fun i _ => (x.l.length - intOf i).toNat)
  case atStart => exact ⟨0, rfl, by omega, Below.refl _ _⟩
  case round =>
    obtain ⟨k, rfl, hk, hbr⟩ := hrel
    have HBR := Lib.hid hbr
    obtain ⟨m8, m10, d0, i0, hd, hi⟩ := HS3.out _ (HB6.out.trans (hbr.mono HB6.out.size))
    have h16 := HL16.out
    by_cases hlt : k < x.l.length
    · obtain ⟨x1, o1, rfl, e0, e1⟩ := subs_row (HR16.out.below hbr (Nat.le_refl _)) hlt
      obtain ⟨x2, o2, rfl, f0, f1⟩ := subs_row hd hlt
      have hk0 : (0 : Int) ≤ k := by omega
      have hkl : (k : Int) < x.l.length := by omega
      have hw1 : IntKind.i64.wrap ((k : Int) + 1) = (k : Int) + 1 := w_i64 _ (by omega) (by omega)
      generalize x.l[k] = z at *
      obtain ⟨zf, zq⟩ := z
      dsimp only at *
      have hcmp := fun w => sub_neq ⟨zf.toArray⟩ zq w
      clear hbr hd hi i0 m10 h16
      go_wp2_with fail
      go_quiet (fail)
      go_wp2_with fail
      go_roundw
      case rel => exact ⟨k + 1, by go_num, by omega, HBR.out.trans (below_draws _)⟩
      case measure => simp [intOf]; omega
    · have hkl : ¬ (k : Int) < x.l.length := by omega
      clear hbr hd hi i0 m10 d0 m8 h16
      go_wp2_with fail
      clear hlt hkl hk
      generalize wr = w7 at *
      have HB7 := Lib.hid (HB6.out.trans (HBR.out.mono HB6.out.size))
      have HR27 := Lib.hid (HR2.out.below HBR.out (Nat.le_refl _))
      go_loopw [8] (fun i wr => ∃ k : Nat, i = .int .i64 k ∧ k ≤ x.came.length ∧ Below w7.heap.size w7 wr) (fun i _ => (x.came.length - intOf i).toNat)
      case atStart => exact ⟨0, rfl, by omega, Below.refl _ _⟩
      case round =>
        obtain ⟨k, rfl, hk, hbr⟩ := hrel
        replace HBR := Lib.hid hbr
        obtain ⟨m8, m10, d0, i0, hd, hi⟩ := HS3.out _ (HB7.out.trans (hbr.mono HB7.out.size))
        have h16 := HLC.out
        by_cases hlt : k < x.came.length
        · obtain ⟨x1, o1, rfl, e0⟩ := row_at (HR27.out.below hbr (Nat.le_refl _)) (List.getElem?_eq_getElem hlt)
          obtain ⟨x2, o2, rfl, f0⟩ := row_at hi (List.getElem?_eq_getElem hlt)
          have hk0 : (0 : Int) ≤ k := by omega
          have hkl : (k : Int) < x.came.length := by omega
          have hw1 : IntKind.i64.wrap ((k : Int) + 1) = (k : Int) + 1 := w_i64 _ (by omega) (by omega)
          generalize x.came[k] = z at *
          clear hbr hd hi d0 m8 h16
          go_wp2_with fail
          go_quiet (fail)
          go_wp2_with fail
          go_roundw
          case rel => exact ⟨k + 1, by go_num, by omega, HBR.out.trans (below_draws _)⟩
          case measure => simp [intOf]; omega
        · have hkl : ¬ (k : Int) < x.came.length := by omega
          clear hbr hd hi d0 m8 m10 i0 h16
          go_wp2_with fail
          go_ret
          exact ⟨rfl, HB7.out.trans (HBR.out.mono HB7.out.size)⟩
end
section
open Go Go.RowKit

theorem sd_new {W w1 w2 : World} {s r : Nat} {win most : Int} {x : SS} {F G : List Nat} (h : Se W w1 s win most x F) (hr : DSesRep w2 r win most x G) (hu : Upd [] G w1 w2) : Sd W w2 s r win most x x F G := by
  have hb3 : Below w1.heap.size w1 w2 := hu.1.below (Nat.le_refl _) (by simp)
  have hne : ∀ k ∈ G, w1.heap.size ≤ k := fun k hk => (hu.2 k hk).elim (by simp) id
  have h3 := h.below hb3
  exact ⟨h3, ⟨h3.bel, hr, fun k hk => Nat.le_trans h.bel.size (hne k hk)⟩, fun k hk hk' => by
    have := h.rep.lt k hk
    have := hne k hk'
    omega⟩
set_option maxRecDepth 100000 in
set_option maxHeartbeats 8000000 in
theorem plays18_any (W : World) (hT : Tabs W) (hB : Bru W) (cl : ByteArray) (a1 a2 a3 most win : Int) (a : Option Addr) (c : Nat) (l : List ActS) (hl : Row W a (actsV l)) (hll : l.length ≤ maxLen) (hlp : ∀ x ∈ l, ActPre W x) :
    Calls Tryz.prog 3 #[.string cl, .agg #[.int .i64 a1, .int .i64 a2, .int .i64 a3, .int .i64 most, .int .i64 win], .slice a l.length c] W fun e w' => e = .returned (.bool true) ∧ Below W.heap.size W w' := by
  obtain ⟨V, hV⟩ : ∃ V, W.alloc (.cells #[.int .i64 a1, .int .i64 a2, .int .i64 a3, .int .i64 most, .int .i64 win] 23) = V := ⟨_, rfl⟩
  have hbv : Below W.heap.size W V := by rw [← hV]; exact low_alloc _ _
  have hxv : V.heap[W.heap.size]? = some (.cells #[.int .i64 a1, .int .i64 a2, .int .i64 a3, .int .i64 most, .int .i64 win] 23 (0, 0)) := by rw [← hV]; exact heap_alloc_new _ _
  have HBV := Lib.hid hbv
  have HT := Lib.hid hT
  have HB := Lib.hid hB
  have HL : Hid (∀ X, Below W.heap.size W X → Row X a (actsV l)) := Lib.hid (fun X hX => hl.below hX (Nat.le_refl _))
  have HLP := Lib.hid hlp
  have HGL := Lib.hid (great18_any a c l V (hl.below hbv (Nat.le_refl _)) hll (fun x hx => ⟨(hlp x hx).k0, (hlp x hx).k1, (hlp x hx).q0, (hlp x hx).q1, (hlp x hx).mq, (hlp x hx).i0, (hlp x hx).i1, (hlp x hx).ms, (hlp x hx).row.below hbv (Nat.le_refl _), (hlp x hx).rl⟩))
  have HAW := Lib.hid (fun X (hX : Below W.heap.size W X) => awake_any X (hT.below hX))
  have HXV : Hid (∀ X, Below V.heap.size V X → X.cell? ⟨W.heap.size, 0, none⟩ = some (.int .i64 a1) ∧ X.cell? ⟨W.heap.size, 1, none⟩ = some (.int .i64 a2) ∧ X.cell? ⟨W.heap.size, 2, none⟩ = some (.int .i64 a3) ∧ X.cell? ⟨W.heap.size, 3, none⟩ = some (.int .i64 most) ∧ X.cell? ⟨W.heap.size, 4, none⟩ = some (.int .i64 win)) := Lib.hid (fun X hX => by
    have h := (hX.block W.heap.size (Array.getElem?_eq_some_iff.1 hxv).1).trans hxv
    exact ⟨cell_of_row _ _ 0 _ _ _ h, cell_of_row _ _ 1 _ _ _ h, cell_of_row _ _ 2 _ _ _ h, cell_of_row _ _ 3 _ _ _ h, cell_of_row _ _ 4 _ _ _ h⟩)
  clear hl hlp hbv hxv hT hB
  generalize hcz : cl.size = cz at *
  go_enter Tryz.func3, Tryz.ntmps3
  by_cases hcl : (300 : Int) < cz
  · go_wp2_with fail
    refine (HAW.out _ HBV.out).mono ?_
    rintro e w2 ⟨rfl, hk2⟩
    have HF := Lib.hid (bnext HBV.out (Nat.le_refl _) hk2)
    clear hk2
    go_wp2_with fail
    go_ret
    exact ⟨rfl, HF.out⟩
  go_wp2_with fail
  refine HGL.out.mono ?_
  rintro e w1 ⟨he, hk1⟩
  have HB1 := Lib.hid (bnext HBV.out (Nat.le_refl _) hk1)
  have HV1 := Lib.hid hk1
  clear hk1
  rcases he with rfl | ⟨rfl, hl200, hsl⟩
  · go_wp2_with fail
    refine (HAW.out _ HB1.out).mono ?_
    rintro e w2 ⟨rfl, hk2⟩
    have HF := Lib.hid (bnext HB1.out (Nat.le_refl _) hk2)
    clear hk2
    go_wp2_with fail
    go_ret
    exact ⟨rfl, HF.out⟩
  · have HLO : Hid (∀ x ∈ l, ActOk x) := Lib.hid (fun x hx => (HLP.out x hx).ok (hsl x hx).1 (hsl x hx).2)
    clear hsl
    go_upto_region 3 with fail
    refine wp_region_held_drew (S := fun X => X.cell? ⟨W.heap.size, 0, none⟩ = some (.int .i64 a1) ∧ X.cell? ⟨W.heap.size, 1, none⟩ = some (.int .i64 a2) ∧ X.cell? ⟨W.heap.size, 2, none⟩ = some (.int .i64 a3) ∧ X.cell? ⟨W.heap.size, 3, none⟩ = some (.int .i64 most) ∧ X.cell? ⟨W.heap.size, 4, none⟩ = some (.int .i64 win)) (by kernel_rfl) (HXV.out _ (by first | exact HV1.out | exact HV1.out.drew)) (fun hHeld => ?_)
    refine tk 0 (v := ?_) ?_ hHeld ?_; rotate_left; · (intro w0 hS0; (try dsimp only at hS0); go_simp; try with_reducible rfl)
    simp only [tks]
    refine tk 1 (v := ?_) ?_ hHeld ?_; rotate_left; · (intro w0 hS0; (try dsimp only at hS0); go_simp; try with_reducible rfl)
    simp only [tks]
    refine tk 3 (v := ?_) ?_ hHeld ?_; rotate_left; · (intro w0 hS0; (try dsimp only at hS0); go_simp; try with_reducible rfl)
    simp only [tks]
    refine tk 4 (v := ?_) ?_ hHeld ?_; rotate_left; · (intro w0 hS0; (try dsimp only at hS0); go_simp; try with_reducible rfl)
    simp only [tks]
    refine wpAnyH_ready (rs := [2]) (by kernel_rfl) (by simp) ?_
    refine AllReadyH.cons rfl (fun K hK => ?_) AllReadyH.nil
    rw [if_pos (by rfl)]
    go_simp
    go_at_call 8
    by_cases hcfg : (1 ≤ most ∧ most ≤ 1024) ∧ 1 ≤ win ∧ win ≤ 1024
    · refine (sesnew_any cl a1 a2 a3 most win _ hcfg.1 hcfg.2).mono ?_
      rintro e w3 ⟨s, F, rfl, hr3, hu3⟩
      have hs3 : Se W w3 s win most (SS.new cl) F := Se.new (HB1.out.drew) hr3 hu3
      have hk3 : Below w1.heap.size w1 w3 := ((Below.refl _ _).drew).trans (hu3.1.below (Nat.le_refl _) (by simp))
      refine hK.out _ _ (HXV.out _ (bnext HV1.out (Nat.le_refl _) hk3)) (fun hHeld => ?_)
      have HS3 := Lib.hid hs3
      have HV3 := Lib.hid (bnext HV1.out (Nat.le_refl _) hk3)
      clear hr3 hu3 hs3 hk3
      refine wpAnyH_ready (rs := [5]) (by kernel_rfl) (by simp) ?_
      refine AllReadyH.cons rfl (fun K hK => ?_) AllReadyH.nil
      rw [if_pos (by rfl)]
      go_simp
      go_at_call 9
      refine (dsesnew_any cl a1 a2 a3 most win _ hcfg.1 hcfg.2).mono ?_
      rintro e w4 ⟨r, G, rfl, hr4, hu4⟩
      have HS4 : Hid (Sd W w4 s r win most (SS.new cl) (SS.new cl) F G) := Lib.hid (sd_new HS3.out hr4 hu4)
      refine hK.out _ _ (HXV.out _ (bnext HV3.out (Nat.le_refl _) (hu4.1.below (Nat.le_refl _) (by simp)))) (fun hHeld => ?_)
      clear hr4 hu4
      refine tk 6 (v := ?_) ?_ hHeld ?_; rotate_left; · (intro w0 hS0; (try dsimp only at hS0); go_simp; try with_reducible rfl)
      simp only [tks]
      refine tk 7 (v := ?_) ?_ hHeld ?_; rotate_left; · (intro w0 hS0; (try dsimp only at hS0); go_simp; try with_reducible rfl)
      simp only [tks]
      refine wpAnyH_done (by kernel_rfl) ?_ _
      clear hHeld hcfg hcz hcl
      go_wp2_with fail
      go_loopw [9] (fun i wr => ∃ (k : Nat) (F' G' : List Nat), i = .int .i64 k ∧ k ≤ l.length ∧ Sd W wr s r win most (doAll win most (l.take k) (SS.new cl)) (doAll win most (l.take k) (SS.new cl)) F' G') (fun i _ => (l.length - intOf i).toNat)
      case atStart => exact ⟨0, F, G, rfl, by omega, HS4.out⟩
      case round =>
        obtain ⟨k, F', G', rfl, hk, hse⟩ := hrel
        have HSE := Lib.hid hse
        by_cases hlt : k < l.length
        · have hk0 : (0 : Int) ≤ k := by omega
          have hkl : (k : Int) < l.length := by omega
          have hw1 : IntKind.i64.wrap ((k : Int) + 1) = (k : Int) + 1 := w_i64 _ (by omega) (by omega)
          obtain ⟨ab, ao, rfl, hra⟩ := acts_at (HL.out _ hse.a.bel) hlt
          have HRA := Lib.hid hra
          have HOK := Lib.hid (HLO.out _ (List.getElem_mem hlt))
          have HSN := Lib.hid (doAll_snoc (win := win) (most := most) (x := SS.new cl) hlt)
          generalize l[k] = x at *
          generalize doAll win most (l.take k) (SS.new cl) = z at *
          have HDO := Lib.hid (step_any W s r z win most F' G' x wr HSE.out HOK.out HT.out HB.out)
          have HAS := Lib.hid (act_size x)
          generalize actC x = AC at *
          clear hse hra
          go_wp2_with (first
            | (refine wpList_loadMid rfl 41 _ rfl ab (ao + k * 32) rfl AC _ HRA.out Tryz.underlying41 rfl HAS.out _ rfl ?_)
            | fail)
          refine HDO.out.mono ?_
          rintro e w5 ⟨rfl, F5, G5, hs5⟩
          have HS5 := Lib.hid hs5
          clear hs5
          go_wp2_with fail
          refine (alike_any W s r (doS win most x z) win most F5 G5 w5 HS5.out).mono ?_
          rintro e w6 ⟨rfl, hk6⟩
          have HS6 := Lib.hid (HS5.out.below hk6)
          clear hk6
          go_wp2_with fail
          go_roundw
          case rel => exact ⟨k + 1, F5, G5, by go_num, by omega, by rw [HSN.out]; exact HS6.out⟩
          case measure => simp [intOf]; omega
        · have hkl : ¬ (k : Int) < l.length := by omega
          have HBE := Lib.hid hse.a.bel
          clear hse
          go_wp2_with fail
          refine (HAW.out _ HBE.out).mono ?_
          rintro e w2 ⟨rfl, hk2⟩
          have HF := Lib.hid (bnext HBE.out (Nat.le_refl _) hk2)
          clear hk2
          go_wp2_with fail
          go_ret
          exact ⟨rfl, HF.out⟩
    · have hbad : most < 1 ∨ 1024 < most ∨ win < 1 ∨ 1024 < win := by omega
      refine (sesnew_bad cl a1 a2 a3 most win _ hbad).mono ?_
      rintro e w3 ⟨rfl, hb3⟩
      have hk3 : Below w1.heap.size w1 w3 := bnext ((Below.refl _ _).drew) (Nat.le_refl _) hb3
      refine hK.out _ _ (HXV.out _ (bnext HV1.out (Nat.le_refl _) hk3)) (fun hHeld => ?_)
      have HV3 := Lib.hid (bnext HV1.out (Nat.le_refl _) hk3)
      have HB3 := Lib.hid (bnext HB1.out (Nat.le_refl _) hk3)
      clear hb3 hk3
      refine wpAnyH_ready (rs := [5]) (by kernel_rfl) (by simp) ?_
      refine AllReadyH.cons rfl (fun K hK => ?_) AllReadyH.nil
      rw [if_pos (by rfl)]
      go_simp
      go_at_call 9
      refine (dsesnew_bad cl a1 a2 a3 most win _ hbad).mono ?_
      rintro e w4 ⟨rfl, hb4⟩
      refine hK.out _ _ (HXV.out _ (bnext HV3.out (Nat.le_refl _) hb4)) (fun hHeld => ?_)
      have HB4 := Lib.hid (bnext HB3.out (Nat.le_refl _) hb4)
      clear hb4
      refine tk 6 (v := ?_) ?_ hHeld ?_; rotate_left; · (intro w0 hS0; (try dsimp only at hS0); go_simp; try with_reducible rfl)
      simp only [tks]
      refine tk 7 (v := ?_) ?_ hHeld ?_; rotate_left; · (intro w0 hS0; (try dsimp only at hS0); go_simp; try with_reducible rfl)
      simp only [tks]
      refine wpAnyH_done (by kernel_rfl) ?_ _
      clear hHeld hcfg hbad
      go_wp2_with fail
      refine (HAW.out _ HB4.out).mono ?_
      rintro e w5 ⟨rfl, hk5⟩
      have HF := Lib.hid (bnext HB4.out (Nat.le_refl _) hk5)
      clear hk5
      go_wp2_with fail
      go_ret
      exact ⟨rfl, HF.out⟩
end
end Go.Proofs.YtmkhagmjpbfieaaGreatDoor
