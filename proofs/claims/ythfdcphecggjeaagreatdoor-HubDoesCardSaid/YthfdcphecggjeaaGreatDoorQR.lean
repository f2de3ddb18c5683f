/- What is kept: the iterator over it, walked: for every loop body that keeps the cells it did not make, but its own. What is kept: All (by the library's Collect, AppendSeq), Find walked. What is kept: Find walked. -/
import Derived.RangeFuncNested
import Derived.RangeFuncBound
import Derived.RangeFuncCalls
import Derived.RangeFuncLeaves
import Derived.Shelf.Abstract
import Derived.Shelf.RegionOpen
import Derived.OwnWalkIn
import Derived.TacticsInMore
import Derived.LoopNIn
import Derived.LoopIn
import Derived.Maps.OwnIn
import Derived.Test.YthfdcphecggjeaaGreatDoorQQ
import Derived.Test.YthfdcphecggjeaaGreatDoorKIter
import Derived.Maps.AppendAt
import Derived.Deep.AppendLies
namespace Go.Proofs.YthfdcphecggjeaaGreatDoor
section
open Go Go.RowKit Go.Maps Go.Shelf

attribute [local go_sem] Oper.semAt_some

/-- 'm[k]': the walk goes on with some value of which hv says how it reads. -/
theorem wpListIn_look {H : Type} {F : Fence} {nF : Nat} {P : Program} (w : World) {ops : Array Oper} {rest : List Oper} {o : Oper} {a : Act} {Q : Exit → Act → World → Prop} (hg : o.guard = none) (m x : Operand) (t : TypeId) (hop : o.op = Op.lookup t m x false)
    (k e : TypeId) (K : Keyed P k) (ht : P.underlying t = some (.map k e)) (R : Value → Option (DataW H × List MemPlace)) {z : Value} (hz : (zeroValue e).run P w = .ok z w) (zd : DataW H) (zp : List MemPlace) (hzd : R z = some (zd, zp)) (b n : Nat) (D : DataW H)
    (hm : a.eval m = .map (some b)) (hown : w.ownsMap P k R b n D) (key : Value) (kl : Lit) (hx : a.eval x = key) (hkey : keyOf P k key = some kl)
    (hK : ∀ v ps, R v = some (D.atKey kl zd, ps) → wpListIn F nF P ops Q rest (a.put o.dst v) w) :
    wpListIn F nF P ops Q (o :: rest) a w := by
  refine wpListIn_plain hg fun K' hK' => ?_
  obtain ⟨v, ps, hrun, hv⟩ := hown.lookup K ht hz hzd hkey
  unfold Oper.wpIn
  refine ⟨by simp [Oper.about, hop], ?_⟩
  rw [Oper.semAt_plain F _ _ (by rw [hop]; intro c hc'; cases hc')]
  simp [execOp, hop, hm, hx, hrun, Result.andThen]
  exact hK' _ _ (hK v ps hv)

/-- What a round keeps: what lay below n₀; whatever cells are no messages, but the variable's that the loop collects into. -/
structure KeepsT (T : TypeId) (Bo n₀ : Nat) (W W' : World) : Prop where
  below : Below n₀ W W'
  cells : ∀ b cs t fr, b ≠ Bo → t ≠ T → W.heap[b]? = some (.cells cs t fr) → W'.heap[b]? = some (.cells cs t fr)
theorem keepsT_t {T : TypeId} {Bo n₀ : Nat} {A B C : World} (h : KeepsT T Bo n₀ A B) (k : KeepsT T Bo n₀ B C) : KeepsT T Bo n₀ A C :=
  ⟨h.below.trans k.below, fun b cs t fr h1 h2 h3 => k.cells b cs t fr h1 h2 (h.cells b cs t fr h1 h2 h3)⟩
theorem keepsT_b {T : TypeId} {Bo n₀ : Nat} {w : World} (hn : n₀ ≤ w.heap.size) (W : World) (l : Nat) (o o' : Obj) (hl : w.heap.size ≤ l) (h : W.heap[l]? = some o) (ho : o.isCells = false) (hw : o.isWalk = false) : KeepsT T Bo n₀ W (W.putObj l o') :=
  ⟨belowK_b hn W l o o' hl h ho hw, fun b cs t fr _ _ h3 => by
    have hne : b ≠ l := by rintro rfl; rw [h] at h3; cases h3; cases ho
    rw [(grownBy_putObj' W l o').block b (Array.getElem?_eq_some_iff.1 h3).1 (by simpa using hne)]; exact h3⟩
theorem KRep.low {w w' : World} {g n₀ : Nat} {l : List Msg} {F : List Nat} (h : KRep w g l F) (hk : Below n₀ w w') (hF : ∀ k ∈ F, k < n₀) : KRep w' g l F := by
  obtain ⟨b, D, hg, ⟨es, clock, hb, r⟩, h1, h2, rfl⟩ := h
  exact ⟨b, D, by rw [hk.block g (hF g (by simp))]; exact hg, ⟨es, clock, by rw [hk.block b (hF b (by simp))]; exact hb, r⟩, h1, h2, rfl⟩

theorem names_perm {w : World} {b n : Nat} {D : DataW Unit} {l : List Msg} (hown : w.ownsMap Tryz.prog 9 msgElem b n D) (h : Has D l) {ss : List (List UInt8)} (hp : ss.Perm (strKeys D)) : (ss.mergeSort fun x y => decide (x ≤ y)) = l.map Msg.k := by
  refine sort_keys h.2.2.2.keys (hp.trans ?_)
  obtain ⟨es, hD, hpw, _⟩ := hown.entries kS
  obtain ⟨es', hD', hko⟩ := hown.keysOf
  obtain rfl : es = es' := by rw [hD] at hD'; simpa using hD'
  subst hD
  exact (perm_strKeys hpw (fun p hp => by obtain ⟨v, hv⟩ := hko p hp; obtain ⟨x, _, hx, _⟩ := Maps.keyOf_str Tryz.underlying9 hv; exact ⟨x, hx⟩) (nodup_keys h.2.2.2.keys) (fun x => by rw [h.2.1 x, mem_get])).symm
theorem names_len {w : World} {b n : Nat} {D : DataW Unit} {l : List Msg} (hown : w.ownsMap Tryz.prog 9 msgElem b n D) (h : Has D l) (m : Msg) (hm : m ∈ l) : m.t.size ≤ maxLen := by
  obtain ⟨es, hD, hpw, _⟩ := hown.entries kS
  obtain ⟨es', hD', hko⟩ := hown.keysOf
  obtain rfl : es = es' := by rw [hD] at hD'; simpa using hD'
  subst hD
  have hh : Maps.has (.map es) (.string m.k) = true := by rw [h.2.1, get_of_mem h.2.2.2 hm]; rfl
  rw [Maps.has_eq, List.any_eq_true] at hh
  obtain ⟨p, hp, hs⟩ := hh
  obtain ⟨v, hv⟩ := hko p hp
  obtain ⟨x, _, hx, hl⟩ := Maps.keyOf_str Tryz.underlying9 hv
  rw [hx] at hs
  have : x = m.k := by simpa [Lit.sameKey] using hs
  subst this
  exact hl

theorem names_vals (l : List Msg) : (l.map Msg.k).map encStr = l.map fun m => Value.string m.t := by
  rw [List.map_map]
  refine List.map_congr_left fun m _ => ?_
  show Value.string ⟨m.t.data.toList.toArray⟩ = _
  rw [str_eta]
/-- What the iterator holds while it is under way. -/
structure RowsAt (T : TypeId) (W : World) (g Bk Bo base : Nat) (l : List Msg) (F : List Nat) (v : Value) : Prop where
  rep : KRep W g l F
  box : W.heap[Bk]? = some (.cells #[.pointer (some ⟨g, 0, none⟩)] T (0, 0))
  row : W.ownsRow base 9 1 v l.length (l.map fun m => .string m.t)
theorem RowsAt.next {T : TypeId} {W W' : World} {g Bk Bo base n₀ : Nat} {l : List Msg} {F : List Nat} {v : Value} (h : RowsAt T W g Bk Bo base l F v) (hk : KeepsT 24 Bo n₀ W W') (hF : ∀ k ∈ F, k < n₀) (hT : T ≠ 24) (hB : Bk ≠ Bo) (hb : Bo < base) : RowsAt T W' g Bk Bo base l F v := by
  refine ⟨h.rep.low hk.below hF, hk.cells _ _ _ _ hB hT h.box, ?_⟩
  have hr := h.row
  refine ⟨hr.1, ?_⟩
  rcases hr.2 with hn | ⟨b, cap, cur, rfl, hb', hgg, rest⟩
  · exact .inl hn
  · exact .inr ⟨b, cap, cur, rfl, hb', hk.cells _ _ _ _ (by omega) (by decide) hgg, rest⟩

set_option maxRecDepth 100000 in
set_option maxHeartbeats 2000000 in
theorem rows1_in (n l0 Bk Bo n₀ g : Nat) (l : List Msg) (F : List Nat) (hn : 1 ≤ n) (hF : ∀ k ∈ F, k < n₀) (hBB : Bk ≠ Bo) (hl : l.length < 1000000) (J Jx : List Msg → World → Prop)
    (hY : ∀ pre x W, x ∈ l → J pre W → pre.length < l.length → YieldAt Fence.wide (n - 1) Tryz.prog l0 #[Msg.val x] W fun e W' =>
      (e = .returned (.bool true) ∧ J (pre ++ [x]) W' ∧ KeepsT 24 Bo n₀ W W') ∨ (e = .returned (.bool false) ∧ Jx (pre ++ [x]) W'))
    (W : World) (hJ : AbidesFrom W.heap.size J) (hBo : Bo < W.heap.size) (hbox : W.heap[Bk]? = some (.cells #[.pointer (some ⟨g, 0, none⟩)] 64 (0, 0))) (hrep : KRep W g l F) (h0 : J [] W) :
    CallsIn Fence.wide n Tryz.prog 96 #[.func (.yield l0) #[] #[], .pointer (some ⟨Bk, 0, none⟩)] W fun e W' => (∃ v, e = .returned v) ∧
      ((∃ ys, ys = l ∧ J ys W') ∨ (∃ pre, True ∧ Jx pre W')) := by
  have hcb := cell_of_row W Bk 0 _ _ _ hbox
  simp only [List.getElem?_toArray, List.getElem?_cons_zero] at hcb
  have HREP := Lib.hid hrep
  have HBOX := Lib.hid hbox
  obtain ⟨b, D, hg, hown, hH, hne, hFe⟩ := hrep
  have hcg := cell_of_row W g 0 _ _ _ hg
  simp only [List.getElem?_toArray, List.getElem?_cons_zero] at hcg
  have hmax : Maps.size D ≤ maxLen := by rw [hH.1]; unfold maxLen; omega
  have hbytes : Maps.size D * 16 ≤ 140737488355328 := by rw [hH.1]; omega
  have HH := Lib.hid hH
  have HP := Lib.hid (fun (ss : List (List UInt8)) (hp : ss.Perm (strKeys D)) => names_perm hown hH hp)
  have HL := Lib.hid (names_len hown hH)
  clear hbox hg hH hFe hne
  have hfK : Fence.wide.fn 97 := trivial
  have hfS : Fence.wide.fn 58 := trivial
  refine callsIn_of_wp Tryz.func96 rfl trivial ?_ rfl
  simp only [Tryz.ntmps96, List.size_toArray, List.length_cons, List.length_nil, Nat.reduceAdd, Nat.reduceSub, Array.replicate_succ, Array.replicate_zero, List.push_toArray, List.append_toArray, List.nil_append, List.cons_append]
  gi_wp2_with (first
    | (gi_at_call 97; refine (callsIn_wide.2 (callsIn_wide.1 (Tryz.maps_Keys_97 _ _))).mono ?_; rintro e w' ⟨rfl, rfl⟩)
    | (gi_at_call 58; refine (callsIn_wide.2 (callsIn_wide.1 (Tryz.slices_Sorted_keys_58_97 b _ D msgElem W hown hmax hbytes))).mono ?_; rintro e w' ⟨v, ss, rfl, hS, hrow, -, hb⟩
       have hlen : ss.length = l.length := by have := congrArg List.length (HP.out ss hS); simpa using this
       rw [HP.out ss hS, hlen, names_vals, World.size_alloc] at hrow
       have hR := hrow
       obtain ⟨a, cap, rfl, -, -, -⟩ := ownsRow_row hrow
       have hbw : Below W.heap.size W w' := ((Below.refl _ W).alloc (Nat.le_refl _) _).trans (hb.mono (by simp))
       clear hrow hS hb hlen))
  have hRA : RowsAt 64 w' g Bk Bo (W.heap.size + 1) l F (.slice a l.length cap) :=
    ⟨HREP.out.below hbw, by rw [hbw.block Bk (Array.getElem?_eq_some_iff.1 HBOX.out).1]; exact HBOX.out, hR⟩
  have hJ1 : J [] w' := hJ [] W w' none h0 ⟨hbw.os, hbw.tape, hbw.output, hbw.size, fun k hk _ => hbw.block k hk⟩ (by simp)
  have HB2 := Lib.hid (show Bo < W.heap.size + 1 by omega)
  clear hR hbw hown hcb hcg h0 HREP HBOX hmax hbytes HP HH hJ
  gi_loopw [12] (fun i wr => ∃ k : Nat, i = .int .i64 k ∧ k ≤ l.length ∧ RowsAt 64 wr g Bk Bo (W.heap.size + 1) l F (.slice a l.length cap) ∧ J (l.take k) wr) (fun i _ => (l.length - intOf i).toNat)
  case atStart => exact ⟨0, rfl, by omega, hRA, by simpa using hJ1⟩
  case round =>
    obtain ⟨k, rfl, hkl, hA, hJk⟩ := hrel
    by_cases hlt : k < l.length
    · have hk0 : (0 : Int) ≤ k := by omega
      have hkL : (k : Int) < l.length := by omega
      obtain ⟨a', cap', hv, hrr, -, -⟩ := ownsRow_row hA.row
      cases hv
      obtain ⟨b1, o1, rfl, kc⟩ := hrr.at (j := k) (u := .string l[k].t) (by simp [hlt])
      obtain ⟨b, D, hg, hown, hH, hne, hFe⟩ := hA.rep
      have hcg := cell_of_row wr g 0 _ _ _ hg
      have hcb := cell_of_row wr Bk 0 _ _ _ hA.box
      simp only [List.getElem?_toArray, List.getElem?_cons_zero] at hcg hcb
      have hkey := WideMaps.keyOf_string_mk Tryz.underlying9 (HL.out l[k] (List.getElem_mem hlt))
      have hat := hH.2.2.1 _ _ (get_of_mem hH.2.2.2 (List.getElem_mem hlt)) Msg.none.dat
      have HAT := Lib.hid hat
      have hJJ : J (l.take k ++ [l[k]]) = J (l.take (k + 1)) := by rw [List.take_succ_eq_append_getElem hlt]
      obtain ⟨fn, tmps, assign, body, hy, hR⟩ := hY (l.take k) l[k] wr (List.getElem_mem hlt) hJk (by rw [List.length_take]; omega)
      rw [hJJ] at hR
      have HA := Lib.hid hA
      clear hA hJk hg hH hat hrr hFe hne
      generalize l[k] = x at *
      obtain ⟨mt, mp, mq, mr⟩ := x
      dsimp only [Msg.val, Msg.k] at *
      gi_wp2_with (gi_at_lookup; refine wpListIn_look _ rfl _ _ 97 rfl 9 24 kS Tryz.underlying97 msgElem (zeroMsg _) Msg.none.dat [] (msgElem_mk Msg.none) b _ D rfl hown _ _ rfl hkey ?_; intro v ps hv; rw [HAT.out] at hv; obtain rfl := msgElem_inv hv; dsimp only [Msg.val])
      refine hR.mono ?_
      clear hR hy hcg hcb kc hown hv hkey HAT
      rintro e W3 (⟨rfl, hJ3, hk3⟩ | ⟨rfl, hJx3⟩)
      · have HA3 := HA.out.next hk3 hF (by decide) hBB HB2.out
        gi_wp2
        go_roundw
        case rel => exact ⟨k + 1, by go_num, by omega, HA3, hJ3⟩
        case measure => simp [intOf]; omega
      · gi_wp2
        refine bodyPost_ret (results_none rfl _ _ _) rfl ?_
        exact ⟨⟨_, rfl⟩, .inr ⟨_, trivial, hJx3⟩⟩
    · have hkL : ¬ (k : Int) < l.length := by omega
      rw [List.take_of_length_le (by omega)] at hJk
      clear hA
      gi_wp2
      go_end0
      exact ⟨⟨_, rfl⟩, .inl hJk⟩

theorem rows_any (g : Nat) (w : World) : Calls Tryz.prog 62 #[.pointer (some ⟨g, 0, none⟩)] w fun e w' =>
    e = .returned (.func (.func 96) #[] #[.pointer (some ⟨w.heap.size, 0, none⟩)]) ∧ w' = w.alloc (.cells #[.pointer (some ⟨g, 0, none⟩)] 64) := by
  go_enter Tryz.func62, Tryz.ntmps62
  go_wp2_with fail
  go_ret
  exact ⟨rfl, rfl⟩

/-- The iterator's contract. -/
theorem rows_stops (n Bk Bo n₀ g : Nat) (l : List Msg) (F : List Nat) (w : World) (hn : 1 ≤ n) (hF : ∀ k ∈ F, k < n₀) (hBB : Bk ≠ Bo) (hl : l.length < 1000000) (hBo : Bo < w.heap.size)
    (hbox : w.heap[Bk]? = some (.cells #[.pointer (some ⟨g, 0, none⟩)] 64 (0, 0))) (hrep : KRep w g l F) :
    SeqStopsK Fence.wide n Tryz.prog 96 #[.pointer (some ⟨Bk, 0, none⟩)] (fun m : Msg => #[m.val]) (KeepsT 24 Bo n₀) (fun ys => ys = l) (fun _ => True) l.length w :=
  fun l0 J Jx W hW hJ _ hY h0 => rows1_in n l0 Bk Bo n₀ g l F hn hF hBB hl J Jx (fun pre x W _ => hY pre x W) W hJ (Nat.lt_of_lt_of_le hBo hW.size)
    (by rw [hW.block Bk (Array.getElem?_eq_some_iff.1 hbox).1]; exact hbox) (hrep.below hW) h0

/-- A message whose topic is no longer than the walks of its characters bear. -/
abbrev SMsg := { m : Msg // m.t.size < 4294967281 }
/-- .. at such messages. -/
theorem rows_stopsS (n Bk Bo n₀ g : Nat) (l : List Msg) (F : List Nat) (w : World) (hn : 1 ≤ n) (hF : ∀ k ∈ F, k < n₀) (hBB : Bk ≠ Bo) (hl : l.length < 1000000) (hBo : Bo < w.heap.size) (hml : ∀ m ∈ l, m.t.size < 4294967281)
    (hbox : w.heap[Bk]? = some (.cells #[.pointer (some ⟨g, 0, none⟩)] 64 (0, 0))) (hrep : KRep w g l F) :
    SeqStopsK Fence.wide n Tryz.prog 96 #[.pointer (some ⟨Bk, 0, none⟩)] (fun m : SMsg => #[m.1.val]) (KeepsT 24 Bo n₀) (fun ys => ys.map (·.1) = l) (fun _ => True) l.length w := by
  intro l0 J Jx W hW hJ hJx hY h0
  refine (rows1_in n l0 Bk Bo n₀ g l F hn hF hBB hl (fun pre W => ∃ xs : List SMsg, xs.map (·.1) = pre ∧ J xs W) (fun pre W => ∃ xs : List SMsg, xs.map (·.1) = pre ∧ Jx xs W) ?_ W
    (fun s A B row hs hg hr => by obtain ⟨xs, h1, h2⟩ := hs; exact ⟨xs, h1, hJ xs A B row h2 hg hr⟩) (Nat.lt_of_lt_of_le hBo hW.size)
    (by rw [hW.block Bk (Array.getElem?_eq_some_iff.1 hbox).1]; exact hbox) (hrep.below hW) ⟨[], rfl, h0⟩).mono ?_
  · rintro pre x W1 hx ⟨xs, rfl, hj⟩ hlen
    refine (hY xs ⟨x, hml x hx⟩ W1 hj (by simpa using hlen)).mono ?_
    rintro e W' (⟨rfl, h1, h2⟩ | ⟨rfl, h1⟩)
    · exact .inl ⟨rfl, ⟨_, by simp, h1⟩, h2⟩
    · exact .inr ⟨rfl, _, by simp, h1⟩
  · rintro e W' ⟨h1, ⟨ys, rfl, xs, h2, h3⟩ | ⟨pre, -, xs, h2, h3⟩⟩
    · exact ⟨h1, .inl ⟨xs, h2, h3⟩⟩
    · exact ⟨h1, .inr ⟨xs, trivial, h3⟩⟩
end
section
open Go Go.RowKit Go.Maps Go.Shelf

attribute [local go_sem] Oper.semAt_some

theorem T_msg : ElemT Tryz.prog 32 24 (.agg #[.string ⟨#[]⟩, .string ⟨#[]⟩, .int .u8 0, .bool false]) 4 40 := ⟨Tryz.underlying32, by kernel_rfl, rfl, by decide⟩

theorem keepsT_alloc {T : TypeId} {Bo n₀ : Nat} {W : World} (hn : n₀ ≤ W.heap.size) (o : Obj) : KeepsT T Bo n₀ W (W.alloc o) :=
  ⟨(Below.refl _ _).alloc hn _, fun b cs t fr _ _ h => by rw [Below.heap_alloc _ _ _ (Array.getElem?_eq_some_iff.1 h).1]; exact h⟩
theorem keepsT_below {T : TypeId} {Bo n₀ : Nat} {W W' : World} (hn : n₀ ≤ W.heap.size) (h : Below W.heap.size W W') : KeepsT T Bo n₀ W W' :=
  ⟨h.mono hn, fun b cs t fr _ _ h3 => by rw [h.block b (Array.getElem?_eq_some_iff.1 h3).1]; exact h3⟩
theorem keepsT_app {T t : TypeId} {Bo n₀ size k : Nat} {W w1 : World} {v v' : Value} {xs : List Value} {tmp : Obj} (hv : Boxed W Bo t v) (hrow : W.ownsRow n₀ T size v k xs) (hgrow : (W.alloc tmp).grownBy w1 v.ownBlock) (hb : Below n₀ W (w1.setCell ⟨Bo, 0, none⟩ v')) :
    KeepsT T Bo n₀ W (w1.setCell ⟨Bo, 0, none⟩ v') := by
  refine ⟨hb, fun b cs t' fr h1 h2 h3 => ?_⟩
  have hl := (Array.getElem?_eq_some_iff.1 h3).1
  have hne : some b ≠ v.ownBlock := by
    rcases hrow.2 with ⟨rfl, _⟩ | ⟨g, cap, cur, rfl, _, hgb, _⟩
    · simp [Value.ownBlock]
    · intro e'
      obtain rfl : b = g := by simpa [Value.ownBlock] using e'
      rw [h3] at hgb
      simp at hgb
      exact h2 hgb.2.1
  rw [Below.heap_setCell _ _ _ _ h1, hgrow.block b (by simp; omega) hne, Below.heap_alloc _ _ _ hl]; exact h3

theorem row_base {W : World} {base base' : Nat} {e : TypeId} {size : Nat} {v : Value} {k : Nat} {xs : List Value} (h : W.ownsRow base e size v k xs) (hb : base' ≤ base) : W.ownsRow base' e size v k xs := by
  refine ⟨h.1, ?_⟩
  rcases h.2 with hn | ⟨b, cap, cur, rfl, hb', rest⟩
  · exact .inl hn
  · exact .inr ⟨b, cap, cur, rfl, Nat.le_trans hb hb', rest⟩
/-- the variable of a round: its four cells -/
def VarAt (n₀ : Nat) (a : Nat → Act) (m : Msg) (a' : Act) (W : World) : Prop := ∃ Bx, n₀ < Bx ∧ W.heap[Bx]? = some (.cells #[.string m.t, .string m.p, .int .u8 m.q, .bool m.r] 24 (0, 0)) ∧ a' = a Bx
theorem varAt_own (n₀ B : Nat) (a : Nat → Act) (m : Msg) (a' : Act) : OwnFrom B (fun (_ : Unit) W => VarAt n₀ a m a' W) := by
  rintro s X Y row ⟨Bx, h1, h2, h3⟩ hg hr
  refine ⟨Bx, h1, ?_, h3⟩
  rw [hg.block Bx (Array.getElem?_eq_some_iff.1 h2).1 (fun e => by obtain ⟨_, o, ho, hc⟩ := hr Bx e.symm; rw [h2] at ho; cases ho; cases hc)]
  exact h2

set_option maxRecDepth 100000 in
set_option maxHeartbeats 4000000 in
theorem appendSeq_any (Bk g : Nat) (l : List Msg) (F : List Nat) (w : World) (hl : l.length < 1000000)
    (hbox : w.heap[Bk]? = some (.cells #[.pointer (some ⟨g, 0, none⟩)] 64 (0, 0))) (hrep : KRep w g l F) :
    Calls Tryz.prog 112 #[.slice none 0 0, .func (.func 96) #[] #[.pointer (some ⟨Bk, 0, none⟩)]] w fun e w' =>
      ∃ v, e = .returned v ∧ w'.ownsRow w.heap.size 24 4 v l.length (msgs l) ∧ Below w.heap.size w w' := by
  obtain ⟨i0, hi, hz0, hz1, hz2⟩ := info_parts T_msg.hi
  have hbl := (Array.getElem?_eq_some_iff.1 hbox).1
  have hb0 : Below w.heap.size w (w.alloc (.cells #[.slice none 0 0] 32)) := (Below.refl _ w).alloc (Nat.le_refl _) _
  have hbox1 : (w.alloc (.cells #[.slice none 0 0] 32)).heap[Bk]? = some (.cells #[.pointer (some ⟨g, 0, none⟩)] 64 (0, 0)) := by rw [hb0.block Bk hbl]; exact hbox
  have hF := hrep.lt
  have hrep1 := hrep.below hb0
  have bO := Boxed.new w 32 (.slice none 0 0)
  have hsz : (w.alloc (.cells #[.slice none 0 0] 32)).heap.size = w.heap.size + 1 := by simp
  refine (callsIn_wide (n := 6)).1 ?_
  refine callsIn_of_wp_marks Tryz.func112 rfl trivial ?_ rfl
  simp only [Tryz.ntmps112, List.size_toArray, List.length_cons, List.length_nil, Nat.reduceAdd, Nat.reduceSub, Array.replicate_succ, Array.replicate_zero, List.push_toArray, List.append_toArray, List.nil_append, List.cons_append]
  gi_wp2
  obtain ⟨W0, hW0⟩ : ∃ W0, w.alloc (.cells #[.slice none 0 0] 32) = W0 := ⟨_, rfl⟩
  rw [hW0] at hb0 hbox1 hrep1 bO hsz ⊢
  clear hW0
  refine wpIn_rangeFunc_ownH rfl (by omega) (gf := 96) (lb := #[.pointer (some ⟨Bk, 0, none⟩)]) rfl trivial (enters_of Tryz.func96 (by kernel_rfl) rfl)
    (rows_stops (6 - 1) Bk w.heap.size w.heap.size g l F W0 (by omega) hF (by omega) hl (by omega) hbox1 hrep1) keepsT_t (keepsT_b (by omega)) (Below.refl _ _) (fun _ => rfl)
    (fun pre W => (∃ v, Boxed W w.heap.size 32 v ∧ W.ownsRow w.heap.size 24 4 v pre.length (msgs pre) ∧ True) ∧ Below w.heap.size w W)
    (fun _ _ _ => False)
    (OwnFrom.and (Own.from (holdsRow_own w.heap.size w.heap.size 32 24 4 (fun pre => pre.length) (fun pre => msgs pre) (fun _ _ => True)) _) (ownFrom_below (Nat.le_refl _) (by omega)))
    (fun _ _ _ _ _ hs _ _ => hs)
    ⟨⟨_, bO, World.ownsRow_nil _ _ _ _, trivial⟩, hb0⟩
    (fun m a' W => VarAt w.heap.size (fun Bx => { tmps := #[.slice none 0 0, .func (.func 96) #[] #[.pointer (some ⟨Bk, 0, none⟩)], .pointer (some ⟨w.heap.size, 0, none⟩), undef, .slice none 0 0, .pointer (some ⟨Bx, 0, none⟩), .func (.func 96) #[] #[.pointer (some ⟨Bk, 0, none⟩)], .agg #[.string m.t, .string m.p, .int .u8 m.q, .bool m.r], undef, undef, undef, undef, undef], defers := [] }) m a' W)
    (fun m a' => varAt_own _ _ _ m a')
    ?assign ?body ?done ?stop
  case assign =>
    rintro l0 pre ⟨mt, mp, mq, mr⟩ W K ⟨⟨v, hv, hrow, -⟩, hB⟩ hK
    dsimp only [Msg.val]
    gi_wp2
    exact hK _ _ ((KeepsOthers.alloc _ _).from _) (keepsT_alloc hB.size _) ⟨⟨v, hv.alloc _, hrow.alloc _, trivial⟩, hB.alloc hB.size _⟩ ⟨W.heap.size, hv.lt, heap_alloc_new W _, rfl⟩
  case body =>
    rintro l0 pre ⟨mt, mp, mq, mr⟩ a' W hD - ⟨⟨v, hv, hrow, -⟩, hB⟩ ⟨Bx, hBx, hx, rfl⟩ hlen
    have hs := hB.size
    obtain ⟨k0, k1, k2, k3⟩ := cells4 hx
    have kv := hv.cell
    dsimp only at *
    gi_wp2_with (gi_at_builtin; refine wpListIn_append_own _ rfl _ _ 32 rfl w.heap.size 24 i0 _ 4 40 Tryz.underlying32 hi hz0 hz1 hz2 T_msg.hzs (by decide) _ _ _ rfl (hrow.alloc _) ⟨W.heap.size, 0, none⟩ 1 1 [.string mt, .string mp, .int .u8 mq, .bool mr] rfl rfl (World.news_of_block (heap_alloc_new W _)) (by simp [Value.oneCell']) (by unfold maxLen; omega) (by omega) (by simp; omega) ?_; intro v' w1 hown' hgrow _; obtain ⟨g', cap', rfl⟩ := ownsRow_succ hown'; obtain ⟨hv1, hv2, hr2, hk2, hb2⟩ := hv.appended (by decide) hrow hs (Nat.le_refl _) hown' hgrow; have hc1 := hv1.cell; have hf1 := hv1.frozen)
    refine ⟨hk2.from _, keepsT_app hv hrow hgrow hb2, ⟨⟨_, hv2, ?_, trivial⟩, hB.trans hb2⟩⟩
    rw [← msgs_append, List.length_append]
    exact hr2
  case done =>
    rintro D ys W hD rfl ⟨⟨v, hv, hrow, -⟩, hB⟩ hK
    have kv := hv.cell
    have hrow' := ownsRow_putObj hrow (.deferred none) hK rfl
    obtain ⟨a, cap, rfl, -, -, -⟩ := ownsRow_row hrow
    gi_wp2
    refine ⟨by simp, .inl ⟨_, _, rfl, run_takeDeferred hK, ?_⟩⟩
    refine ⟨_, results_tmp rfl _ _ _, ?_⟩
    exact ⟨.slice a ys.length cap, rfl, hrow', hB.trans (belowK_b (w := w) (Nat.le_refl _) W D _ _ (by omega) hK rfl rfl)⟩
  case stop =>
    rintro D c pre W _ _ h _
    exact h.elim

theorem collect_any (Bk g : Nat) (l : List Msg) (F : List Nat) (w : World) (hl : l.length < 1000000)
    (hbox : w.heap[Bk]? = some (.cells #[.pointer (some ⟨g, 0, none⟩)] 64 (0, 0))) (hrep : KRep w g l F) :
    Calls Tryz.prog 86 #[.func (.func 96) #[] #[.pointer (some ⟨Bk, 0, none⟩)]] w fun e w' =>
      ∃ v, e = .returned v ∧ w'.ownsRow w.heap.size 24 4 v l.length (msgs l) ∧ Below w.heap.size w w' := by
  have H := Lib.hid (appendSeq_any Bk g l F w hl hbox hrep)
  clear hbox hrep
  go_enter Tryz.func86, Tryz.ntmps86
  go_wp2_with fail
  refine H.out.mono ?_
  rintro e w1 ⟨v, rfl, hv⟩
  go_wp2_with fail
  go_ret
  exact ⟨_, rfl, hv⟩
theorem kall_any (g : Nat) (l : List Msg) (F : List Nat) (w : World) (hl : l.length < 1000000) (hrep : KRep w g l F) :
    Calls Tryz.prog 53 #[.pointer (some ⟨g, 0, none⟩)] w fun e w' => ∃ v, e = .returned v ∧ w'.ownsRow w.heap.size 24 4 v l.length (msgs l) ∧ Below w.heap.size w w' := by
  have hb0 : Below w.heap.size w (w.alloc (.cells #[.pointer (some ⟨g, 0, none⟩)] 64)) := (Below.refl _ w).alloc (Nat.le_refl _) _
  have H := Lib.hid (collect_any w.heap.size g l F _ hl (heap_alloc_new w (.cells #[.pointer (some ⟨g, 0, none⟩)] 64)) (hrep.below hb0))
  have HB := Lib.hid hb0
  clear hrep hb0
  go_enter Tryz.func53, Tryz.ntmps53
  go_wp2_with fail
  refine (rows_any g w).mono ?_
  rintro e w1 ⟨rfl, rfl⟩
  go_wp2_with fail
  refine H.out.mono ?_
  rintro e w1 ⟨v, rfl, hv, hk⟩
  have hv := row_base hv (by simp : w.heap.size ≤ _)
  have hk := bnext HB.out (Nat.le_refl _) hk
  go_wp2_with fail
  go_ret
  exact ⟨_, rfl, hv, hk⟩
end
section
open Go Go.RowKit Go.Maps Go.Shelf

attribute [local go_sem] Oper.semAt_some

def finds (s : List UInt8) (l : List Msg) : List Msg := l.filter fun m => matchB s m.k
theorem finds_snoc (s : List UInt8) (l : List Msg) (m : Msg) : finds s (l ++ [m]) = finds s l ++ (if matchB s m.k then [m] else []) := by
  unfold finds
  rw [List.filter_append]
  by_cases h : matchB s m.k <;> simp [h]
theorem finds_len (s : List UInt8) (l : List Msg) : (finds s l).length ≤ l.length := List.length_filter_le _ _

def Stop (p : Prop) : Prop := p
theorem stopHere {p : Prop} (h : Stop p) : p := h
theorem boxed_below {W W' : World} {B : Nat} {t : TypeId} {v : Value} (h : Boxed W B t v) (hk : Below W.heap.size W W') : Boxed W' B t v := (hk.block B h.lt).trans h
theorem ownsRow_lowK2 {w w' : World} {B : Nat} {e : TypeId} {size n : Nat} {v : Value} {xs : List Value} (h : w.ownsRow B e size v n xs) (hb : Below w.heap.size w w') : w'.ownsRow B e size v n xs :=
  ownsRow_local h fun k hk => hb.block k (h.lt k hk).2
theorem keepsFrom_below {W W' : World} (B : Nat) (hk : Below W.heap.size W W') : KeepsFrom B W W' := ⟨hk.size, fun k _ _ h _ => (hk.block k (Array.getElem?_eq_some_iff.1 h).1).trans h⟩

set_option maxRecDepth 100000 in
set_option maxHeartbeats 4000000 in
theorem kfind_any (s : ByteArray) (g : Nat) (l : List Msg) (F : List Nat) (w : World) (hl : l.length < 1000000) (hT : Tabs w) (hs : s.size < 4294967281) (hml : ∀ m ∈ l, m.t.size < 4294967281) (hrep : KRep w g l F) :
    Calls Tryz.prog 31 #[.pointer (some ⟨g, 0, none⟩), .string s] w fun e w' =>
      ∃ v, e = .returned v ∧ w'.ownsRow w.heap.size 24 4 v (finds s.data.toList l).length (msgs (finds s.data.toList l)) ∧ Below w.heap.size w w' := by
  obtain ⟨i0, hi, hz0, hz1, hz2⟩ := info_parts T_msg.hi
  have hb0 : Below w.heap.size w (w.alloc (.cells #[.string s] 9)) := (Below.refl _ w).alloc (Nat.le_refl _) _
  have hb1 : Below w.heap.size w ((w.alloc (.cells #[.string s] 9)).alloc (.cells #[.slice none 0 0] 32)) := hb0.alloc (by simp) _
  have hb2 : Below w.heap.size w (((w.alloc (.cells #[.string s] 9)).alloc (.cells #[.slice none 0 0] 32)).alloc (.cells #[.pointer (some ⟨g, 0, none⟩)] 64)) := hb1.alloc (by simp; omega) _
  have bS := ((Boxed.new w 9 (.string s)).alloc (.cells #[.slice none 0 0] 32)).alloc (.cells #[.pointer (some ⟨g, 0, none⟩)] 64)
  have bO := (Boxed.new (w.alloc (.cells #[.string s] 9)) 32 (.slice none 0 0)).alloc (.cells #[.pointer (some ⟨g, 0, none⟩)] 64)
  have bK := heap_alloc_new ((w.alloc (.cells #[.string s] 9)).alloc (.cells #[.slice none 0 0] 32)) (.cells #[.pointer (some ⟨g, 0, none⟩)] 64)
  simp only [World.size_alloc] at bO bK
  have hF := hrep.lt
  have hrep1 := hrep.below hb2
  have hsz : (((w.alloc (.cells #[.string s] 9)).alloc (.cells #[.slice none 0 0] 32)).alloc (.cells #[.pointer (some ⟨g, 0, none⟩)] 64)).heap.size = w.heap.size + 3 := by simp
  have HM := Lib.hid (fun (m : Msg) (hm : m ∈ l) w hT => match_any s m.t w hT hs (hml m hm))
  have HT2 := Lib.hid hT
  refine (callsIn_wide (n := 6)).1 ?_
  have hfR : Fence.wide.fn 62 := trivial
  have hfM : Fence.wide.fn 15 := trivial
  refine callsIn_of_wp_marks Tryz.func31 rfl trivial ?_ rfl
  simp only [Tryz.ntmps31, List.size_toArray, List.length_cons, List.length_nil, Nat.reduceAdd, Nat.reduceSub, Array.replicate_succ, Array.replicate_zero, List.push_toArray, List.append_toArray, List.nil_append, List.cons_append]
  gi_wp2_with (gi_at_call 62; refine (callsIn_wide.2 (rows_any g _)).mono ?_; rintro e w' ⟨rfl, rfl⟩)
  obtain ⟨W0, hW0⟩ : ∃ W0, (((w.alloc (.cells #[.string s] 9)).alloc (.cells #[.slice none 0 0] 32)).alloc (.cells #[.pointer (some ⟨g, 0, none⟩)] 64)) = W0 := ⟨_, rfl⟩
  rw [hW0] at hb2 bS bO bK hrep1 hsz ⊢
  clear hW0 hb0 hb1 hT
  refine wpIn_rangeFunc_ownH rfl (by omega) (gf := 96) (lb := #[.pointer (some ⟨w.heap.size + 1 + 1, 0, none⟩)]) rfl trivial (enters_of Tryz.func96 (by kernel_rfl) rfl)
    (rows_stopsS (6 - 1) (w.heap.size + 1 + 1) (w.heap.size + 1) w.heap.size g l F W0 (by omega) hF (by omega) hl (by omega) hml bK hrep1) keepsT_t (keepsT_b (by omega)) (Below.refl _ _) (fun _ => rfl)
    (fun pre W => ((∃ v, Boxed W (w.heap.size + 1) 32 v ∧ W.ownsRow w.heap.size 24 4 v (finds s.data.toList (pre.map (·.1))).length (msgs (finds s.data.toList (pre.map (·.1)))) ∧ True) ∧ Boxed W w.heap.size 9 (.string s)) ∧ Below w.heap.size w W)
    (fun _ _ _ => False)
    (OwnFrom.and (OwnFrom.and (Own.from (holdsRow_own w.heap.size (w.heap.size + 1) 32 24 4 (fun pre : List SMsg => (finds s.data.toList (pre.map (·.1))).length) (fun pre => msgs (finds s.data.toList (pre.map (·.1)))) (fun _ _ => True)) _) (Own.from (boxed_own _ _ _) _)) (ownFrom_below (Nat.le_refl _) (by omega)))
    (fun _ _ _ _ _ hs _ _ => hs)
    ⟨⟨⟨_, bO, World.ownsRow_nil _ _ _ _, trivial⟩, bS⟩, hb2⟩
    (fun m a' W => VarAt (w.heap.size + 1) (fun Bx => { tmps := #[.pointer (some ⟨g, 0, none⟩), .string s, undef, .pointer (some ⟨w.heap.size, 0, none⟩), .slice none 0 0, .pointer (some ⟨w.heap.size + 1, 0, none⟩), .pointer (some ⟨Bx, 0, none⟩), .pointer (some ⟨g, 0, none⟩), .bool false, .pointer (some ⟨g, 0, none⟩), .func (.func 96) #[] #[.pointer (some ⟨w.heap.size + 1 + 1, 0, none⟩)], .agg #[.string m.1.t, .string m.1.p, .int .u8 m.1.q, .bool m.1.r], undef, undef, undef, undef, undef, undef, undef, undef, undef], defers := [] }) m.1 a' W)
    (fun m a' => varAt_own _ _ _ m.1 a')
    ?assign ?body ?done ?stop
  case assign =>
    rintro l0 pre ⟨⟨mt, mp, mq, mr⟩, hms⟩ W K ⟨⟨⟨v, hv, hrow, -⟩, hS⟩, hB⟩ hK
    dsimp only [Msg.val]
    gi_wp2
    exact hK _ _ ((KeepsOthers.alloc _ _).from _) (keepsT_alloc hB.size _) ⟨⟨⟨v, hv.alloc _, hrow.alloc _, trivial⟩, hS.alloc _⟩, hB.alloc hB.size _⟩ ⟨W.heap.size, hv.lt, heap_alloc_new W _, rfl⟩
  case body =>
    rintro l0 pre ⟨⟨mt, mp, mq, mr⟩, hms⟩ a' W hD - ⟨⟨⟨v, hv, hrow, -⟩, hS⟩, hB⟩ ⟨Bx, hBx, hx, rfl⟩ hlen
    have hsz2 := hB.size
    have h1' : 1 ≤ 6 - 1 - 1 := by omega
    obtain ⟨k0, k1, k2, k3⟩ := cells4 hx
    have kS := hS.cell
    have HMM := Lib.hid (match_any s mt W (HT2.out.below hB) hs hms)
    have HSN := Lib.hid (finds_snoc s.data.toList (pre.map (·.1)) ⟨mt, mp, mq, mr⟩)
    have HFL := Lib.hid (show (finds s.data.toList (pre.map (·.1))).length ≤ pre.length by have := finds_len s.data.toList (pre.map (·.1)); rw [List.length_map] at this; exact this)
    obtain ⟨b, hb⟩ : ∃ b, matchB s.data.toList mt.data.toList = b := ⟨_, rfl⟩
    rw [hb] at HMM
    have HBB := Lib.hid hb
    clear hb
    dsimp only at *
    cases b with
    | false =>
      gi_wp2_with (gi_at_call 15; refine (CallsIn.inRound l0 (callsIn_wide.2 HMM.out)).mono ?_; rintro e w' ⟨rfl, hk⟩)
      have e1 : finds s.data.toList ((pre ++ [(⟨⟨mt, mp, mq, mr⟩, hms⟩ : SMsg)]).map (·.1)) = finds s.data.toList (pre.map (·.1)) := by
        rw [List.map_append, List.map_singleton, HSN.out, if_neg (by simp [Msg.k, HBB.out])]; simp
      refine ⟨keepsFrom_below _ hk, keepsT_below hsz2 hk, ⟨⟨⟨v, boxed_below hv hk, ?_, trivial⟩, boxed_below hS hk⟩, hB.trans (hk.mono hsz2)⟩⟩
      rw [e1]
      exact ownsRow_lowK2 hrow hk
    | true =>
      gi_wp2_with (first
        | (gi_at_call 15; refine (CallsIn.inRound l0 (callsIn_wide.2 HMM.out)).mono ?_; rintro e w' ⟨rfl, hk⟩
           have hvW := boxed_below hv hk
           have hrowW := ownsRow_lowK2 hrow hk
           have hSW := boxed_below hS hk
           have hxW : w'.heap[Bx]? = some (.cells #[.string mt, .string mp, .int .u8 mq, .bool mr] 24 (0, 0)) := by rw [hk.block Bx (Array.getElem?_eq_some_iff.1 hx).1]; exact hx
           have hsz3 : w.heap.size ≤ w'.heap.size := Nat.le_trans hsz2 hk.size
           obtain ⟨q0, q1, q2, q3⟩ := cells4 hxW
           have kv := hvW.cell
           clear k0 k1 k2 k3)
        | (gi_at_builtin; refine stopHere ?_))
      unfold Stop
      refine wpListIn_append_own _ rfl _ _ 32 rfl w.heap.size 24 i0 _ 4 40 Tryz.underlying32 hi hz0 hz1 hz2 T_msg.hzs (by decide) _ _ _ rfl (hrowW.alloc _) ⟨w'.heap.size, 0, none⟩ 1 1 [.string mt, .string mp, .int .u8 mq, .bool mr] rfl rfl (World.news_of_block (heap_alloc_new w' _)) (by simp [Value.oneCell']) (by have := HFL.out; unfold maxLen; omega) (by have := HFL.out; omega) (by simp; omega) ?_
      intro v' w1 hown' hgrow _
      obtain ⟨g', cap', rfl⟩ := ownsRow_succ hown'
      obtain ⟨hv1, hv2, hr2, hk2, hb2⟩ := hvW.appended (by decide) hrowW hsz3 (Nat.le_succ _) hown' hgrow
      have hc1 := hv1.cell
      have hf1 := hv1.frozen
      gi_wp2
      have e1 : finds s.data.toList ((pre ++ [(⟨⟨mt, mp, mq, mr⟩, hms⟩ : SMsg)]).map (·.1)) = finds s.data.toList (pre.map (·.1)) ++ [⟨mt, mp, mq, mr⟩] := by
        rw [List.map_append, List.map_singleton, HSN.out, if_pos (by simp [Msg.k, HBB.out])]
      refine ⟨(keepsFrom_below _ hk).trans (hk2.from _), keepsT_t (keepsT_below hsz2 hk) (keepsT_app hvW hrowW hgrow hb2), ⟨⟨⟨_, hv2, ?_, trivial⟩, ?_⟩, (hB.trans (hk.mono hsz2)).trans hb2⟩⟩
      · rw [e1, ← msgs_append, List.length_append]
        exact hr2
      · have hS1 : Boxed w1 w.heap.size 9 (.string s) := (hSW.alloc _).kept hgrow (hSW.not_row (by decide) hrowW)
        exact hS1.other (by omega) _
  case done =>
    rintro D ys W hD rfl ⟨⟨⟨v, hv, hrow, -⟩, hS⟩, hB⟩ hK
    have kv := hv.cell
    have hrow' := ownsRow_putObj hrow (.deferred none) hK rfl
    obtain ⟨a, cap, rfl, -, -, -⟩ := ownsRow_row hrow
    gi_wp2
    refine ⟨by simp, .inl ⟨_, _, rfl, run_takeDeferred hK, ?_⟩⟩
    refine ⟨_, results_tmp rfl _ _ _, ?_⟩
    exact ⟨_, rfl, hrow', hB.trans (belowK_b (w := w) (Nat.le_refl _) W D _ _ (by omega) hK rfl rfl)⟩
  case stop =>
    rintro D c pre W _ _ h _
    exact h.elim
end
end Go.Proofs.YthfdcphecggjeaaGreatDoor
