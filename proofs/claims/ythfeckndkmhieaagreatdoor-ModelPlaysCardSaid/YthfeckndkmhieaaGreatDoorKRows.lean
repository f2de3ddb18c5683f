/- What is kept: the iterator over it, walked: for every loop body that keeps the cells it did not make, but its own. -/
import Derived.RangeFuncNested
import Derived.RangeFuncBound
import Derived.RangeFuncCalls
import Derived.RangeFuncLeaves
import Derived.Shelf.Abstract
import Derived.Shelf.RegionOpen
import Derived.OwnWalkIn
import Derived.TacticsInMore
import Derived.LoopNIn
import Derived.LoopIn
import Derived.Maps.OwnIn
import Derived.Test.YthfeckndkmhieaaGreatDoorQJ
import Derived.Test.YthfeckndkmhieaaGreatDoorKIter
namespace Go.Proofs.YthfeckndkmhieaaGreatDoor
open Go Go.RowKit Go.Maps Go.Shelf

attribute [local go_sem] Oper.semAt_some

/-- 'm[k]': the walk goes on with some value of which hv says how it reads. -/
theorem wpListIn_look {H : Type} {F : Fence} {nF : Nat} {P : Program} (w : World) {ops : Array Oper} {rest : List Oper} {o : Oper} {a : Act} {Q : Exit → Act → World → Prop} (hg : o.guard = none) (m x : Operand) (t : TypeId) (hop : o.op = Op.lookup t m x false)
    (k e : TypeId) (K : Keyed P k) (ht : P.underlying t = some (.map k e)) (R : Value → Option (DataW H × List MemPlace)) {z : Value} (hz : (zeroValue e).run P w = .ok z w) (zd : DataW H) (zp : List MemPlace) (hzd : R z = some (zd, zp)) (b n : Nat) (D : DataW H)
    (hm : a.eval m = .map (some b)) (hown : w.ownsMap P k R b n D) (key : Value) (kl : Lit) (hx : a.eval x = key) (hkey : keyOf P k key = some kl)
    (hK : ∀ v ps, R v = some (D.atKey kl zd, ps) → wpListIn F nF P ops Q rest (a.put o.dst v) w) :
    wpListIn F nF P ops Q (o :: rest) a w := by
  refine wpListIn_plain hg fun K' hK' => ?_
  obtain ⟨v, ps, hrun, hv⟩ := hown.lookup K ht hz hzd hkey
  unfold Oper.wpIn
  refine ⟨by simp [Oper.about, hop], ?_⟩
  rw [Oper.semAt_plain F _ _ (by rw [hop]; intro c hc'; cases hc')]
  simp [execOp, hop, hm, hx, hrun, Result.andThen]
  exact hK' _ _ (hK v ps hv)

/-- What a round keeps: what lay below n₀; whatever cells are no messages, but the variable's that the loop collects into. -/
structure KeepsT (T : TypeId) (Bo n₀ : Nat) (W W' : World) : Prop where
  below : Below n₀ W W'
  cells : ∀ b cs t fr, b ≠ Bo → t ≠ T → W.heap[b]? = some (.cells cs t fr) → W'.heap[b]? = some (.cells cs t fr)
theorem keepsT_t {T : TypeId} {Bo n₀ : Nat} {A B C : World} (h : KeepsT T Bo n₀ A B) (k : KeepsT T Bo n₀ B C) : KeepsT T Bo n₀ A C :=
  ⟨h.below.trans k.below, fun b cs t fr h1 h2 h3 => k.cells b cs t fr h1 h2 (h.cells b cs t fr h1 h2 h3)⟩
theorem keepsT_b {T : TypeId} {Bo n₀ : Nat} {w : World} (hn : n₀ ≤ w.heap.size) (W : World) (l : Nat) (o o' : Obj) (hl : w.heap.size ≤ l) (h : W.heap[l]? = some o) (ho : o.isCells = false) (hw : o.isWalk = false) : KeepsT T Bo n₀ W (W.putObj l o') :=
  ⟨belowK_b hn W l o o' hl h ho hw, fun b cs t fr _ _ h3 => by
    have hne : b ≠ l := by rintro rfl; rw [h] at h3; cases h3; cases ho
    rw [(grownBy_putObj' W l o').block b (Array.getElem?_eq_some_iff.1 h3).1 (by simpa using hne)]; exact h3⟩
theorem keepsT_refl (T : TypeId) (Bo n₀ : Nat) (W : World) : KeepsT T Bo n₀ W W := ⟨Below.refl _ _, fun _ _ _ _ _ _ h => h⟩

theorem KRep.low {w w' : World} {g n₀ : Nat} {l : List Msg} {F : List Nat} (h : KRep w g l F) (hk : Below n₀ w w') (hF : ∀ k ∈ F, k < n₀) : KRep w' g l F := by
  obtain ⟨b, D, hg, ⟨es, clock, hb, r⟩, h1, h2, rfl⟩ := h
  exact ⟨b, D, by rw [hk.block g (hF g (by simp))]; exact hg, ⟨es, clock, by rw [hk.block b (hF b (by simp))]; exact hb, r⟩, h1, h2, rfl⟩

theorem names_perm {w : World} {b n : Nat} {D : DataW Unit} {l : List Msg} (hown : w.ownsMap Tryz.prog 9 msgElem b n D) (h : Has D l) {ss : List (List UInt8)} (hp : ss.Perm (strKeys D)) : (ss.mergeSort fun x y => decide (x ≤ y)) = l.map Msg.k := by
  refine sort_keys h.2.2.2.keys (hp.trans ?_)
  obtain ⟨es, hD, hpw, _⟩ := hown.entries kS
  obtain ⟨es', hD', hko⟩ := hown.keysOf
  obtain rfl : es = es' := by rw [hD] at hD'; simpa using hD'
  subst hD
  exact (perm_strKeys hpw (fun p hp => by obtain ⟨v, hv⟩ := hko p hp; obtain ⟨x, _, hx, _⟩ := Maps.keyOf_str Tryz.underlying9 hv; exact ⟨x, hx⟩) (nodup_keys h.2.2.2.keys) (fun x => by rw [h.2.1 x, mem_get])).symm
theorem names_len {w : World} {b n : Nat} {D : DataW Unit} {l : List Msg} (hown : w.ownsMap Tryz.prog 9 msgElem b n D) (h : Has D l) (m : Msg) (hm : m ∈ l) : m.t.size ≤ maxLen := by
  obtain ⟨es, hD, hpw, _⟩ := hown.entries kS
  obtain ⟨es', hD', hko⟩ := hown.keysOf
  obtain rfl : es = es' := by rw [hD] at hD'; simpa using hD'
  subst hD
  have hh : Maps.has (.map es) (.string m.k) = true := by rw [h.2.1, get_of_mem h.2.2.2 hm]; rfl
  rw [Maps.has_eq, List.any_eq_true] at hh
  obtain ⟨p, hp, hs⟩ := hh
  obtain ⟨v, hv⟩ := hko p hp
  obtain ⟨x, _, hx, hl⟩ := Maps.keyOf_str Tryz.underlying9 hv
  rw [hx] at hs
  have : x = m.k := by simpa [Lit.sameKey] using hs
  subst this
  exact hl

theorem names_vals (l : List Msg) : (l.map Msg.k).map encStr = l.map fun m => Value.string m.t := by
  rw [List.map_map]
  refine List.map_congr_left fun m _ => ?_
  show Value.string ⟨m.t.data.toList.toArray⟩ = _
  rw [str_eta]
/-- What the iterator holds while it is under way. -/
structure RowsAt (T : TypeId) (W : World) (g Bk Bo base : Nat) (l : List Msg) (F : List Nat) (v : Value) : Prop where
  rep : KRep W g l F
  box : W.heap[Bk]? = some (.cells #[.pointer (some ⟨g, 0, none⟩)] T (0, 0))
  row : W.ownsRow base 9 1 v l.length (l.map fun m => .string m.t)
theorem RowsAt.next {T : TypeId} {W W' : World} {g Bk Bo base n₀ : Nat} {l : List Msg} {F : List Nat} {v : Value} (h : RowsAt T W g Bk Bo base l F v) (hk : KeepsT 26 Bo n₀ W W') (hF : ∀ k ∈ F, k < n₀) (hT : T ≠ 26) (hB : Bk ≠ Bo) (hb : Bo < base) : RowsAt T W' g Bk Bo base l F v := by
  refine ⟨h.rep.low hk.below hF, hk.cells _ _ _ _ hB hT h.box, ?_⟩
  have hr := h.row
  refine ⟨hr.1, ?_⟩
  rcases hr.2 with hn | ⟨b, cap, cur, rfl, hb', hgg, rest⟩
  · exact .inl hn
  · exact .inr ⟨b, cap, cur, rfl, hb', hk.cells _ _ _ _ (by omega) (by decide) hgg, rest⟩

set_option maxRecDepth 100000 in
set_option maxHeartbeats 2000000 in
theorem rows1_in (n l0 Bk Bo n₀ g : Nat) (l : List Msg) (F : List Nat) (hn : 1 ≤ n) (hF : ∀ k ∈ F, k < n₀) (hBB : Bk ≠ Bo) (hl : l.length < 1000000) (J Jx : List Msg → World → Prop)
    (hY : ∀ pre x W, x ∈ l → J pre W → pre.length < l.length → YieldAt Fence.wide (n - 1) Tryz.prog l0 #[Msg.val x] W fun e W' =>
      (e = .returned (.bool true) ∧ J (pre ++ [x]) W' ∧ KeepsT 26 Bo n₀ W W') ∨ (e = .returned (.bool false) ∧ Jx (pre ++ [x]) W'))
    (W : World) (hJ : AbidesFrom W.heap.size J) (hBo : Bo < W.heap.size) (hbox : W.heap[Bk]? = some (.cells #[.pointer (some ⟨g, 0, none⟩)] 43 (0, 0))) (hrep : KRep W g l F) (h0 : J [] W) :
    CallsIn Fence.wide n Tryz.prog 74 #[.func (.yield l0) #[] #[], .pointer (some ⟨Bk, 0, none⟩)] W fun e W' => (∃ v, e = .returned v) ∧
      ((∃ ys, ys = l ∧ J ys W') ∨ (∃ pre, True ∧ Jx pre W')) := by
  have hcb := cell_of_row W Bk 0 _ _ _ hbox
  simp only [List.getElem?_toArray, List.getElem?_cons_zero] at hcb
  have HREP := Lib.hid hrep
  have HBOX := Lib.hid hbox
  obtain ⟨b, D, hg, hown, hH, hne, hFe⟩ := hrep
  have hcg := cell_of_row W g 0 _ _ _ hg
  simp only [List.getElem?_toArray, List.getElem?_cons_zero] at hcg
  have hmax : Maps.size D ≤ maxLen := by rw [hH.1]; unfold maxLen; omega
  have hbytes : Maps.size D * 16 ≤ 140737488355328 := by rw [hH.1]; omega
  have HH := Lib.hid hH
  have HP := Lib.hid (fun (ss : List (List UInt8)) (hp : ss.Perm (strKeys D)) => names_perm hown hH hp)
  have HL := Lib.hid (names_len hown hH)
  clear hbox hg hH hFe hne
  have hfK : Fence.wide.fn 76 := trivial
  have hfS : Fence.wide.fn 75 := trivial
  refine callsIn_of_wp Tryz.func74 rfl trivial ?_ rfl
  simp only [Tryz.ntmps74, List.size_toArray, List.length_cons, List.length_nil, Nat.reduceAdd, Nat.reduceSub, Array.replicate_succ, Array.replicate_zero, List.push_toArray, List.append_toArray, List.nil_append, List.cons_append]
  gi_wp2_with (first
    | (gi_at_call 76; refine (callsIn_wide.2 (callsIn_wide.1 (Tryz.maps_Keys_76 _ _))).mono ?_; rintro e w' ⟨rfl, rfl⟩)
    | (gi_at_call 75; refine (callsIn_wide.2 (callsIn_wide.1 (Tryz.slices_Sorted_keys_75_76 b _ D msgElem W hown hmax hbytes))).mono ?_; rintro e w' ⟨v, ss, rfl, hS, hrow, -, hb⟩
       have hlen : ss.length = l.length := by have := congrArg List.length (HP.out ss hS); simpa using this
       rw [HP.out ss hS, hlen, names_vals, World.size_alloc] at hrow
       have hR := hrow
       obtain ⟨a, cap, rfl, -, -, -⟩ := ownsRow_row hrow
       have hbw : Below W.heap.size W w' := ((Below.refl _ W).alloc (Nat.le_refl _) _).trans (hb.mono (by simp))
       clear hrow hS hb hlen))
  have hRA : RowsAt 43 w' g Bk Bo (W.heap.size + 1) l F (.slice a l.length cap) :=
    ⟨HREP.out.below hbw, by rw [hbw.block Bk (Array.getElem?_eq_some_iff.1 HBOX.out).1]; exact HBOX.out, hR⟩
  have hJ1 : J [] w' := hJ [] W w' none h0 ⟨hbw.os, hbw.tape, hbw.output, hbw.size, fun k hk _ => hbw.block k hk⟩ (by simp)
  have HB2 := Lib.hid (show Bo < W.heap.size + 1 by omega)
  clear hR hbw hown hcb hcg h0 HREP HBOX hmax hbytes HP HH hJ
  gi_loopw [12] (fun i wr => ∃ k : Nat, i = .int .i64 k ∧ k ≤ l.length ∧ RowsAt 43 wr g Bk Bo (W.heap.size + 1) l F (.slice a l.length cap) ∧ J (l.take k) wr) (fun i _ => (l.length - intOf i).toNat)
  case atStart => exact ⟨0, rfl, by omega, hRA, by simpa using hJ1⟩
  case round =>
    obtain ⟨k, rfl, hkl, hA, hJk⟩ := hrel
    by_cases hlt : k < l.length
    · have hk0 : (0 : Int) ≤ k := by omega
      have hkL : (k : Int) < l.length := by omega
      obtain ⟨a', cap', hv, hrr, -, -⟩ := ownsRow_row hA.row
      cases hv
      obtain ⟨b1, o1, rfl, kc⟩ := hrr.at (j := k) (u := .string l[k].t) (by simp [hlt])
      obtain ⟨b, D, hg, hown, hH, hne, hFe⟩ := hA.rep
      have hcg := cell_of_row wr g 0 _ _ _ hg
      have hcb := cell_of_row wr Bk 0 _ _ _ hA.box
      simp only [List.getElem?_toArray, List.getElem?_cons_zero] at hcg hcb
      have hkey := WideMaps.keyOf_string_mk Tryz.underlying9 (HL.out l[k] (List.getElem_mem hlt))
      have hat := hH.2.2.1 _ _ (get_of_mem hH.2.2.2 (List.getElem_mem hlt)) Msg.none.dat
      have HAT := Lib.hid hat
      have hJJ : J (l.take k ++ [l[k]]) = J (l.take (k + 1)) := by rw [List.take_succ_eq_append_getElem hlt]
      obtain ⟨fn, tmps, assign, body, hy, hR⟩ := hY (l.take k) l[k] wr (List.getElem_mem hlt) hJk (by rw [List.length_take]; omega)
      rw [hJJ] at hR
      have HA := Lib.hid hA
      clear hA hJk hg hH hat hrr hFe hne
      generalize l[k] = x at *
      obtain ⟨mt, mp, mq, mr⟩ := x
      dsimp only [Msg.val, Msg.k] at *
      gi_wp2_with (gi_at_lookup; refine wpListIn_look _ rfl _ _ 98 rfl 9 26 kS Tryz.underlying98 msgElem (zeroMsg _) Msg.none.dat [] (msgElem_mk Msg.none) b _ D rfl hown _ _ rfl hkey ?_; intro v ps hv; rw [HAT.out] at hv; obtain rfl := msgElem_inv hv; dsimp only [Msg.val])
      refine hR.mono ?_
      clear hR hy hcg hcb kc hown hv hkey HAT
      rintro e W3 (⟨rfl, hJ3, hk3⟩ | ⟨rfl, hJx3⟩)
      · have HA3 := HA.out.next hk3 hF (by decide) hBB HB2.out
        gi_wp2
        go_roundw
        case rel => exact ⟨k + 1, by go_num, by omega, HA3, hJ3⟩
        case measure => simp [intOf]; omega
      · gi_wp2
        refine bodyPost_ret (results_none rfl _ _ _) rfl ?_
        exact ⟨⟨_, rfl⟩, .inr ⟨_, trivial, hJx3⟩⟩
    · have hkL : ¬ (k : Int) < l.length := by omega
      rw [List.take_of_length_le (by omega)] at hJk
      clear hA
      gi_wp2
      go_end0
      exact ⟨⟨_, rfl⟩, .inl hJk⟩

theorem rows_any (g : Nat) (w : World) : Calls Tryz.prog 54 #[.pointer (some ⟨g, 0, none⟩)] w fun e w' =>
    e = .returned (.func (.func 74) #[] #[.pointer (some ⟨w.heap.size, 0, none⟩)]) ∧ w' = w.alloc (.cells #[.pointer (some ⟨g, 0, none⟩)] 43) := by
  go_enter Tryz.func54, Tryz.ntmps54
  go_wp2_with fail
  go_ret
  exact ⟨rfl, rfl⟩

/-- The iterator's contract. -/
theorem rows_stops (n Bk Bo n₀ g : Nat) (l : List Msg) (F : List Nat) (w : World) (hn : 1 ≤ n) (hF : ∀ k ∈ F, k < n₀) (hBB : Bk ≠ Bo) (hl : l.length < 1000000) (hBo : Bo < w.heap.size)
    (hbox : w.heap[Bk]? = some (.cells #[.pointer (some ⟨g, 0, none⟩)] 43 (0, 0))) (hrep : KRep w g l F) :
    SeqStopsK Fence.wide n Tryz.prog 74 #[.pointer (some ⟨Bk, 0, none⟩)] (fun m : Msg => #[m.val]) (KeepsT 26 Bo n₀) (fun ys => ys = l) (fun _ => True) l.length w :=
  fun l0 J Jx W hW hJ _ hY h0 => rows1_in n l0 Bk Bo n₀ g l F hn hF hBB hl J Jx (fun pre x W _ => hY pre x W) W hJ (Nat.lt_of_lt_of_le hBo hW.size)
    (by rw [hW.block Bk (Array.getElem?_eq_some_iff.1 hbox).1]; exact hbox) (hrep.below hW) h0

/-- A message whose topic is no longer than the walks of its characters bear. -/
abbrev SMsg := { m : Msg // m.t.size < 4294967281 }
/-- .. at such messages. -/
theorem rows_stopsS (n Bk Bo n₀ g : Nat) (l : List Msg) (F : List Nat) (w : World) (hn : 1 ≤ n) (hF : ∀ k ∈ F, k < n₀) (hBB : Bk ≠ Bo) (hl : l.length < 1000000) (hBo : Bo < w.heap.size) (hml : ∀ m ∈ l, m.t.size < 4294967281)
    (hbox : w.heap[Bk]? = some (.cells #[.pointer (some ⟨g, 0, none⟩)] 43 (0, 0))) (hrep : KRep w g l F) :
    SeqStopsK Fence.wide n Tryz.prog 74 #[.pointer (some ⟨Bk, 0, none⟩)] (fun m : SMsg => #[m.1.val]) (KeepsT 26 Bo n₀) (fun ys => ys.map (·.1) = l) (fun _ => True) l.length w := by
  intro l0 J Jx W hW hJ hJx hY h0
  refine (rows1_in n l0 Bk Bo n₀ g l F hn hF hBB hl (fun pre W => ∃ xs : List SMsg, xs.map (·.1) = pre ∧ J xs W) (fun pre W => ∃ xs : List SMsg, xs.map (·.1) = pre ∧ Jx xs W) ?_ W
    (fun s A B row hs hg hr => by obtain ⟨xs, h1, h2⟩ := hs; exact ⟨xs, h1, hJ xs A B row h2 hg hr⟩) (Nat.lt_of_lt_of_le hBo hW.size)
    (by rw [hW.block Bk (Array.getElem?_eq_some_iff.1 hbox).1]; exact hbox) (hrep.below hW) ⟨[], rfl, h0⟩).mono ?_
  · rintro pre x W1 hx ⟨xs, rfl, hj⟩ hlen
    refine (hY xs ⟨x, hml x hx⟩ W1 hj (by simpa using hlen)).mono ?_
    rintro e W' (⟨rfl, h1, h2⟩ | ⟨rfl, h1⟩)
    · exact .inl ⟨rfl, ⟨_, by simp, h1⟩, h2⟩
    · exact .inr ⟨rfl, _, by simp, h1⟩
  · rintro e W' ⟨h1, ⟨ys, rfl, xs, h2, h3⟩ | ⟨pre, -, xs, h2, h3⟩⟩
    · exact ⟨h1, .inl ⟨xs, h2, h3⟩⟩
    · exact ⟨h1, .inr ⟨xs, trivial, h3⟩⟩
end Go.Proofs.YthfeckndkmhieaaGreatDoor
