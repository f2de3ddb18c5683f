/- What is kept: Find walked. -/
import Derived.Test.YtagjlmpmbflmhaaDoorKFind
namespace Go.Proofs.YtagjlmpmbflmhaaDoor
open Go Go.RowKit Go.Maps Go.Shelf

attribute [local go_sem] Oper.semAt_some

def finds (s : List UInt8) (l : List Msg) : List Msg := l.filter fun m => matchB s m.k
theorem finds_snoc (s : List UInt8) (l : List Msg) (m : Msg) : finds s (l ++ [m]) = finds s l ++ (if matchB s m.k then [m] else []) := by
  unfold finds
  rw [List.filter_append]
  by_cases h : matchB s m.k <;> simp [h]
theorem finds_len (s : List UInt8) (l : List Msg) : (finds s l).length ≤ l.length := List.length_filter_le _ _

def Stop (p : Prop) : Prop := p
theorem stopHere {p : Prop} (h : Stop p) : p := h
theorem boxed_below {W W' : World} {B : Nat} {t : TypeId} {v : Value} (h : Boxed W B t v) (hk : Below W.heap.size W W') : Boxed W' B t v := (hk.block B h.lt).trans h
theorem ownsRow_low {w w' : World} {B : Nat} {e : TypeId} {size n : Nat} {v : Value} {xs : List Value} (h : w.ownsRow B e size v n xs) (hb : Below w.heap.size w w') : w'.ownsRow B e size v n xs :=
  ownsRow_local h fun k hk => hb.block k (h.lt k hk).2
theorem keepsFrom_below {W W' : World} (B : Nat) (hk : Below W.heap.size W W') : KeepsFrom B W W' := ⟨hk.size, fun k _ _ h _ => (hk.block k (Array.getElem?_eq_some_iff.1 h).1).trans h⟩

set_option maxRecDepth 100000 in
set_option maxHeartbeats 4000000 in
theorem kfind_any (s : ByteArray) (g : Nat) (l : List Msg) (F : List Nat) (w : World) (hl : l.length < 1000000) (hT : Tabs w) (hs : s.size < 4294967281) (hml : ∀ m ∈ l, m.t.size < 4294967281) (hrep : KRep w g l F) :
    Calls Tryd.prog 14 #[.pointer (some ⟨g, 0, none⟩), .string s] w fun e w' =>
      ∃ v, e = .returned v ∧ w'.ownsRow w.heap.size 33 4 v (finds s.data.toList l).length (msgs (finds s.data.toList l)) ∧ Below w.heap.size w w' := by
  obtain ⟨i0, hi, hz0, hz1, hz2⟩ := info_parts T_msg.hi
  have hb0 : Below w.heap.size w (w.alloc (.cells #[.string s] 9)) := (Below.refl _ w).alloc (Nat.le_refl _) _
  have hb1 : Below w.heap.size w ((w.alloc (.cells #[.string s] 9)).alloc (.cells #[.slice none 0 0] 22)) := hb0.alloc (by simp) _
  have hb2 : Below w.heap.size w (((w.alloc (.cells #[.string s] 9)).alloc (.cells #[.slice none 0 0] 22)).alloc (.cells #[.pointer (some ⟨g, 0, none⟩)] 26)) := hb1.alloc (by simp; omega) _
  have bS := ((Boxed.new w 9 (.string s)).alloc (.cells #[.slice none 0 0] 22)).alloc (.cells #[.pointer (some ⟨g, 0, none⟩)] 26)
  have bO := (Boxed.new (w.alloc (.cells #[.string s] 9)) 22 (.slice none 0 0)).alloc (.cells #[.pointer (some ⟨g, 0, none⟩)] 26)
  have bK := heap_alloc_new ((w.alloc (.cells #[.string s] 9)).alloc (.cells #[.slice none 0 0] 22)) (.cells #[.pointer (some ⟨g, 0, none⟩)] 26)
  simp only [World.size_alloc] at bO bK
  have hF := hrep.lt
  have hrep1 := hrep.below hb2
  have hsz : (((w.alloc (.cells #[.string s] 9)).alloc (.cells #[.slice none 0 0] 22)).alloc (.cells #[.pointer (some ⟨g, 0, none⟩)] 26)).heap.size = w.heap.size + 3 := by simp
  have HM := Lib.hid (fun (m : Msg) (hm : m ∈ l) w hT => match_any s m.t w hT hs (hml m hm))
  have HT2 := Lib.hid hT
  refine (callsIn_wide (n := 6)).1 ?_
  have hfR : Fence.wide.fn 29 := trivial
  have hfM : Fence.wide.fn 21 := trivial
  refine callsIn_of_wp_marks Tryd.func14 rfl trivial ?_ rfl
  simp only [Tryd.ntmps14, List.size_toArray, List.length_cons, List.length_nil, Nat.reduceAdd, Nat.reduceSub, Array.replicate_succ, Array.replicate_zero, List.push_toArray, List.append_toArray, List.nil_append, List.cons_append]
  gi_wp2_with (gi_at_call 29; refine (callsIn_wide.2 (rows_any g _)).mono ?_; rintro e w' ⟨rfl, rfl⟩)
  obtain ⟨W0, hW0⟩ : ∃ W0, (((w.alloc (.cells #[.string s] 9)).alloc (.cells #[.slice none 0 0] 22)).alloc (.cells #[.pointer (some ⟨g, 0, none⟩)] 26)) = W0 := ⟨_, rfl⟩
  rw [hW0] at hb2 bS bO bK hrep1 hsz ⊢
  clear hW0 hb0 hb1 hT
  refine wpIn_rangeFunc_ownH rfl (by omega) (gf := 38) (lb := #[.pointer (some ⟨w.heap.size + 1 + 1, 0, none⟩)]) rfl trivial (enters_of Tryd.func38 (by kernel_rfl) rfl)
    (rows_stopsS (6 - 1) (w.heap.size + 1 + 1) (w.heap.size + 1) w.heap.size g l F W0 (by omega) hF (by omega) hl (by omega) hml bK hrep1) keepsT_t (keepsT_b (by omega)) (Below.refl _ _) (fun _ => rfl)
    (fun pre W => ((∃ v, Boxed W (w.heap.size + 1) 22 v ∧ W.ownsRow w.heap.size 33 4 v (finds s.data.toList (pre.map (·.1))).length (msgs (finds s.data.toList (pre.map (·.1)))) ∧ True) ∧ Boxed W w.heap.size 9 (.string s)) ∧ Below w.heap.size w W)
    (fun _ _ _ => False)
    (OwnFrom.and (OwnFrom.and (Own.from (holdsRow_own w.heap.size (w.heap.size + 1) 22 33 4 (fun pre : List SMsg => (finds s.data.toList (pre.map (·.1))).length) (fun pre => msgs (finds s.data.toList (pre.map (·.1)))) (fun _ _ => True)) _) (Own.from (boxed_own _ _ _) _)) (ownFrom_below (Nat.le_refl _) (by omega)))
    (fun _ _ _ _ _ hs _ _ => hs)
    ⟨⟨⟨_, bO, World.ownsRow_nil _ _ _ _, trivial⟩, bS⟩, hb2⟩
    (fun m a' W => VarAt (w.heap.size + 1) (fun Bx => { tmps := #[.pointer (some ⟨g, 0, none⟩), .string s, undef, .pointer (some ⟨w.heap.size, 0, none⟩), .slice none 0 0, .pointer (some ⟨w.heap.size + 1, 0, none⟩), .pointer (some ⟨Bx, 0, none⟩), .pointer (some ⟨g, 0, none⟩), .bool false, .pointer (some ⟨g, 0, none⟩), .func (.func 38) #[] #[.pointer (some ⟨w.heap.size + 1 + 1, 0, none⟩)], .agg #[.string m.1.t, .string m.1.p, .int .u8 m.1.q, .bool m.1.r], undef, undef, undef, undef, undef, undef, undef, undef, undef], defers := [] }) m.1 a' W)
    (fun m a' => varAt_own _ _ _ m.1 a')
    ?assign ?body ?done ?stop
  case assign =>
    rintro l0 pre ⟨⟨mt, mp, mq, mr⟩, hms⟩ W K ⟨⟨⟨v, hv, hrow, -⟩, hS⟩, hB⟩ hK
    dsimp only [Msg.val]
    gi_wp2
    exact hK _ _ ((KeepsOthers.alloc _ _).from _) (keepsT_alloc hB.size _) ⟨⟨⟨v, hv.alloc _, hrow.alloc _, trivial⟩, hS.alloc _⟩, hB.alloc hB.size _⟩ ⟨W.heap.size, hv.lt, heap_alloc_new W _, rfl⟩
  case body =>
    rintro l0 pre ⟨⟨mt, mp, mq, mr⟩, hms⟩ a' W hD - ⟨⟨⟨v, hv, hrow, -⟩, hS⟩, hB⟩ ⟨Bx, hBx, hx, rfl⟩ hlen
    have hsz2 := hB.size
    have h1' : 1 ≤ 6 - 1 - 1 := by omega
    obtain ⟨k0, k1, k2, k3⟩ := cells4 hx
    have kS := hS.cell
    have HMM := Lib.hid (match_any s mt W (HT2.out.below hB) hs hms)
    have HSN := Lib.hid (finds_snoc s.data.toList (pre.map (·.1)) ⟨mt, mp, mq, mr⟩)
    have HFL := Lib.hid (show (finds s.data.toList (pre.map (·.1))).length ≤ pre.length by have := finds_len s.data.toList (pre.map (·.1)); rw [List.length_map] at this; exact this)
    obtain ⟨b, hb⟩ : ∃ b, matchB s.data.toList mt.data.toList = b := ⟨_, rfl⟩
    rw [hb] at HMM
    have HBB := Lib.hid hb
    clear hb
    dsimp only at *
    cases b with
    | false =>
      gi_wp2_with (gi_at_call 21; refine (CallsIn.inRound l0 (callsIn_wide.2 HMM.out)).mono ?_; rintro e w' ⟨rfl, hk⟩)
      have e1 : finds s.data.toList ((pre ++ [(⟨⟨mt, mp, mq, mr⟩, hms⟩ : SMsg)]).map (·.1)) = finds s.data.toList (pre.map (·.1)) := by
        rw [List.map_append, List.map_singleton, HSN.out, if_neg (by simp [Msg.k, HBB.out])]; simp
      refine ⟨keepsFrom_below _ hk, keepsT_below hsz2 hk, ⟨⟨⟨v, boxed_below hv hk, ?_, trivial⟩, boxed_below hS hk⟩, hB.trans (hk.mono hsz2)⟩⟩
      rw [e1]
      exact ownsRow_low hrow hk
    | true =>
      gi_wp2_with (first
        | (gi_at_call 21; refine (CallsIn.inRound l0 (callsIn_wide.2 HMM.out)).mono ?_; rintro e w' ⟨rfl, hk⟩
           have hvW := boxed_below hv hk
           have hrowW := ownsRow_low hrow hk
           have hSW := boxed_below hS hk
           have hxW : w'.heap[Bx]? = some (.cells #[.string mt, .string mp, .int .u8 mq, .bool mr] 33 (0, 0)) := by rw [hk.block Bx (Array.getElem?_eq_some_iff.1 hx).1]; exact hx
           have hsz3 : w.heap.size ≤ w'.heap.size := Nat.le_trans hsz2 hk.size
           obtain ⟨q0, q1, q2, q3⟩ := cells4 hxW
           have kv := hvW.cell
           clear k0 k1 k2 k3)
        | (gi_at_builtin; refine stopHere ?_))
      unfold Stop
      refine wpListIn_append_own _ rfl _ _ 22 rfl w.heap.size 33 i0 _ 4 40 Tryd.underlying22 hi hz0 hz1 hz2 T_msg.hzs (by decide) _ _ _ rfl (hrowW.alloc _) ⟨w'.heap.size, 0, none⟩ 1 1 [.string mt, .string mp, .int .u8 mq, .bool mr] rfl rfl (World.news_of_block (heap_alloc_new w' _)) (by simp [Value.oneCell']) (by have := HFL.out; unfold maxLen; omega) (by have := HFL.out; omega) (by simp; omega) ?_
      intro v' w1 hown' hgrow _
      obtain ⟨g', cap', rfl⟩ := ownsRow_succ hown'
      obtain ⟨hv1, hv2, hr2, hk2, hb2⟩ := hvW.appended (by decide) hrowW hsz3 (Nat.le_succ _) hown' hgrow
      have hc1 := hv1.cell
      have hf1 := hv1.frozen
      gi_wp2
      have e1 : finds s.data.toList ((pre ++ [(⟨⟨mt, mp, mq, mr⟩, hms⟩ : SMsg)]).map (·.1)) = finds s.data.toList (pre.map (·.1)) ++ [⟨mt, mp, mq, mr⟩] := by
        rw [List.map_append, List.map_singleton, HSN.out, if_pos (by simp [Msg.k, HBB.out])]
      refine ⟨(keepsFrom_below _ hk).trans (hk2.from _), keepsT_t (keepsT_below hsz2 hk) (keepsT_app hvW hrowW hgrow hb2), ⟨⟨⟨_, hv2, ?_, trivial⟩, ?_⟩, (hB.trans (hk.mono hsz2)).trans hb2⟩⟩
      · rw [e1, ← msgs_append, List.length_append]
        exact hr2
      · have hS1 : Boxed w1 w.heap.size 9 (.string s) := (hSW.alloc _).kept hgrow (hSW.not_row (by decide) hrowW)
        exact hS1.other (by omega) _
  case done =>
    rintro D ys W hD rfl ⟨⟨⟨v, hv, hrow, -⟩, hS⟩, hB⟩ hK
    have kv := hv.cell
    have hrow' := ownsRow_putObj hrow (.deferred none) hK rfl
    obtain ⟨a, cap, rfl, -, -, -⟩ := ownsRow_row hrow
    gi_wp2
    refine ⟨by simp, .inl ⟨_, _, rfl, run_takeDeferred hK, ?_⟩⟩
    refine ⟨_, results_tmp rfl _ _ _, ?_⟩
    exact ⟨_, rfl, hrow', hB.trans (belowK_b (w := w) (Nat.le_refl _) W D _ _ (by omega) hK rfl rfl)⟩
  case stop =>
    rintro D c pre W _ _ h _
    exact h.elim
end Go.Proofs.YtagjlmpmbflmhaaDoor
