/- What is kept: All (by the library's Collect, AppendSeq), Find walked. -/
import Derived.Test.YthfeckndkmhieaaGreatDoorKRows
import Derived.Maps.AppendAt
import Derived.Deep.AppendLies
namespace Go.Proofs.YthfeckndkmhieaaGreatDoor
open Go Go.RowKit Go.Maps Go.Shelf

attribute [local go_sem] Oper.semAt_some

theorem T_msg : ElemT Tryz.prog 35 26 (.agg #[.string ⟨#[]⟩, .string ⟨#[]⟩, .int .u8 0, .bool false]) 4 40 := ⟨Tryz.underlying35, by kernel_rfl, rfl, by decide⟩

theorem keepsT_alloc {T : TypeId} {Bo n₀ : Nat} {W : World} (hn : n₀ ≤ W.heap.size) (o : Obj) : KeepsT T Bo n₀ W (W.alloc o) :=
  ⟨(Below.refl _ _).alloc hn _, fun b cs t fr _ _ h => by rw [Below.heap_alloc _ _ _ (Array.getElem?_eq_some_iff.1 h).1]; exact h⟩
theorem keepsT_below {T : TypeId} {Bo n₀ : Nat} {W W' : World} (hn : n₀ ≤ W.heap.size) (h : Below W.heap.size W W') : KeepsT T Bo n₀ W W' :=
  ⟨h.mono hn, fun b cs t fr _ _ h3 => by rw [h.block b (Array.getElem?_eq_some_iff.1 h3).1]; exact h3⟩
theorem keepsT_app {T t : TypeId} {Bo n₀ size k : Nat} {W w1 : World} {v v' : Value} {xs : List Value} {tmp : Obj} (hv : Boxed W Bo t v) (hrow : W.ownsRow n₀ T size v k xs) (hgrow : (W.alloc tmp).grownBy w1 v.ownBlock) (hb : Below n₀ W (w1.setCell ⟨Bo, 0, none⟩ v')) :
    KeepsT T Bo n₀ W (w1.setCell ⟨Bo, 0, none⟩ v') := by
  refine ⟨hb, fun b cs t' fr h1 h2 h3 => ?_⟩
  have hl := (Array.getElem?_eq_some_iff.1 h3).1
  have hne : some b ≠ v.ownBlock := by
    rcases hrow.2 with ⟨rfl, _⟩ | ⟨g, cap, cur, rfl, _, hgb, _⟩
    · simp [Value.ownBlock]
    · intro e'
      obtain rfl : b = g := by simpa [Value.ownBlock] using e'
      rw [h3] at hgb
      simp at hgb
      exact h2 hgb.2.1
  rw [Below.heap_setCell _ _ _ _ h1, hgrow.block b (by simp; omega) hne, Below.heap_alloc _ _ _ hl]; exact h3

theorem row_base {W : World} {base base' : Nat} {e : TypeId} {size : Nat} {v : Value} {k : Nat} {xs : List Value} (h : W.ownsRow base e size v k xs) (hb : base' ≤ base) : W.ownsRow base' e size v k xs := by
  refine ⟨h.1, ?_⟩
  rcases h.2 with hn | ⟨b, cap, cur, rfl, hb', rest⟩
  · exact .inl hn
  · exact .inr ⟨b, cap, cur, rfl, Nat.le_trans hb hb', rest⟩
/-- the variable of a round: its four cells -/
def VarAt (n₀ : Nat) (a : Nat → Act) (m : Msg) (a' : Act) (W : World) : Prop := ∃ Bx, n₀ < Bx ∧ W.heap[Bx]? = some (.cells #[.string m.t, .string m.p, .int .u8 m.q, .bool m.r] 26 (0, 0)) ∧ a' = a Bx
theorem varAt_own (n₀ B : Nat) (a : Nat → Act) (m : Msg) (a' : Act) : OwnFrom B (fun (_ : Unit) W => VarAt n₀ a m a' W) := by
  rintro s X Y row ⟨Bx, h1, h2, h3⟩ hg hr
  refine ⟨Bx, h1, ?_, h3⟩
  rw [hg.block Bx (Array.getElem?_eq_some_iff.1 h2).1 (fun e => by obtain ⟨_, o, ho, hc⟩ := hr Bx e.symm; rw [h2] at ho; cases ho; cases hc)]
  exact h2

set_option maxRecDepth 100000 in
set_option maxHeartbeats 4000000 in
theorem appendSeq_any (Bk g : Nat) (l : List Msg) (F : List Nat) (w : World) (hl : l.length < 1000000)
    (hbox : w.heap[Bk]? = some (.cells #[.pointer (some ⟨g, 0, none⟩)] 43 (0, 0))) (hrep : KRep w g l F) :
    Calls Tryz.prog 73 #[.slice none 0 0, .func (.func 74) #[] #[.pointer (some ⟨Bk, 0, none⟩)]] w fun e w' =>
      ∃ v, e = .returned v ∧ w'.ownsRow w.heap.size 26 4 v l.length (msgs l) ∧ Below w.heap.size w w' := by
  obtain ⟨i0, hi, hz0, hz1, hz2⟩ := info_parts T_msg.hi
  have hbl := (Array.getElem?_eq_some_iff.1 hbox).1
  have hb0 : Below w.heap.size w (w.alloc (.cells #[.slice none 0 0] 35)) := (Below.refl _ w).alloc (Nat.le_refl _) _
  have hbox1 : (w.alloc (.cells #[.slice none 0 0] 35)).heap[Bk]? = some (.cells #[.pointer (some ⟨g, 0, none⟩)] 43 (0, 0)) := by rw [hb0.block Bk hbl]; exact hbox
  have hF := hrep.lt
  have hrep1 := hrep.below hb0
  have bO := Boxed.new w 35 (.slice none 0 0)
  have hsz : (w.alloc (.cells #[.slice none 0 0] 35)).heap.size = w.heap.size + 1 := by simp
  refine (callsIn_wide (n := 6)).1 ?_
  refine callsIn_of_wp_marks Tryz.func73 rfl trivial ?_ rfl
  simp only [Tryz.ntmps73, List.size_toArray, List.length_cons, List.length_nil, Nat.reduceAdd, Nat.reduceSub, Array.replicate_succ, Array.replicate_zero, List.push_toArray, List.append_toArray, List.nil_append, List.cons_append]
  gi_wp2
  obtain ⟨W0, hW0⟩ : ∃ W0, w.alloc (.cells #[.slice none 0 0] 35) = W0 := ⟨_, rfl⟩
  rw [hW0] at hb0 hbox1 hrep1 bO hsz ⊢
  clear hW0
  refine wpIn_rangeFunc_ownH rfl (by omega) (gf := 74) (lb := #[.pointer (some ⟨Bk, 0, none⟩)]) rfl trivial (enters_of Tryz.func74 (by kernel_rfl) rfl)
    (rows_stops (6 - 1) Bk w.heap.size w.heap.size g l F W0 (by omega) hF (by omega) hl (by omega) hbox1 hrep1) keepsT_t (keepsT_b (by omega)) (Below.refl _ _) (fun _ => rfl)
    (fun pre W => (∃ v, Boxed W w.heap.size 35 v ∧ W.ownsRow w.heap.size 26 4 v pre.length (msgs pre) ∧ True) ∧ Below w.heap.size w W)
    (fun _ _ _ => False)
    (OwnFrom.and (Own.from (holdsRow_own w.heap.size w.heap.size 35 26 4 (fun pre => pre.length) (fun pre => msgs pre) (fun _ _ => True)) _) (ownFrom_below (Nat.le_refl _) (by omega)))
    (fun _ _ _ _ _ hs _ _ => hs)
    ⟨⟨_, bO, World.ownsRow_nil _ _ _ _, trivial⟩, hb0⟩
    (fun m a' W => VarAt w.heap.size (fun Bx => { tmps := #[.slice none 0 0, .func (.func 74) #[] #[.pointer (some ⟨Bk, 0, none⟩)], .pointer (some ⟨w.heap.size, 0, none⟩), undef, .slice none 0 0, .pointer (some ⟨Bx, 0, none⟩), .func (.func 74) #[] #[.pointer (some ⟨Bk, 0, none⟩)], .agg #[.string m.t, .string m.p, .int .u8 m.q, .bool m.r], undef, undef, undef, undef, undef], defers := [] }) m a' W)
    (fun m a' => varAt_own _ _ _ m a')
    ?assign ?body ?done ?stop
  case assign =>
    rintro l0 pre ⟨mt, mp, mq, mr⟩ W K ⟨⟨v, hv, hrow, -⟩, hB⟩ hK
    dsimp only [Msg.val]
    gi_wp2
    exact hK _ _ ((KeepsOthers.alloc _ _).from _) (keepsT_alloc hB.size _) ⟨⟨v, hv.alloc _, hrow.alloc _, trivial⟩, hB.alloc hB.size _⟩ ⟨W.heap.size, hv.lt, heap_alloc_new W _, rfl⟩
  case body =>
    rintro l0 pre ⟨mt, mp, mq, mr⟩ a' W hD - ⟨⟨v, hv, hrow, -⟩, hB⟩ ⟨Bx, hBx, hx, rfl⟩ hlen
    have hs := hB.size
    obtain ⟨k0, k1, k2, k3⟩ := cells4 hx
    have kv := hv.cell
    dsimp only at *
    gi_wp2_with (gi_at_builtin; refine wpListIn_append_own _ rfl _ _ 35 rfl w.heap.size 26 i0 _ 4 40 Tryz.underlying35 hi hz0 hz1 hz2 T_msg.hzs (by decide) _ _ _ rfl (hrow.alloc _) ⟨W.heap.size, 0, none⟩ 1 1 [.string mt, .string mp, .int .u8 mq, .bool mr] rfl rfl (World.news_of_block (heap_alloc_new W _)) (by simp [Value.oneCell']) (by unfold maxLen; omega) (by omega) (by simp; omega) ?_; intro v' w1 hown' hgrow _; obtain ⟨g', cap', rfl⟩ := ownsRow_succ hown'; obtain ⟨hv1, hv2, hr2, hk2, hb2⟩ := hv.appended (by decide) hrow hs (Nat.le_refl _) hown' hgrow; have hc1 := hv1.cell; have hf1 := hv1.frozen)
    refine ⟨hk2.from _, keepsT_app hv hrow hgrow hb2, ⟨⟨_, hv2, ?_, trivial⟩, hB.trans hb2⟩⟩
    rw [← msgs_append, List.length_append]
    exact hr2
  case done =>
    rintro D ys W hD rfl ⟨⟨v, hv, hrow, -⟩, hB⟩ hK
    have kv := hv.cell
    have hrow' := ownsRow_putObj hrow (.deferred none) hK rfl
    obtain ⟨a, cap, rfl, -, -, -⟩ := ownsRow_row hrow
    gi_wp2
    refine ⟨by simp, .inl ⟨_, _, rfl, run_takeDeferred hK, ?_⟩⟩
    refine ⟨_, results_tmp rfl _ _ _, ?_⟩
    exact ⟨.slice a ys.length cap, rfl, hrow', hB.trans (belowK_b (w := w) (Nat.le_refl _) W D _ _ (by omega) hK rfl rfl)⟩
  case stop =>
    rintro D c pre W _ _ h _
    exact h.elim

theorem collect_any (Bk g : Nat) (l : List Msg) (F : List Nat) (w : World) (hl : l.length < 1000000)
    (hbox : w.heap[Bk]? = some (.cells #[.pointer (some ⟨g, 0, none⟩)] 43 (0, 0))) (hrep : KRep w g l F) :
    Calls Tryz.prog 53 #[.func (.func 74) #[] #[.pointer (some ⟨Bk, 0, none⟩)]] w fun e w' =>
      ∃ v, e = .returned v ∧ w'.ownsRow w.heap.size 26 4 v l.length (msgs l) ∧ Below w.heap.size w w' := by
  have H := Lib.hid (appendSeq_any Bk g l F w hl hbox hrep)
  clear hbox hrep
  go_enter Tryz.func53, Tryz.ntmps53
  go_wp2_with fail
  refine H.out.mono ?_
  rintro e w1 ⟨v, rfl, hv⟩
  go_wp2_with fail
  go_ret
  exact ⟨_, rfl, hv⟩
theorem kall_any (g : Nat) (l : List Msg) (F : List Nat) (w : World) (hl : l.length < 1000000) (hrep : KRep w g l F) :
    Calls Tryz.prog 32 #[.pointer (some ⟨g, 0, none⟩)] w fun e w' => ∃ v, e = .returned v ∧ w'.ownsRow w.heap.size 26 4 v l.length (msgs l) ∧ Below w.heap.size w w' := by
  have hb0 : Below w.heap.size w (w.alloc (.cells #[.pointer (some ⟨g, 0, none⟩)] 43)) := (Below.refl _ w).alloc (Nat.le_refl _) _
  have H := Lib.hid (collect_any w.heap.size g l F _ hl (heap_alloc_new w (.cells #[.pointer (some ⟨g, 0, none⟩)] 43)) (hrep.below hb0))
  have HB := Lib.hid hb0
  clear hrep hb0
  go_enter Tryz.func32, Tryz.ntmps32
  go_wp2_with fail
  refine (rows_any g w).mono ?_
  rintro e w1 ⟨rfl, rfl⟩
  go_wp2_with fail
  refine H.out.mono ?_
  rintro e w1 ⟨v, rfl, hv, hk⟩
  have hv := row_base hv (by simp : w.heap.size ≤ _)
  have hk := bnext HB.out (Nat.le_refl _) hk
  go_wp2_with fail
  go_ret
  exact ⟨_, rfl, hv, hk⟩
theorem kall_nil (w : World) : Calls Tryz.prog 32 #[.pointer none] w fun e w' => e = .returned (.slice none 0 0) ∧ w = w' := by
  go_enter Tryz.func32, Tryz.ntmps32
  go_wp2_with fail
  go_ret
  exact ⟨rfl, rfl⟩
end Go.Proofs.YthfeckndkmhieaaGreatDoor
