import Derived.Test.YtpladpcagdkhmaaQueue4
namespace Go.Proofs.Ytpladpcagdkhmaa
open Go Go.RowKit

theorem ownsRow_mono {w : World} {B B' : Nat} {e : TypeId} {size n : Nat} {v : Value} {xs : List Value} (h : w.ownsRow B e size v n xs) (hB : B' ≤ B) : w.ownsRow B' e size v n xs := by
  refine ⟨h.1, ?_⟩
  rcases h.2 with hn | ⟨b, cap, cur, hv, hb, r⟩
  · exact .inl hn
  · exact .inr ⟨b, cap, cur, hv, Nat.le_trans hB hb, r⟩

/-- The reference's queue lies at block g. -/
def RRep (w : World) (g : Nat) (l : List Msg) (most : Int) (F : List Nat) : Prop :=
  ∃ v, w.heap[g]? = some (.cells #[v, .int .i64 most] 45 (0, 0)) ∧ w.ownsRow 0 28 4 v l.length (msgs l) ∧ (l.length : Int) ≤ most ∧ 1 ≤ most ∧ most ≤ 1024 ∧ v.ownBlock ≠ some g ∧ F = g :: v.ownBlock.toList
theorem RRep.lt {w : World} {g : Nat} {l : List Msg} {most : Int} {F : List Nat} (h : RRep w g l most F) : ∀ k ∈ F, k < w.heap.size := by
  obtain ⟨v, hg, hown, _, _, _, _, rfl⟩ := h
  intro k hk
  simp only [List.mem_cons, Option.mem_toList] at hk
  rcases hk with rfl | hk
  · exact (Array.getElem?_eq_some_iff.1 hg).1
  · exact (hown.lt k hk).2
theorem RRep.mod {S : List Nat} {w w' : World} {g : Nat} {l : List Msg} {most : Int} {F : List Nat} (h : RRep w g l most F) (hm : Mod S w w') (hS : ∀ k ∈ F, k ∉ S) : RRep w' g l most F := by
  have hlt := h.lt
  obtain ⟨v, hg, hown, h1, h2, h3, h4, rfl⟩ := h
  have hF : ∀ k ∈ g :: v.ownBlock.toList, w'.heap[k]? = w.heap[k]? := fun k hk => hm.block k (hlt k hk) (hS k hk)
  exact ⟨v, by rw [hF g (by simp)]; exact hg, ownsRow_local hown fun k hk => hF k (by simp [hk]), h1, h2, h3, h4, rfl⟩
theorem RRep.drewN {w : World} {g : Nat} {l : List Msg} {most : Int} {F : List Nat} (h : RRep w g l most F) (n : Nat) : RRep (w.drewN n) g l most F := h
theorem cells2 {w : World} {g : Nat} {a b : Value} {T : TypeId} {fr : Nat × Nat} (h : w.heap[g]? = some (.cells #[a, b] T fr)) :
    w.cell? ⟨g, 0, none⟩ = some a ∧ w.cell? ⟨g, 1, none⟩ = some b := ⟨cell_of_row w g 0 _ _ _ h, cell_of_row w g 1 _ _ _ h⟩

theorem rnew_any (most : Int) (w : World) (hm : 1 ≤ most ∧ most ≤ 1024) :
    Calls Try.prog 19 #[.int .i64 most] w fun e w' => ∃ g, e = .returned (.pointer (some ⟨g, 0, none⟩)) ∧ RRep w' g [] most [g] ∧ Upd [] [g] w w' := by
  obtain ⟨h1, h2⟩ := hm
  go_enter Try.func19, Try.ntmps19
  go_wp2_with fail
  go_ret
  refine ⟨_, rfl, ?_, (Mod.refl _ _).alloc _, by simp⟩
  exact ⟨.slice none 0 0, heap_alloc_new _ _, World.ownsRow_nil _ _ _ _, by simp; omega, h1, h2, by simp [Value.ownBlock], rfl⟩
theorem rnew_out (most : Int) (w : World) (hm : most < 1 ∨ 1024 < most) :
    Calls Try.prog 19 #[.int .i64 most] w fun e w' => e = .returned (.pointer none) ∧ w = w' := by
  rcases hm with hm | hm
  · skip
    go_enter Try.func19, Try.ntmps19
    go_wp2_with fail
    go_ret
    exact ⟨rfl, rfl⟩
  · have : ¬ most < 1 := by omega
    go_enter Try.func19, Try.ntmps19
    go_wp2_with fail
    go_ret
    exact ⟨rfl, rfl⟩

theorem rpush_full (g : Nat) (l : List Msg) (most : Int) (F : List Nat) (m : Msg) (w : World) (h : RRep w g l most F) (hl : (l.length : Int) = most) :
    Calls Try.prog 20 #[.pointer (some ⟨g, 0, none⟩), m.val] w fun e w' => e = .returned (.bool false) ∧ RRep w' g l most F ∧ Upd F F w w' := by
  have hM := (Mod.refl F w).alloc (.cells m.cells.toArray 28)
  have H := Lib.hid (h.mod ((Mod.refl [] w).alloc (.cells m.cells.toArray 28)) (by simp))
  obtain ⟨v, hg, hown, h1, h2, h3, h4, -⟩ := h
  obtain ⟨a, cap, rfl, -, -, -⟩ := ownsRow_row hown
  have hg' := (Below.heap_alloc w (.cells m.cells.toArray 28) g (Array.getElem?_eq_some_iff.1 hg).1).trans hg
  obtain ⟨mt, mp, mq, mr⟩ := m
  obtain ⟨c0, c1⟩ := cells2 (w := w.alloc (.cells #[.string mt, .string mp, .int .u8 mq, .bool mr] 28)) hg'
  have HM := Lib.hid hM
  clear hg hown h4 hg' hM
  unfold Msg.val
  go_enter Try.func20, Try.ntmps20
  go_wp2_with fail
  go_quiet (fail)
  go_wp2_with fail
  go_ret
  exact ⟨rfl, H.out.drewN _, HM.out.drewN _, fun k hk => .inl hk⟩

theorem row_msgs {w : World} {B : Nat} {e : TypeId} {n : Nat} {v : Value} {l : List Msg} (h : w.ownsRow B e 4 v n (msgs l)) : n = l.length := by
  have := h.1; rw [msgs_length] at this; omega
/-- The reference's queue behind a store of its new row. -/
theorem rset_fin {w W1 W3 : World} {g : Nat} {v0 v : Value} {l : List Msg} {most : Int} {F : List Nat} (hg : W1.heap[g]? = some (.cells #[v0, .int .i64 most] 45 (0, 0)))
    (hb : Below W1.heap.size W1 W3) (hown : W3.ownsRow W1.heap.size 28 4 v l.length (msgs l)) (hM : Mod F w W1) (hgF : g ∈ F) (h1 : (l.length : Int) ≤ most) (h2 : 1 ≤ most) (h3 : most ≤ 1024) :
    RRep (W3.setCell ⟨g, 0, none⟩ v) g l most (g :: v.ownBlock.toList) ∧ Upd F (g :: v.ownBlock.toList) w (W3.setCell ⟨g, 0, none⟩ v) := by
  have hgl : g < W1.heap.size := (Array.getElem?_eq_some_iff.1 hg).1
  have hlt := hown.lt
  have hg3 : W3.heap[g]? = some (.cells #[v0, .int .i64 most] 45 (0, 0)) := (hb.block g hgl).trans hg
  have hne : ∀ k, v.ownBlock = some k → k ≠ g := fun k hk => by have := (hlt k hk).1; omega
  refine ⟨⟨v, ?_, ?_, h1, h2, h3, ?_, rfl⟩, (hM.next hb).setCell (.inl hgF) v, ?_⟩
  · rw [heap_setCell_same W3 g 0 _ _ v hg3]; rfl
  · exact ownsRow_local (ownsRow_mono hown (Nat.zero_le _)) fun k hk => heap_setCell_other W3 _ _ _ (hne k hk)
  · intro hk; exact hne g hk rfl
  · intro k hk
    simp only [List.mem_cons, Option.mem_toList] at hk
    rcases hk with rfl | hk
    · exact .inl hgF
    · right; have := (hlt k hk).1; have := hM.size; omega

set_option maxRecDepth 100000 in
set_option maxHeartbeats 2000000 in
theorem rpush_room (g : Nat) (l : List Msg) (most : Int) (F : List Nat) (m : Msg) (w : World) (h : RRep w g l most F) (hl : (l.length : Int) < most) :
    Calls Try.prog 20 #[.pointer (some ⟨g, 0, none⟩), m.val] w fun e w' => e = .returned (.bool true) ∧ ∃ F', RRep w' g (l ++ [m]) most F' ∧ Upd F F' w w' := by
  have hM := (Mod.refl F w).alloc (.cells m.cells.toArray 28)
  obtain ⟨v, hg, hown, h1, h2, h3, h4, rfl⟩ := h
  obtain ⟨a, cap, rfl, hrow, -, -⟩ := ownsRow_row hown
  have hg' := (Below.heap_alloc w (.cells m.cells.toArray 28) g (Array.getElem?_eq_some_iff.1 hg).1).trans hg
  have hrow' := hrow.below ((Below.refl w.heap.size w).alloc (Nat.le_refl _) (.cells m.cells.toArray 28)) (Nat.le_refl _)
  have hbox := heap_alloc_new w (.cells m.cells.toArray 28)
  obtain ⟨mt, mp, mq, mr⟩ := m
  obtain ⟨c0, c1⟩ := cells2 (w := w.alloc (.cells #[.string mt, .string mp, .int .u8 mq, .bool mr] 28)) hg'
  have hdec : decide (most ≤ (l.length : Int)) = false := by simp; omega
  have HM := Lib.hid hM
  have HG := Lib.hid hg'
  have HB := Lib.hid hbox
  have HR := Lib.hid hrow'
  clear hg hown h4 hg' hM hrow hrow' hbox
  unfold Msg.val
  go_enter Try.func20, Try.ntmps20
  go_wp2_with fail
  go_quiet (fail)
  rename_i nq
  replace HM := Lib.hid (HM.out.drewN nq)
  replace HG : Hid (((w.alloc (.cells #[.string mt, .string mp, .int .u8 mq, .bool mr] 28)).drewN nq).heap[g]? = some (.cells #[.slice a l.length cap, .int .i64 most] 45 (0, 0))) := HG.out
  replace HB : Hid (((w.alloc (.cells #[.string mt, .string mp, .int .u8 mq, .bool mr] 28)).drewN nq).heap[w.heap.size]? = some (.cells #[.string mt, .string mp, .int .u8 mq, .bool mr] 28 (0, 0))) := HB.out
  replace HR : Hid (Row ((w.alloc (.cells #[.string mt, .string mp, .int .u8 mq, .bool mr] 28)).drewN nq) a (msgs l)) := HR.out
  change Mod _ w ((w.alloc (.cells #[.string mt, .string mp, .int .u8 mq, .bool mr] 28)).drewN nq) at HM
  refine (?_ : ∀ W1 : World, Mod _ w W1 → W1.heap[g]? = some (.cells #[.slice a l.length cap, .int .i64 most] 45 (0, 0)) → W1.heap[w.heap.size]? = some (.cells #[.string mt, .string mp, .int .u8 mq, .bool mr] 28 (0, 0)) → Row W1 a (msgs l) → Exit.then _ _ Exit.normal _ W1) _ HM HG.out HB.out HR.out
  clear HM HG HB HR c0 c1
  intro W1 hM hg hbox hrow
  obtain ⟨c0, c1⟩ := cells2 hg
  have f0 := frozen_of_row W1 g 0 _ _ hg
  obtain ⟨k0, k1, k2, k3⟩ := cells4 hbox
  have hgl : g < W1.heap.size := (Array.getElem?_eq_some_iff.1 hg).1
  have hxl : w.heap.size < W1.heap.size := (Array.getElem?_eq_some_iff.1 hbox).1
  have HG := Lib.hid hg
  have HB := Lib.hid hbox
  clear hg hbox
  go_wp2_with (at_builtin; refine wpList_appRow T_msg (World.ownsRow_nil W1 W1.heap.size _ _) (Below.refl _ _) (Nat.le_refl _) hrow rfl rfl rfl rfl (msgs_length l) (msgs_one l) (by omega) (by omega) ?_)
  intro v2 W2 hown2 hb2 hB2
  obtain ⟨a2, cap2, rfl, -, -, -⟩ := ownsRow_row hown2
  have HG2 := Lib.hid ((hb2.block g hgl).trans HG.out)
  have HB2 := Lib.hid ((hb2.block _ hxl).trans HB.out)
  clear c0 c1 f0 k0 k1 k2 k3 hrow
  obtain ⟨c0, c1⟩ := cells2 HG2.out
  have f0 := frozen_of_row W2 g 0 _ _ HG2.out
  obtain ⟨k0, k1, k2, k3⟩ := cells4 HB2.out
  go_wp2_with (at_builtin; refine wpList_app T_msg hown2 hb2 hB2 rfl rfl rfl rfl rfl (by simp [Value.oneCell']) (by omega) (by omega) ?_)
  intro v3 W3 hown3 hb3 hB3 hlt3
  obtain ⟨a3, cap3, rfl, -, -, -⟩ := ownsRow_row hown3
  have hown3' : W3.ownsRow W1.heap.size 28 4 (.slice a3 (l.length + 1) cap3) (l ++ [(⟨mt, mp, mq, mr⟩ : Msg)]).length (msgs (l ++ [(⟨mt, mp, mq, mr⟩ : Msg)])) := by
    rw [← msgs_append]; simpa [msgs, Msg.cells] using hown3
  clear hown3
  have HG3 := Lib.hid ((hb3.block g hgl).trans HG.out)
  clear c0 c1 f0 k0 k1 k2 k3
  obtain ⟨c0, c1⟩ := cells2 HG3.out
  have f0 := frozen_of_row W3 g 0 _ _ HG3.out
  go_wp2_with fail
  go_ret
  obtain ⟨z1, z2⟩ := rset_fin HG.out hb3 hown3' hM List.mem_cons_self (by simp; omega) h2 h3
  exact ⟨rfl, _, z1, z2⟩

theorem rpop_empty (g : Nat) (most : Int) (F : List Nat) (w : World) (h : RRep w g [] most F) :
    Calls Try.prog 21 #[.pointer (some ⟨g, 0, none⟩)] w fun e w' => e = .returned (.tuple #[Msg.none.val, .bool false]) ∧ Below w.heap.size w w' := by
  obtain ⟨v, hg, hown, h1, h2, h3, h4, -⟩ := h
  obtain ⟨a, cap, rfl, -, -, -⟩ := ownsRow_row hown
  have hg' := (Below.heap_alloc w (.cells #[.string ⟨#[]⟩, .string ⟨#[]⟩, .int .u8 0, .bool false] 28) g (Array.getElem?_eq_some_iff.1 hg).1).trans hg
  obtain ⟨c0, c1⟩ := cells2 hg'
  simp only [List.length_nil] at c0
  clear hg hown h4 hg'
  go_enter Try.func21, Try.ntmps21
  go_wp2_with fail
  exact bodyPost_ret (results_row_tmp (cs := #[.string ⟨#[]⟩, .string ⟨#[]⟩, .int .u8 0, .bool false]) rfl rfl (heap_alloc_new w _) Try.underlying28 rfl msg_size) rfl ⟨rfl, (Below.refl _ _).alloc (Nat.le_refl _) _⟩

/-- 'l[1:]'. -/
theorem run_slice_l1 {P : Program} {t e : TypeId} (ht : P.underlying t = some (.slice e)) (hsz : (P.info? e).map (·.size) = some 4) (b off n cap : Nat) (w : World) :
    (Instr.slice t (.slice (some ⟨b, off, none⟩) (n + 1) cap) (some (.int .i64 1)) none none).run P w = .ok (.slice (if cap = 1 then some ⟨b, off, none⟩ else some ⟨b, off + 4, none⟩) n (cap - 1)) w := by
  cases hq : P.info? e with
  | none => simp [hq] at hsz
  | some i =>
    have hs : i.size = 4 := by simpa [hq] using hsz
    have h1 : (0 : Int) ≤ 1 ∧ (1 : Int) ≤ ((n + 1 : Nat) : Int) := by omega
    simp [Instr.slice, run_underlying ht, Instr.sliceBounds, Instr.sliceBound, asIntOf, sizeOf, typeInfo, hq, hs, Addr.add]
    intro h
    omega
theorem row_rest {w : World} {b off : Nat} {m : Msg} {l : List Msg} (h : Row w (some ⟨b, off, none⟩) (msgs (m :: l))) : Row w (some ⟨b, off + 4, none⟩) (msgs l) := by
  have ht := row_tail (A := [m]) h (by simp)
  simp only [List.length_singleton, Nat.one_mul] at ht
  refine .inr ⟨b, off + 4, rfl, fun j u hj => ?_⟩
  have h1 := ht j u hj
  have e1 : (⟨b, off + 4, none⟩ : Addr).add j = ⟨b, off + 4 + j, none⟩ := by unfold Addr.add; split <;> simp_all
  rwa [e1] at h1

set_option maxRecDepth 100000 in
set_option maxHeartbeats 2000000 in
theorem rpop_some (g : Nat) (m : Msg) (l : List Msg) (most : Int) (F : List Nat) (w : World) (h : RRep w g (m :: l) most F) :
    Calls Try.prog 21 #[.pointer (some ⟨g, 0, none⟩)] w fun e w' => e = .returned (.tuple #[m.val, .bool true]) ∧ ∃ F', RRep w' g l most F' ∧ Upd F F' w w' := by
  have hM := (Mod.refl F w).alloc (.cells #[.string ⟨#[]⟩, .string ⟨#[]⟩, .int .u8 0, .bool false] 28)
  obtain ⟨v, hg, hown, h1, h2, h3, h4, rfl⟩ := h
  obtain ⟨a, cap, rfl, hrow, hnc, -⟩ := ownsRow_row hown
  simp only [List.length_cons] at hg h1 hnc hM hown
  have hgl : g < w.heap.size := (Array.getElem?_eq_some_iff.1 hg).1
  have hg' := (Below.heap_alloc w (.cells #[.string ⟨#[]⟩, .string ⟨#[]⟩, .int .u8 0, .bool false] 28) g hgl).trans hg
  have hrow' := hrow.below ((Below.refl w.heap.size w).alloc (Nat.le_refl _) (.cells #[.string ⟨#[]⟩, .string ⟨#[]⟩, .int .u8 0, .bool false] 28)) (Nat.le_refl _)
  obtain ⟨b, off, rfl, k0, k1, k2, k3⟩ := msgs_row hrow' (k := 0) (m := m) (by simp)
  simp only [Nat.zero_mul, Nat.add_zero] at k0 k1 k2 k3
  have HW := Lib.hid (row_rest hrow')
  obtain ⟨mt, mp, mq, mr⟩ := m
  obtain ⟨c0, c1⟩ := cells2 hg'
  have HM := Lib.hid hM
  have HG := Lib.hid hg'
  clear hg hown h4 hg' hM hrow hrow'
  have hz : ((l.length : Int) + 1 == 0) = false := by simp; omega
  have hl1 : (1 : Int) ≤ (l.length : Int) + 1 := by omega
  have hl0 : 0 < l.length + 1 := by omega
  unfold Msg.val
  have hgr : ¬ g = w.heap.size := by omega
  have hgs : ¬ g = w.heap.size + 1 := by omega
  have hgr' : ¬ w.heap.size = g := by omega
  have hgs' : ¬ w.heap.size + 1 = g := by omega
  have key : ∀ (ad : Option Addr), Row ((w.alloc (.cells #[.string ⟨#[]⟩, .string ⟨#[]⟩, .int .u8 0, .bool false] 28)).alloc (.cells #[.string mt, .string mp, .int .u8 mq, .bool mr] 28)) ad (msgs l) → (if cap = 1 then some (⟨b, off, none⟩ : Addr) else some ⟨b, off + 4, none⟩) = ad →
      Calls Try.prog 21 #[.pointer (some ⟨g, 0, none⟩)] w fun e w' => e = .returned (.tuple #[.agg #[.string mt, .string mp, .int .u8 mq, .bool mr], .bool true]) ∧ ∃ F', RRep w' g l most F' ∧ Upd (g :: (Value.slice (some ⟨b, off, none⟩) (l.length + 1) cap).ownBlock.toList) F' w w' := by
    intro ad hrow had
    have HR := Lib.hid hrow
    have hsl : ∀ w, (Instr.slice 30 (.slice (some ⟨b, off, none⟩) (l.length + 1) cap) (some (.int .i64 1)) none none).run Try.prog w = .ok (.slice ad l.length (cap - 1)) w := by
      intro w
      have h := run_slice_l1 (P := Try.prog) Try.underlying30 (by kernel_rfl) b off l.length cap w
      rw [h, ← had]
    clear hrow
    go_enter Try.func21, Try.ntmps21
    go_wp2_with (at_builtin; refine wpList_appRow T_msg (World.ownsRow_nil _ _ _ _) (Below.refl _ _) (Nat.le_refl _) HR.out rfl rfl rfl rfl (msgs_length l) (msgs_one l) (by omega) (by omega) ?_)
    intro v2 W2 hown2 hb2 hB2
    obtain ⟨a2, cap2, rfl, -, -, -⟩ := ownsRow_row hown2
    have HG1 := Lib.hid ((Below.heap_alloc _ (.cells #[.string mt, .string mp, .int .u8 mq, .bool mr] 28) g (by simp; omega)).trans HG.out)
    have HG2 := Lib.hid ((hb2.block g (by omega)).trans HG1.out)
    have HR2 := Lib.hid ((hb2.block w.heap.size (by omega)).trans ((Below.heap_alloc _ (.cells #[.string mt, .string mp, .int .u8 mq, .bool mr] 28) w.heap.size (by simp)).trans (heap_alloc_new w _)))
    have HS2 := Lib.hid ((hb2.block (w.heap.size + 1) (by omega)).trans (by
      have h := heap_alloc_new (w.alloc (.cells #[.string ⟨#[]⟩, .string ⟨#[]⟩, .int .u8 0, .bool false] 28)) (.cells #[.string mt, .string mp, .int .u8 mq, .bool mr] 28)
      simp only [World.size_alloc] at h
      exact h))
    have HM2 := Lib.hid (HM.out.alloc (.cells #[.string mt, .string mp, .int .u8 mq, .bool mr] 28))
    clear c0 c1 k0 k1 k2 k3 hsl
    obtain ⟨c0, c1⟩ := cells2 HG2.out
    have fg := frozen_of_row W2 g 0 _ _ HG2.out
    obtain ⟨k0, k1, k2, k3⟩ := cells4 HS2.out
    obtain ⟨r0, r1, r2, r3⟩ := cells4 HR2.out
    obtain ⟨f0, f1, f2, f3⟩ := free4 HR2.out
    go_wp2_with fail
    have hb2' : Below ((w.alloc (.cells #[.string ⟨#[]⟩, .string ⟨#[]⟩, .int .u8 0, .bool false] 28)).alloc (.cells #[.string mt, .string mp, .int .u8 mq, .bool mr] 28)).heap.size ((w.alloc (.cells #[.string ⟨#[]⟩, .string ⟨#[]⟩, .int .u8 0, .bool false] 28)).alloc (.cells #[.string mt, .string mp, .int .u8 mq, .bool mr] 28)) W2 := hb2.mono (by simp)
    have hown2' : W2.ownsRow ((w.alloc (.cells #[.string ⟨#[]⟩, .string ⟨#[]⟩, .int .u8 0, .bool false] 28)).alloc (.cells #[.string mt, .string mp, .int .u8 mq, .bool mr] 28)).heap.size 28 4 (.slice a2 l.length cap2) l.length (msgs l) := ownsRow_mono hown2 (by simp)
    obtain ⟨z1, z2⟩ := rset_fin HG1.out hb2' hown2' HM2.out List.mem_cons_self (by omega) h2 h3
    have hr3 := (heap_setCell_other W2 ⟨g, 0, none⟩ w.heap.size (.slice a2 l.length cap2) hgr').trans HR2.out
    obtain ⟨t1, t2⟩ := set4 (x := .string mt) (y := .string mp) (z := .int .u8 mq) (u := .bool mr) hr3
    have hnb : ∀ k ∈ g :: (Value.slice a2 l.length cap2).ownBlock.toList, k ∉ [w.heap.size] := by
      intro k hk hk'
      simp only [List.mem_singleton] at hk'
      simp only [List.mem_cons, Option.mem_toList] at hk
      rcases hk with hk | hk
      · omega
      · have := (hown2.lt k hk).1; omega
    exact bodyPost_ret (results_row_tmp (cs := #[.string mt, .string mp, .int .u8 mq, .bool mr]) rfl rfl (by exact t1) Try.underlying28 rfl msg_size) rfl ⟨rfl, _, z1.mod t2 hnb, z2.1.trans t2 (by simp), z2.2⟩
  by_cases hcap : cap = 1
  · refine key _ (.inl ?_) rfl
    have : l.length = 0 := by omega
    rw [List.eq_nil_of_length_eq_zero this]; rfl
  · exact key (some ⟨b, off + 4, none⟩) (HW.out.below ((Below.refl _ _).alloc (Nat.le_refl _) _) (Nat.le_refl _)) (if_neg hcap)
end Go.Proofs.Ytpladpcagdkhmaa
