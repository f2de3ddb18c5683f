/- The document's topics: a name of any length. The document's answer for what is kept: May walked (a topic of any size). The document's way to set a message in a row: the plain law. No program in sight. The document's answer for what is kept: Set, Get, Find walked. The document's answer for what is kept: Set of a message that may not be kept; both at once. The document's keep: Find walked. (Cut out of KFinds.) The document's keep: Get walked. (Printed by mktdh.py.) -/
import Derived.Test.YthfdcphecggjeaaGreatDoorDK
import Derived.Test.YthfdcphecggjeaaGreatDoorQQ
import Derived.Test.YthfdcphecggjeaaGreatDoorQA
import Derived.Test.YthfdcphecggjeaaGreatDoorQR
import Derived.Laws.Cover1
import Derived.Test.YthfdcphecggjeaaGreatDoorKHelp
namespace Go.Proofs.YthfdcphecggjeaaGreatDoor
section
open Go Go.RowKit

theorem rname_all (s : ByteArray) (w : World) (hs : s.size ≤ 9223372036854775807) :
    Calls Tryz.prog 94 #[.string s] w fun e w' => e = .returned (.bool (nameB s.data.toList)) ∧ Below w.heap.size w w' := by
  by_cases he : s.data.toList = []
  · have h1 : s.size = 0 := by have : s.data.toList.length = s.size := rfl; rw [he] at this; simpa using this.symm
    have h2 : decide ((0 : Int) < s.size) = false := decide_eq_false (by omega)
    have h3 : ¬ 0 < s.size := by omega
    have HF := Lib.hid (show nameB s.data.toList = false by unfold nameB; rw [he]; rfl)
    clear he h1
    go_enter Tryz.func94, Tryz.ntmps94
    go_wp2_with fail
    go_ret
    exact ⟨ret_bool HF.out.symm, Below.refl _ _⟩
  · have h1 : 0 < s.size := by
      have : s.data.toList.length = s.size := rfl
      have := List.length_pos_iff.2 he; omega
    have h2 : (0 : Int) < s.size := by omega
    obtain ⟨v, hv⟩ : ∃ v, validI s.data.toList = v := ⟨_, rfl⟩
    have HF := Lib.hid (show nameB s.data.toList = (v && plainB s.data.toList) by rw [nameB, List.isEmpty_eq_false_iff.2 he, ← hv]; rfl)
    have HSZ : Hid (v = true → s.size < 4294967281) := Lib.hid (fun h => by
      rw [← hv] at h
      unfold validI at h
      have hc := of_decide_eq_true h
      by_cases hl : 65535 < s.data.toList.length
      · rw [cntI_long hl] at hc; omega
      · have : s.data.toList.length = s.size := rfl
        omega)
    have HV := Lib.hid (rvalid_any s w (by omega))
    rw [hv] at HV
    clear he hv
    cases v with
    | false =>
      go_enter Tryz.func94, Tryz.ntmps94
      go_wp2_with fail
      refine HV.out.mono ?_
      rintro e w1 ⟨rfl, hk⟩
      go_wp2_with fail
      go_ret
      exact ⟨ret_bool HF.out.symm, hk⟩
    | true =>
      have HP := Lib.hid (fun w => rplain_any s w (HSZ.out rfl))
      clear HSZ
      go_enter Tryz.func94, Tryz.ntmps94
      go_wp2_with fail
      refine HV.out.mono ?_
      rintro e w1 ⟨rfl, hk⟩
      go_wp2_with fail
      refine (HP.out _).mono ?_
      rintro e w2 ⟨rfl, rfl⟩
      go_wp2_with fail
      go_ret
      exact ⟨ret_bool (by rw [HF.out]; rfl), hk⟩
end
section
open Go Go.RowKit Go.Maps

set_option maxHeartbeats 1000000 in
theorem rmay_any (m : Msg) (w : World) (hs : m.t.size ≤ 9223372036854775807) (hq : 0 ≤ m.q) (hq2 : m.q < 256) :
    Calls Tryz.prog 113 #[.agg #[.string m.t, .string m.p, .int .u8 m.q, .bool m.r]] w fun e w' => e = .returned (.bool (mayB m)) ∧ Below w.heap.size w w' := by
  obtain ⟨t, p, q, r⟩ := m
  have HB : Hid (mayB ⟨t, p, q, r⟩ = (nameB t.data.toList && decide (q ≤ 2))) := Lib.hid rfl
  have hb : Below w.heap.size w (w.alloc (.cells #[.string t, .string p, .int .u8 q, .bool r] 24)) := (Below.refl _ _).alloc (Nat.le_refl _) _
  have HBW := Lib.hid hb
  have HN := Lib.hid (rname_all t (w.alloc (.cells #[.string t, .string p, .int .u8 q, .bool r] 24)) hs)
  have hr := heap_alloc_new w (.cells #[.string t, .string p, .int .u8 q, .bool r] 24)
  have HR := Lib.hid hr
  clear hb hr
  obtain ⟨b, hbn⟩ : ∃ b, nameB t.data.toList = b := ⟨_, rfl⟩
  rw [hbn] at HN HB
  clear hbn
  go_enter Tryz.func113, Tryz.ntmps113
  go_wp2_with fail
  refine HN.out.mono ?_
  rintro e w1 ⟨rfl, hk⟩
  have hr1 : w1.heap[w.heap.size]? = _ := (hk.block w.heap.size (by simp)).trans HR.out
  obtain ⟨r0, r1, r2, r3⟩ := cells4 hr1
  have HK := Lib.hid (bnext HBW.out (by simp) hk)
  clear hk hr1
  cases b with
  | true =>
    obtain ⟨c, hc⟩ : ∃ c, decide (q ≤ 2) = c := ⟨_, rfl⟩
    rw [hc] at HB
    go_wp2_with fail
    go_ret
    exact ⟨ret_bool HB.out.symm, HK.out⟩
  | false =>
    go_wp2_with fail
    go_ret
    exact ⟨ret_bool HB.out.symm, HK.out⟩
end
section
open Go Go.RowKit

/-- What the document's loop makes of a row; b: the message is in already, or is not to be kept. -/
def refGo (m : Msg) : Bool → List Msg → List Msg
  | b, [] => if b then [] else [m]
  | b, y :: r =>
    if b = false ∧ m.k < y.k then m :: (if y.k = m.k then refGo m true r else y :: refGo m true r)
    else if y.k = m.k then refGo m b r else y :: refGo m b r
theorem refGo_true (m : Msg) (L : List Msg) : refGo m true L = del m.k L := by
  induction L with
  | nil => rfl
  | cons y r ih =>
    unfold refGo
    rw [if_neg (by simp), ih]
    by_cases h : y.k = m.k <;> simp [del, h]
theorem del_none {t : List UInt8} {L : List Msg} (h : ∀ x ∈ L, t < x.k) : del t L = L := by
  unfold del
  rw [List.filter_eq_self]
  intro x hx
  simp only [bne_iff_ne, ne_eq]
  exact fun e => lt_ne (h x hx) e.symm
theorem put_low {m : Msg} {L : List Msg} (h : ∀ x ∈ L, m.k < x.k) : put m L = m :: L := by
  cases L with
  | nil => rfl
  | cons z s => unfold put; rw [if_pos (h z (by simp))]
theorem refGo_false {m : Msg} {L : List Msg} (hU : Up L) : refGo m false L = put m L := by
  induction L with
  | nil => rfl
  | cons y r ih =>
    obtain ⟨h1, h2⟩ := List.pairwise_cons.1 hU
    unfold refGo put
    by_cases hlt : m.k < y.k
    · have hne : ¬ y.k = m.k := fun e => lt_ne hlt e.symm
      rw [if_pos ⟨rfl, hlt⟩, if_pos hlt, if_neg hne, refGo_true, del_none fun x hx => List.lt_trans hlt (h1 x hx)]
    · rw [if_neg (fun h => hlt h.2), if_neg hlt]
      by_cases he : y.k = m.k
      · rw [if_pos he, if_pos he, ih h2, put_low fun x hx => he ▸ h1 x hx]
      · rw [if_neg he, if_neg he, ih h2]
end
section
open Go Go.RowKit Go.Maps

theorem ownsRow_lowK {w w' : World} {B : Nat} {e : TypeId} {size n : Nat} {v : Value} {xs : List Value} (h : w.ownsRow B e size v n xs) (hb : Below w.heap.size w w') : w'.ownsRow B e size v n xs :=
  ownsRow_local h fun k hk => hb.block k (h.lt k hk).2
theorem row_cells {w : World} {b1 o1 : Nat} {L : List Msg} (h : Row w (some ⟨b1, o1, none⟩) (msgs L)) {k : Nat} {m : Msg} (hk : L[k]? = some m) :
    w.cell? ⟨b1, o1 + k * 4, none⟩ = some (.string m.t) ∧ w.cell? ⟨b1, o1 + k * 4 + 1, none⟩ = some (.string m.p) ∧ w.cell? ⟨b1, o1 + k * 4 + 2, none⟩ = some (.int .u8 m.q) ∧ w.cell? ⟨b1, o1 + k * 4 + 3, none⟩ = some (.bool m.r) := by
  obtain ⟨b, o, e, h1, h2, h3, h4⟩ := msgs_row h hk
  simp only [Option.some.injEq, Addr.mk.injEq, and_true] at e
  obtain ⟨rfl, rfl⟩ := e
  exact ⟨h1, h2, h3, h4⟩

/-- The document's Keep lies at block g: it has the messages l; its blocks are G. -/
def RRep (w : World) (g : Nat) (l : List Msg) (G : List Nat) : Prop :=
  ∃ v, w.heap[g]? = some (.cells #[v] 85 (0, 0)) ∧ w.ownsRow 0 24 4 v l.length (msgs l) ∧ v.ownBlock ≠ some g ∧ G = g :: v.ownBlock.toList
theorem RRep.lt {w : World} {g : Nat} {l : List Msg} {G : List Nat} (h : RRep w g l G) : ∀ k ∈ G, k < w.heap.size := by
  obtain ⟨v, hg, hown, _, rfl⟩ := h
  intro k hk
  simp only [List.mem_cons, Option.mem_toList] at hk
  rcases hk with rfl | hk
  · exact (Array.getElem?_eq_some_iff.1 hg).1
  · exact (hown.lt k hk).2
theorem RRep.mod {S : List Nat} {w w' : World} {g : Nat} {l : List Msg} {G : List Nat} (h : RRep w g l G) (hm : Mod S w w') (hS : ∀ k ∈ G, k ∉ S) : RRep w' g l G := by
  have hlt := h.lt
  obtain ⟨v, hg, hown, h4, rfl⟩ := h
  have hF : ∀ k ∈ g :: v.ownBlock.toList, w'.heap[k]? = w.heap[k]? := fun k hk => hm.block k (hlt k hk) (hS k hk)
  exact ⟨v, by rw [hF g (by simp)]; exact hg, ownsRow_local hown fun k hk => hF k (by simp [hk]), h4, rfl⟩
theorem RRep.below {w w' : World} {g : Nat} {l : List Msg} {G : List Nat} (h : RRep w g l G) (hk : Below w.heap.size w w') : RRep w' g l G := h.mod (Mod.of_below hk []) (by simp)
theorem RRep.open {w : World} {g : Nat} {l : List Msg} {G : List Nat} (h : RRep w g l G) : ∃ a c, w.heap[g]? = some (.cells #[.slice a l.length c] 85 (0, 0)) ∧ w.cell? ⟨g, 0, none⟩ = some (.slice a l.length c) ∧ Row w a (msgs l) := by
  obtain ⟨v, hg, hown, h4, rfl⟩ := h
  obtain ⟨a, c, rfl, hr, -, -⟩ := ownsRow_row hown
  exact ⟨a, c, hg, cell_of_row w g 0 _ _ _ hg, hr⟩
/-- .. behind a store of its new row. -/
theorem rset_fin {w W1 W3 : World} {g : Nat} {v0 v : Value} {l : List Msg} {G : List Nat} (hg : W1.heap[g]? = some (.cells #[v0] 85 (0, 0)))
    (hb : Below W1.heap.size W1 W3) (hown : W3.ownsRow W1.heap.size 24 4 v l.length (msgs l)) (hM : Below w.heap.size w W1) (hgG : g ∈ G) :
    RRep (W3.setCell ⟨g, 0, none⟩ v) g l (g :: v.ownBlock.toList) ∧ Upd G (g :: v.ownBlock.toList) w (W3.setCell ⟨g, 0, none⟩ v) := by
  have hgl : g < W1.heap.size := (Array.getElem?_eq_some_iff.1 hg).1
  have hlt := hown.lt
  have hg3 : W3.heap[g]? = some (.cells #[v0] 85 (0, 0)) := (hb.block g hgl).trans hg
  have hne : ∀ k, v.ownBlock = some k → k ≠ g := fun k hk => by have := (hlt k hk).1; omega
  have hM' := Mod.of_below hM G
  refine ⟨⟨v, ?_, ?_, ?_, rfl⟩, (hM'.next hb).setCell (.inl hgG) v, ?_⟩
  · rw [heap_setCell_same W3 g 0 _ _ v hg3]; rfl
  · exact ownsRow_local (row_base hown (Nat.zero_le _)) fun k hk => heap_setCell_other W3 _ _ _ (hne k hk)
  · intro hk; exact hne g hk rfl
  · intro k hk
    simp only [List.mem_cons, Option.mem_toList] at hk
    rcases hk with rfl | hk
    · exact .inl hgG
    · right; have := (hlt k hk).1; have := hM.size; omega

theorem refGo_end (m : Msg) (b : Bool) : refGo m b [] = if b then [] else [m] := rfl
/-- one message more is gone through -/
theorem refGo_step (m y : Msg) (r : List Msg) (b : Bool) : refGo m b (y :: r) = (if b = false ∧ m.k < y.k then [m] else []) ++ (if y.k = m.k then [] else [y]) ++ refGo m (b || decide (m.k < y.k)) r := by
  conv => lhs; unfold refGo
  by_cases h' : y.k = m.k
  · cases b <;> by_cases h : m.k < y.k <;> simp only [if_pos h', h] <;> simp
  · cases b <;> by_cases h : m.k < y.k <;> simp only [if_neg h', h] <;> simp

theorem refGo_lt {m y : Msg} {r : List Msg} {b : Bool} (h : m.k < y.k) : refGo m b (y :: r) = (if b then [] else [m]) ++ ([y] ++ refGo m true r) := by
  have h2 : ¬ y.k = m.k := fun e => lt_ne h e.symm
  rw [refGo_step]
  simp only [if_neg h2]
  cases b <;> simp [h]
theorem refGo_eq {m y : Msg} {r : List Msg} {b : Bool} (h : m.k = y.k) : refGo m b (y :: r) = refGo m b r := by
  have h1 : ¬ m.k < y.k := by rw [h]; exact List.lt_irrefl _
  rw [refGo_step, if_pos h.symm]
  cases b <;> simp [h1]
theorem refGo_gt {m y : Msg} {r : List Msg} {b : Bool} (h : y.k < m.k) : refGo m b (y :: r) = [y] ++ refGo m b r := by
  have h1 : ¬ m.k < y.k := fun h' => List.lt_irrefl _ (List.lt_trans h h')
  rw [refGo_step, if_neg (lt_ne h)]
  cases b <;> simp [h1]

set_option maxRecDepth 100000 in
set_option maxHeartbeats 4000000 in
theorem rset_yes (g : Nat) (m : Msg) (l : List Msg) (G : List Nat) (w : World) (h : RRep w g l G) (hU : Up l) (hs : m.t.size ≤ 9223372036854775807) (hq : 0 ≤ m.q) (hq2 : m.q < 256) (hm : mayB m = true) (hl : l.length < 1000000) :
    Calls Tryz.prog 87 #[.pointer (some ⟨g, 0, none⟩), .agg #[.string m.t, .string m.p, .int .u8 m.q, .bool m.r]] w fun e w' => e = .returned (.bool true) ∧ ∃ G', RRep w' g (setM m l) G' ∧ Upd G G' w w' := by
  have hb : Below w.heap.size w (w.alloc (.cells #[.string m.t, .string m.p, .int .u8 m.q, .bool m.r] 24)) := (Below.refl _ _).alloc (Nat.le_refl _) _
  have HBW := Lib.hid hb
  have HM := Lib.hid (fun W => rmay_any m W hs hq hq2)
  have HR := Lib.hid (heap_alloc_new w (.cells #[.string m.t, .string m.p, .int .u8 m.q, .bool m.r] 24))
  have HRR := Lib.hid h
  rw [hm] at HM
  clear hb h hm
  obtain ⟨b0, hb0⟩ : ∃ b, m.p.toList.isEmpty = b := ⟨_, rfl⟩
  have HSM : Hid (setM m l = refGo m.kept b0 l) := Lib.hid (by
    unfold setM
    cases b0 with
    | true =>
      have : m.p.data.toList = [] := by rw [← Lib.toList_data]; simpa using hb0
      rw [if_pos this, refGo_true]; rfl
    | false =>
      have : ¬ m.p.data.toList = [] := by rw [← Lib.toList_data]; simpa using hb0
      rw [if_neg this, refGo_false hU])
  generalize setM m l = LS at *
  obtain ⟨t, p, q, r⟩ := m
  dsimp only [Msg.kept] at *
  go_enter Tryz.func87, Tryz.ntmps87
  go_wp2_with fail
  refine (HM.out _).mono ?_
  rintro e w1 ⟨rfl, hk⟩
  have hr1 : w1.heap[w.heap.size]? = _ := (hk.block w.heap.size (by simp)).trans HR.out
  obtain ⟨r0, r1, r2, r3⟩ := cells4 hr1
  obtain ⟨f0, f1, f2, f3⟩ := free4 hr1
  have hw2 : (w1.setCell ⟨w.heap.size, 3, none⟩ (.bool true)).heap[w.heap.size]? = some (.cells #[.string t, .string p, .int .u8 q, .bool true] 24 (0, 0)) :=
    heap_setCell_same w1 w.heap.size 3 _ _ (.bool true) hr1
  obtain ⟨s0, s1, s2, s3⟩ := cells4 hw2
  have HX := Lib.hid hw2
  have HB2 := Lib.hid (show Below w.heap.size w (w1.setCell ⟨w.heap.size, 3, none⟩ (.bool true)) from (bnext HBW.out (by simp) hk).setCell (p := ⟨w.heap.size, 3, none⟩) (Nat.le_refl _) _)
  clear hk hr1 hw2
  go_wp2_with fail
  generalize w1.setCell ⟨w.heap.size, 3, none⟩ (.bool true) = W0 at *
  obtain ⟨a, c, hg, hc0, hrow⟩ := (HRR.out.below HB2.out).open
  have HG := Lib.hid hg
  have HROW := Lib.hid (fun W (hb : Below W0.heap.size W0 W) => hrow.below hb (Nat.le_refl _))
  have HGG := Lib.hid (show g ∈ G by obtain ⟨v, _, _, _, rfl⟩ := HRR.out; simp)
  clear r0 r1 r2 r3 f0 f1 f2 f3 s0 s1 s2 s3 hg hc0 hrow HBW HR HM HRR
  go_loopw [5, 6, 7] (fun out d i wr => ∃ (k : Nat) (b : Bool) (X : List Msg), d = .bool b ∧ i = .int .i64 k ∧ k ≤ l.length ∧ LS = X ++ refGo ⟨t, p, q, true⟩ b (l.drop k) ∧ X.length ≤ 2 * k ∧ Below W0.heap.size W0 wr ∧ wr.ownsRow W0.heap.size 24 4 out X.length (msgs X)) (fun _ _ i _ => (l.length - intOf i).toNat)
  case atStart => exact ⟨0, b0, [], rfl, rfl, by omega, by simpa using HSM.out, by simp, Below.refl _ _, World.ownsRow_nil _ _ _ _⟩
  case round =>
    obtain ⟨k, b, X, rfl, rfl, hk, hX, hXl, hbw, hown⟩ := hrel
    have HXX := Lib.hid hX
    clear hX HSM
    obtain ⟨ao, co, rfl, -, -, -⟩ := ownsRow_row hown
    have HC := Lib.hid (fun W (hb : Below W0.heap.size W0 W) => show W.cell? ⟨g, 0, none⟩ = some (.slice a l.length c) from cell_of_row W g 0 _ _ _ ((hb.block g (Array.getElem?_eq_some_iff.1 HG.out).1).trans HG.out))
    have HXC := Lib.hid (fun W (hb : Below W0.heap.size W0 W) => cells4 ((hb.block _ (Array.getElem?_eq_some_iff.1 HX.out).1).trans HX.out))
    have hsw : W0.heap.size ≤ wr.heap.size := hbw.size
    have HBW := Lib.hid hbw
    by_cases hlt : k < l.length
    · obtain ⟨b1, o1, rfl, k0, k1, k2, k3⟩ := msgs_row (HROW.out _ hbw) (k := k) (m := l[k]) (by simp [hlt])
      have HY := Lib.hid (fun W (hb : Below W0.heap.size W0 W) => row_cells (HROW.out W hb) (k := k) (m := l[k]) (by simp [hlt]))
      have hk0 : (0 : Int) ≤ k := by omega
      have hkl : (k : Int) < l.length := by omega
      have hst : (t.data.toList < l[k].k → refGo ⟨t, p, q, true⟩ b (l.drop k) = (if b then [] else [⟨t, p, q, true⟩]) ++ ([l[k]] ++ refGo ⟨t, p, q, true⟩ true (l.drop (k + 1)))) ∧
          (t.data.toList = l[k].k → refGo ⟨t, p, q, true⟩ b (l.drop k) = refGo ⟨t, p, q, true⟩ b (l.drop (k + 1))) ∧
          (l[k].k < t.data.toList → refGo ⟨t, p, q, true⟩ b (l.drop k) = [l[k]] ++ refGo ⟨t, p, q, true⟩ b (l.drop (k + 1))) := by
        rw [List.drop_eq_getElem_cons hlt]
        exact ⟨fun h => refGo_lt (m := ⟨t, p, q, true⟩) h, fun h => refGo_eq (m := ⟨t, p, q, true⟩) h, fun h => refGo_gt (m := ⟨t, p, q, true⟩) h⟩
      generalize l[k] = y at *
      obtain ⟨yt, yp, yq, yr⟩ := y
      dsimp only [Msg.k] at *
      have c0 := HC.out _ hbw
      obtain ⟨s0, s1, s2, s3⟩ := HXC.out _ hbw
      clear hbw
      obtain ⟨x1, hx1⟩ : ∃ x, Op.bytesLess yt.toList t.toList = x := ⟨_, rfl⟩
      obtain ⟨x2, hx2⟩ : ∃ x, (yt.toList == t.toList) = x := ⟨_, rfl⟩
      have HL : Hid ((x1 = true ↔ yt.data.toList < t.data.toList) ∧ (x2 = true ↔ yt.data.toList = t.data.toList)) := Lib.hid (by
        rw [← hx1, ← hx2, bytesLess_eq, Lib.toList_data, Lib.toList_data]; simp)
      have hcase : (x1 = false ∧ x2 = false ∧ t.data.toList < yt.data.toList) ∨ (x1 = false ∧ x2 = true ∧ t.data.toList = yt.data.toList) ∨ (x1 = true ∧ x2 = false ∧ yt.data.toList < t.data.toList) := by
        obtain ⟨h1, h2⟩ := HL.out
        cases x1 <;> cases x2
        · left; exact ⟨rfl, rfl, lt_tri (by simpa using h1) (fun e => by simpa using h2.2 e.symm)⟩
        · right; left; exact ⟨rfl, rfl, (h2.1 rfl).symm⟩
        · right; right; exact ⟨rfl, rfl, h1.1 rfl⟩
        · exact absurd (h2.1 rfl) (lt_ne (h1.1 rfl))
      have HST := Lib.hid hst
      clear hst HL
      rcases hcase with ⟨rfl, rfl, hc⟩ | ⟨rfl, rfl, hc⟩ | ⟨rfl, rfl, hc⟩
      · have hst := HST.out.1 hc
        clear HST hc
        cases b
        · have HN : Hid (LS = (X ++ [(⟨t, p, q, true⟩ : Msg)] ++ [(⟨yt, yp, yq, yr⟩ : Msg)]) ++ refGo ⟨t, p, q, true⟩ true (l.drop (k + 1))) := Lib.hid (by rw [HXX.out, hst]; simp)
          clear hst HXX
          go_wp2_with fail
          go_quiet (fail)
          have hown2 := ownsRow_lowK hown (below_drewN (Below.refl _ _) nq)
          have hb2 := below_drewN HBW.out nq
          have hs2 := hb2.size
          go_wp2_with (first | (at_builtin; refine wpList_appG T_msg hown2 hb2 hs2 rfl rfl rfl rfl (by rfl) (by simp [Value.oneCell']) (by first | omega | (simp; omega)) (by first | omega | (simp; omega)) ?_; intro v' w8 hown' hbel3 hsz3 hg3; obtain ⟨a', c', hv', -, -, -⟩ := ownsRow_row hown'; subst hv'; have c0 := HC.out _ hbel3; obtain ⟨s0, s1, s2, s3⟩ := HXC.out _ hbel3; obtain ⟨k0, k1, k2, k3⟩ := HY.out _ hbel3; have HBW8 := Lib.hid hbel3) | fail)
          rw [show msgs X ++ _ = msgs (X ++ [(⟨t, p, q, true⟩ : Msg)]) by rw [← msgs_append]; rfl] at hown'
          go_wp2_with fail
          go_quiet (fail)
          have hown2 := ownsRow_lowK hown' (below_drewN (Below.refl _ _) nq)
          have hb2 := below_drewN HBW8.out nq
          have hs2 : W0.heap.size ≤ (w8.drewN nq).heap.size := hb2.size
          go_wp2_with (first | (at_builtin; refine wpList_appG T_msg hown2 hb2 hs2 rfl rfl rfl rfl (by rfl) (by simp [Value.oneCell']) (by omega) (by omega) ?_; intro v' w8 hown' hbel3 hsz3 hg3) | fail)
          refine ⟨⟨k + 1, true, X ++ [(⟨t, p, q, true⟩ : Msg)] ++ [(⟨yt, yp, yq, yr⟩ : Msg)], rfl, by go_num, by omega, HN.out, by simp; omega, hbel3, ?_⟩, by simp [intOf]; omega⟩
          rw [← msgs_append, List.length_append, List.length_append]
          exact hown'
        · have HN : Hid (LS = (X ++ [(⟨yt, yp, yq, yr⟩ : Msg)]) ++ refGo ⟨t, p, q, true⟩ true (l.drop (k + 1))) := Lib.hid (by rw [HXX.out, hst]; simp)
          clear hst HXX
          go_wp2_with fail
          go_quiet (fail)
          obtain ⟨n1, rfl⟩ : ∃ m, m = nq := ⟨nq, rfl⟩
          go_wp2_with fail
          go_quiet (fail)
          have hown2 := ownsRow_lowK hown (below_drewN (Below.refl _ _) (n1 + nq))
          have hb2 := below_drewN HBW.out (n1 + nq)
          have hs2 : W0.heap.size ≤ (wr.drewN (n1 + nq)).heap.size := hb2.size
          go_wp2_with (first | (at_builtin; refine wpList_appG T_msg hown2 hb2 hs2 rfl rfl rfl rfl (by rfl) (by simp [Value.oneCell']) (by omega) (by omega) ?_; intro v' w8 hown' hbel3 hsz3 hg3) | fail)
          refine ⟨⟨k + 1, true, X ++ [(⟨yt, yp, yq, yr⟩ : Msg)], rfl, by go_num, by omega, HN.out, by simp; omega, hbel3, ?_⟩, by simp [intOf]; omega⟩
          rw [← msgs_append, List.length_append]
          exact hown'
      · have hst := HST.out.2.1 hc
        clear HST hc
        cases b
        · have HN : Hid (LS = (X) ++ refGo ⟨t, p, q, true⟩ false (l.drop (k + 1))) := Lib.hid (by rw [HXX.out, hst])
          clear hst HXX
          go_wp2_with fail
          go_quiet (fail)
          go_wp2_with fail
          go_quiet (fail)
          go_wp2_with fail
          go_roundw
          case rel => exact ⟨k + 1, false, X, rfl, by go_num, by omega, HN.out, by omega, below_drewN HBW.out _, ownsRow_lowK hown (below_drewN (Below.refl _ _) _)⟩
          case measure => simp [intOf]; omega
        · have HN : Hid (LS = (X) ++ refGo ⟨t, p, q, true⟩ true (l.drop (k + 1))) := Lib.hid (by rw [HXX.out, hst])
          clear hst HXX
          go_wp2_with fail
          go_quiet (fail)
          go_wp2_with fail
          go_quiet (fail)
          go_wp2_with fail
          go_roundw
          case rel => exact ⟨k + 1, true, X, rfl, by go_num, by omega, HN.out, by omega, below_drewN HBW.out _, ownsRow_lowK hown (below_drewN (Below.refl _ _) _)⟩
          case measure => simp [intOf]; omega
      · have hst := HST.out.2.2 hc
        clear HST hc
        cases b
        · have HN : Hid (LS = (X ++ [(⟨yt, yp, yq, yr⟩ : Msg)]) ++ refGo ⟨t, p, q, true⟩ false (l.drop (k + 1))) := Lib.hid (by rw [HXX.out, hst]; simp)
          clear hst HXX
          go_wp2_with fail
          go_quiet (fail)
          obtain ⟨n1, rfl⟩ : ∃ m, m = nq := ⟨nq, rfl⟩
          go_wp2_with fail
          go_quiet (fail)
          have hown2 := ownsRow_lowK hown (below_drewN (Below.refl _ _) (n1 + nq))
          have hb2 := below_drewN HBW.out (n1 + nq)
          have hs2 : W0.heap.size ≤ (wr.drewN (n1 + nq)).heap.size := hb2.size
          go_wp2_with (first | (at_builtin; refine wpList_appG T_msg hown2 hb2 hs2 rfl rfl rfl rfl (by rfl) (by simp [Value.oneCell']) (by omega) (by omega) ?_; intro v' w8 hown' hbel3 hsz3 hg3) | fail)
          refine ⟨⟨k + 1, false, X ++ [(⟨yt, yp, yq, yr⟩ : Msg)], rfl, by go_num, by omega, HN.out, by simp; omega, hbel3, ?_⟩, by simp [intOf]; omega⟩
          rw [← msgs_append, List.length_append]
          exact hown'
        · have HN : Hid (LS = (X ++ [(⟨yt, yp, yq, yr⟩ : Msg)]) ++ refGo ⟨t, p, q, true⟩ true (l.drop (k + 1))) := Lib.hid (by rw [HXX.out, hst]; simp)
          clear hst HXX
          go_wp2_with fail
          go_quiet (fail)
          obtain ⟨n1, rfl⟩ : ∃ m, m = nq := ⟨nq, rfl⟩
          go_wp2_with fail
          go_quiet (fail)
          have hown2 := ownsRow_lowK hown (below_drewN (Below.refl _ _) (n1 + nq))
          have hb2 := below_drewN HBW.out (n1 + nq)
          have hs2 : W0.heap.size ≤ (wr.drewN (n1 + nq)).heap.size := hb2.size
          go_wp2_with (first | (at_builtin; refine wpList_appG T_msg hown2 hb2 hs2 rfl rfl rfl rfl (by rfl) (by simp [Value.oneCell']) (by omega) (by omega) ?_; intro v' w8 hown' hbel3 hsz3 hg3) | fail)
          refine ⟨⟨k + 1, true, X ++ [(⟨yt, yp, yq, yr⟩ : Msg)], rfl, by go_num, by omega, HN.out, by simp; omega, hbel3, ?_⟩, by simp [intOf]; omega⟩
          rw [← msgs_append, List.length_append]
          exact hown'
    · have hkl : ¬ (k : Int) < l.length := by omega
      have hx := HXX.out
      rw [List.drop_eq_nil_of_le (by omega), refGo_end] at hx
      have HF := Lib.hid (fun W v' (hb : Below W0.heap.size W0 W) (hown : W.ownsRow W0.heap.size 24 4 v' LS.length (msgs LS)) => rset_fin HG.out hb hown HB2.out HGG.out)
      have HG1 := Lib.hid (fun W (hb : Below W0.heap.size W0 W) => (hb.block g (Array.getElem?_eq_some_iff.1 HG.out).1).trans HG.out)
      have c0 := HC.out _ hbw
      obtain ⟨s0, s1, s2, s3⟩ := HXC.out _ hbw
      have f0 := frozen_of_row wr g 0 _ _ (HG1.out _ hbw)
      cases b with
      | true =>
        obtain rfl : LS = X := by rw [hx]; simp
        clear hx HXX HG hbw
        go_wp2_with fail
        go_ret
        obtain ⟨z1, z2⟩ := HF.out _ _ HBW.out hown
        exact ⟨rfl, _, z1, z2⟩
      | false =>
        have hLS : LS = X ++ [⟨t, p, q, true⟩] := by rw [hx]; rfl
        clear hx HXX HG
        go_wp2_with (first | (at_builtin; refine wpList_appG T_msg hown hbw hsw rfl rfl rfl rfl (by rfl) (by simp [Value.oneCell']) (by omega) (by omega) ?_; intro v' w8 hown' hbel3 hsz3 hg3; obtain ⟨a', c', hv', -, -, -⟩ := ownsRow_row hown'; subst hv'; have HBW8 := Lib.hid hbel3; have c8 := HC.out _ hbel3; have f8 := frozen_of_row w8 g 0 _ _ (HG1.out _ hbel3)) | fail)
        have hown8 : w8.ownsRow W0.heap.size 24 4 (.slice a' (X.length + 1) c') LS.length (msgs LS) := by
          rw [hLS, ← msgs_append, List.length_append]; exact hown'
        go_ret
        obtain ⟨z1, z2⟩ := HF.out _ _ HBW8.out hown8
        exact ⟨rfl, _, by rw [hLS] at z1; exact z1, z2⟩
end
section
open Go Go.RowKit Go.Maps

theorem rset_no (g : Nat) (m : Msg) (w : World) (hs : m.t.size ≤ 9223372036854775807) (hq : 0 ≤ m.q) (hq2 : m.q < 256) (hm : mayB m = false) :
    Calls Tryz.prog 87 #[.pointer (some ⟨g, 0, none⟩), .agg #[.string m.t, .string m.p, .int .u8 m.q, .bool m.r]] w fun e w' => e = .returned (.bool false) ∧ Below w.heap.size w w' := by
  have hb : Below w.heap.size w (w.alloc (.cells #[.string m.t, .string m.p, .int .u8 m.q, .bool m.r] 24)) := (Below.refl _ _).alloc (Nat.le_refl _) _
  have HBW := Lib.hid hb
  have HM := Lib.hid (fun W => rmay_any m W hs hq hq2)
  rw [hm] at HM
  clear hb
  obtain ⟨t, p, q, r⟩ := m
  dsimp only at *
  go_enter Tryz.func87, Tryz.ntmps87
  go_wp2_with fail
  refine (HM.out _).mono ?_
  rintro e w1 ⟨rfl, hk⟩
  have HK := Lib.hid (bnext HBW.out (by simp) hk)
  clear hk
  go_wp2_with fail
  go_ret
  exact ⟨rfl, HK.out⟩

theorem rset_u (b : Bool) (g : Nat) (m : Msg) (l : List Msg) (G : List Nat) (w : World) (h : RRep w g l G) (hU : Up l) (hs : m.t.size ≤ 9223372036854775807) (hq : 0 ≤ m.q) (hq2 : m.q < 256) (hl : l.length < 1000000) (hb : mayB m = b) :
    Calls Tryz.prog 87 #[.pointer (some ⟨g, 0, none⟩), .agg #[.string m.t, .string m.p, .int .u8 m.q, .bool m.r]] w fun e w' => e = .returned (.bool b) ∧ ∃ G', RRep w' g (setB m l) G' ∧ Upd G G' w w' := by
  cases b with
  | false =>
    refine (rset_no g m w hs hq hq2 hb).mono ?_
    rintro e w' ⟨rfl, hk⟩
    refine ⟨rfl, G, ?_, Mod.of_below hk _, fun k hk => .inl hk⟩
    have e : setB m l = l := by unfold setB; rw [hb]; rfl
    rw [e]; exact h.below hk
  | true =>
    have : setB m l = setM m l := by unfold setB; rw [hb]; rfl
    rw [this]
    exact rset_yes g m l G w h hU hs hq hq2 hb hl
end
section
open Go Go.RowKit Go.Maps

theorem rmatch_u (b : Bool) (s t : ByteArray) (w : World) (hs : s.size < 4294967281) (ht : t.size < 4294967281) (hb : matchB s.data.toList t.data.toList = b) :
    Calls Tryz.prog 60 #[.string s, .string t] w fun e w' => e = .returned (.bool b) ∧ Below w.heap.size w w' := by subst hb; exact rmatch_any s t w hs ht

set_option maxRecDepth 100000 in
set_option maxHeartbeats 2000000 in
theorem rfind_any (s : ByteArray) (g : Nat) (l : List Msg) (G : List Nat) (w : World) (hl : l.length < 1000000) (hs : s.size < 4294967281) (hml : ∀ m ∈ l, m.t.size < 4294967281) (h : RRep w g l G) :
    Calls Tryz.prog 32 #[.pointer (some ⟨g, 0, none⟩), .string s] w fun e w' => ∃ v, e = .returned v ∧ w'.ownsRow w.heap.size 24 4 v (finds s.data.toList l).length (msgs (finds s.data.toList l)) ∧ Below w.heap.size w w' := by
  obtain ⟨a, c, hg, -, hrow⟩ := h.open
  have HG := Lib.hid hg
  have HROW := Lib.hid (fun W (hb : Below w.heap.size w W) => hrow.below hb (Nat.le_refl _))
  have HML := Lib.hid hml
  clear h hg hrow hml
  go_enter Tryz.func32, Tryz.ntmps32
  go_wp2_with fail
  go_loopw [5, 6] (fun out i wr => ∃ (k : Nat), i = .int .i64 k ∧ k ≤ l.length ∧ Below w.heap.size w wr ∧ wr.ownsRow w.heap.size 24 4 out (finds s.data.toList (l.take k)).length (msgs (finds s.data.toList (l.take k)))) (fun _ i _ => (l.length - intOf i).toNat)
  case atStart => exact ⟨0, rfl, by omega, Below.refl _ _, World.ownsRow_nil _ _ _ _⟩
  case round =>
    obtain ⟨k, rfl, hk, hbw, hown⟩ := hrel
    obtain ⟨ao, co, rfl, -, -, -⟩ := ownsRow_row hown
    have HBW := Lib.hid hbw
    have HC := Lib.hid (fun W (hb : Below w.heap.size w W) => show W.cell? ⟨g, 0, none⟩ = some (.slice a l.length c) from cell_of_row W g 0 _ _ _ ((hb.block g (Array.getElem?_eq_some_iff.1 HG.out).1).trans HG.out))
    by_cases hlt : k < l.length
    · obtain ⟨b1, o1, rfl, k0, k1, k2, k3⟩ := msgs_row (HROW.out _ hbw) (k := k) (m := l[k]) (by simp [hlt])
      have HY := Lib.hid (fun W (hb : Below w.heap.size w W) => row_cells (HROW.out W hb) (k := k) (m := l[k]) (by simp [hlt]))
      have hk0 : (0 : Int) ≤ k := by omega
      have hkl : (k : Int) < l.length := by omega
      have HTK : Hid ((matchB s.data.toList l[k].k = true → finds s.data.toList (l.take (k + 1)) = finds s.data.toList (l.take k) ++ [l[k]]) ∧ (matchB s.data.toList l[k].k = false → finds s.data.toList (l.take (k + 1)) = finds s.data.toList (l.take k))) := Lib.hid (by
        rw [List.take_succ_eq_append_getElem hlt, finds_snoc]
        constructor <;> intro h <;> simp [h])
      have hfl : (finds s.data.toList (l.take k)).length ≤ k := by have := finds_len s.data.toList (l.take k); rw [List.length_take] at this; omega
      have hyt := HML.out _ (List.getElem_mem hlt)
      generalize finds s.data.toList (l.take k) = X at *
      generalize l[k] = y at *
      obtain ⟨yt, yp, yq, yr⟩ := y
      obtain ⟨mb, hmb⟩ : ∃ b, matchB s.data.toList yt.data.toList = b := ⟨_, rfl⟩
      have HM := Lib.hid (fun W => rmatch_u mb s yt W hs hyt hmb)
      have c0 := HC.out _ hbw
      dsimp only [Msg.k] at *
      rw [hmb] at HTK
      clear hbw hmb
      go_wp2_with fail
      refine (HM.out _).mono ?_
      rintro e w2 ⟨rfl, hk2⟩
      have hb2 := bnext HBW.out (Nat.le_refl _) hk2
      have HB2 := Lib.hid hb2
      have hown2 := ownsRow_lowK hown hk2
      clear c0 k0 k1 k2 k3 hk2 hown
      have c0 := HC.out _ hb2
      obtain ⟨k0, k1, k2, k3⟩ := HY.out _ hb2
      cases mb with
      | true =>
        have hs2 := hb2.size
        go_wp2_with (first | (at_builtin; refine wpList_appG T_msg hown2 hb2 hs2 rfl rfl rfl rfl (by rfl) (by simp [Value.oneCell']) (by omega) (by omega) ?_; intro v' w8 hown' hbel3 hsz3 hg3) | fail)
        refine ⟨⟨k + 1, by go_num, by omega, hbel3, ?_⟩, by simp [intOf]; omega⟩
        rw [HTK.out.1 trivial, ← msgs_append, List.length_append]
        exact hown'
      | false =>
        go_wp2_with fail
        go_roundw
        case rel => exact ⟨k + 1, by go_num, by omega, HB2.out, by rw [HTK.out.2 trivial]; exact hown2⟩
        case measure => simp [intOf]; omega
    · have hkl : ¬ (k : Int) < l.length := by omega
      rw [List.take_of_length_le (by omega)] at hown ⊢
      have c0 := HC.out _ hbw
      clear hbw
      go_wp2_with fail
      go_ret
      exact ⟨_, rfl, hown, HBW.out⟩
end
section
open Go Go.RowKit

end
end Go.Proofs.YthfdcphecggjeaaGreatDoor
