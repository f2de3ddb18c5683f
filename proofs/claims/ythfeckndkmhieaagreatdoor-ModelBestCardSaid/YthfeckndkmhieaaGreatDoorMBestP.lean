/- ModelBest: the plain law. No program in sight. -/
import Derived.Test.YthfeckndkmhieaaGreatDoorQR
namespace Go.Proofs.YthfeckndkmhieaaGreatDoor
open Go

theorem levels_plain : ∀ (l : List UInt8), plainB l = true → ∀ x ∈ levels l, plainB x = true
  | [], _, x, hx => by
    simp only [levels, List.mem_singleton] at hx
    subst hx; rfl
  | c :: r, h, x, hx => by
    unfold plainB at h
    rw [List.all_cons, Bool.and_eq_true] at h
    have ih := levels_plain r h.2
    by_cases hc : c = 47
    · subst hc
      rw [levels_cons_sep] at hx
      rcases List.mem_cons.1 hx with rfl | hx
      · rfl
      · exact ih x hx
    · obtain ⟨y, t, hyt⟩ : ∃ y t, levels r = y :: t := by
        cases hq : levels r with
        | nil => exact absurd hq (levels_ne r)
        | cons y t => exact ⟨y, t, rfl⟩
      rw [levels_cons hc hyt] at hx
      rw [hyt] at ih
      rcases List.mem_cons.1 hx with rfl | hx
      · have := ih y (by simp)
        unfold plainB at this ⊢
        rw [List.all_cons, this, h.1]; rfl
      · exact ih x (by simp [hx])
theorem plain_ne {x : List UInt8} (h : plainB x = true) : (x == [35]) = false ∧ (x == [43]) = false := by
  constructor
  · rw [beq_eq_false_iff_ne]; rintro rfl; exact absurd h (by decide)
  · rw [beq_eq_false_iff_ne]; rintro rfl; exact absurd h (by decide)
theorem levelsB_plain : ∀ (l : List (List UInt8)), (∀ x ∈ l, plainB x = true) → levelsB l = true
  | [], _ => rfl
  | x :: t, h => by
    unfold levelsB levelB
    rw [h x (by simp), levelsB_plain t fun y hy => h y (by simp [hy])]
    simp
theorem coversL_self : ∀ (l : List (List UInt8)), (∀ x ∈ l, plainB x = true) → coversL l l = true
  | [], _ => rfl
  | x :: t, h => by
    have h1 := plain_ne (h x (by simp))
    show (x == [35] || (x != [35] && (x == [43] || x == x) && coversL t t)) = true
    rw [coversL_self t fun y hy => h y (by simp [hy]), bne, h1.1, h1.2]
    simp
theorem match_self {n : List UInt8} (h : nameB n = true) : filterB n = true ∧ matchB n n = true := by
  have hp : plainB n = true := by unfold nameB at h; simp only [Bool.and_eq_true] at h; exact h.2
  have hl := levels_plain n hp
  have hf : filterB n = true := by
    unfold nameB at h
    unfold filterB
    simp only [Bool.and_eq_true] at h ⊢
    exact ⟨h.1, levelsB_plain _ hl⟩
  refine ⟨hf, ?_⟩
  have hw : wildB n = false := by
    unfold wildB
    cases hq : levels n with
    | nil => rfl
    | cons x t =>
      rw [hq] at hl
      have := plain_ne (hl x (by simp))
      rw [List.headD_cons, this.1, this.2]; rfl
  unfold matchB coversB
  rw [h, hf, hw, coversL_self _ hl]
  rfl
theorem best_iff {m : MS} (h : MOk m) (c n : Str) : (bestOf n (lookS c m.seats)).2 = decide (∃ x ∈ listsM m.seats, x.2 = c ∧ matchB x.1 n = true) := by
  have hiff : (bestOf n (lookS c m.seats)).2 = true ↔ ∃ x ∈ listsM m.seats, x.2 = c ∧ matchB x.1 n = true := by
    cases ho : lookS c m.seats with
    | none =>
      simp only [bestOf, Bool.false_eq_true, false_iff]
      rintro ⟨⟨f, d⟩, hm, rfl, -⟩
      obtain ⟨s, hs, -⟩ := (mem_listsM h).1 hm
      rw [ho] at hs; cases hs
    | some s =>
      simp only [bestOf]
      rw [bestS_some, List.any_eq_true]
      constructor
      · rintro ⟨y, hy, hm⟩
        exact ⟨(y.1, c), (mem_listsM h).2 ⟨s, ho, List.mem_map.2 ⟨y, hy, rfl⟩⟩, rfl, hm⟩
      · rintro ⟨⟨f, d⟩, hm, rfl, hb⟩
        obtain ⟨s', hs, hf⟩ := (mem_listsM h).1 hm
        rw [ho] at hs; cases hs
        obtain ⟨y, hy, rfl⟩ := List.mem_map.1 hf
        exact ⟨y, hy, hb⟩
  rw [Bool.eq_iff_iff, hiff, decide_eq_true_eq]
theorem conn_has {o : Option Seat} (h : connOf o ≠ 0) : ∃ s, o = some s ∧ s.conn = connOf o := by
  cases o with
  | none => exact absurd rfl h
  | some s => exact ⟨s, rfl, rfl⟩
theorem best_ge (n : List UInt8) : ∀ (l : List SubE) (b : Int × Bool), b.1 ≤ (l.foldl (fun b x => if matchB x.1 n then (max b.1 x.2, true) else b) b).1
  | [], b => Int.le_refl _
  | x :: r, b => by
    rw [List.foldl_cons]
    refine Int.le_trans ?_ (best_ge n r _)
    split
    · exact Int.le_max_left _ _
    · exact Int.le_refl _
theorem best_mem (n : List UInt8) {x : SubE} (hx : matchB x.1 n = true) : ∀ (l : List SubE) (b : Int × Bool), x ∈ l → x.2 ≤ (l.foldl (fun b x => if matchB x.1 n then (max b.1 x.2, true) else b) b).1
  | [], _, h => by cases h
  | y :: r, b, h => by
    rw [List.foldl_cons]
    rcases List.mem_cons.1 h with rfl | h
    · rw [if_pos hx]
      exact Int.le_trans (Int.le_max_right _ _) (best_ge n r _)
    · exact best_mem n hx r _ h
theorem mem_put_self (x : SubE) (l : List SubE) : x ∈ putE x l := by
  induction l with
  | nil => simp [putE]
  | cons y r ih =>
    unfold putE
    split
    · exact List.mem_cons_of_mem _ ih
    · split <;> simp
theorem bestS_put {n : List UInt8} {q : Int} {l : List SubE} (h : nameB n = true) : q ≤ (bestS n (putE (n, q) l)).1 ∧ (bestS n (putE (n, q) l)).2 = true := by
  refine ⟨best_mem n (x := (n, q)) (match_self h).2 _ _ (mem_put_self _ _), ?_⟩
  rw [bestS_some, List.any_eq_true]
  exact ⟨(n, q), mem_put_self _ _, (match_self h).2⟩
def pkOne (ty : Int) (b : Nat) (f : Str) (q : Int) : Pkt := pkOf ty false (some ⟨b, 0, none⟩) 1 [(f, q)]
theorem sub_one {c n : ByteArray} {q : Int} {m : MS} {s : Seat} {b : Nat} (hO : MOk m) (ho : lookS c.data.toList m.seats = some s) (h0 : s.conn ≠ 0) :
    applyM (doesN c s.conn (pkOne 8 b n.data.toList q)) m = (([setCu n.data.toList q s.l], false, true), ⟨turnS c.data.toList { s with l := setE n.data.toList q s.l } m.seats, m.kept⟩) := by
  have hs := hO.look ho
  have e1 : (doesN c s.conn (pkOne 8 b n.data.toList q)).kind = 2 := rfl
  have e2 : (doesN c s.conn (pkOne 8 b n.data.toList q)).pk.ty = 8 := rfl
  have e3 : (doesN c s.conn (pkOne 8 b n.data.toList q)).client = c := rfl
  have e4 : (doesN c s.conn (pkOne 8 b n.data.toList q)).conn = s.conn := rfl
  have e5 : (doesN c s.conn (pkOne 8 b n.data.toList q)).pk.subs = [(n.data.toList, q)] := rfl
  generalize doesN c s.conn (pkOne 8 b n.data.toList q) = x at *
  unfold applyM
  rw [if_neg (by omega), if_neg (by omega), if_neg (by omega), e3, ho]
  simp only
  rw [e4, if_neg (show ¬ (s.conn < 1 ∨ s.conn ≠ s.conn) by have := hs.1; rintro (h | h); omega; exact h rfl)]
  unfold does1
  rw [if_pos e2, e5]
  rfl
theorem unsub_one {c n : ByteArray} {m : MS} {s : Seat} {b : Nat} (hO : MOk m) (ho : lookS c.data.toList m.seats = some s) (h0 : s.conn ≠ 0) :
    applyM (doesN c s.conn (pkOne 10 b n.data.toList 0)) m = (([], false, true), ⟨turnS c.data.toList { s with l := delE n.data.toList s.l } m.seats, m.kept⟩) := by
  have hs := hO.look ho
  have e1 : (doesN c s.conn (pkOne 10 b n.data.toList 0)).kind = 2 := rfl
  have e2 : (doesN c s.conn (pkOne 10 b n.data.toList 0)).pk.ty = 10 := rfl
  have e3 : (doesN c s.conn (pkOne 10 b n.data.toList 0)).client = c := rfl
  have e4 : (doesN c s.conn (pkOne 10 b n.data.toList 0)).conn = s.conn := rfl
  have e5 : (doesN c s.conn (pkOne 10 b n.data.toList 0)).pk.subs = [(n.data.toList, 0)] := rfl
  generalize doesN c s.conn (pkOne 10 b n.data.toList 0) = x at *
  unfold applyM
  rw [if_neg (by omega), if_neg (by omega), if_neg (by omega), e3, ho]
  simp only
  rw [e4, if_neg (show ¬ (s.conn < 1 ∨ s.conn ≠ s.conn) by have := hs.1; rintro (h | h); omega; exact h rfl)]
  unfold does1
  rw [if_neg (by omega), if_pos e2, e5]
  rfl
theorem noteOk_one {c : ByteArray} {k ty : Int} {b : Nat} {f : Str} {q : Int} (hc : c.size ≤ maxLen) (hk0 : 0 ≤ k) (hk1 : k ≤ 9223372036854775807) (ht0 : 0 ≤ ty) (ht1 : ty ≤ 255) (hq0 : 0 ≤ q) (hq1 : q ≤ 255) (hf : f.length < 4294967281) : NoteOk (doesN c k (pkOne ty b f q)) :=
  ⟨by show _ ≤ k; omega, hk1, by show (0 : Int) ≤ 2; decide, by show (2 : Int) ≤ 255; decide, ht0, ht1, hc, by show (0 : Nat) ≤ _; omega, by show (0 : Int) ≤ 0; decide, by show (0 : Int) < 256; decide, fun x hx => by
    obtain rfl : x = (f, q) := by simpa [doesN, pkOne, pkOf] using hx
    exact ⟨hq0, by show q < 256; omega, hf⟩, by show (1 : Nat) ≤ 1000; decide⟩
theorem not_del {m : MS} (h : MOk m) {c f : Str} {s : Seat} {l : List SubE} (ho : lookS c m.seats = some s) (hl : s.l = delE f l) : (f, c) ∉ listsM m.seats := fun hm => by
  obtain ⟨s', hs, hf⟩ := (mem_listsM h).1 hm
  rw [ho] at hs; cases hs
  rw [hl] at hf
  obtain ⟨y, hy, rfl⟩ := List.mem_map.1 hf
  have := (List.mem_filter.1 hy).2
  simp at this
theorem best_plan {CL NM : Str} {q : Int} {m : MS} {s : Seat} (b1 : Nat) (hO : MOk m) (ho : lookS CL m.seats = some s) (h0 : s.conn ≠ 0) (hn : nameB NM = true) (hc : (⟨CL.toArray⟩ : ByteArray).size ≤ maxLen) (hf : NM.length < 4294967281) (hq0 : 0 ≤ q) (hq1 : q ≤ 255) :
    ∃ t1 cu, NoteOk (doesN ⟨CL.toArray⟩ s.conn (pkOne 8 b1 NM q)) ∧ applyM (doesN ⟨CL.toArray⟩ s.conn (pkOne 8 b1 NM q)) m = (([cu], false, true), t1) ∧ (cu = 128 ∨ (q ≤ 2 ∧ cu ≠ 128 ∧ cu = UInt8.ofNat q.toNat ∧ ∃ z, bestOf NM (lookS CL t1.seats) = (z, true) ∧ q ≤ z)) ∧
      ∀ b2 : Nat, NoteOk (doesN ⟨CL.toArray⟩ s.conn (pkOne 10 b2 NM 0)) ∧ ∃ t2, applyM (doesN ⟨CL.toArray⟩ s.conn (pkOne 10 b2 NM 0)) t1 = (([], false, true), t2) ∧ (NM, CL) ∉ listsM t2.seats := by
  have hs := hO.look ho
  have h8 := sub_one (c := ⟨CL.toArray⟩) (n := ⟨NM.toArray⟩) (q := q) (b := b1) hO ho h0
  have hx8 := noteOk_one (c := ⟨CL.toArray⟩) (k := s.conn) (ty := 8) (b := b1) (f := NM) (q := q) hc hs.1 hs.2.1 (by decide) (by decide) hq0 hq1 hf
  have hO1 := applyM_ok hx8 hO
  rw [show applyM (doesN ⟨CL.toArray⟩ s.conn (pkOne 8 b1 NM q)) m = _ from h8] at hO1
  have hl1 := lookS_turn' (x := { s with l := setE NM q s.l }) ho CL
  rw [if_pos rfl] at hl1
  refine ⟨_, setCu NM q s.l, hx8, h8, ?_, fun b2 => ⟨noteOk_one hc hs.1 hs.2.1 (by decide) (by decide) (by decide) (by decide) hf, ?_⟩⟩
  · unfold setCu setC
    cases hk : setOk NM q s.l with
    | false => left; rfl
    | true =>
      right
      have hk2 := hk
      unfold setOk at hk2
      simp only [Bool.and_eq_true, decide_eq_true_eq] at hk2
      refine ⟨hk2.1, ?_, rfl, ?_⟩
      · simp only [if_true]
        rcases (by omega : q = 0 ∨ q = 1 ∨ q = 2) with rfl | rfl | rfl <;> decide
      · have hb := bestS_put (n := NM) (q := q) (l := s.l) hn
        refine ⟨(bestS NM (putE (NM, q) s.l)).1, ?_, hb.1⟩
        show bestOf NM (lookS CL (turnS CL { s with l := setE NM q s.l } m.seats)) = _
        rw [hl1]
        simp only [bestOf]
        unfold setE
        rw [hk, if_pos rfl, ← hb.2]
  · have h10 := unsub_one (c := ⟨CL.toArray⟩) (n := ⟨NM.toArray⟩) (b := b2) (s := { s with l := setE NM q s.l }) hO1 hl1 h0
    refine ⟨_, h10, ?_⟩
    have hx10 := noteOk_one (c := ⟨CL.toArray⟩) (k := s.conn) (ty := 10) (b := b2) (f := NM) (q := 0) hc hs.1 hs.2.1 (by decide) (by decide) (by decide) (by decide) hf
    have hO2 := applyM_ok hx10 hO1
    rw [show applyM (doesN ⟨CL.toArray⟩ s.conn (pkOne 10 b2 NM 0)) _ = _ from h10] at hO2
    refine not_del hO2 (s := { s with l := delE NM (setE NM q s.l) }) ?_ rfl
    have := lookS_turn' (x := { s with l := delE NM (setE NM q s.l) }) hl1 CL
    rw [if_pos rfl] at this
    exact this
end Go.Proofs.YthfeckndkmhieaaGreatDoor
