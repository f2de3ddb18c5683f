/- Filters in order: Best walked. The model (layer 25): the plain law. No program in sight. -/
import Derived.Test.YthfeckndkmhieaaGreatDoorQH
import Derived.Test.YthfeckndkmhieaaGreatDoorQI
import Derived.Test.YthfeckndkmhieaaGreatDoorQC
import Derived.Test.YthfeckndkmhieaaGreatDoorQJ
namespace Go.Proofs.YthfeckndkmhieaaGreatDoor
section
open Go Go.RowKit

/-- the greatest QoS of the filters that take a name; whether there is one -/
def bestS (n : List UInt8) (l : List SubE) : Int × Bool := l.foldl (fun b x => if matchB x.1 n then (max b.1 x.2, true) else b) (0, false)
theorem bestS_snoc (n : List UInt8) (l : List SubE) (x : SubE) : bestS n (l ++ [x]) = if matchB x.1 n then (max (bestS n l).1 x.2, true) else bestS n l := by
  unfold bestS; rw [List.foldl_append]; rfl
theorem best_some (n : List UInt8) : ∀ (l : List SubE) (b : Int × Bool), (l.foldl (fun b x => if matchB x.1 n then (max b.1 x.2, true) else b) b).2 = (b.2 || l.any fun x => matchB x.1 n)
  | [], b => by simp
  | x :: r, b => by
    rw [List.foldl_cons, best_some n r, List.any_cons]
    by_cases h : matchB x.1 n = true
    · simp [h]
    · simp only [Bool.not_eq_true] at h
      simp [h]
theorem bestS_some (n : List UInt8) (l : List SubE) : (bestS n l).2 = l.any fun x => matchB x.1 n := by
  unfold bestS; rw [best_some]; simp
def SOk (l : List SubE) : Prop := ∀ x ∈ l, 0 ≤ x.2 ∧ x.2 ≤ 2 ∧ filterB x.1 = true ∧ x.1.length < 4294967281
theorem SOk.putE {x : SubE} {l : List SubE} (h : SOk l) (hx : 0 ≤ x.2 ∧ x.2 ≤ 2 ∧ filterB x.1 = true ∧ x.1.length < 4294967281) : SOk (putE x l) := fun y hy => by
  rcases mem_putE hy with rfl | hy
  · exact hx
  · exact h y hy
theorem SOk.setE {f : List UInt8} {q : Int} {l : List SubE} (h : SOk l) (hq : 0 ≤ q) (hf : f.length < 4294967281) : SOk (setE f q l) := by
  unfold Go.Proofs.YthfeckndkmhieaaGreatDoor.setE
  split
  · rename_i ho
    unfold setOk at ho
    simp only [Bool.and_eq_true, decide_eq_true_eq] at ho
    exact h.putE ⟨hq, ho.1, ho.2.1, hf⟩
  · exact h
theorem SOk.delE {f : List UInt8} {l : List SubE} (h : SOk l) : SOk (delE f l) := fun y hy => h y (List.mem_filter.1 hy).1
theorem best_le {n : List UInt8} : ∀ (l : List SubE) (b : Int × Bool), SOk l → 0 ≤ b.1 ∧ b.1 ≤ 2 → 0 ≤ (l.foldl (fun b x => if matchB x.1 n then (max b.1 x.2, true) else b) b).1 ∧ (l.foldl (fun b x => if matchB x.1 n then (max b.1 x.2, true) else b) b).1 ≤ 2
  | [], b, _, hb => hb
  | x :: r, b, h, hb => by
    have hx := h x (by simp)
    rw [List.foldl_cons]
    refine best_le r _ (fun y hy => h y (by simp [hy])) ?_
    split
    · show 0 ≤ max _ _ ∧ max _ _ ≤ 2
      omega
    · exact hb
theorem bestS_le {n : List UInt8} {l : List SubE} (h : SOk l) : 0 ≤ (bestS n l).1 ∧ (bestS n l).1 ≤ 2 := best_le l _ h ⟨Int.le_refl _, by decide⟩

set_option maxRecDepth 100000 in
set_option maxHeartbeats 2000000 in
theorem sbest_any (b : Nat) (l : List SubE) (F : List Nat) (n : List UInt8) (w : World) (h : SRep w b l F) (hO : SOk l) (hT : Tabs w) (hn : n.length < 4294967281) :
    Calls Tryz.prog 33 #[.pointer (some ⟨b, 0, none⟩), .string ⟨n.toArray⟩] w fun e w' => e = .returned (.tuple #[.int .u8 (bestS n l).1, .bool (bestS n l).2]) ∧ Below w.heap.size w w' := by
  have h16 := h.len
  have HS := Lib.hid (subs_any b l F w h)
  have HT := Lib.hid hT
  have HO := Lib.hid hO
  have HM := Lib.hid (fun (f : List UInt8) (hf : f.length < 4294967281) W hT => match_any ⟨f.toArray⟩ ⟨n.toArray⟩ W hT (by show f.toArray.size < _; simpa using hf) (by show n.toArray.size < _; simpa using hn))
  clear h hT hO
  go_enter Tryz.func33, Tryz.ntmps33
  go_wp2_with fail
  refine HS.out.mono ?_
  rintro e w1 ⟨v, rfl, hown, hk⟩
  obtain ⟨a, c, rfl, hr, hlc, hcm⟩ := ownsRow_row hown
  have HR := Lib.hid hr
  have HK := Lib.hid hk
  clear hown hr hk HS hcm
  go_wp2_with fail
  go_loopw [6, 7, 13] (fun x y i wr => ∃ k : Nat, x = .int .u8 (bestS n (l.take k)).1 ∧ y = .bool (bestS n (l.take k)).2 ∧ i = .int .i64 k ∧ k ≤ l.length ∧ Below w1.heap.size w1 wr) (fun _ _ i _ => (l.length - intOf i).toNat)
  case atStart => exact ⟨0, rfl, rfl, rfl, by omega, Below.refl _ _⟩
  case round =>
    obtain ⟨k, rfl, rfl, rfl, hk, hb⟩ := hrel
    have HB := Lib.hid hb
    clear hb
    by_cases hlt : k < l.length
    · have hk0 : (0 : Int) ≤ k := by omega
      have hkl : (k : Int) < l.length := by omega
      have HSN := Lib.hid (bestS_snoc n (l.take k) l[k])
      rw [← List.take_succ_eq_append_getElem hlt] at HSN
      have hxo := HO.out _ (List.getElem_mem hlt)
      have HLE := Lib.hid (bestS_le (n := n) (l := l.take k) (fun y hy => HO.out y (List.mem_of_mem_take hy)))
      obtain ⟨b1, o1, rfl, d0, d1⟩ := subs_row (HR.out.below HB.out (Nat.le_refl _)) hlt
      generalize l[k] = x at *
      obtain ⟨xf, xq⟩ := x
      dsimp only at *
      have hnew := heap_alloc_new wr (.cells #[.string ⟨xf.toArray⟩, .int .u8 xq] 39)
      have hba := (Below.refl wr.heap.size wr).alloc (Nat.le_refl _) (.cells #[.string ⟨xf.toArray⟩, .int .u8 xq] 39)
      have n0 := cell_of_row _ _ 0 _ _ _ hnew
      simp only [List.getElem?_toArray, List.getElem?_cons_zero] at n0
      have HNEW := Lib.hid hnew
      have HBA := Lib.hid (bnext HB.out (Nat.le_refl _) hba)
      have HMM := Lib.hid (HM.out xf hxo.2.2.2 _ ((HT.out.below HK.out).below HBA.out))
      obtain ⟨bm, hbm⟩ : ∃ bm, matchB xf n = bm := ⟨_, rfl⟩
      rw [hbm] at HMM HSN
      generalize bestS n (l.take k) = B at *
      obtain ⟨bq, bs⟩ := B
      dsimp only at *
      have hq0 := hxo.1
      have hq2 := hxo.2.1
      have hb2 := HLE.out
      clear hnew hba hbm hxo
      go_wp2_with fail
      refine HMM.out.mono ?_
      rintro e w2 ⟨rfl, hk2⟩
      have h2 := (hk2.block _ (Array.getElem?_eq_some_iff.1 HNEW.out).1).trans HNEW.out
      have m1 := cell_of_row _ _ 1 _ _ _ h2
      simp only [List.getElem?_toArray, List.getElem?_cons_zero, List.getElem?_cons_succ] at m1
      have HB2 := Lib.hid (bnext HBA.out (Nat.le_refl _) hk2)
      clear h2 hk2 HMM HM
      cases bm with
      | false =>
        have HE := Lib.hid HSN.out
        simp only [Bool.false_eq_true, if_false] at HE
        clear HSN
        go_wp2_with fail
        go_roundw
        case rel => exact ⟨k + 1, by rw [HE.out], by rw [HE.out], by go_num, by omega, HB2.out⟩
        case measure => simp [intOf]; omega
      | true =>
        have HE := Lib.hid HSN.out
        simp only [if_true] at HE
        clear HSN
        go_wp2_with fail
        go_roundw
        case rel => exact ⟨k + 1, by rw [HE.out], by rw [HE.out], by go_num, by omega, HB2.out⟩
        case measure => simp [intOf]; omega
    · have hkl : ¬ (k : Int) < l.length := by omega
      have HE := Lib.hid (show bestS n (l.take k) = bestS n l by rw [List.take_of_length_le (by omega)])
      generalize bestS n (l.take k) = B at *
      obtain ⟨bq, bs⟩ := B
      go_wp2_with fail
      go_ret2
      exact ⟨by rw [← HE.out]; rfl, bnext HK.out (Nat.le_refl _) HB.out⟩
end
section
open Go

structure Seat where
  l : List SubE
  conn : Int
  clean : Bool
abbrev Seats := List (Str × Seat)
def lookS (c : Str) (st : Seats) : Option Seat := (st.find? fun x => x.1 == c).map (·.2)
/-- a session is turned where it stands -/
def turnS (c : Str) (s : Seat) (st : Seats) : Seats := st.map fun x => if x.1 = c then (c, s) else x
def dropS (c : Str) (st : Seats) : Seats := st.filter fun x => x.1 != c
def KeyU (st : Seats) : Prop := (st.map (·.1)).Nodup
theorem lookS_cons (c : Str) (x : Str × Seat) (r : Seats) : lookS c (x :: r) = if x.1 = c then some x.2 else lookS c r := by
  unfold lookS
  by_cases h : x.1 = c <;> simp [h]
theorem lookS_turn {c : Str} {s : Seat} {st : Seats} (h : (lookS c st).isSome = true) (d : Str) : lookS d (turnS c s st) = if d = c then some s else lookS d st := by
  induction st with
  | nil => simp [lookS] at h
  | cons x r ih =>
    rw [lookS_cons] at h
    have e : turnS c s (x :: r) = (if x.1 = c then (c, s) else x) :: turnS c s r := rfl
    rw [e, lookS_cons, lookS_cons]
    by_cases hx : x.1 = c
    · simp only [hx, if_true]
      by_cases hd : d = c
      · simp [hd]
      · have : ¬ c = d := fun e => hd e.symm
        simp only [this, hd, if_false]
        clear ih h
        induction r with
        | nil => rfl
        | cons y t ih2 =>
          have e : turnS c s (y :: t) = (if y.1 = c then (c, s) else y) :: turnS c s t := rfl
          rw [e, lookS_cons, lookS_cons, ih2 rfl]
          by_cases hy : y.1 = c
          · simp only [hy, if_true]
            have : ¬ c = d := fun e => hd e.symm
            simp [this]
          · simp [hy]
    · simp only [hx, if_false] at h ⊢
      rw [ih h]
      by_cases hd : d = c
      · subst hd; simp [hx]
      · simp [hd]
theorem lookS_drop (c : Str) (st : Seats) (d : Str) : lookS d (dropS c st) = if d = c then none else lookS d st := by
  induction st with
  | nil => simp [lookS, dropS]
  | cons x r ih =>
    unfold dropS at *
    by_cases hx : x.1 = c
    · rw [List.filter_cons_of_neg (by simp [hx]), ih, lookS_cons]
      by_cases hd : d = c
      · simp [hd]
      · have : ¬ c = d := fun e => hd e.symm
        simp [hx, hd, this]
    · rw [List.filter_cons_of_pos (by simp [hx]), lookS_cons, lookS_cons, ih]
      by_cases hd : d = c
      · subst hd; simp [hx]
      · simp [hd]
theorem lookS_snoc {c : Str} (s : Seat) {st : Seats} (h : lookS c st = none) (d : Str) : lookS d (st ++ [(c, s)]) = if d = c then some s else lookS d st := by
  induction st with
  | nil =>
    rw [List.nil_append, lookS_cons]
    by_cases hd : d = c
    · simp [hd]
    · have : ¬ c = d := fun e => hd e.symm
      simp [hd, this, lookS]
  | cons x r ih =>
    rw [lookS_cons] at h
    by_cases hx : x.1 = c
    · simp [hx] at h
    · simp only [hx, if_false] at h
      rw [List.cons_append, lookS_cons, lookS_cons, ih h]
      by_cases hd : d = c
      · subst hd; simp [hx]
      · simp [hd]
theorem lookS_mem {c : Str} {s : Seat} {st : Seats} (h : lookS c st = some s) : (c, s) ∈ st := by
  unfold lookS at h
  obtain ⟨x, hx, rfl⟩ := Option.map_eq_some_iff.1 h
  have h1 := List.find?_some hx
  have h2 := List.mem_of_find?_eq_some hx
  simp only [beq_iff_eq] at h1
  rw [← h1]; exact h2
theorem lookS_of_mem {c : Str} {s : Seat} {st : Seats} (hU : KeyU st) (h : (c, s) ∈ st) : lookS c st = some s := by
  induction st with
  | nil => cases h
  | cons x r ih =>
    unfold KeyU at hU
    rw [List.map_cons, List.nodup_cons] at hU
    rw [lookS_cons]
    rcases List.mem_cons.1 h with h | h
    · rw [← h]; simp
    · have : ¬ x.1 = c := fun e => hU.1 (by rw [e]; exact List.mem_map.2 ⟨_, h, rfl⟩)
      rw [if_neg this]; exact ih hU.2 h
theorem keyU_turn {c : Str} {s : Seat} {st : Seats} (h : KeyU st) : KeyU (turnS c s st) := by
  unfold KeyU turnS at *
  rw [List.map_map]
  have : ((fun x : Str × Seat => x.1) ∘ fun x => if x.1 = c then (c, s) else x) = fun x => x.1 := by
    funext x
    simp only [Function.comp]
    split
    · rename_i h; exact h.symm
    · rfl
  rw [this]; exact h
theorem keyU_drop {c : Str} {st : Seats} (h : KeyU st) : KeyU (dropS c st) := List.Nodup.sublist (List.Sublist.map _ List.filter_sublist) h
theorem keyU_snoc {c : Str} {s : Seat} {st : Seats} (h : KeyU st) (hn : lookS c st = none) : KeyU (st ++ [(c, s)]) := by
  unfold KeyU at *
  rw [List.map_append]
  refine List.nodup_append.2 ⟨h, by simp, fun a ha b hb => ?_⟩
  simp only [List.map_cons, List.map_nil, List.mem_singleton] at hb
  subst hb
  rintro rfl
  obtain ⟨⟨a', s'⟩, hm, e⟩ := List.mem_map.1 ha
  simp only at e
  subst e
  rw [lookS_of_mem h hm] at hn
  cases hn
theorem lookS_none_drop (c : Str) (st : Seats) : lookS c (dropS c st) = none := by rw [lookS_drop]; simp

def setCu (f : Str) (q : Int) (l : List SubE) : UInt8 := UInt8.ofNat (setC f q l).toNat
def subGo (xs : List SubE) (r : Str × List SubE) : Str × List SubE := xs.foldl (fun r x => (r.1 ++ [setCu x.1 x.2 r.2], setE x.1 x.2 r.2)) r
def dropGo (xs : List SubE) (l : List SubE) : List SubE := xs.foldl (fun l x => delE x.1 l) l
structure MS where
  seats : Seats
  kept : List Msg
def MS.new : MS := ⟨[], []⟩
abbrev Ans := Str × Bool × Bool
def connP (o : Option Seat) (n : Note) : Bool := match o with | some s => !s.clean && !n.pk.clean | none => false
def connBad (o : Option Seat) (n : Note) : Bool := decide (n.conn < 1) || match o with | some s => decide (0 < s.conn) | none => false
def connS (o : Option Seat) (n : Note) : Seat := ⟨if connP o n then (match o with | some s => s.l | none => []) else [], n.conn, n.pk.clean⟩
def does1 (n : Note) (c : Str) (s : Seat) (st : Seats) : Ans × Seats :=
  if n.pk.ty = 8 then (((subGo n.pk.subs ([], s.l)).1, false, true), turnS c { s with l := (subGo n.pk.subs ([], s.l)).2 } st)
  else if n.pk.ty = 10 then (([], false, true), turnS c { s with l := dropGo n.pk.subs s.l } st)
  else if n.pk.ty = 14 ∨ n.pk.ty = 0 then (([], false, true), if s.clean then dropS c st else turnS c { s with conn := 0 } st)
  else (([], false, false), st)
def applyM (n : Note) (m : MS) : Ans × MS :=
  if n.kind = 5 then (([], false, mayB n.msg), ⟨m.seats, setB n.msg m.kept⟩)
  else if n.kind ≠ 2 then (([], false, true), m)
  else if n.pk.ty = 1 then
    if connBad (lookS n.client.data.toList m.seats) n then (([], false, false), m)
    else (([], connP (lookS n.client.data.toList m.seats) n, true), ⟨dropS n.client.data.toList m.seats ++ [(n.client.data.toList, connS (lookS n.client.data.toList m.seats) n)], m.kept⟩)
  else match lookS n.client.data.toList m.seats with
    | none => (([], false, false), m)
    | some s => if n.conn < 1 ∨ s.conn ≠ n.conn then (([], false, false), m) else ((does1 n n.client.data.toList s m.seats).1, ⟨(does1 n n.client.data.toList s m.seats).2, m.kept⟩)
/-- what is true of each session -/
def SeatOk (s : Seat) : Prop := 0 ≤ s.conn ∧ s.conn ≤ 9223372036854775807 ∧ SOk s.l ∧ SUp s.l
structure MOk (m : MS) : Prop where
  key : KeyU m.seats
  ok : ∀ x ∈ m.seats, SeatOk x.2
  up : Up m.kept
theorem MOk.look {m : MS} (h : MOk m) {c : Str} {s : Seat} (hs : lookS c m.seats = some s) : SeatOk s := h.ok _ (lookS_mem hs)
theorem mem_turn {c : Str} {s : Seat} {st : Seats} {x : Str × Seat} (h : x ∈ turnS c s st) : x.2 = s ∨ x ∈ st := by
  obtain ⟨y, hy, e⟩ := List.mem_map.1 h
  split at e
  · left; rw [← e]
  · right; rw [← e]; exact hy
theorem setE_up {f : Str} {q : Int} {l : List SubE} (h : SUp l) : SUp (setE f q l) := by
  unfold setE
  split
  · exact sup_put h
  · exact h
theorem subGo_ok : ∀ (xs : List SubE) (r : Str × List SubE), (∀ x ∈ xs, 0 ≤ x.2 ∧ x.1.length < 4294967281) → SOk r.2 → SUp r.2 → SOk (subGo xs r).2 ∧ SUp (subGo xs r).2
  | [], r, _, h1, h2 => ⟨h1, h2⟩
  | x :: xs, r, h, h1, h2 => by
    have hx := h x (by simp)
    exact subGo_ok xs _ (fun y hy => h y (by simp [hy])) (h1.setE hx.1 hx.2) (setE_up h2)
theorem dropGo_ok : ∀ (xs : List SubE) (l : List SubE), SOk l → SUp l → SOk (dropGo xs l) ∧ SUp (dropGo xs l)
  | [], _, h1, h2 => ⟨h1, h2⟩
  | _ :: xs, _, h1, h2 => dropGo_ok xs _ h1.delE (sup_del h2)
theorem setB_up {m : Msg} {l : List Msg} (h : Up l) : Up (setB m l) := by
  unfold setB setM
  split
  · split
    · exact h.del
    · exact h.put
  · exact h
/-- a note that is not too great -/
structure NoteOk (n : Note) : Prop where
  c0 : -9223372036854775808 ≤ n.conn
  c1 : n.conn ≤ 9223372036854775807
  k0 : 0 ≤ n.kind
  k1 : n.kind ≤ 255
  t0 : 0 ≤ n.pk.ty
  t1 : n.pk.ty ≤ 255
  client : n.client.size ≤ maxLen
  topic : n.msg.t.size ≤ 9223372036854775807
  q0 : 0 ≤ n.msg.q
  q1 : n.msg.q < 256
  subs : ∀ x ∈ n.pk.subs, 0 ≤ x.2 ∧ x.2 < 256 ∧ x.1.length < 4294967281
  len : n.pk.subs.length ≤ 1000
theorem applyM_ok {n : Note} {m : MS} (hn : NoteOk n) (h : MOk m) : MOk (applyM n m).2 := by
  unfold applyM
  split
  · exact ⟨h.key, h.ok, setB_up h.up⟩
  split
  · exact h
  split
  · split
    · exact h
    · rename_i hb
      refine ⟨keyU_snoc (keyU_drop h.key) (lookS_none_drop _ _), fun x hx => ?_, h.up⟩
      rcases List.mem_append.1 hx with hx | hx
      · exact h.ok x (List.mem_filter.1 hx).1
      · rw [List.mem_singleton.1 hx]
        have hc : ¬ n.conn < 1 := fun e => hb (by unfold connBad; simp [e])
        refine ⟨by show 0 ≤ n.conn; omega, hn.c1, ?_⟩
        cases ho : lookS n.client.data.toList m.seats with
        | none => unfold connS; simp only [ite_self]; exact ⟨(fun x hx => by cases hx), List.Pairwise.nil⟩
        | some s =>
          have hs := h.look ho
          unfold connS
          simp only
          split
          · exact hs.2.2
          · exact ⟨(fun x hx => by cases hx), List.Pairwise.nil⟩
  · split
    · exact h
    · rename_i s ho
      have hs := h.look ho
      split
      · exact h
      · unfold does1
        split
        · refine ⟨keyU_turn h.key, fun x hx => ?_, h.up⟩
          rcases mem_turn hx with hx | hx
          · rw [hx]
            exact ⟨hs.1, hs.2.1, subGo_ok _ _ (fun y hy => ⟨(hn.subs y hy).1, (hn.subs y hy).2.2⟩) hs.2.2.1 hs.2.2.2⟩
          · exact h.ok x hx
        split
        · refine ⟨keyU_turn h.key, fun x hx => ?_, h.up⟩
          rcases mem_turn hx with hx | hx
          · rw [hx]
            exact ⟨hs.1, hs.2.1, dropGo_ok _ _ hs.2.2.1 hs.2.2.2⟩
          · exact h.ok x hx
        split
        · split
          · exact ⟨keyU_drop h.key, fun x hx => h.ok x (List.mem_filter.1 hx).1, h.up⟩
          · refine ⟨keyU_turn h.key, fun x hx => ?_, h.up⟩
            rcases mem_turn hx with hx | hx
            · rw [hx]
              exact ⟨Int.le_refl _, (by decide : (0 : Int) ≤ 9223372036854775807), hs.2.2⟩
            · exact h.ok x hx
        · exact h
theorem MOk.new : MOk MS.new := ⟨List.nodup_nil, by simp [MS.new], List.Pairwise.nil⟩
end
end Go.Proofs.YthfeckndkmhieaaGreatDoor
