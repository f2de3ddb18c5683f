/- The model's laws: what a note comes to. No program in sight. The model's laws: a model of the call's own, and what its calls answer. The model's laws: their own helpers, walked: rows compared. Wide structs that are built, and laid into a block that was just made. No program in sight. The model's laws: their own helpers, walked: does, applies. The model's laws: their own helpers, walked: applies. The model's laws: what lives while a closed part plays. -/
import Derived.Test.YthfeckndkmhieaaGreatDoorQO
import Derived.Test.YthfeckndkmhieaaGreatDoorQL
import Derived.Test.YthfeckndkmhieaaGreatDoorQN
import Derived.Test.YthfeckndkmhieaaGreatDoorQD
import Derived.Great.Walk
import Derived.Great.BuildSlice
namespace Go.Proofs.YthfeckndkmhieaaGreatDoor
section
open Go

/-- what a note that is done comes to, by its client's session alone -/
def doesO (n : Note) (o : Option Seat) : Ans × Option Seat :=
  if n.pk.ty = 1 then (if connBad o n then (([], false, false), o) else (([], connP o n, true), some (connS o n)))
  else match o with
    | none => (([], false, false), none)
    | some s => if n.conn < 1 ∨ s.conn ≠ n.conn then (([], false, false), some s)
      else if n.pk.ty = 8 then (((subGo n.pk.subs ([], s.l)).1, false, true), some { s with l := (subGo n.pk.subs ([], s.l)).2 })
      else if n.pk.ty = 10 then (([], false, true), some { s with l := dropGo n.pk.subs s.l })
      else if n.pk.ty = 14 ∨ n.pk.ty = 0 then (([], false, true), if s.clean then none else some { s with conn := 0 })
      else (([], false, false), some s)
theorem does_look (n : Note) (m : MS) (hk : n.kind = 2) : (applyM n m).1 = (doesO n (lookS n.client.data.toList m.seats)).1 ∧ (applyM n m).2.kept = m.kept ∧
    ∀ d, lookS d (applyM n m).2.seats = if d = n.client.data.toList then (doesO n (lookS n.client.data.toList m.seats)).2 else lookS d m.seats := by
  have hid : ∀ d, lookS d m.seats = if d = n.client.data.toList then lookS n.client.data.toList m.seats else lookS d m.seats := fun d => by
    split
    · rename_i h; rw [h]
    · rfl
  unfold applyM doesO
  rw [if_neg (by omega), if_neg (by omega)]
  by_cases h1 : n.pk.ty = 1
  · rw [if_pos h1, if_pos h1]
    by_cases hb : connBad (lookS n.client.data.toList m.seats) n = true
    · rw [if_pos hb, if_pos hb]
      exact ⟨rfl, rfl, hid⟩
    · rw [if_neg hb, if_neg hb]
      exact ⟨rfl, rfl, fun d => lookS_fresh _ _ _ d⟩
  · rw [if_neg h1, if_neg h1]
    cases ho : lookS n.client.data.toList m.seats with
    | none =>
      rw [ho] at hid
      exact ⟨rfl, rfl, hid⟩
    | some s =>
      rw [ho] at hid
      simp only
      by_cases hc : n.conn < 1 ∨ s.conn ≠ n.conn
      · rw [if_pos hc, if_pos hc]
        exact ⟨rfl, rfl, hid⟩
      · rw [if_neg hc, if_neg hc]
        unfold does1
        by_cases h8 : n.pk.ty = 8
        · rw [if_pos h8, if_pos h8]
          exact ⟨rfl, rfl, fun d => lookS_turn' ho d⟩
        rw [if_neg h8, if_neg h8]
        by_cases h10 : n.pk.ty = 10
        · rw [if_pos h10, if_pos h10]
          exact ⟨rfl, rfl, fun d => lookS_turn' ho d⟩
        rw [if_neg h10, if_neg h10]
        by_cases h14 : n.pk.ty = 14 ∨ n.pk.ty = 0
        · rw [if_pos h14, if_pos h14]
          refine ⟨rfl, rfl, fun d => ?_⟩
          cases hcl : s.clean with
          | true => exact lookS_drop _ _ d
          | false => exact lookS_turn' ho d
        · rw [if_neg h14, if_neg h14]
          exact ⟨rfl, rfl, hid⟩
theorem keeps_look (n : Note) (m : MS) (hk : n.kind = 5) : applyM n m = (([], false, mayB n.msg), ⟨m.seats, setB n.msg m.kept⟩) := by unfold applyM; rw [if_pos hk]
theorem else_look (n : Note) (m : MS) (hk : n.kind ≠ 5) (h2 : n.kind ≠ 2) : applyM n m = (([], false, true), m) := by unfold applyM; rw [if_neg hk, if_pos h2]
/-- what is refused changes nothing -/
theorem doesO_no {n : Note} {o : Option Seat} (h : (doesO n o).1.2.2 = false) : doesO n o = (([], false, false), o) := by
  unfold doesO at *
  split
  · rename_i h1
    rw [if_pos h1] at h
    split
    · rfl
    · rename_i hb
      rw [if_neg hb] at h
      cases h
  · rename_i h1
    rw [if_neg h1] at h
    cases o with
    | none => rfl
    | some s =>
      simp only at h ⊢
      split
      · rfl
      · rename_i hc
        rw [if_neg hc] at h
        split
        · rename_i h8
          rw [if_pos h8] at h
          cases h
        · rename_i h8
          rw [if_neg h8] at h
          split
          · rename_i h10
            rw [if_pos h10] at h
            cases h
          · rename_i h10
            rw [if_neg h10] at h
            split
            · rename_i h14
              rw [if_pos h14] at h
              cases h
            · rfl
theorem mem_listsM {m : MS} (h : MOk m) {f c : Str} : (f, c) ∈ listsM m.seats ↔ ∃ s, lookS c m.seats = some s ∧ f ∈ s.l.map (·.1) := by
  rw [(listsM_ok h).2.mem_iff, mem_allHints]
  constructor
  · rintro ⟨s, h1, h2⟩
    exact ⟨s, lookS_of_mem h.key h1, h2⟩
  · rintro ⟨s, h1, h2⟩
    exact ⟨s, lookS_mem h1, h2⟩
theorem hrising_same {l l' : List Hint} (h : HRising l) (h' : HRising l') (hm : ∀ x, x ∈ l ↔ x ∈ l') : l = l' :=
  hrising_ext h h' ((List.perm_ext_iff_of_nodup (hrising_nodup h) (hrising_nodup h')).2 hm)
/-- what is told of the sessions hangs on who has which one -/
theorem listsM_ext {m m' : MS} (h : MOk m) (h' : MOk m') (he : ∀ d, lookS d m.seats = lookS d m'.seats) : listsM m.seats = listsM m'.seats := by
  refine hrising_same (listsM_ok h).1 (listsM_ok h').1 fun ⟨f, c⟩ => ?_
  rw [mem_listsM h, mem_listsM h', he]

def runM (l : List Note) : MS := l.foldl (fun m n => (applyM n m).2) MS.new
theorem runM_snoc (l : List Note) (n : Note) : runM (l ++ [n]) = (applyM n (runM l)).2 := by unfold runM; rw [List.foldl_append]; rfl
theorem runM_ok (l : List Note) (h : ∀ n ∈ l, NoteOk n) : MOk (runM l) := by
  have go : ∀ (l : List Note) (m : MS), (∀ n ∈ l, NoteOk n) → MOk m → MOk (l.foldl (fun m n => (applyM n m).2) m) := fun l => by
    induction l with
    | nil => exact fun m _ h => h
    | cons x r ih => exact fun m hl hm => ih _ (fun n hn => hl n (by simp [hn])) (applyM_ok (hl x (by simp)) hm)
  exact go l _ h MOk.new

/-- a client's own notes, and what is kept, gone through apart -/
structure AloneI (c : Str) (m own kept : MS) : Prop where
  same : lookS c m.seats = lookS c own.seats
  only : ∀ d, d ≠ c → lookS d own.seats = none
  k0 : own.kept = []
  kk : kept.kept = m.kept
  s0 : kept.seats = []
theorem AloneI.new (c : Str) : AloneI c MS.new MS.new MS.new := ⟨rfl, fun _ _ => rfl, rfl, rfl, rfl⟩
theorem AloneI.keeps {c : Str} {m own kept : MS} (h : AloneI c m own kept) {n : Note} (hk : n.kind = 5) : (applyM n kept).1 = (applyM n m).1 ∧ AloneI c (applyM n m).2 own (applyM n kept).2 := by
  rw [keeps_look n m hk, keeps_look n kept hk]
  exact ⟨rfl, h.same, h.only, h.k0, by simp only [h.kk], h.s0⟩
theorem AloneI.mine {c : Str} {m own kept : MS} (h : AloneI c m own kept) {n : Note} (hk : n.kind = 2) (hc : n.client.data.toList = c) : (applyM n own).1 = (applyM n m).1 ∧ AloneI c (applyM n m).2 (applyM n own).2 kept := by
  obtain ⟨a1, a2, a3⟩ := does_look n m hk
  obtain ⟨b1, b2, b3⟩ := does_look n own hk
  rw [hc] at a1 a3 b1 b3
  refine ⟨by rw [a1, b1, h.same], ⟨?_, fun d hd => ?_, b2.trans h.k0, by rw [a2]; exact h.kk, h.s0⟩⟩
  · rw [a3, b3, h.same]
  · rw [b3, if_neg hd]; exact h.only d hd
theorem AloneI.other {c : Str} {m own kept : MS} (h : AloneI c m own kept) {n : Note} (hk : n.kind ≠ 5) (hc : n.kind = 2 → n.client.data.toList ≠ c) : AloneI c (applyM n m).2 own kept := by
  by_cases h2 : n.kind = 2
  · obtain ⟨a1, a2, a3⟩ := does_look n m h2
    refine ⟨?_, h.only, h.k0, by rw [a2]; exact h.kk, h.s0⟩
    rw [a3, if_neg (fun e => hc h2 e.symm)]
    exact h.same
  · rw [else_look n m hk h2]
    exact h
theorem AloneI.lists {c : Str} {m own kept : MS} (h : AloneI c m own kept) (hm : MOk m) (ho : MOk own) : (listsM m.seats).filter (fun x => x.2 == c) = listsM own.seats := by
  refine hrising_same (List.Pairwise.filter _ (listsM_ok hm).1) (listsM_ok ho).1 fun ⟨f, d⟩ => ?_
  rw [List.mem_filter, mem_listsM hm, mem_listsM ho]
  constructor
  · rintro ⟨⟨s, h1, h2⟩, h3⟩
    obtain rfl : d = c := by simpa using h3
    exact ⟨s, by rw [← h.same]; exact h1, h2⟩
  · rintro ⟨s, h1, h2⟩
    by_cases e : d = c
    · subst e
      exact ⟨⟨s, by rw [h.same]; exact h1, h2⟩, by simp⟩
    · rw [h.only d e] at h1; cases h1
theorem lists_nil : listsM [] = [] := rfl
theorem listsM_len {m : MS} (h : MOk m) {n : Nat} (hn : m.seats.length ≤ n) (hl : ∀ x ∈ m.seats, x.2.l.length ≤ 16) : (listsM m.seats).length ≤ 16 * n := by
  rw [(listsM_ok h).2.length_eq]
  have : ∀ st : Seats, (∀ x ∈ st, x.2.l.length ≤ 16) → (allHints st).length ≤ 16 * st.length := fun st hl => by
    induction st with
    | nil => simp [allHints]
    | cons x r ih =>
      have h1 := hl x (by simp)
      have h2 := ih fun y hy => hl y (by simp [hy])
      unfold allHints at *
      rw [List.flatMap_cons, List.length_append, hintsOf_len, List.length_cons]
      omega
  have := this m.seats hl
  omega
end
section
open Go Go.RowKit Go.Maps

theorem mapply_any (w0 : World) (m N : Nat) (s : MS) (F : List Nat) (n : Note) (w : World) (hb0 : Below w0.heap.size w0 w) (hF0 : ∀ k ∈ F, w0.heap.size ≤ k) (hT : Tabs w0) (hrow : Beside w F n.pk.subsA (subsV n.pk.subs)) (hn : NoteOk n) (hN : N < 10000) (hl : s.kept.length < 1000000) (h : MRep w m N s F) :
    Calls Tryz.prog 19 #[.pointer (some ⟨m, 0, none⟩), .agg n.cells.toArray] w (ApplyQ m N s F n w) := by
  by_cases h5 : n.kind = 5
  · exact mapply_keeps m N s F n w h (hT.below hb0) hn h5 hl
  by_cases h2 : n.kind = 2
  · by_cases h1 : n.pk.ty = 1
    · exact mapply_connect m N s F n w h hN hn.client h2 h1
    · cases ho : lookS n.client.data.toList s.seats with
      | none => exact mapply_no m N s F n w h hn.client h2 h1 (fun x hx => by rw [ho] at hx; cases hx)
      | some x =>
        by_cases hc1 : n.conn < 1
        · exact mapply_no m N s F n w h hn.client h2 h1 (fun _ _ => .inl hc1)
        by_cases hc2 : x.conn = n.conn
        · by_cases h8 : n.pk.ty = 8
          · exact mapply_sub w0 m N s F n w hb0 hF0 hT hrow hn h h2 x ho hc1 hc2 h8
          by_cases h10 : n.pk.ty = 10
          · exact mapply_unsub m N s F n w hrow hn h h2 x ho hc1 hc2 h10
          by_cases h14 : n.pk.ty = 14 ∨ n.pk.ty = 0
          · exact mapply_end m N s F n w h hn.client h2 x ho hc1 hc2 h14
          · exact mapply_odd m N s F n w h hn.client h2 x ho hc1 hc2 h1 h8 h10 (fun e => h14 (.inl e)) (fun e => h14 (.inr e))
        · exact mapply_no m N s F n w h hn.client h2 h1 (fun y hy => by rw [ho] at hy; cases hy; exact .inr hc2)
  · exact mapply_else m N s F n w h h5 h2

/-- a model of the call's own: n bounds what was done -/
structure Mo (w0 w : World) (n m : Nat) (s : MS) (F : List Nat) : Prop where
  c : MRep w m n s F
  ok : MOk s
  kl : s.kept.length ≤ n
  fF : ∀ k ∈ F, w0.heap.size ≤ k
  bel : Below w0.heap.size w0 w
theorem Mo.upd {w0 w w' : World} {n n' m : Nat} {s s' : MS} {F F' : List Nat} (h : Mo w0 w n m s F) (hc : MRep w' m n' s' F') (hok : MOk s') (hkl : s'.kept.length ≤ n') (hu : Upd F F' w w') : Mo w0 w' n' m s' F' := by
  obtain ⟨h1, h2⟩ := lie_below h.bel (Nat.le_refl _) h.fF hu
  exact ⟨hc, hok, hkl, h2, h1⟩
theorem Mo.below {w0 w w' : World} {n m : Nat} {s : MS} {F : List Nat} (h : Mo w0 w n m s F) (hk : Below w.heap.size w w') : Mo w0 w' n m s F := ⟨h.c.below hk, h.ok, h.kl, h.fF, bnext h.bel (Nat.le_refl _) hk⟩
theorem Mo.drewN {w0 w : World} {n m : Nat} {s : MS} {F : List Nat} (h : Mo w0 w n m s F) (k : Nat) : Mo w0 (w.drewN k) n m s F := h.below (Go.below_drewN (Below.refl _ _) k)
theorem Mo.drew {w0 w : World} {n m : Nat} {s : MS} {F : List Nat} (h : Mo w0 w n m s F) : Mo w0 w.drew n m s F := h.below (Below.refl _ _).drew
theorem Mo.alloc {w0 w : World} {n m : Nat} {s : MS} {F : List Nat} (h : Mo w0 w n m s F) (o : Obj) : Mo w0 (w.alloc o) n m s F := h.below ((Below.refl _ _).alloc (Nat.le_refl _) o)
theorem Mo.more {w0 w : World} {n n' m : Nat} {s : MS} {F : List Nat} (h : Mo w0 w n m s F) (hn : n ≤ n') : Mo w0 w n' m s F := ⟨h.c.monoN hn, h.ok, Nat.le_trans h.kl hn, h.fF, h.bel⟩
theorem Mo.tabs {w0 w : World} {n m : Nat} {s : MS} {F : List Nat} (h : Mo w0 w n m s F) (hT : Tabs w0) : Tabs w := hT.below h.bel
theorem Mo.beside {w0 w : World} {n m : Nat} {s : MS} {F : List Nat} (h : Mo w0 w n m s F) {a : Option Addr} {xs : List Value} (hr : Row w0 a xs) : Beside w F a xs := Beside.base hr h.bel h.fF
/-- another one was turned -/
theorem Mo.mod {w0 w w' : World} {n m : Nat} {s : MS} {F G G' : List Nat} (h : Mo w0 w n m s F) (hu : Upd G G' w w') (hd : ∀ k ∈ F, k ∉ G) (hG : ∀ k ∈ G, w0.heap.size ≤ k) : Mo w0 w' n m s F :=
  ⟨h.c.mod hu.1 hd, h.ok, h.kl, h.fF, (lie_below h.bel (Nat.le_refl _) hG hu).1⟩
theorem setB_len (x : Msg) (l : List Msg) : (setB x l).length ≤ l.length + 1 := by
  unfold setB
  split
  · unfold setM
    split
    · have := len_del_le x.k l; omega
    · exact len_put_le _ _
  · omega
theorem applyM_kept (n : Note) (m : MS) : (applyM n m).2.kept.length ≤ m.kept.length + 1 := by
  by_cases h5 : n.kind = 5
  · rw [keeps_look n m h5]; exact setB_len _ _
  by_cases h2 : n.kind = 2
  · rw [(does_look n m h2).2.1]; exact Nat.le_succ _
  · rw [else_look n m h5 h2]; exact Nat.le_succ _
theorem mnew_x (w0 w : World) (hb : Below w0.heap.size w0 w) : Calls Tryz.prog 8 #[] w fun e w' => ∃ m F, e = .returned (.pointer (some ⟨m, 0, none⟩)) ∧ Mo w0 w' 0 m MS.new F ∧ Upd [] F w w' :=
  (mnew w).mono fun _ _ ⟨m, F, he, h, hu⟩ => by
    obtain ⟨h1, h2⟩ := lie_below hb (Nat.le_refl _) (by simp) hu
    exact ⟨m, F, he, ⟨h, MOk.new, Nat.le_refl _, h2, h1⟩, hu⟩
theorem apply_x (n m : Nat) (x : Note) (A : Ans) (s s' : MS) (w0 : World) (F : List Nat) (w : World) (h : Mo w0 w n m s F) (hT : Tabs w0) (hx : NoteOk x) (hr : Beside w F x.pk.subsA (subsV x.pk.subs)) (hn : n < 10000) (hA : applyM x s = (A, s')) :
    Calls Tryz.prog 19 #[.pointer (some ⟨m, 0, none⟩), .agg x.cells.toArray] w fun e w' => e = .returned (.tuple #[.string ⟨A.1.toArray⟩, .bool A.2.1, .bool A.2.2]) ∧ ∃ F', Mo w0 w' (n + 1) m s' F' ∧ Upd F F' w w' :=
  (mapply_any w0 m n s F x w h.bel h.fF hT hr hx hn (by have := h.kl; omega) h.c).mono fun e w' hq => by
    have hok := applyM_ok hx h.ok
    have hkl := applyM_kept x s
    unfold ApplyQ at hq
    rw [hA] at hq hok hkl
    obtain ⟨he, F', h1, h2⟩ := hq
    exact ⟨he, F', h.upd h1 hok (by have := h.kl; simp only at hkl; omega) h2, h2⟩
theorem mhas_x (b : Bool) (n m : Nat) (s : MS) (c : ByteArray) (w0 : World) (F : List Nat) (w : World) (h : Mo w0 w n m s F) (hc : c.size ≤ maxLen) (hb : (lookS c.data.toList s.seats).isSome = b) :
    Calls Tryz.prog 11 #[.pointer (some ⟨m, 0, none⟩), .string c] w fun e w' => e = .returned (.bool b) ∧ w = w' := by
  subst hb
  have := mhas_any m n s F c.data.toList w h.c (by show c.data.toList.length ≤ _; simpa using hc)
  rwa [str_mk] at this
theorem mconn_x (k : Int) (n m : Nat) (s : MS) (c : ByteArray) (w0 : World) (F : List Nat) (w : World) (h : Mo w0 w n m s F) (hc : c.size ≤ maxLen) (hk : connOf (lookS c.data.toList s.seats) = k) :
    Calls Tryz.prog 12 #[.pointer (some ⟨m, 0, none⟩), .string c] w fun e w' => e = .returned (.int .i64 k) ∧ w = w' := by
  subst hk
  have := mconn_any m n s F c.data.toList w h.c (by show c.data.toList.length ≤ _; simpa using hc)
  rwa [str_mk] at this
theorem mbest_x (q : Int) (b : Bool) (n m : Nat) (s : MS) (c x : ByteArray) (w0 : World) (F : List Nat) (w : World) (h : Mo w0 w n m s F) (hT : Tabs w0) (hc : c.size ≤ maxLen) (hx : x.size ≤ 1000) (hq : bestOf x.data.toList (lookS c.data.toList s.seats) = (q, b)) :
    Calls Tryz.prog 14 #[.pointer (some ⟨m, 0, none⟩), .string c, .string x] w fun e w' => e = .returned (.tuple #[.int .u8 q, .bool b]) ∧ Below w.heap.size w w' := by
  have := mbest_any m n s F c.data.toList x.data.toList w h.c h.ok (h.tabs hT) (by show c.data.toList.length ≤ _; simpa using hc) (by show x.data.toList.length < _; have : x.data.toList.length = x.size := rfl; omega)
  rw [str_mk, str_mk, hq] at this
  exact this
theorem mlists_x (n m : Nat) (s : MS) (L : List Hint) (w0 : World) (F : List Nat) (w : World) (h : Mo w0 w n m s F) (hn : n ≤ 10000) (hL : listsM s.seats = L) :
    Calls Tryz.prog 15 #[.pointer (some ⟨m, 0, none⟩)] w fun e w' => ∃ a c, e = .returned (.slice a L.length c) ∧ L.length ≤ 160000 ∧ Beside w' F a (hintsV L) ∧ Below w.heap.size w w' := by
  subst hL
  exact (mlists_any m n s F w h.c h.ok hn).mono fun e w' ⟨v, he, hown, hb, hl⟩ => by
    obtain ⟨a, c, rfl, -, -, hB⟩ := Beside.own hown h.c.lt
    exact ⟨a, c, he, hl.out, hB, hb⟩
theorem mkept_x (n m k : Nat) (s : MS) (L : List Msg) (w0 : World) (F : List Nat) (w : World) (h : Mo w0 w n m s F) (hn : n ≤ 10000) (hL : s.kept = L) (hk : L.length = k) :
    Calls Tryz.prog 13 #[.pointer (some ⟨m, 0, none⟩)] w fun e w' => ∃ a c, e = .returned (.slice a k c) ∧ k ≤ c ∧ c ≤ maxLen ∧ Beside w' F a (msgs L) ∧ Below w.heap.size w w' := by
  subst hL hk
  exact (mkept_any m n s F w h.c (by have := h.kl; omega)).mono fun e w' ⟨v, he, hown, hb⟩ => by
    obtain ⟨a, c, rfl, h1, h2, hB⟩ := Beside.own hown h.c.lt
    exact ⟨a, c, he, h1, h2, hB, hb⟩
end
section
open Go Go.RowKit Go.Maps

theorem msg_eq_iff (a b : Msg) : a = b ↔ a.t = b.t ∧ a.p = b.p ∧ a.q = b.q ∧ a.r = b.r := by
  obtain ⟨t, p, q, r⟩ := a
  obtain ⟨t', p', q', r'⟩ := b
  simp
instance : DecidableEq Msg := fun a b => decidable_of_iff (a.t = b.t ∧ a.p = b.p ∧ a.q = b.q ∧ a.r = b.r) (msg_eq_iff a b).symm
theorem ba_toList {a b : ByteArray} : a.toList = b.toList ↔ a = b := by
  rw [Lib.toList_data, Lib.toList_data]
  exact ⟨ba_ext, fun h => by rw [h]⟩
theorem msg_neq (b : Bool) (w : World) (t p t' p' : ByteArray) (q q' : Int) (r r' : Bool) (h : decide ((⟨t, p, q, r⟩ : Msg) = ⟨t', p', q', r'⟩) = b) :
    (binOp .neq 26 (.agg #[.string t, .string p, .int .u8 q, .bool r]) (.agg #[.string t', .string p', .int .u8 q', .bool r'])).run Tryz.prog w = .ok (.bool (!b)) w := by
  have hst : Tryz.prog.stoodInHeld 26 = false := by kernel_rfl
  have hgd : Tryz.prog.eqGuardType Tryz.prog.depth 26 = false := by kernel_rfl
  go_simp
  simp only [ba_toList]
  subst h
  by_cases h1 : t = t'
  · by_cases h2 : p = p'
    · by_cases h3 : q = q'
      · by_cases h4 : r = r' <;> simp [h1, h2, h3, h4]
      · simp [h1, h2, h3]
    · simp [h1, h2]
  · simp [h1]
theorem msg_eql (b : Bool) (w : World) (t p t' p' : ByteArray) (q q' : Int) (r r' : Bool) (h : decide ((⟨t, p, q, r⟩ : Msg) = ⟨t', p', q', r'⟩) = b) :
    (binOp .eql 26 (.agg #[.string t, .string p, .int .u8 q, .bool r]) (.agg #[.string t', .string p', .int .u8 q', .bool r'])).run Tryz.prog w = .ok (.bool b) w := by
  have hst : Tryz.prog.stoodInHeld 26 = false := by kernel_rfl
  have hgd : Tryz.prog.eqGuardType Tryz.prog.depth 26 = false := by kernel_rfl
  go_simp
  simp only [ba_toList]
  subst h
  by_cases h1 : t = t'
  · by_cases h2 : p = p'
    · by_cases h3 : q = q'
      · by_cases h4 : r = r' <;> simp [h1, h2, h3, h4]
      · simp [h1, h2, h3]
    · simp [h1, h2]
  · simp [h1]

set_option maxRecDepth 100000 in
set_option maxHeartbeats 2000000 in
theorem same12_any (bb : Bool) (a b : Option Addr) (c d : Nat) (l m : List Msg) (w : World) (ha : Row w a (msgs l)) (hb : Row w b (msgs m)) (hl : l.length ≤ 100000) (hm : m.length ≤ 100000) (hbb : decide (l = m) = bb) :
    Calls Tryz.prog 26 #[.slice a l.length c, .slice b m.length d] w fun e w' => e = .returned (.bool bb) ∧ ∃ n, w' = w.drewN n := by
  have HBB := Lib.hid hbb
  have HA := Lib.hid ha
  have HB := Lib.hid hb
  clear ha hb hbb
  by_cases hlen : l.length = m.length
  · rw [hlen]
    go_enter Tryz.func26, Tryz.ntmps26
    go_wp2_with fail
    go_loopw [5] (fun i wr => ∃ k : Nat, i = .int .i64 k ∧ k ≤ m.length ∧ (∃ n, wr = w.drewN n) ∧ l.take k = m.take k) (fun i _ => (m.length - intOf i).toNat)
    case atStart => exact ⟨0, rfl, by omega, ⟨0, rfl⟩, by simp⟩
    case round =>
      obtain ⟨k, rfl, hk, ⟨n, rfl⟩, htk⟩ := hrel
      have HTK := Lib.hid htk
      clear htk
      by_cases hlt : k < m.length
      · have hlt' : k < l.length := by omega
        obtain ⟨b1, o1, rfl, k0, k1, k2, k3⟩ := msgs_row HA.out (k := k) (m := l[k]) (by simp [hlt'])
        obtain ⟨b2, o2, rfl, j0, j1, j2, j3⟩ := msgs_row HB.out (k := k) (m := m[k]) (by simp [hlt])
        have h1 : l.take (k + 1) = l.take k ++ [l[k]] := List.take_succ_eq_append_getElem hlt'
        have h2 : m.take (k + 1) = m.take k ++ [m[k]] := List.take_succ_eq_append_getElem hlt
        have HE : Hid (l[k] = m[k] → l.take (k + 1) = m.take (k + 1)) := Lib.hid (fun e => by rw [h1, h2, HTK.out, e])
        have HN : Hid (l[k] ≠ m[k] → false = bb) := Lib.hid (fun e => by rw [← HBB.out]; symm; simp only [decide_eq_false_iff_not]; rintro rfl; exact e rfl)
        clear h1 h2
        generalize l[k] = x at *
        generalize m[k] = y at *
        obtain ⟨xt, xp, xq, xr⟩ := x
        obtain ⟨yt, yp, yq, yr⟩ := y
        have hk0 : (0 : Int) ≤ k := by omega
        have hkl : (k : Int) < m.length := by omega
        simp only at k0 k1 k2 k3 j0 j1 j2 j3
        obtain ⟨b, hb⟩ : ∃ b, decide ((⟨xt, xp, xq, xr⟩ : Msg) = ⟨yt, yp, yq, yr⟩) = b := ⟨_, rfl⟩
        have hcmp := fun w => msg_neq b w xt xp yt yp xq yq xr yr hb
        cases b with
        | true =>
          have HE' := Lib.hid (HE.out (of_decide_eq_true hb))
          clear HE HN hb
          go_wp2_with fail
          go_quiet (fail)
          go_wp2_with fail
          go_roundw
          case rel => exact ⟨k + 1, by go_num, by omega, ⟨n + _, rfl⟩, HE'.out⟩
          case measure => simp [intOf]; omega
        | false =>
          have HN' := Lib.hid (HN.out (of_decide_eq_false hb))
          clear HE HN hb
          go_wp2_with fail
          go_quiet (fail)
          go_wp2_with fail
          go_ret
          exact ⟨ret_bool HN'.out, _, World.drewN_drewN _ _ _⟩
      · have hkl : ¬ (k : Int) < m.length := by omega
        have HBT : Hid (true = bb) := Lib.hid (by
          have := HTK.out
          rw [List.take_of_length_le (by omega), List.take_of_length_le (by omega)] at this
          rw [← HBB.out, this]; simp)
        go_wp2_with fail
        go_ret
        exact ⟨ret_bool HBT.out, n, rfl⟩
  · have hne : ((l.length : Int) == m.length) = false := by simp; omega
    have HN : Hid (false = bb) := Lib.hid (by rw [← HBB.out]; symm; simp only [decide_eq_false_iff_not]; rintro rfl; exact hlen rfl)
    go_enter Tryz.func26, Tryz.ntmps26
    go_wp2_with fail
    go_ret
    exact ⟨ret_bool HN.out, 0, rfl⟩

theorem hint_neq (b : Bool) (w : World) (f c f' c' : Str) (h : decide (((f, c) : Hint) = (f', c')) = b) :
    (binOp .neq 65 (.agg #[.string ⟨f.toArray⟩, .string ⟨c.toArray⟩]) (.agg #[.string ⟨f'.toArray⟩, .string ⟨c'.toArray⟩])).run Tryz.prog w = .ok (.bool (!b)) w := by
  have hst : Tryz.prog.stoodInHeld 65 = false := by kernel_rfl
  have hgd : Tryz.prog.eqGuardType Tryz.prog.depth 65 = false := by kernel_rfl
  go_simp
  try simp only [ba_toList, mk_inj]
  subst h
  by_cases h1 : f = f'
  · by_cases h2 : c = c' <;> simp [h1, h2]
  · simp [h1]
theorem hint_eql (b : Bool) (w : World) (f c f' c' : Str) (h : decide (((f, c) : Hint) = (f', c')) = b) :
    (binOp .eql 65 (.agg #[.string ⟨f.toArray⟩, .string ⟨c.toArray⟩]) (.agg #[.string ⟨f'.toArray⟩, .string ⟨c'.toArray⟩])).run Tryz.prog w = .ok (.bool b) w := by
  have hst : Tryz.prog.stoodInHeld 65 = false := by kernel_rfl
  have hgd : Tryz.prog.eqGuardType Tryz.prog.depth 65 = false := by kernel_rfl
  go_simp
  try simp only [ba_toList, mk_inj]
  subst h
  by_cases h1 : f = f'
  · by_cases h2 : c = c' <;> simp [h1, h2]
  · simp [h1]

set_option maxRecDepth 100000 in
set_option maxHeartbeats 2000000 in
theorem sameH_any (bb : Bool) (a b : Option Addr) (c d : Nat) (l m : List Hint) (w : World) (ha : Row w a (hintsV l)) (hb : Row w b (hintsV m)) (hm : (m.length : Int) ≤ 4611686018427387904) (hbb : decide (l = m) = bb) :
    Calls Tryz.prog 24 #[.slice a l.length c, .slice b m.length d] w fun e w' => e = .returned (.bool bb) ∧ ∃ n, w' = w.drewN n := by
  have HBB := Lib.hid hbb
  have HA := Lib.hid ha
  have HB := Lib.hid hb
  clear ha hb hbb
  by_cases hlen : l.length = m.length
  · have HL := Lib.hid hlen
    rw [hlen]
    have hl' : (m.length : Int) ≤ 4611686018427387904 := hm
    clear hlen
    go_enter Tryz.func24, Tryz.ntmps24
    go_wp2_with fail
    go_loopw [5] (fun i wr => ∃ k : Nat, i = .int .i64 k ∧ k ≤ m.length ∧ (∃ n, wr = w.drewN n) ∧ l.take k = m.take k) (fun i _ => (m.length - intOf i).toNat)
    case atStart => exact ⟨0, rfl, by omega, ⟨0, rfl⟩, by simp⟩
    case round =>
      obtain ⟨k, rfl, hk, ⟨n, rfl⟩, htk⟩ := hrel
      have HTK := Lib.hid htk
      clear htk
      by_cases hlt : k < m.length
      · have hlt' : k < l.length := by rw [HL.out]; exact hlt
        obtain ⟨b1, o1, rfl, k0, k1⟩ := hints_row HA.out hlt'
        obtain ⟨b2, o2, rfl, j0, j1⟩ := hints_row HB.out hlt
        have h1 : l.take (k + 1) = l.take k ++ [l[k]] := List.take_succ_eq_append_getElem hlt'
        have h2 : m.take (k + 1) = m.take k ++ [m[k]] := List.take_succ_eq_append_getElem hlt
        have HE : Hid (l[k] = m[k] → l.take (k + 1) = m.take (k + 1)) := Lib.hid (fun e => by rw [h1, h2, HTK.out, e])
        have HN : Hid (l[k] ≠ m[k] → false = bb) := Lib.hid (fun e => by rw [← HBB.out]; symm; simp only [decide_eq_false_iff_not]; rintro rfl; exact e rfl)
        clear h1 h2
        generalize l[k] = x at *
        generalize m[k] = y at *
        obtain ⟨xf, xc⟩ := x
        obtain ⟨yf, yc⟩ := y
        have hk0 : (0 : Int) ≤ k := by omega
        have hkl : (k : Int) < m.length := by omega
        simp only at k0 k1 j0 j1
        obtain ⟨b, hb⟩ : ∃ b, decide (((xf, xc) : Hint) = (yf, yc)) = b := ⟨_, rfl⟩
        have hcmp := fun w => hint_neq b w xf xc yf yc hb
        cases b with
        | true =>
          have HE' := Lib.hid (HE.out (of_decide_eq_true hb))
          clear HE HN hb
          go_wp2_with fail
          go_quiet (fail)
          go_wp2_with fail
          go_roundw
          case rel => exact ⟨k + 1, by go_num, by omega, ⟨n + _, rfl⟩, HE'.out⟩
          case measure => simp [intOf]; omega
        | false =>
          have HN' := Lib.hid (HN.out (of_decide_eq_false hb))
          clear HE HN hb
          go_wp2_with fail
          go_quiet (fail)
          go_wp2_with fail
          go_ret
          exact ⟨ret_bool HN'.out, _, World.drewN_drewN _ _ _⟩
      · have hkl : ¬ (k : Int) < m.length := by omega
        have HBT : Hid (true = bb) := Lib.hid (by
          have := HTK.out
          have hL := HL.out
          rw [List.take_of_length_le (by omega), List.take_of_length_le (by omega)] at this
          rw [← HBB.out, this]; simp)
        go_wp2_with fail
        go_ret
        exact ⟨ret_bool HBT.out, n, rfl⟩
  · have hne : ((l.length : Int) == m.length) = false := by simp; omega
    have HN : Hid (false = bb) := Lib.hid (by rw [← HBB.out]; symm; simp only [decide_eq_false_iff_not]; rintro rfl; exact hlen rfl)
    clear hlen
    go_enter Tryz.func24, Tryz.ntmps24
    go_wp2_with fail
    go_ret
    exact ⟨ret_bool HN.out, 0, rfl⟩


set_option maxRecDepth 100000 in
set_option maxHeartbeats 2000000 in
theorem hasC_any (bb : Bool) (a : Option Addr) (c : Nat) (l : List Hint) (x : Str) (w : World) (ha : Row w a (hintsV l)) (hl : (l.length : Int) ≤ 4611686018427387904) (hbb : decide (∃ h ∈ l, h.2 = x) = bb) :
    Calls Tryz.prog 27 #[.slice a l.length c, .string ⟨x.toArray⟩] w fun e w' => e = .returned (.bool bb) ∧ w = w' := by
  have HA := Lib.hid ha
  have HBB := Lib.hid hbb
  clear ha hbb
  go_enter Tryz.func27, Tryz.ntmps27
  go_wp2_with fail
  go_loopw [5] (fun i wr => ∃ k : Nat, i = .int .i64 k ∧ k ≤ l.length ∧ w = wr ∧ ∀ h ∈ l.take k, h.2 ≠ x) (fun i _ => (l.length - intOf i).toNat)
  case atStart => exact ⟨0, rfl, by omega, rfl, by simp⟩
  case round =>
    obtain ⟨k, rfl, hk, rfl, htk⟩ := hrel
    have HTK := Lib.hid htk
    clear htk
    by_cases hlt : k < l.length
    · obtain ⟨b1, o1, rfl, k0, k1⟩ := hints_row HA.out hlt
      have hk0 : (0 : Int) ≤ k := by omega
      have hkl : (k : Int) < l.length := by omega
      have HE : Hid (l[k].2 ≠ x → ∀ h ∈ l.take (k + 1), h.2 ≠ x) := Lib.hid (fun e h hh => by
        rw [List.take_succ_eq_append_getElem hlt] at hh
        rcases List.mem_append.1 hh with hh | hh
        · exact HTK.out h hh
        · rw [List.mem_singleton.1 hh]; exact e)
      have HN : Hid (l[k].2 = x → true = bb) := Lib.hid (fun e => by rw [← HBB.out]; symm; rw [decide_eq_true_eq]; exact ⟨_, List.getElem_mem hlt, e⟩)
      generalize l[k] = y at *
      obtain ⟨yf, yc⟩ := y
      simp only at k0 k1 HE HN
      by_cases hxy : yc = x
      · have HN' := Lib.hid (HN.out hxy)
        have hq : (yc == x) = true := by simpa using hxy
        clear hxy HE HN
        go_wp2_with fail
        go_ret
        exact ⟨ret_bool HN'.out, rfl⟩
      · have HE' := Lib.hid (HE.out hxy)
        have hq : (yc == x) = false := by simpa using hxy
        clear hxy HE HN
        go_wp2_with fail
        go_roundw
        case rel => exact ⟨k + 1, by go_num, by omega, trivial, HE'.out⟩
        case measure => simp [intOf]; omega
    · have hkl : ¬ (k : Int) < l.length := by omega
      have HBT : Hid (false = bb) := Lib.hid (by
        rw [← HBB.out]; symm; rw [decide_eq_false_iff_not]
        rintro ⟨h, hh, e⟩
        have := HTK.out
        rw [List.take_of_length_le (by omega)] at this
        exact this h hh e)
      go_wp2_with fail
      go_ret
      exact ⟨ret_bool HBT.out, rfl⟩
end
section
open Go Go.RowKit

theorem setRow_new (w : World) (cs cs' : Array Value) (T : TypeId) : (w.alloc (.cells cs T)).setRow w.heap.size cs' = w.alloc (.cells cs' T) := by
  unfold World.setRow World.alloc
  congr 1
  apply Array.ext
  · simp
  · intro i h1 h2
    simp only [Array.getElem_modify, Array.getElem_push]
    simp only [Array.size_modify, Array.size_push] at h1
    by_cases e : w.heap.size = i
    · subst e; simp
    · rw [if_neg e]
      have : i < w.heap.size := by omega
      simp [this]
theorem wpList_store_newTo {P : Program} {ops : Array Oper} {rest : List Oper} {o : Oper} {a : Act} {w0 : World} {Q : Exit → Act → World → Prop} (hgd : o.guard = none) (ty : TypeId) (x y : Operand) (ho : o.op = .store ty x y)
    (hd : o.dst = none) (g : Nat) (hg : g = w0.heap.size) (cells old : Array Value) (hx : a.eval x = .pointer (some ⟨g, 0, none⟩)) (hy : a.eval y = .agg cells)
    (hi : (P.info? ty).map (·.size) = some cells.size) (hold : old.size = cells.size) (h1 : cells.all (·.oneCell') = true)
    (h : wpList P ops Q rest a (w0.alloc (.cells cells ty))) : wpList P ops Q (o :: rest) a (w0.alloc (.cells old ty)) := by
  subst hg
  refine wpList_store_rowTo hgd ty x y ho hd w0.heap.size cells hx hy ty old (heap_alloc_new w0 _) hi hold h1 ?_
  rw [setRow_new]
  exact h
theorem wpList_buildBy {P : Program} {ops : Array Oper} {rest : List Oper} {o : Oper} {a : Act} {w : World} {Q : Exit → Act → World → Prop} (hg : o.guard = none) (t : TypeId) (parts : Array (Nat × Operand)) (ho : o.op = .build t parts)
    (d : Option Tmp) (hd : o.dst = d) (cells : Array Value) (ps : List (Nat × Value)) (hps : (parts.map fun (i, x) => (i, a.eval x)).toList = ps) (hf : P.built t ps = some cells)
    (h : wpList P ops Q rest (a.put d (.agg cells)) w) : wpList P ops Q (o :: rest) a w :=
  wpList_buildTo hg t parts ho d hd cells (by rw [hps]; exact hf) h
/-- an operation that is wanted, guarded or not -/
theorem wpList_ask {P : Program} {ops : Array Oper} {rest : List Oper} {o : Oper} {a : Act} {w : World} {Q : Exit → Act → World → Prop} (hw : Region.wanted o (yielded ops a.tmps) = true)
    (h : ∀ K : Act → World → Prop, (∀ a w, wpList P ops Q rest a w → K a w) → o.wp P a w K Q) : wpList P ops Q (o :: rest) a w :=
  wpList_step fun K hK => by rw [if_pos hw]; exact h K hK
theorem wpList_buildG {P : Program} {ops : Array Oper} {rest : List Oper} {o : Oper} {a : Act} {w : World} {Q : Exit → Act → World → Prop} (hw : Region.wanted o (yielded ops a.tmps) = true) (t : TypeId) (parts : Array (Nat × Operand)) (ho : o.op = .build t parts)
    (d : Option Tmp) (hd : o.dst = d) (cells : Array Value) (ps : List (Nat × Value)) (hps : (parts.map fun (i, x) => (i, a.eval x)).toList = ps) (hf : P.built t ps = some cells)
    (h : wpList P ops Q rest (a.put d (.agg cells)) w) : wpList P ops Q (o :: rest) a w := by
  subst hd hps
  refine wpList_ask hw fun K hK => wp_build t parts ho (by rw [hf]; rfl) (hK _ _ ?_)
  rw [hf]
  exact h
theorem wpList_loadG {P : Program} {ops : Array Oper} {rest : List Oper} {o : Oper} {a : Act} {w : World} {Q : Exit → Act → World → Prop} (hw : Region.wanted o (yielded ops a.tmps) = true) (ty : TypeId) (x : Operand) (ho : o.op = .load ty x)
    (g : Nat) (hx : a.eval x = .pointer (some ⟨g, 0, none⟩)) (t : TypeId) (cs : Array Value) (fr : Nat × Nat) (d : TypeDesc) (hg : w.heap[g]? = some (.cells cs t fr))
    (hu : P.underlying ty = some d) (hd : (match d with | .struct _ | .array _ _ => true | _ => false) = true) (hi : (P.info? ty).map (·.size) = some cs.size)
    (h : wpList P ops Q rest (a.put o.dst (.agg cs)) w) : wpList P ops Q (o :: rest) a w :=
  wpList_ask hw fun _ hK => wp_load_row ty x ho g hx t cs fr d hg hu hd hi (hK _ _ h)
end
section
open Go Go.RowKit Go.Maps

/-- a note of what is done -/
def doesN (c : ByteArray) (k : Int) (p : Pkt) : Note := ⟨2, 0, k, c, p, ⟨⟨#[]⟩, ⟨#[]⟩, 0, false⟩, ⟨#[]⟩, false, 0⟩
set_option maxRecDepth 100000 in
set_option maxHeartbeats 2000000 in
theorem does_any (c : ByteArray) (k : Int) (p : Pkt) (w : World) :
    Calls Tryz.prog 10 #[.string c, .int .i64 k, .agg p.cells.toArray] w fun e w' => e = .returned (.agg (doesN c k p).cells.toArray) ∧ Below w.heap.size w w' := by
  have HN : Hid (∀ ty dup qos retain id topic payload level clean keep client hasWill wt wp wq wr hasUser hasPass user pass present code subs codes, Tryz.prog.built 32 [(0, .int .u8 2), (3, .string c), (2, .int .i64 k), (4, .agg #[ty, dup, qos, retain, id, topic, payload, level, clean, keep, client, hasWill, wt, wp, wq, wr, hasUser, hasPass, user, pass, present, code, subs, codes])] =
    some #[.int .u8 2, .int .i64 0, .int .i64 k, .string c, ty, dup, qos, retain, id, topic, payload, level, clean, keep, client, hasWill, wt, wp, wq, wr, hasUser, hasPass, user, pass, present, code, subs, codes, .string ⟨#[]⟩, .string ⟨#[]⟩, .int .u8 0, .bool false, .string ⟨#[]⟩, .bool false, .int .u8 0]) := Lib.hid (by intros; kernel_rfl)
  have HN2 := Lib.hid (show Tryz.prog.built 32 [(0, .int .u8 2), (3, .string c), (2, .int .i64 k), (4, .agg p.cells.toArray)] = some (doesN c k p).cells.toArray from HN.out ..)
  clear HN
  have HSZ := Lib.hid (show (Tryz.prog.info? 32).map (·.size) = some (doesN c k p).cells.toArray.size by kernel_rfl)
  have HS35 := Lib.hid (show (35 : Nat) = (doesN c k p).cells.toArray.size from rfl)
  have HON := Lib.hid (show (doesN c k p).cells.toArray.all (·.oneCell') = true by simp [doesN, Note.cells, Pkt.cells, Msg.cells, Value.oneCell'])
  have HPZ := Lib.hid (show (Tryz.prog.info? 29).map (·.size) = some p.cells.toArray.size by kernel_rfl)
  generalize (doesN c k p).cells.toArray = NC at *
  generalize p.cells.toArray = PC at *
  have HP := Lib.hid (heap_alloc_new w (.cells PC 29))
  go_enter Tryz.func10, Tryz.ntmps10
  go_wp2_with (first
    | (refine wpList_load_row rfl 29 _ rfl w.heap.size rfl 29 PC _ _ ((Below.heap_alloc _ _ _ (by simp)).trans HP.out) Tryz.underlying29 rfl HPZ.out ?_)
    | (refine wpList_buildBy rfl 32 _ rfl _ rfl NC [(0, .int .u8 2), (3, .string c), (2, .int .i64 k), (4, .agg PC)] (by kernel_rfl) HN2.out ?_)
    | (refine wpList_store_newTo rfl 32 _ _ rfl rfl (w.heap.size + 1) (by simp) NC _ rfl rfl HSZ.out HS35.out HON.out ?_)
    | fail)
  (try simp only [Exit.inBlock, Exit.then])
  refine bodyPost_ret (results_cell_row rfl _ _ (w.heap.size + 1) 32 NC (0, 0) _ rfl ?_ Tryz.underlying32 rfl HSZ.out) rfl ⟨rfl, ((Below.refl _ _).alloc (Nat.le_refl _) _).alloc (by simp) _⟩
  have := heap_alloc_new (w.alloc (.cells PC 29)) (.cells NC 32)
  simpa using this
end
section
open Go Go.RowKit Go.Maps

set_option maxRecDepth 100000 in
set_option maxHeartbeats 2000000 in
theorem applies_x (bb : Bool) (n m : Nat) (x : Note) (A : Ans) (s s' : MS) (w0 : World) (F : List Nat) (w : World) (codes : ByteArray) (p o : Bool) (h : Mo w0 w n m s F) (hT : Tabs w0) (hx : NoteOk x) (hr : Beside w F x.pk.subsA (subsV x.pk.subs)) (hn : n < 10000) (hA : applyM x s = (A, s')) (hb : decide (A = (codes.data.toList, p, o)) = bb) :
    Calls Tryz.prog 9 #[.pointer (some ⟨m, 0, none⟩), .agg x.cells.toArray, .string codes, .bool p, .bool o] w fun e w' => e = .returned (.bool bb) ∧ ∃ F', Mo w0 w' (n + 1) m s' F' ∧ Upd F F' w w' := by
  have hba : ∀ nc, Below w.heap.size w (w.alloc (.cells nc 32)) := fun nc => (Below.refl _ _).alloc (Nat.le_refl _) _
  have HC := Lib.hid (apply_x n m x A s s' w0 F _ (h.below (hba x.cells.toArray)) hT hx (hr.below (hba _)) hn hA)
  have HZ := Lib.hid (show (Tryz.prog.info? 32).map (·.size) = some x.cells.toArray.size by kernel_rfl)
  have HB := Lib.hid (hba x.cells.toArray)
  have HE := Lib.hid hb
  clear h hT hx hr hn hA hba hb
  generalize x.cells.toArray = NC at *
  obtain ⟨a1, a2, a3⟩ := A
  have HNB := Lib.hid (heap_alloc_new w (.cells NC 32))
  obtain ⟨b1, hb1⟩ : ∃ b, decide (a1 = codes.data.toList) = b := ⟨_, rfl⟩
  have hcd : (a1 == codes.toList) = b1 := by
    rw [← hb1, Lib.toList_data]
    by_cases h : a1 = codes.data.toList <;> simp [h]
  have HF : Hid (bb = (b1 && (decide (a2 = p) && decide (a3 = o)))) := Lib.hid (by
    rw [← HE.out, ← hb1]
    by_cases h1 : a1 = codes.data.toList <;> by_cases h2 : a2 = p <;> by_cases h3 : a3 = o <;> simp [h1, h2, h3])
  clear hb1 HE
  go_enter Tryz.func9, Tryz.ntmps9
  go_wp2_with (first | (refine wpList_load_row rfl 32 _ rfl w.heap.size rfl 32 NC _ _ HNB.out Tryz.underlying32 rfl HZ.out ?_) | fail)
  refine HC.out.mono ?_
  rintro e w2 ⟨rfl, F', h1, h2⟩
  have HG := Lib.hid (And.intro h1 h2)
  clear h1 h2
  cases b1 <;> cases a2 <;> cases p <;> cases a3 <;> cases o <;>
  · go_wp2_with fail
    go_ret
    exact ⟨ret_bool (by rw [HF.out]; decide), F', HG.out.1, upd_pre HB.out HG.out.2⟩
end
section
open Go Go.RowKit Go.Maps

/-- a model, and blocks beside it that stay -/
structure Aw (w0 w : World) (n m : Nat) (s : MS) (F : List Nat) (L : List (Nat × Obj)) : Prop where
  mo : Mo w0 w n m s F
  held : ∀ x ∈ L, w.heap[x.1]? = some x.2 ∧ x.1 ∉ F
theorem Aw.upd {w0 w w' : World} {n n' m : Nat} {s s' : MS} {F F' : List Nat} {L : List (Nat × Obj)} (h : Aw w0 w n m s F L) (hm : Mo w0 w' n' m s' F') (hu : Upd F F' w w') : Aw w0 w' n' m s' F' L :=
  ⟨hm, fun x hx => by
    obtain ⟨h1, h2⟩ := h.held x hx
    have hlt : x.1 < w.heap.size := (Array.getElem?_eq_some_iff.1 h1).1
    exact ⟨(hu.1.block _ hlt h2).trans h1, fun hk => by
      rcases hu.2 _ hk with h | h
      · exact h2 h
      · omega⟩⟩
theorem Aw.below {w0 w w' : World} {n m : Nat} {s : MS} {F : List Nat} {L : List (Nat × Obj)} (h : Aw w0 w n m s F L) (hk : Below w.heap.size w w') : Aw w0 w' n m s F L := h.upd (h.mo.below hk) ⟨Mod.of_below hk _, fun _ h => .inl h⟩
theorem Aw.drewN {w0 w : World} {n m : Nat} {s : MS} {F : List Nat} {L : List (Nat × Obj)} (h : Aw w0 w n m s F L) (k : Nat) : Aw w0 (w.drewN k) n m s F L := h.below (Go.below_drewN (Below.refl _ _) k)
theorem Aw.start {w0 w : World} {n m : Nat} {s : MS} {F : List Nat} (h : Mo w0 w n m s F) : Aw w0 w n m s F [] := ⟨h, fun x hx => by cases hx⟩
theorem Aw.alloc {w0 w : World} {n m : Nat} {s : MS} {F : List Nat} {L : List (Nat × Obj)} (h : Aw w0 w n m s F L) (b : Nat) (hb : b = w.heap.size) (cs : Array Value) (T : TypeId) : Aw w0 (w.alloc (.cells cs T)) n m s F ((b, .cells cs T) :: L) := by
  subst hb
  have h1 := h.below (low_alloc w (.cells cs T))
  refine ⟨h1.mo, fun x hx => ?_⟩
  rcases List.mem_cons.1 hx with rfl | hx
  · exact ⟨heap_alloc_new w _, fun hk => by have := h.mo.c.lt _ hk; omega⟩
  · exact h1.held x hx
theorem Aw.row {w0 w : World} {n m : Nat} {s : MS} {F : List Nat} {L : List (Nat × Obj)} (h : Aw w0 w n m s F L) {b : Nat} {cs : Array Value} {T : TypeId} {fr : Nat × Nat} (hx : (b, Obj.cells cs T fr) ∈ L) {xs : List Value} (hc : cs = xs.toArray) : Beside w F (some ⟨b, 0, none⟩) xs := by
  subst hc
  obtain ⟨h1, h2⟩ := h.held _ hx
  refine .inr ⟨b, 0, rfl, h2, (Array.getElem?_eq_some_iff.1 h1).1, .inr ⟨b, 0, rfl, fun j u hj => ?_⟩⟩
  rw [Nat.zero_add, cell_of_row w b j _ _ _ h1]
  simpa using hj
def noteOkB (n : Note) : Bool := decide (-9223372036854775808 ≤ n.conn) && (decide (n.conn ≤ 9223372036854775807) && (decide (0 ≤ n.kind) && (decide (n.kind ≤ 255) && (decide (0 ≤ n.pk.ty) && (decide (n.pk.ty ≤ 255) && (decide (n.client.size ≤ maxLen) && (decide (n.msg.t.size ≤ 9223372036854775807) && (decide (0 ≤ n.msg.q) && (decide (n.msg.q < 256) && ((n.pk.subs.all fun x => decide (0 ≤ x.2) && (decide (x.2 < 256) && decide (x.1.length < 4294967281))) && decide (n.pk.subs.length ≤ 1000)))))))))))
theorem noteOk_of {n : Note} (h : noteOkB n = true) : NoteOk n := by
  unfold noteOkB at h
  simp only [Bool.and_eq_true, decide_eq_true_eq, List.all_eq_true] at h
  obtain ⟨h1, h2, h3, h4, h5, h6, h7, h8, h9, h10, h11, h12⟩ := h
  exact ⟨h1, h2, h3, h4, h5, h6, h7, h8, h9, h10, h11, h12⟩
theorem applies_a (bb : Bool) (n m : Nat) (x : Note) (A : Ans) (s s' : MS) (w0 : World) (F : List Nat) (L : List (Nat × Obj)) (w : World) (codes : ByteArray) (p o : Bool) (h : Aw w0 w n m s F L) (hT : Tabs w0) (hx : NoteOk x) (hr : Beside w F x.pk.subsA (subsV x.pk.subs)) (hn : n < 10000) (hA : applyM x s = (A, s')) (hb : decide (A = (codes.data.toList, p, o)) = bb) :
    Calls Tryz.prog 9 #[.pointer (some ⟨m, 0, none⟩), .agg x.cells.toArray, .string codes, .bool p, .bool o] w fun e w' => e = .returned (.bool bb) ∧ ∃ F', Aw w0 w' (n + 1) m s' F' L :=
  (applies_x bb n m x A s s' w0 F w codes p o h.mo hT hx hr hn hA hb).mono fun _ _ ⟨he, F', h1, h2⟩ => ⟨he, F', h.upd h1 h2⟩
/-- packets that a law makes -/
def pkOf (ty : Int) (clean : Bool) (a : Option Addr) (c : Nat) (subs : List SubE) : Pkt := ⟨ty, false, 0, false, 0, ⟨#[]⟩, ⟨#[]⟩, 0, clean, 0, ⟨#[]⟩, false, ⟨⟨#[]⟩, ⟨#[]⟩, 0, false⟩, false, false, ⟨#[]⟩, ⟨#[]⟩, false, 0, a, c, subs, ⟨#[]⟩⟩
abbrev pk0 (ty : Int) : Pkt := pkOf ty false none 0 []
/-- a note of what is kept -/
def keepsN (kind : Int) (conn : Int) (c : ByteArray) (x : Msg) : Note := ⟨kind, 0, conn, c, pk0 0, x, ⟨#[]⟩, false, 0⟩
theorem pk_size (p : Pkt) : (Tryz.prog.info? 29).map (·.size) = some p.cells.toArray.size := by kernel_rfl
theorem pk_size24 (p : Pkt) : (24 : Nat) = p.cells.toArray.size := rfl
theorem pk_one (p : Pkt) : p.cells.toArray.all (·.oneCell') = true := by simp [Pkt.cells, Msg.cells, Value.oneCell']
theorem built_pk0 (ty : Int) : Tryz.prog.built 29 [(0, .int .u8 ty)] = some (pk0 ty).cells.toArray := by kernel_rfl
theorem built_pkz : Tryz.prog.built 29 [] = some (pk0 0).cells.toArray := by kernel_rfl
theorem built_pkc (ty : Int) : Tryz.prog.built 29 [(0, .int .u8 ty), (8, .bool true)] = some (pkOf ty true none 0 []).cells.toArray := by kernel_rfl
theorem built_pks (ty : Int) (a : Option Addr) (n c : Nat) (subs : List SubE) (h : subs.length = n) : Tryz.prog.built 29 [(0, .int .u8 ty), (19, .slice a n c)] = some (pkOf ty false a c subs).cells.toArray := by subst h; kernel_rfl
theorem built_keeps (kind : Int) (x : Msg) : Tryz.prog.built 32 [(0, .int .u8 kind), (5, .agg #[.string x.t, .string x.p, .int .u8 x.q, .bool x.r])] = some (keepsN kind 0 ⟨#[]⟩ x).cells.toArray := by kernel_rfl
theorem aw_mem {α : Type} (a b c d : α) (l : List α) : a ∈ a :: l ∧ b ∈ a :: b :: l ∧ c ∈ a :: b :: c :: l ∧ d ∈ a :: b :: c :: d :: l := by simp
end
end Go.Proofs.YthfeckndkmhieaaGreatDoor
