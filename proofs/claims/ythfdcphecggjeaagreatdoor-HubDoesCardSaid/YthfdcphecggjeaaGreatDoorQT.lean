/- The hub (layer 19): the plain law. No program in sight. Rows beside what a set of blocks holds. No program in sight but the rows. The hub: mails, the log, a hub of the call's own: how they lie in memory. Wide structs that are built, and laid into a block that was just made. No program in sight. The hub: answer, a note of its own, walked. -/
import Derived.Test.YthfdcphecggjeaaGreatDoorQC
import Derived.Test.YthfdcphecggjeaaGreatDoorQP
import Derived.Test.YthfdcphecggjeaaGreatDoorQR
import Derived.Test.YthfdcphecggjeaaGreatDoorQD
import Derived.Great.Walk
import Derived.Great.BuildSlice
import Derived.Lib.SliceRun
namespace Go.Proofs.YthfdcphecggjeaaGreatDoor
section
open Go

/-- a text's hash, and its home among n workers -/
def fnvS (h : Nat) (b : UInt8) : Nat := (h ^^^ b.toNat) * 1099511628211 % 18446744073709551616
def fnv (l : Str) : Nat := l.foldl fnvS 14695981039346656037
def homeN (n : Nat) (c : Str) : Nat := fnv c % n
theorem fnv_snoc (l : Str) (b : UInt8) : fnv (l ++ [b]) = fnvS (fnv l) b := by unfold fnv; rw [List.foldl_append, List.foldl_cons, List.foldl_nil]
theorem fnvS_lt (h : Nat) (b : UInt8) : fnvS h b < 18446744073709551616 := by unfold fnvS; exact Nat.mod_lt _ (by decide)
theorem fnv_nil : fnv [] = 14695981039346656037 := by unfold fnv; rw [List.foldl_nil]
theorem fnv_lt (l : Str) : fnv l < 18446744073709551616 := by
  rcases List.eq_nil_or_concat l with rfl | ⟨r, b, rfl⟩
  · rw [fnv_nil]; decide
  · rw [List.concat_eq_append, fnv_snoc]; exact fnvS_lt _ _
theorem homeN_lt {n : Nat} (hn : 0 < n) (c : Str) : homeN n c < n := Nat.mod_lt _ hn
/-- a mail of the hub, its memory aside -/
structure HMail where
  dest : Int
  kind : Int
  op : Int
  client : ByteArray
  msg : Msg
  msgs : List Msg
  clients : List Str
  frm : Int
  many : Int
def Msg.zero : Msg := ⟨⟨#[]⟩, ⟨#[]⟩, 0, false⟩
/-- a mail to who sent an item -/
def backM (x : Item) (kind : Int) (l : List Msg) (many : Int) : HMail := ⟨x.frm, kind, x.op, x.client, Msg.zero, l, [], 0, many⟩
/-- those of a row whose home is a worker -/
def at1 (n : Nat) (cs : List Str) (w : Nat) : List Str := cs.filter fun c => homeN n c == w
def toM (n : Nat) (x : Item) (cs : List Str) (w : Nat) : HMail := ⟨w, 11, x.op, x.client, x.msg, [], at1 n cs w, x.frm, 0⟩
/-- the mails to the homes ahead of a number -/
def sendM (n : Nat) (x : Item) (cs : List Str) (k : Nat) : List HMail := ((List.range k).filter fun w => !(at1 n cs w).isEmpty).map (toM n x cs)
theorem sendM_succ (n : Nat) (x : Item) (cs : List Str) (k : Nat) : sendM n x cs (k + 1) = sendM n x cs k ++ (if (at1 n cs k).isEmpty then [] else [toM n x cs k]) := by
  unfold sendM
  rw [List.range_succ, List.filter_append, List.map_append]
  congr 1
  by_cases h : (at1 n cs k).isEmpty = true
  · simp [h]
  · simp [h]
theorem at1_out {n : Nat} (hn : 0 < n) (cs : List Str) {w : Nat} (hw : n ≤ w) : at1 n cs w = [] := by
  unfold at1
  rw [List.filter_eq_nil_iff]
  intro c _ h
  have := homeN_lt hn c
  rw [beq_iff_eq] at h
  omega
theorem sendM_more {n : Nat} (hn : 0 < n) (x : Item) (cs : List Str) {k : Nat} (hk : n ≤ k) : sendM n x cs k = sendM n x cs n := by
  induction k with
  | zero =>
    have : n = 0 := by omega
    omega
  | succ k ih =>
    by_cases h : n ≤ k
    · rw [sendM_succ, at1_out hn cs h, ih h]; simp
    · have : n = k + 1 := by omega
      rw [this]
structure HubS where
  gs : List Hint
  kp : List Msg
def HubS.new : HubS := ⟨[], []⟩
def keeps (x : Item) : Bool := x.msg.r && mayB x.msg
def routeK (x : Item) (kp : List Msg) : List Msg := if x.msg.r then setB x.msg kp else kp
def routeM (n : Nat) (x : Item) (s : HubS) : List HMail := sendM n x (toldG s.gs x.msg.k) 64 ++ [backM x 10 [] (sendM n x (toldG s.gs x.msg.k) 64).length]
def fits (n : Nat) (x : Item) : Bool := decide (0 ≤ x.frm) && decide (x.frm < n)
def oneM (n : Nat) (x : Item) (s : HubS) : List HMail × HubS :=
  if !fits n x then ([], s)
  else if x.kind = 5 then ([backM x 8 (finds x.filter.data.toList s.kp) 0], ⟨addG s.gs x.filter.data.toList x.client.data.toList, s.kp⟩)
  else if x.kind = 6 then ([backM x 9 [] 0], ⟨s.gs.erase (x.filter.data.toList, x.client.data.toList), s.kp⟩)
  else if x.kind = 7 then (routeM n x s, ⟨s.gs, routeK x s.kp⟩)
  else ([], s)
/-- what is noted of an item -/
def noted (n : Nat) (x : Item) : Bool := fits n x && decide (x.kind = 7) && keeps x
def doH (n : Nat) : List Item → HubS → List HMail × HubS
  | [], s => ([], s)
  | x :: r, s => ((oneM n x s).1 ++ (doH n r (oneM n x s).2).1, (doH n r (oneM n x s).2).2)
theorem doH_snoc (n : Nat) (l : List Item) (x : Item) (s : HubS) : doH n (l ++ [x]) s = ((doH n l s).1 ++ (oneM n x (doH n l s).2).1, (oneM n x (doH n l s).2).2) := by
  induction l generalizing s with
  | nil => simp [doH]
  | cons y r ih => rw [List.cons_append, doH, ih, doH]; simp
end
section
open Go Go.RowKit

/-- a row beside what F holds -/
def Beside (w : World) (F : List Nat) (a : Option Addr) (xs : List Value) : Prop :=
  xs = [] ∨ ∃ b o, a = some ⟨b, o, none⟩ ∧ b ∉ F ∧ b < w.heap.size ∧ Row w a xs
theorem Beside.row {w : World} {F : List Nat} {a : Option Addr} {xs : List Value} (h : Beside w F a xs) : Row w a xs := by
  rcases h with h | ⟨b, o, -, -, -, h⟩
  · exact .inl h
  · exact h
theorem Beside.upd {w w' : World} {F F' : List Nat} {a : Option Addr} {xs : List Value} (h : Beside w F a xs) (hu : Upd F F' w w') : Beside w' F' a xs := by
  rcases h with h | ⟨b, o, ha, h1, h2, h3⟩
  · exact .inl h
  · refine .inr ⟨b, o, ha, fun hk => ?_, Nat.lt_of_lt_of_le h2 hu.1.size, ?_⟩
    · rcases hu.2 b hk with h | h
      · exact h1 h
      · omega
    · rcases h3 with h3 | ⟨b', o', ha', hc⟩
      · exact .inl h3
      · subst ha'
        cases ha
        exact .inr ⟨_, _, rfl, fun i v hi => by rw [World.cell?_of_block (w := w) (hu.1.block _ h2 h1)]; exact hc i v hi⟩
theorem Beside.below {w w' : World} {F : List Nat} {a : Option Addr} {xs : List Value} (h : Beside w F a xs) (hb : Below w.heap.size w w') : Beside w' F a xs := h.upd ⟨Mod.of_below hb _, fun _ hk => .inl hk⟩
theorem Beside.sub {w : World} {F G : List Nat} {a : Option Addr} {xs : List Value} (h : Beside w F a xs) (hG : ∀ k ∈ G, k ∈ F) : Beside w G a xs := by
  rcases h with h | ⟨b, o, ha, h1, h2, h3⟩
  · exact .inl h
  · exact .inr ⟨b, o, ha, fun hk => h1 (hG b hk), h2, h3⟩
theorem Row.lt {w : World} {a : Option Addr} {xs : List Value} (h : Row w a xs) (hn : xs ≠ []) : ∃ b o, a = some ⟨b, o, none⟩ ∧ b < w.heap.size := by
  rcases h with h | ⟨b, o, e, hc⟩
  · exact absurd h hn
  · cases xs with
    | nil => exact absurd rfl hn
    | cons x r =>
      have := hc 0 x rfl
      exact ⟨b, o, e, World.block_lt_of_cell? (a := ⟨b, o + 0, none⟩) w this⟩
/-- a row that was there ahead of all that F holds -/
theorem Beside.base {w0 w : World} {F : List Nat} {a : Option Addr} {xs : List Value} (h : Row w0 a xs) (hb : Below w0.heap.size w0 w) (hF : ∀ k ∈ F, w0.heap.size ≤ k) : Beside w F a xs := by
  by_cases hn : xs = []
  · exact .inl hn
  · obtain ⟨b, o, e, hlt⟩ := Row.lt h hn
    exact .inr ⟨b, o, e, fun hk => by have := hF b hk; omega, Nat.lt_of_lt_of_le hlt hb.size, h.below hb (Nat.le_refl _)⟩
theorem Beside.own {w : World} {F : List Nat} {v : Value} {m : Nat} {T : TypeId} {sz : Nat} {xs : List Value} {B : Nat} (h : w.ownsRow B T sz v m xs) (hF : ∀ k ∈ F, k < B) : ∃ a c, v = .slice a m c ∧ m ≤ c ∧ c ≤ maxLen ∧ Beside w F a xs := by
  obtain ⟨a, c, rfl, hr, h1, h2⟩ := ownsRow_row h
  refine ⟨a, c, rfl, h1, h2, ?_⟩
  rcases h.2 with ⟨e, hn⟩ | ⟨g, cap, cur, e, hb, hg, -⟩
  · cases e
    rcases hr with hr | ⟨b, o, e, -⟩
    · exact .inl hr
    · cases e
  · cases e
    exact .inr ⟨g, 0, rfl, fun hk => by have := hF g hk; omega, (Array.getElem?_eq_some_iff.1 hg).1, hr⟩
/-- a row that was laid just now -/
theorem Beside.new {w : World} {F : List Nat} (hF : ∀ k ∈ F, k < w.heap.size) (xs : List Value) (T : TypeId) : Beside (w.alloc (.cells xs.toArray T)) F (some ⟨w.heap.size, 0, none⟩) xs :=
  .inr ⟨_, _, rfl, fun hk => by have := hF _ hk; omega, by simp, row_new w xs T⟩
end
section
open Go Go.RowKit

def pkZ : Pkt := ⟨0, false, 0, false, 0, ⟨#[]⟩, ⟨#[]⟩, 0, false, 0, ⟨#[]⟩, false, Msg.zero, false, false, ⟨#[]⟩, ⟨#[]⟩, false, 0, none, 0, [], ⟨#[]⟩⟩
def str1 (s : Str) : ByteArray := ⟨s.toArray⟩
/-- the item of a mail, with where its rows lie -/
def itemOf (h : HMail) (ma : Option Addr) (mc : Nat) (ca : Option Addr) (cc : Nat) : Item := ⟨h.kind, h.op, 0, h.client, ⟨#[]⟩, pkZ, h.msg, ma, mc, h.msgs, ca, cc, h.clients.map str1, none, 0, [], h.frm, h.many⟩
structure Mail where
  dest : Int
  it : Item
def Mail.cells (m : Mail) : List Value := [.int .i64 m.dest, .int .i64 5] ++ m.it.cells
def mailsV (l : List Mail) : List Value := l.flatMap Mail.cells
theorem mail_len (m : Mail) : m.cells.length = 40 := rfl
theorem mailsV_length (l : List Mail) : (mailsV l).length = l.length * 40 := by
  induction l with
  | nil => rfl
  | cons x r ih =>
    unfold mailsV at *
    rw [List.flatMap_cons, List.length_append, mail_len, List.length_cons, ih]
    omega
theorem mailsV_append (a b : List Mail) : mailsV a ++ mailsV b = mailsV (a ++ b) := by simp [mailsV]
/-- m is the mail that h says; its rows lie beside F -/
def MailAt (W : World) (F : List Nat) (m : Mail) (h : HMail) : Prop := ∃ ma mc ca cc, m = ⟨h.dest, itemOf h ma mc ca cc⟩ ∧ Beside W F ma (msgs h.msgs) ∧ Beside W F ca (strs h.clients)
theorem MailAt.upd {w w' : World} {F F' : List Nat} {m : Mail} {h : HMail} (k : MailAt w F m h) (hu : Upd F F' w w') : MailAt w' F' m h := by
  obtain ⟨ma, mc, ca, cc, e, h1, h2⟩ := k
  exact ⟨ma, mc, ca, cc, e, h1.upd hu, h2.upd hu⟩
theorem MailAt.sub {w : World} {F G : List Nat} {m : Mail} {h : HMail} (k : MailAt w F m h) (hG : ∀ j ∈ G, j ∈ F) : MailAt w G m h := by
  obtain ⟨ma, mc, ca, cc, e, h1, h2⟩ := k
  exact ⟨ma, mc, ca, cc, e, h1.sub hG, h2.sub hG⟩
def Mails (W : World) (F : List Nat) : List Mail → List HMail → Prop
  | [], [] => True
  | m :: r, h :: t => MailAt W F m h ∧ Mails W F r t
  | _, _ => False
theorem Mails.upd {w w' : World} {F F' : List Nat} (hu : Upd F F' w w') : ∀ {L : List Mail} {H : List HMail}, Mails w F L H → Mails w' F' L H
  | [], [], _ => trivial
  | _ :: _, _ :: _, h => ⟨h.1.upd hu, Mails.upd hu h.2⟩
theorem Mails.below {w w' : World} {F : List Nat} {L : List Mail} {H : List HMail} (h : Mails w F L H) (hb : Below w.heap.size w w') : Mails w' F L H := Mails.upd (F := F) (F' := F) ⟨Mod.of_below hb _, fun _ hk => .inl hk⟩ h
theorem Mails.sub {w : World} {F G : List Nat} (hG : ∀ j ∈ G, j ∈ F) : ∀ {L : List Mail} {H : List HMail}, Mails w F L H → Mails w G L H
  | [], [], _ => trivial
  | _ :: _, _ :: _, h => ⟨h.1.sub hG, Mails.sub hG h.2⟩
theorem Mails.append {w : World} {F : List Nat} {L2 : List Mail} {H2 : List HMail} (h2 : Mails w F L2 H2) : ∀ {L : List Mail} {H : List HMail}, Mails w F L H → Mails w F (L ++ L2) (H ++ H2)
  | [], [], _ => h2
  | _ :: _, _ :: _, h => ⟨h.1, Mails.append h2 h.2⟩
theorem Mails.len {w : World} {F : List Nat} : ∀ {L : List Mail} {H : List HMail}, Mails w F L H → L.length = H.length
  | [], [], _ => rfl
  | _ :: _, _ :: _, h => by rw [List.length_cons, List.length_cons, Mails.len h.2]
theorem Mails.at {w : World} {F : List Nat} : ∀ {L : List Mail} {H : List HMail} {k : Nat}, Mails w F L H → ∀ (hl : k < L.length) (hh : k < H.length), MailAt w F L[k] H[k]
  | _ :: _, _ :: _, 0, h, _, _ => h.1
  | _ :: _, _ :: _, k + 1, h, hl, hh => Mails.at (k := k) h.2 (by simpa using hl) (by simpa using hh)

/-- what a hub notes -/
structure NoteK where
  op : Int
  client : ByteArray
  msg : Msg
def NoteK.note (k : NoteK) : Note := ⟨5, k.op, 0, k.client, pkZ, k.msg, ⟨#[]⟩, false, 0⟩
def notesK (l : List NoteK) : List Value := l.flatMap fun k => k.note.cells
theorem notesK_append (a b : List NoteK) : notesK a ++ notesK b = notesK (a ++ b) := by simp [notesK]
/-- a log, or none -/
def LogAt (w : World) (lv : Value) (ns : List NoteK) (G : List Nat) : Prop :=
  (lv = .pointer none ∧ G = []) ∨ ∃ lg v, lv = .pointer (some ⟨lg, 0, none⟩) ∧ w.heap[lg]? = some (.cells #[v, .int .i64 0] 124 (0, 0)) ∧ w.ownsRow 0 88 35 v ns.length (notesK ns) ∧ v.ownBlock ≠ some lg ∧ G = lg :: v.ownBlock.toList
theorem LogAt.lt {w : World} {lv : Value} {ns : List NoteK} {G : List Nat} (h : LogAt w lv ns G) : ∀ k ∈ G, k < w.heap.size := by
  rcases h with ⟨-, rfl⟩ | ⟨lg, v, -, h1, h2, -, rfl⟩
  · simp
  · intro k hk
    rcases List.mem_cons.1 hk with rfl | hk
    · exact (Array.getElem?_eq_some_iff.1 h1).1
    · exact (h2.lt k (Option.mem_toList.1 hk)).2
theorem LogAt.keep {w w' : World} {lv : Value} {ns : List NoteK} {G : List Nat} (h : LogAt w lv ns G) (hk : ∀ k ∈ G, w'.heap[k]? = w.heap[k]?) : LogAt w' lv ns G := by
  rcases h with h | ⟨lg, v, h0, h1, h2, h3, rfl⟩
  · exact .inl h
  · exact .inr ⟨lg, v, h0, (hk lg (by simp)).trans h1, ownsRow_local h2 fun k hk' => hk k (by simp [hk']), h3, rfl⟩
theorem LogAt.mod {S : List Nat} {w w' : World} {lv : Value} {ns : List NoteK} {G : List Nat} (h : LogAt w lv ns G) (hm : Mod S w w') (hS : ∀ k ∈ G, k ∉ S) : LogAt w' lv ns G := h.keep fun k hk => hm.block k (h.lt k hk) (hS k hk)

/-- A hub lies at block h, beside a log. -/
structure HbParts (w : World) (h t kg n k N : Nat) (s : HubS) (lv : Value) (ns : List NoteK) (Ft KF G : List Nat) : Prop where
  top : w.heap[h]? = some (.cells #[.pointer (some ⟨t, 0, none⟩), .pointer (some ⟨kg, 0, none⟩), .int .i64 n] 66 (0, 0))
  tr : HR k w t s.gs N Ft
  kp : KRep w kg s.kp KF
  lg : LogAt w lv ns G
  hT : h ∉ Ft
  hK : h ∉ KF
  hG : h ∉ G
  tK : ∀ j ∈ Ft, j ∉ KF
  tG : ∀ j ∈ Ft, j ∉ G
  kG : ∀ j ∈ KF, j ∉ G
def footH (h : Nat) (Ft KF G : List Nat) : List Nat := h :: (Ft ++ (KF ++ G))
theorem mem_footH {h k : Nat} {Ft KF G : List Nat} : k ∈ footH h Ft KF G ↔ k = h ∨ k ∈ Ft ∨ k ∈ KF ∨ k ∈ G := by simp [footH]
section
variable {w w' : World} {h t kg n k k' N N' : Nat} {s : HubS} {lv : Value} {ns : List NoteK} {Ft KF G Ft' KF' G' : List Nat}
theorem HbParts.lt (p : HbParts w h t kg n k N s lv ns Ft KF G) : ∀ j ∈ footH h Ft KF G, j < w.heap.size := by
  intro j hj
  rcases mem_footH.1 hj with rfl | hj | hj | hj
  · exact (Array.getElem?_eq_some_iff.1 p.top).1
  · exact p.tr.lt j hj
  · exact p.kp.lt j hj
  · exact p.lg.lt j hj
theorem HbParts.mod {S : List Nat} (p : HbParts w h t kg n k N s lv ns Ft KF G) (hm : Mod S w w') (hS : ∀ j ∈ footH h Ft KF G, j ∉ S) : HbParts w' h t kg n k N s lv ns Ft KF G :=
  ⟨(hm.block h (p.lt h (mem_footH.2 (.inl rfl))) (hS h (mem_footH.2 (.inl rfl)))).trans p.top, p.tr.mod hm fun j hj => hS j (mem_footH.2 (.inr (.inl hj))), p.kp.mod hm fun j hj => hS j (mem_footH.2 (.inr (.inr (.inl hj)))),
    p.lg.mod hm fun j hj => hS j (mem_footH.2 (.inr (.inr (.inr hj)))), p.hT, p.hK, p.hG, p.tK, p.tG, p.kG⟩
theorem fresh_not {B B' : List Nat} {j : Nat} (hj : j < w.heap.size) (hA : j ∉ B) (hu : ∀ j ∈ B', j ∈ B ∨ w.heap.size ≤ j) : j ∉ B' := fun h1 => by
  rcases hu j h1 with h2 | h2
  · exact hA h2
  · omega
/-- the trie is turned -/
theorem HbParts.trie {gs' : List Hint} (p : HbParts w h t kg n k N s lv ns Ft KF G) (hr : HR k' w' t gs' N' Ft') (hu : Upd Ft Ft' w w') :
    HbParts w' h t kg n k' N' ⟨gs', s.kp⟩ lv ns Ft' KF G ∧ Upd (footH h Ft KF G) (footH h Ft' KF G) w w' := by
  have hl := p.lt
  have hh : h < w.heap.size := hl h (mem_footH.2 (.inl rfl))
  refine ⟨⟨(hu.1.block h hh p.hT).trans p.top, hr, p.kp.mod hu.1 fun j hj hj' => p.tK j hj' hj, p.lg.mod hu.1 fun j hj hj' => p.tG j hj' hj, fresh_not hh p.hT hu.2, p.hK, p.hG, fun j hj hj' => ?_, fun j hj hj' => ?_, p.kG⟩, hu.1.mono fun j hj => mem_footH.2 (.inr (.inl hj)), fun j hj => ?_⟩
  · exact fresh_not (p.kp.lt j hj') (fun h1 => p.tK j h1 hj') hu.2 hj
  · exact fresh_not (p.lg.lt j hj') (fun h1 => p.tG j h1 hj') hu.2 hj
  · rcases mem_footH.1 hj with rfl | hj | hj | hj
    · exact .inl (mem_footH.2 (.inl rfl))
    · exact (hu.2 j hj).imp (fun h1 => mem_footH.2 (.inr (.inl h1))) id
    · exact .inl (mem_footH.2 (.inr (.inr (.inl hj))))
    · exact .inl (mem_footH.2 (.inr (.inr (.inr hj))))
/-- what is kept is turned -/
theorem HbParts.keep {kp' : List Msg} (p : HbParts w h t kg n k N s lv ns Ft KF G) (hr : KRep w' kg kp' KF') (hu : Upd KF KF' w w') :
    HbParts w' h t kg n k N ⟨s.gs, kp'⟩ lv ns Ft KF' G ∧ Upd (footH h Ft KF G) (footH h Ft KF' G) w w' := by
  have hl := p.lt
  have hh : h < w.heap.size := hl h (mem_footH.2 (.inl rfl))
  refine ⟨⟨(hu.1.block h hh p.hK).trans p.top, p.tr.mod hu.1 fun j hj hj' => p.tK j hj hj', hr, p.lg.mod hu.1 fun j hj hj' => p.kG j hj' hj, p.hT, fresh_not hh p.hK hu.2, p.hG, fun j hj hj' => ?_, p.tG, fun j hj hj' => ?_⟩, hu.1.mono fun j hj => mem_footH.2 (.inr (.inr (.inl hj))), fun j hj => ?_⟩
  · exact fresh_not (p.tr.lt j hj) (p.tK j hj) hu.2 hj'
  · exact fresh_not (p.lg.lt j hj') (fun h1 => p.kG j h1 hj') hu.2 hj
  · rcases mem_footH.1 hj with rfl | hj | hj | hj
    · exact .inl (mem_footH.2 (.inl rfl))
    · exact .inl (mem_footH.2 (.inr (.inl hj)))
    · exact (hu.2 j hj).imp (fun h1 => mem_footH.2 (.inr (.inr (.inl h1)))) id
    · exact .inl (mem_footH.2 (.inr (.inr (.inr hj))))
/-- a note more -/
theorem HbParts.log {ns' : List NoteK} (p : HbParts w h t kg n k N s lv ns Ft KF G) (hr : LogAt w' lv ns' G') (hu : Upd G G' w w') :
    HbParts w' h t kg n k N s lv ns' Ft KF G' ∧ Upd (footH h Ft KF G) (footH h Ft KF G') w w' := by
  have hl := p.lt
  have hh : h < w.heap.size := hl h (mem_footH.2 (.inl rfl))
  refine ⟨⟨(hu.1.block h hh p.hG).trans p.top, p.tr.mod hu.1 fun j hj hj' => p.tG j hj hj', p.kp.mod hu.1 fun j hj hj' => p.kG j hj hj', hr, p.hT, p.hK, fresh_not hh p.hG hu.2, p.tK, fun j hj hj' => ?_, fun j hj hj' => ?_⟩, hu.1.mono fun j hj => mem_footH.2 (.inr (.inr (.inr hj))), fun j hj => ?_⟩
  · exact fresh_not (p.tr.lt j hj) (p.tG j hj) hu.2 hj'
  · exact fresh_not (p.kp.lt j hj) (p.kG j hj) hu.2 hj'
  · rcases mem_footH.1 hj with rfl | hj | hj | hj
    · exact .inl (mem_footH.2 (.inl rfl))
    · exact .inl (mem_footH.2 (.inr (.inl hj)))
    · exact .inl (mem_footH.2 (.inr (.inr (.inl hj))))
    · exact (hu.2 j hj).imp (fun h1 => mem_footH.2 (.inr (.inr (.inr h1)))) id
end
/-- a hub of the call's own, beside a log: k bounds what was done -/
structure Hb (w0 w : World) (h n k : Nat) (s : HubS) (lv : Value) (ns : List NoteK) (F : List Nat) : Prop where
  p : ∃ t kg N Ft KF G, HbParts w h t kg n k N s lv ns Ft KF G ∧ F = footH h Ft KF G
  kl : s.kp.length ≤ k
  nl : ns.length ≤ k
  ok : ∀ m ∈ s.kp, m.t.size ≤ 300
  cl : ∀ g ∈ s.gs, g.2.length ≤ 300
  up : Up s.kp
  fF : ∀ j ∈ F, w0.heap.size ≤ j
  bel : Below w0.heap.size w0 w
theorem Hb.lt {w0 w : World} {h n k : Nat} {s : HubS} {lv : Value} {ns : List NoteK} {F : List Nat} (p : Hb w0 w h n k s lv ns F) : ∀ j ∈ F, j < w.heap.size := by
  obtain ⟨t, kg, N, Ft, KF, G, h1, rfl⟩ := p.p
  exact h1.lt
theorem lie_below {F F' : List Nat} {w w1 w2 : World} {B : Nat} (hb : Below B w w1) (hB : B ≤ w.heap.size) (hF : ∀ k ∈ F, B ≤ k) (hu : Upd F F' w1 w2) : Below B w w2 ∧ ∀ k ∈ F', B ≤ k :=
  ⟨hb.trans (hu.1.below (Nat.le_trans hB hb.size) hF), fun k hk => by
    rcases hu.2 k hk with h | h
    · exact hF k h
    · have := hb.size; omega⟩
theorem Hb.mod {w0 w w' : World} {h n k : Nat} {s : HubS} {lv : Value} {ns : List NoteK} {F S S' : List Nat} (p : Hb w0 w h n k s lv ns F) (hu : Upd S S' w w') (hd : ∀ j ∈ F, j ∉ S) (hS : ∀ j ∈ S, w0.heap.size ≤ j) : Hb w0 w' h n k s lv ns F := by
  obtain ⟨t, kg, N, Ft, KF, G, h1, rfl⟩ := p.p
  exact ⟨⟨t, kg, N, Ft, KF, G, h1.mod hu.1 hd, rfl⟩, p.kl, p.nl, p.ok, p.cl, p.up, p.fF, (lie_below p.bel (Nat.le_refl _) hS hu).1⟩
theorem Hb.below {w0 w w' : World} {h n k : Nat} {s : HubS} {lv : Value} {ns : List NoteK} {F : List Nat} (p : Hb w0 w h n k s lv ns F) (hb : Below w.heap.size w w') : Hb w0 w' h n k s lv ns F :=
  p.mod (S := []) (S' := []) ⟨Mod.of_below hb _, fun _ h => .inl h⟩ (by simp) (by simp)
theorem Hb.beside {w0 w : World} {h n k : Nat} {s : HubS} {lv : Value} {ns : List NoteK} {F : List Nat} (p : Hb w0 w h n k s lv ns F) {a : Option Addr} {xs : List Value} (hr : Row w0 a xs) : Beside w F a xs := Beside.base hr p.bel p.fF
end
section
open Go Go.RowKit

theorem setRow_new (w : World) (cs cs' : Array Value) (T : TypeId) : (w.alloc (.cells cs T)).setRow w.heap.size cs' = w.alloc (.cells cs' T) := by
  unfold World.setRow World.alloc
  congr 1
  apply Array.ext
  · simp
  · intro i h1 h2
    simp only [Array.getElem_modify, Array.getElem_push]
    simp only [Array.size_modify, Array.size_push] at h1
    by_cases e : w.heap.size = i
    · subst e; simp
    · rw [if_neg e]
      have : i < w.heap.size := by omega
      simp [this]
theorem wpList_store_newTo {P : Program} {ops : Array Oper} {rest : List Oper} {o : Oper} {a : Act} {w0 : World} {Q : Exit → Act → World → Prop} (hgd : o.guard = none) (ty : TypeId) (x y : Operand) (ho : o.op = .store ty x y)
    (hd : o.dst = none) (g : Nat) (hg : g = w0.heap.size) (cells old : Array Value) (hx : a.eval x = .pointer (some ⟨g, 0, none⟩)) (hy : a.eval y = .agg cells)
    (hi : (P.info? ty).map (·.size) = some cells.size) (hold : old.size = cells.size) (h1 : cells.all (·.oneCell') = true)
    (h : wpList P ops Q rest a (w0.alloc (.cells cells ty))) : wpList P ops Q (o :: rest) a (w0.alloc (.cells old ty)) := by
  subst hg
  refine wpList_store_rowTo hgd ty x y ho hd w0.heap.size cells hx hy ty old (heap_alloc_new w0 _) hi hold h1 ?_
  rw [setRow_new]
  exact h
theorem wpList_buildBy {P : Program} {ops : Array Oper} {rest : List Oper} {o : Oper} {a : Act} {w : World} {Q : Exit → Act → World → Prop} (hg : o.guard = none) (t : TypeId) (parts : Array (Nat × Operand)) (ho : o.op = .build t parts)
    (d : Option Tmp) (hd : o.dst = d) (cells : Array Value) (ps : List (Nat × Value)) (hps : (parts.map fun (i, x) => (i, a.eval x)).toList = ps) (hf : P.built t ps = some cells)
    (h : wpList P ops Q rest (a.put d (.agg cells)) w) : wpList P ops Q (o :: rest) a w :=
  wpList_buildTo hg t parts ho d hd cells (by rw [hps]; exact hf) h
/-- an operation that is wanted, guarded or not -/
theorem wpList_ask {P : Program} {ops : Array Oper} {rest : List Oper} {o : Oper} {a : Act} {w : World} {Q : Exit → Act → World → Prop} (hw : Region.wanted o (yielded ops a.tmps) = true)
    (h : ∀ K : Act → World → Prop, (∀ a w, wpList P ops Q rest a w → K a w) → o.wp P a w K Q) : wpList P ops Q (o :: rest) a w :=
  wpList_step fun K hK => by rw [if_pos hw]; exact h K hK
end
section
open Go Go.RowKit

theorem setCell_same {w : World} {b o : Nat} {cs : Array Value} {T : TypeId} {v : Value} (h : w.heap[b]? = some (.cells cs T (0, 0))) (hv : cs[o]? = some v) : w.setCell ⟨b, o, none⟩ v = w := by
  have h1 := heap_setCell_same w b o cs T v h
  have h2 : cs.setIfInBounds o v = cs := by
    apply Array.ext (by simp)
    intro i hi1 hi2
    rw [Array.getElem_setIfInBounds (by simpa using hi1)]
    split
    · rename_i e
      subst e
      rw [Array.getElem?_eq_getElem hi2] at hv
      exact (Option.some.inj hv).symm
    · rfl
  rw [h2] at h1
  have h3 : (w.setCell ⟨b, o, none⟩ v).heap = w.heap := by
    apply Array.ext (by simp [World.setCell])
    intro i hi1 hi2
    by_cases e : i = b
    · subst e
      have e1 := (Array.getElem?_eq_some_iff.1 h1)
      have e2 := (Array.getElem?_eq_some_iff.1 h)
      rw [e1.2, e2.2]
    · have := heap_setCell_other w ⟨b, o, none⟩ i v e
      rw [Array.getElem?_eq_getElem hi1, Array.getElem?_eq_getElem hi2] at this
      exact Option.some.inj this
  unfold World.setCell at *
  cases w
  simp only at h3 ⊢
  rw [h3]
theorem note_size (n : Note) : (Tryz.prog.info? 88).map (·.size) = some n.cells.toArray.size := by kernel_rfl
theorem note_one (n : Note) : n.cells.toArray.all (·.oneCell') = true := by simp [Note.cells, Pkt.cells, Msg.cells, Value.oneCell']
theorem item_size (x : Item) : (Tryz.prog.info? 36).map (·.size) = some x.cells.toArray.size := by kernel_rfl
theorem item_one (x : Item) : x.cells.toArray.all (·.oneCell') = true := by simp [Item.cells, Pkt.cells, Msg.cells, Value.oneCell']
theorem mail_size (m : Mail) : (Tryz.prog.info? 43).map (·.size) = some m.cells.toArray.size := by kernel_rfl
theorem mail_one (m : Mail) : m.cells.toArray.all (·.oneCell') = true := by simp [Mail.cells, Item.cells, Pkt.cells, Msg.cells, Value.oneCell']
set_option maxRecDepth 100000 in
theorem clone_nil (w : World) : Calls Tryz.prog 104 #[.slice none 0 0] w fun e w' => e = .returned (.slice none 0 0) ∧ w = w' := by
  have heq := fun w : World => Go.Lib.run_eql_slice_nil (P := Tryz.prog) w 29 147 none 0 0 0 0 Tryz.underlying29
  go_enter Tryz.func104, Tryz.ntmps104
  go_wp2_with fail
  go_ret
  exact ⟨rfl, rfl⟩
set_option maxRecDepth 100000 in
set_option maxHeartbeats 2000000 in
theorem own_any (n : Note) (w : World) (hn : n.pk.subsA = none) (hl : n.pk.subs = []) (hc : n.pk.subsC = 0) :
    Calls Tryz.prog 72 #[.agg n.cells.toArray] w fun e w' => e = .returned (.agg n.cells.toArray) ∧ Below w.heap.size w w' := by
  have HSZ := Lib.hid (note_size n)
  have HS35 := Lib.hid (show (35 : Nat) = n.cells.toArray.size from rfl)
  have HON := Lib.hid (note_one n)
  have HCL := Lib.hid clone_nil
  have H26 : Hid (n.cells.toArray[26]? = some (.slice none 0 0)) := Lib.hid (by
    show some (Value.slice n.pk.subsA n.pk.subs.length n.pk.subsC) = _
    rw [hn, hl, hc]; rfl)
  generalize n.cells.toArray = NC at *
  clear hn hl hc
  have HB1 : Hid (∀ o, ((w.alloc (.cells NC 88)).alloc o).heap[w.heap.size]? = some (.cells NC 88 (0, 0))) := Lib.hid (fun o => (Below.heap_alloc _ _ _ (by simp)).trans (heap_alloc_new w _))
  have c26 : ∀ o, ((w.alloc (.cells NC 88)).alloc o).cell? ⟨w.heap.size, 26, none⟩ = some (.slice none 0 0) := fun o => by
    rw [cell_of_row _ _ 26 _ _ _ (HB1.out o)]; exact H26.out
  have f26 : ∀ o, ((w.alloc (.cells NC 88)).alloc o).frozen? ⟨w.heap.size, 26, none⟩ = false := fun o => frozen_of_row _ _ 26 _ _ (HB1.out o)
  have s26 : ∀ o, ((w.alloc (.cells NC 88)).alloc o).setCell ⟨w.heap.size, 26, none⟩ (.slice none 0 0) = ((w.alloc (.cells NC 88)).alloc o) := fun o => setCell_same (HB1.out o) H26.out
  go_enter Tryz.func72, Tryz.ntmps72
  go_wp2_with (first
    | (refine wpList_load_row rfl 88 _ rfl w.heap.size rfl 88 NC _ _ (HB1.out _) Tryz.underlying88 rfl HSZ.out ?_)
    | fail)
  refine (HCL.out _).mono ?_
  rintro e w2 ⟨rfl, rfl⟩
  go_wp2_with (first
    | (refine wpList_load_row rfl 88 _ rfl w.heap.size rfl 88 NC _ _ (HB1.out _) Tryz.underlying88 rfl HSZ.out ?_)
    | (refine wpList_store_newTo rfl 88 _ _ rfl rfl (w.heap.size + 1) (by simp) NC _ rfl rfl HSZ.out HS35.out HON.out ?_)
    | fail)
  (try simp only [Exit.inBlock, Exit.then])
  refine bodyPost_ret (results_cell_row rfl _ _ (w.heap.size + 1) 88 NC (0, 0) _ rfl ?_ Tryz.underlying88 rfl HSZ.out) rfl ⟨rfl, ((Below.refl _ _).alloc (Nat.le_refl _) _).alloc (by simp) _⟩
  have := heap_alloc_new (w.alloc (.cells NC 88)) (.cells NC 88)
  simpa using this
end
end Go.Proofs.YthfdcphecggjeaaGreatDoor
