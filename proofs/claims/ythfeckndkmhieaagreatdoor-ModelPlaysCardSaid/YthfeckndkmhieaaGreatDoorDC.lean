/- The document's model (relayhouseref25): its row of sessions, how it lies in memory; Find walked. The document's model: Find walked. -/
import Derived.Test.YthfeckndkmhieaaGreatDoorQV
import Derived.Test.YthfeckndkmhieaaGreatDoorDS3
import Derived.Test.YthfeckndkmhieaaGreatDoorKRNo
namespace Go.Proofs.YthfeckndkmhieaaGreatDoor
section
open Go Go.RowKit Go.Maps

/-- The four cells of each session in the document's row; bl tells where each client's list lies. -/
def seatCells (bl : Str → Nat × List Nat) (x : Str × Seat) : List Value := [.string ⟨x.1.toArray⟩, .int .i64 x.2.conn, .bool x.2.clean, .pointer (some ⟨(bl x.1).1, 0, none⟩)]
def seatsV (bl : Str → Nat × List Nat) (st : Seats) : List Value := st.flatMap (seatCells bl)
theorem seatsV_length (bl : Str → Nat × List Nat) (st : Seats) : (seatsV bl st).length = st.length * 4 := by
  induction st with
  | nil => rfl
  | cons x r ih => simp only [seatsV, List.flatMap_cons, List.length_append] at ih ⊢; rw [ih]; simp [seatCells]; omega
theorem seatsV_at (bl : Str → Nat × List Nat) (st : Seats) (k : Nat) (x : Str × Seat) (h : st[k]? = some x) (j : Nat) (hj : j < 4) : (seatsV bl st)[k * 4 + j]? = (seatCells bl x)[j]? := by
  induction st generalizing k with
  | nil => simp at h
  | cons y r ih =>
    have hy : (seatCells bl y).length = 4 := rfl
    have e : seatsV bl (y :: r) = seatCells bl y ++ seatsV bl r := by simp [seatsV]
    rw [e]
    cases k with
    | zero =>
      obtain rfl : y = x := by simpa using h
      rw [List.getElem?_append_left (by omega)]; simp
    | succ k =>
      rw [List.getElem?_append_right (by omega), hy, show (k + 1) * 4 + j - 4 = k * 4 + j by omega]
      exact ih k (by simpa using h)
theorem seats_row {bl : Str → Nat × List Nat} {w : World} {a : Option Addr} {l : Seats} (h : Row w a (seatsV bl l)) {k : Nat} {x : Str × Seat} (hk : l[k]? = some x) :
    ∃ b off, a = some ⟨b, off, none⟩ ∧ w.cell? ⟨b, off + k * 4, none⟩ = some (.string ⟨x.1.toArray⟩) ∧ w.cell? ⟨b, off + k * 4 + 1, none⟩ = some (.int .i64 x.2.conn) ∧ w.cell? ⟨b, off + k * 4 + 2, none⟩ = some (.bool x.2.clean) ∧ w.cell? ⟨b, off + k * 4 + 3, none⟩ = some (.pointer (some ⟨(bl x.1).1, 0, none⟩)) := by
  have m0 := seatsV_at bl l k x hk 0 (by omega)
  have m1 := seatsV_at bl l k x hk 1 (by omega)
  have m2 := seatsV_at bl l k x hk 2 (by omega)
  have m3 := seatsV_at bl l k x hk 3 (by omega)
  rcases h with h | ⟨b, off, ha, hc⟩
  · rw [h] at m0; simp [seatCells] at m0
  · exact ⟨b, off, ha, hc _ _ m0, by rw [Nat.add_assoc]; exact hc _ _ m1, by rw [Nat.add_assoc]; exact hc _ _ m2, by rw [Nat.add_assoc]; exact hc _ _ m3⟩

def DSeat (w : World) (b : Nat) (s : Seat) (F : List Nat) : Prop := DRep w b s.l F
theorem dseat_local : Local DSeat where
  lt := fun h => drep_local.lt h
  keep := fun h => drep_local.keep h

/-- The document's model lies at block r. -/
structure DParts (w : World) (r kg : Nat) (v : Value) (KF : List Nat) (bl : Str → Nat × List Nat) (s : MS) : Prop where
  top : w.heap[r]? = some (.cells #[v, .pointer (some ⟨kg, 0, none⟩)] 63 (0, 0))
  row : w.ownsRow 0 91 4 v s.seats.length (seatsV bl s.seats)
  vr : v.ownBlock ≠ some r
  vK : ∀ k ∈ KF, v.ownBlock ≠ some k
  fam : Fam DSeat w (fun c => lookS c s.seats) bl
  kept : RRep w kg s.kept KF
  rK : r ∉ KF
  off : ∀ c x, lookS c s.seats = some x → ∀ k ∈ (bl c).2, k ≠ r ∧ v.ownBlock ≠ some k ∧ k ∉ KF
end
section
open Go Go.RowKit Go.Maps

def posS (c : Str) : Seats → Option Nat
  | [] => none
  | x :: r => if x.1 = c then some 0 else (posS c r).map (· + 1)
def findI (c : Str) (st : Seats) : Int := match posS c st with | some k => k | none => -1
theorem posS_some {c : Str} {st : Seats} {k : Nat} (h : posS c st = some k) : ∃ x, st[k]? = some x ∧ x.1 = c ∧ lookS c st = some x.2 := by
  induction st generalizing k with
  | nil => cases h
  | cons y r ih =>
    unfold posS at h
    rw [lookS_cons]
    by_cases hy : y.1 = c
    · rw [if_pos hy] at h ⊢
      obtain rfl := Option.some.inj h
      exact ⟨y, rfl, hy, rfl⟩
    · rw [if_neg hy] at h ⊢
      obtain ⟨j, hj, rfl⟩ := Option.map_eq_some_iff.1 h
      obtain ⟨x, h1, h2, h3⟩ := ih hj
      exact ⟨x, by simpa using h1, h2, h3⟩
theorem posS_none {c : Str} {st : Seats} : posS c st = none ↔ lookS c st = none := by
  induction st with
  | nil => simp [posS, lookS]
  | cons y r ih =>
    unfold posS
    rw [lookS_cons]
    by_cases hy : y.1 = c
    · simp [hy]
    · simp [hy, ih]
theorem posS_drop {c : Str} {l : Seats} {k : Nat} (hk : k < l.length) : posS c (l.drop k) = if l[k].1 = c then some 0 else (posS c (l.drop (k + 1))).map (· + 1) := by
  rw [List.drop_eq_getElem_cons hk]; rfl
set_option maxRecDepth 100000 in
set_option maxHeartbeats 2000000 in
theorem dfind_any (r : Nat) (c : Str) (l : Seats) (bl : Str → Nat × List Nat) (a : Option Addr) (cp : Nat) (w : World) (hc : w.cell? ⟨r, 0, none⟩ = some (.slice a l.length cp)) (hrow : Row w a (seatsV bl l)) (hl : l.length < 1000000) :
    Calls Tryz.prog 22 #[.pointer (some ⟨r, 0, none⟩), .string ⟨c.toArray⟩] w fun e w' => e = .returned (.int .i64 (findI c l)) ∧ w = w' := by
  have HR := Lib.hid hrow
  obtain ⟨z, hz⟩ : ∃ z, posS c l = z := ⟨_, rfl⟩
  have HZ := Lib.hid hz
  have HZ0 := Lib.hid (show posS c l = (posS c (l.drop 0)).map (· + 0) by simp)
  clear hrow hz
  go_enter Tryz.func22, Tryz.ntmps22
  go_wp2_with fail
  go_loopw [5] (fun i wr => ∃ k : Nat, i = .int .i64 k ∧ k ≤ l.length ∧ wr = w ∧ posS c l = (posS c (l.drop k)).map (· + k)) (fun i _ => (l.length - intOf i).toNat)
  case atStart => exact ⟨0, rfl, by omega, rfl, HZ0.out⟩
  case round =>
    obtain ⟨k, rfl, hk, rfl, htk⟩ := hrel
    have HTK := Lib.hid htk
    clear htk HZ HZ0
    by_cases hlt : k < l.length
    · obtain ⟨b1, o1, rfl, d0, -⟩ := seats_row HR.out (k := k) (x := l[k]) (by simp [hlt])
      have hk0 : (0 : Int) ≤ k := by omega
      have hkl : (k : Int) < l.length := by omega
      have HD := Lib.hid (posS_drop (c := c) hlt)
      generalize l[k].1 = yf at *
      by_cases he : yf = c
      · have hq : (yf == c) = true := by simpa using he
        have HF : Hid (findI c l = (k : Int)) := Lib.hid (by unfold findI; rw [HTK.out, HD.out, if_pos he]; simp)
        clear he
        go_wp2_with fail
        go_ret
        exact ⟨by rw [HF.out]; rfl, rfl⟩
      · have hq : (yf == c) = false := by simpa using he
        have HF : Hid (posS c l = (posS c (l.drop (k + 1))).map (· + (k + 1))) := Lib.hid (by
          rw [HTK.out, HD.out, if_neg he, Option.map_map]; congr 1; funext j; simp; omega)
        clear he
        go_wp2_with fail
        go_roundw
        case rel => exact ⟨k + 1, by go_num, by omega, trivial, HF.out⟩
        case measure => simp [intOf]; omega
    · have hkl : ¬ (k : Int) < l.length := by omega
      have HF : Hid (findI c l = -1) := Lib.hid (by unfold findI; rw [HTK.out, List.drop_eq_nil_of_le (by omega)]; rfl)
      go_wp2_with fail
      go_ret
      exact ⟨by rw [HF.out]; rfl, rfl⟩
end
end Go.Proofs.YthfeckndkmhieaaGreatDoor
