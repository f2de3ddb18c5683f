/- The characters with which bytes begin, and how many there are. No program in sight. -/
import Derived.Test.YtcnjgenacpkdbaaDoorLib
import Derived.Lib.DecodeN
import Derived.Lib.RuneCountTail
import Derived.Shelf.Unicode.DecodeSlow
namespace Go.Proofs.YtcnjgenacpkdbaaDoor
open Go Go.RowKit

/-- how many bytes the character has that n bytes with these four at their head begin with; 0: none -/
def cwN (n b0 b1 b2 b3 : Nat) : Nat :=
  if 1 ≤ b0 ∧ b0 < 128 then 1
  else if 194 ≤ b0 ∧ b0 < 224 ∧ 1 < n ∧ 128 ≤ b1 ∧ b1 < 192 then 2
  else if 224 ≤ b0 ∧ b0 < 240 ∧ 2 < n ∧ 128 ≤ b1 ∧ b1 < 192 ∧ 128 ≤ b2 ∧ b2 < 192 ∧ (b0 = 224 → 160 ≤ b1) ∧ (b0 = 237 → b1 < 160) then 3
  else if 240 ≤ b0 ∧ b0 < 245 ∧ 3 < n ∧ 128 ≤ b1 ∧ b1 < 192 ∧ 128 ≤ b2 ∧ b2 < 192 ∧ 128 ≤ b3 ∧ b3 < 192 ∧ (b0 = 240 → 144 ≤ b1) ∧ (b0 = 244 → b1 < 144) then 4
  else 0
/-- byte i of a list, as a number; 0 behind its end -/
def at0 (l : List UInt8) (i : Nat) : Nat := (l.getD i 0).toNat
theorem at0_lt (l : List UInt8) (i : Nat) : at0 l i < 256 := (l.getD i 0).toNat_lt
theorem at0_ge {l : List UInt8} {i : Nat} (h : l.length ≤ i) : at0 l i = 0 := by
  unfold at0; rw [List.getD_eq_getElem?_getD, List.getElem?_eq_none h]; rfl
theorem at0_drop (l : List UInt8) (p i : Nat) : at0 (l.drop p) i = at0 l (p + i) := by
  unfold at0; rw [List.getD_eq_getElem?_getD, List.getD_eq_getElem?_getD, List.getElem?_drop]
theorem at0_app_left {a b : List UInt8} {i : Nat} (h : i < a.length) : at0 (a ++ b) i = at0 a i := by
  unfold at0; rw [List.getD_eq_getElem?_getD, List.getD_eq_getElem?_getD, List.getElem?_append_left h]
theorem at0_app_right {a b : List UInt8} {i : Nat} (h : a.length ≤ i) : at0 (a ++ b) i = at0 b (i - a.length) := by
  unfold at0; rw [List.getD_eq_getElem?_getD, List.getD_eq_getElem?_getD, List.getElem?_append_right h]
theorem at0_get {l : List UInt8} {i : Nat} {x : UInt8} (h : l[i]? = some x) : at0 l i = x.toNat := by
  unfold at0; rw [List.getD_eq_getElem?_getD, h]; rfl

def cw (l : List UInt8) : Nat := cwN l.length (at0 l 0) (at0 l 1) (at0 l 2) (at0 l 3)
theorem cw_le (l : List UInt8) : cw l ≤ l.length := by
  have h0 := at0_ge (l := l) (i := 0)
  unfold cw cwN
  repeat' split
  all_goals omega
theorem cw_four (l : List UInt8) : cw l ≤ 4 := by
  unfold cw cwN
  repeat' split
  all_goals omega

def cntL : Nat → List UInt8 → Option Nat
  | 0, l => if l.isEmpty then some 0 else none
  | f + 1, l => if l.isEmpty then some 0 else if cw l = 0 then none else (cntL f (l.drop (cw l))).map (· + 1)
/-- how many characters bytes have; none: they are no text -/
def cnt (l : List UInt8) : Option Nat := cntL l.length l
theorem cntL_fuel (f : Nat) : ∀ (g : Nat) (l : List UInt8), l.length ≤ f → l.length ≤ g → cntL f l = cntL g l := by
  induction f with
  | zero =>
    intro g l hf _
    obtain rfl := List.eq_nil_of_length_eq_zero (Nat.le_zero.1 hf)
    cases g <;> rfl
  | succ f ih =>
    intro g l hf hg
    cases g with
    | zero =>
      obtain rfl := List.eq_nil_of_length_eq_zero (Nat.le_zero.1 hg)
      rfl
    | succ g =>
      unfold cntL
      split
      · rfl
      · split
        · rfl
        · rw [ih g (l.drop (cw l)) (by rw [List.length_drop]; omega) (by rw [List.length_drop]; omega)]
theorem cnt_nil : cnt [] = some 0 := rfl
theorem cnt_step {l : List UInt8} (h : l ≠ []) : cnt l = if cw l = 0 then none else (cnt (l.drop (cw l))).map (· + 1) := by
  obtain ⟨x, t, rfl⟩ := List.exists_cons_of_ne_nil h
  show cntL (t.length + 1) (x :: t) = _
  unfold cntL
  simp only [List.isEmpty_cons, Bool.false_eq_true, if_false]
  split
  · rfl
  · have hc := cw_le (x :: t)
    rw [cnt, cntL_fuel t.length _ _ (by rw [List.length_drop, List.length_cons]; omega) (Nat.le_refl _)]

set_option maxRecDepth 100000 in
set_option maxHeartbeats 4000000 in
/-- the model's decoder, by this -/
theorem decodeN_good (n b0 b1 b2 b3 : Nat) (h0 : b0 < 256) (h1 : b1 < 256) (h2 : b2 < 256) (h3 : b3 < 256) :
    (cwN n b0 b1 b2 b3 = 0 → (Lib.decodeN n b0 b1 b2 b3).1 = 0 ∨ ((Lib.decodeN n b0 b1 b2 b3).1 = 65533 ∧ (Lib.decodeN n b0 b1 b2 b3).2 = 1)) ∧
    (cwN n b0 b1 b2 b3 ≠ 0 → (Lib.decodeN n b0 b1 b2 b3).1 ≠ 0 ∧ (Lib.decodeN n b0 b1 b2 b3).2 = cwN n b0 b1 b2 b3 ∧ ((Lib.decodeN n b0 b1 b2 b3).1 = 65533 → 1 < (Lib.decodeN n b0 b1 b2 b3).2)) := by
  unfold cwN Lib.decodeN
  repeat' split
  all_goals first | (exfalso; omega) | (simp only []; omega) | (constructor <;> intro h <;> first | (exfalso; omega) | omega | (simp only [] at *; omega))
theorem get_at0 (s : ByteArray) (i : Nat) : (s.get! i).toNat = at0 s.data.toList i := by rw [at0, Lib.getD_get!']
theorem cw_decode (s : ByteArray) (p : Nat) :
    (cw (s.data.toList.drop p) = 0 → (Utf8.decode s p).1 = 0 ∨ ((Utf8.decode s p).1 = 65533 ∧ (Utf8.decode s p).2 = 1)) ∧
    (cw (s.data.toList.drop p) ≠ 0 → (Utf8.decode s p).1 ≠ 0 ∧ (Utf8.decode s p).2 = cw (s.data.toList.drop p) ∧ ((Utf8.decode s p).1 = 65533 → 1 < (Utf8.decode s p).2)) := by
  have hl : (s.data.toList.drop p).length = s.size - p := by rw [List.length_drop]; rfl
  rw [Lib.decode_at, get_at0, get_at0, get_at0, get_at0]
  have h := decodeN_good (s.size - p) (at0 s.data.toList p) (at0 s.data.toList (p + 1)) (at0 s.data.toList (p + 2)) (at0 s.data.toList (p + 3)) (at0_lt _ _) (at0_lt _ _) (at0_lt _ _) (at0_lt _ _)
  unfold cw
  rw [hl, at0_drop, at0_drop, at0_drop, at0_drop]
  exact h
theorem decode_small (s : ByteArray) (p : Nat) : (Utf8.decode s p).1 ≤ 1114111 ∧ (Utf8.decode s p).2 ≤ 4 ∧ 1 ≤ (Utf8.decode s p).2 := by
  have h0 := (s.get! p).toNat_lt
  rw [Lib.decode_at]
  unfold Lib.decodeN
  repeat' split
  all_goals (simp only []; omega)
/-- the decoder at what is left -/
theorem decodeGo_tail (s : ByteArray) (p : Nat) (h : p < s.size) : Lib.decodeGo (s.extract p s.size) = Utf8.decode s p := by
  unfold Lib.decodeGo
  rw [if_neg (by rw [Lib.tail_size]; omega), Lib.tail_decode, Nat.add_zero]
/-- what Count answers -/
def cntI (l : List UInt8) : Int := if 65535 < l.length then -1 else match cnt l with
  | none => -1
  | some n => n
theorem cntI_long {l : List UInt8} (h : 65535 < l.length) : cntI l = -1 := by rw [cntI, if_pos h]
theorem cntI_none {l : List UInt8} (h : cnt l = none) : cntI l = -1 := by rw [cntI, h]; split <;> rfl
theorem cntI_some {l : List UInt8} {n : Nat} (h : ¬ 65535 < l.length) (hc : cnt l = some n) : cntI l = n := by rw [cntI, if_neg h, hc]
/-- a row of bytes of which p are gone through, in k characters -/
theorem cnt_at {l : List UInt8} {p k : Nat} (h : cnt l = (cnt (l.drop p)).map (· + k)) (hp : p < l.length) :
    (cw (l.drop p) = 0 → cnt l = none) ∧ (cw (l.drop p) ≠ 0 → cnt l = (cnt (l.drop (p + cw (l.drop p)))).map (· + (k + 1))) := by
  have hne : l.drop p ≠ [] := by intro e; have := congrArg List.length e; rw [List.length_drop] at this; simp at this; omega
  rw [cnt_step hne] at h
  constructor
  · intro h0; rw [h, if_pos h0]; rfl
  · intro h0
    rw [h, if_neg h0, List.drop_drop]
    cases cnt (l.drop (p + cw (l.drop p))) with
    | none => rfl
    | some m => simp; omega
end Go.Proofs.YtcnjgenacpkdbaaDoor
