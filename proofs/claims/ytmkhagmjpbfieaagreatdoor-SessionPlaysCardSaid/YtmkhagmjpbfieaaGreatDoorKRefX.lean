/- The characters with which bytes begin, and how many there are. No program in sight. What lies where Go's start laid it: utf8's two tables, bytealg's bound. text.Count and text.Valid, by the plain count of characters. The reference's count of characters. The reference's character, by the plain width. (Printed by gen_char.py.) The fields of texts and of any bytes: the program's calls and the reference's, by plain functions. -/
import Derived.Test.YtmkhagmjpbfieaaGreatDoorLib
import Derived.Lib.DecodeN
import Derived.Lib.RuneCountTail
import Derived.Shelf.Unicode.DecodeSlow
import Derived.Test.YtmkhagmjpbfieaaGreatDoorRows
import Derived.Test.YtmkhagmjpbfieaaGreatDoorShelf
import Derived.Lib.OthersKept
namespace Go.Proofs.YtmkhagmjpbfieaaGreatDoor
section
open Go Go.RowKit

/-- how many bytes the character has that n bytes with these four at their head begin with; 0: none -/
def cwN (n b0 b1 b2 b3 : Nat) : Nat :=
  if 1 ≤ b0 ∧ b0 < 128 then 1
  else if 194 ≤ b0 ∧ b0 < 224 ∧ 1 < n ∧ 128 ≤ b1 ∧ b1 < 192 then 2
  else if 224 ≤ b0 ∧ b0 < 240 ∧ 2 < n ∧ 128 ≤ b1 ∧ b1 < 192 ∧ 128 ≤ b2 ∧ b2 < 192 ∧ (b0 = 224 → 160 ≤ b1) ∧ (b0 = 237 → b1 < 160) then 3
  else if 240 ≤ b0 ∧ b0 < 245 ∧ 3 < n ∧ 128 ≤ b1 ∧ b1 < 192 ∧ 128 ≤ b2 ∧ b2 < 192 ∧ 128 ≤ b3 ∧ b3 < 192 ∧ (b0 = 240 → 144 ≤ b1) ∧ (b0 = 244 → b1 < 144) then 4
  else 0
/-- byte i of a list, as a number; 0 behind its end -/
def at0 (l : List UInt8) (i : Nat) : Nat := (l.getD i 0).toNat
theorem at0_lt (l : List UInt8) (i : Nat) : at0 l i < 256 := (l.getD i 0).toNat_lt
theorem at0_ge {l : List UInt8} {i : Nat} (h : l.length ≤ i) : at0 l i = 0 := by
  unfold at0; rw [List.getD_eq_getElem?_getD, List.getElem?_eq_none h]; rfl
theorem at0_drop (l : List UInt8) (p i : Nat) : at0 (l.drop p) i = at0 l (p + i) := by
  unfold at0; rw [List.getD_eq_getElem?_getD, List.getD_eq_getElem?_getD, List.getElem?_drop]
theorem at0_get {l : List UInt8} {i : Nat} {x : UInt8} (h : l[i]? = some x) : at0 l i = x.toNat := by
  unfold at0; rw [List.getD_eq_getElem?_getD, h]; rfl

def cw (l : List UInt8) : Nat := cwN l.length (at0 l 0) (at0 l 1) (at0 l 2) (at0 l 3)
theorem cw_le (l : List UInt8) : cw l ≤ l.length := by
  have h0 := at0_ge (l := l) (i := 0)
  unfold cw cwN
  repeat' split
  all_goals omega
def cntL : Nat → List UInt8 → Option Nat
  | 0, l => if l.isEmpty then some 0 else none
  | f + 1, l => if l.isEmpty then some 0 else if cw l = 0 then none else (cntL f (l.drop (cw l))).map (· + 1)
/-- how many characters bytes have; none: they are no text -/
def cnt (l : List UInt8) : Option Nat := cntL l.length l
theorem cntL_fuel (f : Nat) : ∀ (g : Nat) (l : List UInt8), l.length ≤ f → l.length ≤ g → cntL f l = cntL g l := by
  induction f with
  | zero =>
    intro g l hf _
    obtain rfl := List.eq_nil_of_length_eq_zero (Nat.le_zero.1 hf)
    cases g <;> rfl
  | succ f ih =>
    intro g l hf hg
    cases g with
    | zero =>
      obtain rfl := List.eq_nil_of_length_eq_zero (Nat.le_zero.1 hg)
      rfl
    | succ g =>
      unfold cntL
      split
      · rfl
      · split
        · rfl
        · rw [ih g (l.drop (cw l)) (by rw [List.length_drop]; omega) (by rw [List.length_drop]; omega)]
theorem cnt_nil : cnt [] = some 0 := rfl
theorem cnt_step {l : List UInt8} (h : l ≠ []) : cnt l = if cw l = 0 then none else (cnt (l.drop (cw l))).map (· + 1) := by
  obtain ⟨x, t, rfl⟩ := List.exists_cons_of_ne_nil h
  show cntL (t.length + 1) (x :: t) = _
  unfold cntL
  simp only [List.isEmpty_cons, Bool.false_eq_true, if_false]
  split
  · rfl
  · have hc := cw_le (x :: t)
    rw [cnt, cntL_fuel t.length _ _ (by rw [List.length_drop, List.length_cons]; omega) (Nat.le_refl _)]

set_option maxRecDepth 100000 in
set_option maxHeartbeats 4000000 in
/-- the model's decoder, by this -/
theorem decodeN_good (n b0 b1 b2 b3 : Nat) (h0 : b0 < 256) (h1 : b1 < 256) (h2 : b2 < 256) (h3 : b3 < 256) :
    (cwN n b0 b1 b2 b3 = 0 → (Lib.decodeN n b0 b1 b2 b3).1 = 0 ∨ ((Lib.decodeN n b0 b1 b2 b3).1 = 65533 ∧ (Lib.decodeN n b0 b1 b2 b3).2 = 1)) ∧
    (cwN n b0 b1 b2 b3 ≠ 0 → (Lib.decodeN n b0 b1 b2 b3).1 ≠ 0 ∧ (Lib.decodeN n b0 b1 b2 b3).2 = cwN n b0 b1 b2 b3 ∧ ((Lib.decodeN n b0 b1 b2 b3).1 = 65533 → 1 < (Lib.decodeN n b0 b1 b2 b3).2)) := by
  unfold cwN Lib.decodeN
  repeat' split
  all_goals first | (exfalso; omega) | (simp only []; omega) | (constructor <;> intro h <;> first | (exfalso; omega) | omega | (simp only [] at *; omega))
theorem get_at0 (s : ByteArray) (i : Nat) : (s.get! i).toNat = at0 s.data.toList i := by rw [at0, Lib.getD_get!']
theorem cw_decode (s : ByteArray) (p : Nat) :
    (cw (s.data.toList.drop p) = 0 → (Utf8.decode s p).1 = 0 ∨ ((Utf8.decode s p).1 = 65533 ∧ (Utf8.decode s p).2 = 1)) ∧
    (cw (s.data.toList.drop p) ≠ 0 → (Utf8.decode s p).1 ≠ 0 ∧ (Utf8.decode s p).2 = cw (s.data.toList.drop p) ∧ ((Utf8.decode s p).1 = 65533 → 1 < (Utf8.decode s p).2)) := by
  have hl : (s.data.toList.drop p).length = s.size - p := by rw [List.length_drop]; rfl
  rw [Lib.decode_at, get_at0, get_at0, get_at0, get_at0]
  have h := decodeN_good (s.size - p) (at0 s.data.toList p) (at0 s.data.toList (p + 1)) (at0 s.data.toList (p + 2)) (at0 s.data.toList (p + 3)) (at0_lt _ _) (at0_lt _ _) (at0_lt _ _) (at0_lt _ _)
  unfold cw
  rw [hl, at0_drop, at0_drop, at0_drop, at0_drop]
  exact h
theorem decode_small (s : ByteArray) (p : Nat) : (Utf8.decode s p).1 ≤ 1114111 ∧ (Utf8.decode s p).2 ≤ 4 ∧ 1 ≤ (Utf8.decode s p).2 := by
  have h0 := (s.get! p).toNat_lt
  rw [Lib.decode_at]
  unfold Lib.decodeN
  repeat' split
  all_goals (simp only []; omega)
/-- the decoder at what is left -/
theorem decodeGo_tail (s : ByteArray) (p : Nat) (h : p < s.size) : Lib.decodeGo (s.extract p s.size) = Utf8.decode s p := by
  unfold Lib.decodeGo
  rw [if_neg (by rw [Lib.tail_size]; omega), Lib.tail_decode, Nat.add_zero]
/-- what Count answers -/
def cntI (l : List UInt8) : Int := if 65535 < l.length then -1 else match cnt l with
  | none => -1
  | some n => n
theorem cntI_long {l : List UInt8} (h : 65535 < l.length) : cntI l = -1 := by rw [cntI, if_pos h]
theorem cntI_none {l : List UInt8} (h : cnt l = none) : cntI l = -1 := by rw [cntI, h]; split <;> rfl
theorem cntI_some {l : List UInt8} {n : Nat} (h : ¬ 65535 < l.length) (hc : cnt l = some n) : cntI l = n := by rw [cntI, if_neg h, hc]
/-- a row of bytes of which p are gone through, in k characters -/
theorem cnt_at {l : List UInt8} {p k : Nat} (h : cnt l = (cnt (l.drop p)).map (· + k)) (hp : p < l.length) :
    (cw (l.drop p) = 0 → cnt l = none) ∧ (cw (l.drop p) ≠ 0 → cnt l = (cnt (l.drop (p + cw (l.drop p)))).map (· + (k + 1))) := by
  have hne : l.drop p ≠ [] := by intro e; have := congrArg List.length e; rw [List.length_drop] at this; simp at this; omega
  rw [cnt_step hne] at h
  constructor
  · intro h0; rw [h, if_pos h0]; rfl
  · intro h0
    rw [h, if_neg h0, List.drop_drop]
    cases cnt (l.drop (p + cw (l.drop p))) with
    | none => rfl
    | some m => simp; omega
end
section
open Go Go.RowKit Go.Lib

/-- Go's two tables, and a number, lie where they lie. -/
def Tabs (w : World) : Prop := Lib.Utf8Tabs 2 3 w ∧ ∃ m : Int, w.cell? ⟨1, 0, none⟩ = some (.int .i64 m)
theorem Tabs.below {w w' : World} (h : Tabs w) (hb : Below w.heap.size w w') : Tabs w' := by
  refine ⟨Utf8Tabs_below h.1 hb, ?_⟩
  obtain ⟨m, hm⟩ := h.2
  exact ⟨m, by rw [hb.cell (p := ⟨1, 0, none⟩) (World.block_lt_of_cell? w _ hm)]; exact hm⟩
/-- bytes of a string -/
theorem drop_cons_get (s : ByteArray) (k : Nat) (h : k < s.size) : s.data.toList.drop k = s[k] :: s.data.toList.drop (k + 1) :=
  List.drop_eq_getElem_cons (by simpa using h)
theorem byte_lt (c : UInt8) : (c.toNat : Int) < 256 := by have := c.toNat_lt; omega
theorem bget (s : ByteArray) (k : Nat) (h : k < s.size) : s.data.toList[k]? = some s[k] := by
  rw [List.getElem?_eq_getElem (by simpa using h)]; rfl
end
section
open Go Go.RowKit Go.Lib

theorem whole_any (s : ByteArray) (w : World) (hT : Tabs w) :
    Calls Tryz.prog 140 #[.string s] w fun e w' => e = .returned (.bool (decide (1 < (Lib.decodeGo s).2))) ∧ Below w.heap.size w w' := by
  obtain ⟨R, hR⟩ : ∃ R, (Lib.decodeGo s).1 = R := ⟨_, rfl⟩
  obtain ⟨K, hK⟩ : ∃ K, (Lib.decodeGo s).2 = K := ⟨_, rfl⟩
  have cS := Tryz.utf8_DecodeRuneInString s w hT.1
  rw [hR, hK] at cS
  rw [hK]
  have HC := Lib.hid cS
  clear cS hR hK
  go_enter Tryz.func140, Tryz.ntmps140
  go_wp2_with fail
  refine HC.out.mono ?_
  rintro e w' ⟨rfl, hb⟩
  go_wp2_with fail
  go_ret
  exact ⟨ret_bool (decide_eq_decide.2 (by omega)), hb⟩

theorem whole_at (b : Bool) (s : ByteArray) (p : Nat) (w : World) (hT : Tabs w) (hp : p < s.size) (hb : decide (1 < (Utf8.decode s p).2) = b) :
    Calls Tryz.prog 140 #[.string (s.extract p s.size)] w fun e w' => e = .returned (.bool b) ∧ Below w.heap.size w w' := by
  rw [← hb, ← decodeGo_tail s p hp]
  exact whole_any _ w hT
theorem below_at' {w w' : World} {p : Nat} {x : Obj} (h : w.heap[p]? = some x) (hk : Below w.heap.size w w') : w'.heap[p]? = some x := by
  rw [hk.block p (Array.getElem?_eq_some_iff.1 h).1]; exact h
def leftAt (it n : Nat) (w : World) : Nat := match w.heap[it]? with
  | some (.stringIter _ p) => n - p
  | _ => 0
theorem leftAt_of {it n p : Nat} {w : World} {s : ByteArray} (h : w.heap[it]? = some (.stringIter s p)) : leftAt it n w = n - p := by rw [leftAt, h]

set_option maxRecDepth 100000 in
set_option maxHeartbeats 4000000 in
theorem count_any (s : ByteArray) (w : World) (hT : Tabs w) (hbig : s.size ≤ 9223372036854775807) :
    Calls Tryz.prog 117 #[.string s] w fun e w' => e = .returned (.int .i64 (cntI s.data.toList)) ∧ Below w.heap.size w w' := by
  have hlen : s.data.toList.length = s.size := rfl
  by_cases hlong : 65535 < s.size
  · have HL := Lib.hid (cntI_long (l := s.data.toList) (by omega))
    have hl' : (65535 : Int) < s.size := by omega
    go_enter Tryz.func117, Tryz.ntmps117
    go_wp2_with fail
    go_ret
    exact ⟨by rw [HL.out]; rfl, Below.refl _ _⟩
  have hl' : ¬ (65535 : Int) < s.size := by omega
  have hl'' : decide ((65535 : Int) < s.size) = false := decide_eq_false hl'
  have HT := Lib.hid hT
  clear hT
  go_enter Tryz.func117, Tryz.ntmps117
  go_wp2_with fail
  generalize hit : w.heap.size = it
  have hi0 : (w.iter s 0).heap[it]? = some (.stringIter s 0) := by rw [← hit]; exact World.iter_heap w s 0
  have hb0 : Below it w (w.iter s 0) := by rw [← hit]; exact (Below.refl _ _).alloc (Nat.le_refl _) _
  go_loopw [3] (fun n wr => ∃ k p : Nat, n = .int .i64 k ∧ k ≤ p ∧ p ≤ s.size ∧ wr.heap[it]? = some (.stringIter s p) ∧ Below it w wr ∧ Hid (cnt s.data.toList = (cnt (s.data.toList.drop p)).map (· + k))) (fun _ wr => leftAt it s.size wr)
  case atStart => exact ⟨0, 0, rfl, Nat.le_refl _, Nat.zero_le _, hi0, hb0, by unfold Hid; rw [List.drop_zero]; cases cnt s.data.toList <;> rfl⟩
  case round =>
    obtain ⟨k, p, rfl, hkp, hp, hi, hb, HN⟩ := hrel
    clear hi0 hb0
    by_cases hlt : p < s.size
    · have hnx := fun ty => run_next_any_at (P := Tryz.prog) wr it s p ty hi hlt
      have hd := cw_decode s p
      have hsm := decode_small s p
      have hat := cnt_at HN.out (by omega)
      have hi2 := iterAt_heap wr it s p (p + (Utf8.decode s p).2) hi
      have hb2 := below_iterAt hb (Nat.le_refl it) s (p + (Utf8.decode s p).2)
      have hT2 : Tabs (wr.iterAt it s (p + (Utf8.decode s p).2)) := HT.out.below (by rw [hit]; exact hb2)
      have hw := fun b => whole_at b s p _ hT2 hlt
      have hm0 : leftAt it s.size wr = s.size - p := leftAt_of hi
      have hcl := cw_le (s.data.toList.drop p)
      rw [List.length_drop, hlen] at hcl
      generalize (Utf8.decode s p).1 = c at *
      generalize (Utf8.decode s p).2 = K at *
      generalize wr.iterAt it s (p + K) = W2 at *
      have hp0 : (0 : Int) ≤ p := by omega
      have hps : (p : Int) ≤ s.size := by omega
      by_cases hc : cw (s.data.toList.drop p) = 0
      · have HF := Lib.hid (cntI_none (hat.1 hc))
        clear hat
        rcases hd.1 hc with rfl | ⟨rfl, rfl⟩
        · clear hd hc hw
          go_wp2_with fail
          go_ret
          exact ⟨by rw [HF.out]; rfl, by rw [hit]; exact hb2⟩
        · clear hd hc
          have HW := Lib.hid (hw false rfl)
          clear hw
          go_wp2_with fail
          refine HW.out.mono ?_
          rintro e w6 ⟨rfl, hk⟩
          have hb3 := bnext hb2 (by have := hb.size; have h2 := (Array.getElem?_eq_some_iff.1 hi2).1; omega) hk
          go_wp2_with fail
          go_ret
          exact ⟨by rw [HF.out]; rfl, by rw [hit]; exact hb3⟩
      · obtain ⟨hc0, rfl, hcw⟩ := hd.2 hc
        have HF := Lib.hid (hat.2 hc)
        clear hat hd
        generalize cw (s.data.toList.drop p) = m at *
        by_cases hcr : c = 65533
        · subst hcr
          have HW := Lib.hid (hw true (decide_eq_true (hcw rfl)))
          clear hw
          go_wp2_with fail
          refine HW.out.mono ?_
          rintro e w6 ⟨rfl, hk⟩
          have hi3 := below_at' hi2 hk
          have hb3 := bnext hb2 (by have := hb.size; have h2 := (Array.getElem?_eq_some_iff.1 hi2).1; omega) hk
          have hm1 : leftAt it s.size w6 = s.size - (p + m) := leftAt_of hi3
          go_wp2_with fail
          go_roundw
          case rel => exact ⟨k + 1, p + m, by go_num, by omega, by omega, hi3, hb3, HF⟩
          case measure => rw [hm0, hm1]; omega
        · have hc0b : ((c : Int) == 0) = false := by simp [hc0]
          have hcrb : ((c : Int) == 65533) = false := by simp; omega
          have hm1 : leftAt it s.size W2 = s.size - (p + m) := leftAt_of hi2
          go_wp2_with fail
          go_roundw
          case rel => exact ⟨k + 1, p + m, by go_num, by omega, by omega, hi2, hb2, HF⟩
          case measure => rw [hm0, hm1]; omega
    · have hnx := fun ty => run_next_end_at (P := Tryz.prog) wr it s p ty hi hlt
      have HF := Lib.hid (cntI_some (l := s.data.toList) (n := k) (by omega) (by rw [HN.out, List.drop_eq_nil_of_le (by omega), cnt_nil]; simp))
      go_wp2_with fail
      go_ret
      exact ⟨by rw [HF.out]; rfl, by rw [hit]; exact hb⟩
/-- are the bytes a text? -/
def validI (l : List UInt8) : Bool := decide (0 ≤ cntI l)
theorem valid_any (s : ByteArray) (w : World) (hT : Tabs w) (hbig : s.size ≤ 9223372036854775807) :
    Calls Tryz.prog 92 #[.string s] w fun e w' => e = .returned (.bool (validI s.data.toList)) ∧ Below w.heap.size w w' := by
  have HC := Lib.hid (count_any s w hT hbig)
  obtain ⟨n, hn⟩ : ∃ n, cntI s.data.toList = n := ⟨_, rfl⟩
  rw [validI]
  rw [hn] at HC ⊢
  go_enter Tryz.func92, Tryz.ntmps92
  go_wp2_with fail
  refine HC.out.mono ?_
  rintro e w' ⟨rfl, hb⟩
  go_wp2_with fail
  go_ret
  exact ⟨rfl, hb⟩
end
section
open Go Go.RowKit Go.Lib

/-- how many bytes the character has that begins with a byte, by the reference -/
def szN (b : Nat) : Int := if b < 128 then 1 else if b < 192 then 0 else if b < 224 then 2 else if b < 240 then 3 else if b < 248 then 4 else 0
theorem size_any (b : Nat) (n : Int) (w : World) (hb : b < 256) (hn : szN b = n) :
    Calls Tryz.prog 161 #[.int .u8 (b : Int)] w fun e w' => e = .returned (.int .i64 n) ∧ w = w' := by
  subst hn
  unfold szN
  by_cases h1 : b < 128
  · rw [if_pos h1]
    have h1' : (b : Int) < 128 := by omega
    go_enter Tryz.func161, Tryz.ntmps161
    go_wp2_with fail
    go_ret
    exact ⟨rfl, rfl⟩
  rw [if_neg h1]
  by_cases h2 : b < 192
  · rw [if_pos h2]
    have h1' : ¬ (b : Int) < 128 := by omega
    have h2' : ¬ (192 : Int) ≤ b := by omega
    have h3' : ¬ (224 : Int) ≤ b := by omega
    have h4' : ¬ (240 : Int) ≤ b := by omega
    go_enter Tryz.func161, Tryz.ntmps161
    go_wp2_with fail
    go_ret
    exact ⟨rfl, rfl⟩
  rw [if_neg h2]
  have h1' : ¬ (b : Int) < 128 := by omega
  have h2' : (192 : Int) ≤ b := by omega
  by_cases h3 : b < 224
  · rw [if_pos h3]
    have h3' : (b : Int) < 224 := by omega
    go_enter Tryz.func161, Tryz.ntmps161
    go_wp2_with fail
    go_ret
    exact ⟨rfl, rfl⟩
  rw [if_neg h3]
  have h3' : ¬ (b : Int) < 224 := by omega
  have h4' : (224 : Int) ≤ b := by omega
  by_cases h4 : b < 240
  · rw [if_pos h4]
    have h5' : (b : Int) < 240 := by omega
    go_enter Tryz.func161, Tryz.ntmps161
    go_wp2_with fail
    go_ret
    exact ⟨rfl, rfl⟩
  rw [if_neg h4]
  have h5' : ¬ (b : Int) < 240 := by omega
  have h6' : (240 : Int) ≤ b := by omega
  by_cases h5 : b < 248
  · rw [if_pos h5]
    have h7' : (b : Int) < 248 := by omega
    go_enter Tryz.func161, Tryz.ntmps161
    go_wp2_with fail
    go_ret
    exact ⟨rfl, rfl⟩
  · rw [if_neg h5]
    have h7' : ¬ (b : Int) < 248 := by omega
    go_enter Tryz.func161, Tryz.ntmps161
    go_wp2_with fail
    go_ret
    exact ⟨rfl, rfl⟩

def leastN (n : Nat) : Int := if n = 1 then 1 else if n = 2 then 128 else if n = 3 then 2048 else 65536
theorem least_any (n : Nat) (w : World) (h1 : 1 ≤ n) (h4 : n ≤ 4) :
    Calls Tryz.prog 162 #[.int .i64 (n : Int)] w fun e w' => e = .returned (.int .i64 (leastN n)) ∧ Below w.heap.size w w' := by
  rcases (by omega : n = 1 ∨ n = 2 ∨ n = 3 ∨ n = 4) with rfl | rfl | rfl | rfl
  all_goals
    go_enter Tryz.func162, Tryz.ntmps162
    go_wp2_with fail
    go_ret
    exact ⟨rfl, (Below.refl _ _).alloc (Nat.le_refl _) _⟩
end
section
open Go Go.RowKit

theorem least_at (n : Nat) (m : Int) (w : World) (h1 : 1 ≤ n) (h4 : n ≤ 4) (hm : leastN n = m) :
    Calls Tryz.prog 162 #[.int .i64 (n : Int)] w fun e w' => e = .returned (.int .i64 m) ∧ Below w.heap.size w w' := by
  subst hm; exact least_any n w h1 h4
theorem get_nat (s : ByteArray) (i : Nat) (h : i < s.size) : (s[i]'h).toNat = at0 s.data.toList i := (at0_get (bget s i h)).symm
theorem cw_of (s : ByteArray) : cw s.data.toList = cwN s.size (at0 s.data.toList 0) (at0 s.data.toList 1) (at0 s.data.toList 2) (at0 s.data.toList 3) := rfl
def okC (m x : Int) : Prop := m ≤ x ∧ x ≤ 1114111 ∧ ¬ (55296 ≤ x ∧ x ≤ 57343)
theorem cw_sz0 (n b0 b1 b2 b3 : Nat) (h : szN b0 = 0) (hb : b0 < 256) : cwN n b0 b1 b2 b3 = 0 := by
  unfold szN at h
  unfold cwN
  repeat' split at h
  all_goals first | omega | ((repeat' split) <;> omega)
theorem cw_short (n b0 b1 b2 b3 : Nat) (h : (n : Int) < szN b0) (hn : 0 < n) : cwN n b0 b1 b2 b3 = 0 := by
  unfold szN at h
  unfold cwN
  repeat' split at h
  all_goals first | omega | ((repeat' split) <;> omega)
theorem cw_1 (n b0 b1 b2 b3 : Nat) (h : szN b0 = 1) : (1 ≤ b0 → cwN n b0 b1 b2 b3 = 1) ∧ (b0 = 0 → cwN n b0 b1 b2 b3 = 0) ∧ b0 < 128 := by
  unfold szN at h
  unfold cwN
  repeat' split at h
  all_goals first | omega | ((repeat' split) <;> omega)
set_option maxHeartbeats 4000000 in
theorem cw_2 (n b0 b1 b2 b3 : Nat) (h : szN b0 = 2) (hn : (2 : Int) ≤ n) (c1 : 128 ≤ b1 ∧ b1 ≤ 191) : (okC 128 (64 * ((b0 : Int) - 192) + (b1 : Int) - 128) → cwN n b0 b1 b2 b3 = 2) ∧ (¬ okC 128 (64 * ((b0 : Int) - 192) + (b1 : Int) - 128) → cwN n b0 b1 b2 b3 = 0) := by
  unfold szN at h
  have hb : 192 ≤ b0 ∧ b0 < 224 := by
    repeat' split at h
    all_goals omega
  unfold okC cwN
  constructor <;> intro hc <;> (repeat' split) <;> omega
theorem cw_2_no1 (n b0 b1 b2 b3 : Nat) (h : szN b0 = 2) (c : ¬ (128 ≤ b1 ∧ b1 ≤ 191)) : cwN n b0 b1 b2 b3 = 0 := by
  unfold szN at h
  unfold cwN
  repeat' split at h
  all_goals first | omega | ((repeat' split) <;> omega)
set_option maxHeartbeats 4000000 in
theorem cw_3 (n b0 b1 b2 b3 : Nat) (h : szN b0 = 3) (hn : (3 : Int) ≤ n) (c1 : 128 ≤ b1 ∧ b1 ≤ 191) (c2 : 128 ≤ b2 ∧ b2 ≤ 191) : (okC 2048 (64 * (64 * ((b0 : Int) - 224) + (b1 : Int) - 128) + (b2 : Int) - 128) → cwN n b0 b1 b2 b3 = 3) ∧ (¬ okC 2048 (64 * (64 * ((b0 : Int) - 224) + (b1 : Int) - 128) + (b2 : Int) - 128) → cwN n b0 b1 b2 b3 = 0) := by
  unfold szN at h
  have hb : 224 ≤ b0 ∧ b0 < 240 := by
    repeat' split at h
    all_goals omega
  unfold okC cwN
  constructor <;> intro hc <;> (repeat' split) <;> omega
theorem cw_3_no1 (n b0 b1 b2 b3 : Nat) (h : szN b0 = 3) (c : ¬ (128 ≤ b1 ∧ b1 ≤ 191)) : cwN n b0 b1 b2 b3 = 0 := by
  unfold szN at h
  unfold cwN
  repeat' split at h
  all_goals first | omega | ((repeat' split) <;> omega)
theorem cw_3_no2 (n b0 b1 b2 b3 : Nat) (h : szN b0 = 3) (c : ¬ (128 ≤ b2 ∧ b2 ≤ 191)) : cwN n b0 b1 b2 b3 = 0 := by
  unfold szN at h
  unfold cwN
  repeat' split at h
  all_goals first | omega | ((repeat' split) <;> omega)
set_option maxHeartbeats 4000000 in
theorem cw_4 (n b0 b1 b2 b3 : Nat) (h : szN b0 = 4) (hn : (4 : Int) ≤ n) (c1 : 128 ≤ b1 ∧ b1 ≤ 191) (c2 : 128 ≤ b2 ∧ b2 ≤ 191) (c3 : 128 ≤ b3 ∧ b3 ≤ 191) : (okC 65536 (64 * (64 * (64 * ((b0 : Int) - 240) + (b1 : Int) - 128) + (b2 : Int) - 128) + (b3 : Int) - 128) → cwN n b0 b1 b2 b3 = 4) ∧ (¬ okC 65536 (64 * (64 * (64 * ((b0 : Int) - 240) + (b1 : Int) - 128) + (b2 : Int) - 128) + (b3 : Int) - 128) → cwN n b0 b1 b2 b3 = 0) := by
  unfold szN at h
  have hb : 240 ≤ b0 ∧ b0 < 248 := by
    repeat' split at h
    all_goals omega
  unfold okC cwN
  constructor <;> intro hc <;> (repeat' split) <;> omega
theorem cw_4_no1 (n b0 b1 b2 b3 : Nat) (h : szN b0 = 4) (c : ¬ (128 ≤ b1 ∧ b1 ≤ 191)) : cwN n b0 b1 b2 b3 = 0 := by
  unfold szN at h
  unfold cwN
  repeat' split at h
  all_goals first | omega | ((repeat' split) <;> omega)
theorem cw_4_no2 (n b0 b1 b2 b3 : Nat) (h : szN b0 = 4) (c : ¬ (128 ≤ b2 ∧ b2 ≤ 191)) : cwN n b0 b1 b2 b3 = 0 := by
  unfold szN at h
  unfold cwN
  repeat' split at h
  all_goals first | omega | ((repeat' split) <;> omega)
theorem cw_4_no3 (n b0 b1 b2 b3 : Nat) (h : szN b0 = 4) (c : ¬ (128 ≤ b3 ∧ b3 ≤ 191)) : cwN n b0 b1 b2 b3 = 0 := by
  unfold szN at h
  unfold cwN
  repeat' split at h
  all_goals first | omega | ((repeat' split) <;> omega)

set_option maxRecDepth 100000 in
set_option maxHeartbeats 4000000 in
theorem character_any (s : ByteArray) (w : World) (hs : 0 < s.size) (hbig : s.size ≤ 9223372036854775807) :
    Calls Tryz.prog 146 #[.string s] w fun e w' => ∃ c, e = .returned (.tuple #[.int .i64 c, .int .i64 (cw s.data.toList : Int)]) ∧ Below w.heap.size w w' := by
  have hs' : (0 : Int) < s.size := by omega
  have e0 := get_nat s 0 hs
  have HW := Lib.hid (cw_of s)
  have hb0 := at0_lt s.data.toList 0
  have hb1 := at0_lt s.data.toList 1
  have hb2 := at0_lt s.data.toList 2
  have hb3 := at0_lt s.data.toList 3
  have g1 := get_nat s 1
  have g2 := get_nat s 2
  have g3 := get_nat s 3
  generalize cw s.data.toList = R at *
  generalize at0 s.data.toList 0 = b0 at *
  generalize at0 s.data.toList 1 = b1 at *
  generalize at0 s.data.toList 2 = b2 at *
  generalize at0 s.data.toList 3 = b3 at *
  obtain ⟨sz, hsz⟩ : ∃ z, szN b0 = z := ⟨_, rfl⟩
  have hcase : sz = 0 ∨ sz = 1 ∨ sz = 2 ∨ sz = 3 ∨ sz = 4 := by
    rw [← hsz]; unfold szN; (repeat' split) <;> omega
  have HS := Lib.hid hsz
  clear hsz
  by_cases hz : sz = 0
  · subst hz
    have HR := Lib.hid (HW.out.trans (cw_sz0 _ _ _ _ _ HS.out hb0))
    clear g1 g2 g3
    go_enter Tryz.func146, Tryz.ntmps146
    go_wp2_with fail
    refine (size_any b0 0 _ hb0 HS.out).mono ?_
    rintro e w' ⟨rfl, rfl⟩
    go_wp2_with fail
    go_ret2
    first | exact ⟨0, by rw [HR.out]; rfl, Below.refl _ _⟩ | exact ⟨⟨0, by rw [HR.out]; rfl⟩, Below.refl _ _⟩
  have hzb : (sz == 0) = false := by simp [hz]
  by_cases hsh : (s.size : Int) < sz
  · have HR := Lib.hid (HW.out.trans (cw_short _ _ _ _ _ (by rw [HS.out]; exact hsh) hs))
    clear g1 g2 g3
    go_enter Tryz.func146, Tryz.ntmps146
    go_wp2_with fail
    refine (size_any b0 sz _ hb0 HS.out).mono ?_
    rintro e w' ⟨rfl, rfl⟩
    go_wp2_with fail
    go_ret2
    first | exact ⟨0, by rw [HR.out]; rfl, Below.refl _ _⟩ | exact ⟨⟨0, by rw [HR.out]; rfl⟩, Below.refl _ _⟩
  have hshd : decide ((s.size : Int) < sz) = false := decide_eq_false hsh
  rcases hcase with rfl | rfl | rfl | rfl | rfl
  · exact absurd rfl hz
  · have HC := Lib.hid (cw_1 s.size b0 b1 b2 b3 HS.out)
    have hb128 := HC.out.2.2
    clear g1 g2 g3
    by_cases h0 : b0 = 0
    · have HR := Lib.hid (HW.out.trans (HC.out.2.1 h0))
      subst h0
      go_enter Tryz.func146, Tryz.ntmps146
      go_wp2_with fail
      refine (size_any 0 1 _ hb0 HS.out).mono ?_
      rintro e w' ⟨rfl, rfl⟩
      go_wp2_with fail
      go_loopw [5, 6] (fun c i wr => c = .int .i64 0 ∧ i = .int .i64 1 ∧ Below w.heap.size w wr) (fun _ _ _ => 0)
      case atStart => exact ⟨rfl, rfl, Below.refl _ _⟩
      case round =>
        obtain ⟨rfl, rfl, hb⟩ := hrel
        go_wp2_with fail
        refine (least_at 1 1 _ (by omega) (by omega) rfl).mono ?_
        rintro e w' ⟨rfl, hk⟩
        replace hb := bnext hb (Nat.le_refl _) hk
        go_wp2_with fail
        go_ret2
        first | exact ⟨0, by rw [HR.out]; rfl, hb⟩ | exact ⟨⟨0, by rw [HR.out]; rfl⟩, hb⟩
    · have HR := Lib.hid (HW.out.trans (HC.out.1 (by omega)))
      obtain ⟨x, hx⟩ : ∃ x : Int, (b0 : Int) = x := ⟨_, rfl⟩
      have h1 : ¬ x < 1 := by omega
      have h2 : ¬ (1114111 : Int) < x := by omega
      have h3 : ¬ (55296 : Int) ≤ x := by omega
      have h4 : IntKind.i64.wrap x = x := w_i64 _ (by omega) (by omega)
      have hsz1 := fun w => size_any b0 1 w hb0 HS.out
      rw [hx] at hsz1
      clear h0 HC
      go_enter Tryz.func146, Tryz.ntmps146
      go_wp2_with fail
      refine (hsz1 _).mono ?_
      rintro e w' ⟨rfl, rfl⟩
      clear hsz1
      go_wp2_with fail
      go_loopw [5, 6] (fun c i wr => c = .int .i64 x ∧ i = .int .i64 1 ∧ Below w.heap.size w wr) (fun _ _ _ => 0)
      case atStart => exact ⟨rfl, rfl, Below.refl _ _⟩
      case round =>
        obtain ⟨rfl, rfl, hb⟩ := hrel
        go_wp2_with fail
        refine (least_at 1 1 _ (by omega) (by omega) rfl).mono ?_
        rintro e w' ⟨rfl, hk⟩
        replace hb := bnext hb (Nat.le_refl _) hk
        go_wp2_with fail
        go_ret2
        first | exact ⟨x, by rw [HR.out]; rfl, hb⟩ | exact ⟨⟨x, by rw [HR.out]; rfl⟩, hb⟩
  · have hlo : 192 ≤ b0 ∧ b0 < 224 := by
      have h := HS.out
      unfold szN at h
      repeat' split at h
      all_goals omega
    have e1 := g1 (by omega)
    have l1 : (1 : Int) < s.size := by omega
    clear g1 g2 g3
    have hw0 : IntKind.i64.wrap ((b0 : Int) - 192) = (b0 : Int) - 192 := w_i64 _ (by omega) (by omega)
    go_enter Tryz.func146, Tryz.ntmps146
    go_wp2_with fail
    refine (size_any b0 2 _ hb0 HS.out).mono ?_
    rintro e w' ⟨rfl, rfl⟩
    go_wp2_with fail
    go_loopw [5, 6] (fun c i wr => ∃ (k : Nat) (x : Int), c = .int .i64 x ∧ i = .int .i64 k ∧ ((k = 1 ∧ x = ((b0 : Int) - 192)) ∨ (k = 2 ∧ (128 ≤ b1 ∧ b1 ≤ 191) ∧ x = (64 * ((b0 : Int) - 192) + (b1 : Int) - 128))) ∧ Below w.heap.size w wr) (fun _ i _ => (2 - intOf i).toNat)
    case atStart => exact ⟨1, _, rfl, rfl, .inl ⟨rfl, rfl⟩, (Below.refl _ _).alloc (Nat.le_refl _) _⟩
    case round =>
      obtain ⟨k, x, rfl, rfl, hpre, hb⟩ := hrel
      rcases hpre with ⟨rfl, hx⟩ | ⟨rfl, d1, hx⟩
      · by_cases c1 : b1 < 128
        · have c1' : (b1 : Int) < 128 := by omega
          have HR := Lib.hid (HW.out.trans (cw_2_no1 _ _ _ _ _ HS.out (by omega)))
          clear hx
          go_wp2_with fail
          go_ret2
          first | exact ⟨0, by rw [HR.out]; rfl, hb⟩ | exact ⟨⟨0, by rw [HR.out]; rfl⟩, hb⟩
        · have c1' : ¬ (b1 : Int) < 128 := by omega
          by_cases c2 : 191 < b1
          · have c2' : (191 : Int) < b1 := by omega
            have HR := Lib.hid (HW.out.trans (cw_2_no1 _ _ _ _ _ HS.out (by omega)))
            clear hx
            go_wp2_with fail
            go_ret2
            first | exact ⟨0, by rw [HR.out]; rfl, hb⟩ | exact ⟨⟨0, by rw [HR.out]; rfl⟩, hb⟩
          · have c2' : ¬ (191 : Int) < b1 := by omega
            have hw1 : IntKind.i64.wrap (64 * x) = 64 * x := w_i64 _ (by omega) (by omega)
            have hw2 : IntKind.i64.wrap (64 * x + b1) = 64 * x + b1 := w_i64 _ (by omega) (by omega)
            have hw3 : IntKind.i64.wrap (64 * x + b1 - 128) = 64 * x + b1 - 128 := w_i64 _ (by omega) (by omega)
            have hw4 : IntKind.i64.wrap (b1 : Int) = (b1 : Int) := w_i64 _ (by omega) (by omega)
            have HX := Lib.hid hx
            clear hx
            go_wp2_with fail
            go_roundw
            case rel => exact ⟨2, _, rfl, rfl, by have := HX.out; omega, hb⟩
            case measure => simp [intOf]
      · have HC := Lib.hid (cw_2 s.size b0 b1 b2 b3 HS.out (by omega) d1)
        rw [← hx] at HC
        have hxr : -1000000 ≤ x ∧ x ≤ 100000000 := by omega
        clear hx
        have hq : x < 128 ∨ (¬ x < 128 ∧ 1114111 < x) ∨ (¬ x < 128 ∧ ¬ 1114111 < x ∧ 55296 ≤ x ∧ x ≤ 57343) ∨ (¬ x < 128 ∧ ¬ 1114111 < x ∧ 55296 ≤ x ∧ ¬ x ≤ 57343) ∨ (¬ x < 128 ∧ ¬ 1114111 < x ∧ ¬ 55296 ≤ x) := by omega
        rcases hq with p1 | ⟨p1, p2⟩ | ⟨p1, p2, p3, p4⟩ | ⟨p1, p2, p3, p4⟩ | ⟨p1, p2, p3⟩
        · have HR := Lib.hid (HW.out.trans (HC.out.2 (fun h => by have := h.1; omega)))
          clear HC
          go_wp2_with fail
          refine (least_at 2 128 _ (by omega) (by omega) rfl).mono ?_
          rintro e w' ⟨rfl, hk⟩
          replace hb := bnext hb (Nat.le_refl _) hk
          go_wp2_with fail
          go_ret2
          first | exact ⟨_, by rw [HR.out]; rfl, hb⟩ | exact ⟨⟨_, by rw [HR.out]; rfl⟩, hb⟩
        · have HR := Lib.hid (HW.out.trans (HC.out.2 (fun h => by have := h.2.1; omega)))
          clear HC
          go_wp2_with fail
          refine (least_at 2 128 _ (by omega) (by omega) rfl).mono ?_
          rintro e w' ⟨rfl, hk⟩
          replace hb := bnext hb (Nat.le_refl _) hk
          go_wp2_with fail
          go_ret2
          first | exact ⟨_, by rw [HR.out]; rfl, hb⟩ | exact ⟨⟨_, by rw [HR.out]; rfl⟩, hb⟩
        · have HR := Lib.hid (HW.out.trans (HC.out.2 (fun h => h.2.2 ⟨p3, p4⟩)))
          clear HC
          go_wp2_with fail
          refine (least_at 2 128 _ (by omega) (by omega) rfl).mono ?_
          rintro e w' ⟨rfl, hk⟩
          replace hb := bnext hb (Nat.le_refl _) hk
          go_wp2_with fail
          go_ret2
          first | exact ⟨_, by rw [HR.out]; rfl, hb⟩ | exact ⟨⟨_, by rw [HR.out]; rfl⟩, hb⟩
        · have HR := Lib.hid (HW.out.trans (HC.out.1 ⟨by omega, by omega, by omega⟩))
          clear HC
          go_wp2_with fail
          refine (least_at 2 128 _ (by omega) (by omega) rfl).mono ?_
          rintro e w' ⟨rfl, hk⟩
          replace hb := bnext hb (Nat.le_refl _) hk
          go_wp2_with fail
          go_ret2
          first | exact ⟨_, by rw [HR.out]; rfl, hb⟩ | exact ⟨⟨_, by rw [HR.out]; rfl⟩, hb⟩
        · have HR := Lib.hid (HW.out.trans (HC.out.1 ⟨by omega, by omega, by omega⟩))
          clear HC
          go_wp2_with fail
          refine (least_at 2 128 _ (by omega) (by omega) rfl).mono ?_
          rintro e w' ⟨rfl, hk⟩
          replace hb := bnext hb (Nat.le_refl _) hk
          go_wp2_with fail
          go_ret2
          first | exact ⟨_, by rw [HR.out]; rfl, hb⟩ | exact ⟨⟨_, by rw [HR.out]; rfl⟩, hb⟩
  · have hlo : 224 ≤ b0 ∧ b0 < 240 := by
      have h := HS.out
      unfold szN at h
      repeat' split at h
      all_goals omega
    have e1 := g1 (by omega)
    have l1 : (1 : Int) < s.size := by omega
    have e2 := g2 (by omega)
    have l2 : (2 : Int) < s.size := by omega
    clear g1 g2 g3
    have hw0 : IntKind.i64.wrap ((b0 : Int) - 224) = (b0 : Int) - 224 := w_i64 _ (by omega) (by omega)
    go_enter Tryz.func146, Tryz.ntmps146
    go_wp2_with fail
    refine (size_any b0 3 _ hb0 HS.out).mono ?_
    rintro e w' ⟨rfl, rfl⟩
    go_wp2_with fail
    go_loopw [5, 6] (fun c i wr => ∃ (k : Nat) (x : Int), c = .int .i64 x ∧ i = .int .i64 k ∧ ((k = 1 ∧ x = ((b0 : Int) - 224)) ∨ (k = 2 ∧ (128 ≤ b1 ∧ b1 ≤ 191) ∧ x = (64 * ((b0 : Int) - 224) + (b1 : Int) - 128)) ∨ (k = 3 ∧ (128 ≤ b1 ∧ b1 ≤ 191) ∧ (128 ≤ b2 ∧ b2 ≤ 191) ∧ x = (64 * (64 * ((b0 : Int) - 224) + (b1 : Int) - 128) + (b2 : Int) - 128))) ∧ Below w.heap.size w wr) (fun _ i _ => (3 - intOf i).toNat)
    case atStart => exact ⟨1, _, rfl, rfl, .inl ⟨rfl, rfl⟩, (Below.refl _ _).alloc (Nat.le_refl _) _⟩
    case round =>
      obtain ⟨k, x, rfl, rfl, hpre, hb⟩ := hrel
      rcases hpre with ⟨rfl, hx⟩ | ⟨rfl, d1, hx⟩ | ⟨rfl, d1, d2, hx⟩
      · by_cases c1 : b1 < 128
        · have c1' : (b1 : Int) < 128 := by omega
          have HR := Lib.hid (HW.out.trans (cw_3_no1 _ _ _ _ _ HS.out (by omega)))
          clear hx
          go_wp2_with fail
          go_ret2
          first | exact ⟨0, by rw [HR.out]; rfl, hb⟩ | exact ⟨⟨0, by rw [HR.out]; rfl⟩, hb⟩
        · have c1' : ¬ (b1 : Int) < 128 := by omega
          by_cases c2 : 191 < b1
          · have c2' : (191 : Int) < b1 := by omega
            have HR := Lib.hid (HW.out.trans (cw_3_no1 _ _ _ _ _ HS.out (by omega)))
            clear hx
            go_wp2_with fail
            go_ret2
            first | exact ⟨0, by rw [HR.out]; rfl, hb⟩ | exact ⟨⟨0, by rw [HR.out]; rfl⟩, hb⟩
          · have c2' : ¬ (191 : Int) < b1 := by omega
            have hw1 : IntKind.i64.wrap (64 * x) = 64 * x := w_i64 _ (by omega) (by omega)
            have hw2 : IntKind.i64.wrap (64 * x + b1) = 64 * x + b1 := w_i64 _ (by omega) (by omega)
            have hw3 : IntKind.i64.wrap (64 * x + b1 - 128) = 64 * x + b1 - 128 := w_i64 _ (by omega) (by omega)
            have hw4 : IntKind.i64.wrap (b1 : Int) = (b1 : Int) := w_i64 _ (by omega) (by omega)
            have HX := Lib.hid hx
            clear hx
            go_wp2_with fail
            go_roundw
            case rel => exact ⟨2, _, rfl, rfl, by have := HX.out; omega, hb⟩
            case measure => simp [intOf]
      · by_cases c1 : b2 < 128
        · have c1' : (b2 : Int) < 128 := by omega
          have HR := Lib.hid (HW.out.trans (cw_3_no2 _ _ _ _ _ HS.out (by omega)))
          clear hx
          go_wp2_with fail
          go_ret2
          first | exact ⟨0, by rw [HR.out]; rfl, hb⟩ | exact ⟨⟨0, by rw [HR.out]; rfl⟩, hb⟩
        · have c1' : ¬ (b2 : Int) < 128 := by omega
          by_cases c2 : 191 < b2
          · have c2' : (191 : Int) < b2 := by omega
            have HR := Lib.hid (HW.out.trans (cw_3_no2 _ _ _ _ _ HS.out (by omega)))
            clear hx
            go_wp2_with fail
            go_ret2
            first | exact ⟨0, by rw [HR.out]; rfl, hb⟩ | exact ⟨⟨0, by rw [HR.out]; rfl⟩, hb⟩
          · have c2' : ¬ (191 : Int) < b2 := by omega
            have hw1 : IntKind.i64.wrap (64 * x) = 64 * x := w_i64 _ (by omega) (by omega)
            have hw2 : IntKind.i64.wrap (64 * x + b2) = 64 * x + b2 := w_i64 _ (by omega) (by omega)
            have hw3 : IntKind.i64.wrap (64 * x + b2 - 128) = 64 * x + b2 - 128 := w_i64 _ (by omega) (by omega)
            have hw4 : IntKind.i64.wrap (b2 : Int) = (b2 : Int) := w_i64 _ (by omega) (by omega)
            have HX := Lib.hid hx
            clear hx
            go_wp2_with fail
            go_roundw
            case rel => exact ⟨3, _, rfl, rfl, by have := HX.out; omega, hb⟩
            case measure => simp [intOf]
      · have HC := Lib.hid (cw_3 s.size b0 b1 b2 b3 HS.out (by omega) d1 d2)
        rw [← hx] at HC
        have hxr : -1000000 ≤ x ∧ x ≤ 100000000 := by omega
        clear hx
        have hq : x < 2048 ∨ (¬ x < 2048 ∧ 1114111 < x) ∨ (¬ x < 2048 ∧ ¬ 1114111 < x ∧ 55296 ≤ x ∧ x ≤ 57343) ∨ (¬ x < 2048 ∧ ¬ 1114111 < x ∧ 55296 ≤ x ∧ ¬ x ≤ 57343) ∨ (¬ x < 2048 ∧ ¬ 1114111 < x ∧ ¬ 55296 ≤ x) := by omega
        rcases hq with p1 | ⟨p1, p2⟩ | ⟨p1, p2, p3, p4⟩ | ⟨p1, p2, p3, p4⟩ | ⟨p1, p2, p3⟩
        · have HR := Lib.hid (HW.out.trans (HC.out.2 (fun h => by have := h.1; omega)))
          clear HC
          go_wp2_with fail
          refine (least_at 3 2048 _ (by omega) (by omega) rfl).mono ?_
          rintro e w' ⟨rfl, hk⟩
          replace hb := bnext hb (Nat.le_refl _) hk
          go_wp2_with fail
          go_ret2
          first | exact ⟨_, by rw [HR.out]; rfl, hb⟩ | exact ⟨⟨_, by rw [HR.out]; rfl⟩, hb⟩
        · have HR := Lib.hid (HW.out.trans (HC.out.2 (fun h => by have := h.2.1; omega)))
          clear HC
          go_wp2_with fail
          refine (least_at 3 2048 _ (by omega) (by omega) rfl).mono ?_
          rintro e w' ⟨rfl, hk⟩
          replace hb := bnext hb (Nat.le_refl _) hk
          go_wp2_with fail
          go_ret2
          first | exact ⟨_, by rw [HR.out]; rfl, hb⟩ | exact ⟨⟨_, by rw [HR.out]; rfl⟩, hb⟩
        · have HR := Lib.hid (HW.out.trans (HC.out.2 (fun h => h.2.2 ⟨p3, p4⟩)))
          clear HC
          go_wp2_with fail
          refine (least_at 3 2048 _ (by omega) (by omega) rfl).mono ?_
          rintro e w' ⟨rfl, hk⟩
          replace hb := bnext hb (Nat.le_refl _) hk
          go_wp2_with fail
          go_ret2
          first | exact ⟨_, by rw [HR.out]; rfl, hb⟩ | exact ⟨⟨_, by rw [HR.out]; rfl⟩, hb⟩
        · have HR := Lib.hid (HW.out.trans (HC.out.1 ⟨by omega, by omega, by omega⟩))
          clear HC
          go_wp2_with fail
          refine (least_at 3 2048 _ (by omega) (by omega) rfl).mono ?_
          rintro e w' ⟨rfl, hk⟩
          replace hb := bnext hb (Nat.le_refl _) hk
          go_wp2_with fail
          go_ret2
          first | exact ⟨_, by rw [HR.out]; rfl, hb⟩ | exact ⟨⟨_, by rw [HR.out]; rfl⟩, hb⟩
        · have HR := Lib.hid (HW.out.trans (HC.out.1 ⟨by omega, by omega, by omega⟩))
          clear HC
          go_wp2_with fail
          refine (least_at 3 2048 _ (by omega) (by omega) rfl).mono ?_
          rintro e w' ⟨rfl, hk⟩
          replace hb := bnext hb (Nat.le_refl _) hk
          go_wp2_with fail
          go_ret2
          first | exact ⟨_, by rw [HR.out]; rfl, hb⟩ | exact ⟨⟨_, by rw [HR.out]; rfl⟩, hb⟩
  · have hlo : 240 ≤ b0 ∧ b0 < 248 := by
      have h := HS.out
      unfold szN at h
      repeat' split at h
      all_goals omega
    have e1 := g1 (by omega)
    have l1 : (1 : Int) < s.size := by omega
    have e2 := g2 (by omega)
    have l2 : (2 : Int) < s.size := by omega
    have e3 := g3 (by omega)
    have l3 : (3 : Int) < s.size := by omega
    clear g1 g2 g3
    have hw0 : IntKind.i64.wrap ((b0 : Int) - 240) = (b0 : Int) - 240 := w_i64 _ (by omega) (by omega)
    go_enter Tryz.func146, Tryz.ntmps146
    go_wp2_with fail
    refine (size_any b0 4 _ hb0 HS.out).mono ?_
    rintro e w' ⟨rfl, rfl⟩
    go_wp2_with fail
    go_loopw [5, 6] (fun c i wr => ∃ (k : Nat) (x : Int), c = .int .i64 x ∧ i = .int .i64 k ∧ ((k = 1 ∧ x = ((b0 : Int) - 240)) ∨ (k = 2 ∧ (128 ≤ b1 ∧ b1 ≤ 191) ∧ x = (64 * ((b0 : Int) - 240) + (b1 : Int) - 128)) ∨ (k = 3 ∧ (128 ≤ b1 ∧ b1 ≤ 191) ∧ (128 ≤ b2 ∧ b2 ≤ 191) ∧ x = (64 * (64 * ((b0 : Int) - 240) + (b1 : Int) - 128) + (b2 : Int) - 128)) ∨ (k = 4 ∧ (128 ≤ b1 ∧ b1 ≤ 191) ∧ (128 ≤ b2 ∧ b2 ≤ 191) ∧ (128 ≤ b3 ∧ b3 ≤ 191) ∧ x = (64 * (64 * (64 * ((b0 : Int) - 240) + (b1 : Int) - 128) + (b2 : Int) - 128) + (b3 : Int) - 128))) ∧ Below w.heap.size w wr) (fun _ i _ => (4 - intOf i).toNat)
    case atStart => exact ⟨1, _, rfl, rfl, .inl ⟨rfl, rfl⟩, (Below.refl _ _).alloc (Nat.le_refl _) _⟩
    case round =>
      obtain ⟨k, x, rfl, rfl, hpre, hb⟩ := hrel
      rcases hpre with ⟨rfl, hx⟩ | ⟨rfl, d1, hx⟩ | ⟨rfl, d1, d2, hx⟩ | ⟨rfl, d1, d2, d3, hx⟩
      · by_cases c1 : b1 < 128
        · have c1' : (b1 : Int) < 128 := by omega
          have HR := Lib.hid (HW.out.trans (cw_4_no1 _ _ _ _ _ HS.out (by omega)))
          clear hx
          go_wp2_with fail
          go_ret2
          first | exact ⟨0, by rw [HR.out]; rfl, hb⟩ | exact ⟨⟨0, by rw [HR.out]; rfl⟩, hb⟩
        · have c1' : ¬ (b1 : Int) < 128 := by omega
          by_cases c2 : 191 < b1
          · have c2' : (191 : Int) < b1 := by omega
            have HR := Lib.hid (HW.out.trans (cw_4_no1 _ _ _ _ _ HS.out (by omega)))
            clear hx
            go_wp2_with fail
            go_ret2
            first | exact ⟨0, by rw [HR.out]; rfl, hb⟩ | exact ⟨⟨0, by rw [HR.out]; rfl⟩, hb⟩
          · have c2' : ¬ (191 : Int) < b1 := by omega
            have hw1 : IntKind.i64.wrap (64 * x) = 64 * x := w_i64 _ (by omega) (by omega)
            have hw2 : IntKind.i64.wrap (64 * x + b1) = 64 * x + b1 := w_i64 _ (by omega) (by omega)
            have hw3 : IntKind.i64.wrap (64 * x + b1 - 128) = 64 * x + b1 - 128 := w_i64 _ (by omega) (by omega)
            have hw4 : IntKind.i64.wrap (b1 : Int) = (b1 : Int) := w_i64 _ (by omega) (by omega)
            have HX := Lib.hid hx
            clear hx
            go_wp2_with fail
            go_roundw
            case rel => exact ⟨2, _, rfl, rfl, by have := HX.out; omega, hb⟩
            case measure => simp [intOf]
      · by_cases c1 : b2 < 128
        · have c1' : (b2 : Int) < 128 := by omega
          have HR := Lib.hid (HW.out.trans (cw_4_no2 _ _ _ _ _ HS.out (by omega)))
          clear hx
          go_wp2_with fail
          go_ret2
          first | exact ⟨0, by rw [HR.out]; rfl, hb⟩ | exact ⟨⟨0, by rw [HR.out]; rfl⟩, hb⟩
        · have c1' : ¬ (b2 : Int) < 128 := by omega
          by_cases c2 : 191 < b2
          · have c2' : (191 : Int) < b2 := by omega
            have HR := Lib.hid (HW.out.trans (cw_4_no2 _ _ _ _ _ HS.out (by omega)))
            clear hx
            go_wp2_with fail
            go_ret2
            first | exact ⟨0, by rw [HR.out]; rfl, hb⟩ | exact ⟨⟨0, by rw [HR.out]; rfl⟩, hb⟩
          · have c2' : ¬ (191 : Int) < b2 := by omega
            have hw1 : IntKind.i64.wrap (64 * x) = 64 * x := w_i64 _ (by omega) (by omega)
            have hw2 : IntKind.i64.wrap (64 * x + b2) = 64 * x + b2 := w_i64 _ (by omega) (by omega)
            have hw3 : IntKind.i64.wrap (64 * x + b2 - 128) = 64 * x + b2 - 128 := w_i64 _ (by omega) (by omega)
            have hw4 : IntKind.i64.wrap (b2 : Int) = (b2 : Int) := w_i64 _ (by omega) (by omega)
            have HX := Lib.hid hx
            clear hx
            go_wp2_with fail
            go_roundw
            case rel => exact ⟨3, _, rfl, rfl, by have := HX.out; omega, hb⟩
            case measure => simp [intOf]
      · by_cases c1 : b3 < 128
        · have c1' : (b3 : Int) < 128 := by omega
          have HR := Lib.hid (HW.out.trans (cw_4_no3 _ _ _ _ _ HS.out (by omega)))
          clear hx
          go_wp2_with fail
          go_ret2
          first | exact ⟨0, by rw [HR.out]; rfl, hb⟩ | exact ⟨⟨0, by rw [HR.out]; rfl⟩, hb⟩
        · have c1' : ¬ (b3 : Int) < 128 := by omega
          by_cases c2 : 191 < b3
          · have c2' : (191 : Int) < b3 := by omega
            have HR := Lib.hid (HW.out.trans (cw_4_no3 _ _ _ _ _ HS.out (by omega)))
            clear hx
            go_wp2_with fail
            go_ret2
            first | exact ⟨0, by rw [HR.out]; rfl, hb⟩ | exact ⟨⟨0, by rw [HR.out]; rfl⟩, hb⟩
          · have c2' : ¬ (191 : Int) < b3 := by omega
            have hw1 : IntKind.i64.wrap (64 * x) = 64 * x := w_i64 _ (by omega) (by omega)
            have hw2 : IntKind.i64.wrap (64 * x + b3) = 64 * x + b3 := w_i64 _ (by omega) (by omega)
            have hw3 : IntKind.i64.wrap (64 * x + b3 - 128) = 64 * x + b3 - 128 := w_i64 _ (by omega) (by omega)
            have hw4 : IntKind.i64.wrap (b3 : Int) = (b3 : Int) := w_i64 _ (by omega) (by omega)
            have HX := Lib.hid hx
            clear hx
            go_wp2_with fail
            go_roundw
            case rel => exact ⟨4, _, rfl, rfl, by have := HX.out; omega, hb⟩
            case measure => simp [intOf]
      · have HC := Lib.hid (cw_4 s.size b0 b1 b2 b3 HS.out (by omega) d1 d2 d3)
        rw [← hx] at HC
        have hxr : -1000000 ≤ x ∧ x ≤ 100000000 := by omega
        clear hx
        have hq : x < 65536 ∨ (¬ x < 65536 ∧ 1114111 < x) ∨ (¬ x < 65536 ∧ ¬ 1114111 < x ∧ 55296 ≤ x ∧ x ≤ 57343) ∨ (¬ x < 65536 ∧ ¬ 1114111 < x ∧ 55296 ≤ x ∧ ¬ x ≤ 57343) ∨ (¬ x < 65536 ∧ ¬ 1114111 < x ∧ ¬ 55296 ≤ x) := by omega
        rcases hq with p1 | ⟨p1, p2⟩ | ⟨p1, p2, p3, p4⟩ | ⟨p1, p2, p3, p4⟩ | ⟨p1, p2, p3⟩
        · have HR := Lib.hid (HW.out.trans (HC.out.2 (fun h => by have := h.1; omega)))
          clear HC
          go_wp2_with fail
          refine (least_at 4 65536 _ (by omega) (by omega) rfl).mono ?_
          rintro e w' ⟨rfl, hk⟩
          replace hb := bnext hb (Nat.le_refl _) hk
          go_wp2_with fail
          go_ret2
          first | exact ⟨_, by rw [HR.out]; rfl, hb⟩ | exact ⟨⟨_, by rw [HR.out]; rfl⟩, hb⟩
        · have HR := Lib.hid (HW.out.trans (HC.out.2 (fun h => by have := h.2.1; omega)))
          clear HC
          go_wp2_with fail
          refine (least_at 4 65536 _ (by omega) (by omega) rfl).mono ?_
          rintro e w' ⟨rfl, hk⟩
          replace hb := bnext hb (Nat.le_refl _) hk
          go_wp2_with fail
          go_ret2
          first | exact ⟨_, by rw [HR.out]; rfl, hb⟩ | exact ⟨⟨_, by rw [HR.out]; rfl⟩, hb⟩
        · exfalso; omega
        · have HR := Lib.hid (HW.out.trans (HC.out.1 ⟨by omega, by omega, by omega⟩))
          clear HC
          go_wp2_with fail
          refine (least_at 4 65536 _ (by omega) (by omega) rfl).mono ?_
          rintro e w' ⟨rfl, hk⟩
          replace hb := bnext hb (Nat.le_refl _) hk
          go_wp2_with fail
          go_ret2
          first | exact ⟨_, by rw [HR.out]; rfl, hb⟩ | exact ⟨⟨_, by rw [HR.out]; rfl⟩, hb⟩
        · exfalso; omega
end
section
open Go Go.RowKit

set_option maxRecDepth 100000 in
set_option maxHeartbeats 4000000 in
theorem rcount_any (s : ByteArray) (w : World) (hbig : s.size ≤ 9223372036854775807) :
    Calls Tryz.prog 127 #[.string s] w fun e w' => e = .returned (.int .i64 (cntI s.data.toList)) ∧ Below w.heap.size w w' := by
  have hlen : s.data.toList.length = s.size := rfl
  by_cases hlong : 65535 < s.size
  · have HL := Lib.hid (cntI_long (l := s.data.toList) (by omega))
    have hl' : (65535 : Int) < s.size := by omega
    go_enter Tryz.func127, Tryz.ntmps127
    go_wp2_with fail
    go_ret
    exact ⟨by rw [HL.out]; rfl, Below.refl _ _⟩
  have hl' : ¬ (65535 : Int) < s.size := by omega
  have hl'' : decide ((65535 : Int) < s.size) = false := decide_eq_false hl'
  go_enter Tryz.func127, Tryz.ntmps127
  go_wp2_with fail
  go_loopw [3, 4] (fun n at_ wr => ∃ k p : Nat, n = .int .i64 k ∧ at_ = .int .i64 p ∧ k ≤ p ∧ p ≤ s.size ∧ Below w.heap.size w wr ∧ Hid (cnt s.data.toList = (cnt (s.data.toList.drop p)).map (· + k))) (fun _ at_ _ => (s.size - intOf at_).toNat)
  case atStart => exact ⟨0, 0, rfl, rfl, Nat.le_refl _, Nat.zero_le _, Below.refl _ _, by unfold Hid; rw [List.drop_zero]; cases cnt s.data.toList <;> rfl⟩
  case round =>
    obtain ⟨k, p, rfl, rfl, hkp, hp, hb, HN⟩ := hrel
    by_cases hlt : p < s.size
    · have hat := cnt_at HN.out (by omega)
      have hcl := cw_le (s.data.toList.drop p)
      rw [List.length_drop, hlen] at hcl
      have hp0 : (0 : Int) ≤ p := by omega
      have hps : (p : Int) ≤ s.size := by omega
      have hpl : (p : Int) < s.size := by omega
      have hext : (s.extract p s.size).data.toList = s.data.toList.drop p := by
        rw [Lib.extract_data, List.take_of_length_le (by rw [List.length_drop]; exact Nat.le_refl _)]
      have hch := character_any (s.extract p s.size)
      rw [hext] at hch
      have hch2 := fun w => hch w (by rw [Lib.tail_size]; omega) (by rw [Lib.tail_size]; omega)
      have HC := Lib.hid hch2
      clear hch hch2
      generalize cw (s.data.toList.drop p) = m at *
      by_cases hc : m = 0
      · have HF := Lib.hid (cntI_none (hat.1 hc))
        clear hat
        subst hc
        go_wp2_with fail
        refine (HC.out _).mono ?_
        rintro e w6 ⟨c, rfl, hk⟩
        have hb3 := bnext hb (Nat.le_refl _) hk
        go_wp2_with fail
        go_ret
        exact ⟨by rw [HF.out]; rfl, hb3⟩
      · have HF := Lib.hid (hat.2 hc)
        clear hat
        have hmb : ((m : Int) == 0) = false := by simp [hc]
        have hw1 : IntKind.i64.wrap ((p : Int) + m) = ((p + m : Nat) : Int) := by rw [w_i64] <;> omega
        generalize hpm : p + m = q at *
        go_wp2_with fail
        refine (HC.out _).mono ?_
        rintro e w6 ⟨c, rfl, hk⟩
        have hb3 := bnext hb (Nat.le_refl _) hk
        go_wp2_with fail
        go_roundw
        case rel => exact ⟨k + 1, q, by go_num, rfl, by omega, by omega, hb3, HF⟩
        case measure => simp [intOf]; omega
    · have HF := Lib.hid (cntI_some (l := s.data.toList) (n := k) (by omega) (by rw [HN.out, List.drop_eq_nil_of_le (by omega), cnt_nil]; simp))
      have hpl : ¬ (p : Int) < s.size := by omega
      go_wp2_with fail
      go_ret
      exact ⟨by rw [HF.out]; rfl, hb⟩
theorem rvalid_any (s : ByteArray) (w : World) (hbig : s.size ≤ 9223372036854775807) :
    Calls Tryz.prog 102 #[.string s] w fun e w' => e = .returned (.bool (validI s.data.toList)) ∧ Below w.heap.size w w' := by
  have HC := Lib.hid (rcount_any s w hbig)
  obtain ⟨n, hn⟩ : ∃ n, cntI s.data.toList = n := ⟨_, rfl⟩
  rw [validI]
  rw [hn] at HC ⊢
  go_enter Tryz.func102, Tryz.ntmps102
  go_wp2_with fail
  refine HC.out.mono ?_
  rintro e w' ⟨rfl, hb⟩
  go_wp2_with fail
  go_ret
  exact ⟨rfl, hb⟩
end
end Go.Proofs.YtmkhagmjpbfieaaGreatDoor
