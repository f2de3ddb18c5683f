/- strings.ContainsAny of "+#", of whatever string. -/
import Derived.Test.YtcnjgenacpkdbaaDoorKRune
import Derived.Lib.OthersKept
namespace Go.Proofs.YtcnjgenacpkdbaaDoor
open Go Go.RowKit Go.Lib

theorem irune_any (r : Int) (w : World) (h0 : 0 ≤ r) (h1 : r ≤ 55295 ∨ 57344 ≤ r) (h2 : r ≤ 1114111) : Calls Tryd.prog 59 #[.string wilds, .int .i32 r] w fun e w' => ∃ n : Int, e = .returned (.int .i64 n) ∧ (0 ≤ n ↔ (r = 43 ∨ r = 35)) ∧ Below w.heap.size w w' := by
  by_cases ha : r < 128
  · exact irune_ascii r w h0 ha
  by_cases he : r = 65533
  · subst he; exact irune_err w
  · exact irune_high r w (by omega) h1 h2 he
theorem irune_u (b : Bool) (r : Int) (w : World) (h0 : 0 ≤ r) (h1 : r ≤ 55295 ∨ 57344 ≤ r) (h2 : r ≤ 1114111) (hb : (decide (r = 43 ∨ r = 35)) = b) : Calls Tryd.prog 59 #[.string wilds, .int .i32 r] w fun e w' => ∃ n : Int, e = .returned (.int .i64 n) ∧ decide (0 ≤ n) = b ∧ Below w.heap.size w w' :=
  (irune_any r w h0 h1 h2).mono fun e w' ⟨n, h1, h2, h3⟩ => ⟨n, h1, by rw [← hb]; exact decide_eq_decide.2 h2, h3⟩

theorem decodeN_low (n b0 b1 b2 b3 : Nat) (h0 : b0 < 128) : Lib.decodeN n b0 b1 b2 b3 = (b0, 1) := by unfold Lib.decodeN; rw [if_pos h0]
theorem decodeN_high (n b0 b1 b2 b3 : Nat) (h0 : 128 ≤ b0) (h00 : b0 < 256) (h1 : b1 < 256) (h2 : b2 < 256) (h3 : b3 < 256) :
    128 ≤ (Lib.decodeN n b0 b1 b2 b3).1 ∧ ((Lib.decodeN n b0 b1 b2 b3).1 ≤ 55295 ∨ 57344 ≤ (Lib.decodeN n b0 b1 b2 b3).1) ∧
    (1 < (Lib.decodeN n b0 b1 b2 b3).2 → 128 ≤ b1) ∧ (2 < (Lib.decodeN n b0 b1 b2 b3).2 → 128 ≤ b2) ∧ (3 < (Lib.decodeN n b0 b1 b2 b3).2 → 128 ≤ b3) := by
  unfold Lib.decodeN
  repeat' split
  all_goals first | (exfalso; omega) | (simp only []; omega)
theorem decodeN_fits (n b0 b1 b2 b3 : Nat) (hn : 1 ≤ n) : (Lib.decodeN n b0 b1 b2 b3).2 ≤ n := by
  unfold Lib.decodeN
  repeat' split
  all_goals (simp only []; omega)
theorem decode_fits (s : ByteArray) (p : Nat) (hp : p < s.size) : p + (Utf8.decode s p).2 ≤ s.size := by
  rw [Lib.decode_at]
  have := decodeN_fits (s.size - p) (s.get! p).toNat (s.get! (p + 1)).toNat (s.get! (p + 2)).toNat (s.get! (p + 3)).toNat (by omega)
  omega
theorem wildc_nat (c : UInt8) : wildc c = decide ((c.toNat : Int) = 43 ∨ (c.toNat : Int) = 35) := by
  unfold wildc
  have h1 : (c == 43) = decide ((c.toNat : Int) = 43) := by
    rw [Bool.eq_iff_iff]; simp only [beq_iff_eq, decide_eq_true_eq]
    exact ⟨fun h => by subst h; rfl, fun h => UInt8.toNat_inj.1 (by simp; omega)⟩
  have h2 : (c == 35) = decide ((c.toNat : Int) = 35) := by
    rw [Bool.eq_iff_iff]; simp only [beq_iff_eq, decide_eq_true_eq]
    exact ⟨fun h => by subst h; rfl, fun h => UInt8.toNat_inj.1 (by simp; omega)⟩
  rw [h1, h2]; simp [Bool.decide_or]
theorem plain_split {l : List UInt8} {a b : Nat} (h : a ≤ b) (ha : plainB (l.take a) = true) (hm : ∀ j, a ≤ j → j < b → ∀ c, l[j]? = some c → wildc c = false) : plainB (l.take b) = true := by
  unfold plainB at *
  rw [List.all_eq_true] at *
  intro c hc
  obtain ⟨j, hj, e⟩ := List.mem_take_iff_getElem.1 hc
  by_cases hja : j < a
  · exact ha c (List.mem_take_iff_getElem.2 ⟨j, by omega, e⟩)
  · simp [hm j (by omega) (by omega) c (by rw [List.getElem?_eq_getElem (by omega), e])]
theorem at0_some {l : List UInt8} {j : Nat} {c : UInt8} (h : l[j]? = some c) : at0 l j = c.toNat := at0_get h
/-- what a rune says of the bytes that it is read from -/
theorem rune_wild (s : ByteArray) (p : Nat) (hp : p < s.size) :
    0 ≤ ((Utf8.decode s p).1 : Int) ∧ (((Utf8.decode s p).1 : Int) ≤ 55295 ∨ 57344 ≤ ((Utf8.decode s p).1 : Int)) ∧ ((Utf8.decode s p).1 : Int) ≤ 1114111 ∧
    (decide (((Utf8.decode s p).1 : Int) = 43 ∨ ((Utf8.decode s p).1 : Int) = 35) = true → plainB s.data.toList = false) ∧
    (decide (((Utf8.decode s p).1 : Int) = 43 ∨ ((Utf8.decode s p).1 : Int) = 35) = false → plainB (s.data.toList.take p) = true → plainB (s.data.toList.take (p + (Utf8.decode s p).2)) = true) := by
  have hsm := decode_small s p
  have hg := bget s p hp
  have hm : s[p] ∈ s.data.toList := List.mem_of_getElem? hg
  have h0 := at0_get hg
  rw [Lib.decode_at, get_at0, get_at0, get_at0, get_at0, h0] at hsm ⊢
  by_cases hl : s[p].toNat < 128
  · rw [decodeN_low _ _ _ _ _ hl]
    refine ⟨by omega, by left; show (s[p].toNat : Int) ≤ 55295; omega, by show (s[p].toNat : Int) ≤ 1114111; omega, fun h => ?_, fun h hpl => ?_⟩
    · have hw := wildc_nat s[p]
      rw [h] at hw
      unfold plainB
      rw [List.all_eq_false]
      exact ⟨s[p], hm, by simp [hw]⟩
    · refine plain_split (by omega) hpl fun j hj1 hj2 c hc => ?_
      obtain rfl : j = p := by omega
      rw [hg] at hc
      obtain rfl := Option.some.inj hc
      rw [wildc_nat]; exact h
  · have hh := decodeN_high (s.size - p) s[p].toNat (at0 s.data.toList (p + 1)) (at0 s.data.toList (p + 2)) (at0 s.data.toList (p + 3)) (by omega) s[p].toNat_lt (at0_lt _ _) (at0_lt _ _) (at0_lt _ _)
    generalize Lib.decodeN (s.size - p) s[p].toNat (at0 s.data.toList (p + 1)) (at0 s.data.toList (p + 2)) (at0 s.data.toList (p + 3)) = D at *
    obtain ⟨c1, c2, c3, c4, c5⟩ := hh
    refine ⟨by omega, by omega, by omega, fun h => ?_, fun _ hpl => ?_⟩
    · simp only [decide_eq_true_eq] at h; omega
    · refine plain_split (by omega) hpl fun j hj1 hj2 c hc => ?_
      have hge : 128 ≤ c.toNat := by
        have hc' := at0_get hc
        rcases (show j = p ∨ j = p + 1 ∨ j = p + 2 ∨ j = p + 3 by omega) with rfl | rfl | rfl | rfl
        · omega
        · have := c3 (by omega); omega
        · have := c4 (by omega); omega
        · have := c5 (by omega); omega
      rw [wildc_nat]
      simp only [decide_eq_false_iff_not, not_or]
      omega

theorem zero75 (w : World) : (zeroValue 95).run Tryd.prog w = .ok (.agg (Array.replicate 256 (.bool false))) w := by kernel_rfl
theorem indexAny_plain (l : List UInt8) : decide (0 ≤ Lib.indexAny l [43, 35]) = !plainB l := by
  induction l with
  | nil => rfl
  | cons c r ih =>
    have hge := Lib.indexAny_ge [43, 35] r
    have hc : ([43, 35] : List UInt8).contains c = wildc c := by
      unfold wildc; simp only [List.contains_cons, List.contains_nil, Bool.or_false]
    unfold Lib.indexAny
    rw [hc]
    unfold plainB at ih ⊢
    rw [List.all_cons]
    cases hw : wildc c
    · simp only [Bool.false_eq_true, if_false, Bool.not_false, Bool.true_and]
      rw [← ih]
      by_cases h : Lib.indexAny r [43, 35] = -1
      · rw [h]; decide
      · have : (Lib.indexAny r [43, 35] == -1) = false := by simpa using h
        rw [this]
        exact decide_eq_decide.2 (by constructor <;> intro <;> simp at * <;> omega)
    · simp

set_option maxRecDepth 100000 in
set_option maxHeartbeats 1000000 in
theorem iany_short (s : ByteArray) (w : World) (h8 : s.size ≤ 8) :
    Calls Tryd.prog 41 #[.string s, .string wilds] w fun e w' => ∃ n : Int, e = .returned (.int .i64 n) ∧ decide (0 ≤ n) = !plainB s.data.toList ∧ Below w.heap.size w w' := by
  have h8d : decide ((8 : Int) < s.size) = false := by simp; omega
  have HU := Lib.hid (fun w => Tryd.strings_shouldUseASCIISet (s.size : Int) w)
  have hwt : (wilds.toList.isEmpty) = false := by rw [Lib.toList_data]; rfl
  have hws : (wilds.size : Int) = 2 := by decide
  have hlen : s.data.toList.length = s.size := rfl
  go_enter Tryd.func41, Tryd.ntmps41
  go_wp2_with fail
  refine (HU.out _).mono ?_
  rintro e w' ⟨rfl, rfl⟩
  go_wp2_with fail
  generalize hit : w'.heap.size = it
  have hi0 : (w'.iter s 0).heap[it]? = some (.stringIter s 0) := by rw [← hit]; exact World.iter_heap w' s 0
  have hb0 : Below it w' (w'.iter s 0) := by rw [← hit]; exact (Below.refl _ _).alloc (Nat.le_refl _) _
  go_loopw [9, 10] (fun _ _ wr => ∃ p : Nat, p ≤ s.size ∧ wr.heap[it]? = some (.stringIter s p) ∧ Below it w' wr ∧ plainB (s.data.toList.take p) = true) (fun _ _ wr => leftAt it s.size wr)
  case atStart => exact ⟨0, Nat.zero_le _, hi0, hb0, by simp [plainB]⟩
  case round =>
    obtain ⟨p, hp, hi, hb, hpl⟩ := hrel
    have HP := Lib.hid hpl
    clear hi0 hb0 hpl
    by_cases hlt : p < s.size
    · have hnx := fun ty => run_next_any_at (P := Tryd.prog) wr it s p ty hi hlt
      have hd := rune_wild s p hlt
      have hsm := decode_small s p
      have hi2 := iterAt_heap wr it s p (p + (Utf8.decode s p).2) hi
      have hb2 := below_iterAt hb (Nat.le_refl it) s (p + (Utf8.decode s p).2)
      have hm0 : leftAt it s.size wr = s.size - p := leftAt_of hi
      have hle := decode_fits s p hlt
      generalize (Utf8.decode s p).1 = c at *
      generalize (Utf8.decode s p).2 = K at *
      generalize wr.iterAt it s (p + K) = W2 at *
      obtain ⟨r0, r1, r2, d1, d2⟩ := hd
      have hm1 : leftAt it s.size W2 = s.size - (p + K) := leftAt_of hi2
      obtain ⟨b, hbb⟩ : ∃ b, decide ((c : Int) = 43 ∨ (c : Int) = 35) = b := ⟨_, rfl⟩
      have HR := Lib.hid (fun w => irune_u b (c : Int) w r0 r1 r2 hbb)
      rw [hbb] at d1 d2
      clear hbb
      cases b with
      | true =>
        have HF := Lib.hid (d1 rfl)
        clear d1 d2
        go_wp2_with fail
        refine (HR.out _).mono ?_
        rintro e w3 ⟨n, rfl, hn, hk⟩
        have hb3 := bnext hb2 (by have := (Array.getElem?_eq_some_iff.1 hi2).1; omega) hk
        go_wp2_with fail
        go_ret
        exact ⟨_, rfl, by rw [HF.out]; simp, by rw [hit]; exact hb3⟩
      | false =>
        have HF := Lib.hid (d2 rfl HP.out)
        clear d1 d2
        go_wp2_with fail
        refine (HR.out _).mono ?_
        rintro e w3 ⟨n, rfl, hn, hk⟩
        have hb3 := bnext hb2 (by have := (Array.getElem?_eq_some_iff.1 hi2).1; omega) hk
        have hi3 := below_at' hi2 hk
        have hm3 : leftAt it s.size w3 = s.size - (p + K) := leftAt_of hi3
        clear hk
        go_wp2_with fail
        refine ⟨⟨p + K, hle, hi3, hb3, HF.out⟩, by rw [hm0, hm3]; omega⟩
    · have hnx := fun ty => run_next_end_at (P := Tryd.prog) wr it s p ty hi hlt
      have HF := Lib.hid (show decide ((0 : Int) ≤ -1) = !plainB s.data.toList by have := HP.out; rw [List.take_of_length_le (by omega)] at this; rw [this]; decide)
      go_wp2_with fail
      go_ret
      exact ⟨-1, rfl, HF.out, by rw [hit]; exact hb⟩

theorem iany_u (s : ByteArray) (w : World) (hs : s.size < 4294967281) :
    Calls Tryd.prog 41 #[.string s, .string wilds] w fun e w' => ∃ n : Int, e = .returned (.int .i64 n) ∧ decide (0 ≤ n) = !plainB s.data.toList ∧ Below w.heap.size w w' := by
  by_cases h8 : s.size ≤ 8
  · exact iany_short s w h8
  · refine (Tryd.strings_IndexAny_long zero75 s wilds w (by decide) (by omega) hs (by decide) (fun j b h => ?_)).mono ?_
    · have hm := List.mem_of_getElem? h
      have : b = 43 ∨ b = 35 := by simpa [wilds] using hm
      rcases this with rfl | rfl <;> decide
    · rintro e w' ⟨rfl, rfl⟩
      exact ⟨_, rfl, indexAny_plain _, ((Below.refl _ _).alloc (Nat.le_refl _) _).alloc (by simp) _⟩
/-- has a string '+' or '#'? -/
theorem cany_u (b : Bool) (s : ByteArray) (w : World) (hs : s.size < 4294967281) (hb : plainB s.data.toList = b) :
    Calls Tryd.prog 30 #[.string s, .string ⟨#[43, 35]⟩] w fun e w' => e = .returned (.bool (!b)) ∧ Below w.heap.size w w' := by
  subst hb
  have HI := Lib.hid (iany_u s w hs)
  go_enter Tryd.func30, Tryd.ntmps30
  go_wp2_with fail
  refine HI.out.mono ?_
  rintro e w1 ⟨n, rfl, hn, hk⟩
  have HN := Lib.hid hn
  clear hn
  go_wp2_with fail
  go_ret
  exact ⟨ret_bool HN.out, hk⟩
end Go.Proofs.YtcnjgenacpkdbaaDoor
