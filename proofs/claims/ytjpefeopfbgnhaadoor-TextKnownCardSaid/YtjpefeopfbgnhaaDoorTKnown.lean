/- TextKnown's walk. -/
import Derived.Test.YtjpefeopfbgnhaaDoorTLaw3
namespace Go.Proofs.YtjpefeopfbgnhaaDoor
open Go Go.RowKit

def goodL : List ByteArray := [⟨#[]⟩, ⟨#[97]⟩, ⟨#[1]⟩, ⟨#[127]⟩, ⟨#[194, 128]⟩, ⟨#[223, 191]⟩, ⟨#[224, 160, 128]⟩, ⟨#[226, 130, 172]⟩, ⟨#[237, 159, 191]⟩, ⟨#[238, 128, 128]⟩, ⟨#[239, 191, 189]⟩, ⟨#[239, 191, 191]⟩, ⟨#[240, 144, 128, 128]⟩, ⟨#[240, 159, 152, 128]⟩, ⟨#[244, 143, 191, 191]⟩]
def goodOk (i : Nat) (s : ByteArray) : Bool := okT s && decide (cntI s.data.toList = if i = 0 then 0 else 1) && decide (cntI (s ++ (⟨#[122]⟩ : ByteArray) ++ s).data.toList = if i = 0 then 1 else 3) && decide (s.size ≤ 4)
theorem good_all : ∀ i, i < 15 → goodOk i (goodL.getD i ⟨#[]⟩) = true := by decide +kernel
theorem good_at (k : Nat) (hk : k < 15) : ∃ s q : ByteArray, goodL[k]? = some s ∧ s ++ (⟨#[122]⟩ : ByteArray) ++ s = q ∧ s.size ≤ 4 ∧ q.size ≤ 9 ∧ Hid (okT s = true) ∧ cntI s.data.toList = (if k = 0 then 0 else 1) ∧ cntI q.data.toList = (if k = 0 then 1 else 3) := by
  have h := good_all k hk
  have hl : k < goodL.length := hk
  rw [List.getD_eq_getElem?_getD, List.getElem?_eq_getElem hl, Option.getD_some] at h
  unfold goodOk at h
  simp only [Bool.and_eq_true, decide_eq_true_eq] at h
  obtain ⟨⟨⟨h1, h2⟩, h3⟩, h4⟩ := h
  refine ⟨goodL[k], _, List.getElem?_eq_getElem hl, rfl, h4, ?_, h1, h2, h3⟩
  rw [ba_size_app, ba_size_app]
  have : (⟨#[122]⟩ : ByteArray).size = 1 := rfl
  omega

def badL : List ByteArray := [⟨#[0]⟩, ⟨#[97, 0]⟩, ⟨#[195]⟩, ⟨#[169]⟩, ⟨#[192, 128]⟩, ⟨#[193, 191]⟩, ⟨#[224, 128, 128]⟩, ⟨#[224, 159, 191]⟩, ⟨#[237, 160, 128]⟩, ⟨#[237, 191, 191]⟩, ⟨#[240, 143, 191, 191]⟩, ⟨#[244, 144, 128, 128]⟩, ⟨#[245, 128, 128, 128]⟩, ⟨#[255]⟩, ⟨#[254]⟩, ⟨#[226, 130]⟩, ⟨#[240, 159, 152]⟩, ⟨#[226, 40, 161]⟩, ⟨#[195, 40]⟩, ⟨#[239, 191]⟩, ⟨#[248, 136, 128, 128, 128]⟩]
def badOk (s : ByteArray) : Bool := !okT s && decide (cntI ((⟨#[97]⟩ : ByteArray) ++ s ++ (⟨#[98]⟩ : ByteArray)).data.toList = -1) && decide (s.size ≤ 5) &&
  (let p := ((⟨#[0]⟩ : ByteArray) ++ (⟨#[UInt8.ofNat s.size]⟩ : ByteArray) ++ s).data.toList
   decide (txM p = []) && decide (txU p = 0) && decide (txE p = 5))
theorem bad_all : ∀ i, i < 21 → badOk (badL.getD i ⟨#[]⟩) = true := by decide +kernel
theorem bad_at (k : Nat) (hk : k < 21) : ∃ (s q p : ByteArray) (u : UInt8), badL[k]? = some s ∧ (⟨#[97]⟩ : ByteArray) ++ s ++ (⟨#[98]⟩ : ByteArray) = q ∧ UInt8.ofNat s.size = u ∧ (⟨#[0]⟩ : ByteArray) ++ (⟨#[u]⟩ : ByteArray) ++ s = p ∧ s.size ≤ 5 ∧ q.size ≤ 7 ∧ p.size ≤ 7 ∧ Hid (okT s = false) ∧ Hid (cntI q.data.toList = -1) ∧
    Hid ((⟨(txM p.data.toList).toArray⟩ : ByteArray) = ⟨#[]⟩ ∧ txU p.data.toList = 0 ∧ txE p.data.toList = 5) := by
  have h := bad_all k hk
  have hl : k < badL.length := hk
  rw [List.getD_eq_getElem?_getD, List.getElem?_eq_getElem hl, Option.getD_some] at h
  unfold badOk at h
  simp only [Bool.and_eq_true, decide_eq_true_eq, Bool.not_eq_true'] at h
  obtain ⟨⟨⟨h1, h2⟩, h3⟩, ⟨h4, h5⟩, h6⟩ := h
  have z1 : (⟨#[97]⟩ : ByteArray).size = 1 := rfl
  have z2 : (⟨#[98]⟩ : ByteArray).size = 1 := rfl
  have z3 : (⟨#[0]⟩ : ByteArray).size = 1 := rfl
  refine ⟨badL[k], _, _, _, List.getElem?_eq_getElem hl, rfl, rfl, rfl, h3, ?_, ?_, h1, h2, ?_⟩
  · rw [ba_size_app, ba_size_app]; omega
  · rw [ba_size_app, ba_size_app]
    have z4 : (⟨#[UInt8.ofNat badL[k].size]⟩ : ByteArray).size = 1 := rfl
    omega
  · exact ⟨by rw [h4], h5, h6⟩

theorem q1 : putsM [⟨#[97]⟩, ⟨#[]⟩] = [0, 1, 97, 0, 0] ∧ putsE [⟨#[97]⟩, ⟨#[]⟩] = 0 := by decide +kernel
theorem q2 : txM [0] = [] ∧ txU [0] = 0 ∧ txE [0] = 2 := by decide +kernel
theorem q3 : txM [0, 0] = [] ∧ txU [0, 0] = 2 ∧ txE [0, 0] = 0 := by decide +kernel
theorem q4 : txM [0, 1, 255] = [] ∧ txU [0, 1, 255] = 0 ∧ txE [0, 1, 255] = 5 := by decide +kernel
theorem parts_of (n k m z : Nat) (zi : Int) (h : n ≤ 65535) (hk : k < 2 + n) (hm : 65535 < m) (hz : 2 + n = z) (hzi : (2 : Int) + n = zi) : ∃ sp sc : ByteArray, sp.size = z ∧ sp.extract 0 k = sc ∧
    Hid ((⟨(putsM [xb n]).toArray⟩ : ByteArray) = sp ∧ putsE [xb n] = 0) ∧
    Hid ((⟨(putsM [(⟨#[97]⟩ : ByteArray), xb m]).toArray⟩ : ByteArray) = ⟨#[]⟩ ∧ putsE [(⟨#[97]⟩ : ByteArray), xb m] = 5) ∧
    Hid ((⟨(putM (xb n).data.toList).toArray⟩ : ByteArray) = sp ∧ putE (xb n).data.toList = 0) ∧
    Hid ((⟨(putM (xb m).data.toList).toArray⟩ : ByteArray) = ⟨#[]⟩ ∧ putE (xb m).data.toList = 3) ∧
    Hid (sp.size ≤ 9223372036854775807 ∧ (⟨(txM sp.data.toList).toArray⟩ : ByteArray) = xb n ∧ txU sp.data.toList = zi ∧ txE sp.data.toList = 0) ∧
    Hid (sc.size ≤ 9223372036854775807 ∧ (⟨(txM sc.data.toList).toArray⟩ : ByteArray) = ⟨#[]⟩ ∧ txU sc.data.toList = 0 ∧ txE sc.data.toList = 2) := by
  obtain ⟨a1, a2, a3⟩ := xb_put h
  obtain ⟨b1, b2, b3, b4⟩ := xb_put_long ⟨#[97]⟩ hm
  obtain ⟨c1, c2, c3⟩ := xb_get h
  obtain ⟨d1, d2, d3⟩ := xb_cut h hk
  have hs : (⟨(putM (xs n)).toArray⟩ : ByteArray).size = z := by
    show (putM (xs n)).length = z
    rw [put_len (by rw [xs_len]; exact h), xs_len]; exact hz
  have he : ((⟨(putM (xs n)).toArray⟩ : ByteArray).extract 0 k).data.toList = (putM (xs n)).take k := by
    rw [ba_take]
  refine ⟨⟨(putM (xs n)).toArray⟩, _, hs, rfl, ⟨by rw [a1], a2⟩, ⟨by rw [b1], b2⟩, ⟨by rw [xb_list], a3⟩, ⟨by rw [xb_list, b3], b4⟩, ⟨by rw [hs]; omega, ?_, ?_, ?_⟩, ⟨?_, ?_, ?_, ?_⟩⟩
  · show (⟨(txM (putM (xs n))).toArray⟩ : ByteArray) = _
    rw [c1]; rfl
  · show txU (putM (xs n)) = _
    rw [c2]; exact hzi
  · exact c3
  · rw [← size_len, he, List.length_take]; omega
  · rw [he, d1]
  · rw [he, d2]
  · rw [he, d3]
theorem conv_xs (W : World) (g off n cap : Nat) (h : ∀ i, i < n → W.cell? ⟨g, off + i, none⟩ = some (.int .u8 120)) : (convert 26 9 (.slice (some ⟨g, off, none⟩) n cap)).run Tryd.prog W = .ok (.string (xb n)) W := by
  rw [run_convert_bytes_arg W 26 5 Tryd.underlying26 Tryd.underlying5 g off n cap ((xs n).map fun c => (c.toNat : Int)) (by rw [List.length_map, xs_len]) ?_ 9 Tryd.underlying9]
  · have : strOfNums ((xs n).map fun c => (c.toNat : Int)) = xb n := by
      unfold strOfNums xb; congr 2; simp [Function.comp_def]
    rw [this]
  · intro i hi
    rw [h i hi]
    simp [xs, hi]
theorem grown_below' {W w' : World} (h : W.grownBy w' none) : Below W.heap.size W w' := ⟨h.os, h.tape, h.output, h.size, fun k hk => h.block k hk (by simp)⟩
set_option maxRecDepth 100000 in
set_option maxHeartbeats 8000000 in
set_option linter.unusedSimpArgs false in
theorem known_true (w : World) (hT : Tabs w) :
    Calls Tryd.prog 3 #[] w fun e w' => e = .returned (.bool true) ∧ Below w.heap.size w w' := by
  have HT := Lib.hid hT
  clear hT
  go_enter Tryd.func3, Tryd.ntmps3
  have HR := Lib.hid (row_new w (strs goodL) 9)
  have hb := Lib.hid ((Below.refl w.heap.size w).alloc (Nat.le_refl _) (.cells (strs goodL).toArray 9))
  unfold strs goodL at HR hb
  simp only [List.map_cons, List.map_nil] at HR hb
  generalize hg : w.heap.size = g at HR
  go_wp2_with fail
  generalize w.alloc (.cells #[.string ⟨#[]⟩, .string ⟨#[97]⟩, .string ⟨#[1]⟩, .string ⟨#[127]⟩, .string ⟨#[194, 128]⟩, .string ⟨#[223, 191]⟩, .string ⟨#[224, 160, 128]⟩, .string ⟨#[226, 130, 172]⟩, .string ⟨#[237, 159, 191]⟩, .string ⟨#[238, 128, 128]⟩, .string ⟨#[239, 191, 189]⟩, .string ⟨#[239, 191, 191]⟩, .string ⟨#[240, 144, 128, 128]⟩, .string ⟨#[240, 159, 152, 128]⟩, .string ⟨#[244, 143, 191, 191]⟩] 9) = W1 at *
  have HT1 := Lib.hid (HT.out.below hb.out)
  go_loopw [2] (fun i wr => ∃ k : Nat, i = .int .i64 k ∧ k ≤ 15 ∧ Below W1.heap.size W1 wr) (fun i _ => (15 - intOf i).toNat)
  case atStart => exact ⟨0, rfl, by omega, Below.refl _ _⟩
  case round =>
    obtain ⟨k, rfl, hk, hbr⟩ := hrel
    by_cases hlt : k < 15
    · obtain ⟨s, q, hs, hq, hss, hqs, hv, c1, c2⟩ := good_at k hlt
      have HC : Hid (∀ W, Below W1.heap.size W1 W → W.cell? ⟨g, k, none⟩ = some (.string s)) := fun W hW => by
        have HRk : Row W1 (some ⟨g, 0, none⟩) (strs goodL) := HR.out
        obtain ⟨b5, o5, he, hcell⟩ := (HRk.below hW (Nat.le_refl _)).at (j := k) (u := .string s) (by simp [strs, hs])
        cases he
        rw [Nat.zero_add] at hcell
        exact hcell
      have hk0 : (0 : Int) ≤ k := by omega
      have hkl : (k : Int) < 15 := by omega
      have hcat1 : ¬ 9223372036854775807 < s.size + 1 := by omega
      have hcat2 : ¬ 9223372036854775807 < s.size + 1 + s.size := by omega
      clear hs
      rcases (by omega : ¬ 1 < k ∨ 1 < k) with hk1 | hk1
      · have hk2 : ¬ (1 : Int) < k := by omega
        have hmin : min (k : Int) 1 = (k : Int) := by omega
        obtain ⟨z, hz⟩ : ∃ z : Int, 1 + 2 * (k : Int) = z := ⟨_, rfl⟩
        replace c1 : cntI s.data.toList = (k : Int) := by rw [c1]; split <;> omega
        replace c2 : cntI q.data.toList = z := by rw [c2]; split <;> omega
        have hw1 : IntKind.i64.wrap (2 * (k : Int)) = 2 * (k : Int) := w_i64 _ (by omega) (by omega)
        have hw2 : IntKind.i64.wrap (1 + 2 * (k : Int)) = z := by rw [w_i64] <;> omega
        clear hz
        have cell := HC.out _ hbr
        go_wp2_with fail
        go_region_held3 (fun w' => w'.cell? ⟨g, k, none⟩ = some (.string s)) (first | assumption | exact sA | go_keep) (first
          | (go_at_call 9; refine (valid_s true s _ ?_ ?_ hv.out).mono ?_; exact HT1.out.below (by first | exact hbr | exact hbr.drew | exact below_drewN hbr _); omega; rintro e w5 ⟨rfl, hk5⟩; have h5 := bnext (by first | exact hbr | exact hbr.drew | exact below_drewN hbr _) (Nat.le_refl _) hk5; have cell5 := HC.out _ h5)
          | (go_at_call 10; refine (count_any _ _ ?_ ?_).mono ?_; exact HT1.out.below (by first | exact h6 | exact h6.drew | exact below_drewN h6 _ | exact h5 | exact h5.drew | exact below_drewN h5 _); omega; rintro e w6 ⟨rfl, hk6⟩; have h6 := bnext (by first | exact h6 | exact h6.drew | exact below_drewN h6 _ | exact h5 | exact h5.drew | exact below_drewN h5 _) (Nat.le_refl _) hk6; have cell6 := HC.out _ h6))
        all_goals
          go_wp2_with fail
          go_roundw
          case rel => exact ⟨k + 1, by go_num, by omega, by first | exact h6 | exact h6.drew | exact below_drewN h6 _⟩
          case measure => simp [intOf]; omega
      · rw [if_neg (by omega)] at c1 c2
        have hk2 : (1 : Int) < k := by omega
        have hmin : min (k : Int) 1 = 1 := by omega
        have cell := HC.out _ hbr
        go_wp2_with fail
        go_region_held3 (fun w' => w'.cell? ⟨g, k, none⟩ = some (.string s)) (first | assumption | exact sA | go_keep) (first
          | (go_at_call 9; refine (valid_s true s _ ?_ ?_ hv.out).mono ?_; exact HT1.out.below (by first | exact hbr | exact hbr.drew | exact below_drewN hbr _); omega; rintro e w5 ⟨rfl, hk5⟩; have h5 := bnext (by first | exact hbr | exact hbr.drew | exact below_drewN hbr _) (Nat.le_refl _) hk5; have cell5 := HC.out _ h5)
          | (go_at_call 10; refine (count_any _ _ ?_ ?_).mono ?_; exact HT1.out.below (by first | exact h6 | exact h6.drew | exact below_drewN h6 _ | exact h5 | exact h5.drew | exact below_drewN h5 _); omega; rintro e w6 ⟨rfl, hk6⟩; have h6 := bnext (by first | exact h6 | exact h6.drew | exact below_drewN h6 _ | exact h5 | exact h5.drew | exact below_drewN h5 _) (Nat.le_refl _) hk6; have cell6 := HC.out _ h6))
        all_goals
          go_wp2_with fail
          go_roundw
          case rel => exact ⟨k + 1, by go_num, by omega, by first | exact h6 | exact h6.drew | exact below_drewN h6 _⟩
          case measure => simp [intOf]; omega
    · have hkl : ¬ (k : Int) < 15 := by omega
      have hB := bnext hb.out (Nat.le_refl _) hbr
      have HR2 := Lib.hid (row_new wr (strs badL) 9)
      have hb2 := Lib.hid (hB.alloc hB.size (.cells (strs badL).toArray 9))
      unfold strs badL at HR2 hb2
      simp only [List.map_cons, List.map_nil] at HR2 hb2
      generalize hg2 : wr.heap.size = g2 at HR2
      go_wp2_with fail
      generalize wr.alloc (.cells #[.string ⟨#[0]⟩, .string ⟨#[97, 0]⟩, .string ⟨#[195]⟩, .string ⟨#[169]⟩, .string ⟨#[192, 128]⟩, .string ⟨#[193, 191]⟩, .string ⟨#[224, 128, 128]⟩, .string ⟨#[224, 159, 191]⟩, .string ⟨#[237, 160, 128]⟩, .string ⟨#[237, 191, 191]⟩, .string ⟨#[240, 143, 191, 191]⟩, .string ⟨#[244, 144, 128, 128]⟩, .string ⟨#[245, 128, 128, 128]⟩, .string ⟨#[255]⟩, .string ⟨#[254]⟩, .string ⟨#[226, 130]⟩, .string ⟨#[240, 159, 152]⟩, .string ⟨#[226, 40, 161]⟩, .string ⟨#[195, 40]⟩, .string ⟨#[239, 191]⟩, .string ⟨#[248, 136, 128, 128, 128]⟩] 9) = W2 at *
      clear hB hg2 hbr
      have HT2 := Lib.hid (HT.out.below hb2.out)
      go_loopw [4] (fun i wr => ∃ k : Nat, i = .int .i64 k ∧ k ≤ 21 ∧ Below W2.heap.size W2 wr) (fun i _ => (21 - intOf i).toNat)
      case atStart => exact ⟨0, rfl, by omega, Below.refl _ _⟩
      case round =>
        obtain ⟨k, rfl, hk, hbr⟩ := hrel
        by_cases hlt : k < 21
        · obtain ⟨s, q, p, u, hs, hq, hu, hp, hss, hqs, hps, hv, hc, hx⟩ := bad_at k hlt
          have HC : Hid (∀ W, Below W2.heap.size W2 W → W.cell? ⟨g2, k, none⟩ = some (.string s)) := fun W hW => by
            have HRk : Row W2 (some ⟨g2, 0, none⟩) (strs badL) := HR2.out
            obtain ⟨b5, o5, he, hcell⟩ := (HRk.below hW (Nat.le_refl _)).at (j := k) (u := .string s) (by simp [strs, hs])
            cases he
            rw [Nat.zero_add] at hcell
            exact hcell
          have hk0 : (0 : Int) ≤ k := by omega
          have hkl : (k : Int) < 21 := by omega
          have hcat1 : ¬ 9223372036854775807 < 1 + s.size := by omega
          have hcat2 : ¬ 9223372036854775807 < 1 + s.size + 1 := by omega
          have hcat3 : ¬ 9223372036854775807 < 1 + 1 + s.size := by omega
          have hw8 : IntKind.u8.wrap (s.size : Int) = (s.size : Int) := w_u8 _ (by omega) (by omega)
          have hconv : ∀ (w : World) (x : Int), (convert 26 9 (.slice (some ⟨w.heap.size, 0, none⟩) 1 1)).run Tryd.prog (w.alloc (.cells #[.int .u8 x] 5)).drew = .ok (.string ⟨#[UInt8.ofNat x.toNat]⟩) (w.alloc (.cells #[.int .u8 x] 5)).drew := fun w x => str_new1 w.drew x
          have hconv2 := str_new1
          clear hs
          have cell := HC.out _ hbr
          go_wp2_with fail
          refine wp_region_held_drew (S := fun w' => w'.cell? ⟨g2, k, none⟩ = some (.string s)) (by kernel_rfl) cell (fun hHeld => ?_)
          refine wpAnyH_take (i := 0) (v := ?_) rfl (by kernel_rfl) (by kernel_rfl) (by kernel_rfl) (fun _ _ _ h => h) (Or.inl ⟨rfl, ?_⟩) hHeld ?_
          rotate_left
          · intro w0 hS0
            try dsimp only at hS0
            go_simp
            try with_reducible rfl
          simp only [List.getElem_toArray, List.getElem_cons_zero, List.getElem_cons_succ, Act.put, List.setIfInBounds_toArray, List.set_cons_zero, List.set_cons_succ]
          refine wpAnyH_take (i := 1) (v := ?_) rfl (by kernel_rfl) (by kernel_rfl) (by kernel_rfl) (fun _ _ _ h => h) (Or.inl ⟨rfl, ?_⟩) hHeld ?_
          rotate_left
          · intro w0 hS0
            try dsimp only at hS0
            go_simp
            try with_reducible rfl
          simp only [List.getElem_toArray, List.getElem_cons_zero, List.getElem_cons_succ, Act.put, List.setIfInBounds_toArray, List.set_cons_zero, List.set_cons_succ]
          refine wpAnyH_take (i := 2) (v := ?_) rfl (by kernel_rfl) (by kernel_rfl) (by kernel_rfl) (fun _ _ _ h => h) (Or.inl ⟨rfl, ?_⟩) hHeld ?_
          rotate_left
          · intro w0 hS0
            try dsimp only at hS0
            go_simp
            try with_reducible rfl
          simp only [List.getElem_toArray, List.getElem_cons_zero, List.getElem_cons_succ, Act.put, List.setIfInBounds_toArray, List.set_cons_zero, List.set_cons_succ]
          refine wpAnyH_take (i := 3) (v := ?_) rfl (by kernel_rfl) (by kernel_rfl) (by kernel_rfl) (fun _ _ _ h => h) (Or.inl ⟨rfl, ?_⟩) hHeld ?_
          rotate_left
          · intro w0 hS0
            try dsimp only at hS0
            go_simp
            try with_reducible rfl
          simp only [List.getElem_toArray, List.getElem_cons_zero, List.getElem_cons_succ, Act.put, List.setIfInBounds_toArray, List.set_cons_zero, List.set_cons_succ]
          refine wpAnyH_ready (rs := [4]) (by kernel_rfl) (by simp) ?_
          refine AllReadyH.cons rfl (fun K hK => ?_) AllReadyH.nil
          rw [if_pos (by rfl)]
          go_simp
          go_at_call 9
          have hbrd := hbr.drew
          refine (valid_s false s _ (HT2.out.below hbrd) (by omega) hv.out).mono ?_
          rintro e w5 ⟨rfl, hk5⟩
          have h5 := bnext hbrd (Nat.le_refl _) hk5
          refine hK.out _ _ (HC.out _ h5) (fun hHeld => ?_)
          refine wpAnyH_take (i := 5) (v := ?_) rfl (by kernel_rfl) (by kernel_rfl) (by kernel_rfl) (fun _ _ _ h => h) (Or.inl ⟨rfl, ?_⟩) hHeld ?_
          rotate_left
          · intro w0 hS0
            try dsimp only at hS0
            go_simp
            try with_reducible rfl
          simp only [List.getElem_toArray, List.getElem_cons_zero, List.getElem_cons_succ, Act.put, List.setIfInBounds_toArray, List.set_cons_zero, List.set_cons_succ]
          refine wpAnyH_take (i := 6) (v := ?_) rfl (by kernel_rfl) (by kernel_rfl) (by kernel_rfl) (fun _ _ _ h => h) (Or.inl ⟨rfl, ?_⟩) hHeld ?_
          rotate_left
          · intro w0 hS0
            try dsimp only at hS0
            go_simp
            try with_reducible rfl
          simp only [List.getElem_toArray, List.getElem_cons_zero, List.getElem_cons_succ, Act.put, List.setIfInBounds_toArray, List.set_cons_zero, List.set_cons_succ]
          refine wpAnyH_take (i := 7) (v := ?_) rfl (by kernel_rfl) (by kernel_rfl) (by kernel_rfl) (fun _ _ _ h => h) (Or.inl ⟨rfl, ?_⟩) hHeld ?_
          rotate_left
          · intro w0 hS0
            try dsimp only at hS0
            go_simp
            try with_reducible rfl
          simp only [List.getElem_toArray, List.getElem_cons_zero, List.getElem_cons_succ, Act.put, List.setIfInBounds_toArray, List.set_cons_zero, List.set_cons_succ]
          refine wpAnyH_take (i := 8) (v := ?_) rfl (by kernel_rfl) (by kernel_rfl) (by kernel_rfl) (fun _ _ _ h => h) (Or.inl ⟨rfl, ?_⟩) hHeld ?_
          rotate_left
          · intro w0 hS0
            try dsimp only at hS0
            go_simp
            try with_reducible rfl
          simp only [List.getElem_toArray, List.getElem_cons_zero, List.getElem_cons_succ, Act.put, List.setIfInBounds_toArray, List.set_cons_zero, List.set_cons_succ]
          refine wpAnyH_take (i := 9) (v := ?_) rfl (by kernel_rfl) (by kernel_rfl) (by kernel_rfl) (fun _ _ _ h => h) (Or.inl ⟨rfl, ?_⟩) hHeld ?_
          rotate_left
          · intro w0 hS0
            try dsimp only at hS0
            go_simp
            try with_reducible rfl
          simp only [List.getElem_toArray, List.getElem_cons_zero, List.getElem_cons_succ, Act.put, List.setIfInBounds_toArray, List.set_cons_zero, List.set_cons_succ]
          refine wpAnyH_take (i := 10) (v := ?_) rfl (by kernel_rfl) (by kernel_rfl) (by kernel_rfl) (fun _ _ _ h => h) (Or.inl ⟨rfl, ?_⟩) hHeld ?_
          rotate_left
          · intro w0 hS0
            try dsimp only at hS0
            go_simp
            try with_reducible rfl
          simp only [List.getElem_toArray, List.getElem_cons_zero, List.getElem_cons_succ, Act.put, List.setIfInBounds_toArray, List.set_cons_zero, List.set_cons_succ]
          refine wpAnyH_take (i := 11) (v := ?_) rfl (by kernel_rfl) (by kernel_rfl) (by kernel_rfl) (fun _ _ _ h => h) (Or.inl ⟨rfl, ?_⟩) hHeld ?_
          rotate_left
          · intro w0 hS0
            try dsimp only at hS0
            go_simp
            try with_reducible rfl
          simp only [List.getElem_toArray, List.getElem_cons_zero, List.getElem_cons_succ, Act.put, List.setIfInBounds_toArray, List.set_cons_zero, List.set_cons_succ]
          refine wpAnyH_ready (rs := [12]) (by kernel_rfl) (by simp) ?_
          refine AllReadyH.cons rfl (fun K hK => ?_) AllReadyH.nil
          rw [if_pos (by rfl)]
          go_simp
          go_at_call 10
          refine (count_s (-1) q _ (HT2.out.below h5) (by omega) hc.out).mono ?_
          rintro e w6 ⟨rfl, hk6⟩
          have h6 := bnext h5 (Nat.le_refl _) hk6
          refine hK.out _ _ (HC.out _ h6) (fun hHeld => ?_)
          refine wpAnyH_take (i := 13) (v := ?_) rfl (by kernel_rfl) (by kernel_rfl) (by kernel_rfl) (fun _ _ _ h => h) (Or.inl ⟨rfl, ?_⟩) hHeld ?_
          rotate_left
          · intro w0 hS0
            try dsimp only at hS0
            go_simp
            try with_reducible rfl
          simp only [List.getElem_toArray, List.getElem_cons_zero, List.getElem_cons_succ, Act.put, List.setIfInBounds_toArray, List.set_cons_zero, List.set_cons_succ]
          refine wpAnyH_take (i := 14) (v := ?_) rfl (by kernel_rfl) (by kernel_rfl) (by kernel_rfl) (fun _ _ _ h => h) (Or.inl ⟨rfl, ?_⟩) hHeld ?_
          rotate_left
          · intro w0 hS0
            try dsimp only at hS0
            go_simp
            try with_reducible rfl
          simp only [List.getElem_toArray, List.getElem_cons_zero, List.getElem_cons_succ, Act.put, List.setIfInBounds_toArray, List.set_cons_zero, List.set_cons_succ]
          refine wpAnyH_take (i := 15) (v := ?_) rfl (by kernel_rfl) (by kernel_rfl) (by kernel_rfl) (fun _ _ _ h => h) (Or.inl ⟨rfl, ?_⟩) hHeld ?_
          rotate_left
          · intro w0 hS0
            try dsimp only at hS0
            go_simp
            try with_reducible rfl
          simp only [List.getElem_toArray, List.getElem_cons_zero, List.getElem_cons_succ, Act.put, List.setIfInBounds_toArray, List.set_cons_zero, List.set_cons_succ]
          refine wpAnyH_take (i := 16) (v := ?_) rfl (by kernel_rfl) (by kernel_rfl) (by kernel_rfl) (fun _ _ _ h => h) (Or.inl ⟨rfl, ?_⟩) hHeld ?_
          rotate_left
          · intro w0 hS0
            try dsimp only at hS0
            go_simp
            try with_reducible rfl
          simp only [List.getElem_toArray, List.getElem_cons_zero, List.getElem_cons_succ, Act.put, List.setIfInBounds_toArray, List.set_cons_zero, List.set_cons_succ]
          refine wpAnyH_take (i := 17) (v := ?_) rfl (by kernel_rfl) (by kernel_rfl) (by kernel_rfl) (fun _ _ _ h => h) (Or.inl ⟨rfl, ?_⟩) hHeld ?_
          rotate_left
          · intro w0 hS0
            try dsimp only at hS0
            go_simp
            try with_reducible rfl
          simp only [List.getElem_toArray, List.getElem_cons_zero, List.getElem_cons_succ, Act.put, List.setIfInBounds_toArray, List.set_cons_zero, List.set_cons_succ]
          refine wpAnyH_take (i := 18) (v := ?_) rfl (by kernel_rfl) (by kernel_rfl) (by kernel_rfl) (fun _ _ _ h => h) (Or.inl ⟨rfl, ?_⟩) hHeld ?_
          rotate_left
          · intro w0 hS0
            try dsimp only at hS0
            go_simp
            try with_reducible rfl
          simp only [List.getElem_toArray, List.getElem_cons_zero, List.getElem_cons_succ, Act.put, List.setIfInBounds_toArray, List.set_cons_zero, List.set_cons_succ]
          refine wpAnyH_take (i := 19) (v := ?_) rfl (by kernel_rfl) (by kernel_rfl) (by kernel_rfl) (fun _ _ _ h => h) (Or.inl ⟨rfl, ?_⟩) hHeld ?_
          rotate_left
          · intro w0 hS0
            try dsimp only at hS0
            go_simp
            try with_reducible rfl
          simp only [List.getElem_toArray, List.getElem_cons_zero, List.getElem_cons_succ, Act.put, List.setIfInBounds_toArray, List.set_cons_zero, List.set_cons_succ]
          refine wpAnyH_take (i := 20) (v := ?_) rfl (by kernel_rfl) (by kernel_rfl) (by kernel_rfl) (fun _ _ _ h => h) (Or.inl ⟨rfl, ?_⟩) hHeld ?_
          rotate_left
          · intro w0 hS0
            try dsimp only at hS0
            go_simp
            try with_reducible rfl
          simp only [List.getElem_toArray, List.getElem_cons_zero, List.getElem_cons_succ, Act.put, List.setIfInBounds_toArray, List.set_cons_zero, List.set_cons_succ]
          refine wpAnyH_take (i := 21) (v := ?_) rfl (by kernel_rfl) (by kernel_rfl) (by kernel_rfl) (fun _ _ _ h => h) (Or.inl ⟨rfl, ?_⟩) hHeld ?_
          rotate_left
          · intro w0 hS0
            try dsimp only at hS0
            go_simp
            try with_reducible rfl
          simp only [List.getElem_toArray, List.getElem_cons_zero, List.getElem_cons_succ, Act.put, List.setIfInBounds_toArray, List.set_cons_zero, List.set_cons_succ]
          refine wpAnyH_take (i := 25) (v := ?_) rfl (by kernel_rfl) (by kernel_rfl) (by kernel_rfl) (fun _ _ _ h => h) (Or.inl ⟨rfl, ?_⟩) hHeld ?_
          rotate_left
          · intro w0 hS0
            try dsimp only at hS0
            go_simp
            try with_reducible rfl
          simp only [List.getElem_toArray, List.getElem_cons_zero, List.getElem_cons_succ, Act.put, List.setIfInBounds_toArray, List.set_cons_zero, List.set_cons_succ]
          refine wpAnyH_take (i := 26) (v := ?_) rfl (by kernel_rfl) (by kernel_rfl) (by kernel_rfl) (fun _ _ _ h => h) (Or.inl ⟨rfl, ?_⟩) hHeld ?_
          rotate_left
          · intro w0 hS0
            try dsimp only at hS0
            go_simp
            try with_reducible rfl
          simp only [List.getElem_toArray, List.getElem_cons_zero, List.getElem_cons_succ, Act.put, List.setIfInBounds_toArray, List.set_cons_zero, List.set_cons_succ]
          refine wpAnyH_take (i := 27) (v := ?_) rfl (by kernel_rfl) (by kernel_rfl) (by kernel_rfl) (fun _ _ _ h => h) (Or.inl ⟨rfl, ?_⟩) hHeld ?_
          rotate_left
          · intro w0 hS0
            try dsimp only at hS0
            go_simp
            try with_reducible rfl
          simp only [List.getElem_toArray, List.getElem_cons_zero, List.getElem_cons_succ, Act.put, List.setIfInBounds_toArray, List.set_cons_zero, List.set_cons_succ]
          refine wpAnyH_take (i := 28) (v := ?_) rfl (by kernel_rfl) (by kernel_rfl) (by kernel_rfl) (fun _ _ _ h => h) (Or.inl ⟨rfl, ?_⟩) hHeld ?_
          rotate_left
          · intro w0 hS0
            try dsimp only at hS0
            go_simp
            try with_reducible rfl
          simp only [List.getElem_toArray, List.getElem_cons_zero, List.getElem_cons_succ, Act.put, List.setIfInBounds_toArray, List.set_cons_zero, List.set_cons_succ]
          refine wpAnyH_ready (rs := [22]) (by kernel_rfl) (by simp) ?_
          refine AllReadyH.cons rfl (fun K hK => ?_) AllReadyH.nil
          rw [if_pos (by rfl)]
          go_simp
          have h6a := h6.alloc h6.size (.cells #[.int .u8 (s.size : Int)] 5)
          refine hK.out _ _ (HC.out _ h6a) (fun hHeld => ?_)
          refine wpAnyH_ready (rs := [23]) (by kernel_rfl) (by simp) ?_
          refine AllReadyH.cons rfl (fun K hK => ?_) AllReadyH.nil
          rw [if_pos (by rfl)]
          go_simp
          refine hK.out _ _ (HC.out _ h6a) (fun hHeld => ?_)
          refine wpAnyH_take (i := 24) (v := ?_) rfl (by kernel_rfl) (by kernel_rfl) (by kernel_rfl) (fun _ _ _ h => h) (Or.inl ⟨rfl, ?_⟩) hHeld ?_
          rotate_left
          · intro w0 hS0
            try dsimp only at hS0
            go_simp
            try with_reducible rfl
          simp only [List.getElem_toArray, List.getElem_cons_zero, List.getElem_cons_succ, Act.put, List.setIfInBounds_toArray, List.set_cons_zero, List.set_cons_succ]
          refine wpAnyH_take (i := 29) (v := ?_) rfl (by kernel_rfl) (by kernel_rfl) (by kernel_rfl) (fun _ _ _ h => h) (Or.inl ⟨rfl, ?_⟩) hHeld ?_
          rotate_left
          · intro w0 hS0
            try dsimp only at hS0
            go_simp
            try with_reducible rfl
          simp only [List.getElem_toArray, List.getElem_cons_zero, List.getElem_cons_succ, Act.put, List.setIfInBounds_toArray, List.set_cons_zero, List.set_cons_succ]
          refine wpAnyH_ready (rs := [30]) (by kernel_rfl) (by simp) ?_
          refine AllReadyH.cons rfl (fun K hK => ?_) AllReadyH.nil
          rw [if_pos (by rfl)]
          go_simp
          go_at_call 11
          refine (gets_true p ⟨#[]⟩ 0 5 _ (HT2.out.below h6a) (by omega) hx.out).mono ?_
          rintro e w7 ⟨rfl, hk7⟩
          have h7 := bnext h6a (Nat.le_refl _) hk7
          refine hK.out _ _ (HC.out _ h7) (fun hHeld => ?_)
          refine wpAnyH_take (i := 31) (v := ?_) rfl (by kernel_rfl) (by kernel_rfl) (by kernel_rfl) (fun _ _ _ h => h) (Or.inl ⟨rfl, ?_⟩) hHeld ?_
          rotate_left
          · intro w0 hS0
            try dsimp only at hS0
            go_simp
            try with_reducible rfl
          simp only [List.getElem_toArray, List.getElem_cons_zero, List.getElem_cons_succ, Act.put, List.setIfInBounds_toArray, List.set_cons_zero, List.set_cons_succ]
          refine wpAnyH_take (i := 32) (v := ?_) rfl (by kernel_rfl) (by kernel_rfl) (by kernel_rfl) (fun _ _ _ h => h) (Or.inl ⟨rfl, ?_⟩) hHeld ?_
          rotate_left
          · intro w0 hS0
            try dsimp only at hS0
            go_simp
            try with_reducible rfl
          simp only [List.getElem_toArray, List.getElem_cons_zero, List.getElem_cons_succ, Act.put, List.setIfInBounds_toArray, List.set_cons_zero, List.set_cons_succ]
          refine wpAnyH_done (by kernel_rfl) ?_ _
          clear hHeld cell hconv hconv2 hcat1 hcat2 hcat3
          go_wp2_with fail
          go_roundw
          case rel => exact ⟨k + 1, by go_num, by omega, h7⟩
          case measure => simp [intOf]; omega
        · have hkl : ¬ (k : Int) < 21 := by omega
          have hB := bnext hb2.out (Nat.le_refl _) hbr
          obtain ⟨i0, e1, e2, e3, e4⟩ := info_parts T_u8.hi
          go_wp2_with (at_make; refine wpList_make_full _ rfl _ _ _ rfl 0 5 i0 (.int .u8 0) 1 Tryd.underlying26 e1 e2 e3 .i64 .i64 65536 65536 65536 rfl rfl rfl rfl (by rw [e4]; omega) (by unfold maxLen; omega) (Nat.zero_le _) ?_)
          intro w3 hown hgr
          have hB3 := bnext hB (Nat.le_refl _) (grown_below' hgr)
          obtain ⟨cur, hcur, hcs⟩ : ∃ cur, w3.heap[wr.heap.size]? = some (.cells cur 5 (0, 0)) ∧ cur.size = 65536 := by
            rcases hown.2 with ⟨_, h0⟩ | ⟨b, cap, cur, hv, hb, hg, hcs, _, _⟩
            · omega
            · simp only [Value.slice.injEq, Option.some.injEq, Addr.mk.injEq] at hv
              obtain ⟨⟨rfl, -⟩, -, rfl⟩ := hv
              exact ⟨cur, hg, by omega⟩
          generalize hg3 : wr.heap.size = g3 at hcur
          have hg3B : w.heap.size ≤ g3 := by rw [← hg3]; exact hB.size
          clear hown hgr hbr
          go_wp2_with fail
          go_loopw [6] (fun i wx => ∃ (k : Nat) (cur : Array Value), i = .int .i64 k ∧ k ≤ 65536 ∧ wx.heap[g3]? = some (.cells cur 5 (0, 0)) ∧ cur.size = 65536 ∧ (∀ j, j < k → cur[j]? = some (.int .u8 120)) ∧ Below w.heap.size w wx) (fun i _ => (65536 - intOf i).toNat)
          case atStart => exact ⟨0, cur, rfl, by omega, hcur, hcs, by omega, hB3⟩
          case round =>
            clear hcur hcs hB3
            rename_i cur0
            obtain ⟨k3, cur, rfl, hk3, hcur, hcs, hall, hB3⟩ := hrel
            by_cases hlt3 : k3 < 65536
            · have hk0 : (0 : Int) ≤ k3 := by omega
              have hkl3 : (k3 : Int) < 65536 := by omega
              have c0 := (cell_of_row wr g3 k3 _ _ _ hcur).trans (Array.getElem?_eq_getElem (by omega))
              have f0 := frozen_of_row wr g3 k3 _ _ hcur
              have s0 := heap_setCell_same wr g3 k3 _ _ (.int .u8 120) hcur
              have hB4 := hB3.setCell (p := ⟨g3, k3, none⟩) hg3B (.int .u8 120)
              go_wp2_with fail
              go_roundw
              case rel => exact ⟨k3 + 1, cur.setIfInBounds k3 (.int .u8 120), by go_num, by omega, s0, by simpa using hcs, fun j hj => by
                rw [Array.getElem?_setIfInBounds]
                split
                · rename_i h; subst h; simp; omega
                · exact hall j (by omega), hB4⟩
              case measure => simp [intOf]; omega
            · have hkl3 : ¬ (k3 : Int) < 65536 := by omega
              obtain rfl : k3 = 65536 := by omega
              have hcell : ∀ (n j : Nat), j < 65536 → (wr.drewN n).cell? ⟨g3, j, none⟩ = some (.int .u8 120) := fun n j hj => (cell_of_row wr g3 j _ _ _ hcur).trans (hall j hj)
              have hc1 : ∀ n, (convert 26 9 (.slice (some ⟨g3, 1, none⟩) 65535 65535)).run Tryd.prog (wr.drewN n) = .ok (.string (xb 65535)) (wr.drewN n) := fun n => conv_xs _ g3 1 65535 65535 (fun i hi => hcell n (1 + i) (by omega))
              have hc2 : ∀ n, (convert 26 9 (.slice (some ⟨g3, 0, none⟩) 65536 65536)).run Tryd.prog (wr.drewN n) = .ok (.string (xb 65536)) (wr.drewN n) := fun n => conv_xs _ g3 0 65536 65536 (fun i hi => by rw [Nat.zero_add]; exact hcell n i hi)
              clear hcell hall
              go_wp2_with fail
              go_quiet (fail)
              have hbz := below_drewN hB3 nq
              clear hb hB3 hcur hc1 hc2
              have hb := hbz
              clear hbz
              generalize wr.drewN nq = W4 at *
              obtain ⟨sp, sc, hsz, hsc, F1, F2, F3, F4, F5, F6⟩ := parts_of 65535 65536 65536 65537 65537 (by omega) (by omega) (by omega) (by omega) (by omega)
              go_wp2_with fail
              replace hb := hb.alloc hb.size (.cells #[.string (xb 65535)] 9)
              refine (put1 (xb 65535) sp 0 _ _ _ (HT.out.below hb) (row_new W4 [.string (xb 65535)] 9) (by rw [xb_size]; omega) F1.out).mono ?_
              rintro e w1 ⟨rfl, hk1⟩
              replace hb := bnext hb (Nat.le_refl _) hk1
              clear hk1
              go_wp2_with fail
              replace hb := hb.alloc hb.size (.cells #[.string ⟨#[97]⟩, .string (xb 65536)] 9)
              refine (put2 ⟨#[97]⟩ (xb 65536) ⟨#[]⟩ 5 _ _ _ (HT.out.below hb) (row_new w1 [.string ⟨#[97]⟩, .string (xb 65536)] 9) (by decide) (by rw [xb_size]; omega) F2.out).mono ?_
              rintro e w2 ⟨rfl, hk1⟩
              replace hb := bnext hb (Nat.le_refl _) hk1
              clear hk1
              go_wp2_with fail
              refine (putData_of sp 0 (xb 65535) _ (by rw [xb_size]; omega) F3.out).mono ?_
              rintro e w3 ⟨rfl, hk⟩
              replace hb := bnext hb (Nat.le_refl _) hk
              clear hk
              go_wp2_with fail
              refine (putData_of ⟨#[]⟩ 3 (xb 65536) _ (by rw [xb_size]; omega) F4.out).mono ?_
              rintro e w4 ⟨rfl, hk⟩
              replace hb := bnext hb (Nat.le_refl _) hk
              clear hk
              go_wp2_with fail
              refine (valid_s true (xb 65535) _ (HT.out.below hb) (by rw [xb_size]; omega) (xb_ok (Nat.le_refl _)).1).mono ?_
              rintro e w5 ⟨rfl, hk⟩
              replace hb := bnext hb (Nat.le_refl _) hk
              clear hk
              go_wp2_with fail
              refine (count_s 65535 (xb 65535) _ (HT.out.below hb) (by rw [xb_size]; omega) (xb_ok (Nat.le_refl _)).2).mono ?_
              rintro e w6 ⟨rfl, hk⟩
              replace hb := bnext hb (Nat.le_refl _) hk
              clear hk
              go_wp2_with fail
              refine (valid_s false (xb 65536) _ (HT.out.below hb) (by rw [xb_size]; omega) (xb_long (by omega))).mono ?_
              rintro e w7 ⟨rfl, hk⟩
              replace hb := bnext hb (Nat.le_refl _) hk
              clear hk
              go_wp2_with fail
              refine (gets_true sp (xb 65535) 65537 0 _ (HT.out.below hb) F5.out.1 F5.out.2).mono ?_
              rintro e w8 ⟨rfl, hk⟩
              replace hb := bnext hb (Nat.le_refl _) hk
              clear hk
              go_wp2_with fail
              refine (gets_true sc ⟨#[]⟩ 0 2 _ (HT.out.below hb) F6.out.1 F6.out.2).mono ?_
              rintro e w9 ⟨rfl, hk⟩
              replace hb := bnext hb (Nat.le_refl _) hk
              clear hk
              go_wp2_with fail
              replace hb := hb.alloc hb.size (.cells #[.string ⟨#[97]⟩, .string ⟨#[]⟩] 9)
              refine (put2 ⟨#[97]⟩ ⟨#[]⟩ ⟨#[0, 1, 97, 0, 0]⟩ 0 _ _ _ (HT.out.below hb) (row_new w9 [.string ⟨#[97]⟩, .string ⟨#[]⟩] 9) (by decide) (by decide) ⟨bytes_of q1.1, q1.2⟩).mono ?_
              rintro e wa ⟨rfl, hk1⟩
              replace hb := bnext hb (Nat.le_refl _) hk1
              clear hk1
              go_wp2_with fail
              refine (gets_true _ _ _ _ _ (HT.out.below hb) (by decide) ⟨bytes_of q2.1, q2.2.1, q2.2.2⟩).mono ?_
              rintro e wb ⟨rfl, hk⟩
              replace hb := bnext hb (Nat.le_refl _) hk
              clear hk
              go_wp2_with fail
              refine (gets_true _ _ _ _ _ (HT.out.below hb) (by decide) ⟨bytes_of q3.1, q3.2.1, q3.2.2⟩).mono ?_
              rintro e wc ⟨rfl, hk⟩
              replace hb := bnext hb (Nat.le_refl _) hk
              clear hk
              go_wp2_with fail
              refine (gets_true _ _ _ _ _ (HT.out.below hb) (by decide) ⟨bytes_of q4.1, q4.2.1, q4.2.2⟩).mono ?_
              rintro e wd ⟨rfl, hk⟩
              replace hb := bnext hb (Nat.le_refl _) hk
              clear hk
              go_wp2_with fail
              refine (awake_true _ (HT.out.below hb)).mono ?_
              rintro e we ⟨rfl, hk⟩
              replace hb := bnext hb (Nat.le_refl _) hk
              clear hk
              go_wp2_with fail
              go_ret
              exact ⟨rfl, by rw [← hg]; exact hb⟩
end Go.Proofs.YtjpefeopfbgnhaaDoor
