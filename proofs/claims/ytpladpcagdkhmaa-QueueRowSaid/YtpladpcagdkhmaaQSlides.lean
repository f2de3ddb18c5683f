import Derived.Test.YtpladpcagdkhmaaQAwake
namespace Go.Proofs.Ytpladpcagdkhmaa
open Go Go.RowKit

/-- a number as two bytes -/
def numB (n : Int) : ByteArray := ⟨[UInt8.ofNat (n / 256).toNat, UInt8.ofNat (n % 256).toNat].toArray⟩
theorem number_at (n : Int) (w : World) (h0 : 0 ≤ n) (h1 : n ≤ 65535) :
    Calls Try.prog 23 #[.int .i64 n] w fun e w' => e = .returned (.string (numB n)) ∧ ∃ o, w' = w.alloc o := by
  have hconv := fun (w : World) (x y : Int) => run_string_new (P := Try.prog) Try.underlying51 Try.underlying5 Try.underlying9 [x, y] 2 w
  simp only [List.map_cons, List.map_nil, List.length_cons, List.length_nil] at hconv
  go_enter Try.func23, Try.ntmps23
  go_wp2_with fail
  go_ret
  exact ⟨rfl, _, rfl⟩
/-- the message with a number -/
def numMsg (j : Nat) : Msg := ⟨⟨#[]⟩, numB j, 0, false⟩
/-- what slides -/
def slideC (n k : Nat) : List Msg := (List.range' (k - min k n) (min k n)).map numMsg
theorem slideC_grow (n k : Nat) (h : k < n) : slideC n (k + 1) = slideC n k ++ [numMsg k] := by
  unfold slideC
  rw [Nat.min_eq_left (by omega), Nat.min_eq_left (by omega), Nat.sub_self, Nat.sub_self, List.range'_1_concat]
  simp
theorem slideC_head (n k : Nat) (h0 : 0 < n) (h : n ≤ k) : slideC n k = numMsg (k - n) :: (List.range' (k - n + 1) (n - 1)).map numMsg := by
  unfold slideC
  rw [Nat.min_eq_right h]
  obtain ⟨j, rfl⟩ : ∃ j, n = j + 1 := ⟨n - 1, by omega⟩
  rw [List.range'_succ]; rfl
theorem slideC_slide (n k : Nat) (h0 : 0 < n) (h : n ≤ k) : slideC n (k + 1) = (List.range' (k - n + 1) (n - 1)).map numMsg ++ [numMsg k] := by
  unfold slideC
  rw [Nat.min_eq_right (by omega)]
  obtain ⟨j, rfl⟩ : ∃ j, n = j + 1 := ⟨n - 1, by omega⟩
  rw [show k + 1 - (j + 1) = k - (j + 1) + 1 by omega, List.range'_1_concat, List.map_append]
  simp only [Nat.add_sub_cancel, List.map_cons, List.map_nil]
  rw [show k - (j + 1) + 1 + j = k by omega]
theorem slideC_zero (n : Nat) : slideC n 0 = [] := by simp [slideC]
theorem slideC_len (n k : Nat) : (slideC n k).length = min k n := by simp [slideC]

set_option maxRecDepth 100000 in
set_option maxHeartbeats 4000000 in
set_option linter.unusedSimpArgs false in
theorem slides_true (most len many : Int) (w : World) (hm0 : -9223372036854775808 ≤ most) (hm1 : most ≤ 9223372036854775807) (hl0 : 0 ≤ len) (hl1 : len ≤ 255) (hy0 : 0 ≤ many) (hy1 : many ≤ 65535) :
    Calls Try.prog 6 #[.int .i64 most, .int .u8 len, .int .u16 many] w fun e w' => e = .returned (.bool true) ∧ Below w.heap.size w w' := by
  by_cases hout : most < 1 ∨ 1024 < most
  · skip
    go_enter Try.func6, Try.ntmps6
    go_wp2_with fail
    refine (qnew_out most _ hout).mono ?_
    rintro e w' ⟨rfl, rfl⟩
    go_wp2_with fail
    refine (awake_true _).mono ?_
    rintro e w1 ⟨rfl, hb⟩
    go_wp2_with fail
    go_ret
    exact ⟨rfl, hb⟩
  have ho0 : 1 ≤ most := by omega
  have ho1 : most ≤ 1024 := by omega
  clear hout
  by_cases hbig : 2000 < many
  · skip
    go_enter Try.func6, Try.ntmps6
    go_wp2_with fail
    refine (qnew_any most _ ⟨ho0, ho1⟩).mono ?_
    rintro e w1 ⟨g, rfl, hq, hu⟩
    obtain ⟨hb, hF⟩ := upd_below (Below.refl w.heap.size w) (Nat.le_refl _) (by simp) hu
    clear hu
    go_wp2_with fail
    refine (awake_true _).mono ?_
    rintro e w2 ⟨rfl, hk⟩
    replace hb := bnext hb (Nat.le_refl _) hk
    clear hk
    go_wp2_with fail
    go_ret
    exact ⟨rfl, hb⟩
  have hb0 : decide (2000 < many) = false := by simp; omega
  obtain ⟨N, rfl⟩ := Int.eq_ofNat_of_zero_le hy0
  have hm41 : 0 ≤ len % 41 ∧ len % 41 ≤ 40 := by omega
  rcases Int.lt_or_le most (len % 41) with hc | hc
  case' inl =>
    obtain ⟨n, rfl⟩ := Int.eq_ofNat_of_zero_le (show 0 ≤ most by omega)
    have hnm : (n : Int) ≤ n := Int.le_refl _
  case' inr =>
    obtain ⟨n, hn⟩ := Int.eq_ofNat_of_zero_le hm41.1
    have hnm : (n : Int) ≤ most := by omega
    have hc' : ¬ most < n := by omega
  all_goals
    have hn41 : n ≤ 1024 := by omega
    clear hm41
    go_enter Try.func6, Try.ntmps6
    go_wp2_with fail
    refine (qnew_any _ _ ⟨ho0, ho1⟩).mono ?_
    rintro e w1 ⟨g, rfl, hq, hu⟩
    obtain ⟨hb, hF⟩ := upd_below (Below.refl w.heap.size w) (Nat.le_refl _) (by simp) hu
    clear hu
    have HB := Lib.hid hb
    have HF := Lib.hid hF
    clear hb hF
    go_wp2_with fail
    try simp only [hn]
    go_loopw [9] (fun i wr => ∃ k : Nat, i = .int .i64 k ∧ k ≤ N ∧ Below w.heap.size w wr ∧ ∃ F, QRep wr g (slideC n k) _ F ∧ ∀ x ∈ F, w.heap.size ≤ x) (fun i _ => (N - intOf i).toNat)
    case atStart => exact ⟨0, rfl, by omega, HB.out, _, by rw [slideC_zero]; exact hq, HF.out⟩
    case round =>
      obtain ⟨k, rfl, hkN, hbr, F, hq, hF⟩ := hrel
      by_cases hlt : k < N
      · have hk0 : (0 : Int) ≤ k := by omega
        have hkl : (k : Int) < N := by omega
        have hw0 : IntKind.i64.wrap (N : Int) = N := w_i64 _ (by omega) (by omega)
        have hw1 : IntKind.i64.wrap ((k : Int) + 1) = (k : Int) + 1 := w_i64 _ (by omega) (by omega)
        by_cases hkn : n ≤ k
        · have hkn' : (n : Int) ≤ k := by omega
          rcases Nat.eq_zero_or_pos n with hn0 | hn0
          · first
            | omega
            | (have hz : slideC n k = [] := by rw [hn0]; simp [slideC]
               have hz1 : slideC n (k + 1) = [] := by rw [hn0]; simp [slideC]
               have hnp : ¬ (0 : Int) < n := by omega
               have hnz : ((n : Int) == 0) = true := by simp; omega
               have hq0 : decide (0 < n) = false := by simp; omega
               have hq1 : decide (n = 0) = true := by simp; omega
               have hq2 : (n == 0) = true := by simp; omega
               have HN0 := Lib.hid hn0
               clear hn0
               rw [hz] at hq
               go_wp2_with fail
               refine (qpop_empty g _ _ _ hq).mono ?_
               rintro e wb ⟨rfl, hk⟩
               replace hq := qbelow hq hk
               replace hbr := bnext hbr (Nat.le_refl _) hk
               clear hk
               simp only [Msg.val, Msg.none]
               obtain ⟨-, hx1, -, -⟩ := cells4 (heap_alloc_new wb (.cells #[.string ⟨#[]⟩, .string ⟨#[]⟩, .int .u8 0, .bool false] 28))
               replace hq := qalloc hq (.cells #[.string ⟨#[]⟩, .string ⟨#[]⟩, .int .u8 0, .bool false] 28)
               replace hbr := hbr.alloc hbr.size (.cells #[.string ⟨#[]⟩, .string ⟨#[]⟩, .int .u8 0, .bool false] 28)
               generalize hbx : wb.heap.size = bx at hx1
               go_wp2_with fail
               generalize wb.alloc (.cells #[.string ⟨#[]⟩, .string ⟨#[]⟩, .int .u8 0, .bool false] 28) = Wx at *
               clear hbx
               go_quiet (fail)
               have hmn : (n : Int) < (k : Int) + 1 := by omega
               go_wp2_with fail
               refine (qlen_of n g _ _ _ _ (hq.drewN _) (by rw [HN0.out]; rfl)).mono ?_
               rintro e w8 ⟨rfl, m8, rfl⟩
               go_wp2_with fail
               go_roundw
               case rel => exact ⟨k + 1, by go_num, by omega, below_drewN hbr _, _, by rw [hz1]; exact hq.drewN _, hF⟩
               case measure => simp [intOf]; omega)
          · have hnp : (0 : Int) < n := by omega
            have hw2 : IntKind.i64.wrap ((k : Int) - n) = (k : Int) - n := w_i64 _ (by omega) (by omega)
            rw [slideC_head n k hn0 hkn] at hq
            go_wp2_with fail
            refine (qpop_some g _ _ _ _ _ hq).mono ?_
            rintro e wb ⟨rfl, Fb, hqb, hu⟩
            obtain ⟨hbb, hFb⟩ := upd_below hbr (Nat.le_refl _) hF hu
            clear hu hq hbr hF
            simp only [Msg.val, numMsg]
            obtain ⟨-, hx1, -, -⟩ := cells4 (heap_alloc_new wb (.cells #[.string ⟨#[]⟩, .string (numB ((k - n : Nat) : Int)), .int .u8 0, .bool false] 28))
            have hbxl : wb.heap.size < (wb.alloc (.cells #[.string ⟨#[]⟩, .string (numB ((k - n : Nat) : Int)), .int .u8 0, .bool false] 28)).heap.size := by simp
            replace hqb := qalloc hqb (.cells #[.string ⟨#[]⟩, .string (numB ((k - n : Nat) : Int)), .int .u8 0, .bool false] 28)
            replace hbb := hbb.alloc hbb.size (.cells #[.string ⟨#[]⟩, .string (numB ((k - n : Nat) : Int)), .int .u8 0, .bool false] 28)
            rw [show ((k - n : Nat) : Int) = (k : Int) - n by omega] at *
            generalize hbx : wb.heap.size = bx at hx1 hbxl
            go_wp2_with fail
            generalize wb.alloc (.cells #[.string ⟨#[]⟩, .string (numB ((k : Int) - n)), .int .u8 0, .bool false] 28) = Wx at *
            clear hbx
            have hne := World.new_ne Wx _ hx1
            have hp0 : 0 ≤ (k : Int) - n := by omega
            have hp1 : (k : Int) - n ≤ 65535 := by omega
            have hnz : ((n : Int) == 0) = false := by simp; omega
            have hnz' : decide ((n : Int) = 0) = false := by simp; omega
            refine wp_region_held_drew (S := fun w' => w'.cell? ⟨bx, 1, none⟩ = some (.string (numB ((k : Int) - n)))) (by kernel_rfl) hx1 (fun hHeld => ?_)
            refine wpAnyH_take (i := 0) (v := ?_) rfl (by kernel_rfl) (by kernel_rfl) (by kernel_rfl) (fun _ _ _ h => h) (Or.inl ⟨rfl, ?_⟩) hHeld ?_
            rotate_left
            · intro w0 hS0
              try dsimp only at hS0
              go_simp
              try with_reducible rfl
            simp only [List.getElem_toArray, List.getElem_cons_zero, List.getElem_cons_succ, Act.put, List.setIfInBounds_toArray, List.set_cons_zero, List.set_cons_succ]
            refine wpAnyH_take (i := 1) (v := ?_) rfl (by kernel_rfl) (by kernel_rfl) (by kernel_rfl) (fun _ _ _ h => h) (Or.inl ⟨rfl, ?_⟩) hHeld ?_
            rotate_left
            · intro w0 hS0
              try dsimp only at hS0
              go_simp
              try with_reducible rfl
            simp only [List.getElem_toArray, List.getElem_cons_zero, List.getElem_cons_succ, Act.put, List.setIfInBounds_toArray, List.set_cons_zero, List.set_cons_succ]
            refine wpAnyH_take (i := 2) (v := ?_) rfl (by kernel_rfl) (by kernel_rfl) (by kernel_rfl) (fun _ _ _ h => h) (Or.inl ⟨rfl, ?_⟩) hHeld ?_
            rotate_left
            · intro w0 hS0
              try dsimp only at hS0
              go_simp
              try with_reducible rfl
            simp only [List.getElem_toArray, List.getElem_cons_zero, List.getElem_cons_succ, Act.put, List.setIfInBounds_toArray, List.set_cons_zero, List.set_cons_succ]
            refine wpAnyH_take (i := 3) (v := ?_) rfl (by kernel_rfl) (by kernel_rfl) (by kernel_rfl) (fun _ _ _ h => h) (Or.inl ⟨rfl, ?_⟩) hHeld ?_
            rotate_left
            · intro w0 hS0
              try dsimp only at hS0
              go_simp
              try with_reducible rfl
            simp only [List.getElem_toArray, List.getElem_cons_zero, List.getElem_cons_succ, Act.put, List.setIfInBounds_toArray, List.set_cons_zero, List.set_cons_succ]
            refine wpAnyH_take (i := 4) (v := ?_) rfl (by kernel_rfl) (by kernel_rfl) (by kernel_rfl) (fun _ _ _ h => h) (Or.inl ⟨rfl, ?_⟩) hHeld ?_
            rotate_left
            · intro w0 hS0
              try dsimp only at hS0
              go_simp
              try with_reducible rfl
            simp only [List.getElem_toArray, List.getElem_cons_zero, List.getElem_cons_succ, Act.put, List.setIfInBounds_toArray, List.set_cons_zero, List.set_cons_succ]
            refine wpAnyH_take (i := 5) (v := ?_) rfl (by kernel_rfl) (by kernel_rfl) (by kernel_rfl) (fun _ _ _ h => h) (Or.inl ⟨rfl, ?_⟩) hHeld ?_
            rotate_left
            · intro w0 hS0
              try dsimp only at hS0
              go_simp
              try with_reducible rfl
            simp only [List.getElem_toArray, List.getElem_cons_zero, List.getElem_cons_succ, Act.put, List.setIfInBounds_toArray, List.set_cons_zero, List.set_cons_succ]
            refine wpAnyH_take (i := 6) (v := ?_) rfl (by kernel_rfl) (by kernel_rfl) (by kernel_rfl) (fun _ _ _ h => h) (Or.inl ⟨rfl, ?_⟩) hHeld ?_
            rotate_left
            · intro w0 hS0
              try dsimp only at hS0
              go_simp
              try with_reducible rfl
            simp only [List.getElem_toArray, List.getElem_cons_zero, List.getElem_cons_succ, Act.put, List.setIfInBounds_toArray, List.set_cons_zero, List.set_cons_succ]
            refine wpAnyH_take (i := 7) (v := ?_) rfl (by kernel_rfl) (by kernel_rfl) (by kernel_rfl) (fun _ _ _ h => h) (Or.inl ⟨rfl, ?_⟩) hHeld ?_
            rotate_left
            · intro w0 hS0
              try dsimp only at hS0
              go_simp
              try with_reducible rfl
            simp only [List.getElem_toArray, List.getElem_cons_zero, List.getElem_cons_succ, Act.put, List.setIfInBounds_toArray, List.set_cons_zero, List.set_cons_succ]
            refine wpAnyH_take (i := 8) (v := ?_) rfl (by kernel_rfl) (by kernel_rfl) (by kernel_rfl) (fun _ _ _ h => h) (Or.inl ⟨rfl, ?_⟩) hHeld ?_
            rotate_left
            · intro w0 hS0
              try dsimp only at hS0
              go_simp
              try with_reducible rfl
            simp only [List.getElem_toArray, List.getElem_cons_zero, List.getElem_cons_succ, Act.put, List.setIfInBounds_toArray, List.set_cons_zero, List.set_cons_succ]
            refine wpAnyH_take (i := 9) (v := ?_) rfl (by kernel_rfl) (by kernel_rfl) (by kernel_rfl) (fun _ _ _ h => h) (Or.inl ⟨rfl, ?_⟩) hHeld ?_
            rotate_left
            · intro w0 hS0
              try dsimp only at hS0
              go_simp
              try with_reducible rfl
            simp only [List.getElem_toArray, List.getElem_cons_zero, List.getElem_cons_succ, Act.put, List.setIfInBounds_toArray, List.set_cons_zero, List.set_cons_succ]
            refine wpAnyH_take (i := 10) (v := ?_) rfl (by kernel_rfl) (by kernel_rfl) (by kernel_rfl) (fun _ _ _ h => h) (Or.inl ⟨rfl, ?_⟩) hHeld ?_
            rotate_left
            · intro w0 hS0
              try dsimp only at hS0
              go_simp
              try with_reducible rfl
            simp only [List.getElem_toArray, List.getElem_cons_zero, List.getElem_cons_succ, Act.put, List.setIfInBounds_toArray, List.set_cons_zero, List.set_cons_succ]
            refine wpAnyH_ready (rs := [11]) (by kernel_rfl) (by simp) ?_
            refine AllReadyH.cons rfl (fun K hK => ?_) AllReadyH.nil
            rw [if_pos (by rfl)]
            go_simp
            go_at_call 23
            refine (number_at _ _ hp0 hp1).mono ?_
            rintro e w6 ⟨rfl, o, rfl⟩
            refine hK.out _ _ (by rw [World.cell?_alloc_some _ _ _ (by simp [hHeld])]; exact hHeld) (fun hHeld => ?_)
            refine wpAnyH_take (i := 12) (v := ?_) rfl (by kernel_rfl) (by kernel_rfl) (by kernel_rfl) (fun _ _ _ h => h) (Or.inl ⟨rfl, ?_⟩) hHeld ?_
            rotate_left
            · intro w0 hS0
              try dsimp only at hS0
              go_simp
              try with_reducible rfl
            simp only [List.getElem_toArray, List.getElem_cons_zero, List.getElem_cons_succ, Act.put, List.setIfInBounds_toArray, List.set_cons_zero, List.set_cons_succ]
            refine wpAnyH_take (i := 13) (v := ?_) rfl (by kernel_rfl) (by kernel_rfl) (by kernel_rfl) (fun _ _ _ h => h) (Or.inl ⟨rfl, ?_⟩) hHeld ?_
            rotate_left
            · intro w0 hS0
              try dsimp only at hS0
              go_simp
              try with_reducible rfl
            simp only [List.getElem_toArray, List.getElem_cons_zero, List.getElem_cons_succ, Act.put, List.setIfInBounds_toArray, List.set_cons_zero, List.set_cons_succ]
            refine wpAnyH_take (i := 14) (v := ?_) rfl (by kernel_rfl) (by kernel_rfl) (by kernel_rfl) (fun _ _ _ h => h) (Or.inl ⟨rfl, ?_⟩) hHeld ?_
            rotate_left
            · intro w0 hS0
              try dsimp only at hS0
              go_simp
              try with_reducible rfl
            simp only [List.getElem_toArray, List.getElem_cons_zero, List.getElem_cons_succ, Act.put, List.setIfInBounds_toArray, List.set_cons_zero, List.set_cons_succ]
            refine wpAnyH_take (i := 15) (v := ?_) rfl (by kernel_rfl) (by kernel_rfl) (by kernel_rfl) (fun _ _ _ h => h) (Or.inl ⟨rfl, ?_⟩) hHeld ?_
            rotate_left
            · intro w0 hS0
              try dsimp only at hS0
              go_simp
              try with_reducible rfl
            simp only [List.getElem_toArray, List.getElem_cons_zero, List.getElem_cons_succ, Act.put, List.setIfInBounds_toArray, List.set_cons_zero, List.set_cons_succ]
            refine wpAnyH_take (i := 16) (v := ?_) rfl (by kernel_rfl) (by kernel_rfl) (by kernel_rfl) (fun _ _ _ h => h) (Or.inl ⟨rfl, ?_⟩) hHeld ?_
            rotate_left
            · intro w0 hS0
              try dsimp only at hS0
              go_simp
              try with_reducible rfl
            simp only [List.getElem_toArray, List.getElem_cons_zero, List.getElem_cons_succ, Act.put, List.setIfInBounds_toArray, List.set_cons_zero, List.set_cons_succ]
            refine wpAnyH_take (i := 17) (v := ?_) rfl (by kernel_rfl) (by kernel_rfl) (by kernel_rfl) (fun _ _ _ h => h) (Or.inl ⟨rfl, ?_⟩) hHeld ?_
            rotate_left
            · intro w0 hS0
              try dsimp only at hS0
              go_simp
              try with_reducible rfl
            simp only [List.getElem_toArray, List.getElem_cons_zero, List.getElem_cons_succ, Act.put, List.setIfInBounds_toArray, List.set_cons_zero, List.set_cons_succ]
            refine wpAnyH_take (i := 18) (v := ?_) rfl (by kernel_rfl) (by kernel_rfl) (by kernel_rfl) (fun _ _ _ h => h) (Or.inl ⟨rfl, ?_⟩) hHeld ?_
            rotate_left
            · intro w0 hS0
              try dsimp only at hS0
              go_simp
              try with_reducible rfl
            simp only [List.getElem_toArray, List.getElem_cons_zero, List.getElem_cons_succ, Act.put, List.setIfInBounds_toArray, List.set_cons_zero, List.set_cons_succ]
            refine wpAnyH_take (i := 19) (v := undef) rfl (by kernel_rfl) (by kernel_rfl) (by kernel_rfl) (fun _ _ _ h => h) (Or.inr ⟨rfl, rfl⟩) hHeld ?_
            simp only [List.getElem_toArray, List.getElem_cons_zero, List.getElem_cons_succ, Act.put, List.setIfInBounds_toArray, List.set_cons_zero, List.set_cons_succ]
            refine wpAnyH_take (i := 20) (v := ?_) rfl (by kernel_rfl) (by kernel_rfl) (by kernel_rfl) (fun _ _ _ h => h) (Or.inl ⟨rfl, ?_⟩) hHeld ?_
            rotate_left
            · intro w0 hS0
              try dsimp only at hS0
              go_simp
              try with_reducible rfl
            simp only [List.getElem_toArray, List.getElem_cons_zero, List.getElem_cons_succ, Act.put, List.setIfInBounds_toArray, List.set_cons_zero, List.set_cons_succ]
            refine wpAnyH_take (i := 21) (v := ?_) rfl (by kernel_rfl) (by kernel_rfl) (by kernel_rfl) (fun _ _ _ h => h) (Or.inl ⟨rfl, ?_⟩) hHeld ?_
            rotate_left
            · intro w0 hS0
              try dsimp only at hS0
              go_simp
              try with_reducible rfl
            simp only [List.getElem_toArray, List.getElem_cons_zero, List.getElem_cons_succ, Act.put, List.setIfInBounds_toArray, List.set_cons_zero, List.set_cons_succ]
            refine wpAnyH_done (by kernel_rfl) ?_ _
            refine (?_ : ∀ W : World, QRep W g _ _ Fb → Below w.heap.size w W → Exit.then _ _ Exit.normal _ W) _ (qalloc (w := Wx.drew) hqb o) ((hbb.drew).alloc (hbb.drew).size o)
            clear hHeld hx1 hne hbxl hbb hqb
            intro W hqb hbb
            go_wp2_with fail
            refine (number_at _ _ hk0 (by omega)).mono ?_
            rintro e w7 ⟨rfl, o7, rfl⟩
            go_wp2_with fail
            refine (qpush_room g _ _ _ ⟨⟨#[]⟩, numB k, 0, false⟩ _ (qalloc hqb o7) (by simp; omega)).mono ?_
            rintro e wc ⟨rfl, Fc, hqc, hu⟩
            obtain ⟨hbc, hFc⟩ := upd_below (hbb.alloc hbb.size o7) (Nat.le_refl _) hFb hu
            clear hu hqb hbb hFb
            have hmn : (n : Int) < (k : Int) + 1 := by omega
            go_wp2_with fail
            refine (qlen_of n g _ _ _ _ hqc (by simp; omega)).mono ?_
            rintro e w8 ⟨rfl, m8, rfl⟩
            go_wp2_with fail
            go_roundw
            case rel => exact ⟨k + 1, by go_num, by omega, below_drewN hbc _, _, by rw [slideC_slide n k hn0 hkn]; exact hqc.drewN m8, hFc⟩
            case measure => simp [intOf]; omega
        · have hkn' : (k : Int) < n := by omega
          have hnp : (0 : Int) < n := by omega
          have hmn : ¬ (n : Int) < (k : Int) + 1 := by omega
          have hln : ((slideC n k).length : Int) = k := by rw [slideC_len]; omega
          go_wp2_with fail
          refine (number_at _ _ hk0 (by omega)).mono ?_
          rintro e w7 ⟨rfl, o7, rfl⟩
          go_wp2_with fail
          refine (qpush_room g _ _ _ ⟨⟨#[]⟩, numB k, 0, false⟩ _ (qalloc hq o7) (by omega)).mono ?_
          rintro e wc ⟨rfl, Fc, hqc, hu⟩
          obtain ⟨hbc, hFc⟩ := upd_below (hbr.alloc hbr.size o7) (Nat.le_refl _) hF hu
          clear hu hq hbr hF
          go_wp2_with fail
          refine (qlen_of ((k : Int) + 1) g _ _ _ _ hqc (by rw [List.length_append]; simp; omega)).mono ?_
          rintro e w8 ⟨rfl, m8, rfl⟩
          go_wp2_with fail
          go_roundw
          case rel => exact ⟨k + 1, by go_num, by omega, below_drewN hbc _, _, by rw [slideC_grow n k (by omega)]; exact hqc.drewN m8, hFc⟩
          case measure => simp [intOf]; omega
      · have hkl : ¬ (k : Int) < N := by omega
        have hw0 : IntKind.i64.wrap (N : Int) = N := w_i64 _ (by omega) (by omega)
        replace hb := hbr
        clear hbr hq hF
        go_wp2_with fail
        refine (awake_true _).mono ?_
        rintro e w7 ⟨rfl, hk⟩
        replace hb := bnext hb (Nat.le_refl _) hk
        clear hk
        go_wp2_with fail
        go_ret
        exact ⟨rfl, hb⟩
end Go.Proofs.Ytpladpcagdkhmaa
