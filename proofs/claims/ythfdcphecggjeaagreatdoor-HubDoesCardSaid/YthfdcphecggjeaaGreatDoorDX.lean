/- The document's hash: the plain law. No program in sight. The document's hash: walked. The document's home: walked. The document's log: Add walked. -/
import Derived.Test.YthfdcphecggjeaaGreatDoorQT
import Derived.Test.YthfdcphecggjeaaGreatDoorQW
import Derived.Deep.QuietTactic
import Derived.BigQuiet
import Derived.Test.YthfdcphecggjeaaGreatDoorQV
namespace Go.Proofs.YthfdcphecggjeaaGreatDoor
section
open Go

theorem xor_low (h : Nat) (b : Nat) (hb : b < 256) : h ^^^ b = (h - h % 256) + ((h % 256) ^^^ b) := by
  have h1 : (h ^^^ b) / 2 ^ 8 = h / 2 ^ 8 := by
    rw [Nat.xor_div_two_pow, Nat.div_eq_of_lt (show b < 2 ^ 8 by omega), Nat.xor_zero]
  have h2 : (h ^^^ b) % 2 ^ 8 = (h % 2 ^ 8) ^^^ b := by
    rw [Nat.xor_mod_two_pow, Nat.mod_eq_of_lt (show b < 2 ^ 8 by omega)]
  have h3 := Nat.div_add_mod (h ^^^ b) (2 ^ 8)
  have h4 := Nat.div_add_mod h (2 ^ 8)
  rw [h1, h2] at h3
  have e : (2 : Nat) ^ 8 = 256 := by decide
  rw [e] at h3 h4
  omega
theorem xor_low_lt {h b : Nat} (hb : b < 256) : (h % 256) ^^^ b < 256 := Nat.xor_lt_two_pow (n := 8) (Nat.mod_lt _ (by decide)) hb
/-- one bit more -/
theorem bit_more (x k : Nat) : x % 2 ^ (k + 1) = x % 2 ^ k + 2 ^ k * (x / 2 ^ k % 2) := by
  rw [Nat.pow_succ, Nat.mod_mul]
theorem bit_xor (l b k : Nat) : (l ^^^ b) / 2 ^ k % 2 = if l / 2 ^ k % 2 ≠ b / 2 ^ k % 2 then 1 else 0 := by
  rw [Nat.xor_div_two_pow]
  have hx : (l / 2 ^ k ^^^ b / 2 ^ k) % 2 = ((l / 2 ^ k % 2) ^^^ (b / 2 ^ k % 2)) := by
    have := Nat.xor_mod_two_pow (a := l / 2 ^ k) (b := b / 2 ^ k) (n := 1)
    simpa using this
  rw [hx]
  have h1 := Nat.mod_lt (l / 2 ^ k) (show 0 < 2 by decide)
  have h2 := Nat.mod_lt (b / 2 ^ k) (show 0 < 2 by decide)
  generalize l / 2 ^ k % 2 = u at *
  generalize b / 2 ^ k % 2 = v at *
  have hu : u = 0 ∨ u = 1 := by omega
  have hv : v = 0 ∨ v = 1 := by omega
  rcases hu with rfl | rfl <;> rcases hv with rfl | rfl <;> decide
end
section
open Go Go.RowKit

theorem bit_val (L Q : Nat) (hL : L < 256) : (IntKind.u64.wrap ((L : Int) / (Q : Int))).tmod 2 = ((L / Q % 2 : Nat) : Int) := by
  have h := Nat.div_le_self L Q
  rw [IntKind.wrap_u64, ← Int.natCast_ediv]
  generalize L / Q = x at *
  rw [show (x : Int) % 18446744073709551616 = (x : Int) by omega, show (2 : Int) = ((2 : Nat) : Int) from rfl, Int.ofNat_tmod]
theorem bit_go {L B X D n Q Y : Nat} (hL : L < 256) (hB : B < 256) (hX : L ^^^ B = X) (hQ : Q = 2 ^ n) (hY : Y = D + X % 2 ^ n) {b : Bool}
    (h : ((IntKind.u64.wrap ((L : Int) / (Q : Int))).tmod 2 != (IntKind.u64.wrap ((B : Int) / (Q : Int))).tmod 2) = b) :
    D + X % 2 ^ (n + 1) = if b then Y + Q else Y := by
  rw [bit_val L Q hL, bit_val B Q hB] at h
  rw [bit_more, ← hX, bit_xor, hX, ← hQ]
  subst hY
  cases b
  · have e : L / Q % 2 = B / Q % 2 := Int.ofNat.inj (bne_eq_false_iff_eq.1 h)
    rw [← hQ]; simp [e]
  · have e : ¬ L / Q % 2 = B / Q % 2 := by
      intro e; rw [e] at h; simp at h
    rw [← hQ]; simp [e]; omega
set_option maxRecDepth 100000 in
set_option maxHeartbeats 2000000 in
theorem dhash_any (s : Str) (w : World) (hs : s.length ≤ 1000000) :
    Calls Tryz.prog 115 #[.string ⟨s.toArray⟩] w fun e w' => e = .returned (.int .u64 (fnv s)) ∧ Below w.heap.size w w' := by
  have hl : (s.toArray.size : Int) = s.length := by simp
  go_enter Tryz.func115, Tryz.ntmps115
  go_wp2_with fail
  go_loopw [3, 4] (fun h i wr => ∃ k : Nat, i = .int .i64 k ∧ k ≤ s.length ∧ h = .int .u64 (fnv (s.take k)) ∧ Below w.heap.size w wr) (fun _ i _ => (s.length - intOf i).toNat)
  case atStart => exact ⟨0, rfl, by omega, rfl, Below.refl _ _⟩
  case round =>
    obtain ⟨j, rfl, hj, rfl, hbel⟩ := hrel
    by_cases hlt : j < s.length
    · have hj0 : (0 : Int) ≤ j := by omega
      have hjl : (j : Int) < s.length := by omega
      have HT := Lib.hid (fnv_take hlt)
      obtain ⟨H, hH⟩ : ∃ H, fnv (s.take j) = H := ⟨_, rfl⟩
      have hHl : H < 18446744073709551616 := by rw [← hH]; exact fnv_lt _
      rw [hH] at HT ⊢
      obtain ⟨B, hB⟩ : ∃ B, s[j].toNat = B := ⟨_, rfl⟩
      have hB256 : B < 256 := by rw [← hB]; exact UInt8.toNat_lt _
      obtain ⟨L, hL⟩ : ∃ L, H % 256 = L := ⟨_, rfl⟩
      obtain ⟨D, hD⟩ : ∃ D, H - L = D := ⟨_, rfl⟩
      have e1 : IntKind.u64.wrap (((⟨s.toArray⟩ : ByteArray)[j]'(by show j < s.toArray.size; simpa using hlt)).toNat : Int) = (B : Int) := by
        rw [IntKind.wrap_u64]; show ((s[j].toNat : Int)) % _ = _; rw [hB]; omega
      have e2 : (H : Int) % 256 = (L : Int) := by omega
      have e3 : IntKind.u64.wrap ((H : Int) - (L : Int)) = (D : Int) := by rw [IntKind.wrap_u64]; omega
      have hLX : L ^^^ B < 256 := by rw [← hL]; exact xor_low_lt hB256
      have HX := Lib.hid (xor_low H B hB256)
      rw [hL, hD] at HX
      have hDl : D + 255 < 18446744073709551616 := by omega
      have hD256 : D % 256 = 0 := by omega
      go_wp2_with fail
      simp only [e2]
      clear e1 e2 e3
      obtain ⟨X, hX⟩ : ∃ X, L ^^^ B = X := ⟨_, rfl⟩
      rw [hX] at hLX HX
      go_loopw [3, 7, 8] (fun h q k wq => ∃ n Q Y : Nat, k = .int .i64 n ∧ n ≤ 8 ∧ q = .int .u64 Q ∧ Hid (Q = 2 ^ n) ∧ h = .int .u64 Y ∧ Hid (Y = D + X % 2 ^ n) ∧ Below w.heap.size w wq) (fun _ _ k _ => (8 - intOf k).toNat)
      case atStart => exact ⟨0, 1, D, rfl, by omega, rfl, Lib.hid rfl, rfl, Lib.hid (by simp [Nat.mod_one]), hbel⟩
      case round =>
        obtain ⟨n, Q, Y, rfl, hn, rfl, hQ, rfl, hY, hbq⟩ := hrel
        by_cases hn8 : n < 8
        · have hn0 : (n : Int) < 8 := by omega
          have hQ0 : ¬ (Q : Int) = 0 := by
            have : 0 < Q := by rw [hQ.out]; exact Nat.two_pow_pos n
            omega
          have hQ2 : Q ≤ 128 := by
            rw [hQ.out]
            exact Nat.pow_le_pow_right (n := 2) (by decide) (show n ≤ 7 by omega)
          have HS : Hid (∀ b : Bool, ((IntKind.u64.wrap ((L : Int) / (Q : Int))).tmod 2 != (IntKind.u64.wrap ((B : Int) / (Q : Int))).tmod 2) = b → D + X % 2 ^ (n + 1) = if b then Y + Q else Y) := Lib.hid (fun b h => bit_go (by omega) hB256 hX hQ.out hY.out h)
          have HY : Hid (Y + Q < 18446744073709551616) := Lib.hid (by
            have h1 := hY.out
            have h3 := Nat.mod_lt X (Nat.two_pow_pos n)
            have h4 := hQ.out
            omega)
          have HQ2 : Hid (2 * Q = 2 ^ (n + 1)) := Lib.hid (by rw [hQ.out, Nat.pow_succ]; omega)
          clear hX hL hD hH hB
          go_wp2_with fail
          go_quiet (fail)
          go_wp2_with fail
          all_goals refine ⟨⟨n + 1, 2 * Q, D + X % 2 ^ (n + 1), by go_num, by omega, by go_num, HQ2.out, ?_, Lib.hid rfl, Go.below_drewN hbq _⟩, ?_⟩
          · rename_i hh
            have := HY.out
            rw [HS.out _ hh, if_pos rfl, IntKind.wrap_u64]
            congr 1; omega
          · simp [intOf]; omega
          · rename_i hh
            rw [HS.out _ hh]; rfl
          · simp [intOf]; omega
        · obtain rfl : n = 8 := by omega
          have HE : Hid (Y = H ^^^ B) := Lib.hid (by
            rw [hY.out, HX.out, Nat.mod_eq_of_lt (show X < 2 ^ 8 by omega)])
          have HR : Hid (IntKind.u64.wrap ((Y : Int) * 1099511628211) = ((fnv (s.take (j + 1)) : Nat) : Int)) := Lib.hid (by
            rw [HT.out, HE.out, IntKind.wrap_u64]
            unfold fnvS
            rw [hB]
            generalize H ^^^ B = x
            omega)
          clear hX hL hD hH hB
          go_wp2_with fail
          go_roundw
          case rel => exact ⟨j + 1, by go_num, by omega, by rw [HR.out], hbq⟩
          case measure => simp [intOf]; omega
    · have hjl : ¬ (j : Int) < s.length := by omega
      rw [List.take_of_length_le (by omega)]
      go_wp2_with fail
      go_ret
      exact ⟨rfl, hbel⟩
end
section
open Go Go.RowKit

set_option maxRecDepth 100000 in
theorem dhome_any (s : Str) (n : Nat) (w : World) (hs : s.length ≤ 1000000) (h1 : 1 ≤ n) (h2 : n ≤ 64) :
    Calls Tryz.prog 89 #[.string ⟨s.toArray⟩, .int .i64 n] w fun e w' => e = .returned (.int .i64 (homeN n s)) ∧ Below w.heap.size w w' := by
  have HR := Lib.hid (fun W => dhash_any s W hs)
  have HN := Lib.hid (home_num (fnv s) n h1 h2)
  have hn0 : ¬ IntKind.u64.wrap (n : Int) = 0 := by rw [IntKind.wrap_u64]; omega
  have HF : Hid (∀ W, Calls Tryz.prog 114 #[.int .i64 n] W fun e w' => e = .returned (.bool true) ∧ W = w') := Lib.hid (fun W => by
    have g1 : (1 : Int) ≤ n := by omega
    have g2 : (n : Int) ≤ 64 := by omega
    go_enter Tryz.func114, Tryz.ntmps114
    go_wp2_with fail
    go_ret
    exact ⟨by simp, rfl⟩)
  clear hs
  go_enter Tryz.func89, Tryz.ntmps89
  go_wp2_with fail
  refine (HF.out _).mono ?_
  rintro e w1 ⟨rfl, rfl⟩
  go_wp2_with fail
  refine (HR.out _).mono ?_
  rintro e w1 ⟨rfl, hk⟩
  go_wp2_with fail
  go_ret
  exact ⟨by rw [show homeN n s = fnv s % n from rfl, ← HN.out]; rfl, hk⟩
end
section
open Go Go.RowKit

def DLogAt (w : World) (lg : Nat) (ns : List NoteK) (G : List Nat) : Prop :=
  ∃ v, w.heap[lg]? = some (.cells #[v, .int .i64 0] 60 (0, 0)) ∧ w.ownsRow 0 88 35 v ns.length (notesK ns) ∧ v.ownBlock ≠ some lg ∧ G = lg :: v.ownBlock.toList
theorem DLogAt.lt {w : World} {lg : Nat} {ns : List NoteK} {G : List Nat} (h : DLogAt w lg ns G) : ∀ k ∈ G, k < w.heap.size := by
  obtain ⟨v, h1, h2, -, rfl⟩ := h
  intro k hk
  rcases List.mem_cons.1 hk with rfl | hk
  · exact (Array.getElem?_eq_some_iff.1 h1).1
  · exact (h2.lt k (Option.mem_toList.1 hk)).2
theorem DLogAt.keep {w w' : World} {lg : Nat} {ns : List NoteK} {G : List Nat} (h : DLogAt w lg ns G) (hk : ∀ k ∈ G, w'.heap[k]? = w.heap[k]?) : DLogAt w' lg ns G := by
  obtain ⟨v, h1, h2, h3, rfl⟩ := h
  exact ⟨v, (hk lg (by simp)).trans h1, ownsRow_local h2 fun k hk' => hk k (by simp [hk']), h3, rfl⟩
theorem DLogAt.mod {S : List Nat} {w w' : World} {lg : Nat} {ns : List NoteK} {G : List Nat} (h : DLogAt w lg ns G) (hm : Mod S w w') (hS : ∀ k ∈ G, k ∉ S) : DLogAt w' lg ns G := h.keep fun k hk => hm.block k (h.lt k hk) (hS k hk)
set_option maxRecDepth 100000 in
set_option maxHeartbeats 4000000 in
theorem dlog_add (k : NoteK) (lg : Nat) (ns : List NoteK) (G : List Nat) (w : World) (h : DLogAt w lg ns G) (hl : ns.length ≤ 10000) :
    Calls Tryz.prog 88 #[.pointer (some ⟨lg, 0, none⟩), .agg k.note.cells.toArray] w fun e w' => e = .returned (.tuple #[]) ∧ ∃ G', DLogAt w' lg (ns ++ [k]) G' ∧ Upd G G' w w' := by
  obtain ⟨v, hlg, hown, hne, rfl⟩ := h
  obtain ⟨a, cp, rfl, -, -, -⟩ := ownsRow_row hown
  have hbw := low_alloc w (.cells k.note.cells.toArray 88)
  have hnb := heap_alloc_new w (.cells k.note.cells.toArray 88)
  have hlg1 := (hbw.block lg (Array.getElem?_eq_some_iff.1 hlg).1).trans hlg
  have hown1 := hown.alloc (.cells k.note.cells.toArray 88)
  have HLS : Hid ((Tryz.prog.info? 88).map (·.size) = some k.note.cells.length) := Lib.hid (by kernel_rfl)
  have HNC : Hid (notesK ns ++ k.note.cells = notesK (ns ++ [k])) := Lib.hid (by simp [notesK])
  have HNL : Hid (k.note.cells.toArray.toList = k.note.cells) := Lib.hid (by simp)
  have H35 : Hid (k.note.cells.toArray.size = 1 * 35) := Lib.hid rfl
  have H1 : Hid (∀ u ∈ k.note.cells.toArray.toList, u.oneCell' = true) := Lib.hid (by
    have := note_one k.note
    rw [Array.all_eq_true_iff_forall_mem] at this
    exact fun u hu => this u (by simpa using hu))
  have HBS := Lib.hid (build_note k.note)
  have HKC : Hid ((notesK ns ++ k.note.cells.toArray.toList) = notesK (ns ++ [k])) := Lib.hid (by rw [HNL.out, HNC.out])
  generalize k.note.cells = NL at *
  have HS : Hid (∀ X : World, X.heap[lg]? = w.heap[lg]? → X.heap[w.heap.size]? = some (.cells NL.toArray 88 (0, 0)) → X.cell? ⟨lg, 0, none⟩ = some (.slice a ns.length cp) ∧ X.rangeAt w.heap.size 0 NL) := Lib.hid (fun X h1 h2 => ⟨cell_of_row X lg 0 _ _ _ (h1.trans hlg), range_blk h2⟩)
  have HNE : Hid (∀ j, (Value.slice a ns.length cp).ownBlock = some j → j ≠ lg ∧ j < w.heap.size) := Lib.hid (fun j hj => ⟨fun e => hne (by rw [hj, e]), (hown.lt j hj).2⟩)
  have hlgl := (Array.getElem?_eq_some_iff.1 hlg).1
  have HLG := Lib.hid hlg
  have HW1 := Lib.hid hbw
  have HOWN := Lib.hid hown
  have HNB := Lib.hid hnb
  have HLG1 := Lib.hid hlg1
  clear hlg hown hown1 hnb hlg1 HNC HNL hbw hne
  go_enter Tryz.func88, Tryz.ntmps88
  go_wp2_with fail
  obtain ⟨w1, hw1⟩ : ∃ w1, w.alloc (.cells NL.toArray 88) = w1 := ⟨_, rfl⟩
  rw [hw1] at HNB HLG1 HW1 ⊢
  have hsz1 : w1.heap.size = w.heap.size + 1 := by rw [← hw1]; simp
  clear hw1
  refine wp_region_tail (S := fun X => X.cell? ⟨lg, 0, none⟩ = some (.slice a ns.length cp) ∧ X.rangeAt w.heap.size 0 NL) 10 (by kernel_rfl) (HS.out _ (HLG1.out.trans HLG.out.symm) HNB.out) (fun hHeld => ?_)
  refine wpTail.take (i := 0) (v := ?_) rfl (by kernel_rfl) (by kernel_rfl) (by kernel_rfl) (by kernel_rfl) (by kernel_rfl) (fun _ _ _ h => h) (Or.inl ⟨rfl, ?_⟩) hHeld ?_
  rotate_left
  · intro w0 hS0
    try dsimp only at hS0
    go_simp
    try with_reducible rfl
  simp only [List.getElem_toArray, List.getElem_cons_zero, Act.put, List.setIfInBounds_toArray, List.set_cons_zero, List.set_cons_succ]
  refine wpTail.take (i := 1) (v := ?_) rfl (by kernel_rfl) (by kernel_rfl) (by kernel_rfl) (by kernel_rfl) (by kernel_rfl) (fun _ _ _ h => h) (Or.inl ⟨rfl, ?_⟩) hHeld ?_
  rotate_left
  · intro w0 hS0
    try dsimp only at hS0
    go_simp
    try with_reducible rfl
  simp only [List.getElem_toArray, List.getElem_cons_zero, List.getElem_cons_succ, Act.put, List.setIfInBounds_toArray, List.set_cons_zero, List.set_cons_succ]
  refine wpTail.take (i := 2) (v := ?_) rfl (by kernel_rfl) (by kernel_rfl) (by kernel_rfl) (by kernel_rfl) (by kernel_rfl) (fun _ _ _ h => h) (Or.inl ⟨rfl, ?_⟩) hHeld ?_
  rotate_left
  · intro w0 hS0
    try dsimp only at hS0
    go_simp
    try with_reducible rfl
  simp only [List.getElem_toArray, List.getElem_cons_zero, List.getElem_cons_succ, Act.put, List.setIfInBounds_toArray, List.set_cons_zero, List.set_cons_succ]
  refine wpTail.take (i := 3) (v := ?_) rfl (by kernel_rfl) (by kernel_rfl) (by kernel_rfl) (by kernel_rfl) (by kernel_rfl) (fun _ _ _ h => h) (Or.inl ⟨rfl, ?_⟩) hHeld ?_
  rotate_left
  · intro w0 hS0
    try dsimp only at hS0
    go_simp
    try with_reducible rfl
  simp only [List.getElem_toArray, List.getElem_cons_zero, List.getElem_cons_succ, Act.put, List.setIfInBounds_toArray, List.set_cons_zero, List.set_cons_succ]
  refine wpTail.take (i := 4) (v := ?_) rfl (by kernel_rfl) (by kernel_rfl) (by kernel_rfl) (by kernel_rfl) (by kernel_rfl) (fun _ _ _ h => h) (Or.inl ⟨rfl, ?_⟩) hHeld ?_
  rotate_left
  · intro w0 hS0
    try dsimp only at hS0
    go_simp
    try with_reducible rfl
  simp only [List.getElem_toArray, List.getElem_cons_zero, List.getElem_cons_succ, Act.put, List.setIfInBounds_toArray, List.set_cons_zero, List.set_cons_succ]
  refine wpTail.take (i := 5) (v := .agg NL.toArray) rfl (by kernel_rfl) (by kernel_rfl) (by kernel_rfl) (by kernel_rfl) (by kernel_rfl) (fun _ _ _ h => h) (Or.inl ⟨rfl, ?_⟩) hHeld ?_
  · intro w0 hS0
    exact exec_load_row rfl rfl hS0.2 Tryz.underlying88 rfl HLS.out
  simp only [List.getElem_toArray, List.getElem_cons_zero, List.getElem_cons_succ, Act.put, List.setIfInBounds_toArray, List.set_cons_zero, List.set_cons_succ]
  obtain ⟨w3, hw3⟩ : ∃ w3, w1.drew = w3 := ⟨_, rfl⟩
  have hb3 : Below w1.heap.size w1 w3 := by rw [← hw3]; exact (Below.refl w1.heap.size w1).drew
  rw [hw3]
  clear hw3
  have hs3 := hb3.size
  have HB3 := Lib.hid hb3
  clear hb3
  refine wpTail.ready (rs := [6]) (by kernel_rfl) (by simp) ?_
  refine AllTail.cons rfl (fun K hK => ?_) AllTail.nil
  rw [if_pos (by rfl)]
  refine HBS.out _ _ _ _ _ _ rfl rfl ?_
  have HB4 : Hid (Below w1.heap.size w1 (w3.alloc (.cells NL.toArray 88))) := Lib.hid (HB3.out.alloc hs3 _)
  refine hK.out _ _ (fun _ => HS.out _ ((HB4.out.block lg (by omega)).trans (HLG1.out.trans HLG.out.symm)) ((HB4.out.block w.heap.size (by omega)).trans HNB.out)) (fun hHeld => ?_)
  replace hHeld := hHeld (by decide)
  have HO3 := Lib.hid (ownsRow_local (w' := w3) HOWN.out fun j hj => (HB3.out.block j (by have := (HNE.out j hj).2; omega)).trans (HW1.out.block j (HNE.out j hj).2))
  refine wpTail.ready (rs := [7]) (by kernel_rfl) (by simp) ?_
  refine AllTail.cons rfl (fun K hK => ?_) AllTail.nil
  refine step_app (m := 1) T_note (HO3.out.alloc _) (heap_alloc_new w3 _) rfl rfl rfl rfl H35.out (by omega) H1.out ?_ ?_ ?_ ?_
  · omega
  · omega
  · exact Nat.zero_le _
  intro g cap w6 hown6 hgr6 hg6 hgl6
  have hm6 : Mod (lg :: (Value.slice a ns.length cp).ownBlock.toList) w w6 := ((((Mod.of_below HW1.out _).trans (Mod.of_below HB3.out (lg :: (Value.slice a ns.length cp).ownBlock.toList)) (fun k hk => .inl hk)).alloc _).grown hgr6 (fun j hj => .inl (List.mem_cons_of_mem _ (Option.mem_toList.2 hj))))
  have hks : ∀ j, j < w3.heap.size → (j = lg ∨ j = w.heap.size) → w6.heap[j]? = w3.heap[j]? := fun j hj hor => by
    rw [hgr6.block j (by simp; omega) (fun e => by
      obtain ⟨e1, e2⟩ := HNE.out j e.symm
      rcases hor with h | h
      · exact e1 h
      · omega)]
    exact Below.heap_alloc _ _ _ hj
  have h6l : w6.heap[lg]? = w.heap[lg]? := (hks lg (by omega) (.inl rfl)).trans ((HB3.out.block lg (by omega)).trans (HLG1.out.trans HLG.out.symm))
  refine hK.out _ _ (fun _ => HS.out _ h6l ((hks w.heap.size (by omega) (.inr rfl)).trans ((HB3.out.block w.heap.size (by omega)).trans HNB.out))) (fun hHeld => ?_)
  replace hHeld := hHeld (by decide)
  have h6g := h6l.trans HLG.out
  have fz6 := frozen_of_row _ _ 0 _ _ h6g
  have h7 := heap_setCell_same w6 lg 0 _ _ (.slice (some ⟨g, 0, none⟩) (ns.length + 1) cap) h6g
  have h7c := cell_of_row _ _ 0 _ _ _ h7
  have hgn : g ≠ lg := fun e => by
    rcases hg6 with h | h
    · exact (HNE.out g h).1 e
    · simp at h; omega
  rw [HKC.out] at hown6
  have HQ : Hid (∃ G', DLogAt (w6.setCell ⟨lg, 0, none⟩ (.slice (some ⟨g, 0, none⟩) (ns.length + 1) cap)) lg (ns ++ [k]) G' ∧ Upd (lg :: (Value.slice a ns.length cp).ownBlock.toList) G' w (w6.setCell ⟨lg, 0, none⟩ (.slice (some ⟨g, 0, none⟩) (ns.length + 1) cap))) := Lib.hid
    ⟨[lg, g], ⟨.slice (some ⟨g, 0, none⟩) (ns.length + 1) cap, h7, by
      rw [List.length_append]
      exact ownsRow_local hown6 fun j hj => heap_setCell_other w6 _ _ _ (by
        obtain rfl : g = j := by simpa [Value.ownBlock] using hj
        exact hgn), by simp [Value.ownBlock, hgn], rfl⟩, hm6.setCell (.inl (by simp)) _, fun j hj => by
      simp only [List.mem_cons, List.not_mem_nil, or_false] at hj
      rcases hj with rfl | rfl
      · exact .inl (by simp)
      · rcases hg6 with h | h
        · exact .inl (List.mem_cons_of_mem _ (Option.mem_toList.2 h))
        · right; simp at h; omega⟩
  clear hown6 hgr6 hg6 hgl6 hm6 hks h6l h7 hgn
  refine wpTail.take (i := 8) (v := ?_) rfl (by kernel_rfl) (by kernel_rfl) (by kernel_rfl) (by kernel_rfl) (by kernel_rfl) (fun _ _ _ h => h) (Or.inl ⟨rfl, ?_⟩) hHeld ?_
  rotate_left
  · intro w0 hS0
    try dsimp only at hS0
    go_simp
    try with_reducible rfl
  simp only [List.getElem_toArray, List.getElem_cons_zero, List.getElem_cons_succ, Act.put, List.setIfInBounds_toArray, List.set_cons_zero, List.set_cons_succ]
  refine wpTail.take (i := 9) (v := ?_) rfl (by kernel_rfl) (by kernel_rfl) (by kernel_rfl) (by kernel_rfl) (by kernel_rfl) (fun _ _ _ h => h) (Or.inl ⟨rfl, ?_⟩) hHeld ?_
  rotate_left
  · intro w0 hS0
    try dsimp only at hS0
    go_simp
    try with_reducible rfl
  simp only [List.getElem_toArray, List.getElem_cons_zero, List.getElem_cons_succ, Act.put, List.setIfInBounds_toArray, List.set_cons_zero, List.set_cons_succ]
  refine wpTail.ready (rs := [10]) (by kernel_rfl) (by simp) ?_
  refine AllTail.cons rfl (fun K hK => ?_) AllTail.nil
  rw [if_pos (by rfl)]
  go_simp
  refine hK.out _ _ (fun h => absurd rfl h) (fun _ => ?_)
  refine wpTail.done (by kernel_rfl) ?_ _
  go_wp2_with fail
  go_end0
  exact ⟨rfl, HQ.out⟩
end
end Go.Proofs.YthfdcphecggjeaaGreatDoor
