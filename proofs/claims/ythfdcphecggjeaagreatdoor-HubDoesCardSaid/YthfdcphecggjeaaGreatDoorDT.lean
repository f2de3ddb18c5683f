/- The document's trie: how it lies in memory; Put, Has walked. (Printed by mktdh.py.) The document's trie: Add walked. (Printed by mktdh.py.) The document's trie: Remove, Of walked. (Printed by mktdh.py.) The document's trie: Match walked. (Printed by mktdh.py.) The document's trie: Nodes walked; how many nodes the program's has. (Printed by mktdh.py.) -/
import Derived.Test.YthfdcphecggjeaaGreatDoorQP
import Derived.Test.YthfdcphecggjeaaGreatDoorQD
import Derived.Test.YthfdcphecggjeaaGreatDoorDK
import Derived.Test.YthfdcphecggjeaaGreatDoorQT
import Derived.Test.YthfdcphecggjeaaGreatDoorQZ
namespace Go.Proofs.YthfdcphecggjeaaGreatDoor
section
open Go Go.RowKit

theorem strs_cell {w : World} {a : Option Addr} {l : List Str} {k : Nat} (h : Row w a (strs l)) (hk : k < l.length) : ∃ b o, a = some ⟨b, o, none⟩ ∧ w.cell? ⟨b, o + k, none⟩ = some (.string ⟨l[k].toArray⟩) := by
  rcases h with h | ⟨b, o, rfl, hc⟩
  · have : l.length = 0 := by simpa [strs] using congrArg List.length h
    omega
  · exact ⟨b, o, rfl, hc _ _ (by simp [strs, hk])⟩
theorem putS_cut (s : Str) : ∀ (l : List Str) (k : Nat), k ≤ l.length → (∀ y ∈ l.take k, y < s) → putS s l = l.take k ++ putS s (l.drop k)
  | l, 0, _, _ => by simp
  | [], k + 1, h, _ => by simp at h
  | y :: r, k + 1, h, hy => by
    have h1 : y < s := hy y (by simp)
    have ih := putS_cut s r k (by simpa using h) (fun z hz => hy z (by simp [hz]))
    rw [List.take_succ_cons, List.drop_succ_cons, List.cons_append, ← ih, putS, if_pos h1]
theorem putS_end {s : Str} {l : List Str} (h : ∀ y ∈ l, y < s) : putS s l = l ++ [s] := by
  have := putS_cut s l l.length (Nat.le_refl _) (by rwa [List.take_length])
  rwa [List.take_length, List.drop_length] at this
theorem putS_in {s : Str} {l : List Str} {k : Nat} (hk : k < l.length) (h : ∀ y ∈ l.take k, y < s) (he : l[k] = s) : putS s l = l := by
  rw [putS_cut s l k (by omega) h, List.drop_eq_getElem_cons hk, putS, if_neg (by rw [he]; exact List.lt_irrefl _), if_pos he]
  exact (by rw [← List.drop_eq_getElem_cons hk, List.take_append_drop])
theorem putS_mid {s : Str} {l : List Str} {k : Nat} (hk : k < l.length) (h : ∀ y ∈ l.take k, y < s) (hn : ¬ l[k] < s) (he : l[k] ≠ s) : putS s l = l.take k ++ ([s] ++ l.drop k) := by
  rw [putS_cut s l k (by omega) h, List.drop_eq_getElem_cons hk, putS, if_neg hn, if_neg he]
  rfl
theorem insH_cut (g : Hint) : ∀ (l : List Hint) (k : Nat), k ≤ l.length → (∀ y ∈ l.take k, Ahead y g) → insH g l = l.take k ++ insH g (l.drop k)
  | l, 0, _, _ => by simp
  | [], k + 1, h, _ => by simp at h
  | y :: r, k + 1, h, hy => by
    have h1 : Ahead y g := hy y (by simp)
    have ih := insH_cut g r k (by simpa using h) (fun z hz => hy z (by simp [hz]))
    rw [List.take_succ_cons, List.drop_succ_cons, List.cons_append, ← ih, insH, if_pos h1]
theorem insH_mid {g : Hint} {l : List Hint} {k : Nat} (hk : k ≤ l.length) (h : ∀ y ∈ l.take k, Ahead y g) (hn : ∀ hl : k < l.length, ¬ Ahead l[k] g) : insH g l = l.take k ++ ([g] ++ l.drop k) := by
  rw [insH_cut g l k hk h]
  by_cases hl : k < l.length
  · rw [List.drop_eq_getElem_cons hl, insH, if_neg (hn hl)]
    rfl
  · rw [List.drop_eq_nil_of_le (by omega)]
    rfl

theorem put_row {w : World} {a : Option Addr} {l : List Str} {s : ByteArray} {k : Nat} (h : Row w a ((strs l).take (k * 1) ++ [.string s] ++ (strs l).drop (k * 1))) : Row w a (strs (l.take k ++ ([s.data.toList] ++ l.drop k))) := by
  have e : strs (l.take k ++ ([s.data.toList] ++ l.drop k)) = (strs l).take (k * 1) ++ [.string s] ++ (strs l).drop (k * 1) := by
    simp [strs, List.map_take, List.map_drop]
  rw [e]; exact h
theorem put_len {α : Type} {l : List α} {x : α} {k : Nat} (hk : k ≤ l.length) : (l.take k ++ ([x] ++ l.drop k)).length = k + 1 + (l.length - k) := by simp; omega
theorem strs_one (l : List Str) : ∀ u ∈ strs l, u.oneCell' = true := by
  intro u hu
  obtain ⟨x, -, rfl⟩ := List.mem_map.1 hu
  rfl
set_option maxRecDepth 100000 in
set_option maxHeartbeats 2000000 in
theorem tdput_any (a : Option Addr) (c : Nat) (l : List Str) (s : ByteArray) (w : World) (ha : Row w a (strs l)) (hc : l.length ≤ c) (hcm : c ≤ maxLen) (hl : l.length < 1000000) :
    Calls Tryz.prog 61 #[.slice a l.length c, .string s] w fun e w' => ∃ a' c', e = .returned (.slice a' (putS s.data.toList l).length c') ∧ Row w' a' (strs (putS s.data.toList l)) ∧ (putS s.data.toList l).length ≤ c' ∧ c' ≤ maxLen ∧ Below w.heap.size w w' := by
  have HA := Lib.hid ha
  have HCM := Lib.hid hcm
  clear ha hcm
  go_enter Tryz.func61, Tryz.ntmps61
  go_wp2_with fail
  go_loopw [5] (fun i wr => ∃ k : Nat, i = .int .i64 k ∧ k ≤ l.length ∧ w = wr ∧ ∀ y ∈ l.take k, y < s.data.toList) (fun i _ => (l.length - intOf i).toNat)
  case atStart => exact ⟨0, rfl, by omega, rfl, by simp⟩
  case round =>
    obtain ⟨k, rfl, hk, rfl, htk⟩ := hrel
    have HTK := Lib.hid htk
    clear htk
    obtain ⟨⟨a1, hs1, hr1⟩, a2, hs2, hr2⟩ := slice_run Tryz.underlying33 (sz := 1) (by kernel_rfl) a l.length c k hk hc
    have HR1 := Lib.hid (hr1 w _ HA.out)
    have HR2 := Lib.hid (hr2 w _ HA.out (by simp [strs]))
    clear hr1 hr2
    by_cases hlt : k < l.length
    · obtain ⟨b1, o1, rfl, k0⟩ := strs_cell HA.out hlt
      have hk0 : (0 : Int) ≤ k := by omega
      have hkl : (k : Int) < l.length := by omega
      have HX := Lib.hid (show l[k]? = some l[k] by simp [hlt])
      have h1 := List.take_succ_eq_append_getElem hlt
      have HST : Hid (l[k] < s.data.toList → ∀ y ∈ l.take (k + 1), y < s.data.toList) := Lib.hid (fun e y hy => by
        rw [h1] at hy
        rcases List.mem_append.1 hy with hy | hy
        · exact HTK.out y hy
        · rw [List.mem_singleton.1 hy]; exact e)
      have HIN : Hid (l[k] = s.data.toList → putS s.data.toList l = l) := Lib.hid (fun e => putS_in hlt HTK.out e)
      have HMD : Hid (¬ l[k] < s.data.toList → l[k] ≠ s.data.toList → putS s.data.toList l = l.take k ++ ([s.data.toList] ++ l.drop k)) := Lib.hid (fun e e' => putS_mid hlt HTK.out e e')
      clear h1
      generalize l[k] = x at *
      by_cases hx : x < s.data.toList
      · have hb : Op.bytesLess x s.toList = true := by rw [bytesLess_eq, Lib.toList_data]; exact decide_eq_true hx
        have HS2 := Lib.hid (HST.out hx)
        clear hx HST HIN HMD
        go_wp2_with fail
        go_roundw
        case rel => exact ⟨k + 1, by go_num, by omega, trivial, HS2.out⟩
        case measure => simp [intOf]; omega
      · have hb : Op.bytesLess x s.toList = false := by rw [bytesLess_eq, Lib.toList_data]; exact decide_eq_false hx
        by_cases he : x = s.data.toList
        · have hq : (x == s.toList) = true := by rw [Lib.toList_data]; simpa using he
          have HP := Lib.hid (HIN.out he)
          clear hx he HST HIN HMD
          go_wp2_with fail
          go_ret
          rw [HP.out]
          exact ⟨_, _, rfl, HA.out, hc, HCM.out, Below.refl _ _⟩
        · have hq : (x == s.toList) = false := by rw [Lib.toList_data]; simpa using he
          have HP := Lib.hid (HMD.out hx he)
          clear hx he HST HIN HMD
          go_wp2_with fail
          have HS : Hid (∀ X : World, Below w.heap.size w X → Below w.heap.size w X) := Lib.hid (fun _ h => h)
          have HL1 := Lib.hid (show ((strs l).take (k * 1)).length = k * 1 by simp [strs]; omega)
          have HL2 := Lib.hid (show ((strs l).drop (k * 1)).length = (l.length - k) * 1 by simp [strs])
          have HO1 := Lib.hid (fun u (hu : u ∈ (strs l).take (k * 1)) => strs_one l u (List.mem_of_mem_take hu))
          have HO2 := Lib.hid (fun u (hu : u ∈ (strs l).drop (k * 1)) => strs_one l u (List.mem_of_mem_drop hu))
          have HOL := Lib.hid (show ∀ u ∈ [Value.string s], u.oneCell' = true by simp [Value.oneCell'])
          refine wp_region_tail (S := fun X => Below w.heap.size w X) 12 (by kernel_rfl) ((Below.refl _ _).drew) (fun hHeld => ?_)
          refine wpTail.take (i := 1) (v := ?_) rfl (by kernel_rfl) (by kernel_rfl) (by kernel_rfl) (by kernel_rfl) (by kernel_rfl) (fun _ _ _ h => h) (Or.inl ⟨rfl, ?_⟩) hHeld ?_
          rotate_left
          · intro w0 hS0
            try dsimp only at hS0
            go_simp
            try with_reducible rfl
          simp only [List.getElem_toArray, List.getElem_cons_zero, List.getElem_cons_succ, Act.put, List.setIfInBounds_toArray, List.set_cons_zero, List.set_cons_succ]
          refine wpTail.take (i := 2) (v := ?_) rfl (by kernel_rfl) (by kernel_rfl) (by kernel_rfl) (by kernel_rfl) (by kernel_rfl) (fun _ _ _ h => h) (Or.inl ⟨rfl, ?_⟩) hHeld ?_
          rotate_left
          · intro w0 hS0
            try dsimp only at hS0
            go_simp
            try with_reducible rfl
          simp only [List.getElem_toArray, List.getElem_cons_zero, List.getElem_cons_succ, Act.put, List.setIfInBounds_toArray, List.set_cons_zero, List.set_cons_succ]
          refine wpTail.take (i := 3) (v := ?_) rfl (by kernel_rfl) (by kernel_rfl) (by kernel_rfl) (by kernel_rfl) (by kernel_rfl) (fun _ _ _ h => h) (Or.inl ⟨rfl, ?_⟩) hHeld ?_
          rotate_left
          · intro w0 hS0
            try dsimp only at hS0
            go_simp
            try with_reducible rfl
          simp only [List.getElem_toArray, List.getElem_cons_zero, List.getElem_cons_succ, Act.put, List.setIfInBounds_toArray, List.set_cons_zero, List.set_cons_succ]
          refine wpTail.take (i := 5) (v := ?_) rfl (by kernel_rfl) (by kernel_rfl) (by kernel_rfl) (by kernel_rfl) (by kernel_rfl) (fun _ _ _ h => h) (Or.inl ⟨rfl, ?_⟩) hHeld ?_
          rotate_left
          · intro w0 hS0
            try dsimp only at hS0
            go_simp
            try with_reducible rfl
          simp only [List.getElem_toArray, List.getElem_cons_zero, List.getElem_cons_succ, Act.put, List.setIfInBounds_toArray, List.set_cons_zero, List.set_cons_succ]
          refine wpTail.take (i := 8) (v := ?_) rfl (by kernel_rfl) (by kernel_rfl) (by kernel_rfl) (by kernel_rfl) (by kernel_rfl) (fun _ _ _ h => h) (Or.inl ⟨rfl, ?_⟩) hHeld ?_
          rotate_left
          · intro w0 hS0
            try dsimp only at hS0
            go_simp
            try with_reducible rfl
          simp only [List.getElem_toArray, List.getElem_cons_zero, List.getElem_cons_succ, Act.put, List.setIfInBounds_toArray, List.set_cons_zero, List.set_cons_succ]
          refine wpTail.take (i := 9) (v := ?_) rfl (by kernel_rfl) (by kernel_rfl) (by kernel_rfl) (by kernel_rfl) (by kernel_rfl) (fun _ _ _ h => h) (Or.inl ⟨rfl, ?_⟩) hHeld ?_
          rotate_left
          · intro w0 hS0
            try dsimp only at hS0
            go_simp
            try with_reducible rfl
          simp only [List.getElem_toArray, List.getElem_cons_zero, List.getElem_cons_succ, Act.put, List.setIfInBounds_toArray, List.set_cons_zero, List.set_cons_succ]
          refine wpTail.take (i := 10) (v := ?_) rfl (by kernel_rfl) (by kernel_rfl) (by kernel_rfl) (by kernel_rfl) (by kernel_rfl) (fun _ _ _ h => h) (Or.inl ⟨rfl, ?_⟩) hHeld ?_
          rotate_left
          · intro w0 hS0
            try dsimp only at hS0
            go_simp
            try with_reducible rfl
          simp only [List.getElem_toArray, List.getElem_cons_zero, List.getElem_cons_succ, Act.put, List.setIfInBounds_toArray, List.set_cons_zero, List.set_cons_succ]
          have hb0 : Below w.heap.size w w.drew := (Below.refl _ _).drew
          refine wpTail.ready (rs := [0, 6]) (by kernel_rfl) (by simp) ?_
          refine AllTail.cons rfl (fun K hK => ?_) (AllTail.cons rfl (fun K hK => ?_) AllTail.nil)
          · rw [if_pos (by rfl)]
            go_simp
            have hb1 := hb0.alloc (hb0.size) (.cells #[] 9)
            have ho1 := own_empty w.drew 9 w.heap.size 1 (Nat.le_refl _)
            refine hK.out _ _ (fun _ => HS.out _ hb1) (fun hHeld => ?_)
            replace hHeld := hHeld (by decide)
            refine wpTail.ready (rs := [4, 6]) (by kernel_rfl) (by simp) ?_
            refine AllTail.cons rfl (fun K hK => ?_) (AllTail.cons rfl (fun K hK => ?_) AllTail.nil)
            · refine step_spread' (m := k) T_strs ho1 hb1 (Nat.le_refl _) (HR1.out.below hb1 (Nat.le_refl _)) rfl rfl rfl rfl HL1.out HO1.out ?_ ?_ ?_
              · omega
              · omega
              intro v2 w2 hown2 hb2 hg2
              try simp only [Nat.zero_add, List.nil_append] at hown2
              obtain ⟨av2, cv2, rfl, -, hln2, hcn2⟩ := ownsRow_row hown2
              refine hK.out _ _ (fun _ => HS.out _ hb2) (fun hHeld => ?_)
              replace hHeld := hHeld (by decide)
              refine wpTail.ready (rs := [6]) (by kernel_rfl) (by simp) ?_
              refine AllTail.cons rfl (fun K hK => ?_) AllTail.nil
              rw [if_pos (by rfl)]
              go_simp
              have hbl := hb2.alloc (hb2.size) (.cells #[.string s] 9)
              have hlit := row_new w2 [.string s] 9
              refine hK.out _ _ (fun _ => HS.out _ hbl) (fun hHeld => ?_)
              replace hHeld := hHeld (by decide)
              refine wpTail.ready (rs := [7]) (by kernel_rfl) (by simp) ?_
              refine AllTail.cons rfl (fun K hK => ?_) AllTail.nil
              refine step_spread' (m := 1) T_strs (ownsRow_low hown2 (low_alloc _ _)) hbl (Nat.le_refl _) hlit rfl rfl rfl rfl rfl HOL.out ?_ ?_ ?_
              · omega
              · omega
              intro v3 w3 hown3 hb3 hg3
              try simp only [Nat.zero_add, List.nil_append] at hown3
              obtain ⟨av3, cv3, rfl, -, hln3, hcn3⟩ := ownsRow_row hown3
              refine hK.out _ _ (fun _ => HS.out _ hb3) (fun hHeld => ?_)
              replace hHeld := hHeld (by decide)
              refine wpTail.ready (rs := [11]) (by kernel_rfl) (by simp) ?_
              refine AllTail.cons rfl (fun K hK => ?_) AllTail.nil
              refine step_spread' (m := (l.length - k)) T_strs hown3 hb3 (Nat.le_refl _) (HR2.out.below hb3 (Nat.le_refl _)) rfl rfl rfl rfl HL2.out HO2.out ?_ ?_ ?_
              · omega
              · omega
              intro v4 w4 hown4 hb4 hg4
              try simp only [Nat.zero_add, List.nil_append] at hown4
              obtain ⟨av4, cv4, rfl, -, hln4, hcn4⟩ := ownsRow_row hown4
              refine hK.out _ _ (fun _ => HS.out _ hb4) (fun hHeld => ?_)
              replace hHeld := hHeld (by decide)
              refine wpTail.ready (rs := [12]) (by kernel_rfl) (by simp) ?_
              refine AllTail.cons rfl (fun K hK => ?_) AllTail.nil
              rw [if_pos (by rfl)]
              go_simp
              refine hK.out _ _ (fun h => absurd rfl h) (fun _ => ?_)
              refine wpTail.done (by kernel_rfl) ?_ _
              go_wp2_with fail
              go_ret
              rw [HP.out]
              obtain ⟨_, _, e4, hr4, -, -⟩ := ownsRow_row hown4
              cases e4
              refine ⟨av4, cv4, ?_, put_row hr4, by rw [put_len hk]; exact hln4, hcn4, hb4⟩
              rw [put_len hk]
              rfl
            · rw [if_pos (by rfl)]
              go_simp
              have hbl := hb1.alloc (hb1.size) (.cells #[.string s] 9)
              have hlit := row_new (w.drew.alloc (.cells #[] 9)) [.string s] 9
              rw [show (w.drew.alloc (.cells #[] 9)).heap.size = w.heap.size + 1 by simp] at hlit
              refine hK.out _ _ (fun _ => HS.out _ hbl) (fun hHeld => ?_)
              replace hHeld := hHeld (by decide)
              refine wpTail.ready (rs := [4]) (by kernel_rfl) (by simp) ?_
              refine AllTail.cons rfl (fun K hK => ?_) AllTail.nil
              refine step_spread' (m := k) T_strs (ownsRow_low ho1 (low_alloc _ _)) hbl (Nat.le_refl _) (HR1.out.below hbl (Nat.le_refl _)) rfl rfl rfl rfl HL1.out HO1.out ?_ ?_ ?_
              · omega
              · omega
              intro v2 w2 hown2 hb2 hg2
              try simp only [Nat.zero_add, List.nil_append] at hown2
              obtain ⟨av2, cv2, rfl, -, hln2, hcn2⟩ := ownsRow_row hown2
              have hlit2 := row_grown hlit hg2 (fun b o e h => by cases e; simp [Value.ownBlock] at h)
              refine hK.out _ _ (fun _ => HS.out _ hb2) (fun hHeld => ?_)
              replace hHeld := hHeld (by decide)
              refine wpTail.ready (rs := [7]) (by kernel_rfl) (by simp) ?_
              refine AllTail.cons rfl (fun K hK => ?_) AllTail.nil
              refine step_spread' (m := 1) T_strs hown2 hb2 (Nat.le_refl _) hlit2 rfl rfl rfl rfl rfl HOL.out ?_ ?_ ?_
              · omega
              · omega
              intro v3 w3 hown3 hb3 hg3
              try simp only [Nat.zero_add, List.nil_append] at hown3
              obtain ⟨av3, cv3, rfl, -, hln3, hcn3⟩ := ownsRow_row hown3
              refine hK.out _ _ (fun _ => HS.out _ hb3) (fun hHeld => ?_)
              replace hHeld := hHeld (by decide)
              refine wpTail.ready (rs := [11]) (by kernel_rfl) (by simp) ?_
              refine AllTail.cons rfl (fun K hK => ?_) AllTail.nil
              refine step_spread' (m := (l.length - k)) T_strs hown3 hb3 (Nat.le_refl _) (HR2.out.below hb3 (Nat.le_refl _)) rfl rfl rfl rfl HL2.out HO2.out ?_ ?_ ?_
              · omega
              · omega
              intro v4 w4 hown4 hb4 hg4
              try simp only [Nat.zero_add, List.nil_append] at hown4
              obtain ⟨av4, cv4, rfl, -, hln4, hcn4⟩ := ownsRow_row hown4
              refine hK.out _ _ (fun _ => HS.out _ hb4) (fun hHeld => ?_)
              replace hHeld := hHeld (by decide)
              refine wpTail.ready (rs := [12]) (by kernel_rfl) (by simp) ?_
              refine AllTail.cons rfl (fun K hK => ?_) AllTail.nil
              rw [if_pos (by rfl)]
              go_simp
              refine hK.out _ _ (fun h => absurd rfl h) (fun _ => ?_)
              refine wpTail.done (by kernel_rfl) ?_ _
              go_wp2_with fail
              go_ret
              rw [HP.out]
              obtain ⟨_, _, e4, hr4, -, -⟩ := ownsRow_row hown4
              cases e4
              refine ⟨av4, cv4, ?_, put_row hr4, by rw [put_len hk]; exact hln4, hcn4, hb4⟩
              rw [put_len hk]
              rfl
          · rw [if_pos (by rfl)]
            go_simp
            have hb1 := hb0.alloc (hb0.size) (.cells #[.string s] 9)
            have hlit := row_new w.drew [.string s] 9
            refine hK.out _ _ (fun _ => HS.out _ hb1) (fun hHeld => ?_)
            replace hHeld := hHeld (by decide)
            refine wpTail.ready (rs := [0]) (by kernel_rfl) (by simp) ?_
            refine AllTail.cons rfl (fun K hK => ?_) AllTail.nil
            rw [if_pos (by rfl)]
            go_simp
            have hbl := hb1.alloc (hb1.size) (.cells #[] 9)
            have ho1 := own_empty (w.drew.alloc (.cells #[.string s] 9)) 9 w.heap.size 1 hb1.size
            rw [show (w.drew.alloc (.cells #[.string s] 9)).heap.size = w.heap.size + 1 by simp] at ho1
            refine hK.out _ _ (fun _ => HS.out _ hbl) (fun hHeld => ?_)
            replace hHeld := hHeld (by decide)
            refine wpTail.ready (rs := [4]) (by kernel_rfl) (by simp) ?_
            refine AllTail.cons rfl (fun K hK => ?_) AllTail.nil
            refine step_spread' (m := k) T_strs ho1 hbl (Nat.le_refl _) (HR1.out.below hbl (Nat.le_refl _)) rfl rfl rfl rfl HL1.out HO1.out ?_ ?_ ?_
            · omega
            · omega
            intro v2 w2 hown2 hb2 hg2
            try simp only [Nat.zero_add, List.nil_append] at hown2
            obtain ⟨av2, cv2, rfl, -, hln2, hcn2⟩ := ownsRow_row hown2
            have hlit2 := row_grown (hlit.below (low_alloc _ _) (Nat.le_refl _)) hg2 (fun b o e h => by cases e; simp [Value.ownBlock] at h)
            refine hK.out _ _ (fun _ => HS.out _ hb2) (fun hHeld => ?_)
            replace hHeld := hHeld (by decide)
            refine wpTail.ready (rs := [7]) (by kernel_rfl) (by simp) ?_
            refine AllTail.cons rfl (fun K hK => ?_) AllTail.nil
            refine step_spread' (m := 1) T_strs hown2 hb2 (Nat.le_refl _) hlit2 rfl rfl rfl rfl rfl HOL.out ?_ ?_ ?_
            · omega
            · omega
            intro v3 w3 hown3 hb3 hg3
            try simp only [Nat.zero_add, List.nil_append] at hown3
            obtain ⟨av3, cv3, rfl, -, hln3, hcn3⟩ := ownsRow_row hown3
            refine hK.out _ _ (fun _ => HS.out _ hb3) (fun hHeld => ?_)
            replace hHeld := hHeld (by decide)
            refine wpTail.ready (rs := [11]) (by kernel_rfl) (by simp) ?_
            refine AllTail.cons rfl (fun K hK => ?_) AllTail.nil
            refine step_spread' (m := (l.length - k)) T_strs hown3 hb3 (Nat.le_refl _) (HR2.out.below hb3 (Nat.le_refl _)) rfl rfl rfl rfl HL2.out HO2.out ?_ ?_ ?_
            · omega
            · omega
            intro v4 w4 hown4 hb4 hg4
            try simp only [Nat.zero_add, List.nil_append] at hown4
            obtain ⟨av4, cv4, rfl, -, hln4, hcn4⟩ := ownsRow_row hown4
            refine hK.out _ _ (fun _ => HS.out _ hb4) (fun hHeld => ?_)
            replace hHeld := hHeld (by decide)
            refine wpTail.ready (rs := [12]) (by kernel_rfl) (by simp) ?_
            refine AllTail.cons rfl (fun K hK => ?_) AllTail.nil
            rw [if_pos (by rfl)]
            go_simp
            refine hK.out _ _ (fun h => absurd rfl h) (fun _ => ?_)
            refine wpTail.done (by kernel_rfl) ?_ _
            go_wp2_with fail
            go_ret
            rw [HP.out]
            obtain ⟨_, _, e4, hr4, -, -⟩ := ownsRow_row hown4
            cases e4
            refine ⟨av4, cv4, ?_, put_row hr4, by rw [put_len hk]; exact hln4, hcn4, hb4⟩
            rw [put_len hk]
            rfl
    · have hkl : ¬ (k : Int) < l.length := by omega
      have HP : Hid (putS s.data.toList l = l.take k ++ ([s.data.toList] ++ l.drop k)) := Lib.hid (by
        have e := HTK.out
        rw [List.take_of_length_le (by omega)] at e
        rw [putS_end e, List.take_of_length_le (by omega), List.drop_eq_nil_of_le (by omega)]
        simp)
      go_wp2_with fail
      have HS : Hid (∀ X : World, Below w.heap.size w X → Below w.heap.size w X) := Lib.hid (fun _ h => h)
      have HL1 := Lib.hid (show ((strs l).take (k * 1)).length = k * 1 by simp [strs]; omega)
      have HL2 := Lib.hid (show ((strs l).drop (k * 1)).length = (l.length - k) * 1 by simp [strs])
      have HO1 := Lib.hid (fun u (hu : u ∈ (strs l).take (k * 1)) => strs_one l u (List.mem_of_mem_take hu))
      have HO2 := Lib.hid (fun u (hu : u ∈ (strs l).drop (k * 1)) => strs_one l u (List.mem_of_mem_drop hu))
      have HOL := Lib.hid (show ∀ u ∈ [Value.string s], u.oneCell' = true by simp [Value.oneCell'])
      refine wp_region_tail (S := fun X => Below w.heap.size w X) 12 (by kernel_rfl) ((Below.refl _ _).drew) (fun hHeld => ?_)
      refine wpTail.take (i := 1) (v := ?_) rfl (by kernel_rfl) (by kernel_rfl) (by kernel_rfl) (by kernel_rfl) (by kernel_rfl) (fun _ _ _ h => h) (Or.inl ⟨rfl, ?_⟩) hHeld ?_
      rotate_left
      · intro w0 hS0
        try dsimp only at hS0
        go_simp
        try with_reducible rfl
      simp only [List.getElem_toArray, List.getElem_cons_zero, List.getElem_cons_succ, Act.put, List.setIfInBounds_toArray, List.set_cons_zero, List.set_cons_succ]
      refine wpTail.take (i := 2) (v := ?_) rfl (by kernel_rfl) (by kernel_rfl) (by kernel_rfl) (by kernel_rfl) (by kernel_rfl) (fun _ _ _ h => h) (Or.inl ⟨rfl, ?_⟩) hHeld ?_
      rotate_left
      · intro w0 hS0
        try dsimp only at hS0
        go_simp
        try with_reducible rfl
      simp only [List.getElem_toArray, List.getElem_cons_zero, List.getElem_cons_succ, Act.put, List.setIfInBounds_toArray, List.set_cons_zero, List.set_cons_succ]
      refine wpTail.take (i := 3) (v := ?_) rfl (by kernel_rfl) (by kernel_rfl) (by kernel_rfl) (by kernel_rfl) (by kernel_rfl) (fun _ _ _ h => h) (Or.inl ⟨rfl, ?_⟩) hHeld ?_
      rotate_left
      · intro w0 hS0
        try dsimp only at hS0
        go_simp
        try with_reducible rfl
      simp only [List.getElem_toArray, List.getElem_cons_zero, List.getElem_cons_succ, Act.put, List.setIfInBounds_toArray, List.set_cons_zero, List.set_cons_succ]
      refine wpTail.take (i := 5) (v := ?_) rfl (by kernel_rfl) (by kernel_rfl) (by kernel_rfl) (by kernel_rfl) (by kernel_rfl) (fun _ _ _ h => h) (Or.inl ⟨rfl, ?_⟩) hHeld ?_
      rotate_left
      · intro w0 hS0
        try dsimp only at hS0
        go_simp
        try with_reducible rfl
      simp only [List.getElem_toArray, List.getElem_cons_zero, List.getElem_cons_succ, Act.put, List.setIfInBounds_toArray, List.set_cons_zero, List.set_cons_succ]
      refine wpTail.take (i := 8) (v := ?_) rfl (by kernel_rfl) (by kernel_rfl) (by kernel_rfl) (by kernel_rfl) (by kernel_rfl) (fun _ _ _ h => h) (Or.inl ⟨rfl, ?_⟩) hHeld ?_
      rotate_left
      · intro w0 hS0
        try dsimp only at hS0
        go_simp
        try with_reducible rfl
      simp only [List.getElem_toArray, List.getElem_cons_zero, List.getElem_cons_succ, Act.put, List.setIfInBounds_toArray, List.set_cons_zero, List.set_cons_succ]
      refine wpTail.take (i := 9) (v := ?_) rfl (by kernel_rfl) (by kernel_rfl) (by kernel_rfl) (by kernel_rfl) (by kernel_rfl) (fun _ _ _ h => h) (Or.inl ⟨rfl, ?_⟩) hHeld ?_
      rotate_left
      · intro w0 hS0
        try dsimp only at hS0
        go_simp
        try with_reducible rfl
      simp only [List.getElem_toArray, List.getElem_cons_zero, List.getElem_cons_succ, Act.put, List.setIfInBounds_toArray, List.set_cons_zero, List.set_cons_succ]
      refine wpTail.take (i := 10) (v := ?_) rfl (by kernel_rfl) (by kernel_rfl) (by kernel_rfl) (by kernel_rfl) (by kernel_rfl) (fun _ _ _ h => h) (Or.inl ⟨rfl, ?_⟩) hHeld ?_
      rotate_left
      · intro w0 hS0
        try dsimp only at hS0
        go_simp
        try with_reducible rfl
      simp only [List.getElem_toArray, List.getElem_cons_zero, List.getElem_cons_succ, Act.put, List.setIfInBounds_toArray, List.set_cons_zero, List.set_cons_succ]
      have hb0 : Below w.heap.size w w.drew := (Below.refl _ _).drew
      refine wpTail.ready (rs := [0, 6]) (by kernel_rfl) (by simp) ?_
      refine AllTail.cons rfl (fun K hK => ?_) (AllTail.cons rfl (fun K hK => ?_) AllTail.nil)
      · rw [if_pos (by rfl)]
        go_simp
        have hb1 := hb0.alloc (hb0.size) (.cells #[] 9)
        have ho1 := own_empty w.drew 9 w.heap.size 1 (Nat.le_refl _)
        refine hK.out _ _ (fun _ => HS.out _ hb1) (fun hHeld => ?_)
        replace hHeld := hHeld (by decide)
        refine wpTail.ready (rs := [4, 6]) (by kernel_rfl) (by simp) ?_
        refine AllTail.cons rfl (fun K hK => ?_) (AllTail.cons rfl (fun K hK => ?_) AllTail.nil)
        · refine step_spread' (m := k) T_strs ho1 hb1 (Nat.le_refl _) (HR1.out.below hb1 (Nat.le_refl _)) rfl rfl rfl rfl HL1.out HO1.out ?_ ?_ ?_
          · omega
          · omega
          intro v2 w2 hown2 hb2 hg2
          try simp only [Nat.zero_add, List.nil_append] at hown2
          obtain ⟨av2, cv2, rfl, -, hln2, hcn2⟩ := ownsRow_row hown2
          refine hK.out _ _ (fun _ => HS.out _ hb2) (fun hHeld => ?_)
          replace hHeld := hHeld (by decide)
          refine wpTail.ready (rs := [6]) (by kernel_rfl) (by simp) ?_
          refine AllTail.cons rfl (fun K hK => ?_) AllTail.nil
          rw [if_pos (by rfl)]
          go_simp
          have hbl := hb2.alloc (hb2.size) (.cells #[.string s] 9)
          have hlit := row_new w2 [.string s] 9
          refine hK.out _ _ (fun _ => HS.out _ hbl) (fun hHeld => ?_)
          replace hHeld := hHeld (by decide)
          refine wpTail.ready (rs := [7]) (by kernel_rfl) (by simp) ?_
          refine AllTail.cons rfl (fun K hK => ?_) AllTail.nil
          refine step_spread' (m := 1) T_strs (ownsRow_low hown2 (low_alloc _ _)) hbl (Nat.le_refl _) hlit rfl rfl rfl rfl rfl HOL.out ?_ ?_ ?_
          · omega
          · omega
          intro v3 w3 hown3 hb3 hg3
          try simp only [Nat.zero_add, List.nil_append] at hown3
          obtain ⟨av3, cv3, rfl, -, hln3, hcn3⟩ := ownsRow_row hown3
          refine hK.out _ _ (fun _ => HS.out _ hb3) (fun hHeld => ?_)
          replace hHeld := hHeld (by decide)
          refine wpTail.ready (rs := [11]) (by kernel_rfl) (by simp) ?_
          refine AllTail.cons rfl (fun K hK => ?_) AllTail.nil
          refine step_spread' (m := (l.length - k)) T_strs hown3 hb3 (Nat.le_refl _) (HR2.out.below hb3 (Nat.le_refl _)) rfl rfl rfl rfl HL2.out HO2.out ?_ ?_ ?_
          · omega
          · omega
          intro v4 w4 hown4 hb4 hg4
          try simp only [Nat.zero_add, List.nil_append] at hown4
          obtain ⟨av4, cv4, rfl, -, hln4, hcn4⟩ := ownsRow_row hown4
          refine hK.out _ _ (fun _ => HS.out _ hb4) (fun hHeld => ?_)
          replace hHeld := hHeld (by decide)
          refine wpTail.ready (rs := [12]) (by kernel_rfl) (by simp) ?_
          refine AllTail.cons rfl (fun K hK => ?_) AllTail.nil
          rw [if_pos (by rfl)]
          go_simp
          refine hK.out _ _ (fun h => absurd rfl h) (fun _ => ?_)
          refine wpTail.done (by kernel_rfl) ?_ _
          go_wp2_with fail
          go_ret
          rw [HP.out]
          obtain ⟨_, _, e4, hr4, -, -⟩ := ownsRow_row hown4
          cases e4
          refine ⟨av4, cv4, ?_, put_row hr4, by rw [put_len hk]; exact hln4, hcn4, hb4⟩
          rw [put_len hk]
          rfl
        · rw [if_pos (by rfl)]
          go_simp
          have hbl := hb1.alloc (hb1.size) (.cells #[.string s] 9)
          have hlit := row_new (w.drew.alloc (.cells #[] 9)) [.string s] 9
          rw [show (w.drew.alloc (.cells #[] 9)).heap.size = w.heap.size + 1 by simp] at hlit
          refine hK.out _ _ (fun _ => HS.out _ hbl) (fun hHeld => ?_)
          replace hHeld := hHeld (by decide)
          refine wpTail.ready (rs := [4]) (by kernel_rfl) (by simp) ?_
          refine AllTail.cons rfl (fun K hK => ?_) AllTail.nil
          refine step_spread' (m := k) T_strs (ownsRow_low ho1 (low_alloc _ _)) hbl (Nat.le_refl _) (HR1.out.below hbl (Nat.le_refl _)) rfl rfl rfl rfl HL1.out HO1.out ?_ ?_ ?_
          · omega
          · omega
          intro v2 w2 hown2 hb2 hg2
          try simp only [Nat.zero_add, List.nil_append] at hown2
          obtain ⟨av2, cv2, rfl, -, hln2, hcn2⟩ := ownsRow_row hown2
          have hlit2 := row_grown hlit hg2 (fun b o e h => by cases e; simp [Value.ownBlock] at h)
          refine hK.out _ _ (fun _ => HS.out _ hb2) (fun hHeld => ?_)
          replace hHeld := hHeld (by decide)
          refine wpTail.ready (rs := [7]) (by kernel_rfl) (by simp) ?_
          refine AllTail.cons rfl (fun K hK => ?_) AllTail.nil
          refine step_spread' (m := 1) T_strs hown2 hb2 (Nat.le_refl _) hlit2 rfl rfl rfl rfl rfl HOL.out ?_ ?_ ?_
          · omega
          · omega
          intro v3 w3 hown3 hb3 hg3
          try simp only [Nat.zero_add, List.nil_append] at hown3
          obtain ⟨av3, cv3, rfl, -, hln3, hcn3⟩ := ownsRow_row hown3
          refine hK.out _ _ (fun _ => HS.out _ hb3) (fun hHeld => ?_)
          replace hHeld := hHeld (by decide)
          refine wpTail.ready (rs := [11]) (by kernel_rfl) (by simp) ?_
          refine AllTail.cons rfl (fun K hK => ?_) AllTail.nil
          refine step_spread' (m := (l.length - k)) T_strs hown3 hb3 (Nat.le_refl _) (HR2.out.below hb3 (Nat.le_refl _)) rfl rfl rfl rfl HL2.out HO2.out ?_ ?_ ?_
          · omega
          · omega
          intro v4 w4 hown4 hb4 hg4
          try simp only [Nat.zero_add, List.nil_append] at hown4
          obtain ⟨av4, cv4, rfl, -, hln4, hcn4⟩ := ownsRow_row hown4
          refine hK.out _ _ (fun _ => HS.out _ hb4) (fun hHeld => ?_)
          replace hHeld := hHeld (by decide)
          refine wpTail.ready (rs := [12]) (by kernel_rfl) (by simp) ?_
          refine AllTail.cons rfl (fun K hK => ?_) AllTail.nil
          rw [if_pos (by rfl)]
          go_simp
          refine hK.out _ _ (fun h => absurd rfl h) (fun _ => ?_)
          refine wpTail.done (by kernel_rfl) ?_ _
          go_wp2_with fail
          go_ret
          rw [HP.out]
          obtain ⟨_, _, e4, hr4, -, -⟩ := ownsRow_row hown4
          cases e4
          refine ⟨av4, cv4, ?_, put_row hr4, by rw [put_len hk]; exact hln4, hcn4, hb4⟩
          rw [put_len hk]
          rfl
      · rw [if_pos (by rfl)]
        go_simp
        have hb1 := hb0.alloc (hb0.size) (.cells #[.string s] 9)
        have hlit := row_new w.drew [.string s] 9
        refine hK.out _ _ (fun _ => HS.out _ hb1) (fun hHeld => ?_)
        replace hHeld := hHeld (by decide)
        refine wpTail.ready (rs := [0]) (by kernel_rfl) (by simp) ?_
        refine AllTail.cons rfl (fun K hK => ?_) AllTail.nil
        rw [if_pos (by rfl)]
        go_simp
        have hbl := hb1.alloc (hb1.size) (.cells #[] 9)
        have ho1 := own_empty (w.drew.alloc (.cells #[.string s] 9)) 9 w.heap.size 1 hb1.size
        rw [show (w.drew.alloc (.cells #[.string s] 9)).heap.size = w.heap.size + 1 by simp] at ho1
        refine hK.out _ _ (fun _ => HS.out _ hbl) (fun hHeld => ?_)
        replace hHeld := hHeld (by decide)
        refine wpTail.ready (rs := [4]) (by kernel_rfl) (by simp) ?_
        refine AllTail.cons rfl (fun K hK => ?_) AllTail.nil
        refine step_spread' (m := k) T_strs ho1 hbl (Nat.le_refl _) (HR1.out.below hbl (Nat.le_refl _)) rfl rfl rfl rfl HL1.out HO1.out ?_ ?_ ?_
        · omega
        · omega
        intro v2 w2 hown2 hb2 hg2
        try simp only [Nat.zero_add, List.nil_append] at hown2
        obtain ⟨av2, cv2, rfl, -, hln2, hcn2⟩ := ownsRow_row hown2
        have hlit2 := row_grown (hlit.below (low_alloc _ _) (Nat.le_refl _)) hg2 (fun b o e h => by cases e; simp [Value.ownBlock] at h)
        refine hK.out _ _ (fun _ => HS.out _ hb2) (fun hHeld => ?_)
        replace hHeld := hHeld (by decide)
        refine wpTail.ready (rs := [7]) (by kernel_rfl) (by simp) ?_
        refine AllTail.cons rfl (fun K hK => ?_) AllTail.nil
        refine step_spread' (m := 1) T_strs hown2 hb2 (Nat.le_refl _) hlit2 rfl rfl rfl rfl rfl HOL.out ?_ ?_ ?_
        · omega
        · omega
        intro v3 w3 hown3 hb3 hg3
        try simp only [Nat.zero_add, List.nil_append] at hown3
        obtain ⟨av3, cv3, rfl, -, hln3, hcn3⟩ := ownsRow_row hown3
        refine hK.out _ _ (fun _ => HS.out _ hb3) (fun hHeld => ?_)
        replace hHeld := hHeld (by decide)
        refine wpTail.ready (rs := [11]) (by kernel_rfl) (by simp) ?_
        refine AllTail.cons rfl (fun K hK => ?_) AllTail.nil
        refine step_spread' (m := (l.length - k)) T_strs hown3 hb3 (Nat.le_refl _) (HR2.out.below hb3 (Nat.le_refl _)) rfl rfl rfl rfl HL2.out HO2.out ?_ ?_ ?_
        · omega
        · omega
        intro v4 w4 hown4 hb4 hg4
        try simp only [Nat.zero_add, List.nil_append] at hown4
        obtain ⟨av4, cv4, rfl, -, hln4, hcn4⟩ := ownsRow_row hown4
        refine hK.out _ _ (fun _ => HS.out _ hb4) (fun hHeld => ?_)
        replace hHeld := hHeld (by decide)
        refine wpTail.ready (rs := [12]) (by kernel_rfl) (by simp) ?_
        refine AllTail.cons rfl (fun K hK => ?_) AllTail.nil
        rw [if_pos (by rfl)]
        go_simp
        refine hK.out _ _ (fun h => absurd rfl h) (fun _ => ?_)
        refine wpTail.done (by kernel_rfl) ?_ _
        go_wp2_with fail
        go_ret
        rw [HP.out]
        obtain ⟨_, _, e4, hr4, -, -⟩ := ownsRow_row hown4
        cases e4
        refine ⟨av4, cv4, ?_, put_row hr4, by rw [put_len hk]; exact hln4, hcn4, hb4⟩
        rw [put_len hk]
        rfl

/-- the document's trie lies at block r: it has the hints Gs; its blocks are G -/
def TRep (w : World) (r : Nat) (Gs : List Hint) (G : List Nat) : Prop :=
  ∃ a c, w.heap[r]? = some (.cells #[.slice a Gs.length c] 77 (0, 0)) ∧ Gs.length ≤ c ∧ c ≤ maxLen ∧ Row w a (hintsV Gs) ∧ r ∈ G ∧ (∀ b o, a = some ⟨b, o, none⟩ → hintsV Gs ≠ [] → b ∈ G) ∧ ∀ k ∈ G, k < w.heap.size
theorem TRep.lt {w : World} {r : Nat} {Gs : List Hint} {G : List Nat} (h : TRep w r Gs G) : ∀ k ∈ G, k < w.heap.size := by obtain ⟨a, c, -, -, -, -, -, -, h⟩ := h; exact h
theorem TRep.mem {w : World} {r : Nat} {Gs : List Hint} {G : List Nat} (h : TRep w r Gs G) : r ∈ G := by obtain ⟨a, c, -, -, -, -, h, -⟩ := h; exact h
theorem TRep.keep {w : World} {r : Nat} {Gs : List Hint} {G : List Nat} (h : TRep w r Gs G) : ∃ a c, Gs.length ≤ c ∧ c ≤ maxLen ∧ (∀ b o, a = some ⟨b, o, none⟩ → hintsV Gs ≠ [] → b ∈ G) ∧
    ∀ (S : List Nat) (W : World), Mod S w W → (∀ k ∈ G, k ∉ S) → W.heap[r]? = some (.cells #[.slice a Gs.length c] 77 (0, 0)) ∧ W.cell? ⟨r, 0, none⟩ = some (.slice a Gs.length c) ∧ Row W a (hintsV Gs) := by
  obtain ⟨a, c, h1, h2, h3, h4, h5, h6, h7⟩ := h
  refine ⟨a, c, h2, h3, h6, fun S W hm hS => ?_⟩
  have hh : W.heap[r]? = some (.cells #[.slice a Gs.length c] 77 (0, 0)) := (hm.block r (h7 r h5) (hS r h5)).trans h1
  refine ⟨hh, cell_of_row W r 0 _ _ _ hh, ?_⟩
  by_cases he : hintsV Gs = []
  · exact .inl he
  · exact h4.mod hm (fun b o e => hS b (h6 b o e he))
theorem TRep.mod {S : List Nat} {w w' : World} {r : Nat} {Gs : List Hint} {G : List Nat} (h : TRep w r Gs G) (hm : Mod S w w') (hS : ∀ k ∈ G, k ∉ S) : TRep w' r Gs G := by
  obtain ⟨a, c, h2, h3, h4, hk⟩ := h.keep
  obtain ⟨h5, -, h6⟩ := hk S w' hm hS
  exact ⟨a, c, h5, h2, h3, h6, h.mem, h4, fun k hk => Nat.lt_of_lt_of_le (h.lt k hk) hm.size⟩
theorem TRep.below {w w' : World} {r : Nat} {Gs : List Hint} {G : List Nat} (h : TRep w r Gs G) (hk : Below w.heap.size w w') : TRep w' r Gs G := h.mod (Mod.of_below hk []) (by simp)
theorem TRep.held {w : World} {r : Nat} {Gs : List Hint} {G : List Nat} (h : TRep w r Gs G) : ∃ a c, Gs.length ≤ c ∧ c ≤ maxLen ∧
    ∀ W : World, Below w.heap.size w W → W.cell? ⟨r, 0, none⟩ = some (.slice a Gs.length c) ∧ Row W a (hintsV Gs) := by
  obtain ⟨a, c, h1, h2, -, hk⟩ := h.keep
  exact ⟨a, c, h1, h2, fun W hb => (hk [] W (Mod.of_below hb []) (by simp)).2⟩
/-- .. behind a store of its new row -/
theorem tset_fin {w W3 : World} {r n : Nat} {Gs L : List Hint} {G : List Nat} {v : Value} (h : TRep w r Gs G) (hb : Below w.heap.size w W3) (hown : W3.ownsRow w.heap.size 47 2 v n (hintsV L)) (hn : n = L.length) :
    ∃ G', TRep (W3.setCell ⟨r, 0, none⟩ v) r L G' ∧ Upd G G' w (W3.setCell ⟨r, 0, none⟩ v) := by
  subst hn
  obtain ⟨a0, c0, -, -, -, hk⟩ := h.keep
  obtain ⟨hh, -, -⟩ := hk [] W3 (Mod.of_below hb []) (by simp)
  have hr := h.lt r h.mem
  have hlt := hown.lt
  obtain ⟨a, c, rfl, hrow, h1, h2⟩ := ownsRow_row hown
  have hne : ∀ b o, a = some ⟨b, o, none⟩ → w.heap.size ≤ b ∧ b < W3.heap.size := fun b o e => hlt b (by rw [e]; rfl)
  refine ⟨r :: (Value.slice a L.length c).ownBlock.toList, ⟨a, c, ?_, h1, h2, ?_, by simp, fun b o e _ => by subst e; simp [Value.ownBlock], ?_⟩, ⟨(Mod.of_below hb G).setCell (.inl h.mem) _, ?_⟩⟩
  · rw [heap_setCell_same W3 r 0 _ _ _ hh]; rfl
  · rcases hrow with hrow | ⟨b, o, rfl, hc⟩
    · exact .inl hrow
    · refine .inr ⟨b, o, rfl, fun j u hj => ?_⟩
      have := (hne b o rfl).1
      rw [World.cell?_of_block (w := W3) (heap_setCell_other W3 _ _ _ (by show b ≠ r; omega))]
      exact hc j u hj
  · intro k hk
    rw [show (W3.setCell ⟨r, 0, none⟩ (.slice a L.length c)).heap.size = W3.heap.size by simp]
    simp only [List.mem_cons, Option.mem_toList] at hk
    rcases hk with rfl | hk
    · have := hb.size; omega
    · exact (hlt k hk).2
  · intro k hk
    simp only [List.mem_cons, Option.mem_toList] at hk
    rcases hk with rfl | hk
    · exact .inl h.mem
    · exact .inr (hlt k hk).1
theorem cells2 {w : World} {g : Nat} {a b : Value} {T : TypeId} {fr : Nat × Nat} (h : w.heap[g]? = some (.cells #[a, b] T fr)) : w.cell? ⟨g, 0, none⟩ = some a ∧ w.cell? ⟨g, 1, none⟩ = some b :=
  ⟨cell_of_row w g 0 _ _ _ h, cell_of_row w g 1 _ _ _ h⟩
set_option maxRecDepth 100000 in
theorem tdahead_any (x y : Hint) (b : Bool) (w : World) (hb : decide (Ahead x y) = b) :
    Calls Tryz.prog 67 #[.agg #[.string ⟨x.1.toArray⟩, .string ⟨x.2.toArray⟩], .agg #[.string ⟨y.1.toArray⟩, .string ⟨y.2.toArray⟩]] w fun e w' => e = .returned (.bool b) ∧ Below w.heap.size w w' := by
  obtain ⟨xf, xc⟩ := x
  obtain ⟨yf, yc⟩ := y
  dsimp only
  have hA : decide (Ahead (xf, xc) (yf, yc)) = (decide (xf < yf) || (decide (xf = yf) && decide (xc < yc))) := by
    rw [Bool.eq_iff_iff, decide_eq_true_iff]; simp [Ahead]
  rw [hA] at hb
  have HB := Lib.hid hb
  have h1 := heap_alloc_new w (.cells #[.string ⟨xf.toArray⟩, .string ⟨xc.toArray⟩] 47)
  have h2 := heap_alloc_new (w.alloc (.cells #[.string ⟨xf.toArray⟩, .string ⟨xc.toArray⟩] 47)) (.cells #[.string ⟨yf.toArray⟩, .string ⟨yc.toArray⟩] 47)
  rw [World.size_alloc] at h2
  have h1' := (Below.heap_alloc (w.alloc (.cells #[.string ⟨xf.toArray⟩, .string ⟨xc.toArray⟩] 47)) (.cells #[.string ⟨yf.toArray⟩, .string ⟨yc.toArray⟩] 47) w.heap.size (by simp)).trans h1
  obtain ⟨c0, c1⟩ := cells2 h1'
  obtain ⟨d0, d1⟩ := cells2 h2
  have HBW := Lib.hid (((Below.refl w.heap.size w).alloc (Nat.le_refl _) (.cells #[.string ⟨xf.toArray⟩, .string ⟨xc.toArray⟩] 47)).alloc (by simp) (.cells #[.string ⟨yf.toArray⟩, .string ⟨yc.toArray⟩] 47))
  clear h1 h2 h1' hA hb
  go_enter Tryz.func67, Tryz.ntmps67
  by_cases hl : xf < yf
  · have hq : Op.bytesLess xf yf = true := by rw [bytesLess_eq]; exact decide_eq_true hl
    have HT : Hid (true = b) := Lib.hid (by rw [← HB.out]; simp [hl])
    clear hl HB
    go_wp2_with fail
    go_ret
    exact ⟨ret_bool HT.out, HBW.out⟩
  · have hq : Op.bytesLess xf yf = false := by rw [bytesLess_eq]; exact decide_eq_false hl
    by_cases he : xf = yf
    · have he2 : (xf == yf) = true := by simpa using he
      obtain ⟨b2, hb2⟩ : ∃ b, Op.bytesLess xc yc = b := ⟨_, rfl⟩
      have HT : Hid (b2 = b) := Lib.hid (by rw [← HB.out, ← hb2, bytesLess_eq]; simp [he, List.lt_irrefl])
      clear hl HB he
      go_wp2_with fail
      go_ret
      exact ⟨ret_bool HT.out, HBW.out⟩
    · have he2 : (xf == yf) = false := by simpa using he
      have HT : Hid (false = b) := Lib.hid (by rw [← HB.out]; simp [hl, he])
      clear hl HB he
      go_wp2_with fail
      go_ret
      exact ⟨ret_bool HT.out, HBW.out⟩
set_option maxRecDepth 100000 in
set_option maxHeartbeats 2000000 in
theorem tdhas_any (bb : Bool) (r : Nat) (Gs : List Hint) (G : List Nat) (f c : Str) (w : World) (h : TRep w r Gs G) (hl : Gs.length ≤ 100000) (hbb : decide ((f, c) ∈ Gs) = bb) :
    Calls Tryz.prog 66 #[.pointer (some ⟨r, 0, none⟩), .agg #[.string ⟨f.toArray⟩, .string ⟨c.toArray⟩]] w fun e w' => e = .returned (.bool bb) ∧ Below w.heap.size w w' := by
  have HBB := Lib.hid hbb
  have hb0 : Below w.heap.size w (w.alloc (.cells #[.string ⟨f.toArray⟩, .string ⟨c.toArray⟩] 47)) := (Below.refl _ _).alloc (Nat.le_refl _) _
  obtain ⟨a, cp, -, -, hH⟩ := h.held
  obtain ⟨t0, hA⟩ := hH _ hb0
  obtain ⟨j0, j1⟩ := cells2 (heap_alloc_new w (.cells #[.string ⟨f.toArray⟩, .string ⟨c.toArray⟩] 47))
  have HA := Lib.hid hA
  have HB := Lib.hid hb0
  clear hA hbb hb0 hH h
  go_enter Tryz.func66, Tryz.ntmps66
  go_wp2_with fail
  generalize w.alloc (.cells #[.string ⟨f.toArray⟩, .string ⟨c.toArray⟩] 47) = W at *
  go_loopw [5] (fun i wr => ∃ k : Nat, i = .int .i64 k ∧ k ≤ Gs.length ∧ (∃ n, wr = W.drewN n) ∧ decide ((f, c) ∈ Gs.drop k) = bb) (fun i _ => (Gs.length - intOf i).toNat)
  case atStart => exact ⟨0, rfl, by omega, ⟨0, rfl⟩, by simpa using HBB.out⟩
  case round =>
    obtain ⟨k, rfl, hk, ⟨n, rfl⟩, htk⟩ := hrel
    have HTK := Lib.hid htk
    clear htk
    by_cases hlt : k < Gs.length
    · obtain ⟨b1, o1, rfl, k0, k1⟩ := hints_row HA.out hlt
      have h1 := List.drop_eq_getElem_cons hlt
      have HE : Hid (Gs[k] ≠ (f, c) → decide ((f, c) ∈ Gs.drop (k + 1)) = bb) := Lib.hid (fun e => by
        rw [← HTK.out, h1]; congr 1; rw [List.mem_cons]; simp only [eq_iff_iff]; exact ⟨.inr, fun h => h.elim (fun h => absurd h.symm e) id⟩)
      have HN : Hid (Gs[k] = (f, c) → true = bb) := Lib.hid (fun e => by rw [← HTK.out, h1, e]; simp)
      clear h1
      generalize Gs[k] = x at *
      obtain ⟨xf, xc⟩ := x
      have hk0 : (0 : Int) ≤ k := by omega
      have hkl : (k : Int) < Gs.length := by omega
      simp only at k0 k1
      obtain ⟨b, hb⟩ : ∃ b, decide (((xf, xc) : Hint) = (f, c)) = b := ⟨_, rfl⟩
      have hcmp := fun w => hint_eql b w xf xc f c hb
      cases b with
      | true =>
        have HN' := Lib.hid (HN.out (of_decide_eq_true hb))
        clear HE HN hb
        go_wp2_with fail
        go_quiet (fail)
        go_wp2_with fail
        go_ret
        exact ⟨ret_bool HN'.out, Go.below_drewN (Go.below_drewN HB.out n) _⟩
      | false =>
        have HE' := Lib.hid (HE.out (of_decide_eq_false hb))
        clear HE HN hb
        go_wp2_with fail
        go_quiet (fail)
        go_wp2_with fail
        go_roundw
        case rel => exact ⟨k + 1, by go_num, by omega, ⟨n + _, rfl⟩, HE'.out⟩
        case measure => simp [intOf]; omega
    · have hkl : ¬ (k : Int) < Gs.length := by omega
      have HBT : Hid (false = bb) := Lib.hid (by rw [← HTK.out, List.drop_eq_nil_of_le (by omega)]; simp)
      go_wp2_with fail
      go_ret
      exact ⟨ret_bool HBT.out, Go.below_drewN HB.out n⟩
end
section
open Go Go.RowKit


theorem hints_one (l : List Hint) : ∀ u ∈ hintsV l, u.oneCell' = true := by
  intro u hu
  obtain ⟨x, -, hx⟩ := List.mem_flatMap.1 hu
  simp only [hintCells, List.mem_cons, List.not_mem_nil, or_false] at hx
  rcases hx with rfl | rfl <;> rfl
theorem hintsV_take (l : List Hint) (k : Nat) : hintsV (l.take k) = (hintsV l).take (k * 2) := by
  induction l generalizing k with
  | nil => simp [hintsV]
  | cons x r ih =>
    cases k with
    | zero => simp [hintsV]
    | succ k =>
      have h1 : hintsV (x :: r) = .string ⟨x.1.toArray⟩ :: .string ⟨x.2.toArray⟩ :: hintsV r := rfl
      have h2 : hintsV (x :: r.take k) = .string ⟨x.1.toArray⟩ :: .string ⟨x.2.toArray⟩ :: hintsV (r.take k) := rfl
      rw [List.take_succ_cons, h2, h1, ih, show (k + 1) * 2 = k * 2 + 1 + 1 by omega, List.take_succ_cons, List.take_succ_cons]
theorem hintsV_drop (l : List Hint) (k : Nat) : hintsV (l.drop k) = (hintsV l).drop (k * 2) := by
  induction l generalizing k with
  | nil => simp [hintsV]
  | cons x r ih =>
    cases k with
    | zero => simp
    | succ k =>
      have h1 : hintsV (x :: r) = .string ⟨x.1.toArray⟩ :: .string ⟨x.2.toArray⟩ :: hintsV r := rfl
      rw [List.drop_succ_cons, h1, ih, show (k + 1) * 2 = k * 2 + 1 + 1 by omega, List.drop_succ_cons, List.drop_succ_cons]
theorem upd_pre {G G' : List Nat} {w w1 w2 : World} (hb : Below w.heap.size w w1) (hu : Upd G G' w1 w2) : Upd G G' w w2 :=
  ⟨⟨hu.1.os.trans hb.os, hu.1.tape.trans hb.tape, hu.1.output.trans hb.output, Nat.le_trans hb.size hu.1.size, fun k hk hn => by rw [hu.1.block k (Nat.lt_of_lt_of_le hk hb.size) hn, hb.block k hk]⟩,
    fun k hk => (hu.2 k hk).imp id (fun h => Nat.le_trans hb.size h)⟩
theorem tdfilter_x (b : Bool) (s : Str) (w : World) (hs : s.length ≤ 300) (hb : filterB s = b) : Calls Tryz.prog 65 #[.string ⟨s.toArray⟩] w fun e w' => e = .returned (.bool b) ∧ Below w.heap.size w w' := by
  subst hb
  exact rfilter_any ⟨s.toArray⟩ w (by show s.toArray.size < _; simp; omega)
set_option maxRecDepth 100000 in
set_option maxHeartbeats 4000000 in
theorem tdadd_any (r : Nat) (Gs : List Hint) (G : List Nat) (s c : Str) (w : World) (h : TRep w r Gs G) (hl : Gs.length ≤ 100000) (hs : s.length ≤ 300) :
    Calls Tryz.prog 36 #[.pointer (some ⟨r, 0, none⟩), .string ⟨s.toArray⟩, .string ⟨c.toArray⟩] w fun e w' => e = .returned (.bool (addB Gs s c)) ∧ ∃ G', TRep w' r (addG Gs s c) G' ∧ Upd G G' w w' := by
  have hb1 : Below w.heap.size w (w.alloc (.cells #[.string ⟨s.toArray⟩, .string ⟨c.toArray⟩] 47)) := (Below.refl _ _).alloc (Nat.le_refl _) _
  have HRB := Lib.hid (h.below hb1)
  have hR := heap_alloc_new w (.cells #[.string ⟨s.toArray⟩, .string ⟨c.toArray⟩] 47)
  have HBW := Lib.hid hb1
  clear hb1
  obtain ⟨bf, hbf⟩ : ∃ b, filterB s = b := ⟨_, rfl⟩
  obtain ⟨bm, hbm⟩ : ∃ b, decide ((s, c) ∈ Gs) = b := ⟨_, rfl⟩
  have HBF := Lib.hid hbf
  have HBM := Lib.hid hbm
  have HADD := Lib.hid (show addB Gs s c = (bf && !bm) by unfold addB; rw [hbf, hbm])
  clear hbf hbm h
  have HFIL := Lib.hid (fun W => tdfilter_x bf s W hs HBF.out)
  go_enter Tryz.func36, Tryz.ntmps36
  go_wp2_with fail
  obtain ⟨W1, hW1⟩ : ∃ W1, w.alloc (.cells #[.string ⟨s.toArray⟩, .string ⟨c.toArray⟩] 47) = W1 := ⟨_, rfl⟩
  rw [hW1] at hR HBW HRB ⊢
  obtain ⟨av, cp, hcp, hcm, -, hkeep⟩ := HRB.out.keep
  have HF : Hid (∀ X : World, Below W1.heap.size W1 X → X.cell? ⟨r, 0, none⟩ = some (.slice av Gs.length cp) ∧ Row X av (hintsV Gs) ∧ X.cell? ⟨w.heap.size, 0, none⟩ = some (.string ⟨s.toArray⟩) ∧ X.cell? ⟨w.heap.size, 1, none⟩ = some (.string ⟨c.toArray⟩)) := Lib.hid (fun X hX => by
    obtain ⟨-, h2, h3⟩ := hkeep [] X (Mod.of_below hX []) (by simp)
    have h4 := cells2 ((hX.block _ (Array.getElem?_eq_some_iff.1 hR).1).trans hR)
    exact ⟨h2, h3, h4.1, h4.2⟩)
  have HFR : Hid (∀ X : World, Below W1.heap.size W1 X → X.cell? ⟨r, 0, none⟩ = some (.slice av Gs.length cp) ∧ X.frozen? ⟨r, 0, none⟩ = false) := Lib.hid (fun X hX => by
    obtain ⟨h1, h2, -⟩ := hkeep [] X (Mod.of_below hX []) (by simp)
    exact ⟨h2, frozen_of_row X r 0 _ _ h1⟩)
  have HCM := Lib.hid hcm
  have HNO : Hid (addB Gs s c = false → ∀ X, Below W1.heap.size W1 X → ∃ G', TRep X r (addG Gs s c) G' ∧ Upd G G' w X) := Lib.hid (fun e X hX => by
    refine ⟨G, ?_, upd_pre HBW.out (upd_below hX)⟩
    unfold addG
    rw [e]
    exact HRB.out.below hX)
  clear hcm hkeep hR hW1
  refine (HFIL.out _).mono ?_
  rintro e w2 ⟨rfl, hk2⟩
  obtain ⟨c0, c1, c2, c3⟩ := HF.out _ hk2
  have HB2 := Lib.hid hk2
  have HC1 := Lib.hid c1
  clear c1 hk2
  cases bf with
  | false =>
    have HAB : Hid (addB Gs s c = false) := Lib.hid (by rw [HADD.out]; rfl)
    go_wp2_with fail
    go_ret
    exact ⟨ret_bool HAB.out.symm, HNO.out HAB.out _ HB2.out⟩
  | true =>
    have HAB : Hid (addB Gs s c = !bm) := Lib.hid (by rw [HADD.out]; rfl)
    go_wp2_with fail
    refine (tdhas_any bm r Gs G s c w2 (HRB.out.below HB2.out) (by omega) HBM.out).mono ?_
    rintro e w3 ⟨rfl, hk3⟩
    have HB3 := Lib.hid (bnext HB2.out (Nat.le_refl _) hk3)
    clear hk3 c0 c2 c3 HC1
    cases bm with
    | true =>
      have HAB1 : Hid (addB Gs s c = false) := Lib.hid (by rw [HAB.out]; rfl)
      go_wp2_with fail
      go_ret
      exact ⟨ret_bool HAB1.out.symm, HNO.out HAB1.out _ HB3.out⟩
    | false =>
      have HAB1 : Hid (true = addB Gs s c) := Lib.hid (by rw [HAB.out]; rfl)
      have HAI : Hid (addG Gs s c = insH (s, c) Gs) := Lib.hid (by unfold addG; rw [← HAB1.out, if_pos rfl])
      go_wp2_with fail
      go_loopw [8] (fun i wr => ∃ k : Nat, i = .int .i64 k ∧ k ≤ Gs.length ∧ Below W1.heap.size W1 wr ∧ ∀ y ∈ Gs.take k, Ahead y (s, c)) (fun i _ => (Gs.length - intOf i).toNat)
      case atStart => exact ⟨0, rfl, by omega, HB3.out, by simp⟩
      case round =>
        obtain ⟨k, rfl, hk, hbr, htk⟩ := hrel
        have HTK := Lib.hid htk
        clear htk
        obtain ⟨c0, c1, c2, c3⟩ := HF.out _ hbr
        have HC1 := Lib.hid c1
        clear c1
        by_cases hlt : k < Gs.length
        · have HCC := Lib.hid (fun X (hX : Below W1.heap.size W1 X) => hints_row (HF.out X hX).2.1 hlt)
          obtain ⟨b1, o1, rfl, k0, k1⟩ := hints_row HC1.out hlt
          have h1 := List.take_succ_eq_append_getElem hlt
          have HST1 : Hid (Ahead Gs[k] (s, c) → ∀ y ∈ Gs.take (k + 1), Ahead y (s, c)) := Lib.hid (fun e y hy => by
            rw [h1] at hy
            rcases List.mem_append.1 hy with hy | hy
            · exact HTK.out y hy
            · rw [List.mem_singleton.1 hy]; exact e)
          have HMD : Hid (¬ Ahead Gs[k] (s, c) → addG Gs s c = Gs.take k ++ ([(s, c)] ++ Gs.drop k)) := Lib.hid (fun e => by rw [HAI.out]; exact insH_mid hk HTK.out (fun _ => e))
          have HC : Hid (∀ X : World, Below W1.heap.size W1 X → X.cell? ⟨r, 0, none⟩ = some (.slice (some ⟨b1, o1, none⟩) Gs.length cp) ∧ X.cell? ⟨b1, o1 + k * 2, none⟩ = some (.string ⟨Gs[k].1.toArray⟩) ∧ X.cell? ⟨b1, o1 + k * 2 + 1, none⟩ = some (.string ⟨Gs[k].2.toArray⟩) ∧ X.cell? ⟨w.heap.size, 0, none⟩ = some (.string ⟨s.toArray⟩) ∧ X.cell? ⟨w.heap.size, 1, none⟩ = some (.string ⟨c.toArray⟩)) := Lib.hid (fun X hX => by
            obtain ⟨b2, o2, e, h2, h3⟩ := HCC.out X hX
            cases e
            obtain ⟨d0, -, d2, d3⟩ := HF.out X hX
            exact ⟨d0, h2, h3, d2, d3⟩)
          have hk0 : (0 : Int) ≤ k := by omega
          have hkl : (k : Int) < Gs.length := by omega
          obtain ⟨b, hb⟩ : ∃ b, decide (Ahead Gs[k] (s, c)) = b := ⟨_, rfl⟩
          have HAH := Lib.hid (fun W => tdahead_any Gs[k] (s, c) b W hb)
          have HBB := Lib.hid hb
          clear h1 hb HCC HC1
          generalize Gs[k] = y at *
          obtain ⟨yf, yc⟩ := y
          dsimp only at k0 k1 HC HAH
          cases b with
          | true =>
            have HS2 := Lib.hid (HST1.out (of_decide_eq_true HBB.out))
            clear HST1 HMD HBB
            go_wp2_with fail
            go_region_held3 (fun w' => w'.cell? ⟨r, 0, none⟩ = some (.slice (some ⟨b1, o1, none⟩) Gs.length cp) ∧ w'.cell? ⟨b1, o1 + k * 2, none⟩ = some (.string ⟨yf.toArray⟩) ∧ w'.cell? ⟨b1, o1 + k * 2 + 1, none⟩ = some (.string ⟨yc.toArray⟩) ∧ w'.cell? ⟨w.heap.size, 0, none⟩ = some (.string ⟨s.toArray⟩) ∧ w'.cell? ⟨w.heap.size, 1, none⟩ = some (.string ⟨c.toArray⟩)) (first | exact sA | go_keep) (first
              | (go_at_call 67; refine (HAH.out _).mono ?_; rintro e w5 ⟨rfl, hk5⟩; have hb5 := bnext (by first | exact hbr | exact Go.below_drewN hbr _) (Nat.le_refl _) hk5; have sA := HC.out _ hb5))
            have HB5 := Lib.hid hb5
            clear sA hb5 hk5 hbr c0 c2 c3 k0 k1
            go_wp2_with fail
            go_roundw
            case rel => exact ⟨k + 1, by go_num, by omega, HB5.out, HS2.out⟩
            case measure => simp [intOf]; omega
          | false =>
            have HAG := Lib.hid (HMD.out (of_decide_eq_false HBB.out))
            clear HST1 HMD HBB
            go_wp2_with fail
            go_region_held3 (fun w' => w'.cell? ⟨r, 0, none⟩ = some (.slice (some ⟨b1, o1, none⟩) Gs.length cp) ∧ w'.cell? ⟨b1, o1 + k * 2, none⟩ = some (.string ⟨yf.toArray⟩) ∧ w'.cell? ⟨b1, o1 + k * 2 + 1, none⟩ = some (.string ⟨yc.toArray⟩) ∧ w'.cell? ⟨w.heap.size, 0, none⟩ = some (.string ⟨s.toArray⟩) ∧ w'.cell? ⟨w.heap.size, 1, none⟩ = some (.string ⟨c.toArray⟩)) (first | exact sA | go_keep) (first
              | (go_at_call 67; refine (HAH.out _).mono ?_; rintro e w5 ⟨rfl, hk5⟩; have hb5 := bnext (by first | exact hbr | exact Go.below_drewN hbr _) (Nat.le_refl _) hk5; have sA := HC.out _ hb5))
            clear sA hk5 hbr c0 c2 c3 k0 k1 HC HAH
            go_wp2_with fail
            generalize w5 = wb at *
            have hbb := hb5
            obtain ⟨av, hav⟩ : ∃ a, some (⟨b1, o1, none⟩ : Addr) = a := ⟨_, rfl⟩
            rw [hav] at HF HFR
            rw [hav]
            clear hb5 hav
            obtain ⟨⟨a1, hs1, hr1⟩, a2, hs2, hr2⟩ := slice_run Tryz.underlying40 (sz := 2) (by kernel_rfl) av Gs.length cp k hk hcp
            have HR1 := Lib.hid (hr1 wb _ (HF.out wb hbb).2.1)
            have HR2 := Lib.hid (hr2 wb _ (HF.out wb hbb).2.1 (hintsV_length Gs))
            have HS : Hid (∀ X : World, Below wb.heap.size wb X → X.cell? ⟨r, 0, none⟩ = some (.slice av Gs.length cp) ∧ X.cell? ⟨w.heap.size, 0, none⟩ = some (.string ⟨s.toArray⟩) ∧ X.cell? ⟨w.heap.size, 1, none⟩ = some (.string ⟨c.toArray⟩)) := Lib.hid (fun X hX => by
              have h := HF.out X (bnext hbb (Nat.le_refl _) hX)
              exact ⟨h.1, h.2.2.1, h.2.2.2⟩)
            have HST : Hid (∀ X : World, Below wb.heap.size wb X → X.cell? ⟨r, 0, none⟩ = some (.slice av Gs.length cp) ∧ X.frozen? ⟨r, 0, none⟩ = false) := Lib.hid (fun X hX => HFR.out X (bnext hbb (Nat.le_refl _) hX))
            have HFIN : Hid (∀ (X : World) (v : Value) (n : Nat), Below wb.heap.size wb X → X.ownsRow wb.heap.size 47 2 v n ((hintsV Gs).take (k * 2) ++ [.string ⟨s.toArray⟩, .string ⟨c.toArray⟩] ++ (hintsV Gs).drop (k * 2)) → ∃ G', TRep (X.setCell ⟨r, 0, none⟩ v) r (addG Gs s c) G' ∧ Upd G G' w (X.setCell ⟨r, 0, none⟩ v)) := Lib.hid (fun X v n hX ho => by
              have e : (hintsV Gs).take (k * 2) ++ [.string ⟨s.toArray⟩, .string ⟨c.toArray⟩] ++ (hintsV Gs).drop (k * 2) = hintsV (addG Gs s c) := by
                rw [HAG.out, hintsV_append, hintsV_append, hintsV_take, hintsV_drop, List.append_assoc]; rfl
              rw [e] at ho
              have hn := ho.1
              rw [hintsV_length] at hn
              obtain ⟨G', h1, h2⟩ := tset_fin (HRB.out.below hbb) hX ho (by omega)
              exact ⟨G', h1, upd_pre (HBW.out.trans (hbb.mono HBW.out.size)) h2⟩)
            have HL1 := Lib.hid (show ((hintsV Gs).take (k * 2)).length = k * 2 by rw [List.length_take, hintsV_length]; omega)
            have HL2 := Lib.hid (show ((hintsV Gs).drop (k * 2)).length = (Gs.length - k) * 2 by rw [List.length_drop, hintsV_length]; omega)
            have HO1 := Lib.hid (fun u (hu : u ∈ (hintsV Gs).take (k * 2)) => hints_one Gs u (List.mem_of_mem_take hu))
            have HO2 := Lib.hid (fun u (hu : u ∈ (hintsV Gs).drop (k * 2)) => hints_one Gs u (List.mem_of_mem_drop hu))
            have HOL := Lib.hid (show ∀ u ∈ [Value.string ⟨s.toArray⟩, Value.string ⟨c.toArray⟩], u.oneCell' = true by simp [Value.oneCell'])
            clear hr1 hr2
            refine wp_region_tail (S := fun X => X.cell? ⟨r, 0, none⟩ = some (.slice av Gs.length cp) ∧ X.cell? ⟨w.heap.size, 0, none⟩ = some (.string ⟨s.toArray⟩) ∧ X.cell? ⟨w.heap.size, 1, none⟩ = some (.string ⟨c.toArray⟩)) 21 (by kernel_rfl) (HS.out _ ((Below.refl _ _).drew)) (fun hHeld => ?_)
            refine wpTail.take (i := 0) (v := ?_) rfl (by kernel_rfl) (by kernel_rfl) (by kernel_rfl) (by kernel_rfl) (by kernel_rfl) (fun _ _ _ h => h) (Or.inl ⟨rfl, ?_⟩) hHeld ?_
            rotate_left
            · intro w0 hS0
              try dsimp only at hS0
              go_simp
              try with_reducible rfl
            simp only [List.getElem_toArray, List.getElem_cons_zero, Act.put, List.setIfInBounds_toArray, List.set_cons_zero, List.set_cons_succ]
            refine wpTail.take (i := 2) (v := ?_) rfl (by kernel_rfl) (by kernel_rfl) (by kernel_rfl) (by kernel_rfl) (by kernel_rfl) (fun _ _ _ h => h) (Or.inl ⟨rfl, ?_⟩) hHeld ?_
            rotate_left
            · intro w0 hS0
              try dsimp only at hS0
              go_simp
              try with_reducible rfl
            simp only [List.getElem_toArray, List.getElem_cons_zero, List.getElem_cons_succ, Act.put, List.setIfInBounds_toArray, List.set_cons_zero, List.set_cons_succ]
            refine wpTail.take (i := 3) (v := ?_) rfl (by kernel_rfl) (by kernel_rfl) (by kernel_rfl) (by kernel_rfl) (by kernel_rfl) (fun _ _ _ h => h) (Or.inl ⟨rfl, ?_⟩) hHeld ?_
            rotate_left
            · intro w0 hS0
              try dsimp only at hS0
              go_simp
              try with_reducible rfl
            simp only [List.getElem_toArray, List.getElem_cons_zero, List.getElem_cons_succ, Act.put, List.setIfInBounds_toArray, List.set_cons_zero, List.set_cons_succ]
            refine wpTail.take (i := 4) (v := ?_) rfl (by kernel_rfl) (by kernel_rfl) (by kernel_rfl) (by kernel_rfl) (by kernel_rfl) (fun _ _ _ h => h) (Or.inl ⟨rfl, ?_⟩) hHeld ?_
            rotate_left
            · intro w0 hS0
              try dsimp only at hS0
              go_simp
              try with_reducible rfl
            simp only [List.getElem_toArray, List.getElem_cons_zero, List.getElem_cons_succ, Act.put, List.setIfInBounds_toArray, List.set_cons_zero, List.set_cons_succ]
            refine wpTail.take (i := 5) (v := ?_) rfl (by kernel_rfl) (by kernel_rfl) (by kernel_rfl) (by kernel_rfl) (by kernel_rfl) (fun _ _ _ h => h) (Or.inl ⟨rfl, ?_⟩) hHeld ?_
            rotate_left
            · intro w0 hS0
              try dsimp only at hS0
              go_simp
              try with_reducible rfl
            simp only [List.getElem_toArray, List.getElem_cons_zero, List.getElem_cons_succ, Act.put, List.setIfInBounds_toArray, List.set_cons_zero, List.set_cons_succ]
            refine wpTail.take (i := 6) (v := ?_) rfl (by kernel_rfl) (by kernel_rfl) (by kernel_rfl) (by kernel_rfl) (by kernel_rfl) (fun _ _ _ h => h) (Or.inl ⟨rfl, ?_⟩) hHeld ?_
            rotate_left
            · intro w0 hS0
              try dsimp only at hS0
              go_simp
              try with_reducible rfl
            simp only [List.getElem_toArray, List.getElem_cons_zero, List.getElem_cons_succ, Act.put, List.setIfInBounds_toArray, List.set_cons_zero, List.set_cons_succ]
            refine wpTail.take (i := 7) (v := ?_) rfl (by kernel_rfl) (by kernel_rfl) (by kernel_rfl) (by kernel_rfl) (by kernel_rfl) (fun _ _ _ h => h) (Or.inl ⟨rfl, ?_⟩) hHeld ?_
            rotate_left
            · intro w0 hS0
              try dsimp only at hS0
              go_simp
              try with_reducible rfl
            simp only [List.getElem_toArray, List.getElem_cons_zero, List.getElem_cons_succ, Act.put, List.setIfInBounds_toArray, List.set_cons_zero, List.set_cons_succ]
            refine wpTail.take (i := 9) (v := ?_) rfl (by kernel_rfl) (by kernel_rfl) (by kernel_rfl) (by kernel_rfl) (by kernel_rfl) (fun _ _ _ h => h) (Or.inl ⟨rfl, ?_⟩) hHeld ?_
            rotate_left
            · intro w0 hS0
              try dsimp only at hS0
              go_simp
              try with_reducible rfl
            simp only [List.getElem_toArray, List.getElem_cons_zero, List.getElem_cons_succ, Act.put, List.setIfInBounds_toArray, List.set_cons_zero, List.set_cons_succ]
            refine wpTail.take (i := 12) (v := ?_) rfl (by kernel_rfl) (by kernel_rfl) (by kernel_rfl) (by kernel_rfl) (by kernel_rfl) (fun _ _ _ h => h) (Or.inl ⟨rfl, ?_⟩) hHeld ?_
            rotate_left
            · intro w0 hS0
              try dsimp only at hS0
              go_simp
              try with_reducible rfl
            simp only [List.getElem_toArray, List.getElem_cons_zero, List.getElem_cons_succ, Act.put, List.setIfInBounds_toArray, List.set_cons_zero, List.set_cons_succ]
            refine wpTail.take (i := 13) (v := ?_) rfl (by kernel_rfl) (by kernel_rfl) (by kernel_rfl) (by kernel_rfl) (by kernel_rfl) (fun _ _ _ h => h) (Or.inl ⟨rfl, ?_⟩) hHeld ?_
            rotate_left
            · intro w0 hS0
              try dsimp only at hS0
              go_simp
              try with_reducible rfl
            simp only [List.getElem_toArray, List.getElem_cons_zero, List.getElem_cons_succ, Act.put, List.setIfInBounds_toArray, List.set_cons_zero, List.set_cons_succ]
            refine wpTail.take (i := 14) (v := ?_) rfl (by kernel_rfl) (by kernel_rfl) (by kernel_rfl) (by kernel_rfl) (by kernel_rfl) (fun _ _ _ h => h) (Or.inl ⟨rfl, ?_⟩) hHeld ?_
            rotate_left
            · intro w0 hS0
              try dsimp only at hS0
              go_simp
              try with_reducible rfl
            simp only [List.getElem_toArray, List.getElem_cons_zero, List.getElem_cons_succ, Act.put, List.setIfInBounds_toArray, List.set_cons_zero, List.set_cons_succ]
            refine wpTail.take (i := 15) (v := ?_) rfl (by kernel_rfl) (by kernel_rfl) (by kernel_rfl) (by kernel_rfl) (by kernel_rfl) (fun _ _ _ h => h) (Or.inl ⟨rfl, ?_⟩) hHeld ?_
            rotate_left
            · intro w0 hS0
              try dsimp only at hS0
              go_simp
              try with_reducible rfl
            simp only [List.getElem_toArray, List.getElem_cons_zero, List.getElem_cons_succ, Act.put, List.setIfInBounds_toArray, List.set_cons_zero, List.set_cons_succ]
            refine wpTail.take (i := 16) (v := ?_) rfl (by kernel_rfl) (by kernel_rfl) (by kernel_rfl) (by kernel_rfl) (by kernel_rfl) (fun _ _ _ h => h) (Or.inl ⟨rfl, ?_⟩) hHeld ?_
            rotate_left
            · intro w0 hS0
              try dsimp only at hS0
              go_simp
              try with_reducible rfl
            simp only [List.getElem_toArray, List.getElem_cons_zero, List.getElem_cons_succ, Act.put, List.setIfInBounds_toArray, List.set_cons_zero, List.set_cons_succ]
            refine wpTail.take (i := 17) (v := ?_) rfl (by kernel_rfl) (by kernel_rfl) (by kernel_rfl) (by kernel_rfl) (by kernel_rfl) (fun _ _ _ h => h) (Or.inl ⟨rfl, ?_⟩) hHeld ?_
            rotate_left
            · intro w0 hS0
              try dsimp only at hS0
              go_simp
              try with_reducible rfl
            simp only [List.getElem_toArray, List.getElem_cons_zero, List.getElem_cons_succ, Act.put, List.setIfInBounds_toArray, List.set_cons_zero, List.set_cons_succ]
            have hb0 : Below wb.heap.size wb wb.drew := (Below.refl _ _).drew
            refine wpTail.ready (rs := [1, 10]) (by kernel_rfl) (by simp) ?_
            refine AllTail.cons rfl (fun K hK => ?_) (AllTail.cons rfl (fun K hK => ?_) AllTail.nil)
            · rw [if_pos (by rfl)]
              go_simp
              have hb1 := hb0.alloc (hb0.size) (.cells #[] 47)
              have ho1 := own_empty wb.drew 47 wb.heap.size 2 (Nat.le_refl _)
              refine hK.out _ _ (fun _ => HS.out _ hb1) (fun hHeld => ?_)
              replace hHeld := hHeld (by decide)
              refine wpTail.ready (rs := [8, 10]) (by kernel_rfl) (by simp) ?_
              refine AllTail.cons rfl (fun K hK => ?_) (AllTail.cons rfl (fun K hK => ?_) AllTail.nil)
              · refine step_spread' (m := k) T_hint ho1 hb1 (Nat.le_refl _) (HR1.out.below hb1 (Nat.le_refl _)) rfl rfl rfl rfl HL1.out HO1.out ?_ ?_ ?_
                · omega
                · omega
                intro v2 w2 hown2 hb2 hg2
                try simp only [Nat.zero_add, List.nil_append] at hown2
                obtain ⟨av2, cv2, rfl, -, hln2, hcn2⟩ := ownsRow_row hown2
                refine hK.out _ _ (fun _ => HS.out _ hb2) (fun hHeld => ?_)
                replace hHeld := hHeld (by decide)
                refine wpTail.ready (rs := [10]) (by kernel_rfl) (by simp) ?_
                refine AllTail.cons rfl (fun K hK => ?_) AllTail.nil
                rw [if_pos (by rfl)]
                go_simp
                have hbl := hb2.alloc (hb2.size) (.cells #[.string ⟨s.toArray⟩, .string ⟨c.toArray⟩] 47)
                have hlit := row_new w2 [.string ⟨s.toArray⟩, .string ⟨c.toArray⟩] 47
                refine hK.out _ _ (fun _ => HS.out _ hbl) (fun hHeld => ?_)
                replace hHeld := hHeld (by decide)
                refine wpTail.ready (rs := [11]) (by kernel_rfl) (by simp) ?_
                refine AllTail.cons rfl (fun K hK => ?_) AllTail.nil
                refine step_spread' (m := 1) T_hint (ownsRow_low hown2 (low_alloc _ _)) hbl (Nat.le_refl _) hlit rfl rfl rfl rfl rfl HOL.out ?_ ?_ ?_
                · omega
                · omega
                intro v3 w3 hown3 hb3 hg3
                try simp only [Nat.zero_add, List.nil_append] at hown3
                obtain ⟨av3, cv3, rfl, -, hln3, hcn3⟩ := ownsRow_row hown3
                refine hK.out _ _ (fun _ => HS.out _ hb3) (fun hHeld => ?_)
                replace hHeld := hHeld (by decide)
                refine wpTail.ready (rs := [18]) (by kernel_rfl) (by simp) ?_
                refine AllTail.cons rfl (fun K hK => ?_) AllTail.nil
                refine step_spread' (m := (Gs.length - k)) T_hint hown3 hb3 (Nat.le_refl _) (HR2.out.below hb3 (Nat.le_refl _)) rfl rfl rfl rfl HL2.out HO2.out ?_ ?_ ?_
                · omega
                · omega
                intro v4 w4 hown4 hb4 hg4
                try simp only [Nat.zero_add, List.nil_append] at hown4
                obtain ⟨av4, cv4, rfl, -, hln4, hcn4⟩ := ownsRow_row hown4
                refine hK.out _ _ (fun _ => HS.out _ hb4) (fun hHeld => ?_)
                replace hHeld := hHeld (by decide)
                refine wpTail.take (i := 19) (v := ?_) rfl (by kernel_rfl) (by kernel_rfl) (by kernel_rfl) (by kernel_rfl) (by kernel_rfl) (fun _ _ _ h => h) (Or.inl ⟨rfl, ?_⟩) hHeld ?_
                rotate_left
                · intro w0 hS0
                  try dsimp only at hS0
                  go_simp
                  try with_reducible rfl
                simp only [List.getElem_toArray, List.getElem_cons_zero, List.getElem_cons_succ, Act.put, List.setIfInBounds_toArray, List.set_cons_zero, List.set_cons_succ]
                refine wpTail.take (i := 20) (v := ?_) rfl (by kernel_rfl) (by kernel_rfl) (by kernel_rfl) (by kernel_rfl) (by kernel_rfl) (fun _ _ _ h => h) (Or.inl ⟨rfl, ?_⟩) hHeld ?_
                rotate_left
                · intro w0 hS0
                  try dsimp only at hS0
                  go_simp
                  try with_reducible rfl
                simp only [List.getElem_toArray, List.getElem_cons_zero, List.getElem_cons_succ, Act.put, List.setIfInBounds_toArray, List.set_cons_zero, List.set_cons_succ]
                obtain ⟨x0, x1⟩ := HST.out _ hb4
                refine wpTail.ready (rs := [21]) (by kernel_rfl) (by simp) ?_
                refine AllTail.cons rfl (fun K hK => ?_) AllTail.nil
                rw [if_pos (by rfl)]
                go_simp
                refine hK.out _ _ (fun h => absurd rfl h) (fun _ => ?_)
                refine wpTail.done (by kernel_rfl) ?_ _
                go_wp2_with fail
                have hfin := HFIN.out _ _ _ hb4 hown4
                go_ret
                exact ⟨ret_bool HAB1.out, hfin⟩
              · rw [if_pos (by rfl)]
                go_simp
                have hbl := hb1.alloc (hb1.size) (.cells #[.string ⟨s.toArray⟩, .string ⟨c.toArray⟩] 47)
                have hlit := row_new (wb.drew.alloc (.cells #[] 47)) [.string ⟨s.toArray⟩, .string ⟨c.toArray⟩] 47
                rw [show (wb.drew.alloc (.cells #[] 47)).heap.size = wb.heap.size + 1 by simp] at hlit
                refine hK.out _ _ (fun _ => HS.out _ hbl) (fun hHeld => ?_)
                replace hHeld := hHeld (by decide)
                refine wpTail.ready (rs := [8]) (by kernel_rfl) (by simp) ?_
                refine AllTail.cons rfl (fun K hK => ?_) AllTail.nil
                refine step_spread' (m := k) T_hint (ownsRow_low ho1 (low_alloc _ _)) hbl (Nat.le_refl _) (HR1.out.below hbl (Nat.le_refl _)) rfl rfl rfl rfl HL1.out HO1.out ?_ ?_ ?_
                · omega
                · omega
                intro v2 w2 hown2 hb2 hg2
                try simp only [Nat.zero_add, List.nil_append] at hown2
                obtain ⟨av2, cv2, rfl, -, hln2, hcn2⟩ := ownsRow_row hown2
                have hlit2 := row_grown hlit hg2 (fun b o e h => by cases e; simp [Value.ownBlock] at h)
                refine hK.out _ _ (fun _ => HS.out _ hb2) (fun hHeld => ?_)
                replace hHeld := hHeld (by decide)
                refine wpTail.ready (rs := [11]) (by kernel_rfl) (by simp) ?_
                refine AllTail.cons rfl (fun K hK => ?_) AllTail.nil
                refine step_spread' (m := 1) T_hint hown2 hb2 (Nat.le_refl _) hlit2 rfl rfl rfl rfl rfl HOL.out ?_ ?_ ?_
                · omega
                · omega
                intro v3 w3 hown3 hb3 hg3
                try simp only [Nat.zero_add, List.nil_append] at hown3
                obtain ⟨av3, cv3, rfl, -, hln3, hcn3⟩ := ownsRow_row hown3
                refine hK.out _ _ (fun _ => HS.out _ hb3) (fun hHeld => ?_)
                replace hHeld := hHeld (by decide)
                refine wpTail.ready (rs := [18]) (by kernel_rfl) (by simp) ?_
                refine AllTail.cons rfl (fun K hK => ?_) AllTail.nil
                refine step_spread' (m := (Gs.length - k)) T_hint hown3 hb3 (Nat.le_refl _) (HR2.out.below hb3 (Nat.le_refl _)) rfl rfl rfl rfl HL2.out HO2.out ?_ ?_ ?_
                · omega
                · omega
                intro v4 w4 hown4 hb4 hg4
                try simp only [Nat.zero_add, List.nil_append] at hown4
                obtain ⟨av4, cv4, rfl, -, hln4, hcn4⟩ := ownsRow_row hown4
                refine hK.out _ _ (fun _ => HS.out _ hb4) (fun hHeld => ?_)
                replace hHeld := hHeld (by decide)
                refine wpTail.take (i := 19) (v := ?_) rfl (by kernel_rfl) (by kernel_rfl) (by kernel_rfl) (by kernel_rfl) (by kernel_rfl) (fun _ _ _ h => h) (Or.inl ⟨rfl, ?_⟩) hHeld ?_
                rotate_left
                · intro w0 hS0
                  try dsimp only at hS0
                  go_simp
                  try with_reducible rfl
                simp only [List.getElem_toArray, List.getElem_cons_zero, List.getElem_cons_succ, Act.put, List.setIfInBounds_toArray, List.set_cons_zero, List.set_cons_succ]
                refine wpTail.take (i := 20) (v := ?_) rfl (by kernel_rfl) (by kernel_rfl) (by kernel_rfl) (by kernel_rfl) (by kernel_rfl) (fun _ _ _ h => h) (Or.inl ⟨rfl, ?_⟩) hHeld ?_
                rotate_left
                · intro w0 hS0
                  try dsimp only at hS0
                  go_simp
                  try with_reducible rfl
                simp only [List.getElem_toArray, List.getElem_cons_zero, List.getElem_cons_succ, Act.put, List.setIfInBounds_toArray, List.set_cons_zero, List.set_cons_succ]
                obtain ⟨x0, x1⟩ := HST.out _ hb4
                refine wpTail.ready (rs := [21]) (by kernel_rfl) (by simp) ?_
                refine AllTail.cons rfl (fun K hK => ?_) AllTail.nil
                rw [if_pos (by rfl)]
                go_simp
                refine hK.out _ _ (fun h => absurd rfl h) (fun _ => ?_)
                refine wpTail.done (by kernel_rfl) ?_ _
                go_wp2_with fail
                have hfin := HFIN.out _ _ _ hb4 hown4
                go_ret
                exact ⟨ret_bool HAB1.out, hfin⟩
            · rw [if_pos (by rfl)]
              go_simp
              have hb1 := hb0.alloc (hb0.size) (.cells #[.string ⟨s.toArray⟩, .string ⟨c.toArray⟩] 47)
              have hlit := row_new wb.drew [.string ⟨s.toArray⟩, .string ⟨c.toArray⟩] 47
              refine hK.out _ _ (fun _ => HS.out _ hb1) (fun hHeld => ?_)
              replace hHeld := hHeld (by decide)
              refine wpTail.ready (rs := [1]) (by kernel_rfl) (by simp) ?_
              refine AllTail.cons rfl (fun K hK => ?_) AllTail.nil
              rw [if_pos (by rfl)]
              go_simp
              have hbl := hb1.alloc (hb1.size) (.cells #[] 47)
              have ho1 := own_empty (wb.drew.alloc (.cells #[.string ⟨s.toArray⟩, .string ⟨c.toArray⟩] 47)) 47 wb.heap.size 2 hb1.size
              rw [show (wb.drew.alloc (.cells #[.string ⟨s.toArray⟩, .string ⟨c.toArray⟩] 47)).heap.size = wb.heap.size + 1 by simp] at ho1
              refine hK.out _ _ (fun _ => HS.out _ hbl) (fun hHeld => ?_)
              replace hHeld := hHeld (by decide)
              refine wpTail.ready (rs := [8]) (by kernel_rfl) (by simp) ?_
              refine AllTail.cons rfl (fun K hK => ?_) AllTail.nil
              refine step_spread' (m := k) T_hint ho1 hbl (Nat.le_refl _) (HR1.out.below hbl (Nat.le_refl _)) rfl rfl rfl rfl HL1.out HO1.out ?_ ?_ ?_
              · omega
              · omega
              intro v2 w2 hown2 hb2 hg2
              try simp only [Nat.zero_add, List.nil_append] at hown2
              obtain ⟨av2, cv2, rfl, -, hln2, hcn2⟩ := ownsRow_row hown2
              have hlit2 := row_grown (hlit.below (low_alloc _ _) (Nat.le_refl _)) hg2 (fun b o e h => by cases e; simp [Value.ownBlock] at h)
              refine hK.out _ _ (fun _ => HS.out _ hb2) (fun hHeld => ?_)
              replace hHeld := hHeld (by decide)
              refine wpTail.ready (rs := [11]) (by kernel_rfl) (by simp) ?_
              refine AllTail.cons rfl (fun K hK => ?_) AllTail.nil
              refine step_spread' (m := 1) T_hint hown2 hb2 (Nat.le_refl _) hlit2 rfl rfl rfl rfl rfl HOL.out ?_ ?_ ?_
              · omega
              · omega
              intro v3 w3 hown3 hb3 hg3
              try simp only [Nat.zero_add, List.nil_append] at hown3
              obtain ⟨av3, cv3, rfl, -, hln3, hcn3⟩ := ownsRow_row hown3
              refine hK.out _ _ (fun _ => HS.out _ hb3) (fun hHeld => ?_)
              replace hHeld := hHeld (by decide)
              refine wpTail.ready (rs := [18]) (by kernel_rfl) (by simp) ?_
              refine AllTail.cons rfl (fun K hK => ?_) AllTail.nil
              refine step_spread' (m := (Gs.length - k)) T_hint hown3 hb3 (Nat.le_refl _) (HR2.out.below hb3 (Nat.le_refl _)) rfl rfl rfl rfl HL2.out HO2.out ?_ ?_ ?_
              · omega
              · omega
              intro v4 w4 hown4 hb4 hg4
              try simp only [Nat.zero_add, List.nil_append] at hown4
              obtain ⟨av4, cv4, rfl, -, hln4, hcn4⟩ := ownsRow_row hown4
              refine hK.out _ _ (fun _ => HS.out _ hb4) (fun hHeld => ?_)
              replace hHeld := hHeld (by decide)
              refine wpTail.take (i := 19) (v := ?_) rfl (by kernel_rfl) (by kernel_rfl) (by kernel_rfl) (by kernel_rfl) (by kernel_rfl) (fun _ _ _ h => h) (Or.inl ⟨rfl, ?_⟩) hHeld ?_
              rotate_left
              · intro w0 hS0
                try dsimp only at hS0
                go_simp
                try with_reducible rfl
              simp only [List.getElem_toArray, List.getElem_cons_zero, List.getElem_cons_succ, Act.put, List.setIfInBounds_toArray, List.set_cons_zero, List.set_cons_succ]
              refine wpTail.take (i := 20) (v := ?_) rfl (by kernel_rfl) (by kernel_rfl) (by kernel_rfl) (by kernel_rfl) (by kernel_rfl) (fun _ _ _ h => h) (Or.inl ⟨rfl, ?_⟩) hHeld ?_
              rotate_left
              · intro w0 hS0
                try dsimp only at hS0
                go_simp
                try with_reducible rfl
              simp only [List.getElem_toArray, List.getElem_cons_zero, List.getElem_cons_succ, Act.put, List.setIfInBounds_toArray, List.set_cons_zero, List.set_cons_succ]
              obtain ⟨x0, x1⟩ := HST.out _ hb4
              refine wpTail.ready (rs := [21]) (by kernel_rfl) (by simp) ?_
              refine AllTail.cons rfl (fun K hK => ?_) AllTail.nil
              rw [if_pos (by rfl)]
              go_simp
              refine hK.out _ _ (fun h => absurd rfl h) (fun _ => ?_)
              refine wpTail.done (by kernel_rfl) ?_ _
              go_wp2_with fail
              have hfin := HFIN.out _ _ _ hb4 hown4
              go_ret
              exact ⟨ret_bool HAB1.out, hfin⟩
        · have hkl : ¬ (k : Int) < Gs.length := by omega
          have HAG : Hid (addG Gs s c = Gs.take k ++ ([(s, c)] ++ Gs.drop k)) := Lib.hid (by rw [HAI.out]; exact insH_mid hk HTK.out (fun h => absurd h hlt))
          go_wp2_with fail
          go_quiet (fail)
          go_wp2_with fail
          have hbb := Go.below_drewN hbr nq
          generalize wr.drewN nq = wb at *
          clear hbr c0 c2 c3
          obtain ⟨⟨a1, hs1, hr1⟩, a2, hs2, hr2⟩ := slice_run Tryz.underlying40 (sz := 2) (by kernel_rfl) av Gs.length cp k hk hcp
          have HR1 := Lib.hid (hr1 wb _ (HF.out wb hbb).2.1)
          have HR2 := Lib.hid (hr2 wb _ (HF.out wb hbb).2.1 (hintsV_length Gs))
          have HS : Hid (∀ X : World, Below wb.heap.size wb X → X.cell? ⟨r, 0, none⟩ = some (.slice av Gs.length cp) ∧ X.cell? ⟨w.heap.size, 0, none⟩ = some (.string ⟨s.toArray⟩) ∧ X.cell? ⟨w.heap.size, 1, none⟩ = some (.string ⟨c.toArray⟩)) := Lib.hid (fun X hX => by
            have h := HF.out X (bnext hbb (Nat.le_refl _) hX)
            exact ⟨h.1, h.2.2.1, h.2.2.2⟩)
          have HST : Hid (∀ X : World, Below wb.heap.size wb X → X.cell? ⟨r, 0, none⟩ = some (.slice av Gs.length cp) ∧ X.frozen? ⟨r, 0, none⟩ = false) := Lib.hid (fun X hX => HFR.out X (bnext hbb (Nat.le_refl _) hX))
          have HFIN : Hid (∀ (X : World) (v : Value) (n : Nat), Below wb.heap.size wb X → X.ownsRow wb.heap.size 47 2 v n ((hintsV Gs).take (k * 2) ++ [.string ⟨s.toArray⟩, .string ⟨c.toArray⟩] ++ (hintsV Gs).drop (k * 2)) → ∃ G', TRep (X.setCell ⟨r, 0, none⟩ v) r (addG Gs s c) G' ∧ Upd G G' w (X.setCell ⟨r, 0, none⟩ v)) := Lib.hid (fun X v n hX ho => by
            have e : (hintsV Gs).take (k * 2) ++ [.string ⟨s.toArray⟩, .string ⟨c.toArray⟩] ++ (hintsV Gs).drop (k * 2) = hintsV (addG Gs s c) := by
              rw [HAG.out, hintsV_append, hintsV_append, hintsV_take, hintsV_drop, List.append_assoc]; rfl
            rw [e] at ho
            have hn := ho.1
            rw [hintsV_length] at hn
            obtain ⟨G', h1, h2⟩ := tset_fin (HRB.out.below hbb) hX ho (by omega)
            exact ⟨G', h1, upd_pre (HBW.out.trans (hbb.mono HBW.out.size)) h2⟩)
          have HL1 := Lib.hid (show ((hintsV Gs).take (k * 2)).length = k * 2 by rw [List.length_take, hintsV_length]; omega)
          have HL2 := Lib.hid (show ((hintsV Gs).drop (k * 2)).length = (Gs.length - k) * 2 by rw [List.length_drop, hintsV_length]; omega)
          have HO1 := Lib.hid (fun u (hu : u ∈ (hintsV Gs).take (k * 2)) => hints_one Gs u (List.mem_of_mem_take hu))
          have HO2 := Lib.hid (fun u (hu : u ∈ (hintsV Gs).drop (k * 2)) => hints_one Gs u (List.mem_of_mem_drop hu))
          have HOL := Lib.hid (show ∀ u ∈ [Value.string ⟨s.toArray⟩, Value.string ⟨c.toArray⟩], u.oneCell' = true by simp [Value.oneCell'])
          clear hr1 hr2
          refine wp_region_tail (S := fun X => X.cell? ⟨r, 0, none⟩ = some (.slice av Gs.length cp) ∧ X.cell? ⟨w.heap.size, 0, none⟩ = some (.string ⟨s.toArray⟩) ∧ X.cell? ⟨w.heap.size, 1, none⟩ = some (.string ⟨c.toArray⟩)) 21 (by kernel_rfl) (HS.out _ ((Below.refl _ _).drew)) (fun hHeld => ?_)
          refine wpTail.take (i := 0) (v := ?_) rfl (by kernel_rfl) (by kernel_rfl) (by kernel_rfl) (by kernel_rfl) (by kernel_rfl) (fun _ _ _ h => h) (Or.inl ⟨rfl, ?_⟩) hHeld ?_
          rotate_left
          · intro w0 hS0
            try dsimp only at hS0
            go_simp
            try with_reducible rfl
          simp only [List.getElem_toArray, List.getElem_cons_zero, Act.put, List.setIfInBounds_toArray, List.set_cons_zero, List.set_cons_succ]
          refine wpTail.take (i := 2) (v := ?_) rfl (by kernel_rfl) (by kernel_rfl) (by kernel_rfl) (by kernel_rfl) (by kernel_rfl) (fun _ _ _ h => h) (Or.inl ⟨rfl, ?_⟩) hHeld ?_
          rotate_left
          · intro w0 hS0
            try dsimp only at hS0
            go_simp
            try with_reducible rfl
          simp only [List.getElem_toArray, List.getElem_cons_zero, List.getElem_cons_succ, Act.put, List.setIfInBounds_toArray, List.set_cons_zero, List.set_cons_succ]
          refine wpTail.take (i := 3) (v := ?_) rfl (by kernel_rfl) (by kernel_rfl) (by kernel_rfl) (by kernel_rfl) (by kernel_rfl) (fun _ _ _ h => h) (Or.inl ⟨rfl, ?_⟩) hHeld ?_
          rotate_left
          · intro w0 hS0
            try dsimp only at hS0
            go_simp
            try with_reducible rfl
          simp only [List.getElem_toArray, List.getElem_cons_zero, List.getElem_cons_succ, Act.put, List.setIfInBounds_toArray, List.set_cons_zero, List.set_cons_succ]
          refine wpTail.take (i := 4) (v := ?_) rfl (by kernel_rfl) (by kernel_rfl) (by kernel_rfl) (by kernel_rfl) (by kernel_rfl) (fun _ _ _ h => h) (Or.inl ⟨rfl, ?_⟩) hHeld ?_
          rotate_left
          · intro w0 hS0
            try dsimp only at hS0
            go_simp
            try with_reducible rfl
          simp only [List.getElem_toArray, List.getElem_cons_zero, List.getElem_cons_succ, Act.put, List.setIfInBounds_toArray, List.set_cons_zero, List.set_cons_succ]
          refine wpTail.take (i := 5) (v := ?_) rfl (by kernel_rfl) (by kernel_rfl) (by kernel_rfl) (by kernel_rfl) (by kernel_rfl) (fun _ _ _ h => h) (Or.inl ⟨rfl, ?_⟩) hHeld ?_
          rotate_left
          · intro w0 hS0
            try dsimp only at hS0
            go_simp
            try with_reducible rfl
          simp only [List.getElem_toArray, List.getElem_cons_zero, List.getElem_cons_succ, Act.put, List.setIfInBounds_toArray, List.set_cons_zero, List.set_cons_succ]
          refine wpTail.take (i := 6) (v := ?_) rfl (by kernel_rfl) (by kernel_rfl) (by kernel_rfl) (by kernel_rfl) (by kernel_rfl) (fun _ _ _ h => h) (Or.inl ⟨rfl, ?_⟩) hHeld ?_
          rotate_left
          · intro w0 hS0
            try dsimp only at hS0
            go_simp
            try with_reducible rfl
          simp only [List.getElem_toArray, List.getElem_cons_zero, List.getElem_cons_succ, Act.put, List.setIfInBounds_toArray, List.set_cons_zero, List.set_cons_succ]
          refine wpTail.take (i := 7) (v := ?_) rfl (by kernel_rfl) (by kernel_rfl) (by kernel_rfl) (by kernel_rfl) (by kernel_rfl) (fun _ _ _ h => h) (Or.inl ⟨rfl, ?_⟩) hHeld ?_
          rotate_left
          · intro w0 hS0
            try dsimp only at hS0
            go_simp
            try with_reducible rfl
          simp only [List.getElem_toArray, List.getElem_cons_zero, List.getElem_cons_succ, Act.put, List.setIfInBounds_toArray, List.set_cons_zero, List.set_cons_succ]
          refine wpTail.take (i := 9) (v := ?_) rfl (by kernel_rfl) (by kernel_rfl) (by kernel_rfl) (by kernel_rfl) (by kernel_rfl) (fun _ _ _ h => h) (Or.inl ⟨rfl, ?_⟩) hHeld ?_
          rotate_left
          · intro w0 hS0
            try dsimp only at hS0
            go_simp
            try with_reducible rfl
          simp only [List.getElem_toArray, List.getElem_cons_zero, List.getElem_cons_succ, Act.put, List.setIfInBounds_toArray, List.set_cons_zero, List.set_cons_succ]
          refine wpTail.take (i := 12) (v := ?_) rfl (by kernel_rfl) (by kernel_rfl) (by kernel_rfl) (by kernel_rfl) (by kernel_rfl) (fun _ _ _ h => h) (Or.inl ⟨rfl, ?_⟩) hHeld ?_
          rotate_left
          · intro w0 hS0
            try dsimp only at hS0
            go_simp
            try with_reducible rfl
          simp only [List.getElem_toArray, List.getElem_cons_zero, List.getElem_cons_succ, Act.put, List.setIfInBounds_toArray, List.set_cons_zero, List.set_cons_succ]
          refine wpTail.take (i := 13) (v := ?_) rfl (by kernel_rfl) (by kernel_rfl) (by kernel_rfl) (by kernel_rfl) (by kernel_rfl) (fun _ _ _ h => h) (Or.inl ⟨rfl, ?_⟩) hHeld ?_
          rotate_left
          · intro w0 hS0
            try dsimp only at hS0
            go_simp
            try with_reducible rfl
          simp only [List.getElem_toArray, List.getElem_cons_zero, List.getElem_cons_succ, Act.put, List.setIfInBounds_toArray, List.set_cons_zero, List.set_cons_succ]
          refine wpTail.take (i := 14) (v := ?_) rfl (by kernel_rfl) (by kernel_rfl) (by kernel_rfl) (by kernel_rfl) (by kernel_rfl) (fun _ _ _ h => h) (Or.inl ⟨rfl, ?_⟩) hHeld ?_
          rotate_left
          · intro w0 hS0
            try dsimp only at hS0
            go_simp
            try with_reducible rfl
          simp only [List.getElem_toArray, List.getElem_cons_zero, List.getElem_cons_succ, Act.put, List.setIfInBounds_toArray, List.set_cons_zero, List.set_cons_succ]
          refine wpTail.take (i := 15) (v := ?_) rfl (by kernel_rfl) (by kernel_rfl) (by kernel_rfl) (by kernel_rfl) (by kernel_rfl) (fun _ _ _ h => h) (Or.inl ⟨rfl, ?_⟩) hHeld ?_
          rotate_left
          · intro w0 hS0
            try dsimp only at hS0
            go_simp
            try with_reducible rfl
          simp only [List.getElem_toArray, List.getElem_cons_zero, List.getElem_cons_succ, Act.put, List.setIfInBounds_toArray, List.set_cons_zero, List.set_cons_succ]
          refine wpTail.take (i := 16) (v := ?_) rfl (by kernel_rfl) (by kernel_rfl) (by kernel_rfl) (by kernel_rfl) (by kernel_rfl) (fun _ _ _ h => h) (Or.inl ⟨rfl, ?_⟩) hHeld ?_
          rotate_left
          · intro w0 hS0
            try dsimp only at hS0
            go_simp
            try with_reducible rfl
          simp only [List.getElem_toArray, List.getElem_cons_zero, List.getElem_cons_succ, Act.put, List.setIfInBounds_toArray, List.set_cons_zero, List.set_cons_succ]
          refine wpTail.take (i := 17) (v := ?_) rfl (by kernel_rfl) (by kernel_rfl) (by kernel_rfl) (by kernel_rfl) (by kernel_rfl) (fun _ _ _ h => h) (Or.inl ⟨rfl, ?_⟩) hHeld ?_
          rotate_left
          · intro w0 hS0
            try dsimp only at hS0
            go_simp
            try with_reducible rfl
          simp only [List.getElem_toArray, List.getElem_cons_zero, List.getElem_cons_succ, Act.put, List.setIfInBounds_toArray, List.set_cons_zero, List.set_cons_succ]
          have hb0 : Below wb.heap.size wb wb.drew := (Below.refl _ _).drew
          refine wpTail.ready (rs := [1, 10]) (by kernel_rfl) (by simp) ?_
          refine AllTail.cons rfl (fun K hK => ?_) (AllTail.cons rfl (fun K hK => ?_) AllTail.nil)
          · rw [if_pos (by rfl)]
            go_simp
            have hb1 := hb0.alloc (hb0.size) (.cells #[] 47)
            have ho1 := own_empty wb.drew 47 wb.heap.size 2 (Nat.le_refl _)
            refine hK.out _ _ (fun _ => HS.out _ hb1) (fun hHeld => ?_)
            replace hHeld := hHeld (by decide)
            refine wpTail.ready (rs := [8, 10]) (by kernel_rfl) (by simp) ?_
            refine AllTail.cons rfl (fun K hK => ?_) (AllTail.cons rfl (fun K hK => ?_) AllTail.nil)
            · refine step_spread' (m := k) T_hint ho1 hb1 (Nat.le_refl _) (HR1.out.below hb1 (Nat.le_refl _)) rfl rfl rfl rfl HL1.out HO1.out ?_ ?_ ?_
              · omega
              · omega
              intro v2 w2 hown2 hb2 hg2
              try simp only [Nat.zero_add, List.nil_append] at hown2
              obtain ⟨av2, cv2, rfl, -, hln2, hcn2⟩ := ownsRow_row hown2
              refine hK.out _ _ (fun _ => HS.out _ hb2) (fun hHeld => ?_)
              replace hHeld := hHeld (by decide)
              refine wpTail.ready (rs := [10]) (by kernel_rfl) (by simp) ?_
              refine AllTail.cons rfl (fun K hK => ?_) AllTail.nil
              rw [if_pos (by rfl)]
              go_simp
              have hbl := hb2.alloc (hb2.size) (.cells #[.string ⟨s.toArray⟩, .string ⟨c.toArray⟩] 47)
              have hlit := row_new w2 [.string ⟨s.toArray⟩, .string ⟨c.toArray⟩] 47
              refine hK.out _ _ (fun _ => HS.out _ hbl) (fun hHeld => ?_)
              replace hHeld := hHeld (by decide)
              refine wpTail.ready (rs := [11]) (by kernel_rfl) (by simp) ?_
              refine AllTail.cons rfl (fun K hK => ?_) AllTail.nil
              refine step_spread' (m := 1) T_hint (ownsRow_low hown2 (low_alloc _ _)) hbl (Nat.le_refl _) hlit rfl rfl rfl rfl rfl HOL.out ?_ ?_ ?_
              · omega
              · omega
              intro v3 w3 hown3 hb3 hg3
              try simp only [Nat.zero_add, List.nil_append] at hown3
              obtain ⟨av3, cv3, rfl, -, hln3, hcn3⟩ := ownsRow_row hown3
              refine hK.out _ _ (fun _ => HS.out _ hb3) (fun hHeld => ?_)
              replace hHeld := hHeld (by decide)
              refine wpTail.ready (rs := [18]) (by kernel_rfl) (by simp) ?_
              refine AllTail.cons rfl (fun K hK => ?_) AllTail.nil
              refine step_spread' (m := (Gs.length - k)) T_hint hown3 hb3 (Nat.le_refl _) (HR2.out.below hb3 (Nat.le_refl _)) rfl rfl rfl rfl HL2.out HO2.out ?_ ?_ ?_
              · omega
              · omega
              intro v4 w4 hown4 hb4 hg4
              try simp only [Nat.zero_add, List.nil_append] at hown4
              obtain ⟨av4, cv4, rfl, -, hln4, hcn4⟩ := ownsRow_row hown4
              refine hK.out _ _ (fun _ => HS.out _ hb4) (fun hHeld => ?_)
              replace hHeld := hHeld (by decide)
              refine wpTail.take (i := 19) (v := ?_) rfl (by kernel_rfl) (by kernel_rfl) (by kernel_rfl) (by kernel_rfl) (by kernel_rfl) (fun _ _ _ h => h) (Or.inl ⟨rfl, ?_⟩) hHeld ?_
              rotate_left
              · intro w0 hS0
                try dsimp only at hS0
                go_simp
                try with_reducible rfl
              simp only [List.getElem_toArray, List.getElem_cons_zero, List.getElem_cons_succ, Act.put, List.setIfInBounds_toArray, List.set_cons_zero, List.set_cons_succ]
              refine wpTail.take (i := 20) (v := ?_) rfl (by kernel_rfl) (by kernel_rfl) (by kernel_rfl) (by kernel_rfl) (by kernel_rfl) (fun _ _ _ h => h) (Or.inl ⟨rfl, ?_⟩) hHeld ?_
              rotate_left
              · intro w0 hS0
                try dsimp only at hS0
                go_simp
                try with_reducible rfl
              simp only [List.getElem_toArray, List.getElem_cons_zero, List.getElem_cons_succ, Act.put, List.setIfInBounds_toArray, List.set_cons_zero, List.set_cons_succ]
              obtain ⟨x0, x1⟩ := HST.out _ hb4
              refine wpTail.ready (rs := [21]) (by kernel_rfl) (by simp) ?_
              refine AllTail.cons rfl (fun K hK => ?_) AllTail.nil
              rw [if_pos (by rfl)]
              go_simp
              refine hK.out _ _ (fun h => absurd rfl h) (fun _ => ?_)
              refine wpTail.done (by kernel_rfl) ?_ _
              go_wp2_with fail
              have hfin := HFIN.out _ _ _ hb4 hown4
              go_ret
              exact ⟨ret_bool HAB1.out, hfin⟩
            · rw [if_pos (by rfl)]
              go_simp
              have hbl := hb1.alloc (hb1.size) (.cells #[.string ⟨s.toArray⟩, .string ⟨c.toArray⟩] 47)
              have hlit := row_new (wb.drew.alloc (.cells #[] 47)) [.string ⟨s.toArray⟩, .string ⟨c.toArray⟩] 47
              rw [show (wb.drew.alloc (.cells #[] 47)).heap.size = wb.heap.size + 1 by simp] at hlit
              refine hK.out _ _ (fun _ => HS.out _ hbl) (fun hHeld => ?_)
              replace hHeld := hHeld (by decide)
              refine wpTail.ready (rs := [8]) (by kernel_rfl) (by simp) ?_
              refine AllTail.cons rfl (fun K hK => ?_) AllTail.nil
              refine step_spread' (m := k) T_hint (ownsRow_low ho1 (low_alloc _ _)) hbl (Nat.le_refl _) (HR1.out.below hbl (Nat.le_refl _)) rfl rfl rfl rfl HL1.out HO1.out ?_ ?_ ?_
              · omega
              · omega
              intro v2 w2 hown2 hb2 hg2
              try simp only [Nat.zero_add, List.nil_append] at hown2
              obtain ⟨av2, cv2, rfl, -, hln2, hcn2⟩ := ownsRow_row hown2
              have hlit2 := row_grown hlit hg2 (fun b o e h => by cases e; simp [Value.ownBlock] at h)
              refine hK.out _ _ (fun _ => HS.out _ hb2) (fun hHeld => ?_)
              replace hHeld := hHeld (by decide)
              refine wpTail.ready (rs := [11]) (by kernel_rfl) (by simp) ?_
              refine AllTail.cons rfl (fun K hK => ?_) AllTail.nil
              refine step_spread' (m := 1) T_hint hown2 hb2 (Nat.le_refl _) hlit2 rfl rfl rfl rfl rfl HOL.out ?_ ?_ ?_
              · omega
              · omega
              intro v3 w3 hown3 hb3 hg3
              try simp only [Nat.zero_add, List.nil_append] at hown3
              obtain ⟨av3, cv3, rfl, -, hln3, hcn3⟩ := ownsRow_row hown3
              refine hK.out _ _ (fun _ => HS.out _ hb3) (fun hHeld => ?_)
              replace hHeld := hHeld (by decide)
              refine wpTail.ready (rs := [18]) (by kernel_rfl) (by simp) ?_
              refine AllTail.cons rfl (fun K hK => ?_) AllTail.nil
              refine step_spread' (m := (Gs.length - k)) T_hint hown3 hb3 (Nat.le_refl _) (HR2.out.below hb3 (Nat.le_refl _)) rfl rfl rfl rfl HL2.out HO2.out ?_ ?_ ?_
              · omega
              · omega
              intro v4 w4 hown4 hb4 hg4
              try simp only [Nat.zero_add, List.nil_append] at hown4
              obtain ⟨av4, cv4, rfl, -, hln4, hcn4⟩ := ownsRow_row hown4
              refine hK.out _ _ (fun _ => HS.out _ hb4) (fun hHeld => ?_)
              replace hHeld := hHeld (by decide)
              refine wpTail.take (i := 19) (v := ?_) rfl (by kernel_rfl) (by kernel_rfl) (by kernel_rfl) (by kernel_rfl) (by kernel_rfl) (fun _ _ _ h => h) (Or.inl ⟨rfl, ?_⟩) hHeld ?_
              rotate_left
              · intro w0 hS0
                try dsimp only at hS0
                go_simp
                try with_reducible rfl
              simp only [List.getElem_toArray, List.getElem_cons_zero, List.getElem_cons_succ, Act.put, List.setIfInBounds_toArray, List.set_cons_zero, List.set_cons_succ]
              refine wpTail.take (i := 20) (v := ?_) rfl (by kernel_rfl) (by kernel_rfl) (by kernel_rfl) (by kernel_rfl) (by kernel_rfl) (fun _ _ _ h => h) (Or.inl ⟨rfl, ?_⟩) hHeld ?_
              rotate_left
              · intro w0 hS0
                try dsimp only at hS0
                go_simp
                try with_reducible rfl
              simp only [List.getElem_toArray, List.getElem_cons_zero, List.getElem_cons_succ, Act.put, List.setIfInBounds_toArray, List.set_cons_zero, List.set_cons_succ]
              obtain ⟨x0, x1⟩ := HST.out _ hb4
              refine wpTail.ready (rs := [21]) (by kernel_rfl) (by simp) ?_
              refine AllTail.cons rfl (fun K hK => ?_) AllTail.nil
              rw [if_pos (by rfl)]
              go_simp
              refine hK.out _ _ (fun h => absurd rfl h) (fun _ => ?_)
              refine wpTail.done (by kernel_rfl) ?_ _
              go_wp2_with fail
              have hfin := HFIN.out _ _ _ hb4 hown4
              go_ret
              exact ⟨ret_bool HAB1.out, hfin⟩
          · rw [if_pos (by rfl)]
            go_simp
            have hb1 := hb0.alloc (hb0.size) (.cells #[.string ⟨s.toArray⟩, .string ⟨c.toArray⟩] 47)
            have hlit := row_new wb.drew [.string ⟨s.toArray⟩, .string ⟨c.toArray⟩] 47
            refine hK.out _ _ (fun _ => HS.out _ hb1) (fun hHeld => ?_)
            replace hHeld := hHeld (by decide)
            refine wpTail.ready (rs := [1]) (by kernel_rfl) (by simp) ?_
            refine AllTail.cons rfl (fun K hK => ?_) AllTail.nil
            rw [if_pos (by rfl)]
            go_simp
            have hbl := hb1.alloc (hb1.size) (.cells #[] 47)
            have ho1 := own_empty (wb.drew.alloc (.cells #[.string ⟨s.toArray⟩, .string ⟨c.toArray⟩] 47)) 47 wb.heap.size 2 hb1.size
            rw [show (wb.drew.alloc (.cells #[.string ⟨s.toArray⟩, .string ⟨c.toArray⟩] 47)).heap.size = wb.heap.size + 1 by simp] at ho1
            refine hK.out _ _ (fun _ => HS.out _ hbl) (fun hHeld => ?_)
            replace hHeld := hHeld (by decide)
            refine wpTail.ready (rs := [8]) (by kernel_rfl) (by simp) ?_
            refine AllTail.cons rfl (fun K hK => ?_) AllTail.nil
            refine step_spread' (m := k) T_hint ho1 hbl (Nat.le_refl _) (HR1.out.below hbl (Nat.le_refl _)) rfl rfl rfl rfl HL1.out HO1.out ?_ ?_ ?_
            · omega
            · omega
            intro v2 w2 hown2 hb2 hg2
            try simp only [Nat.zero_add, List.nil_append] at hown2
            obtain ⟨av2, cv2, rfl, -, hln2, hcn2⟩ := ownsRow_row hown2
            have hlit2 := row_grown (hlit.below (low_alloc _ _) (Nat.le_refl _)) hg2 (fun b o e h => by cases e; simp [Value.ownBlock] at h)
            refine hK.out _ _ (fun _ => HS.out _ hb2) (fun hHeld => ?_)
            replace hHeld := hHeld (by decide)
            refine wpTail.ready (rs := [11]) (by kernel_rfl) (by simp) ?_
            refine AllTail.cons rfl (fun K hK => ?_) AllTail.nil
            refine step_spread' (m := 1) T_hint hown2 hb2 (Nat.le_refl _) hlit2 rfl rfl rfl rfl rfl HOL.out ?_ ?_ ?_
            · omega
            · omega
            intro v3 w3 hown3 hb3 hg3
            try simp only [Nat.zero_add, List.nil_append] at hown3
            obtain ⟨av3, cv3, rfl, -, hln3, hcn3⟩ := ownsRow_row hown3
            refine hK.out _ _ (fun _ => HS.out _ hb3) (fun hHeld => ?_)
            replace hHeld := hHeld (by decide)
            refine wpTail.ready (rs := [18]) (by kernel_rfl) (by simp) ?_
            refine AllTail.cons rfl (fun K hK => ?_) AllTail.nil
            refine step_spread' (m := (Gs.length - k)) T_hint hown3 hb3 (Nat.le_refl _) (HR2.out.below hb3 (Nat.le_refl _)) rfl rfl rfl rfl HL2.out HO2.out ?_ ?_ ?_
            · omega
            · omega
            intro v4 w4 hown4 hb4 hg4
            try simp only [Nat.zero_add, List.nil_append] at hown4
            obtain ⟨av4, cv4, rfl, -, hln4, hcn4⟩ := ownsRow_row hown4
            refine hK.out _ _ (fun _ => HS.out _ hb4) (fun hHeld => ?_)
            replace hHeld := hHeld (by decide)
            refine wpTail.take (i := 19) (v := ?_) rfl (by kernel_rfl) (by kernel_rfl) (by kernel_rfl) (by kernel_rfl) (by kernel_rfl) (fun _ _ _ h => h) (Or.inl ⟨rfl, ?_⟩) hHeld ?_
            rotate_left
            · intro w0 hS0
              try dsimp only at hS0
              go_simp
              try with_reducible rfl
            simp only [List.getElem_toArray, List.getElem_cons_zero, List.getElem_cons_succ, Act.put, List.setIfInBounds_toArray, List.set_cons_zero, List.set_cons_succ]
            refine wpTail.take (i := 20) (v := ?_) rfl (by kernel_rfl) (by kernel_rfl) (by kernel_rfl) (by kernel_rfl) (by kernel_rfl) (fun _ _ _ h => h) (Or.inl ⟨rfl, ?_⟩) hHeld ?_
            rotate_left
            · intro w0 hS0
              try dsimp only at hS0
              go_simp
              try with_reducible rfl
            simp only [List.getElem_toArray, List.getElem_cons_zero, List.getElem_cons_succ, Act.put, List.setIfInBounds_toArray, List.set_cons_zero, List.set_cons_succ]
            obtain ⟨x0, x1⟩ := HST.out _ hb4
            refine wpTail.ready (rs := [21]) (by kernel_rfl) (by simp) ?_
            refine AllTail.cons rfl (fun K hK => ?_) AllTail.nil
            rw [if_pos (by rfl)]
            go_simp
            refine hK.out _ _ (fun h => absurd rfl h) (fun _ => ?_)
            refine wpTail.done (by kernel_rfl) ?_ _
            go_wp2_with fail
            have hfin := HFIN.out _ _ _ hb4 hown4
            go_ret
            exact ⟨ret_bool HAB1.out, hfin⟩
end
section
open Go Go.RowKit


theorem filt_step {h : Hint} {l : List Hint} {k : Nat} (hk : k < l.length) : (l.take (k + 1)).filter (· != h) = if l[k] = h then (l.take k).filter (· != h) else (l.take k).filter (· != h) ++ [l[k]] := by
  rw [List.take_succ_eq_append_getElem hk, List.filter_append]
  by_cases e : l[k] = h
  · simp [e]
  · simp [e]
set_option maxRecDepth 100000 in
set_option maxHeartbeats 4000000 in
theorem tdrem_any (b : Bool) (r : Nat) (Gs : List Hint) (G : List Nat) (s c : Str) (w : World) (h : TRep w r Gs G) (hn : Gs.Nodup) (hl : Gs.length ≤ 100000) (hb : decide ((s, c) ∈ Gs) = b) :
    Calls Tryz.prog 38 #[.pointer (some ⟨r, 0, none⟩), .string ⟨s.toArray⟩, .string ⟨c.toArray⟩] w fun e w' => e = .returned (.bool b) ∧ ∃ G', TRep w' r (Gs.erase (s, c)) G' ∧ Upd G G' w w' := by
  have hb1 : Below w.heap.size w (w.alloc (.cells #[.string ⟨s.toArray⟩, .string ⟨c.toArray⟩] 47)) := (Below.refl _ _).alloc (Nat.le_refl _) _
  have HRB := Lib.hid (h.below hb1)
  have hR := heap_alloc_new w (.cells #[.string ⟨s.toArray⟩, .string ⟨c.toArray⟩] 47)
  have HBW := Lib.hid hb1
  have he : Gs.filter (· != (s, c)) = Gs.erase (s, c) := (List.Nodup.erase_eq_filter hn _).symm
  have hlen : (if b = true then (Gs.erase (s, c)).length + 1 = Gs.length else (Gs.erase (s, c)).length = Gs.length) := by
    cases b with
    | true =>
      have hm := of_decide_eq_true hb
      have := (List.perm_cons_erase hm).length_eq
      simp at this ⊢
      omega
    | false =>
      have hm := of_decide_eq_false hb
      simp [List.erase_of_not_mem hm]
  have HE := Lib.hid he
  have HLE := Lib.hid hlen
  clear hb1 h he hlen hn hb
  go_enter Tryz.func38, Tryz.ntmps38
  go_wp2_with fail
  obtain ⟨W1, hW1⟩ : ∃ W1, w.alloc (.cells #[.string ⟨s.toArray⟩, .string ⟨c.toArray⟩] 47) = W1 := ⟨_, rfl⟩
  rw [hW1] at hR HBW HRB ⊢
  obtain ⟨av, cp, hcp, hcm, -, hkeep⟩ := HRB.out.keep
  have HF : Hid (∀ X : World, Below W1.heap.size W1 X → X.cell? ⟨r, 0, none⟩ = some (.slice av Gs.length cp) ∧ Row X av (hintsV Gs) ∧ X.cell? ⟨w.heap.size, 0, none⟩ = some (.string ⟨s.toArray⟩) ∧ X.cell? ⟨w.heap.size, 1, none⟩ = some (.string ⟨c.toArray⟩)) := Lib.hid (fun X hX => by
    obtain ⟨-, h2, h3⟩ := hkeep [] X (Mod.of_below hX []) (by simp)
    have h4 := cells2 ((hX.block _ (Array.getElem?_eq_some_iff.1 hR).1).trans hR)
    exact ⟨h2, h3, h4.1, h4.2⟩)
  have HFR : Hid (∀ X : World, Below W1.heap.size W1 X → X.cell? ⟨r, 0, none⟩ = some (.slice av Gs.length cp) ∧ X.frozen? ⟨r, 0, none⟩ = false) := Lib.hid (fun X hX => by
    obtain ⟨h1, h2, -⟩ := hkeep [] X (Mod.of_below hX []) (by simp)
    exact ⟨h2, frozen_of_row X r 0 _ _ h1⟩)
  clear hcm hcp hkeep hR hW1
  go_loopw [8, 9] (fun out i wr => ∃ k : Nat, i = .int .i64 k ∧ k ≤ Gs.length ∧ Below W1.heap.size W1 wr ∧ wr.ownsRow W1.heap.size 47 2 out ((Gs.take k).filter (· != (s, c))).length (hintsV ((Gs.take k).filter (· != (s, c))))) (fun _ i _ => (Gs.length - intOf i).toNat)
  case atStart => exact ⟨0, rfl, by omega, Below.refl _ _, by simpa [hintsV] using World.ownsRow_nil W1 W1.heap.size 47 2⟩
  case round =>
    obtain ⟨k, rfl, hk, hbr, hown⟩ := hrel
    obtain ⟨c0, c1, c2, c3⟩ := HF.out _ hbr
    have HC1 := Lib.hid c1
    clear c1
    obtain ⟨ao, co, rfl, -, -, -⟩ := ownsRow_row hown
    by_cases hlt : k < Gs.length
    · have HCC := Lib.hid (fun X (hX : Below W1.heap.size W1 X) => hints_row (HF.out X hX).2.1 hlt)
      obtain ⟨b1, o1, rfl, k0, k1⟩ := hints_row HC1.out hlt
      have HST := Lib.hid (filt_step (h := (s, c)) hlt)
      have hk0 : (0 : Int) ≤ k := by omega
      have hkl : (k : Int) < Gs.length := by omega
      have hfl : ((Gs.take k).filter (· != (s, c))).length ≤ k := Nat.le_trans (List.length_filter_le _ _) (by simp; omega)
      generalize (Gs.take k).filter (· != (s, c)) = X at *
      obtain ⟨X2, hX2⟩ : ∃ X2, (Gs.take (k + 1)).filter (· != (s, c)) = X2 := ⟨_, rfl⟩
      rw [hX2] at HST
      have HXE := Lib.hid hX2
      clear hX2
      have HC : Hid (∀ Z : World, Below W1.heap.size W1 Z → Z.cell? ⟨r, 0, none⟩ = some (.slice (some ⟨b1, o1, none⟩) Gs.length cp) ∧ Z.cell? ⟨b1, o1 + k * 2, none⟩ = some (.string ⟨Gs[k].1.toArray⟩) ∧ Z.cell? ⟨b1, o1 + k * 2 + 1, none⟩ = some (.string ⟨Gs[k].2.toArray⟩)) := Lib.hid (fun Z hZ => by
        obtain ⟨b2, o2, e, h2, h3⟩ := HCC.out Z hZ
        cases e
        exact ⟨(HF.out Z hZ).1, h2, h3⟩)
      clear HCC HC1
      generalize Gs[k] = y at *
      obtain ⟨yf, yc⟩ := y
      dsimp only at k0 k1 HC
      obtain ⟨b, hb⟩ : ∃ b, decide (((yf, yc) : Hint) = (s, c)) = b := ⟨_, rfl⟩
      have hcmp := fun w => hint_neq b w yf yc s c hb
      have HBB := Lib.hid hb
      have HBR := Lib.hid hbr
      clear hb hbr
      cases b with
      | true =>
        have HX2 : Hid (X2 = X) := Lib.hid (by rw [HST.out, if_pos (of_decide_eq_true HBB.out)])
        clear HST HBB
        have HO := Lib.hid hown
        clear hown
        go_wp2_with fail
        go_quiet (fail)
        go_wp2_with fail
        go_roundw
        case rel => exact ⟨k + 1, by go_num, by omega, Go.below_drewN HBR.out _, by rw [HXE.out, HX2.out]; exact ownsRow_low HO.out (Go.below_drewN (Below.refl _ _) _)⟩
        case measure => simp [intOf]; omega
      | false =>
        have HX2 : Hid (X2 = X ++ [(yf, yc)]) := Lib.hid (by rw [HST.out, if_neg (of_decide_eq_false HBB.out)])
        clear HST HBB
        go_wp2_with fail
        go_quiet (fail)
        have hown2 := ownsRow_low hown (Go.below_drewN (Below.refl _ _) nq)
        have hb2 := Go.below_drewN HBR.out nq
        have hs2 : W1.heap.size ≤ (wr.drewN nq).heap.size := hb2.size
        clear hown
        go_wp2_with (first | (at_builtin; refine wpList_appG T_hint hown2 hb2 hs2 rfl rfl rfl rfl (by rfl) (by simp [Value.oneCell']) (by omega) (by omega) ?_; intro v' w8 hown' hbel3 hsz3 hg3) | fail)
        refine ⟨⟨k + 1, by go_num, by omega, hbel3, ?_⟩, by simp [intOf]; omega⟩
        rw [HXE.out, HX2.out, hintsV_append, List.length_append]
        exact hown'
    · have hkl : ¬ (k : Int) < Gs.length := by omega
      have hge : k = Gs.length := by omega
      subst hge
      simp only [List.take_length] at hown ⊢
      rw [HE.out] at hown ⊢
      have hf := (HFR.out _ hbr).2
      have HFIN := Lib.hid (tset_fin (HRB.out.below (Below.refl _ _)) hbr hown rfl)
      have HOW := Lib.hid hown
      clear hown hbr HE HF HFR HC1
      cases b with
      | true =>
        have hlt2 : ((Gs.erase (s, c)).length : Int) < Gs.length := by have := HLE.out; simp at this; omega
        clear HLE
        go_wp2_with fail
        go_ret
        obtain ⟨G', h1, h2⟩ := HFIN.out
        exact ⟨rfl, G', h1, upd_pre HBW.out h2⟩
      | false =>
        have hlt2 : ¬ ((Gs.erase (s, c)).length : Int) < Gs.length := by have := HLE.out; simp at this; omega
        clear HLE
        go_wp2_with fail
        go_ret
        obtain ⟨G', h1, h2⟩ := HFIN.out
        exact ⟨rfl, G', h1, upd_pre HBW.out h2⟩
end
section
open Go Go.RowKit

theorem putS_len2 (s : Str) (l : List Str) : (putS s l).length ≤ l.length + 1 := by
  induction l with
  | nil => simp [putS]
  | cons y r ih =>
    unfold putS
    split
    · rw [List.length_cons, List.length_cons]; omega
    · split
      · simp
      · simp
theorem toldG_step {l : List Hint} {s : Str} {k : Nat} (hk : k < l.length) : toldG (l.take (k + 1)) s = if matchB l[k].1 s then putS l[k].2 (toldG (l.take k) s) else toldG (l.take k) s := by
  rw [List.take_succ_eq_append_getElem hk]
  unfold toldG
  rw [List.foldl_append]
  rfl
theorem tdmatch_x (b : Bool) (f s : ByteArray) (w : World) (hf : f.size ≤ 300) (hs : s.size ≤ 300) (hb : matchB f.data.toList s.data.toList = b) :
    Calls Tryz.prog 60 #[.string f, .string s] w fun e w' => e = .returned (.bool b) ∧ Below w.heap.size w w' := by
  subst hb
  exact rmatch_any f s w (by omega) (by omega)
theorem tdput_x (a : Option Addr) (c : Nat) (l l2 : List Str) (s : Str) (w : World) (ha : Row w a (strs l)) (hc : l.length ≤ c) (hcm : c ≤ maxLen) (hl : l.length < 1000000) (h2 : putS s l = l2) :
    Calls Tryz.prog 61 #[.slice a l.length c, .string ⟨s.toArray⟩] w fun e w' => ∃ a' c', e = .returned (.slice a' l2.length c') ∧ Row w' a' (strs l2) ∧ l2.length ≤ c' ∧ c' ≤ maxLen ∧ Below w.heap.size w w' := by
  subst h2
  exact tdput_any a c l ⟨s.toArray⟩ w ha hc hcm hl
theorem tdmatchT_any (r : Nat) (Gs : List Hint) (G : List Nat) (s : ByteArray) (w : World) (h : TRep w r Gs G) (hl : Gs.length ≤ 100000) (hs : s.size ≤ 300) (hf : ∀ g ∈ Gs, g.1.length ≤ 300) :
    Calls Tryz.prog 27 #[.pointer (some ⟨r, 0, none⟩), .string s] w fun e w' => ∃ a cp, e = .returned (.slice a (toldG Gs s.data.toList).length cp) ∧ Row w' a (strs (toldG Gs s.data.toList)) ∧ Below w.heap.size w w' := by
  obtain ⟨av, cp, -, -, hH⟩ := h.held
  have HF := Lib.hid hH
  have HFL := Lib.hid hf
  clear h hH hf
  go_enter Tryz.func27, Tryz.ntmps27
  go_wp2_with fail
  go_loopw [5, 6] (fun u i wr => ∃ (k : Nat) (a : Option Addr) (c : Nat), i = .int .i64 k ∧ k ≤ Gs.length ∧ u = .slice a (toldG (Gs.take k) s.data.toList).length c ∧ Row wr a (strs (toldG (Gs.take k) s.data.toList)) ∧ (toldG (Gs.take k) s.data.toList).length ≤ c ∧ c ≤ maxLen ∧ (toldG (Gs.take k) s.data.toList).length ≤ k ∧ Below w.heap.size w wr) (fun _ i _ => (Gs.length - intOf i).toNat)
  case atStart => exact ⟨0, none, 0, rfl, by omega, by simp [toldG], .inl (by simp [toldG, strs]), by simp [toldG], by unfold maxLen; omega, by simp [toldG], Below.refl _ _⟩
  case round =>
    obtain ⟨k, ao, co, rfl, hk, rfl, hrow, hco, hcm, htl, hb⟩ := hrel
    obtain ⟨c0, c1⟩ := HF.out _ hb
    have HC1 := Lib.hid c1
    have HB := Lib.hid hb
    have HR := Lib.hid hrow
    clear c1 hrow hb
    by_cases hlt : k < Gs.length
    · have HCC := Lib.hid (fun X (hX : Below w.heap.size w X) => hints_row (HF.out X hX).2 hlt)
      obtain ⟨b1, o1, rfl, k0, k1⟩ := hints_row HC1.out hlt
      have HST := Lib.hid (toldG_step (s := s.data.toList) hlt)
      have HFS := Lib.hid (show (⟨Gs[k].1.toArray⟩ : ByteArray).size ≤ 300 from HFL.out Gs[k] (List.getElem_mem hlt))
      have hk0 : (0 : Int) ≤ k := by omega
      have hkl : (k : Int) < Gs.length := by omega
      obtain ⟨X2, hX2⟩ : ∃ X2, toldG (Gs.take (k + 1)) s.data.toList = X2 := ⟨_, rfl⟩
      rw [hX2] at HST
      have HXE := Lib.hid hX2
      clear hX2
      generalize toldG (Gs.take k) s.data.toList = X at *
      have HC : Hid (∀ Z : World, Below w.heap.size w Z → Z.cell? ⟨r, 0, none⟩ = some (.slice (some ⟨b1, o1, none⟩) Gs.length cp) ∧ Z.cell? ⟨b1, o1 + k * 2, none⟩ = some (.string ⟨Gs[k].1.toArray⟩) ∧ Z.cell? ⟨b1, o1 + k * 2 + 1, none⟩ = some (.string ⟨Gs[k].2.toArray⟩)) := Lib.hid (fun Z hZ => by
        obtain ⟨b2, o2, e, h2, h3⟩ := HCC.out Z hZ
        cases e
        exact ⟨(HF.out Z hZ).1, h2, h3⟩)
      clear HCC HC1
      generalize Gs[k] = y at *
      obtain ⟨yf, yc⟩ := y
      dsimp only at k0 k1 HC HST HFS
      obtain ⟨b, hbm⟩ : ∃ b, matchB yf s.data.toList = b := ⟨_, rfl⟩
      rw [hbm] at HST
      have HBM := Lib.hid (show matchB (⟨yf.toArray⟩ : ByteArray).data.toList s.data.toList = b from hbm)
      clear hbm
      go_wp2_with fail
      refine (tdmatch_x b ⟨yf.toArray⟩ s wr HFS.out hs HBM.out).mono ?_
      rintro e w5 ⟨rfl, hk5⟩
      have HB5 := Lib.hid (bnext HB.out (Nat.le_refl _) hk5)
      have HR5 := Lib.hid (HR.out.below hk5 (Nat.le_refl _))
      clear hk5 k0 k1 c0
      obtain ⟨c0, k0, k1⟩ := HC.out _ HB5.out
      cases b with
      | false =>
        rw [if_neg (by simp)] at HST
        go_wp2_with fail
        go_roundw
        case rel => exact ⟨k + 1, _, _, by go_num, by omega, by rw [HXE.out, HST.out], by rw [HXE.out, HST.out]; exact HR5.out, by rw [HXE.out, HST.out]; exact hco, hcm, by rw [HXE.out, HST.out]; omega, HB5.out⟩
        case measure => simp [intOf]; omega
      | true =>
        rw [if_pos rfl] at HST
        have hpl := putS_len2 yc X
        have HPL := Lib.hid (show X2.length ≤ k + 1 by rw [HST.out]; omega)
        clear hpl
        go_wp2_with fail
        refine (tdput_x ao co X X2 yc w5 HR5.out hco hcm (by omega) HST.out.symm).mono ?_
        rintro e w6 ⟨a6, c6, rfl, hr6, hl6, hm6, hk6⟩
        have HB6 := Lib.hid (bnext HB5.out (Nat.le_refl _) hk6)
        have HR6 := Lib.hid hr6
        clear hr6 hk6
        go_wp2_with fail
        go_roundw
        case rel => exact ⟨k + 1, _, _, by go_num, by omega, by rw [HXE.out], by rw [HXE.out]; exact HR6.out, by rw [HXE.out]; exact hl6, hm6, by rw [HXE.out]; exact HPL.out, HB6.out⟩
        case measure => simp [intOf]; omega
    · have hge : k = Gs.length := by omega
      subst hge
      simp only [List.take_length] at HR htl hco ⊢
      have hn : ((Gs.length : Int) < Gs.length) = False := by simp
      clear HC1
      go_wp2_with fail
      go_ret
      exact ⟨_, _, rfl, HR.out, HB.out⟩
end
section
open Go Go.RowKit

def prefs : Path → List Path
  | [] => [[]]
  | x :: r => [] :: (prefs r).map (x :: ·)
theorem mem_prefs {p q : Path} : q ∈ prefs p ↔ q <+: p := by
  induction p generalizing q with
  | nil => simp [prefs, List.prefix_nil]
  | cons x r ih =>
    cases q with
    | nil => simp [prefs]
    | cons y s =>
      simp only [prefs, List.mem_cons, List.mem_map, List.cons_prefix_cons, reduceCtorEq, false_or]
      constructor
      · rintro ⟨z, hz, e⟩
        cases e
        exact ⟨rfl, ih.1 hz⟩
      · rintro ⟨rfl, h⟩
        exact ⟨s, ih.2 h, rfl⟩
def ndp : List Path → List Path
  | [] => []
  | x :: r => if x ∈ ndp r then ndp r else x :: ndp r
theorem mem_ndp {x : Path} {l : List Path} : x ∈ ndp l ↔ x ∈ l := by
  induction l with
  | nil => simp [ndp]
  | cons y r ih =>
    unfold ndp
    split
    · rename_i h
      rw [ih, List.mem_cons]
      constructor
      · exact .inr
      · rintro (rfl | h')
        · exact ih.1 h
        · exact h'
    · rw [List.mem_cons, List.mem_cons, ih]
theorem nodup_ndp (l : List Path) : (ndp l).Nodup := by
  induction l with
  | nil => exact List.nodup_nil
  | cons y r ih =>
    unfold ndp
    split
    · exact ih
    · rename_i h
      exact List.nodup_cons.2 ⟨h, ih⟩
def pathsOf (Gs : List Hint) : List Path := ndp ([] :: Gs.flatMap fun g => prefs (levels g.1))
def nodesOf (Gs : List Hint) : Nat := (pathsOf Gs).length
theorem mem_pathsOf {Gs : List Hint} {p : Path} : p ∈ pathsOf Gs ↔ p = [] ∨ ∃ g ∈ Gs, p <+: levels g.1 := by
  unfold pathsOf
  rw [mem_ndp, List.mem_cons, List.mem_flatMap]
  simp only [mem_prefs]
theorem HR.count {n t N : Nat} {w : World} {Gs : List Hint} {F : List Nat} (h : HR n w t Gs N F) : N = nodesOf Gs := by
  obtain ⟨B, Ns, Hs, h1, h2, h3, h4, h5, h6, h7, h8⟩ := h
  have a := h1.tight
  rw [← h6]
  refine ((List.perm_ext_iff_of_nodup a.nn (nodup_ndp _)).2 (fun p => ?_)).length_eq
  rw [a.mem]
  refine Iff.trans ?_ (mem_pathsOf (Gs := Gs)).symm
  constructor
  · rintro (e | ⟨x, hx, hp'⟩)
    · exact .inl e
    · obtain ⟨g, hg, rfl⟩ := List.mem_map.1 (h2.mem_iff.1 hx)
      exact .inr ⟨g, hg, hp'⟩
  · rintro (e | ⟨g, hg, hp'⟩)
    · exact .inl e
    · exact .inr ⟨asPath g, h2.mem_iff.2 (List.mem_map.2 ⟨g, hg, rfl⟩), hp'⟩

end
end Go.Proofs.YthfdcphecggjeaaGreatDoor
