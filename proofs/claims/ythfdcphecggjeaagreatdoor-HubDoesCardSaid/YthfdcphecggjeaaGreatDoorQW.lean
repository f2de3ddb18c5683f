/- Homes: the hash walked. The hub: an array of rows, each of its own: how it lies in memory. The hub: answer walked. (Printed by gen_hans.py.) The hub: the mails to homes, with where their rows lie. -/
import Derived.Test.YthfdcphecggjeaaGreatDoorQT
import Derived.Test.YthfdcphecggjeaaGreatDoorQD
import Derived.Laws.Bits64
import Derived.Test.YthfdcphecggjeaaGreatDoorQV
import Derived.Test.YthfdcphecggjeaaGreatDoorDK
namespace Go.Proofs.YthfdcphecggjeaaGreatDoor
section
open Go Go.RowKit

theorem fnv_take {l : Str} {k : Nat} (h : k < l.length) : fnv (l.take (k + 1)) = fnvS (fnv (l.take k)) l[k] := by
  rw [List.take_succ_eq_append_getElem h, fnv_snoc]
theorem fnv_run (h : Nat) (b : UInt8) (hh : h < 18446744073709551616) : IntKind.u64.wrap (bits .xor .u64 (h : Int) (IntKind.u64.wrap (b.toNat : Int)) * 1099511628211) = ((fnvS h b : Nat) : Int) := by
  have hb := b.toNat_lt
  rw [IntKind.wrap_u64 (b.toNat : Int), show (b.toNat : Int) % 18446744073709551616 = b.toNat by omega, bits_xor_u64_nat _ _ hh (by omega), IntKind.wrap_u64]
  unfold fnvS
  generalize h ^^^ b.toNat = x
  omega
set_option maxRecDepth 100000 in
set_option maxHeartbeats 2000000 in
theorem hash_any (s : Str) (b : Nat) (w : World) (hs : s.length ≤ 1000000) (hc : w.cell? ⟨b, 0, none⟩ = some (.string ⟨s.toArray⟩)) :
    Calls Tryz.prog 81 #[.slice (some ⟨b, 0, none⟩) 1 1] w fun e w' => e = .returned (.int .u64 (fnv s)) ∧ w = w' := by
  have hl : (s.toArray.size : Int) = s.length := by simp
  go_enter Tryz.func81, Tryz.ntmps81
  go_wp2_with fail
  go_loopw [3, 9] (fun h i wr => wr = w ∧ (i = .int .i64 0 ∧ h = .int .u64 (fnv []) ∨ i = .int .i64 1 ∧ h = .int .u64 (fnv s))) (fun _ i _ => (1 - intOf i).toNat)
  case atStart => exact ⟨rfl, .inl ⟨rfl, rfl⟩⟩
  case round =>
    obtain ⟨rfl, ⟨rfl, rfl⟩ | ⟨rfl, rfl⟩⟩ := hrel
    · go_wp2_with fail
      go_loopw [3, 6, 15] (fun h _ i wq => ∃ k : Nat, i = .int .i64 k ∧ k ≤ s.length ∧ wq = wr ∧ h = .int .u64 (fnv (s.take k))) (fun _ _ i _ => (s.length - intOf i).toNat)
      case atStart => exact ⟨0, rfl, by omega, rfl, rfl⟩
      case round =>
        obtain ⟨k, rfl, hk, rfl, rfl⟩ := hrel
        by_cases hlt : k < s.length
        · have hk0 : (0 : Int) ≤ k := by omega
          have hkl : (k : Int) < s.length := by omega
          have HT := Lib.hid (fnv_take hlt)
          have HR := Lib.hid (fnv_run (fnv (s.take k)) s[k] (fnv_lt _))
          go_wp2_with fail
          go_roundw
          case rel => exact ⟨k + 1, by go_num, by omega, trivial, by rw [HT.out, ← HR.out]; rfl⟩
          case measure => simp [intOf]; omega
        · have hkl : ¬ (k : Int) < s.length := by omega
          rw [List.take_of_length_le (by omega)]
          go_wp2_with fail
          go_roundw
          case rel => exact ⟨trivial, .inr ⟨rfl, rfl⟩⟩
          case measure => simp [intOf]
    · go_wp2_with fail
      go_ret
      exact ⟨rfl, rfl⟩
theorem home_num (h n : Nat) (h1 : 1 ≤ n) (h2 : n ≤ 64) : wrap64 ((h : Int) % (n : Int)) = ((h % n : Nat) : Int) := by
  have hm : h % n < n := Nat.mod_lt _ h1
  rw [← Int.natCast_emod]
  generalize h % n = x at *
  simp only [wrap64]
  omega
set_option maxRecDepth 100000 in
set_option maxHeartbeats 2000000 in
theorem rest_any (s : Str) (n : Nat) (w : World) (hs : s.length ≤ 1000000) (h1 : 1 ≤ n) (h2 : n ≤ 64) :
    Calls Tryz.prog 50 #[.string ⟨s.toArray⟩, .int .i64 n] w fun e w' => e = .returned (.int .i64 (homeN n s)) ∧ Below w.heap.size w w' := by
  have HH := Lib.hid (hash_any s w.heap.size (w.alloc (.cells #[.string ⟨s.toArray⟩] 9)) hs (cell_of_row _ _ 0 _ _ _ (heap_alloc_new w _)))
  have HN := Lib.hid (home_num (fnv s) n h1 h2)
  have hn0 : ¬ IntKind.u64.wrap (n : Int) = 0 := by rw [IntKind.wrap_u64]; omega
  go_enter Tryz.func50, Tryz.ntmps50
  go_wp2_with fail
  refine HH.out.mono ?_
  rintro e w1 ⟨rfl, rfl⟩
  go_wp2_with fail
  go_ret
  exact ⟨by rw [show homeN n s = fnv s % n from rfl, ← HN.out]; rfl, low_alloc w _⟩
set_option maxRecDepth 100000 in
theorem home_any (s : Str) (n : Nat) (w : World) (hs : s.length ≤ 1000000) (h1 : 1 ≤ n) (h2 : n ≤ 64) :
    Calls Tryz.prog 14 #[.string ⟨s.toArray⟩, .int .i64 n] w fun e w' => e = .returned (.int .i64 (homeN n s)) ∧ Below w.heap.size w w' := by
  have HR := Lib.hid (fun W => rest_any s n W hs h1 h2)
  have HF : Hid (∀ W, Calls Tryz.prog 49 #[.int .i64 n] W fun e w' => e = .returned (.bool true) ∧ W = w') := Lib.hid (fun W => by
    have g1 : (1 : Int) ≤ n := by omega
    have g2 : (n : Int) ≤ 64 := by omega
    go_enter Tryz.func49, Tryz.ntmps49
    go_wp2_with fail
    go_ret
    exact ⟨by simp, rfl⟩)
  clear h1 h2 hs
  go_enter Tryz.func14, Tryz.ntmps14
  go_wp2_with fail
  refine (HF.out _).mono ?_
  rintro e w1 ⟨rfl, rfl⟩
  go_wp2_with fail
  refine (HR.out _).mono ?_
  rintro e w1 ⟨rfl, hk⟩
  go_wp2_with fail
  go_ret
  exact ⟨rfl, hk⟩
end
section
open Go Go.RowKit

/-- 'append(s, E{..})', with where the new row lies -/
theorem wpList_appS {P : Program} {t e : TypeId} {z : Value} {size bytes : Nat} (E : ElemT P t e z size bytes) {w : World} {B : Nat} {v : Value} {n : Nat} {xs : List Value} (hown : w.ownsRow B e size v n xs)
    {ops : Array Oper} {rest : List Oper} {o : Oper} {a : Act} {Q : Exit → Act → World → Prop} {s x : Operand} {cur : Array Value} {m c nb : Nat} (hgd : o.guard = none)
    (ho : o.op = .call { callee := .builtin .append, args := #[s, x], argTypes := #[t, t] }) (hs : a.eval s = v) (hx : a.eval x = .slice (some ⟨nb, 0, none⟩) m c) (hnb : nb = w.heap.size) (d : Option Tmp) (hd : o.dst = d)
    (hc : cur.size = m * size) (hm : 0 < m) (h1 : ∀ u ∈ cur.toList, u.oneCell' = true) (hbytes : (n + m) * bytes ≤ 140737488355328) (hn : n + m < 140737488355328) (hB : B ≤ w.heap.size)
    (h : ∀ g cap w', w'.ownsRow B e size (.slice (some ⟨g, 0, none⟩) (n + m) cap) (n + m) (xs ++ cur.toList) → (w.alloc (.cells cur e)).grownBy w' v.ownBlock → (v.ownBlock = some g ∨ w.heap.size ≤ g) → g < w'.heap.size →
      wpList P ops Q rest (a.put d (.slice (some ⟨g, 0, none⟩) (n + m) cap)) w') : wpList P ops Q (o :: rest) a (w.alloc (.cells cur e)) := by
  subst hnb hd
  refine wpList_step fun K hK => ?_
  refine step_app E (hown.alloc _) (heap_alloc_new w _) hgd ho hs hx hc hm h1 hbytes hn (by simp; omega) ?_
  intro g cap w' h2 h3 h4 h5
  refine hK _ _ (h g cap w' h2 h3 ?_ h5)
  rcases h4 with h4 | h4
  · exact .inl h4
  · right; rw [h4]; simp
def homesV (vs : Nat → Value) : List Value := (List.range 64).map vs
theorem homesV_len (vs : Nat → Value) : (homesV vs).length = 64 := by simp [homesV]
theorem homesV_at (vs : Nat → Value) {j : Nat} (hj : j < 64) : (homesV vs).toArray[j]? = some (vs j) := by
  rw [List.getElem?_toArray]
  unfold homesV
  rw [List.getElem?_map, List.getElem?_range hj]; rfl
theorem homesV_set (vs : Nat → Value) {j : Nat} (hj : j < 64) (v : Value) : (homesV vs).toArray.setIfInBounds j v = (homesV (fun i => if i = j then v else vs i)).toArray := by
  rw [List.setIfInBounds_toArray]
  congr 1
  refine List.ext_getElem? fun i => ?_
  rw [List.getElem?_set]
  unfold homesV
  rw [List.getElem?_map, List.getElem?_map, List.length_map, List.length_range]
  by_cases e : j = i
  · subst e
    rw [if_pos rfl, if_pos hj, List.getElem?_range hj]
    simp
  · rw [if_neg e]
    by_cases h : i < 64
    · rw [List.getElem?_range h]
      simp [Ne.symm e]
    · rw [List.getElem?_eq_none (by simp; omega)]
      rfl
theorem run_index_homes (HV : Array Value) (q : Nat) (v : Value) (hq : q < 64) (hv : HV[q]? = some v) (w : World) : (Instr.index 129 (.agg HV) (.int .i64 q)).run Tryz.prog w = .ok v w := by
  have hn : (0 : Int) ≤ q ∧ (q : Int) < ((64 : Nat) : Int) := by omega
  have ha := Tryz.isAgg33
  have hs := Tryz.sizeOf33
  simp [Instr.index, run_underlying Tryz.underlying129, asIntOf, hn, go_sem, part, ha, hs, hv]
  intro h
  omega
/-- an array of rows lies at block hb -/
structure Homes (w : World) (B hb : Nat) (vs : Nat → Value) (L : Nat → List Str) : Prop where
  blk : w.heap[hb]? = some (.cells (homesV vs).toArray 129 (0, 0))
  own : ∀ j, j < 64 → w.ownsRow B 9 1 (vs j) (L j).length (strs (L j))
  off : ∀ j, j < 64 → (vs j).ownBlock ≠ some hb
  apart : ∀ i j, i < 64 → j < 64 → i ≠ j → ∀ b, (vs i).ownBlock = some b → (vs j).ownBlock ≠ some b
theorem Homes.start (w : World) (B : Nat) : Homes (w.alloc (.cells (homesV fun _ => .slice none 0 0).toArray 129)) B w.heap.size (fun _ => .slice none 0 0) (fun _ => []) :=
  ⟨heap_alloc_new w _, fun j _ => World.ownsRow_nil _ _ _ _, fun j _ => by simp [Value.ownBlock], fun i j _ _ _ b hb => by simp [Value.ownBlock] at hb⟩
theorem Homes.keep {w w' : World} {B hb : Nat} {vs : Nat → Value} {L : Nat → List Str} (h : Homes w B hb vs L) (hk : ∀ k, (k = hb ∨ B ≤ k) → k < w.heap.size → w'.heap[k]? = w.heap[k]?) : Homes w' B hb vs L :=
  ⟨(hk hb (.inl rfl) (Array.getElem?_eq_some_iff.1 h.blk).1).trans h.blk, fun j hj => ownsRow_local (h.own j hj) fun k hk' => hk k (.inr ((h.own j hj).lt k hk').1) ((h.own j hj).lt k hk').2, h.off, h.apart⟩
/-- rows that are empty lie from anywhere on -/
theorem Homes.rebase {w : World} {B B' hb : Nat} {vs : Nat → Value} {L : Nat → List Str} (h : Homes w B hb vs L) (he : ∀ j, j < 64 → vs j = .slice none 0 0 ∧ L j = []) : Homes w B' hb vs L :=
  ⟨h.blk, fun j hj => by rw [(he j hj).1, (he j hj).2]; exact World.ownsRow_nil _ _ _ _, h.off, h.apart⟩
theorem Homes.below {w w' : World} {B hb : Nat} {vs : Nat → Value} {L : Nat → List Str} (h : Homes w B hb vs L) (hk : Below w.heap.size w w') : Homes w' B hb vs L := h.keep fun k _ hl => hk.block k hl
theorem Homes.cell {w : World} {B hb : Nat} {vs : Nat → Value} {L : Nat → List Str} (h : Homes w B hb vs L) {j : Nat} (hj : j < 64) : w.cell? ⟨hb, j, none⟩ = some (vs j) ∧ w.frozen? ⟨hb, j, none⟩ = false ∧ ∃ a c, vs j = .slice a (L j).length c ∧ Row w a (strs (L j)) := by
  obtain ⟨a, c, e, hr, -, -⟩ := ownsRow_row (h.own j hj)
  exact ⟨(cell_of_row w hb j _ _ _ h.blk).trans (homesV_at vs hj), frozen_of_row w hb j _ _ h.blk, a, c, e, hr⟩
/-- 'homes[at] = append(homes[at], client)' -/
theorem Homes.put {w w1 w2 : World} {B hb : Nat} {vs : Nat → Value} {L : Nat → List Str} (h : Homes w B hb vs L) {j : Nat} (hj : j < 64) {v : Value} {s : Str} (hw : Below w.heap.size w w1)
    (hg : w1.grownBy w2 (vs j).ownBlock) (hv : ∀ b, v.ownBlock = some b → (vs j).ownBlock = some b ∨ w.heap.size ≤ b) (ho : w2.ownsRow B 9 1 v ((L j).length + 1) (strs (L j ++ [s]))) :
    w2.cell? ⟨hb, j, none⟩ = some (vs j) ∧ w2.frozen? ⟨hb, j, none⟩ = false ∧ Homes (w2.setCell ⟨hb, j, none⟩ v) B hb (fun i => if i = j then v else vs i) (fun i => if i = j then L j ++ [s] else L i) := by
  have hbl := (Array.getElem?_eq_some_iff.1 h.blk).1
  have hk : ∀ k, k < w.heap.size → (vs j).ownBlock ≠ some k → w2.heap[k]? = w.heap[k]? := fun k hl hn => (hg.block k (Nat.lt_of_lt_of_le hl hw.size) (fun e => hn e.symm)).trans (hw.block k hl)
  have h2 := (hk hb hbl (h.off j hj)).trans h.blk
  have h3 := heap_setCell_same w2 hb j _ _ v h2
  rw [homesV_set vs hj v] at h3
  have hoff : v.ownBlock ≠ some hb := fun e => by
    rcases hv hb e with h1 | h1
    · exact h.off j hj h1
    · omega
  have hap : ∀ i, i < 64 → i ≠ j → ∀ b, (vs i).ownBlock = some b → v.ownBlock ≠ some b := fun i hi hne b hb1 hb2 => by
    rcases hv b hb2 with h1 | h1
    · exact h.apart j i hj hi (Ne.symm hne) b h1 hb1
    · have := ((h.own i hi).lt b hb1).2; omega
  refine ⟨(cell_of_row w2 hb j _ _ _ h2).trans (homesV_at vs hj), frozen_of_row w2 hb j _ _ h2, h3, fun i hi => ?_, fun i hi => ?_, fun i k hi hk' hne b hb1 => ?_⟩
  · by_cases e : i = j
    · subst e
      simp only [if_true]
      rw [List.length_append]
      exact ownsRow_local ho fun b hb1 => heap_setCell_other w2 _ _ _ (by rintro rfl; exact hoff hb1)
    · simp only [if_neg e]
      exact ownsRow_local (h.own i hi) fun b hb1 => (heap_setCell_other w2 _ _ _ (by rintro rfl; exact h.off i hi hb1)).trans (hk b ((h.own i hi).lt b hb1).2 (h.apart i j hi hj e b hb1))
  · by_cases e : i = j
    · simp only [if_pos e]; exact hoff
    · simp only [if_neg e]; exact h.off i hi
  · by_cases e : i = j
    · subst e
      simp only [if_true] at hb1
      simp only [if_neg (Ne.symm hne)]
      exact fun hb2 => hap k hk' (Ne.symm hne) b hb2 hb1
    · simp only [if_neg e] at hb1
      by_cases e' : k = j
      · simp only [if_pos e']; exact hap i hi e b hb1
      · simp only [if_neg e']; exact h.apart i k hi hk' hne b hb1
/-- a row of texts does not lie in the array -/
theorem Homes.row_off {w : World} {B hb : Nat} {vs : Nat → Value} {L : Nat → List Str} (h : Homes w B hb vs L) {cs : List Str} {b o : Nat} (hr : Row w (some ⟨b, o, none⟩) (strs cs)) (hne : cs ≠ []) : b ≠ hb := by
  rintro rfl
  rcases hr with hr | ⟨b', o', e, hc⟩
  · cases cs with
    | nil => exact hne rfl
    | cons c r => simp [strs] at hr
  · cases e
    cases cs with
    | nil => exact hne rfl
    | cons c r =>
      have h1 := hc 0 _ rfl
      rw [cell_of_row w b _ _ _ _ h.blk] at h1
      by_cases hlt : o + 0 < 64
      · rw [homesV_at vs hlt] at h1
        obtain ⟨a, c, e, -⟩ := ownsRow_row (h.own (o + 0) hlt)
        rw [e] at h1
        cases h1
      · rw [Array.getElem?_eq_none (by rw [List.size_toArray, homesV_len]; omega)] at h1
        cases h1
end
section
open Go Go.RowKit

theorem built_mail (a : Int) (y : Item) : Tryz.prog.built 43 [(0, .int .i64 a), (1, .int .i64 5), (2, .agg y.cells.toArray)] = some (Mail.cells ⟨a, y⟩).toArray := by
  obtain ⟨ki, op, co, cl, fi, ⟨p0, p1, p2, p3, p4, p5, p6, p7, p8, p9, p10, p11, ⟨m0, m1, m2, m3⟩, p13, p14, p15, p16, p17, p18, p19, p20, p21, p22⟩, ⟨n0, n1, n2, n3⟩, a1, c1, l1, a2, c2, l2, a3, c3, l3, fr, ma⟩ := y
  kernel_rfl
set_option maxRecDepth 100000 in
set_option maxHeartbeats 4000000 in
theorem answer_any (x y : Item) (w : World) :
    Calls Tryz.prog 46 #[.agg x.cells.toArray, .agg y.cells.toArray] w fun e w' => e = .returned (.agg (Mail.cells ⟨x.frm, { y with op := x.op, client := x.client }⟩).toArray) ∧ Below w.heap.size w w' := by
  obtain ⟨z, hz⟩ : ∃ z : Item, { y with op := x.op, client := x.client } = z := ⟨_, rfl⟩
  have HBU := Lib.hid (built_mail x.frm z)
  have HZS := Lib.hid (item_size z)
  have HXS := Lib.hid (item_size x)
  have HYS := Lib.hid (item_size y)
  have HMS := Lib.hid (mail_size ⟨x.frm, z⟩)
  have HMO := Lib.hid (mail_one ⟨x.frm, z⟩)
  have HZ3 : Hid ((y.cells.toArray.setIfInBounds 1 (.int .i64 x.op)).setIfInBounds 3 (.string x.client) = z.cells.toArray) := Lib.hid (by rw [← hz]; rfl)
  have HX1 : Hid (x.cells.toArray[1]? = some (.int .i64 x.op)) := Lib.hid rfl
  have HX3 : Hid (x.cells.toArray[3]? = some (.string x.client)) := Lib.hid rfl
  have HX36 : Hid (x.cells.toArray[36]? = some (.int .i64 x.frm)) := Lib.hid rfl
  have HY1 : Hid (y.cells.toArray[1]? = some (.int .i64 y.op)) := Lib.hid rfl
  have HY3 : Hid (y.cells.toArray[3]? = some (.string y.client)) := Lib.hid rfl
  have HY13 : Hid ((y.cells.toArray.setIfInBounds 1 (.int .i64 x.op))[3]? = some (.string y.client)) := Lib.hid rfl
  have HM40 : Hid (∀ MZ : Array Value, MZ.size = 40 → MZ.size = (Mail.cells ⟨x.frm, z⟩).toArray.size) := Lib.hid (fun MZ h => h)
  rw [hz]
  generalize (Mail.cells ⟨x.frm, z⟩).toArray = MC at *
  generalize z.cells.toArray = ZC at *
  generalize x.cells.toArray = XC at *
  generalize y.cells.toArray = YC at *
  clear hz
  go_enter Tryz.func46, Tryz.ntmps46
  go_wp2_with fail
  have hW0 := heap_alloc_new w (.cells XC 36)
  have hX : (((w.alloc (.cells XC 36)).alloc (.cells YC 36)).alloc (.cells #[.int .i64 0, .int .i64 0, .int .u8 0, .int .i64 0, .int .i64 0, .string ⟨#[]⟩, .string ⟨#[]⟩, .int .u8 0, .bool false, .int .u8 0, .bool false, .int .u16 0, .string ⟨#[]⟩, .string ⟨#[]⟩, .int .u8 0, .bool false, .int .u16 0, .string ⟨#[]⟩, .bool false, .string ⟨#[]⟩, .string ⟨#[]⟩, .int .u8 0, .bool false, .bool false, .bool false, .string ⟨#[]⟩, .string ⟨#[]⟩, .bool false, .int .u8 0, .slice none 0 0, .string ⟨#[]⟩, .string ⟨#[]⟩, .string ⟨#[]⟩, .int .u8 0, .bool false, .slice none 0 0, .slice none 0 0, .slice none 0 0, .int .i64 0, .int .i64 0] 43)).heap[w.heap.size]? = some (.cells XC 36 (0, 0)) := (Below.heap_alloc _ _ _ (by simp; omega)).trans ((Below.heap_alloc _ _ _ (by simp)).trans hW0)
  have hY : (((w.alloc (.cells XC 36)).alloc (.cells YC 36)).alloc (.cells #[.int .i64 0, .int .i64 0, .int .u8 0, .int .i64 0, .int .i64 0, .string ⟨#[]⟩, .string ⟨#[]⟩, .int .u8 0, .bool false, .int .u8 0, .bool false, .int .u16 0, .string ⟨#[]⟩, .string ⟨#[]⟩, .int .u8 0, .bool false, .int .u16 0, .string ⟨#[]⟩, .bool false, .string ⟨#[]⟩, .string ⟨#[]⟩, .int .u8 0, .bool false, .bool false, .bool false, .string ⟨#[]⟩, .string ⟨#[]⟩, .bool false, .int .u8 0, .slice none 0 0, .string ⟨#[]⟩, .string ⟨#[]⟩, .string ⟨#[]⟩, .int .u8 0, .bool false, .slice none 0 0, .slice none 0 0, .slice none 0 0, .int .i64 0, .int .i64 0] 43)).heap[w.heap.size + 1]? = some (.cells YC 36 (0, 0)) := (Below.heap_alloc _ _ _ (by simp)).trans (by simpa using heap_alloc_new (w.alloc (.cells XC 36)) (.cells YC 36))
  have hM : (((w.alloc (.cells XC 36)).alloc (.cells YC 36)).alloc (.cells #[.int .i64 0, .int .i64 0, .int .u8 0, .int .i64 0, .int .i64 0, .string ⟨#[]⟩, .string ⟨#[]⟩, .int .u8 0, .bool false, .int .u8 0, .bool false, .int .u16 0, .string ⟨#[]⟩, .string ⟨#[]⟩, .int .u8 0, .bool false, .int .u16 0, .string ⟨#[]⟩, .bool false, .string ⟨#[]⟩, .string ⟨#[]⟩, .int .u8 0, .bool false, .bool false, .bool false, .string ⟨#[]⟩, .string ⟨#[]⟩, .bool false, .int .u8 0, .slice none 0 0, .string ⟨#[]⟩, .string ⟨#[]⟩, .string ⟨#[]⟩, .int .u8 0, .bool false, .slice none 0 0, .slice none 0 0, .slice none 0 0, .int .i64 0, .int .i64 0] 43)).heap[w.heap.size + 2]? = some (.cells #[.int .i64 0, .int .i64 0, .int .u8 0, .int .i64 0, .int .i64 0, .string ⟨#[]⟩, .string ⟨#[]⟩, .int .u8 0, .bool false, .int .u8 0, .bool false, .int .u16 0, .string ⟨#[]⟩, .string ⟨#[]⟩, .int .u8 0, .bool false, .int .u16 0, .string ⟨#[]⟩, .bool false, .string ⟨#[]⟩, .string ⟨#[]⟩, .int .u8 0, .bool false, .bool false, .bool false, .string ⟨#[]⟩, .string ⟨#[]⟩, .bool false, .int .u8 0, .slice none 0 0, .string ⟨#[]⟩, .string ⟨#[]⟩, .string ⟨#[]⟩, .int .u8 0, .bool false, .slice none 0 0, .slice none 0 0, .slice none 0 0, .int .i64 0, .int .i64 0] 43 (0, 0)) := by
    have := heap_alloc_new ((w.alloc (.cells XC 36)).alloc (.cells YC 36)) (.cells #[.int .i64 0, .int .i64 0, .int .u8 0, .int .i64 0, .int .i64 0, .string ⟨#[]⟩, .string ⟨#[]⟩, .int .u8 0, .bool false, .int .u8 0, .bool false, .int .u16 0, .string ⟨#[]⟩, .string ⟨#[]⟩, .int .u8 0, .bool false, .int .u16 0, .string ⟨#[]⟩, .bool false, .string ⟨#[]⟩, .string ⟨#[]⟩, .int .u8 0, .bool false, .bool false, .bool false, .string ⟨#[]⟩, .string ⟨#[]⟩, .bool false, .int .u8 0, .slice none 0 0, .string ⟨#[]⟩, .string ⟨#[]⟩, .string ⟨#[]⟩, .int .u8 0, .bool false, .slice none 0 0, .slice none 0 0, .slice none 0 0, .int .i64 0, .int .i64 0] 43)
    rwa [show ((w.alloc (.cells XC 36)).alloc (.cells YC 36)).heap.size = w.heap.size + 2 by simp] at this
  have HBW : Hid (Below w.heap.size w (((w.alloc (.cells XC 36)).alloc (.cells YC 36)).alloc (.cells #[.int .i64 0, .int .i64 0, .int .u8 0, .int .i64 0, .int .i64 0, .string ⟨#[]⟩, .string ⟨#[]⟩, .int .u8 0, .bool false, .int .u8 0, .bool false, .int .u16 0, .string ⟨#[]⟩, .string ⟨#[]⟩, .int .u8 0, .bool false, .int .u16 0, .string ⟨#[]⟩, .bool false, .string ⟨#[]⟩, .string ⟨#[]⟩, .int .u8 0, .bool false, .bool false, .bool false, .string ⟨#[]⟩, .string ⟨#[]⟩, .bool false, .int .u8 0, .slice none 0 0, .string ⟨#[]⟩, .string ⟨#[]⟩, .string ⟨#[]⟩, .int .u8 0, .bool false, .slice none 0 0, .slice none 0 0, .slice none 0 0, .int .i64 0, .int .i64 0] 43))) := Lib.hid ((((Below.refl _ _).alloc (Nat.le_refl _) _).alloc (by simp) _).alloc (by simp; omega) _)
  replace HM40 := Lib.hid (HM40.out #[.int .i64 0, .int .i64 0, .int .u8 0, .int .i64 0, .int .i64 0, .string ⟨#[]⟩, .string ⟨#[]⟩, .int .u8 0, .bool false, .int .u8 0, .bool false, .int .u16 0, .string ⟨#[]⟩, .string ⟨#[]⟩, .int .u8 0, .bool false, .int .u16 0, .string ⟨#[]⟩, .bool false, .string ⟨#[]⟩, .string ⟨#[]⟩, .int .u8 0, .bool false, .bool false, .bool false, .string ⟨#[]⟩, .string ⟨#[]⟩, .bool false, .int .u8 0, .slice none 0 0, .string ⟨#[]⟩, .string ⟨#[]⟩, .string ⟨#[]⟩, .int .u8 0, .bool false, .slice none 0 0, .slice none 0 0, .slice none 0 0, .int .i64 0, .int .i64 0] rfl)
  generalize ((w.alloc (.cells XC 36)).alloc (.cells YC 36)).alloc (.cells #[.int .i64 0, .int .i64 0, .int .u8 0, .int .i64 0, .int .i64 0, .string ⟨#[]⟩, .string ⟨#[]⟩, .int .u8 0, .bool false, .int .u8 0, .bool false, .int .u16 0, .string ⟨#[]⟩, .string ⟨#[]⟩, .int .u8 0, .bool false, .int .u16 0, .string ⟨#[]⟩, .bool false, .string ⟨#[]⟩, .string ⟨#[]⟩, .int .u8 0, .bool false, .bool false, .bool false, .string ⟨#[]⟩, .string ⟨#[]⟩, .bool false, .int .u8 0, .slice none 0 0, .string ⟨#[]⟩, .string ⟨#[]⟩, .string ⟨#[]⟩, .int .u8 0, .bool false, .slice none 0 0, .slice none 0 0, .slice none 0 0, .int .i64 0, .int .i64 0] 43) = W at *
  generalize (#[.int .i64 0, .int .i64 0, .int .u8 0, .int .i64 0, .int .i64 0, .string ⟨#[]⟩, .string ⟨#[]⟩, .int .u8 0, .bool false, .int .u8 0, .bool false, .int .u16 0, .string ⟨#[]⟩, .string ⟨#[]⟩, .int .u8 0, .bool false, .int .u16 0, .string ⟨#[]⟩, .bool false, .string ⟨#[]⟩, .string ⟨#[]⟩, .int .u8 0, .bool false, .bool false, .bool false, .string ⟨#[]⟩, .string ⟨#[]⟩, .bool false, .int .u8 0, .slice none 0 0, .string ⟨#[]⟩, .string ⟨#[]⟩, .string ⟨#[]⟩, .int .u8 0, .bool false, .slice none 0 0, .slice none 0 0, .slice none 0 0, .int .i64 0, .int .i64 0] : Array Value) = MZ at *
  have x1 := (cell_of_row _ _ 1 _ _ _ hX).trans HX1.out
  have x3 := (cell_of_row _ _ 3 _ _ _ hX).trans HX3.out
  have y1 := (cell_of_row _ _ 1 _ _ _ hY).trans HY1.out
  have y3 := (cell_of_row _ _ 3 _ _ _ hY).trans HY3.out
  have f1 := frozen_of_row _ _ 1 _ _ hY
  have f3 := frozen_of_row _ _ 3 _ _ hY
  clear hW0
  refine wp_region_held_drew (S := fun X => X.cell? ⟨w.heap.size, 1, none⟩ = some (.int .i64 x.op) ∧ X.cell? ⟨w.heap.size, 3, none⟩ = some (.string x.client)) (by kernel_rfl) ⟨x1, x3⟩ (fun hHeld => ?_)
  have hWd : W.drew.heap = W.heap := rfl
  refine wpAnyH_take (i := 0) (v := ?_) rfl (by kernel_rfl) (by kernel_rfl) (by kernel_rfl) (fun _ _ _ h => h) (Or.inl ⟨rfl, ?_⟩) hHeld ?_
  rotate_left
  · intro w0 hS0
    try dsimp only at hS0
    go_simp
    try with_reducible rfl
  simp only [List.getElem_toArray, List.getElem_cons_zero, Act.put, List.setIfInBounds_toArray, List.set_cons_zero, List.set_cons_succ]
  refine wpAnyH_take (i := 1) (v := ?_) rfl (by kernel_rfl) (by kernel_rfl) (by kernel_rfl) (fun _ _ _ h => h) (Or.inl ⟨rfl, ?_⟩) hHeld ?_
  rotate_left
  · intro w0 hS0
    try dsimp only at hS0
    go_simp
    try with_reducible rfl
  simp only [List.getElem_toArray, List.getElem_cons_zero, List.getElem_cons_succ, Act.put, List.setIfInBounds_toArray, List.set_cons_zero, List.set_cons_succ]
  refine wpAnyH_take (i := 2) (v := ?_) rfl (by kernel_rfl) (by kernel_rfl) (by kernel_rfl) (fun _ _ _ h => h) (Or.inl ⟨rfl, ?_⟩) hHeld ?_
  rotate_left
  · intro w0 hS0
    try dsimp only at hS0
    go_simp
    try with_reducible rfl
  simp only [List.getElem_toArray, List.getElem_cons_zero, List.getElem_cons_succ, Act.put, List.setIfInBounds_toArray, List.set_cons_zero, List.set_cons_succ]
  refine wpAnyH_take (i := 3) (v := ?_) rfl (by kernel_rfl) (by kernel_rfl) (by kernel_rfl) (fun _ _ _ h => h) (Or.inl ⟨rfl, ?_⟩) hHeld ?_
  rotate_left
  · intro w0 hS0
    try dsimp only at hS0
    go_simp
    try with_reducible rfl
  simp only [List.getElem_toArray, List.getElem_cons_zero, List.getElem_cons_succ, Act.put, List.setIfInBounds_toArray, List.set_cons_zero, List.set_cons_succ]
  refine wpAnyH_take (i := 4) (v := ?_) rfl (by kernel_rfl) (by kernel_rfl) (by kernel_rfl) (fun _ _ _ h => h) (Or.inl ⟨rfl, ?_⟩) hHeld ?_
  rotate_left
  · intro w0 hS0
    try dsimp only at hS0
    go_simp
    try with_reducible rfl
  simp only [List.getElem_toArray, List.getElem_cons_zero, List.getElem_cons_succ, Act.put, List.setIfInBounds_toArray, List.set_cons_zero, List.set_cons_succ]
  refine wpAnyH_ready (rs := [5]) (by kernel_rfl) (by simp) ?_
  refine AllReadyH.cons rfl (fun K hK => ?_) AllReadyH.nil
  rw [if_pos (by rfl)]
  go_simp
  have hY1 := heap_setCell_same W (w.heap.size + 1) 1 _ _ (.int .i64 x.op) hY
  have x1a : (W.setCell ⟨w.heap.size + 1, 1, none⟩ (.int .i64 x.op)).cell? ⟨w.heap.size, 1, none⟩ = some (.int .i64 x.op) := by rw [World.cell?_of_block (w := W) (Below.heap_setCell _ _ _ _ (by show w.heap.size ≠ w.heap.size + 1; omega))]; exact x1
  have x3a : (W.setCell ⟨w.heap.size + 1, 1, none⟩ (.int .i64 x.op)).cell? ⟨w.heap.size, 3, none⟩ = some (.string x.client) := by rw [World.cell?_of_block (w := W) (Below.heap_setCell _ _ _ _ (by show w.heap.size ≠ w.heap.size + 1; omega))]; exact x3
  have y3a : (W.setCell ⟨w.heap.size + 1, 1, none⟩ (.int .i64 x.op)).cell? ⟨w.heap.size + 1, 3, none⟩ = some _ := (cell_of_row _ _ 3 _ _ _ hY1).trans HY13.out
  have f3a := frozen_of_row _ _ 3 _ _ hY1
  refine hK.out _ _ ⟨x1a, x3a⟩ (fun hHeld => ?_)
  refine wpAnyH_take (i := 6) (v := ?_) rfl (by kernel_rfl) (by kernel_rfl) (by kernel_rfl) (fun _ _ _ h => h) (Or.inl ⟨rfl, ?_⟩) hHeld ?_
  rotate_left
  · intro w0 hS0
    try dsimp only at hS0
    go_simp
    try with_reducible rfl
  simp only [List.getElem_toArray, List.getElem_cons_zero, List.getElem_cons_succ, Act.put, List.setIfInBounds_toArray, List.set_cons_zero, List.set_cons_succ]
  refine wpAnyH_ready (rs := [7]) (by kernel_rfl) (by simp) ?_
  refine AllReadyH.cons rfl (fun K hK => ?_) AllReadyH.nil
  rw [if_pos (by rfl)]
  go_simp
  have hY2 := heap_setCell_same _ (w.heap.size + 1) 3 _ _ (.string x.client) hY1
  rw [HZ3.out] at hY2
  have HY2 : Hid (((W.setCell ⟨w.heap.size + 1, 1, none⟩ (.int .i64 x.op)).setCell ⟨w.heap.size + 1, 3, none⟩ (.string x.client)).drew.heap[w.heap.size + 1]? = some (.cells ZC 36 (0, 0))) := Lib.hid hY2
  have HB2 : Hid (Below w.heap.size w ((W.setCell ⟨w.heap.size + 1, 1, none⟩ (.int .i64 x.op)).setCell ⟨w.heap.size + 1, 3, none⟩ (.string x.client)).drew) := Lib.hid ((HBW.out.setCell (by show w.heap.size ≤ w.heap.size + 1; omega) _).setCell (by show w.heap.size ≤ w.heap.size + 1; omega) _).drew
  have hoth : ∀ j, j ≠ w.heap.size + 1 → ((W.setCell ⟨w.heap.size + 1, 1, none⟩ (.int .i64 x.op)).setCell ⟨w.heap.size + 1, 3, none⟩ (.string x.client)).drew.heap[j]? = W.heap[j]? := fun j hj => (Below.heap_setCell _ _ _ _ (by show j ≠ w.heap.size + 1; exact hj)).trans (Below.heap_setCell _ _ _ _ (by show j ≠ w.heap.size + 1; exact hj))
  have HM2 := Lib.hid ((hoth (w.heap.size + 2) (by omega)).trans hM)
  have hX2 := (hoth w.heap.size (by omega)).trans hX
  have xf := (cell_of_row _ _ 36 _ _ _ hX2).trans HX36.out
  have x1b := (cell_of_row _ _ 1 _ _ _ hX2).trans HX1.out
  have x3b := (cell_of_row _ _ 3 _ _ _ hX2).trans HX3.out
  clear hY1 hY2 hoth hX2 x1a x3a y3a f3a x1 x3 y1 y3 f1 f3 hX hY hM
  refine hK.out _ _ ⟨x1b, x3b⟩ (fun hHeld => ?_)
  refine wpAnyH_done (by kernel_rfl) ?_ _
  clear hHeld x1b x3b
  generalize ((W.setCell ⟨w.heap.size + 1, 1, none⟩ (.int .i64 x.op)).setCell ⟨w.heap.size + 1, 3, none⟩ (.string x.client)).drew = W2 at *
  go_wp2_with (first
    | (refine wpList_load_row rfl 36 _ rfl (w.heap.size + 1) rfl 36 ZC _ _ HY2.out Tryz.underlying36 rfl HZS.out ?_)
    | (refine wpList_buildBy rfl 43 _ rfl _ rfl MC [(0, .int .i64 x.frm), (1, .int .i64 5), (2, .agg ZC)] (by kernel_rfl) HBU.out ?_)
    | (refine wpList_store_rowTo rfl 43 _ _ rfl rfl (w.heap.size + 2) MC rfl rfl 43 MZ HM2.out HMS.out HM40.out HMO.out ?_)
    | fail)
  (try simp only [Exit.inBlock, Exit.then])
  have hfin : Below w.heap.size w (W2.setRow (w.heap.size + 2) MC) := (mod_setRow (Mod.of_below HB2.out []) (.inr (by omega)) MC).below (Nat.le_refl _) (by simp)
  exact bodyPost_ret (results_cell_row rfl _ _ (w.heap.size + 2) 43 MC (0, 0) _ rfl (setRow_heap W2 _ _ MC _ _ HM2.out) Tryz.underlying43 rfl HMS.out) rfl ⟨rfl, hfin⟩
end
section
open Go Go.RowKit

def addrOf : Value → Option Addr
  | .slice a _ _ => a
  | _ => none
def capOf : Value → Nat
  | .slice _ _ c => c
  | _ => 0
theorem slice_eta {v : Value} {a : Option Addr} {n c : Nat} (h : v = .slice a n c) : addrOf v = a ∧ capOf v = c := by subst h; exact ⟨rfl, rfl⟩
/-- the mail to a home -/
def mailTo (n : Nat) (x : Item) (cs : List Str) (vs : Nat → Value) (q : Nat) : Mail := ⟨q, itemOf (toM n x cs q) none 0 (addrOf (vs q)) (capOf (vs q))⟩
def sendL (n : Nat) (x : Item) (cs : List Str) (vs : Nat → Value) (k : Nat) : List Mail := ((List.range k).filter fun w => !(at1 n cs w).isEmpty).map (mailTo n x cs vs)
theorem sendL_succ (n : Nat) (x : Item) (cs : List Str) (vs : Nat → Value) (k : Nat) : sendL n x cs vs (k + 1) = sendL n x cs vs k ++ (if (at1 n cs k).isEmpty then [] else [mailTo n x cs vs k]) := by
  unfold sendL
  rw [List.range_succ, List.filter_append, List.map_append]
  congr 1
  by_cases h : (at1 n cs k).isEmpty = true
  · simp [h]
  · simp [h]
theorem sendL_len (n : Nat) (x : Item) (cs : List Str) (vs : Nat → Value) (k : Nat) : (sendL n x cs vs k).length ≤ k := by
  unfold sendL
  rw [List.length_map]
  exact Nat.le_trans (List.length_filter_le _ _) (by simp)
theorem mails_map {w : World} {F : List Nat} {f : Nat → Mail} {g : Nat → HMail} : ∀ {l : List Nat}, (∀ q ∈ l, MailAt w F (f q) (g q)) → Mails w F (l.map f) (l.map g)
  | [], _ => trivial
  | q :: r, h => ⟨h q (by simp), mails_map fun y hy => h y (by simp [hy])⟩
/-- the mails to homes, as they lie -/
theorem send_mails {w : World} {B hb : Nat} {vs : Nat → Value} {n : Nat} {x : Item} {cs : List Str} {F : List Nat} (h : Homes w B hb vs (at1 n cs)) (hF : ∀ k ∈ F, k < B) {k : Nat} (hk : k ≤ 64) : Mails w F (sendL n x cs vs k) (sendM n x cs k) := by
  refine mails_map fun q hq => ?_
  have hq64 : q < 64 := by
    have := List.mem_range.1 (List.mem_filter.1 hq).1
    omega
  have hown := h.own q hq64
  obtain ⟨a, c, e, -, -, hB⟩ := Beside.own hown hF
  obtain ⟨ea, ec⟩ := slice_eta e
  exact ⟨none, 0, addrOf (vs q), capOf (vs q), rfl, .inl rfl, by rw [ea]; exact hB⟩
def itemZ : Item := ⟨0, 0, 0, ⟨#[]⟩, ⟨#[]⟩, pkZ, Msg.zero, none, 0, [], none, 0, [], none, 0, [], 0, 0⟩
def mailZ : List Value := .int .i64 0 :: .int .i64 0 :: itemZ.cells
theorem T_mail : ElemT Tryz.prog 38 43 (.agg mailZ.toArray) 40 400 := ⟨Tryz.underlying38, by kernel_rfl, by kernel_rfl, by decide⟩
theorem build_mail (m : Mail) : Build1 Tryz.prog 38 43 m.cells := by
  intro o a w K Q x ho hx h
  obtain ⟨i, hi, hz0, hz1, hz2⟩ := info_parts T_mail.hi
  refine wp_buildSlice 38 43 1 _ ho m.cells.toArray i _ Tryz.underlying38 hi hz0 (by rw [hz1]; decide) (by rw [hz1]; decide) ?_ h
  rw [hz1]
  simp only [List.map_toArray, List.map_cons, List.map_nil, hx]
  clear hx h ho hi hz0 hz1 hz2
  obtain ⟨d, ki, op, co, cl, fi, ⟨p0, p1, p2, p3, p4, p5, p6, p7, p8, p9, p10, p11, ⟨m0, m1, m2, m3⟩, p13, p14, p15, p16, p17, p18, p19, p20, p21, p22⟩, ⟨n0, n1, n2, n3⟩, a1, c1, l1, a2, c2, l2, a3, c3, l3, fr, ma⟩ := m
  kernel_rfl
theorem built_deliver0 (op : Int) (cl t p : ByteArray) (q : Int) (r : Bool) (a : Option Addr) (c n : Nat) (fr : Int) :
    Tryz.prog.built 36 [(0, .int .u8 11), (1, .int .i64 op), (3, .string cl), (6, .agg #[.string t, .string p, .int .u8 q, .bool r]), (8, .slice a n c), (10, .int .i64 fr)] =
      some (([.int .u8 11, .int .i64 op, .int .i64 0, .string cl, .string ⟨#[]⟩] ++ (pkZ.cells ++ ([.string t, .string p, .int .u8 q, .bool r] ++ [.slice none 0 0, .slice a n c, .slice none 0 0, .int .i64 fr, .int .i64 0])) : List Value).toArray) := by kernel_rfl
theorem built_deliver (d : Int) (op : Int) (cl : ByteArray) (m : Msg) (a : Option Addr) (c : Nat) (l : List Str) (fr : Int) :
    Tryz.prog.built 36 [(0, .int .u8 11), (1, .int .i64 op), (3, .string cl), (6, .agg #[.string m.t, .string m.p, .int .u8 m.q, .bool m.r]), (8, .slice a l.length c), (10, .int .i64 fr)] = some (itemOf ⟨d, 11, op, cl, m, [], l, fr, 0⟩ none 0 a c).cells.toArray := by
  rw [built_deliver0]
  unfold itemOf Item.cells Msg.cells
  simp only [List.length_map]
  rfl
end
end Go.Proofs.YthfdcphecggjeaaGreatDoor
