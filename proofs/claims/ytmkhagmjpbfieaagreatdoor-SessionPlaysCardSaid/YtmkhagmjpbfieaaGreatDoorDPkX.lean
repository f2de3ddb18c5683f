/- The document's packets (relayhouseref03): has, Name, Fields walked; a store of what is there. The document's packets (relayhouseref03): what a message's packet comes to; packets that are the same. (Printed by gen_dpk.py.) The document's packets (relayhouseref03): Right at a message's packet. (Printed by gen_dpk.py.) The document's table: Put walked. (Printed by gen_dput.py.) -/
import Derived.Test.YtmkhagmjpbfieaaGreatDoorKTopX
import Derived.Test.YtmkhagmjpbfieaaGreatDoorPkY
import Derived.Test.YtmkhagmjpbfieaaGreatDoorSe2X
import Derived.Test.YtmkhagmjpbfieaaGreatDoorODX
import Derived.Test.YtmkhagmjpbfieaaGreatDoorOutY
namespace Go.Proofs.YtmkhagmjpbfieaaGreatDoor
section
open Go Go.RowKit

theorem modify_self {α : Type} (a : Array α) (i : Nat) (f : α → α) (h : ∀ x, a[i]? = some x → f x = x) : a.modify i f = a := by
  refine Array.ext (by simp) fun j h1 h2 => ?_
  rw [Array.getElem_modify]
  split
  · rename_i e
    subst e
    exact h _ (Array.getElem?_eq_getElem h2)
  · rfl
/-- a store of what is there leaves the world -/
theorem setCell_self {w : World} {b k : Nat} {v : Value} {cs : Array Value} {T : TypeId} {fr : Nat × Nat} (h : w.heap[b]? = some (.cells cs T fr)) (hk : cs[k]? = some v) : w.setCell ⟨b, k, none⟩ v = w := by
  have : w.heap.modify b (fun
      | .cells c elem frozen => .cells (if (none : Option Nat).isSome then c else c.setIfInBounds k v) elem frozen
      | o => o) = w.heap := by
    refine modify_self _ _ _ fun x hx => ?_
    rw [h] at hx
    cases hx
    have e : cs.setIfInBounds k v = cs := by
      refine Array.ext (by simp) fun j h1 h2 => ?_
      rw [Array.getElem_setIfInBounds]
      split
      · rename_i e
        subst e
        rw [Array.getElem?_eq_getElem h2] at hk
        exact (Option.some.inj hk).symm
      · rfl
    simp [e]
  unfold World.setCell
  exact congrArg (fun x => { w with heap := x }) this
/-- does a byte stand in a text? -/
def hasC (c : Int) (l : List UInt8) : Bool := l.any fun x => decide ((x.toNat : Int) = c)
theorem hasC_snoc (c : Int) {s : ByteArray} {k : Nat} (hk : k < s.size) : hasC c (s.data.toList.take (k + 1)) = (hasC c (s.data.toList.take k) || decide ((s[k].toNat : Int) = c)) := by
  have hl : k < s.data.toList.length := hk
  unfold hasC
  rw [List.take_succ_eq_append_getElem hl, List.any_append]
  simp only [List.any_cons, List.any_nil, Bool.or_false]
  rfl
theorem hasC_take {c : Int} {s : ByteArray} {k : Nat} (h : hasC c (s.data.toList.take k) = true) : hasC c s.data.toList = true := by
  unfold hasC at *
  obtain ⟨x, hx, e⟩ := List.any_eq_true.1 h
  exact List.any_eq_true.2 ⟨x, List.mem_of_mem_take hx, e⟩
set_option maxHeartbeats 1000000 in
theorem has3_any (s : ByteArray) (c : Int) (b : Bool) (w : World) (hb : hasC c s.data.toList = b) (hs : s.size ≤ 9223372036854775807) :
    Calls Tryz.prog 108 #[.string s, .int .u8 c] w fun e w' => e = .returned (.bool b) ∧ w = w' := by
  have hlen : s.data.toList.length = s.size := rfl
  have HB := Lib.hid hb
  clear hb
  go_enter Tryz.func108, Tryz.ntmps108
  go_wp2_with fail
  go_loop [5] (fun i => ∃ k : Nat, i = .int .i64 k ∧ k ≤ s.size ∧ hasC c (s.data.toList.take k) = false) (fun i => (s.size - intOf i).toNat)
  case atStart => exact ⟨0, rfl, Nat.zero_le _, by simp [hasC]⟩
  case round =>
    obtain ⟨k, rfl, hk, hp⟩ := hrel
    by_cases hlt : k < s.size
    · have hk0 : (0 : Int) ≤ k := by omega
      have hkl : (k : Int) < s.size := by omega
      have hcb := byte_lt s[k]
      have HS := Lib.hid (hasC_snoc c hlt)
      have HP := Lib.hid hp
      clear hp
      by_cases h1 : (s[k].toNat : Int) = c
      · have q1 : ((s[k].toNat : Int) == c) = true := by simpa using h1
        have HF : Hid (b = true) := Lib.hid (by
          have := HS.out
          rw [decide_eq_true h1, Bool.or_true] at this
          rw [← HB.out]; exact hasC_take this)
        clear h1
        go_wp2_with fail
        go_ret
        exact ⟨ret_bool HF.out.symm, rfl⟩
      · have q1 : ((s[k].toNat : Int) == c) = false := by simpa using h1
        have HF : Hid (hasC c (s.data.toList.take (k + 1)) = false) := Lib.hid (by rw [HS.out, HP.out, decide_eq_false h1]; rfl)
        clear h1
        go_wp2_with fail
        go_round
        case rel => exact ⟨k + 1, by go_num, by omega, HF.out⟩
        case measure => simp [intOf]; omega
    · have hkl : ¬ (k : Int) < s.size := by omega
      have HF : Hid (b = false) := Lib.hid (by rw [← HB.out]; rwa [List.take_of_length_le (by omega)] at hp)
      clear hp
      go_wp2_with fail
      go_ret
      exact ⟨ret_bool HF.out.symm, rfl⟩
theorem plain_has (l : List UInt8) : plainB l = (!hasC 43 l && !hasC 35 l) := by
  unfold plainB hasC
  induction l with
  | nil => rfl
  | cons x r ih =>
    rw [List.all_cons, List.any_cons, List.any_cons, ih, wildc_nat x]
    by_cases h1 : (x.toNat : Int) = 43
    · simp [h1]
    · by_cases h2 : (x.toNat : Int) = 35
      · simp [h2]
      · simp [h1, h2]
set_option maxHeartbeats 1000000 in
theorem name3_any (s : ByteArray) (w : World) (hs : s.size ≤ 9223372036854775807) :
    Calls Tryz.prog 107 #[.string s] w fun e w' => e = .returned (.bool (nameB s.data.toList)) ∧ Below w.heap.size w w' := by
  by_cases he : s.data.toList = []
  · have h1 : s.size = 0 := by have : s.data.toList.length = s.size := rfl; rw [he] at this; simpa using this.symm
    have h2 : decide ((0 : Int) < s.size) = false := decide_eq_false (by omega)
    have h3 : ¬ 0 < s.size := by omega
    have HF := Lib.hid (show nameB s.data.toList = false by unfold nameB; rw [he]; rfl)
    clear he h1
    go_enter Tryz.func107, Tryz.ntmps107
    go_wp2_with fail
    go_ret
    exact ⟨ret_bool HF.out.symm, Below.refl _ _⟩
  · have h1 : 0 < s.size := by
      have : s.data.toList.length = s.size := rfl
      have := List.length_pos_iff.2 he; omega
    have h2 : (0 : Int) < s.size := by omega
    obtain ⟨v, hv⟩ : ∃ v, validI s.data.toList = v := ⟨_, rfl⟩
    obtain ⟨v1, hv1⟩ : ∃ v, hasC 43 s.data.toList = v := ⟨_, rfl⟩
    obtain ⟨v2, hv2⟩ : ∃ v, hasC 35 s.data.toList = v := ⟨_, rfl⟩
    have HF := Lib.hid (show nameB s.data.toList = (v && (!v1 && !v2)) by rw [nameB, List.isEmpty_eq_false_iff.2 he, ← hv, ← hv1, ← hv2, plain_has]; rfl)
    have HV := Lib.hid (rvalid_any s w hs)
    rw [hv] at HV
    have HP := Lib.hid (fun w => has3_any s 43 v1 w hv1 hs)
    have HH := Lib.hid (fun w => has3_any s 35 v2 w hv2 hs)
    clear he hv hv1 hv2
    cases v with
    | false =>
      go_enter Tryz.func107, Tryz.ntmps107
      go_wp2_with fail
      refine HV.out.mono ?_
      rintro e w1 ⟨rfl, hk⟩
      go_wp2_with fail
      go_ret
      exact ⟨ret_bool HF.out.symm, hk⟩
    | true =>
      go_enter Tryz.func107, Tryz.ntmps107
      go_wp2_with fail
      refine HV.out.mono ?_
      rintro e w1 ⟨rfl, hk⟩
      go_wp2_with fail
      refine (HP.out _).mono ?_
      rintro e w2 ⟨rfl, rfl⟩
      cases v1 with
      | true =>
        go_wp2_with fail
        go_ret
        exact ⟨ret_bool (by rw [HF.out]; rfl), hk⟩
      | false =>
        go_wp2_with fail
        refine (HH.out _).mono ?_
        rintro e w2 ⟨rfl, rfl⟩
        go_wp2_with fail
        go_ret
        exact ⟨ret_bool (by rw [HF.out]; rfl), hk⟩
theorem mneq_same (t p : ByteArray) (q : Int) (r : Bool) (w : World) : (binOp .neq 34 (.agg #[.string t, .string p, .int .u8 q, .bool r]) (.agg #[.string t, .string p, .int .u8 q, .bool r])).run Tryz.prog w = .ok (.bool false) w := by
  have hst : Tryz.prog.stoodInHeld 34 = false := by kernel_rfl
  have hgd : Tryz.prog.eqGuardType Tryz.prog.depth 34 = false := by kernel_rfl
  go_simp
end
section
open Go Go.RowKit
theorem pub_cells {X : World} {b : Nat} {m : Msg} {id : Int} {d : Bool} (h : X.heap[b]? = some (.cells (pubK m id d).cells.toArray 37 (0, 0))) :
    X.cell? ⟨b, 0, none⟩ = some (.int .u8 3) ∧ X.cell? ⟨b, 1, none⟩ = some (.bool d) ∧ X.cell? ⟨b, 2, none⟩ = some (.int .u8 m.q) ∧ X.cell? ⟨b, 3, none⟩ = some (.bool m.r) ∧ X.cell? ⟨b, 4, none⟩ = some (.int .u16 id) ∧ X.cell? ⟨b, 5, none⟩ = some (.string m.t) ∧ X.cell? ⟨b, 6, none⟩ = some (.string m.p) ∧ X.cell? ⟨b, 7, none⟩ = some (.int .u8 0) ∧ X.cell? ⟨b, 8, none⟩ = some (.bool false) ∧ X.cell? ⟨b, 9, none⟩ = some (.int .u16 0) ∧ X.cell? ⟨b, 10, none⟩ = some (.string ⟨#[]⟩) ∧ X.cell? ⟨b, 11, none⟩ = some (.bool false) ∧ X.cell? ⟨b, 12, none⟩ = some (.string ⟨#[]⟩) ∧ X.cell? ⟨b, 13, none⟩ = some (.string ⟨#[]⟩) ∧ X.cell? ⟨b, 14, none⟩ = some (.int .u8 0) ∧ X.cell? ⟨b, 15, none⟩ = some (.bool false) ∧ X.cell? ⟨b, 16, none⟩ = some (.bool false) ∧ X.cell? ⟨b, 17, none⟩ = some (.bool false) ∧ X.cell? ⟨b, 18, none⟩ = some (.string ⟨#[]⟩) ∧ X.cell? ⟨b, 19, none⟩ = some (.string ⟨#[]⟩) ∧ X.cell? ⟨b, 20, none⟩ = some (.bool false) ∧ X.cell? ⟨b, 21, none⟩ = some (.int .u8 0) ∧ X.cell? ⟨b, 22, none⟩ = some (.slice none 0 0) ∧ X.cell? ⟨b, 23, none⟩ = some (.string ⟨#[]⟩) :=
  ⟨cell_of_row _ _ 0 _ _ _ h, cell_of_row _ _ 1 _ _ _ h, cell_of_row _ _ 2 _ _ _ h, cell_of_row _ _ 3 _ _ _ h, cell_of_row _ _ 4 _ _ _ h, cell_of_row _ _ 5 _ _ _ h, cell_of_row _ _ 6 _ _ _ h, cell_of_row _ _ 7 _ _ _ h, cell_of_row _ _ 8 _ _ _ h, cell_of_row _ _ 9 _ _ _ h, cell_of_row _ _ 10 _ _ _ h, cell_of_row _ _ 11 _ _ _ h, cell_of_row _ _ 12 _ _ _ h, cell_of_row _ _ 13 _ _ _ h, cell_of_row _ _ 14 _ _ _ h, cell_of_row _ _ 15 _ _ _ h, cell_of_row _ _ 16 _ _ _ h, cell_of_row _ _ 17 _ _ _ h, cell_of_row _ _ 18 _ _ _ h, cell_of_row _ _ 19 _ _ _ h, cell_of_row _ _ 20 _ _ _ h, cell_of_row _ _ 21 _ _ _ h, cell_of_row _ _ 22 _ _ _ h, cell_of_row _ _ 23 _ _ _ h⟩
set_option maxRecDepth 100000 in
set_option maxHeartbeats 1000000 in
theorem fields_pub (w : World) : Calls Tryz.prog 103 #[.int .u8 3] w fun e w' => e = .returned (.string ⟨#[100, 113, 114, 105, 116, 112]⟩) ∧ Below w.heap.size w w' := by
  go_enter Tryz.func103, Tryz.ntmps103
  go_wp2_with fail
  go_ret
  exact ⟨rfl, low_alloc _ _⟩
theorem has_pub (c : Int) (b : Bool) (hb : hasC c [100, 113, 114, 105, 116, 112] = b) (w : World) : Calls Tryz.prog 108 #[.string ⟨#[100, 113, 114, 105, 116, 112]⟩, .int .u8 c] w fun e w' => e = .returned (.bool b) ∧ w = w' := has3_any _ c b w hb (by decide)
set_option maxRecDepth 100000 in
set_option maxHeartbeats 4000000 in
theorem only_pub (m : Msg) (id : Int) (w : World) : Calls Tryz.prog 104 #[.agg (pubK m id false).cells.toArray] w fun e w' => e = .returned (.agg (pubK m id false).cells.toArray) ∧ Below w.heap.size w w' := by
  have hX := heap_alloc_new w (.cells (pubK m id false).cells.toArray 37)
  have HXO := Lib.hid (fun o => ((low_alloc (w.alloc (.cells (pubK m id false).cells.toArray 37)) o).block w.heap.size (by simp)).trans hX)
  have HRO := Lib.hid (fun o => (by
    have h9 := heap_alloc_new (w.alloc (.cells (pubK m id false).cells.toArray 37)) o
    rwa [World.size_alloc] at h9 : ((w.alloc (.cells (pubK m id false).cells.toArray 37)).alloc o).heap[w.heap.size + 1]? = some o))
  have hx0 := fun o => (pub_cells (HXO.out o)).1
  have HLS := Lib.hid (pk_size (pubK m id false))
  have HF1 := Lib.hid (pk_one (pubK m id false))
  have H24 : Hid ((24 : Nat) = (pubK m id false).cells.toArray.size) := Lib.hid rfl
  have HPC := Lib.hid (fun (X : World) (b : Nat) (h : X.heap[b]? = some (.cells (pubK m id false).cells.toArray 37 (0, 0))) => pub_cells h)
  have HE1 : Hid ((pubK m id false).cells.toArray[1]? = some (.bool false)) := Lib.hid rfl
  have HE3 : Hid ((pubK m id false).cells.toArray[3]? = some (.bool m.r)) := Lib.hid rfl
  have HE7 : Hid ((pubK m id false).cells.toArray[7]? = some (.int .u8 0)) := Lib.hid rfl
  have HE8 : Hid ((pubK m id false).cells.toArray[8]? = some (.bool false)) := Lib.hid rfl
  have HE9 : Hid ((pubK m id false).cells.toArray[9]? = some (.int .u16 0)) := Lib.hid rfl
  have HE10 : Hid ((pubK m id false).cells.toArray[10]? = some (.string ⟨#[]⟩)) := Lib.hid rfl
  have HE11 : Hid ((pubK m id false).cells.toArray[11]? = some (.bool false)) := Lib.hid rfl
  have HE12 : Hid ((pubK m id false).cells.toArray[12]? = some (.string ⟨#[]⟩)) := Lib.hid rfl
  have HE13 : Hid ((pubK m id false).cells.toArray[13]? = some (.string ⟨#[]⟩)) := Lib.hid rfl
  have HE14 : Hid ((pubK m id false).cells.toArray[14]? = some (.int .u8 0)) := Lib.hid rfl
  have HE15 : Hid ((pubK m id false).cells.toArray[15]? = some (.bool false)) := Lib.hid rfl
  have HE16 : Hid ((pubK m id false).cells.toArray[16]? = some (.bool false)) := Lib.hid rfl
  have HE17 : Hid ((pubK m id false).cells.toArray[17]? = some (.bool false)) := Lib.hid rfl
  have HE18 : Hid ((pubK m id false).cells.toArray[18]? = some (.string ⟨#[]⟩)) := Lib.hid rfl
  have HE19 : Hid ((pubK m id false).cells.toArray[19]? = some (.string ⟨#[]⟩)) := Lib.hid rfl
  have HE20 : Hid ((pubK m id false).cells.toArray[20]? = some (.bool false)) := Lib.hid rfl
  have HE21 : Hid ((pubK m id false).cells.toArray[21]? = some (.int .u8 0)) := Lib.hid rfl
  have HE22 : Hid ((pubK m id false).cells.toArray[22]? = some (.slice none 0 0)) := Lib.hid rfl
  have HE23 : Hid ((pubK m id false).cells.toArray[23]? = some (.string ⟨#[]⟩)) := Lib.hid rfl
  clear hX
  obtain ⟨mt, mp, mq, mr⟩ := m
  generalize (pubK ⟨mt, mp, mq, mr⟩ id false).cells = XL at *
  dsimp only at *
  cases mr
  · skip
    go_enter Tryz.func104, Tryz.ntmps104
    go_wp2_with fail
    refine (fields_pub _).mono ?_
    rintro e w2 ⟨rfl, hk⟩
    have HK : Hid (Below w.heap.size w w2) := Lib.hid (((low_alloc w _).alloc (by simp) _).trans (hk.mono (by simp; omega)))
    have HR2 : Hid (∃ cs : Array Value, cs.size = 24 ∧ w2.heap[w.heap.size + 1]? = some (.cells cs 37 (0, 0))) := Lib.hid ⟨_, rfl, (hk.block (w.heap.size + 1) (by simp)).trans (HRO.out _)⟩
    have hX2 := (hk.block w.heap.size (by simp; omega)).trans (HXO.out _)
    have hs2 : w.heap.size + 2 ≤ w2.heap.size := by have := hk.size; simpa using this
    have HX2 := Lib.hid hX2
    have hXA := (Below.heap_alloc w2 (.cells XL.toArray 37) w.heap.size (by omega)).trans hX2
    have hQA := heap_alloc_new w2 (.cells XL.toArray 37)
    have HRA : Hid (∃ cs : Array Value, cs.size = 24 ∧ (w2.alloc (.cells XL.toArray 37)).heap[w.heap.size + 1]? = some (.cells cs 37 (0, 0))) := Lib.hid (by
      obtain ⟨cs, h1, h2⟩ := HR2.out
      exact ⟨cs, h1, (Below.heap_alloc w2 _ (w.heap.size + 1) (by omega)).trans h2⟩)
    have HBA : Hid (Below w.heap.size w (w2.alloc (.cells XL.toArray 37))) := Lib.hid (HK.out.alloc (by omega) _)
    clear hk hX2
    go_upto_region 3 with (first
      | (refine wpList_load_row rfl 37 _ rfl w.heap.size rfl 37 XL.toArray _ _ HX2.out Tryz.underlying37 rfl HLS.out ?_)
      | (refine wpList_store_newTo rfl 37 _ _ rfl rfl w2.heap.size rfl XL.toArray _ rfl rfl HLS.out H24.out HF1.out ?_)
      | fail)
    have HQA := Lib.hid hQA
    obtain ⟨x0, x1, x2, x3, x4, x5, x6, x7, x8, x9, x10, x11, x12, x13, x14, x15, x16, x17, x18, x19, x20, x21, x22, x23⟩ := HPC.out _ _ hXA
    obtain ⟨y0, y1, y2, y3, y4, y5, y6, y7, y8, y9, y10, y11, y12, y13, y14, y15, y16, y17, y18, y19, y20, y21, y22, y23⟩ := HPC.out _ _ hQA
    have fr := fun k => frozen_of_row _ _ k _ _ hQA
    have s1 := setCell_self hQA HE1.out
    have s3 := setCell_self hQA HE3.out
    have s7 := setCell_self hQA HE7.out
    have s8 := setCell_self hQA HE8.out
    have s9 := setCell_self hQA HE9.out
    have s10 := setCell_self hQA HE10.out
    have s11 := setCell_self hQA HE11.out
    have s12 := setCell_self hQA HE12.out
    have s13 := setCell_self hQA HE13.out
    have s14 := setCell_self hQA HE14.out
    have s15 := setCell_self hQA HE15.out
    have s16 := setCell_self hQA HE16.out
    have s17 := setCell_self hQA HE17.out
    have s18 := setCell_self hQA HE18.out
    have s19 := setCell_self hQA HE19.out
    have s20 := setCell_self hQA HE20.out
    have s21 := setCell_self hQA HE21.out
    have s22 := setCell_self hQA HE22.out
    have s23 := setCell_self hQA HE23.out
    generalize w2.heap.size = qb at *
    generalize w2.alloc (.cells XL.toArray 37) = W at *
    clear hXA hQA
    go_wp2_with fail
    refine (has_pub 113 true (by decide) _).mono ?_
    rintro e w3 ⟨rfl, rfl⟩
    go_wp2_with fail
    refine (has_pub 105 true (by decide) _).mono ?_
    rintro e w3 ⟨rfl, rfl⟩
    go_wp2_with fail
    refine (has_pub 116 true (by decide) _).mono ?_
    rintro e w3 ⟨rfl, rfl⟩
    go_wp2_with fail
    refine (has_pub 112 true (by decide) _).mono ?_
    rintro e w3 ⟨rfl, rfl⟩
    go_wp2_with fail
    refine (has_pub 108 false (by decide) _).mono ?_
    rintro e w3 ⟨rfl, rfl⟩
    go_wp2_with fail
    refine (has_pub 111 false (by decide) _).mono ?_
    rintro e w3 ⟨rfl, rfl⟩
    go_wp2_with fail
    refine (has_pub 98 false (by decide) _).mono ?_
    rintro e w3 ⟨rfl, rfl⟩
    go_wp2_with fail
    refine (has_pub 109 false (by decide) _).mono ?_
    rintro e w3 ⟨rfl, rfl⟩
    obtain ⟨RC, hRC, hRA⟩ := HRA.out
    go_wp2_with (first
      | (refine wpList_load_row rfl 37 _ rfl qb rfl 37 XL.toArray _ _ HQA.out Tryz.underlying37 rfl HLS.out ?_)
      | (refine wpList_store_rowTo rfl 37 _ _ rfl rfl (w.heap.size + 1) XL.toArray rfl rfl 37 _ hRA HLS.out (hRC.trans H24.out) HF1.out ?_)
      | fail)
    refine bodyPost_ret (results_cell_row rfl _ _ (w.heap.size + 1) 37 XL.toArray (0, 0) _ rfl (setRow_heap _ _ _ _ _ _ hRA) Tryz.underlying37 rfl HLS.out) rfl ⟨rfl, ?_⟩
    exact setRow_low HBA.out (by omega) _
  · skip
    go_enter Tryz.func104, Tryz.ntmps104
    go_wp2_with fail
    refine (fields_pub _).mono ?_
    rintro e w2 ⟨rfl, hk⟩
    have HK : Hid (Below w.heap.size w w2) := Lib.hid (((low_alloc w _).alloc (by simp) _).trans (hk.mono (by simp; omega)))
    have HR2 : Hid (∃ cs : Array Value, cs.size = 24 ∧ w2.heap[w.heap.size + 1]? = some (.cells cs 37 (0, 0))) := Lib.hid ⟨_, rfl, (hk.block (w.heap.size + 1) (by simp)).trans (HRO.out _)⟩
    have hX2 := (hk.block w.heap.size (by simp; omega)).trans (HXO.out _)
    have hs2 : w.heap.size + 2 ≤ w2.heap.size := by have := hk.size; simpa using this
    have HX2 := Lib.hid hX2
    have hXA := (Below.heap_alloc w2 (.cells XL.toArray 37) w.heap.size (by omega)).trans hX2
    have hQA := heap_alloc_new w2 (.cells XL.toArray 37)
    have HRA : Hid (∃ cs : Array Value, cs.size = 24 ∧ (w2.alloc (.cells XL.toArray 37)).heap[w.heap.size + 1]? = some (.cells cs 37 (0, 0))) := Lib.hid (by
      obtain ⟨cs, h1, h2⟩ := HR2.out
      exact ⟨cs, h1, (Below.heap_alloc w2 _ (w.heap.size + 1) (by omega)).trans h2⟩)
    have HBA : Hid (Below w.heap.size w (w2.alloc (.cells XL.toArray 37))) := Lib.hid (HK.out.alloc (by omega) _)
    clear hk hX2
    go_upto_region 3 with (first
      | (refine wpList_load_row rfl 37 _ rfl w.heap.size rfl 37 XL.toArray _ _ HX2.out Tryz.underlying37 rfl HLS.out ?_)
      | (refine wpList_store_newTo rfl 37 _ _ rfl rfl w2.heap.size rfl XL.toArray _ rfl rfl HLS.out H24.out HF1.out ?_)
      | fail)
    have HQA := Lib.hid hQA
    obtain ⟨x0, x1, x2, x3, x4, x5, x6, x7, x8, x9, x10, x11, x12, x13, x14, x15, x16, x17, x18, x19, x20, x21, x22, x23⟩ := HPC.out _ _ hXA
    obtain ⟨y0, y1, y2, y3, y4, y5, y6, y7, y8, y9, y10, y11, y12, y13, y14, y15, y16, y17, y18, y19, y20, y21, y22, y23⟩ := HPC.out _ _ hQA
    have fr := fun k => frozen_of_row _ _ k _ _ hQA
    have s1 := setCell_self hQA HE1.out
    have s3 := setCell_self hQA HE3.out
    have s7 := setCell_self hQA HE7.out
    have s8 := setCell_self hQA HE8.out
    have s9 := setCell_self hQA HE9.out
    have s10 := setCell_self hQA HE10.out
    have s11 := setCell_self hQA HE11.out
    have s12 := setCell_self hQA HE12.out
    have s13 := setCell_self hQA HE13.out
    have s14 := setCell_self hQA HE14.out
    have s15 := setCell_self hQA HE15.out
    have s16 := setCell_self hQA HE16.out
    have s17 := setCell_self hQA HE17.out
    have s18 := setCell_self hQA HE18.out
    have s19 := setCell_self hQA HE19.out
    have s20 := setCell_self hQA HE20.out
    have s21 := setCell_self hQA HE21.out
    have s22 := setCell_self hQA HE22.out
    have s23 := setCell_self hQA HE23.out
    generalize w2.heap.size = qb at *
    generalize w2.alloc (.cells XL.toArray 37) = W at *
    clear hXA hQA
    go_wp2_with fail
    refine (has_pub 114 true (by decide) _).mono ?_
    rintro e w3 ⟨rfl, rfl⟩
    go_wp2_with fail
    refine (has_pub 113 true (by decide) _).mono ?_
    rintro e w3 ⟨rfl, rfl⟩
    go_wp2_with fail
    refine (has_pub 105 true (by decide) _).mono ?_
    rintro e w3 ⟨rfl, rfl⟩
    go_wp2_with fail
    refine (has_pub 116 true (by decide) _).mono ?_
    rintro e w3 ⟨rfl, rfl⟩
    go_wp2_with fail
    refine (has_pub 112 true (by decide) _).mono ?_
    rintro e w3 ⟨rfl, rfl⟩
    go_wp2_with fail
    refine (has_pub 108 false (by decide) _).mono ?_
    rintro e w3 ⟨rfl, rfl⟩
    go_wp2_with fail
    refine (has_pub 111 false (by decide) _).mono ?_
    rintro e w3 ⟨rfl, rfl⟩
    go_wp2_with fail
    refine (has_pub 98 false (by decide) _).mono ?_
    rintro e w3 ⟨rfl, rfl⟩
    go_wp2_with fail
    refine (has_pub 109 false (by decide) _).mono ?_
    rintro e w3 ⟨rfl, rfl⟩
    obtain ⟨RC, hRC, hRA⟩ := HRA.out
    go_wp2_with (first
      | (refine wpList_load_row rfl 37 _ rfl qb rfl 37 XL.toArray _ _ HQA.out Tryz.underlying37 rfl HLS.out ?_)
      | (refine wpList_store_rowTo rfl 37 _ _ rfl rfl (w.heap.size + 1) XL.toArray rfl rfl 37 _ hRA HLS.out (hRC.trans H24.out) HF1.out ?_)
      | fail)
    refine bodyPost_ret (results_cell_row rfl _ _ (w.heap.size + 1) 37 XL.toArray (0, 0) _ rfl (setRow_heap _ _ _ _ _ _ hRA) Tryz.underlying37 rfl HLS.out) rfl ⟨rfl, ?_⟩
    exact setRow_low HBA.out (by omega) _
set_option maxRecDepth 100000 in
set_option maxHeartbeats 2000000 in
theorem lists_pub (m : Msg) (id : Int) (w : World) : Calls Tryz.prog 105 #[.agg (pubK m id false).cells.toArray] w fun e w' => e = .returned (.bool true) ∧ Below w.heap.size w w' := by
  have hX := heap_alloc_new w (.cells (pubK m id false).cells.toArray 37)
  have HB := Lib.hid (low_alloc w (.cells (pubK m id false).cells.toArray 37))
  obtain ⟨x0, -, -, -, -, -, -, -, -, -, -, -, -, -, -, -, -, -, -, -, -, -, x22, x23⟩ := pub_cells hX
  clear hX
  generalize (pubK m id false).cells = XL at *
  go_enter Tryz.func105, Tryz.ntmps105
  go_upto_region 2 with fail
  generalize w.alloc (.cells XL.toArray 37) = W at *
  go_loopw [3] (fun i wr => i = .int .i64 0 ∧ W = wr) (fun _ _ => 0)
  case atStart => exact ⟨rfl, rfl⟩
  case round =>
    obtain ⟨rfl, rfl⟩ := hrel
    go_wp2_with fail
    go_loopw [4] (fun i wr => i = .int .i64 0 ∧ W = wr) (fun _ _ => 0)
    case atStart => exact ⟨rfl, rfl⟩
    case round =>
      obtain ⟨rfl, rfl⟩ := hrel
      go_wp2_with fail
      go_ret
      exact ⟨rfl, HB.out⟩
set_option maxRecDepth 100000 in
set_option maxHeartbeats 2000000 in
theorem rest3_pub (m : Msg) (id : Int) (w : World) (hs : m.t.size + m.p.size ≤ 200000000) : Calls Tryz.prog 109 #[.agg (pubK m id false).cells.toArray] w fun e w' => ∃ n : Int, e = .returned (.int .i64 n) ∧ n ≤ 268435455 ∧ Below w.heap.size w w' := by
  have hX := heap_alloc_new w (.cells (pubK m id false).cells.toArray 37)
  have HB := Lib.hid (low_alloc w (.cells (pubK m id false).cells.toArray 37))
  obtain ⟨x0, -, -, -, x4, x5, x6, -, -, -, -, -, -, -, -, -, -, -, -, -, -, -, x22, x23⟩ := pub_cells hX
  clear hX
  generalize (pubK m id false).cells = XL at *
  have hw0 : IntKind.i64.wrap ((m.p.size : Int)) = (m.p.size : Int) := w_i64 _ (by omega) (by omega)
  have hw1 : IntKind.i64.wrap ((m.p.size : Int) + 2) = (m.p.size : Int) + 2 := w_i64 _ (by omega) (by omega)
  have hw3 : IntKind.i64.wrap ((m.p.size : Int) + 2 + m.t.size) = (m.p.size : Int) + 2 + m.t.size := w_i64 _ (by omega) (by omega)
  have hw5 : IntKind.i64.wrap ((m.p.size : Int) + 2 + 2) = (m.p.size : Int) + 2 + 2 := w_i64 _ (by omega) (by omega)
  have hw6 : IntKind.i64.wrap ((m.p.size : Int) + 2 + 2 + m.t.size) = (m.p.size : Int) + 2 + 2 + m.t.size := w_i64 _ (by omega) (by omega)
  have HSZ := Lib.hid hs
  clear hs
  by_cases h0 : 0 < id
  · skip
    go_enter Tryz.func109, Tryz.ntmps109
    go_upto_region 5 with fail
    generalize w.alloc (.cells XL.toArray 37) = W at *
    go_loopw [3, 4] (fun n i wr => n = .int .i64 (m.p.size + 2) ∧ i = .int .i64 0 ∧ W = wr) (fun _ _ _ => 0)
    case atStart => exact ⟨rfl, rfl, rfl⟩
    case round =>
      obtain ⟨rfl, rfl, rfl⟩ := hrel
      go_wp2_with fail
      go_ret
      exact ⟨_, rfl, by have := HSZ.out; omega, HB.out⟩
  · skip
    go_enter Tryz.func109, Tryz.ntmps109
    go_upto_region 5 with fail
    generalize w.alloc (.cells XL.toArray 37) = W at *
    go_loopw [3, 4] (fun n i wr => n = .int .i64 m.p.size ∧ i = .int .i64 0 ∧ W = wr) (fun _ _ _ => 0)
    case atStart => exact ⟨rfl, rfl, rfl⟩
    case round =>
      obtain ⟨rfl, rfl, rfl⟩ := hrel
      go_wp2_with fail
      go_ret
      exact ⟨_, rfl, by have := HSZ.out; omega, HB.out⟩
set_option maxRecDepth 100000 in
set_option maxHeartbeats 4000000 in
theorem dsame_any (x : Pkt) (w : World) (hs : x.subs = []) : Calls Tryz.prog 77 #[.agg x.cells.toArray, .agg x.cells.toArray] w fun e w' => e = .returned (.bool true) ∧ Below w.heap.size w w' := by
  have HB : Hid (Below w.heap.size w ((w.alloc (.cells x.cells.toArray 37)).alloc (.cells x.cells.toArray 37))) := Lib.hid (((Below.refl _ _).alloc (Nat.le_refl _) _).alloc (by simp) _)
  have hA : ((w.alloc (.cells x.cells.toArray 37)).alloc (.cells x.cells.toArray 37)).heap[w.heap.size]? = some (.cells x.cells.toArray 37 (0, 0)) := (Below.heap_alloc _ _ _ (by simp)).trans (heap_alloc_new w _)
  have hB : ((w.alloc (.cells x.cells.toArray 37)).alloc (.cells x.cells.toArray 37)).heap[w.heap.size + 1]? = some (.cells x.cells.toArray 37 (0, 0)) := by
    have := heap_alloc_new (w.alloc (.cells x.cells.toArray 37)) (.cells x.cells.toArray 37)
    rwa [show (w.alloc (.cells x.cells.toArray 37)).heap.size = w.heap.size + 1 by simp] at this
  obtain ⟨a0, a1, a2, a3, a4, a5, a6⟩ := pk_cells hA
  obtain ⟨b0, b1, b2, b3, b4, b5, b6⟩ := pk_cells hB
  obtain ⟨a7, a8, a9, a10, a11, a12, a13, a14, a15, a16, a17, a18, a19, a20, a21, a22, a23⟩ := pk_cells2 hA
  obtain ⟨b7, b8, b9, b10, b11, b12, b13, b14, b15, b16, b17, b18, b19, b20, b21, b22, b23⟩ := pk_cells2 hB
  rw [hs] at a22 b22
  have hcmp := fun w => mneq_same x.will.t x.will.p x.will.q x.will.r w
  clear hA hB hs
  generalize x.cells.toArray = PC at *
  go_enter Tryz.func77, Tryz.ntmps77
  go_upto_region 1 with fail
  generalize (w.alloc (.cells PC 37)).alloc (.cells PC 37) = W at *
  clear hcmp
  go_wp2_with fail
  go_loopw [5] (fun i wr => i = .int .i64 0 ∧ W = wr) (fun _ _ => 0)
  case atStart => exact ⟨rfl, rfl⟩
  case round =>
    obtain ⟨rfl, rfl⟩ := hrel
    go_wp2_with fail
    go_ret
    exact ⟨rfl, HB.out⟩
end
section
open Go Go.RowKit

set_option maxRecDepth 100000 in
set_option maxHeartbeats 4000000 in
theorem right3_pub (m : Msg) (w : World) (hs : m.t.size + m.p.size ≤ 200000000) (hq0 : 0 ≤ m.q) : Calls Tryz.prog 74 #[.agg (pubK m (idOf m) false).cells.toArray] w fun e w' => e = .returned (.bool (mayP m)) ∧ Below w.heap.size w w' := by
  have hX := heap_alloc_new w (.cells (pubK m (idOf m) false).cells.toArray 37)
  have hbb := low_alloc w (.cells (pubK m (idOf m) false).cells.toArray 37)
  have HMP : Hid (mayP m = (nameB m.t.data.toList && decide (m.q ≤ 2))) := Lib.hid rfl
  have HNM := Lib.hid (fun X => name3_any m.t X (by omega))
  have HON := Lib.hid (fun X => only_pub m (idOf m) X)
  have HSA := Lib.hid (fun X => dsame_any (pubK m (idOf m) false) X rfl)
  have HLI := Lib.hid (fun X => lists_pub m (idOf m) X)
  have HRE := Lib.hid (fun X => rest3_pub m (idOf m) X hs)
  have hid0 : (¬ 0 < m.q → idOf m = 0) ∧ (0 < m.q → idOf m = 1) := by unfold idOf; constructor <;> intro h <;> simp [h]
  have HLS := Lib.hid (pk_size' (pubK m (idOf m) false))
  obtain ⟨W, hW⟩ : ∃ W, w.alloc (.cells (pubK m (idOf m) false).cells.toArray 37) = W := ⟨_, rfl⟩
  have hWs : W.heap.size = w.heap.size + 1 := by rw [← hW]; simp
  rw [hW] at hX hbb
  have HBW := Lib.hid hbb
  have HS : Hid (∀ X, Below W.heap.size W X → X.rangeAt w.heap.size 0 (pubK m (idOf m) false).cells ∧ X.cell? ⟨w.heap.size, 2, none⟩ = some (.int .u8 m.q) ∧ X.cell? ⟨w.heap.size, 0, none⟩ = some (.int .u8 3) ∧ X.cell? ⟨w.heap.size, 1, none⟩ = some (.bool false) ∧ X.cell? ⟨w.heap.size, 4, none⟩ = some (.int .u16 (idOf m)) ∧ X.cell? ⟨w.heap.size, 5, none⟩ = some (.string m.t)) := Lib.hid (fun X h => by
    have h1 := (h.block w.heap.size (by omega)).trans hX
    obtain ⟨x0, x1, x2, -, x4, x5, -⟩ := pub_cells h1
    exact ⟨range_blk h1, x2, x0, x1, x4, x5⟩)
  have HLB : Hid (∀ X, Below W.heap.size W X → X.heap[w.heap.size]? = some (.cells (pubK m (idOf m) false).cells.toArray 37 (0, 0))) := Lib.hid (fun X h => (h.block w.heap.size (by omega)).trans hX)
  obtain ⟨-, z2, z0, z1, z4, z5⟩ := HS.out W (Below.refl _ _)
  have HLS2 := Lib.hid (pk_size (pubK m (idOf m) false))
  generalize (pubK m (idOf m) false).cells = XL at *
  generalize hix : idOf m = ix at *
  obtain ⟨v, hv⟩ : ∃ v, nameB m.t.data.toList = v := ⟨_, rfl⟩
  rw [hv] at HMP HNM
  have HWS := Lib.hid hWs
  clear hX hbb hix hv hs hWs
  go_enter Tryz.func74, Tryz.ntmps74
  try rw [hW]
  go_wp2_with fail
  refine (fields_pub _).mono ?_
  rintro e w1 ⟨rfl, hk⟩
  try rw [hW] at hk
  clear hW
  have HB1 : Hid (Below W.heap.size W w1) := Lib.hid hk
  clear hk z2 z0 z1 z4 z5
  go_upto_region 2 with fail
  refine wp_region_held_drew (S := fun X => X.rangeAt w.heap.size 0 XL ∧ X.cell? ⟨w.heap.size, 2, none⟩ = some (.int .u8 m.q) ∧ X.cell? ⟨w.heap.size, 0, none⟩ = some (.int .u8 3) ∧ X.cell? ⟨w.heap.size, 1, none⟩ = some (.bool false) ∧ X.cell? ⟨w.heap.size, 4, none⟩ = some (.int .u16 ix) ∧ X.cell? ⟨w.heap.size, 5, none⟩ = some (.string m.t)) (by kernel_rfl) (HS.out _ (by first | exact HB1.out | exact HB1.out.drew)) (fun hHeld => ?_)
  refine tk 0 (v := ?_) ?_ hHeld ?_; rotate_left; · (intro w0 hS0; (try dsimp only at hS0); go_simp; try with_reducible rfl)
  simp only [tks]
  refine tk 1 (v := ?_) ?_ hHeld ?_; rotate_left; · (intro w0 hS0; (try dsimp only at hS0); go_simp; try with_reducible rfl)
  simp only [tks]
  refine tk 2 (v := ?_) ?_ hHeld ?_; rotate_left; · (intro w0 hS0; (try dsimp only at hS0); go_simp; try with_reducible rfl)
  simp only [tks]
  refine wpAnyH_take (i := 3) (v := .agg XL.toArray) rfl (by kernel_rfl) (by kernel_rfl) (by kernel_rfl) (fun _ _ _ h => h) (Or.inl ⟨rfl, ?_⟩) hHeld ?_
  · intro w0 hS0
    exact exec_load_row rfl rfl hS0.1 Tryz.underlying37 rfl HLS.out
  simp only [List.getElem_toArray, List.getElem_cons_zero, List.getElem_cons_succ, Act.put, List.setIfInBounds_toArray, List.set_cons_zero, List.set_cons_succ]
  refine wpAnyH_take (i := 4) (v := .agg XL.toArray) rfl (by kernel_rfl) (by kernel_rfl) (by kernel_rfl) (fun _ _ _ h => h) (Or.inl ⟨rfl, ?_⟩) hHeld ?_
  · intro w0 hS0
    exact exec_load_row rfl rfl hS0.1 Tryz.underlying37 rfl HLS.out
  simp only [List.getElem_toArray, List.getElem_cons_zero, List.getElem_cons_succ, Act.put, List.setIfInBounds_toArray, List.set_cons_zero, List.set_cons_succ]
  refine wpAnyH_ready (rs := [5]) (by kernel_rfl) (by simp) ?_
  refine AllReadyH.cons rfl (fun K hK => ?_) AllReadyH.nil
  rw [if_pos (by rfl)]
  go_simp
  go_at_call 104
  refine (HON.out _).mono ?_
  rintro e w2 ⟨rfl, hk⟩
  have HB2 : Hid (Below W.heap.size W w2) := Lib.hid (HB1.out.drew.trans (hk.mono HB1.out.size))
  clear hk hHeld
  refine hK.out _ _ (HS.out _ HB2.out) (fun hHeld => ?_)
  refine wpAnyH_ready (rs := [6]) (by kernel_rfl) (by simp) ?_
  refine AllReadyH.cons rfl (fun K hK => ?_) AllReadyH.nil
  rw [if_pos (by rfl)]
  go_simp
  go_at_call 77
  refine (HSA.out _).mono ?_
  rintro e w3 ⟨rfl, hk⟩
  have HB3 : Hid (Below W.heap.size W w3) := Lib.hid (HB2.out.trans (hk.mono HB2.out.size))
  clear hk hHeld
  refine hK.out _ _ (HS.out _ HB3.out) (fun hHeld => ?_)
  refine tk 7 (v := ?_) ?_ hHeld ?_; rotate_left; · (intro w0 hS0; (try dsimp only at hS0); go_simp; try with_reducible rfl)
  simp only [tks]
  refine tk 8 (v := ?_) ?_ hHeld ?_; rotate_left; · (intro w0 hS0; (try dsimp only at hS0); go_simp; try with_reducible rfl)
  simp only [tks]
  refine tk 9 (v := ?_) ?_ hHeld ?_; rotate_left; · (intro w0 hS0; (try dsimp only at hS0); go_simp; try with_reducible rfl)
  simp only [tks]
  refine wpAnyH_take (i := 10) (v := .agg XL.toArray) rfl (by kernel_rfl) (by kernel_rfl) (by kernel_rfl) (fun _ _ _ h => h) (Or.inl ⟨rfl, ?_⟩) hHeld ?_
  · intro w0 hS0
    exact exec_load_row rfl rfl hS0.1 Tryz.underlying37 rfl HLS.out
  simp only [List.getElem_toArray, List.getElem_cons_zero, List.getElem_cons_succ, Act.put, List.setIfInBounds_toArray, List.set_cons_zero, List.set_cons_succ]
  refine wpAnyH_ready (rs := [11]) (by kernel_rfl) (by simp) ?_
  refine AllReadyH.cons rfl (fun K hK => ?_) AllReadyH.nil
  rw [if_pos (by rfl)]
  go_simp
  go_at_call 105
  refine (HLI.out _).mono ?_
  rintro e w4 ⟨rfl, hk⟩
  have HB4 : Hid (Below W.heap.size W w4) := Lib.hid (HB3.out.trans (hk.mono HB3.out.size))
  clear hk hHeld
  refine hK.out _ _ (HS.out _ HB4.out) (fun hHeld => ?_)
  obtain ⟨h2, z2, z0, z1, z4, z5⟩ := HS.out _ HB4.out
  by_cases hq2 : m.q ≤ 2
  · have HQ2 : Hid (decide (m.q ≤ 2) = true) := Lib.hid (decide_eq_true hq2)
    have hq2' : ¬ 2 < m.q := by omega
    rw [HQ2.out, Bool.and_true] at HMP
    clear h2 hq2
    refine tk 12 (v := ?_) ?_ hHeld ?_; rotate_left; · (intro w0 hS0; (try dsimp only at hS0); go_simp; try with_reducible rfl)
    simp only [tks]
    refine tk 13 (v := ?_) ?_ hHeld ?_; rotate_left; · (intro w0 hS0; (try dsimp only at hS0); go_simp; try with_reducible rfl)
    simp only [tks]
    refine tk 14 (v := ?_) ?_ hHeld ?_; rotate_left; · (intro w0 hS0; (try dsimp only at hS0); go_simp; try with_reducible rfl)
    simp only [tks]
    refine tk 15 (v := ?_) ?_ hHeld ?_; rotate_left; · (intro w0 hS0; (try dsimp only at hS0); go_simp; try with_reducible rfl)
    simp only [tks]
    refine tk 16 (v := ?_) ?_ hHeld ?_; rotate_left; · (intro w0 hS0; (try dsimp only at hS0); go_simp; try with_reducible rfl)
    simp only [tks]
    refine tk 17 (v := ?_) ?_ hHeld ?_; rotate_left; · (intro w0 hS0; (try dsimp only at hS0); go_simp; try with_reducible rfl)
    simp only [tks]
    refine tk 18 (v := ?_) ?_ hHeld ?_; rotate_left; · (intro w0 hS0; (try dsimp only at hS0); go_simp; try with_reducible rfl)
    simp only [tks]
    refine wpAnyH_done (by kernel_rfl) ?_ _
    clear hHeld
    go_wp2_with fail
    refine (HNM.out _).mono ?_
    rintro e w5 ⟨rfl, hk⟩
    have HB5 : Hid (Below W.heap.size W w5) := Lib.hid (HB4.out.trans (hk.mono HB4.out.size))
    have HX5 := Lib.hid (HLB.out _ HB5.out)
    clear hk z2 z0 z1 z4 z5
    obtain ⟨-, z2, z0, z1, z4, z5⟩ := HS.out _ HB5.out
    cases v with
    | false =>
      go_wp2_with fail
      go_ret
      exact ⟨by rw [HMP.out]; rfl, HBW.out.trans (HB5.out.mono (by have := HWS.out; omega))⟩
    | true =>
      by_cases h0 : 0 < m.q
      · obtain rfl : ix = 1 := hid0.2 (by omega)
        have h00 : (m.q == 0) = false := by rw [beq_eq_false_iff_ne]; omega
        clear hid0
        go_upto_region 11 with fail
        clear z2 z0 z1 z4 z5 h0 h00 hq0 hq2'
        go_wp2_with (first
          | (refine wpList_load_row rfl 37 _ rfl w.heap.size rfl 37 XL.toArray _ _ HX5.out Tryz.underlying37 rfl HLS2.out ?_)
          | fail)
        refine (HRE.out _).mono ?_
        rintro e w6 ⟨n, rfl, hn, hk⟩
        have HB6 : Hid (Below W.heap.size W w6) := Lib.hid (HB5.out.trans (hk.mono HB5.out.size))
        clear hk
        go_wp2_with fail
        go_ret
        exact ⟨by rw [HMP.out]; rfl, HBW.out.trans (HB6.out.mono (by have := HWS.out; omega))⟩
      · obtain rfl : ix = 0 := hid0.1 (by omega)
        have h00 : (m.q == 0) = true := by rw [beq_iff_eq]; omega
        clear hid0
        go_upto_region 11 with fail
        clear z2 z0 z1 z4 z5 h0 h00 hq0 hq2'
        go_wp2_with (first
          | (refine wpList_load_row rfl 37 _ rfl w.heap.size rfl 37 XL.toArray _ _ HX5.out Tryz.underlying37 rfl HLS2.out ?_)
          | fail)
        refine (HRE.out _).mono ?_
        rintro e w6 ⟨n, rfl, hn, hk⟩
        have HB6 : Hid (Below W.heap.size W w6) := Lib.hid (HB5.out.trans (hk.mono HB5.out.size))
        clear hk
        go_wp2_with fail
        go_ret
        exact ⟨by rw [HMP.out]; rfl, HBW.out.trans (HB6.out.mono (by have := HWS.out; omega))⟩
  · have HQ2 : Hid (decide (m.q ≤ 2) = false) := Lib.hid (decide_eq_false hq2)
    have hq2' : 2 < m.q := by omega
    rw [HQ2.out, Bool.and_false] at HMP
    clear h2 hq2 hid0
    refine tk 12 (v := ?_) ?_ hHeld ?_; rotate_left; · (intro w0 hS0; (try dsimp only at hS0); go_simp; try with_reducible rfl)
    simp only [tks]
    refine tk 13 (v := ?_) ?_ hHeld ?_; rotate_left; · (intro w0 hS0; (try dsimp only at hS0); go_simp; try with_reducible rfl)
    simp only [tks]
    refine tk 14 (v := ?_) ?_ hHeld ?_; rotate_left; · (intro w0 hS0; (try dsimp only at hS0); go_simp; try with_reducible rfl)
    simp only [tks]
    refine tk 15 (v := ?_) ?_ hHeld ?_; rotate_left; · (intro w0 hS0; (try dsimp only at hS0); go_simp; try with_reducible rfl)
    simp only [tks]
    refine tk 16 (v := ?_) ?_ hHeld ?_; rotate_left; · (intro w0 hS0; (try dsimp only at hS0); go_simp; try with_reducible rfl)
    simp only [tks]
    refine tk 17 (v := ?_) ?_ hHeld ?_; rotate_left; · (intro w0 hS0; (try dsimp only at hS0); go_simp; try with_reducible rfl)
    simp only [tks]
    refine tk 18 (v := ?_) ?_ hHeld ?_; rotate_left; · (intro w0 hS0; (try dsimp only at hS0); go_simp; try with_reducible rfl)
    simp only [tks]
    refine wpAnyH_done (by kernel_rfl) ?_ _
    clear hHeld
    go_wp2_with fail
    go_ret
    exact ⟨by rw [HMP.out]; rfl, HBW.out.trans (HB4.out.mono (by have := HWS.out; omega))⟩
end
section
open Go Go.RowKit

set_option maxRecDepth 100000 in
set_option maxHeartbeats 2000000 in
theorem dput_any (t : Nat) (win most : Int) (o : OT) (F : List Nat) (m : Msg) (w : World) (h : DTRep w t win most o F) (hs : m.t.size + m.p.size ≤ 200000000) (hq0 : 0 ≤ m.q) :
    Calls Tryz.prog 39 #[.pointer (some ⟨t, 0, none⟩), m.val] w fun e w' => e = .returned (.bool (putO most m o).1) ∧ ∃ F', DTRep w' t win most (putO most m o).2 F' ∧ Upd F F' w w' := by
  have hb := low_alloc w (.cells m.cells.toArray 34)
  have hg := heap_alloc_new w (.cells m.cells.toArray 34)
  obtain ⟨W, hW⟩ : ∃ W, w.alloc (.cells m.cells.toArray 34) = W := ⟨_, rfl⟩
  rw [hW] at hb hg
  have hsz : W.heap.size = w.heap.size + 1 := by rw [← hW]; simp
  have h1 := h.below hb
  have hnew : w.heap.size ∉ F := fun hk => by have := h.lt _ hk; omega
  have HOR := Lib.hid h1
  obtain ⟨q, v, FQ, hp, hr, hw1, hw2, hwk, rfl⟩ := h1
  have hS : ∀ X : World, X.heap[t]? = W.heap[t]? → X.heap[w.heap.size]? = W.heap[w.heap.size]? → X.cell? ⟨t, 0, none⟩ = some (.pointer (some ⟨q, 0, none⟩)) ∧ X.rangeAt w.heap.size 0 m.cells := fun X e1 e2 => ⟨cell_of_row X t 0 _ _ _ (e1.trans hp.hd), range_blk (e2.trans hg)⟩
  have htl := hp.ltt
  have hqt : t ∉ FQ := hp.tq
  have hqn : w.heap.size ∉ FQ := fun hk => hnew (mem_dtFoot.2 (.inr (.inl hk)))
  have HS := Lib.hid hS
  have HP := Lib.hid hp
  have HR := Lib.hid hr
  have HWK := Lib.hid hwk
  have HB := Lib.hid hb
  have HLM : Hid ((Tryz.prog.info? 34).map (·.size) = some m.cells.length) := Lib.hid (by kernel_rfl)
  have HRT := Lib.hid (fun X => right3_pub m X hs hq0)
  have g2 : W.cell? ⟨w.heap.size, 2, none⟩ = some (.int .u8 m.q) := cell_of_row _ _ 2 _ _ _ hg
  have hWW : (w.alloc (.cells #[.string m.t, .string m.p, .int .u8 m.q, .bool m.r] 34)) = W := hW
  have HMV : Hid (m.cells.toArray = #[.string m.t, .string m.p, .int .u8 m.q, .bool m.r]) := Lib.hid rfl
  obtain ⟨b, hb2⟩ : ∃ b, mayP m = b := ⟨_, rfl⟩
  have HBM := Lib.hid hb2
  have HI0 : Hid (¬ 0 < m.q → (0 : Int) = idOf m) := Lib.hid (fun h => by unfold idOf; rw [if_neg h])
  have HI1 : Hid (0 < m.q → (1 : Int) = idOf m) := Lib.hid (fun h => by unfold idOf; rw [if_pos h])
  clear hS hp hr hwk hb hg hW h hb2 hnew
  unfold Msg.val
  by_cases h0 : 0 < m.q
  · have HIX := Lib.hid (HI1.out h0)
    clear HI0 HI1
    go_enter Tryz.func39, Tryz.ntmps39
    go_upto_region 4 with fail
    refine wp_region_held_drew (S := fun X => X.cell? ⟨t, 0, none⟩ = some (.pointer (some ⟨q, 0, none⟩)) ∧ X.rangeAt w.heap.size 0 m.cells) (by kernel_rfl) (HS.out _ rfl rfl) (fun hHeld => ?_)
    refine wpAnyH_take (i := 0) (v := .agg m.cells.toArray) rfl (by kernel_rfl) (by kernel_rfl) (by kernel_rfl) (fun _ _ _ h => h) (Or.inl ⟨rfl, ?_⟩) hHeld ?_
    · intro w0 hS0
      exact exec_load_row rfl rfl hS0.2 Tryz.underlying34 rfl HLM.out
    simp only [List.getElem_toArray, List.getElem_cons_zero, Act.put, List.setIfInBounds_toArray, List.set_cons_zero, List.set_cons_succ]
    refine tk 1 (v := ?_) ?_ hHeld ?_; rotate_left; · (intro w0 hS0; (try dsimp only at hS0); go_simp; try with_reducible rfl)
    simp only [tks]
    refine wpAnyH_ready (rs := [2]) (by kernel_rfl) (by simp) ?_
    refine AllReadyH.cons rfl (fun K hK => ?_) AllReadyH.nil
    rw [if_pos (by rfl)]
    go_simp
    go_at_call 75
    refine (one13_any m 1 _).mono ?_
    rintro e w1 ⟨rfl, hk⟩
    rw [HIX.out]
    have HB1 : Hid (Below W.heap.size W w1) := Lib.hid (((Below.refl _ _).drew).trans hk)
    refine hK.out _ _ (HS.out _ (HB1.out.block t htl) (HB1.out.block w.heap.size (by omega))) (fun hHeld => ?_)
    clear hk
    refine wpAnyH_ready (rs := [3]) (by kernel_rfl) (by simp) ?_
    refine AllReadyH.cons rfl (fun K hK => ?_) AllReadyH.nil
    rw [if_pos (by rfl)]
    go_simp
    go_at_call 74
    refine (HRT.out _).mono ?_
    rintro e w2 ⟨rfl, hk⟩
    have HB2 : Hid (Below W.heap.size W w2) := Lib.hid (HB1.out.trans (hk.mono HB1.out.size))
    rw [HBM.out]
    refine hK.out _ _ (HS.out _ (HB2.out.block t htl) (HB2.out.block w.heap.size (by omega))) (fun hHeld => ?_)
    clear hk
    cases b with
    | false =>
      refine tk 4 (v := ?_) ?_ hHeld ?_; rotate_left; · (intro w0 hS0; (try dsimp only at hS0); go_simp; try with_reducible rfl)
      simp only [tks]
      refine tsk 5 hHeld ?_
      simp only [tks]
      refine tsk 6 hHeld ?_
      simp only [tks]
      refine tsk 7 hHeld ?_
      simp only [tks]
      refine tsk 8 hHeld ?_
      simp only [tks]
      refine tsk 9 hHeld ?_
      simp only [tks]
      refine tsk 10 hHeld ?_
      simp only [tks]
      refine tk 11 (v := ?_) ?_ hHeld ?_; rotate_left; · (intro w0 hS0; (try dsimp only at hS0); go_simp; try with_reducible rfl)
      simp only [tks]
      refine tk 12 (v := ?_) ?_ hHeld ?_; rotate_left; · (intro w0 hS0; (try dsimp only at hS0); go_simp; try with_reducible rfl)
      simp only [tks]
      refine wpAnyH_done (by kernel_rfl) ?_ _
      clear hHeld
      go_wp2_with fail
      go_ret
      rw [putO_no HBM.out]
      exact ⟨rfl, _, HOR.out.below HB2.out, (Upd.of_below (HB.out.trans (HB2.out.mono (by omega))))⟩
    | true =>
      refine tk 4 (v := ?_) ?_ hHeld ?_; rotate_left; · (intro w0 hS0; (try dsimp only at hS0); go_simp; try with_reducible rfl)
      simp only [tks]
      refine tk 5 (v := ?_) ?_ hHeld ?_; rotate_left; · (intro w0 hS0; (try dsimp only at hS0); go_simp; try with_reducible rfl)
      simp only [tks]
      refine tk 6 (v := ?_) ?_ hHeld ?_; rotate_left; · (intro w0 hS0; (try dsimp only at hS0); go_simp; try with_reducible rfl)
      simp only [tks]
      refine tk 7 (v := ?_) ?_ hHeld ?_; rotate_left; · (intro w0 hS0; (try dsimp only at hS0); go_simp; try with_reducible rfl)
      simp only [tks]
      refine tk 8 (v := ?_) ?_ hHeld ?_; rotate_left; · (intro w0 hS0; (try dsimp only at hS0); go_simp; try with_reducible rfl)
      simp only [tks]
      refine wpAnyH_take (i := 9) (v := .agg m.cells.toArray) rfl (by kernel_rfl) (by kernel_rfl) (by kernel_rfl) (fun _ _ _ h => h) (Or.inl ⟨rfl, ?_⟩) hHeld ?_
      · intro w0 hS0
        exact exec_load_row rfl rfl hS0.2 Tryz.underlying34 rfl HLM.out
      simp only [List.getElem_toArray, List.getElem_cons_zero, List.getElem_cons_succ, Act.put, List.setIfInBounds_toArray, List.set_cons_zero, List.set_cons_succ]
      refine wpAnyH_ready (rs := [10]) (by kernel_rfl) (by simp) ?_
      refine AllReadyH.cons rfl (fun K hK => ?_) AllReadyH.nil
      rw [if_pos (by rfl)]
      go_simp
      go_at_call 76
      have hp2 := HP.out.below HB2.out
      refine (rpush_u _ q o.wait most FQ m w2 hp2.queue rfl).mono ?_
      rintro e w3 ⟨rfl, FQ', hq3, hu3⟩
      obtain ⟨h3, hu⟩ := hp2.turnQ hq3 hu3
      refine hK.out _ _ (HS.out _ ((hu3.1.block t (by have := HB2.out.size; omega) hqt).trans (HB2.out.block t htl)) ((hu3.1.block w.heap.size (by have := HB2.out.size; omega) hqn).trans (HB2.out.block w.heap.size (by omega)))) (fun hHeld => ?_)
      have HH3 := Lib.hid h3
      have HU := Lib.hid (Upd.pre (HB.out.trans (HB2.out.mono (by omega))) hu)
      clear h3 hu hq3 hu3 hp2
      refine tk 11 (v := ?_) ?_ hHeld ?_; rotate_left; · (intro w0 hS0; (try dsimp only at hS0); go_simp; try with_reducible rfl)
      simp only [tks]
      refine tk 12 (v := ?_) ?_ hHeld ?_; rotate_left; · (intro w0 hS0; (try dsimp only at hS0); go_simp; try with_reducible rfl)
      simp only [tks]
      refine wpAnyH_done (by kernel_rfl) ?_ _
      clear hHeld
      go_wp2_with fail
      go_ret
      rw [putO_yes HBM.out]
      exact ⟨rfl, _, ⟨q, v, FQ', HH3.out, HR.out, hw1, hw2, HWK.out.push HBM.out hq0, rfl⟩, HU.out⟩
  · have HIX := Lib.hid (HI0.out h0)
    clear HI0 HI1
    go_enter Tryz.func39, Tryz.ntmps39
    go_upto_region 4 with fail
    refine wp_region_held_drew (S := fun X => X.cell? ⟨t, 0, none⟩ = some (.pointer (some ⟨q, 0, none⟩)) ∧ X.rangeAt w.heap.size 0 m.cells) (by kernel_rfl) (HS.out _ rfl rfl) (fun hHeld => ?_)
    refine wpAnyH_take (i := 0) (v := .agg m.cells.toArray) rfl (by kernel_rfl) (by kernel_rfl) (by kernel_rfl) (fun _ _ _ h => h) (Or.inl ⟨rfl, ?_⟩) hHeld ?_
    · intro w0 hS0
      exact exec_load_row rfl rfl hS0.2 Tryz.underlying34 rfl HLM.out
    simp only [List.getElem_toArray, List.getElem_cons_zero, Act.put, List.setIfInBounds_toArray, List.set_cons_zero, List.set_cons_succ]
    refine tk 1 (v := ?_) ?_ hHeld ?_; rotate_left; · (intro w0 hS0; (try dsimp only at hS0); go_simp; try with_reducible rfl)
    simp only [tks]
    refine wpAnyH_ready (rs := [2]) (by kernel_rfl) (by simp) ?_
    refine AllReadyH.cons rfl (fun K hK => ?_) AllReadyH.nil
    rw [if_pos (by rfl)]
    go_simp
    go_at_call 75
    refine (one13_any m 0 _).mono ?_
    rintro e w1 ⟨rfl, hk⟩
    rw [HIX.out]
    have HB1 : Hid (Below W.heap.size W w1) := Lib.hid (((Below.refl _ _).drew).trans hk)
    refine hK.out _ _ (HS.out _ (HB1.out.block t htl) (HB1.out.block w.heap.size (by omega))) (fun hHeld => ?_)
    clear hk
    refine wpAnyH_ready (rs := [3]) (by kernel_rfl) (by simp) ?_
    refine AllReadyH.cons rfl (fun K hK => ?_) AllReadyH.nil
    rw [if_pos (by rfl)]
    go_simp
    go_at_call 74
    refine (HRT.out _).mono ?_
    rintro e w2 ⟨rfl, hk⟩
    have HB2 : Hid (Below W.heap.size W w2) := Lib.hid (HB1.out.trans (hk.mono HB1.out.size))
    rw [HBM.out]
    refine hK.out _ _ (HS.out _ (HB2.out.block t htl) (HB2.out.block w.heap.size (by omega))) (fun hHeld => ?_)
    clear hk
    cases b with
    | false =>
      refine tk 4 (v := ?_) ?_ hHeld ?_; rotate_left; · (intro w0 hS0; (try dsimp only at hS0); go_simp; try with_reducible rfl)
      simp only [tks]
      refine tsk 5 hHeld ?_
      simp only [tks]
      refine tsk 6 hHeld ?_
      simp only [tks]
      refine tsk 7 hHeld ?_
      simp only [tks]
      refine tsk 8 hHeld ?_
      simp only [tks]
      refine tsk 9 hHeld ?_
      simp only [tks]
      refine tsk 10 hHeld ?_
      simp only [tks]
      refine tk 11 (v := ?_) ?_ hHeld ?_; rotate_left; · (intro w0 hS0; (try dsimp only at hS0); go_simp; try with_reducible rfl)
      simp only [tks]
      refine tk 12 (v := ?_) ?_ hHeld ?_; rotate_left; · (intro w0 hS0; (try dsimp only at hS0); go_simp; try with_reducible rfl)
      simp only [tks]
      refine wpAnyH_done (by kernel_rfl) ?_ _
      clear hHeld
      go_wp2_with fail
      go_ret
      rw [putO_no HBM.out]
      exact ⟨rfl, _, HOR.out.below HB2.out, (Upd.of_below (HB.out.trans (HB2.out.mono (by omega))))⟩
    | true =>
      refine tk 4 (v := ?_) ?_ hHeld ?_; rotate_left; · (intro w0 hS0; (try dsimp only at hS0); go_simp; try with_reducible rfl)
      simp only [tks]
      refine tk 5 (v := ?_) ?_ hHeld ?_; rotate_left; · (intro w0 hS0; (try dsimp only at hS0); go_simp; try with_reducible rfl)
      simp only [tks]
      refine tk 6 (v := ?_) ?_ hHeld ?_; rotate_left; · (intro w0 hS0; (try dsimp only at hS0); go_simp; try with_reducible rfl)
      simp only [tks]
      refine tk 7 (v := ?_) ?_ hHeld ?_; rotate_left; · (intro w0 hS0; (try dsimp only at hS0); go_simp; try with_reducible rfl)
      simp only [tks]
      refine tk 8 (v := ?_) ?_ hHeld ?_; rotate_left; · (intro w0 hS0; (try dsimp only at hS0); go_simp; try with_reducible rfl)
      simp only [tks]
      refine wpAnyH_take (i := 9) (v := .agg m.cells.toArray) rfl (by kernel_rfl) (by kernel_rfl) (by kernel_rfl) (fun _ _ _ h => h) (Or.inl ⟨rfl, ?_⟩) hHeld ?_
      · intro w0 hS0
        exact exec_load_row rfl rfl hS0.2 Tryz.underlying34 rfl HLM.out
      simp only [List.getElem_toArray, List.getElem_cons_zero, List.getElem_cons_succ, Act.put, List.setIfInBounds_toArray, List.set_cons_zero, List.set_cons_succ]
      refine wpAnyH_ready (rs := [10]) (by kernel_rfl) (by simp) ?_
      refine AllReadyH.cons rfl (fun K hK => ?_) AllReadyH.nil
      rw [if_pos (by rfl)]
      go_simp
      go_at_call 76
      have hp2 := HP.out.below HB2.out
      refine (rpush_u _ q o.wait most FQ m w2 hp2.queue rfl).mono ?_
      rintro e w3 ⟨rfl, FQ', hq3, hu3⟩
      obtain ⟨h3, hu⟩ := hp2.turnQ hq3 hu3
      refine hK.out _ _ (HS.out _ ((hu3.1.block t (by have := HB2.out.size; omega) hqt).trans (HB2.out.block t htl)) ((hu3.1.block w.heap.size (by have := HB2.out.size; omega) hqn).trans (HB2.out.block w.heap.size (by omega)))) (fun hHeld => ?_)
      have HH3 := Lib.hid h3
      have HU := Lib.hid (Upd.pre (HB.out.trans (HB2.out.mono (by omega))) hu)
      clear h3 hu hq3 hu3 hp2
      refine tk 11 (v := ?_) ?_ hHeld ?_; rotate_left; · (intro w0 hS0; (try dsimp only at hS0); go_simp; try with_reducible rfl)
      simp only [tks]
      refine tk 12 (v := ?_) ?_ hHeld ?_; rotate_left; · (intro w0 hS0; (try dsimp only at hS0); go_simp; try with_reducible rfl)
      simp only [tks]
      refine wpAnyH_done (by kernel_rfl) ?_ _
      clear hHeld
      go_wp2_with fail
      go_ret
      rw [putO_yes HBM.out]
      exact ⟨rfl, _, ⟨q, v, FQ', HH3.out, HR.out, hw1, hw2, HWK.out.push HBM.out hq0, rfl⟩, HU.out⟩
end
end Go.Proofs.YtmkhagmjpbfieaaGreatDoor
