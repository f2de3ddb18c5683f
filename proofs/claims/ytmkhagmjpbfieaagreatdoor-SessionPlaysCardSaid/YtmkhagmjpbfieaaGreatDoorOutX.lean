/- Messages under way: Resume walked. Messages under way: which has an id (slices.IndexFunc walked at Ack's test). Messages under way: one less (slices.Delete walked at a row of the call's own). Messages under way: a row whose part is set, whose part is taken out. No program in sight but the rows. -/
import Derived.Test.YtmkhagmjpbfieaaGreatDoorPumpR
import Derived.Test.YtmkhagmjpbfieaaGreatDoorOutN
import Derived.Deep.RegionLaw
namespace Go.Proofs.YtmkhagmjpbfieaaGreatDoor
section
open Go Go.RowKit

theorem built_rel (id : Int) : Tryz.prog.built 37 [(0, .int .u8 6), (4, .int .u16 id)] = some (relK id).cells.toArray := by
  kernel_rfl
theorem pub_dup (m : Msg) (id : Int) : (pubK m id false).cells.set 1 (.bool true) = (pubK m id true).cells := rfl
theorem sent_size (x : Sent) : (Tryz.prog.info? 119).map (·.size) = some (sentC x).toArray.size := show _ = some 25 by kernel_rfl
theorem sent_size' (x : Sent) : (Tryz.prog.info? 119).map (·.size) = some (sentC x).length := show _ = some 25 by kernel_rfl
theorem sent_one' (x : Sent) : (sentC x).toArray.all (·.oneCell') = true := by
  rw [Array.all_eq_true_iff_forall_mem]
  intro u hu
  exact sentC_one x u (by simpa using hu)
theorem sent_pk {w : World} {b : Nat} {x : Sent} {T : TypeId} {fr : Nat × Nat} (h : w.heap[b]? = some (.cells (sentC x).toArray T fr)) : w.rangeAt b 0 (pubK x.m x.id false).cells := fun j v hj =>
  range_blk h j v (by
    unfold sentC
    rw [List.getElem?_append_left (List.getElem?_eq_some_iff.1 hj).1]; exact hj)
theorem hrow3 (w : World) (o1 o2 : Obj) (xs : List Value) (T : TypeId) : Row (((w.alloc o1).alloc o2).alloc (.cells xs.toArray T)) (some ⟨w.heap.size + 2, 0, none⟩) xs := by
  have h := row_new ((w.alloc o1).alloc o2) xs T
  rwa [World.size_alloc, World.size_alloc] at h
set_option maxRecDepth 100000 in
set_option maxHeartbeats 4000000 in
theorem resume_any (t : Nat) (win most : Int) (o : OT) (F : List Nat) (w : World) (h : OutRep w t win most o F) :
    Calls Tryz.prog 49 #[.pointer (some ⟨t, 0, none⟩)] w fun e w' => ∃ v, e = .returned v ∧ w'.ownsRow w.heap.size 37 24 v (resumeO o).length (pksV (resumeO o)) ∧ Below w.heap.size w w' := by
  have HN := Lib.hid (onone_any t win most o F w h)
  have hlen : o.row.length ≤ 1024 := by
    obtain ⟨q, p, v, FQ, FP, h, hr, h1, h2, -⟩ := h
    have := hr.len
    omega
  obtain ⟨q, p, rv, FQ, FP, hp, -⟩ := h
  obtain ⟨c0, c1, c2, c3⟩ := hp.cells
  obtain ⟨ra, rc, rfl, -, -, -⟩ := ownsRow_row hp.own
  have HR : Hid (∀ X, Below w.heap.size w X → Row X ra (sentV o.row)) := Lib.hid (fun X hX => by
    obtain ⟨a', c', e, hr, -, -⟩ := ownsRow_row (ownsRow_local hp.own fun k hk => hX.block k (hp.own.lt k hk).2)
    cases e
    exact hr)
  clear hp
  go_enter Tryz.func49, Tryz.ntmps49
  go_wp2_with fail
  refine HN.out.mono ?_
  rintro e w1 ⟨rfl, rfl⟩
  go_wp2_with fail
  go_loopw [3, 14] (fun v i wr => ∃ k : Nat, i = .int .i64 k ∧ k ≤ o.row.length ∧ Below w.heap.size w wr ∧ wr.ownsRow w.heap.size 37 24 v k (pksV ((resumeO o).take k))) (fun _ i _ => (o.row.length - intOf i).toNat)
  case atStart => exact ⟨0, rfl, by omega, Below.refl _ _, by simpa [pksV] using World.ownsRow_nil _ _ _ _⟩
  case round =>
    obtain ⟨k, rfl, hk, hbr, hown⟩ := hrel
    by_cases hlt : k < o.row.length
    · have hk0 : (0 : Int) ≤ k := by omega
      have hkl : (k : Int) < o.row.length := by omega
      obtain ⟨b, off, rfl, hra⟩ := row_mid (mk := sentC) (m := 25) sentC_len (HR.out _ hbr) hlt (by decide)
      have HTK : Hid (pksV ((resumeO o).take (k + 1)) = pksV ((resumeO o).take k) ++ (againK o.row[k]).cells.toArray.toList) := Lib.hid (by
        have : k < (resumeO o).length := by unfold resumeO; simpa using hlt
        rw [List.take_succ_eq_append_getElem this, ← pksV_append]
        simp [pksV, resumeO])
      generalize pksV ((resumeO o).take k) = V at *
      have HAG : Hid (againK o.row[k] = if o.row[k].due = 7 then relK o.row[k].id else pubK o.row[k].m o.row[k].id true) := Lib.hid rfl
      generalize o.row[k] = x at *
      have HRA := Lib.hid hra
      have HOWN := Lib.hid hown
      have HBR := Lib.hid hbr
      obtain ⟨va, vc, rfl, -, -, -⟩ := ownsRow_row hown
      have HSS := Lib.hid (sent_size x)
      have HSS' := Lib.hid (sent_size' x)
      have HS1 := Lib.hid (sent_one' x)
      have H25 : Hid ((25 : Nat) = (sentC x).toArray.size) := Lib.hid rfl
      have HPS := Lib.hid (pk_size (pubK x.m x.id false))
      have HPS' := Lib.hid (pk_size' (pubK x.m x.id false))
      have HP1 := Lib.hid (pk_one (pubK x.m x.id false))
      have H24 : Hid ((24 : Nat) = (pubK x.m x.id false).cells.toArray.size) := Lib.hid rfl
      have hdup := pub_dup x.m x.id
      have HPK : Hid (∀ W : World, (W.alloc (.cells (sentC x).toArray 119)).rangeAt W.heap.size 0 (pubK x.m x.id false).cells) := Lib.hid (fun W => sent_pk (heap_alloc_new W _))
      have HSO : Hid (∀ (W : World) (o : Obj), ((W.alloc (.cells (sentC x).toArray 119)).alloc o).cell? ⟨W.heap.size, 24, none⟩ = some (.int .u8 x.due) ∧ ((W.alloc (.cells (sentC x).toArray 119)).alloc o).cell? ⟨W.heap.size, 4, none⟩ = some (.int .u16 x.id)) := Lib.hid (fun W o => by
        have h1 := (Below.heap_alloc (W.alloc (.cells (sentC x).toArray 119)) o W.heap.size (by simp)).trans (heap_alloc_new W _)
        exact ⟨cell_of_row _ _ 24 _ _ _ h1, cell_of_row _ _ 4 _ _ _ h1⟩)
      have y24 := fun o => (HSO.out wr o).1
      have y4 := fun o => (HSO.out wr o).2
      have HZ1 : Hid ((pubK x.m x.id false).cells[1]? = some (.bool false)) := Lib.hid rfl
      clear hra hown hbr HSO
      by_cases hd : x.due = 7
      · have HAE : Hid (againK x = relK x.id) := Lib.hid (by rw [HAG.out, if_pos hd])
        rw [HAE.out] at HTK
        have HBS := Lib.hid (build_pk (relK x.id))
        have HLS := Lib.hid (pk_size (relK x.id))
        have HX24 : Hid ((relK x.id).cells.toArray.size = 1 * 24) := Lib.hid rfl
        have HX1 : Hid (∀ u ∈ (relK x.id).cells.toArray.toList, u.oneCell' = true) := Lib.hid (by simpa [pksV] using pks_one [relK x.id])
        have HQX : Hid ((pubK x.m x.id true).cells.toArray.size = (relK x.id).cells.toArray.size) := Lib.hid rfl
        have HBU := Lib.hid (fun (_ : Unit) => built_rel x.id)
        have HRS := Lib.hid (pk_size (relK x.id))
        have HR1 := Lib.hid (pk_one (relK x.id))
        generalize sentC x = SL at *
        generalize (pubK x.m x.id false).cells = PL at *
        generalize (relK x.id).cells = XL at *
        generalize (pubK x.m x.id true).cells = QL at *
        have hdd : decide (x.due = 7) = true := decide_eq_true hd
        have hcs : ∀ o : Obj, (wr.alloc o).heap.size = wr.heap.size + 1 := fun o => by simp
        have HNW := Lib.hid (fun (o : Obj) (cs : Array Value) => (by
          have h9 := heap_alloc_new (wr.alloc o) (.cells cs 37)
          rwa [World.size_alloc] at h9 : ((wr.alloc o).alloc (.cells cs 37)).heap[wr.heap.size + 1]? = some (.cells cs 37 (0, 0))))
        have fz := fun o => frozen_of_row _ _ 1 _ _ (HNW.out o PL.toArray)
        have cz : ∀ o, ((wr.alloc o).alloc (.cells PL.toArray 37)).cell? ⟨wr.heap.size + 1, 1, none⟩ = some (.bool false) := fun o => (cell_of_row _ _ 1 _ _ _ (HNW.out o PL.toArray)).trans (by simpa using HZ1.out)
        have HO2 := Lib.hid (fun o o' => ((HOWN.out.alloc o).alloc o'))
        have hbs := HBR.out.size
        clear hcs
        go_upto_region 11 with (first
          | (refine wpList_loadMid rfl 119 _ rfl b (off + k * 25) rfl SL _ HRA.out Tryz.underlying119 rfl HSS'.out _ rfl ?_)
          | (refine wpList_store_newTo rfl 119 _ _ rfl rfl wr.heap.size rfl SL.toArray _ rfl rfl HSS.out H25.out HS1.out ?_)
          | (refine wpList_loadMid rfl 37 _ rfl wr.heap.size 0 rfl PL _ (HPK.out wr) Tryz.underlying37 rfl HPS'.out _ rfl ?_)
          | (refine wpList_store_newTo rfl 37 _ _ rfl rfl (wr.heap.size + 1) (by simp) PL.toArray _ rfl rfl HPS.out H24.out HP1.out ?_)
          | (refine wpList_buildBy rfl 37 _ rfl _ rfl XL.toArray [(0, .int .u8 6), (4, .int .u16 x.id)] (by kernel_rfl) (HBU.out ()) ?_)
          | (refine wpList_store_newTo rfl 37 _ _ rfl rfl (wr.heap.size + 1) (by simp) XL.toArray _ rfl rfl HRS.out HQX.out HR1.out ?_)
          | fail)
        go_wp2_with (first
          | (refine wpList_load_row rfl 37 _ rfl (wr.heap.size + 1) rfl 37 XL.toArray _ _ (HNW.out _ _) Tryz.underlying37 rfl HLS.out ?_)
          | (refine wpList_build1 HBS.out rfl _ rfl rfl _ rfl (wr.heap.size + 2) (by simp) ?_)
          | (at_builtin; refine wpList_appR T_pkt ((HO2.out _ _).alloc (.cells XL.toArray 37)) (hrow3 _ _ _ XL 37) (m := 1) rfl rfl rfl rfl _ rfl (by simpa using HX24.out) (by omega) (by simpa using HX1.out) (by omega) (by omega) (by simp; omega) ?_; intro g cap w6 hown6 hgr6 hg6 hgl6; have HO6 := Lib.hid hown6; have HG6 := Lib.hid hgr6; clear hown6 hgr6 hg6 hgl6; go_frame)
          | fail)
        go_roundw
        case rel =>
          refine ⟨k + 1, by go_num, by omega, (((HBR.out.alloc HBR.out.size _).alloc (by simp; omega) _).alloc (by simp; omega) _).grown HG6.out (by simp; omega) (fun j hj => (HOWN.out.lt j hj).1), ?_⟩
          rw [HTK.out]
          exact HO6.out
        case measure => simp [intOf]; omega
      · have HAE : Hid (againK x = pubK x.m x.id true) := Lib.hid (by rw [HAG.out, if_neg hd])
        rw [HAE.out] at HTK
        have HBS := Lib.hid (build_pk (pubK x.m x.id true))
        have HLS := Lib.hid (pk_size (pubK x.m x.id true))
        have HX24 : Hid ((pubK x.m x.id true).cells.toArray.size = 1 * 24) := Lib.hid rfl
        have HX1 : Hid (∀ u ∈ (pubK x.m x.id true).cells.toArray.toList, u.oneCell' = true) := Lib.hid (by simpa [pksV] using pks_one [pubK x.m x.id true])
        generalize sentC x = SL at *
        generalize (pubK x.m x.id false).cells = PL at *
        generalize (pubK x.m x.id true).cells = XL at *
        have hdd : decide (x.due = 7) = false := decide_eq_false hd
        have hcs : ∀ o : Obj, (wr.alloc o).heap.size = wr.heap.size + 1 := fun o => by simp
        have HNW := Lib.hid (fun (o : Obj) (cs : Array Value) => (by
          have h9 := heap_alloc_new (wr.alloc o) (.cells cs 37)
          rwa [World.size_alloc] at h9 : ((wr.alloc o).alloc (.cells cs 37)).heap[wr.heap.size + 1]? = some (.cells cs 37 (0, 0))))
        have fz := fun o => frozen_of_row _ _ 1 _ _ (HNW.out o PL.toArray)
        have cz : ∀ o, ((wr.alloc o).alloc (.cells PL.toArray 37)).cell? ⟨wr.heap.size + 1, 1, none⟩ = some (.bool false) := fun o => (cell_of_row _ _ 1 _ _ _ (HNW.out o PL.toArray)).trans (by simpa using HZ1.out)
        have HO2 := Lib.hid (fun o o' => ((HOWN.out.alloc o).alloc o'))
        have hbs := HBR.out.size
        clear hcs
        go_upto_region 11 with (first
          | (refine wpList_loadMid rfl 119 _ rfl b (off + k * 25) rfl SL _ HRA.out Tryz.underlying119 rfl HSS'.out _ rfl ?_)
          | (refine wpList_store_newTo rfl 119 _ _ rfl rfl wr.heap.size rfl SL.toArray _ rfl rfl HSS.out H25.out HS1.out ?_)
          | (refine wpList_loadMid rfl 37 _ rfl wr.heap.size 0 rfl PL _ (HPK.out wr) Tryz.underlying37 rfl HPS'.out _ rfl ?_)
          | (refine wpList_store_newTo rfl 37 _ _ rfl rfl (wr.heap.size + 1) (by simp) PL.toArray _ rfl rfl HPS.out H24.out HP1.out ?_)
          | fail)
        go_wp2_with (first
          | (refine wpList_load_row rfl 37 _ rfl (wr.heap.size + 1) rfl 37 XL.toArray _ _ (HNW.out _ _) Tryz.underlying37 rfl HLS.out ?_)
          | (refine wpList_build1 HBS.out rfl _ rfl rfl _ rfl (wr.heap.size + 2) (by simp) ?_)
          | (at_builtin; refine wpList_appR T_pkt ((HO2.out _ _).alloc (.cells XL.toArray 37)) (hrow3 _ _ _ XL 37) (m := 1) rfl rfl rfl rfl _ rfl (by simpa using HX24.out) (by omega) (by simpa using HX1.out) (by omega) (by omega) (by simp; omega) ?_; intro g cap w6 hown6 hgr6 hg6 hgl6; have HO6 := Lib.hid hown6; have HG6 := Lib.hid hgr6; clear hown6 hgr6 hg6 hgl6; go_frame)
          | fail)
        go_roundw
        case rel =>
          refine ⟨k + 1, by go_num, by omega, (((HBR.out.alloc HBR.out.size _).alloc (by simp; omega) _).alloc (by simp; omega) _).grown HG6.out (by simp; omega) (fun j hj => (HOWN.out.lt j hj).1), ?_⟩
          rw [HTK.out]
          exact HO6.out
        case measure => simp [intOf]; omega
    · have hkl : ¬ (k : Int) < o.row.length := by omega
      obtain rfl : k = o.row.length := by omega
      have hlr : (resumeO o).length = o.row.length := by simp [resumeO]
      rw [← hlr, List.take_length] at hown
      have HOWN := Lib.hid hown
      have HBR := Lib.hid hbr
      clear hown hbr hlr
      go_wp2_with fail
      go_ret
      exact ⟨_, rfl, HOWN.out, HBR.out⟩
end
section
open Go Go.RowKit

set_option maxRecDepth 100000 in
theorem ackf_any (x : Sent) (pb : Nat) (id : Int) (w : World) (hp : w.cell? ⟨pb, 4, none⟩ = some (.int .u16 id)) :
    Calls Tryz.prog 84 #[.agg (sentC x).toArray, .pointer (some ⟨pb, 0, none⟩)] w fun e w' => e = .returned (.bool ((x.id : Int) == id)) ∧ Below w.heap.size w w' := by
  have h1 := cell_of_row _ _ 4 _ _ _ (heap_alloc_new w (.cells (sentC x).toArray 119))
  have h4 : (w.alloc (.cells (sentC x).toArray 119)).cell? ⟨w.heap.size, 4, none⟩ = some (.int .u16 x.id) := h1
  have hb := low_alloc w (.cells (sentC x).toArray 119)
  have h5 := (hb.cell (p := ⟨pb, 4, none⟩) (World.block_lt_of_cell? w _ hp)).trans hp
  have HB := Lib.hid hb
  clear h1 hb hp
  generalize (sentC x).toArray = SC at *
  go_enter Tryz.func84, Tryz.ntmps84
  go_wp2_with fail
  go_ret
  exact ⟨rfl, HB.out⟩
def idxI : Option Nat → Int
  | none => -1
  | some k => k
theorem place_hit {id : Int} {l : List Sent} {k : Nat} (hk : k < l.length) (h : (l[k].id : Int) = id) (hb : ∀ j (hj : j < k), (l[j].id : Int) ≠ id) : placeO id l = some k := by
  unfold placeO
  rw [List.findIdx?_eq_some_iff_getElem]
  exact ⟨hk, by simpa using h, fun j hj => by simpa using hb j hj⟩
theorem place_miss {id : Int} {l : List Sent} (h : ∀ j (hj : j < l.length), (l[j].id : Int) ≠ id) : placeO id l = none := by
  unfold placeO
  rw [List.findIdx?_eq_none_iff]
  intro x hx
  obtain ⟨j, hj, rfl⟩ := List.mem_iff_getElem.1 hx
  simpa using h j hj
set_option maxRecDepth 100000 in
set_option maxHeartbeats 2000000 in
theorem index_any (a : Option Addr) (c : Nat) (l : List Sent) (pb : Nat) (id : Int) (w : World) (ha : Row w a (sentV l)) (hn : l.length ≤ 1024) (hp : w.cell? ⟨pb, 4, none⟩ = some (.int .u16 id)) :
    Calls Tryz.prog 83 #[.slice a l.length c, .func (.func 84) #[] #[.pointer (some ⟨pb, 0, none⟩)]] w fun e w' => e = .returned (.int .i64 (idxI (placeO id l))) ∧ Below w.heap.size w w' := by
  have HA : Hid (∀ X, Below w.heap.size w X → Row X a (sentV l)) := Lib.hid (fun X hX => ha.below hX (Nat.le_refl _))
  have HPC : Hid (∀ X, Below w.heap.size w X → X.cell? ⟨pb, 4, none⟩ = some (.int .u16 id)) := Lib.hid (fun X hX => (hX.cell (p := ⟨pb, 4, none⟩) (World.block_lt_of_cell? w _ hp)).trans hp)
  clear ha hp
  go_enter Tryz.func83, Tryz.ntmps83
  go_wp2_with fail
  go_loopw [8] (fun i wr => ∃ k : Nat, i = .int .i64 k ∧ k ≤ l.length ∧ Below w.heap.size w wr ∧ ∀ j (hj : j < k) (hl : j < l.length), (l[j].id : Int) ≠ id) (fun i _ => (l.length - intOf i).toNat)
  case atStart => exact ⟨0, rfl, by omega, Below.refl _ _, fun j hj => by omega⟩
  case round =>
    obtain ⟨k, rfl, hk, hbr, hno⟩ := hrel
    have HNO := Lib.hid hno
    have HBR := Lib.hid hbr
    clear hno
    by_cases hlt : k < l.length
    · have hk0 : (0 : Int) ≤ k := by omega
      have hkl : (k : Int) < l.length := by omega
      obtain ⟨b, off, rfl, hra⟩ := row_mid (mk := sentC) (m := 25) sentC_len (HA.out _ hbr) hlt (by decide)
      have HX : Hid (∀ y : Int, (l[k].id : Int) = y → (y == id) = false → ∀ j (hj : j < k + 1) (hl : j < l.length), (l[j].id : Int) ≠ id) := Lib.hid (fun y hy hyi j hj hl => by
        by_cases e : j = k
        · subst e; rw [hy]; simpa using hyi
        · exact HNO.out j (by omega) hl)
      have HY : Hid (∀ y : Int, (l[k].id : Int) = y → (y == id) = true → placeO id l = some k) := Lib.hid (fun y hy hyi => place_hit hlt (by rw [hy]; simpa using hyi) fun j hj => HNO.out j hj (by omega))
      have HX' := Lib.hid (HX.out _ rfl)
      have HY' := Lib.hid (HY.out _ rfl)
      clear HX HY
      generalize l[k] = x at *
      have HRA := Lib.hid hra
      have HC := Lib.hid (ackf_any x pb id wr (HPC.out _ hbr))
      have HSS' := Lib.hid (sent_size' x)
      have hw1 : IntKind.i64.wrap ((k : Int) + 1) = (k : Int) + 1 := w_i64 _ (by omega) (by omega)
      clear hra hbr
      generalize sentC x = SL at *
      cases hb : ((x.id : Int) == id) with
      | true =>
        rw [hb] at HC
        have HP := Lib.hid (HY'.out hb)
        clear HX' HY' hb
        go_wp2_with (first
          | (refine wpList_loadMid rfl 119 _ rfl b (off + k * 25) rfl SL _ HRA.out Tryz.underlying119 rfl HSS'.out _ rfl ?_)
          | fail)
        refine HC.out.mono ?_
        rintro e w1 ⟨rfl, hk1⟩
        have HB1 := Lib.hid (bnext HBR.out (Nat.le_refl _) hk1)
        clear hk1
        go_wp2_with fail
        go_ret
        exact ⟨by rw [HP.out]; rfl, HB1.out⟩
      | false =>
        rw [hb] at HC
        have HP := Lib.hid (HX'.out hb)
        clear HX' HY' hb
        go_wp2_with (first
          | (refine wpList_loadMid rfl 119 _ rfl b (off + k * 25) rfl SL _ HRA.out Tryz.underlying119 rfl HSS'.out _ rfl ?_)
          | fail)
        refine HC.out.mono ?_
        rintro e w1 ⟨rfl, hk1⟩
        have HB1 := Lib.hid (bnext HBR.out (Nat.le_refl _) hk1)
        clear hk1
        go_wp2_with fail
        go_roundw
        case rel => exact ⟨k + 1, by go_num, by omega, HB1.out, HP.out⟩
        case measure => simp [intOf]; omega
    · have hkl : ¬ (k : Int) < l.length := by omega
      have HM : Hid (placeO id l = none) := Lib.hid (place_miss fun j hj => HNO.out j (by omega) hj)
      clear hbr
      go_wp2_with fail
      go_ret
      exact ⟨by rw [HM.out]; rfl, HBR.out⟩
end
section
open Go Go.RowKit

def layA : List Value → Nat → Array Value → Array Value
  | [], _, cur => cur
  | v :: r, o, cur => layA r (o + 1) (cur.setIfInBounds o v)
theorem layA_size : ∀ (vs : List Value) (o : Nat) (cur : Array Value), (layA vs o cur).size = cur.size
  | [], _, _ => rfl
  | v :: r, o, cur => by unfold layA; rw [layA_size]; simp
theorem layA_take : ∀ (vs : List Value) (o : Nat) (cur : Array Value), o + vs.length ≤ cur.size → (layA vs o cur).toList.take (o + vs.length) = cur.toList.take o ++ vs
  | [], o, cur, _ => by simp [layA]
  | v :: r, o, cur, h => by
    have h0 : o < cur.toList.length := by simp at h ⊢; omega
    have h1 := layA_take r (o + 1) (cur.setIfInBounds o v) (by simp at h ⊢; omega)
    unfold layA
    rw [show o + (v :: r).length = o + 1 + r.length by simp; omega, h1, Array.toList_setIfInBounds, List.set_eq_take_append_cons_drop, if_pos h0]
    have h2 : (cur.toList.take o).length = o := by rw [List.length_take]; omega
    rw [List.take_append, h2, show o + 1 - o = 1 by omega, List.take_of_length_le (by omega)]
    simp
theorem lay_heap (g : Nat) (T : TypeId) : ∀ (vs : List Value) (o : Nat) (cur : Array Value) (w : World), w.heap[g]? = some (.cells cur T (0, 0)) → (w.setCells g o vs).heap[g]? = some (.cells (layA vs o cur) T (0, 0)) ∧ Mod [g] w (w.setCells g o vs)
  | [], _, _, _, h => ⟨h, Mod.refl _ _⟩
  | v :: r, o, cur, w, h => by
    have h1 := heap_setCell_same w g o _ _ v h
    obtain ⟨h2, h3⟩ := lay_heap g T r (o + 1) _ _ h1
    exact ⟨h2, ((Mod.refl _ _).setCell (.inl (by simp)) _).trans h3 (fun _ hk => .inl hk)⟩
theorem erase_sentV (row : List Sent) (k : Nat) : sentV (row.eraseIdx k) = sentV (row.take k) ++ sentV (row.drop (k + 1)) := by
  rw [List.eraseIdx_eq_take_drop_succ, sentV_append]
theorem sentV_take (row : List Sent) (k : Nat) : (sentV row).take (k * 25) = sentV (row.take k) := by
  induction row generalizing k with
  | nil => simp [sentV]
  | cons x r ih =>
    cases k with
    | zero => simp [sentV]
    | succ k =>
      have : sentV (x :: r) = sentC x ++ sentV r := by simp [sentV]
      rw [this, show (k + 1) * 25 = (sentC x).length + k * 25 by rw [sentC_len]; omega, List.take_length_add_append, ih]
      simp [sentV]
theorem sentV_drop (row : List Sent) (k : Nat) : (sentV row).drop (k * 25) = sentV (row.drop k) := by
  induction row generalizing k with
  | nil => simp [sentV]
  | cons x r ih =>
    cases k with
    | zero => simp [sentV]
    | succ k =>
      have : sentV (x :: r) = sentC x ++ sentV r := by simp [sentV]
      rw [this, show (k + 1) * 25 = (sentC x).length + k * 25 by rw [sentC_len]; omega, List.drop_length_add_append, ih]
      simp
theorem sent_info : ∃ i0, Tryz.prog.info? 119 = some i0 ∧ i0.size = 25 := by
  obtain ⟨i, hi, -, h2, -⟩ := info_parts T_sent.hi
  exact ⟨i, hi, h2⟩
theorem slice_head (g n c k : Nat) (hk : k ≤ c) (w : World) : (Instr.slice 97 (.slice (some ⟨g, 0, none⟩) n c) none (some (.int .i64 k)) none).run Tryz.prog w = .ok (.slice (some ⟨g, 0, none⟩) k c) w := by
  obtain ⟨i, hq, hs⟩ := sent_info
  simp [Instr.slice, run_underlying Tryz.underlying97, Instr.sliceBounds, Instr.sliceBound, asIntOf, sizeOf, typeInfo, hq, hk, Addr.add]
theorem slice_tail (g n c k : Nat) (hk : k ≤ n) (hc : n ≤ c) : ∃ A : Addr, (∀ w : World, (Instr.slice 97 (.slice (some ⟨g, 0, none⟩) n c) (some (.int .i64 k)) none none).run Tryz.prog w = .ok (.slice (some A) (n - k) (c - k)) w) ∧ (c ≠ k → A = ⟨g, k * 25, none⟩) := by
  obtain ⟨i, hq, hs⟩ := sent_info
  by_cases e : c = k
  · subst e
    have hn : n = c := by omega
    subst hn
    exact ⟨⟨g, 0, none⟩, fun w => by simp [Instr.slice, run_underlying Tryz.underlying97, Instr.sliceBounds, Instr.sliceBound, asIntOf, sizeOf, typeInfo, hq], fun h => absurd rfl h⟩
  · exact ⟨⟨g, k * 25, none⟩, fun w => by simp [Instr.slice, run_underlying Tryz.underlying97, Instr.sliceBounds, Instr.sliceBound, asIntOf, sizeOf, typeInfo, hq, hs, hk, e, Addr.add]; exact fun h => h.symm, fun _ => rfl⟩
theorem slice_mid (g n c a b : Nat) (hab : a ≤ b) (hbc : b ≤ c) (hac : a < c) (w : World) : (Instr.slice 97 (.slice (some ⟨g, 0, none⟩) n c) (some (.int .i64 a)) (some (.int .i64 b)) none).run Tryz.prog w = .ok (.slice (some ⟨g, a * 25, none⟩) (b - a) (c - a)) w := by
  obtain ⟨i, hq, hs⟩ := sent_info
  have h1 : ¬ c = a := by omega
  simp [Instr.slice, run_underlying Tryz.underlying97, Instr.sliceBounds, Instr.sliceBound, asIntOf, sizeOf, typeInfo, hq, hs, hab, hbc, h1, Addr.add]
  exact fun h => h.symm
theorem slice_three (g n c a b d : Nat) (hab : a ≤ b) (hbd : b ≤ d) (hdc : d ≤ c) : ∃ v, ∀ w : World, (Instr.slice 97 (.slice (some ⟨g, 0, none⟩) n c) (some (.int .i64 a)) (some (.int .i64 b)) (some (.int .i64 d))).run Tryz.prog w = .ok v w := by
  obtain ⟨i, hq, hs⟩ := sent_info
  exact ⟨.slice (if d = a then some ⟨g, 0, none⟩ else some ((⟨g, 0, none⟩ : Addr).add (a * 25))) (b - a) (d - a), fun w => by simp [Instr.slice, run_underlying Tryz.underlying97, Instr.sliceBounds, Instr.sliceBound, asIntOf, sizeOf, typeInfo, hq, hs, hab, hbd, hdc]⟩
set_option maxRecDepth 100000 in
set_option maxHeartbeats 2000000 in
theorem del_any (g c : Nat) (row : List Sent) (k : Nat) (w : World) (ho : w.ownsRow 0 119 25 (.slice (some ⟨g, 0, none⟩) row.length c) row.length (sentV row)) (hk : k < row.length) (hn : row.length ≤ 1024) :
    Calls Tryz.prog 85 #[.slice (some ⟨g, 0, none⟩) row.length c, .int .i64 (k : Nat), .int .i64 ((k : Int) + 1)] w fun e w' =>
      e = .returned (.slice (some ⟨g, 0, none⟩) (row.length - 1) c) ∧ w'.ownsRow 0 119 25 (.slice (some ⟨g, 0, none⟩) (row.length - 1) c) (row.eraseIdx k).length (sentV (row.eraseIdx k)) ∧ Mod [g] w w' := by
  rcases ho with ⟨-, ⟨h, -⟩ | ⟨g', c', cur, e, -, hg, hnc, hcm, hsz, htk⟩⟩
  · cases h
  cases e
  obtain ⟨N, hN⟩ : ∃ N, row.length = N + 1 := ⟨row.length - 1, by omega⟩
  have hlen : (row.eraseIdx k).length = N := by rw [List.length_eraseIdx_of_lt hk]; omega
  have HER := Lib.hid (erase_sentV row k)
  rw [hN] at hk hn hnc htk ⊢
  rw [hlen, show N + 1 - 1 = N by omega]
  have hlay : k * 25 + (sentV (row.drop (k + 1))).length ≤ cur.size := by
    rw [sentV_len, hsz, List.length_drop, hN]
    have := Nat.mul_le_mul_right 25 hnc
    omega
  have htake : (layA (sentV (row.drop (k + 1))) (k * 25) cur).toList.take (N * 25) = sentV (row.eraseIdx k) := by
    have h1 := layA_take (sentV (row.drop (k + 1))) (k * 25) cur hlay
    have h2 : k * 25 + (sentV (row.drop (k + 1))).length = N * 25 := by rw [sentV_len, List.length_drop, hN]; omega
    rw [h2] at h1
    rw [h1, HER.out, ← sentV_take row k, ← htk, List.take_take, show min (k * 25) ((N + 1) * 25) = k * 25 by omega]
  obtain ⟨A, hsA, hA⟩ := slice_tail g (N + 1) c (k + 1) (by omega) hnc
  have hs0 := fun w => slice_head g (N + 1) c k (by omega) w
  obtain ⟨v3, hs3⟩ := slice_three g (N + 1) c k (k + 1) (N + 1) (by omega) (by omega) hnc
  have hsM := fun w => slice_mid g N c N (N + 1) (by omega) hnc (by omega) w
  have hsrc : ∀ j u, (sentV (row.drop (k + 1)))[j]? = some u → w.drew.cell? (A.add j) = some u := fun j u hu => by
    have hjl := (List.getElem?_eq_some_iff.1 hu).1
    by_cases e : c = k + 1
    · rw [sentV_len, List.length_drop, hN] at hjl
      omega
    · rw [hA e, Addr.add_lit, ← sentV_drop, ← htk, List.getElem?_drop, List.getElem?_take] at *
      split at hu
      · rw [show w.drew.cell? ⟨g, (k + 1) * 25 + j, none⟩ = w.cell? ⟨g, (k + 1) * 25 + j, none⟩ from rfl, cell_of_row _ _ _ _ _ _ hg]
        simpa using hu
      · cases hu
  have hlayh := lay_heap g 119 (sentV (row.drop (k + 1))) (k * 25) cur w.drew hg
  have HLAY := Lib.hid hlayh
  have HTAKE := Lib.hid htake
  have HSRC := Lib.hid hsrc
  have HLS : Hid ((sentV (row.drop (k + 1))).length = (N - k) * 25) := Lib.hid (by rw [sentV_len, List.length_drop, hN]; omega)
  have HONE := Lib.hid (sent_one (row.drop (k + 1)))
  have HSP : Hid (∀ j, j < (sentV (row.drop (k + 1))).length → (w.drew.cell? ⟨g, 0 + k * 25 + j, none⟩).isSome = true ∧ w.drew.frozen? ⟨g, 0 + k * 25 + j, none⟩ = false) := Lib.hid (fun j hj => by
    rw [Nat.zero_add]
    refine ⟨?_, frozen_of_row w.drew g _ _ _ hg⟩
    rw [cell_of_row w.drew g _ _ _ _ hg]
    have : k * 25 + j < cur.size := by omega
    simp [this])
  have HSZ : Hid ((layA (sentV (row.drop (k + 1))) (k * 25) cur).size = c * 25) := Lib.hid (by rw [layA_size, hsz])
  obtain ⟨i0, hi0, hz0⟩ := sent_info
  have HI0 := Lib.hid hi0
  have HZ0 := Lib.hid hz0
  have hne : ((k : Int) == (k : Int) + 1) = false := by rw [beq_eq_false_iff_ne]; omega
  simp only [Int.natCast_add, Int.natCast_one] at hs0 hs3 hsM hsA
  have e1 : N + 1 - (k + 1) = N - k := by omega
  rw [e1] at hsA
  generalize sentV (row.drop (k + 1)) = news at *
  generalize layA news (k * 25) cur = cur2 at *
  generalize sentV (row.eraseIdx k) = fin at *
  clear hlayh htake hsrc hlay htk hi0 hz0 hA hg hsz hN hlen HER
  go_enter Tryz.func85, Tryz.ntmps85
  go_upto_region 5 with fail
  refine wp_region_held_drew (S := fun _ => True) (by kernel_rfl) trivial (fun hHeld => ?_)
  refine tk 0 (v := ?_) ?_ hHeld ?_; rotate_left; · (intro w0 hS0; (try dsimp only at hS0); go_simp; try with_reducible rfl)
  simp only [tks]
  refine tk 1 (v := ?_) ?_ hHeld ?_; rotate_left; · (intro w0 hS0; (try dsimp only at hS0); go_simp; try with_reducible rfl)
  simp only [tks]
  refine tk 2 (v := ?_) ?_ hHeld ?_; rotate_left; · (intro w0 hS0; (try dsimp only at hS0); go_simp; try with_reducible rfl)
  simp only [tks]
  refine tk 3 (v := ?_) ?_ hHeld ?_; rotate_left; · (intro w0 hS0; (try dsimp only at hS0); go_simp; try with_reducible rfl)
  simp only [tks]
  refine tk 4 (v := ?_) ?_ hHeld ?_; rotate_left; · (intro w0 hS0; (try dsimp only at hS0); go_simp; try with_reducible rfl)
  simp only [tks]
  refine tk 5 (v := ?_) ?_ hHeld ?_; rotate_left; · (intro w0 hS0; (try dsimp only at hS0); go_simp; try with_reducible rfl)
  simp only [tks]
  refine wpAnyH_ready (rs := [6]) (by kernel_rfl) (by simp) ?_
  refine AllReadyH.cons rfl (fun K hK => ?_) AllReadyH.nil
  refine step_append_room rfl (.tmp 22) (.tmp 25) 97 rfl 119 i0 25 Tryz.underlying97 HI0.out HZ0.out g 0 k c (by simp [Act.eval]) A (N - k) (c - (k + 1)) news (by simp [Act.eval]) HLS.out HSRC.out HONE.out (by omega) HSP.out ?_
  rw [show k + (N - k) = N by omega, Nat.zero_add]
  refine hK.out _ _ trivial (fun hHeld => ?_)
  obtain ⟨W, hW⟩ : ∃ W, w.drew.setCells g (k * 25) news = W := ⟨_, rfl⟩
  rw [hW] at HLAY ⊢
  clear hW
  refine tk 7 (v := ?_) ?_ hHeld ?_; rotate_left; · (intro w0 hS0; (try dsimp only at hS0); go_simp; try with_reducible rfl)
  simp only [tks]
  refine wpAnyH_done (by kernel_rfl) ?_ _
  clear hHeld
  go_wp2_with (refine wpList_clear T_sent (off := N * 25) (g := g) (m := 1) (by decide) rfl rfl rfl (fun _ => rfl) HLAY.out.1 (by rw [HSZ.out]; omega) ?_)
  intro W7 cur7 m1 m2 m3 m4
  have HQ : Hid (W7.ownsRow 0 119 25 (.slice (some ⟨g, 0, none⟩) N c) N fin ∧ Mod [g] w W7) := Lib.hid ⟨⟨by rw [← HTAKE.out, List.length_take, Array.length_toList, HSZ.out]; omega, .inr ⟨g, c, cur7, rfl, Nat.zero_le _, m1, by omega, hcm, m2.trans HSZ.out, m3.trans HTAKE.out⟩⟩, (((Mod.refl [g] w).drew).trans HLAY.out.2 (fun _ h => .inl h)).trans m4 (fun _ h => .inl h)⟩
  clear m1 m2 m3 m4
  go_wp2_with fail
  go_ret
  exact ⟨rfl, HQ.out.1, HQ.out.2⟩
end
section
open Go Go.RowKit

theorem sentV_set (l : List Sent) (k : Nat) (hk : k < l.length) (d : Int) : (sentV l).set (k * 25 + 24) (.int .u8 d) = sentV (l.set k ⟨l[k].m, l[k].id, d⟩) := by
  induction l generalizing k with
  | nil => simp at hk
  | cons x r ih =>
    have hx : ∀ (y : Sent) (r : List Sent), sentV (y :: r) = sentC y ++ sentV r := fun y r => by simp [sentV]
    cases k with
    | zero =>
      rw [List.set_cons_zero, hx, hx, List.set_append_left _ _ (by rw [sentC_len]; decide)]
      rfl
    | succ k =>
      rw [List.set_cons_succ, hx, hx, List.set_append_right _ _ (by rw [sentC_len]; omega), sentC_len, show (k + 1) * 25 + 24 - 25 = k * 25 + 24 by omega, ih k (by simpa using hk)]
      simp
theorem ownsRow_set {w : World} {e : TypeId} {size n g c : Nat} {xs : List Value} (h : w.ownsRow 0 e size (.slice (some ⟨g, 0, none⟩) n c) n xs) (j : Nat) (u : Value) : (w.setCell ⟨g, j, none⟩ u).ownsRow 0 e size (.slice (some ⟨g, 0, none⟩) n c) n (xs.set j u) := by
  rcases h with ⟨hl, ⟨h, -⟩ | ⟨g', c', cur, e, h0, hg, hnc, hcm, hsz, htk⟩⟩
  · cases h
  · cases e
    refine ⟨by simpa using hl, .inr ⟨g, c, _, rfl, h0, heap_setCell_same w g j _ _ u hg, hnc, hcm, by simpa using hsz, ?_⟩⟩
    rw [Array.toList_setIfInBounds, List.take_set, htk]
theorem ownsRow_slot {w : World} {e : TypeId} {size n : Nat} {v : Value} {xs : List Value} (h : w.ownsRow 0 e size v n xs) (hn : 0 < n) : ∃ g c, v = .slice (some ⟨g, 0, none⟩) n c := by
  rcases h with ⟨-, ⟨-, h⟩ | ⟨g', c', cur, e, -⟩⟩
  · omega
  · exact ⟨g', c', e⟩
theorem ownsRow_free {w : World} {e : TypeId} {size n g c : Nat} {xs : List Value} (h : w.ownsRow 0 e size (.slice (some ⟨g, 0, none⟩) n c) n xs) (j : Nat) : w.frozen? ⟨g, j, none⟩ = false := by
  rcases h with ⟨hl, ⟨h, -⟩ | ⟨g', c', cur, e, h0, hg, -⟩⟩
  · cases h
  · cases e
    exact frozen_of_row _ _ _ _ _ hg
theorem ids_set {l : List Sent} {k : Nat} (hk : k < l.length) (d : Int) : idsOf (l.set k ⟨l[k].m, l[k].id, d⟩) = idsOf l := by
  unfold idsOf
  rw [List.map_set]
  refine List.ext_getElem? fun i => ?_
  rw [List.getElem?_set]
  by_cases e : k = i
  · subst e; simp [hk]
  · simp [e]
theorem filter_eraseIdx {l : List Nat} {k : Nat} (hk : k < l.length) (hn : l.Nodup) : l.filter (· != l[k]) = l.eraseIdx k := by
  rw [← hn.erase_eq_filter, List.erase_eq_eraseIdx_of_idxOf]
  exact hn.idxOf_getElem k hk
theorem ids_erase {l : List Sent} {k : Nat} (hk : k < l.length) (hn : (idsOf l).Nodup) : (idsOf l).filter (· != l[k].id) = idsOf (l.eraseIdx k) := by
  have h1 := filter_eraseIdx (l := idsOf l) (k := k) (by simpa [idsOf] using hk) hn
  have h2 : (idsOf l)[k]'(by simpa [idsOf] using hk) = l[k].id := by simp [idsOf]
  rw [h2] at h1
  rw [h1]
  unfold idsOf
  rw [List.eraseIdx_eq_take_drop_succ, List.eraseIdx_eq_take_drop_succ, List.map_append, List.map_take, List.map_drop]
theorem ids_mem {l : List Sent} {k : Nat} (hk : k < l.length) : l[k].id ∈ idsOf l := List.mem_map.2 ⟨_, List.getElem_mem hk, rfl⟩
theorem ack_none {ty id : Int} {o : OT} (h : placeO id o.row = none) : ackO ty id o = (([], false), o) := by
  unfold ackO; rw [h]
theorem ack_some {ty id : Int} {o : OT} {k : Nat} (hk : k < o.row.length) (h : placeO id o.row = some k) : ackO ty id o =
    if ty = 5 ∧ (o.row[k].due = 5 ∨ o.row[k].due = 7) then (([relK id], true), ⟨o.wait, o.row.set k ⟨o.row[k].m, o.row[k].id, 7⟩⟩)
      else if ty = o.row[k].due then (([], true), ⟨o.wait, o.row.eraseIdx k⟩) else (([], false), o) := by
  unfold ackO
  rw [h]
  simp only [List.getElem?_eq_getElem hk]
end
end Go.Proofs.YtmkhagmjpbfieaaGreatDoor
