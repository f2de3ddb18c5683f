/- The document's model: Conn, Best walked. The document's model: its row of sessions set anew. The document's model: gone walked. The document's model: gone walked. The document's model: what is kept is set anew. -/
import Derived.Test.YthfeckndkmhieaaGreatDoorDC
import Derived.Test.YthfeckndkmhieaaGreatDoorQL
namespace Go.Proofs.YthfeckndkmhieaaGreatDoor
section
open Go Go.RowKit Go.Maps

theorem findI_none {c : Str} {st : Seats} (h : posS c st = none) : findI c st = -1 := by unfold findI; rw [h]
theorem findI_some {c : Str} {st : Seats} {k : Nat} (h : posS c st = some k) : findI c st = (k : Int) := by unfold findI; rw [h]
/-- what is read of the document's row of sessions -/
theorem DParts.held {w : World} {r kg : Nat} {v : Value} {KF : List Nat} {bl : Str → Nat × List Nat} {s : MS} (h : DParts w r kg v KF bl s) : ∃ a cp, v = .slice a s.seats.length cp ∧ w.cell? ⟨r, 0, none⟩ = some (.slice a s.seats.length cp) ∧ w.cell? ⟨r, 1, none⟩ = some (.pointer (some ⟨kg, 0, none⟩)) ∧ Row w a (seatsV bl s.seats) := by
  obtain ⟨a, cp, e, hr, -, -⟩ := ownsRow_row h.row
  have hT := h.top
  rw [e] at hT
  exact ⟨a, cp, e, cell_of_row w r 0 _ _ _ hT, cell_of_row w r 1 _ _ _ hT, hr⟩
set_option maxRecDepth 100000 in
set_option maxHeartbeats 2000000 in
theorem dconn_any (r kg : Nat) (v : Value) (KF : List Nat) (bl : Str → Nat × List Nat) (s : MS) (c : Str) (w : World) (h : DParts w r kg v KF bl s) (hl : s.seats.length < 1000000) :
    Calls Tryz.prog 23 #[.pointer (some ⟨r, 0, none⟩), .string ⟨c.toArray⟩] w fun e w' => e = .returned (.int .i64 (connOf (lookS c s.seats))) ∧ w = w' := by
  obtain ⟨a, cp, -, hc, -, hrow⟩ := h.held
  have HF := Lib.hid (dfind_any r c s.seats bl a cp w hc hrow hl)
  rcases hp : posS c s.seats with - | k
  · rw [findI_none hp] at HF
    rw [posS_none.1 hp]
    clear hp hrow hc h
    go_enter Tryz.func23, Tryz.ntmps23
    go_wp2_with fail
    refine HF.out.mono ?_
    rintro e w1 ⟨rfl, rfl⟩
    go_wp2_with fail
    go_ret
    exact ⟨rfl, rfl⟩
  · rw [findI_some hp] at HF
    obtain ⟨x, hx, -, hlk⟩ := posS_some hp
    obtain ⟨b1, o1, rfl, d0, d1, d2, d3⟩ := seats_row hrow hx
    have hkl : k < s.seats.length := (List.getElem?_eq_some_iff.1 hx).1
    rw [hlk]
    have hcon : connOf (some x.2) = x.2.conn := rfl
    rw [hcon]
    have hk0 : (0 : Int) ≤ k := by omega
    have hk1 : (k : Int) < s.seats.length := by omega
    generalize x.2.conn = z at *
    generalize s.seats.length = n at *
    clear hp hrow h hlk hcon hx d0 d2 d3
    go_enter Tryz.func23, Tryz.ntmps23
    go_wp2_with fail
    refine HF.out.mono ?_
    rintro e w1 ⟨rfl, rfl⟩
    go_wp2_with fail
    go_ret
    exact ⟨rfl, rfl⟩
set_option maxRecDepth 100000 in
set_option maxHeartbeats 2000000 in
theorem dmbest_any (r kg : Nat) (v : Value) (KF : List Nat) (bl : Str → Nat × List Nat) (s : MS) (c n : Str) (w : World) (h : DParts w r kg v KF bl s) (hl : s.seats.length < 1000000) (hok : ∀ x ∈ s.seats, SeatOk x.2) (hn : n.length < 4294967281) :
    Calls Tryz.prog 21 #[.pointer (some ⟨r, 0, none⟩), .string ⟨c.toArray⟩, .string ⟨n.toArray⟩] w fun e w' => e = .returned (.tuple #[.int .u8 (bestOf n (lookS c s.seats)).1, .bool (bestOf n (lookS c s.seats)).2]) ∧ Below w.heap.size w w' := by
  obtain ⟨a, cp, -, hc, -, hrow⟩ := h.held
  have HF := Lib.hid (dfind_any r c s.seats bl a cp w hc hrow hl)
  rcases hp : posS c s.seats with - | k
  · rw [findI_none hp] at HF
    rw [posS_none.1 hp]
    clear hp hrow hc h
    go_enter Tryz.func21, Tryz.ntmps21
    go_wp2_with fail
    refine HF.out.mono ?_
    rintro e w1 ⟨rfl, rfl⟩
    go_wp2_with fail
    go_ret2
    exact ⟨rfl, Below.refl _ _⟩
  · rw [findI_some hp] at HF
    obtain ⟨x, hx, hxc, hlk⟩ := posS_some hp
    obtain ⟨b1, o1, rfl, d0, d1, d2, d3⟩ := seats_row hrow hx
    have hkl : k < s.seats.length := (List.getElem?_eq_some_iff.1 hx).1
    have hrep : DRep w (bl c).1 x.2.l (bl c).2 := h.fam.rep c x.2 hlk
    have HB := Lib.hid (dbest_any _ _ _ n w hrep (hok x (List.mem_of_getElem? hx)).2.2.1 hn)
    rw [hlk]
    have hbo : bestOf n (some x.2) = bestS n x.2.l := rfl
    rw [hbo]
    rw [hxc] at d3
    have hk0 : (0 : Int) ≤ k := by omega
    have hk1 : (k : Int) < s.seats.length := by omega
    generalize bestS n x.2.l = z at *
    generalize s.seats.length = m at *
    generalize (bl c).1 = lb at *
    clear hp hrow h hlk hbo hx d0 d1 d2 hrep
    go_enter Tryz.func21, Tryz.ntmps21
    go_wp2_with fail
    refine HF.out.mono ?_
    rintro e w1 ⟨rfl, rfl⟩
    go_wp2_with fail
    refine HB.out.mono ?_
    rintro e w2 ⟨rfl, hk⟩
    go_wp2_with fail
    go_ret2
    exact ⟨rfl, hk⟩
end
section
open Go Go.RowKit Go.Maps

def footD (r : Nat) (v : Value) (KF : List Nat) (bl : Str → Nat × List Nat) (st : Seats) : List Nat := r :: (v.ownBlock.toList ++ (KF ++ st.flatMap fun x => if (lookS x.1 st).isSome then (bl x.1).2 else []))
theorem mem_footD {r : Nat} {v : Value} {KF : List Nat} {bl : Str → Nat × List Nat} {st : Seats} {k : Nat} : k ∈ footD r v KF bl st ↔ k = r ∨ v.ownBlock = some k ∨ k ∈ KF ∨ ∃ c x, lookS c st = some x ∧ k ∈ (bl c).2 := by
  unfold footD
  simp only [List.mem_cons, List.mem_append, List.mem_flatMap, Option.mem_toList]
  constructor
  · rintro (h | h | h | ⟨x, hx, h⟩)
    · exact .inl h
    · exact .inr (.inl h)
    · exact .inr (.inr (.inl h))
    · split at h
      · rename_i hs
        obtain ⟨y, hy⟩ := Option.isSome_iff_exists.1 hs
        exact .inr (.inr (.inr ⟨_, y, hy, h⟩))
      · cases h
  · rintro (h | h | h | ⟨c, x, hx, h⟩)
    · exact .inl h
    · exact .inr (.inl h)
    · exact .inr (.inr (.inl h))
    · refine .inr (.inr (.inr ⟨_, lookS_mem hx, ?_⟩))
      simp only [hx, Option.isSome_some, if_true]
      exact h
theorem DParts.lt {w : World} {r kg : Nat} {v : Value} {KF : List Nat} {bl : Str → Nat × List Nat} {s : MS} (h : DParts w r kg v KF bl s) : ∀ k ∈ footD r v KF bl s.seats, k < w.heap.size := by
  intro k hk
  rcases mem_footD.1 hk with rfl | hk | hk | ⟨c, x, hx, hk⟩
  · exact (Array.getElem?_eq_some_iff.1 h.top).1
  · exact (h.row.lt k hk).2
  · exact h.kept.lt k hk
  · exact h.fam.lt dseat_local hx k hk
theorem DParts.mod {S : List Nat} {w w' : World} {r kg : Nat} {v : Value} {KF : List Nat} {bl : Str → Nat × List Nat} {s : MS} (h : DParts w r kg v KF bl s) (hm : Mod S w w') (hS : ∀ k ∈ footD r v KF bl s.seats, k ∉ S) : DParts w' r kg v KF bl s := by
  have hk : ∀ k ∈ footD r v KF bl s.seats, w'.heap[k]? = w.heap[k]? := fun k hk => hm.block k (h.lt k hk) (hS k hk)
  exact ⟨(hk _ (mem_footD.2 (.inl rfl))).trans h.top, ownsRow_local h.row fun k hk' => hk k (mem_footD.2 (.inr (.inl hk'))), h.vr, h.vK,
    h.fam.keep dseat_local fun c x hx k hk' => hk k (mem_footD.2 (.inr (.inr (.inr ⟨c, x, hx, hk'⟩)))),
    h.kept.mod hm fun k hk' => hS k (mem_footD.2 (.inr (.inr (.inl hk')))), h.rK, h.off⟩
theorem DParts.below {w w' : World} {r kg : Nat} {v : Value} {KF : List Nat} {bl : Str → Nat × List Nat} {s : MS} (h : DParts w r kg v KF bl s) (hk : Below w.heap.size w w') : DParts w' r kg v KF bl s := h.mod (Mod.of_below hk []) (by simp)
/-- behind a store of a new row, of sessions that were there -/
theorem DParts.setRow {w X : World} {r kg : Nat} {v v' : Value} {KF : List Nat} {bl : Str → Nat × List Nat} {s : MS} {st : Seats} (h : DParts w r kg v KF bl s) (hX : Below w.heap.size w X)
    (hown : X.ownsRow w.heap.size 91 4 v' st.length (seatsV bl st)) (hst : ∀ c x, lookS c st = some x → lookS c s.seats = some x) :
    X.frozen? ⟨r, 0, none⟩ = false ∧ DParts (X.setCell ⟨r, 0, none⟩ v') r kg v' KF bl ⟨st, s.kept⟩ ∧ Upd (footD r v KF bl s.seats) (footD r v' KF bl st) w (X.setCell ⟨r, 0, none⟩ v') ∧ Mod [r] w (X.setCell ⟨r, 0, none⟩ v') := by
  have hrl := (Array.getElem?_eq_some_iff.1 h.top).1
  have hrX := (hX.block r hrl).trans h.top
  have hnew : ∀ k, v'.ownBlock = some k → w.heap.size ≤ k := fun k hk => (hown.lt k hk).1
  have hne : ∀ k, v'.ownBlock = some k → k ≠ r := fun k hk => by have := hnew k hk; omega
  have hS : ∀ k, k ≠ r → (X.setCell ⟨r, 0, none⟩ v').heap[k]? = X.heap[k]? := fun k hk => heap_setCell_other X _ _ _ hk
  have hkX := h.below hX
  refine ⟨frozen_of_row X r 0 _ _ hrX, ⟨?_, ?_, ?_, ?_, ?_, ?_, h.rK, ?_⟩, ⟨(Mod.of_below hX _).setCell (.inl (by exact mem_footD.2 (.inl rfl))) _, ?_⟩, (Mod.of_below hX _).setCell (.inl (by simp)) _⟩
  · rw [heap_setCell_same X r 0 _ _ v' hrX]; rfl
  · exact ownsRow_local (row_base hown (Nat.zero_le _)) fun k hk => hS k (hne k hk)
  · exact fun hk => hne r hk rfl
  · intro k hk hv
    have := hnew k hv
    have := h.kept.lt k hk
    omega
  · refine ⟨fun c x hx => ?_, fun c x c' x' hx hx' => h.fam.inj c x c' x' (hst c x hx) (hst c' x' hx')⟩
    have h1 := hkX.fam.rep c x (hst c x hx)
    exact dseat_local.keep h1 fun k hk => hS k (h.off c x (hst c x hx) k hk).1
  · exact hkX.kept.mod (S := [r]) ((Mod.of_below (Below.refl X.heap.size X) [r]).setCell (.inl (by simp)) v') fun k hk hk' => by
      obtain rfl : k = r := by simpa using hk'
      exact h.rK hk
  · intro c x hx k hk
    obtain ⟨h1, -, h3⟩ := h.off c x (hst c x hx) k hk
    refine ⟨h1, fun hv => ?_, h3⟩
    have := hnew k hv
    have := h.fam.lt dseat_local (hst c x hx) k hk
    omega
  · intro k hk
    rcases mem_footD.1 hk with rfl | hk | hk | ⟨c, x, hx, hk⟩
    · exact .inl (mem_footD.2 (.inl rfl))
    · exact .inr (hnew k hk)
    · exact .inl (mem_footD.2 (.inr (.inr (.inl hk))))
    · exact .inl (mem_footD.2 (.inr (.inr (.inr ⟨c, x, hst c x hx, hk⟩))))
end
section
open Go Go.RowKit Go.Maps

theorem T_dseat : ElemT Tryz.prog 60 91 (.agg #[.string ⟨#[]⟩, .int .i64 0, .bool false, .pointer none]) 4 40 := ⟨Tryz.underlying60, by kernel_rfl, rfl, by decide⟩
theorem seatsV_append (bl : Str → Nat × List Nat) (x y : Seats) : seatsV bl x ++ seatsV bl y = seatsV bl (x ++ y) := by simp [seatsV]
theorem seatsV_one (bl : Str → Nat × List Nat) (l : Seats) : ∀ u ∈ seatsV bl l, u.oneCell' = true := by
  intro u hu
  simp only [seatsV, List.mem_flatMap] at hu
  obtain ⟨m, _, hm⟩ := hu
  simp only [seatCells, List.mem_cons, List.not_mem_nil, or_false] at hm
  rcases hm with rfl | rfl | rfl | rfl <;> rfl
theorem seatsV_take (bl : Str → Nat × List Nat) (l : Seats) (k : Nat) : seatsV bl (l.take k) = (seatsV bl l).take (k * 4) := by
  by_cases h : k ≤ l.length
  · conv => rhs; rw [← List.take_append_drop k l, ← seatsV_append]
    rw [List.take_left' (by rw [seatsV_length, List.length_take]; omega)]
  · rw [List.take_of_length_le (by omega), List.take_of_length_le (by rw [seatsV_length]; omega)]
theorem seatsV_drop (bl : Str → Nat × List Nat) (l : Seats) (k : Nat) : seatsV bl (l.drop k) = (seatsV bl l).drop (k * 4) := by
  by_cases h : k ≤ l.length
  · conv => rhs; rw [← List.take_append_drop k l, ← seatsV_append]
    rw [List.drop_left' (by rw [seatsV_length, List.length_take]; omega)]
  · rw [List.drop_eq_nil_of_le (by omega), List.drop_eq_nil_of_le (by rw [seatsV_length]; omega)]; rfl
end
section
open Go Go.RowKit Go.Maps

set_option maxRecDepth 100000 in
set_option maxHeartbeats 4000000 in
theorem dgone_any (r kg : Nat) (v : Value) (KF : List Nat) (bl : Str → Nat × List Nat) (s : MS) (k : Nat) (w : World) (h : DParts w r kg v KF bl s) (hl : s.seats.length < 1000000) (hk : k < s.seats.length)
    (hst : ∀ c x, lookS c (s.seats.take k ++ s.seats.drop (k + 1)) = some x → lookS c s.seats = some x) :
    Calls Tryz.prog 45 #[.pointer (some ⟨r, 0, none⟩), .int .i64 (k : Int)] w fun e w' => e = .returned (.tuple #[]) ∧ ∃ v', DParts w' r kg v' KF bl ⟨s.seats.take k ++ s.seats.drop (k + 1), s.kept⟩ ∧ Upd (footD r v KF bl s.seats) (footD r v' KF bl (s.seats.take k ++ s.seats.drop (k + 1))) w w' ∧ Mod [r] w w' ∧ ∀ j, v'.ownBlock = some j → w.heap.size ≤ j := by
  obtain ⟨a, cp, hv, hc, -, hrow⟩ := h.held
  obtain ⟨a', cp', hv', -, hcp, hcm⟩ := ownsRow_row h.row
  obtain ⟨rfl, -, rfl⟩ : a = a' ∧ s.seats.length = s.seats.length ∧ cp = cp' := by rw [hv] at hv'; simpa using hv'
  clear hv'
  have HSET := Lib.hid (fun X hX v' hown => h.setRow (X := X) (v' := v') hX hown hst)
  have HH := Lib.hid (fun X (hX : Below w.heap.size w X) => (h.below hX).held)
  have HC := Lib.hid (fun X (hX : Below w.heap.size w X) => show X.cell? ⟨r, 0, none⟩ = some v from cell_of_row X r 0 _ _ _ ((hX.block r (Array.getElem?_eq_some_iff.1 h.top).1).trans h.top))
  rw [hv] at HC
  have HL := Lib.hid (show (s.seats.take k).length = k by rw [List.length_take]; omega)
  have HL2 := Lib.hid (show (s.seats.drop (k + 1)).length = s.seats.length - (k + 1) by rw [List.length_drop])
  obtain ⟨b1, o1, rfl, -⟩ := seats_row hrow (k := k) (x := s.seats[k]) (by simp [hk])
  have ht := row_take hrow (k * 4)
  rw [← seatsV_take] at ht
  have hd := row_drop hrow ((k + 1) * 4)
  rw [← seatsV_drop] at hd
  simp only [Option.map_some, Addr.add] at hd
  have k0 : (0 : Int) ≤ k := by omega
  have k1 : (k : Int) ≤ s.seats.length := by omega
  have HD := Lib.hid hd
  clear hd hrow h hst HH
  go_enter Tryz.func45, Tryz.ntmps45
  go_wp2_with (at_builtin; refine wpList_appRow T_dseat (World.ownsRow_nil w w.heap.size _ _) (Below.refl _ _) (Nat.le_refl _) ht rfl rfl rfl rfl (by have := HL.out; have := seatsV_length bl (s.seats.take k); omega) (seatsV_one bl _) (by omega) (by omega) ?_)
  intro v1 w1 hown hb _
  obtain ⟨a1, c1, rfl, -, -, -⟩ := ownsRow_row hown
  have hc1 := HC.out w1 hb
  clear ht hc
  have i1 : (0 : Int) ≤ (k : Int) + 1 := by omega
  have i2 : (k : Int) + 1 ≤ s.seats.length := by omega
  have i3 : ((k : Int) + 1).toNat = k + 1 := by omega
  by_cases hz : cp = k + 1
  · subst hz
    go_wp2_with (at_builtin; refine wpList_appRow T_dseat hown hb (by assumption) (show Row w1 _ (seatsV bl (s.seats.drop (k + 1))) from .inl (by rw [List.drop_eq_nil_of_le (by omega)]; rfl)) rfl rfl rfl rfl (by have := HL2.out; have := seatsV_length bl (s.seats.drop (k + 1)); omega) (seatsV_one bl _) (by omega) (by omega) ?_)
    intro v2 w2 hown2 hb2 _
    obtain ⟨a2, c2, rfl, -, -, -⟩ := ownsRow_row hown2
    clear hc1
    have hown3 := hown2
    simp only [seatsV_append] at hown3
    obtain ⟨fz, hP, hU, hM⟩ := HSET.out w2 hb2 _ (by rw [List.length_append, HL.out, HL2.out, show k + (s.seats.length - (k + 1)) = k by omega]; exact hown3)
    have hc2 := HC.out w2 hb2
    go_wp2_with fail
    go_end0
    exact ⟨rfl, _, hP, hU, hM, fun j hj => (hown2.lt j hj).1⟩
  · obtain ⟨z, hz2⟩ : ∃ z, cp - (k + 1) = z + 1 := ⟨cp - (k + 1) - 1, by omega⟩
    go_wp2_with (at_builtin; refine wpList_appRow T_dseat hown hb (by assumption) (HD.out.below hb (Nat.le_refl _)) rfl rfl rfl rfl (by have := HL2.out; have := seatsV_length bl (s.seats.drop (k + 1)); omega) (seatsV_one bl _) (by omega) (by omega) ?_)
    intro v2 w2 hown2 hb2 _
    obtain ⟨a2, c2, rfl, -, -, -⟩ := ownsRow_row hown2
    clear hc1
    have hown3 := hown2
    simp only [seatsV_append] at hown3
    obtain ⟨fz, hP, hU, hM⟩ := HSET.out w2 hb2 _ (by rw [List.length_append, HL.out, HL2.out]; exact hown3)
    have hc2 := HC.out w2 hb2
    go_wp2_with fail
    go_end0
    exact ⟨rfl, _, hP, hU, hM, fun j hj => (hown2.lt j hj).1⟩
end
section
open Go Go.RowKit Go.Maps

theorem DParts.setKept {w w' : World} {r kg : Nat} {v : Value} {KF KF' : List Nat} {bl : Str → Nat × List Nat} {s : MS} {l' : List Msg} (h : DParts w r kg v KF bl s) (hr : RRep w' kg l' KF') (hu : Upd KF KF' w w') :
    DParts w' r kg v KF' bl ⟨s.seats, l'⟩ ∧ Upd (footD r v KF bl s.seats) (footD r v KF' bl s.seats) w w' := by
  have hb : ∀ k, k < w.heap.size → k ∉ KF → w'.heap[k]? = w.heap[k]? := fun k h1 h2 => hu.1.block k h1 h2
  have hrl := (Array.getElem?_eq_some_iff.1 h.top).1
  have hnew : ∀ k ∈ KF', k < w.heap.size → k ∈ KF := fun k hk hl => (hu.2 k hk).elim id fun h => by omega
  refine ⟨⟨(hb r hrl h.rK).trans h.top, ownsRow_local h.row fun k hk => hb k (h.row.lt k hk).2 fun hK => h.vK k hK hk, h.vr, ?_, ?_, hr, fun hK => h.rK (hnew r hK hrl), ?_⟩, ⟨hu.1.os, hu.1.tape, hu.1.output, hu.1.size, ?_⟩, ?_⟩
  · exact fun k hk hv => h.vK k (hnew k hk (h.row.lt k hv).2) hv
  · exact h.fam.keep dseat_local fun c x hx k hk => hb k (h.fam.lt dseat_local hx k hk) (h.off c x hx k hk).2.2
  · exact fun c x hx k hk => ⟨(h.off c x hx k hk).1, (h.off c x hx k hk).2.1, fun hK => (h.off c x hx k hk).2.2 (hnew k hK (h.fam.lt dseat_local hx k hk))⟩
  · exact fun k hk hn => hb k hk fun hK => hn (mem_footD.2 (.inr (.inr (.inl hK))))
  · intro k hk
    rcases mem_footD.1 hk with hk | hk | hk | hk
    · exact .inl (mem_footD.2 (.inl hk))
    · exact .inl (mem_footD.2 (.inr (.inl hk)))
    · exact (hu.2 k hk).imp (fun h => mem_footD.2 (.inr (.inr (.inl h)))) id
    · exact .inl (mem_footD.2 (.inr (.inr (.inr hk))))
end
end Go.Proofs.YthfeckndkmhieaaGreatDoor
