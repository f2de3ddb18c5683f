/- The model, how it lies in memory; New, seat, Has, Conn, Best, Kept walked. The model: Has, Conn, Best, Kept walked. The model: a session is turned, is new, goes: what stands in memory then. -/
import Derived.Test.YthfeckndkmhieaaGreatDoorQV
import Derived.Test.YthfeckndkmhieaaGreatDoorKFind
namespace Go.Proofs.YthfeckndkmhieaaGreatDoor
section
open Go Go.RowKit Go.Maps

/-- A session lies at block b. -/
def SeatRep (w : World) (b : Nat) (s : Seat) (F : List Nat) : Prop :=
  ∃ lb G, w.heap[b]? = some (.cells #[.pointer (some ⟨lb, 0, none⟩), .int .i64 s.conn, .bool s.clean] 77 (0, 0)) ∧ SRep w lb s.l G ∧ b ∉ G ∧ F = b :: G
theorem seat_local : Local SeatRep where
  lt := by
    rintro w b s F ⟨lb, G, hb, hr, hn, rfl⟩ k hk
    rcases List.mem_cons.1 hk with rfl | hk
    · exact (Array.getElem?_eq_some_iff.1 hb).1
    · exact hr.lt k hk
  keep := by
    rintro w w' b s F ⟨lb, G, hb, hr, hn, rfl⟩ hk
    exact ⟨lb, G, (hk b (by simp)).trans hb, srep_local.keep hr (fun k hk' => hk k (by simp [hk'])), hn, rfl⟩
def seatB (bl : Str → Nat × List Nat) (st : Seats) (c : Str) : Option Nat := (lookS c st).map fun _ => (bl c).1
/-- A model lies at block m; N bounds how many sessions its map had; its blocks are F. -/
structure MParts (w : World) (m N sb kg : Nat) (KF : List Nat) (bl : Str → Nat × List Nat) (s : MS) : Prop where
  top : w.heap[m]? = some (.cells #[.map (some sb), .pointer (some ⟨kg, 0, none⟩)] 45 (0, 0))
  map : PMap w sb N (seatB bl s.seats)
  fam : Fam SeatRep w (fun c => lookS c s.seats) bl
  kept : KRep w kg s.kept KF
  ne : m ≠ sb
  mK : m ∉ KF
  sK : sb ∉ KF
  off : ∀ c x, lookS c s.seats = some x → ∀ k ∈ (bl c).2, k ≠ m ∧ k ≠ sb ∧ k ∉ KF
def footM (m sb : Nat) (KF : List Nat) (bl : Str → Nat × List Nat) (st : Seats) : List Nat := m :: sb :: (KF ++ st.flatMap fun x => if (lookS x.1 st).isSome then (bl x.1).2 else [])
theorem mem_footM {m sb : Nat} {KF : List Nat} {bl : Str → Nat × List Nat} {st : Seats} {k : Nat} : k ∈ footM m sb KF bl st ↔ k = m ∨ k = sb ∨ k ∈ KF ∨ ∃ c x, lookS c st = some x ∧ k ∈ (bl c).2 := by
  unfold footM
  simp only [List.mem_cons, List.mem_append, List.mem_flatMap]
  constructor
  · rintro (h | h | h | ⟨x, hx, h⟩)
    · exact .inl h
    · exact .inr (.inl h)
    · exact .inr (.inr (.inl h))
    · split at h
      · rename_i hs
        obtain ⟨y, hy⟩ := Option.isSome_iff_exists.1 hs
        exact .inr (.inr (.inr ⟨_, y, hy, h⟩))
      · cases h
  · rintro (h | h | h | ⟨c, x, hx, h⟩)
    · exact .inl h
    · exact .inr (.inl h)
    · exact .inr (.inr (.inl h))
    · refine .inr (.inr (.inr ⟨_, lookS_mem hx, ?_⟩))
      simp only [hx, Option.isSome_some, if_true]
      exact h
def MRep (w : World) (m N : Nat) (s : MS) (F : List Nat) : Prop := ∃ sb kg KF bl, MParts w m N sb kg KF bl s ∧ F = footM m sb KF bl s.seats
theorem MParts.lt {w : World} {m N sb kg : Nat} {KF : List Nat} {bl : Str → Nat × List Nat} {s : MS} (h : MParts w m N sb kg KF bl s) : ∀ k ∈ footM m sb KF bl s.seats, k < w.heap.size := by
  intro k hk
  rcases mem_footM.1 hk with rfl | rfl | hk | ⟨c, x, hx, hk⟩
  · exact (Array.getElem?_eq_some_iff.1 h.top).1
  · exact h.map.lt
  · exact h.kept.lt k hk
  · exact h.fam.lt seat_local hx k hk
theorem MParts.mod {S : List Nat} {w w' : World} {m N sb kg : Nat} {KF : List Nat} {bl : Str → Nat × List Nat} {s : MS} (h : MParts w m N sb kg KF bl s) (hm : Mod S w w') (hS : ∀ k ∈ footM m sb KF bl s.seats, k ∉ S) : MParts w' m N sb kg KF bl s := by
  have hk : ∀ k ∈ footM m sb KF bl s.seats, w'.heap[k]? = w.heap[k]? := fun k hk => hm.block k (h.lt k hk) (hS k hk)
  exact ⟨(hk m (mem_footM.2 (.inl rfl))).trans h.top, h.map.of (hk sb (mem_footM.2 (.inr (.inl rfl)))) (Nat.le_refl _) (fun _ => rfl),
    h.fam.keep seat_local (fun c x hx k hkk => hk k (mem_footM.2 (.inr (.inr (.inr ⟨c, x, hx, hkk⟩))))), h.kept.mod hm (fun k hkk => hS k (mem_footM.2 (.inr (.inr (.inl hkk))))), h.ne, h.mK, h.sK, h.off⟩
theorem MRep.lt {w : World} {m N : Nat} {s : MS} {F : List Nat} (h : MRep w m N s F) : ∀ k ∈ F, k < w.heap.size := by
  obtain ⟨sb, kg, KF, bl, h, rfl⟩ := h
  exact h.lt
theorem MRep.mod {S : List Nat} {w w' : World} {m N : Nat} {s : MS} {F : List Nat} (h : MRep w m N s F) (hm : Mod S w w') (hS : ∀ k ∈ F, k ∉ S) : MRep w' m N s F := by
  obtain ⟨sb, kg, KF, bl, h, rfl⟩ := h
  exact ⟨sb, kg, KF, bl, h.mod hm hS, rfl⟩
theorem MRep.below {w w' : World} {m N : Nat} {s : MS} {F : List Nat} (h : MRep w m N s F) (hk : Below w.heap.size w w') : MRep w' m N s F := h.mod (Mod.of_below hk []) (by simp)
theorem MRep.drewN {w : World} {m N : Nat} {s : MS} {F : List Nat} (h : MRep w m N s F) (n : Nat) : MRep (w.drewN n) m N s F := h.below (below_drewN (Below.refl _ _) n)
theorem MRep.monoN {w : World} {m N N' : Nat} {s : MS} {F : List Nat} (h : MRep w m N s F) (hN : N ≤ N') : MRep w m N' s F := by
  obtain ⟨sb, kg, KF, bl, h, rfl⟩ := h
  exact ⟨sb, kg, KF, bl, ⟨h.top, h.map.of rfl hN (fun _ => rfl), h.fam, h.kept, h.ne, h.mK, h.sK, h.off⟩, rfl⟩
theorem MParts.monoN {w : World} {m N N' sb kg : Nat} {KF : List Nat} {bl : Str → Nat × List Nat} {s : MS} (h : MParts w m N sb kg KF bl s) (hN : N ≤ N') : MParts w m N' sb kg KF bl s := ⟨h.top, h.map.of rfl hN (fun _ => rfl), h.fam, h.kept, h.ne, h.mK, h.sK, h.off⟩
/-- one part's blocks were turned: what stands anew -/
theorem MParts.upd {w w' : World} {m N' sb kg : Nat} {KF : List Nat} {bl bl' : Str → Nat × List Nat} {s s' : MS} {F0 : List Nat} (hm : Mod F0 w w') (hF0 : ∀ k ∈ F0, k ∈ footM m sb KF bl s.seats)
    (h' : MParts w' m N' sb kg KF bl' s') (hnew : ∀ k ∈ footM m sb KF bl' s'.seats, k ∈ footM m sb KF bl s.seats ∨ w.heap.size ≤ k) :
    ∃ F', MRep w' m N' s' F' ∧ Upd (footM m sb KF bl s.seats) F' w w' := ⟨_, ⟨sb, kg, KF, bl', h', rfl⟩, hm.mono hF0, hnew⟩

theorem zeroSeat (w : World) : (zeroValue 73).run Tryz.prog w = .ok (.pointer none) w := by kernel_rfl
theorem mnew (w : World) : Calls Tryz.prog 8 #[] w fun e w' => ∃ m F, e = .returned (.pointer (some ⟨m, 0, none⟩)) ∧ MRep w' m 0 MS.new F ∧ Upd [] F w w' := by
  have hmm := @run_makeMap Tryz.prog
  have HK := Lib.hid (fun w => knew w)
  go_enter Tryz.func8, Tryz.ntmps8
  go_wp2_with fail
  refine (HK.out _).mono ?_
  rintro e w1 ⟨g, KF, rfl, hr, hu⟩
  have HR := Lib.hid hr
  have HU := Lib.hid hu
  clear hr hu HK
  go_wp2_with fail
  go_ret
  have hmz : w.heap.size < w1.heap.size := by have := HU.out.1.size; simp at this; omega
  have hKF : ∀ k ∈ KF, w.heap.size < k ∧ k < w1.heap.size := fun k hk => ⟨by
    rcases HU.out.2 k hk with h | h
    · cases h
    · simp at h; omega, HR.out.lt k hk⟩
  have hb2 : Below w1.heap.size w1 (w1.alloc (.cells #[.map (some w.heap.size), .pointer (some ⟨g, 0, none⟩)] 45)) := (Below.refl _ _).alloc (Nat.le_refl _) _
  refine ⟨_, _, rfl, ⟨w.heap.size, g, KF, fun _ => (0, []), ⟨heap_alloc_new w1 _, ⟨.map [], ?_, Nat.le_refl _, fun x => ⟨rfl, fun b hb => by cases hb⟩⟩, ⟨fun c s hc => (by cases hc), fun c s c' s' hc => (by cases hc)⟩, HR.out.below hb2, by omega, fun hk => ?_, fun hk => ?_, fun c x hx => by cases hx⟩, rfl⟩, ?_, fun k hk => ?_⟩
  · refine owns_block (World.ownsMap_made w _ _ _) ?_
    rw [hb2.block _ hmz]
    exact HU.out.1.block _ (by simp) (by simp)
  · have := hKF _ hk; omega
  · have := hKF _ hk; omega
  · exact (((Mod.refl [] w).alloc _).trans HU.out.1 (by simp)).alloc _
  · rcases mem_footM.1 hk with rfl | rfl | hk | ⟨c, x, hx, -⟩
    · exact .inr (by omega)
    · exact .inr (Nat.le_refl _)
    · exact .inr (by have := hKF _ hk; omega)
    · cases hx
theorem mseat_any (m N sb kg : Nat) (KF : List Nat) (bl : Str → Nat × List Nat) (s : MS) (c : Str) (w : World) (h : MParts w m N sb kg KF bl s) (hc : c.length ≤ maxLen) :
    Calls Tryz.prog 31 #[.pointer (some ⟨m, 0, none⟩), .string ⟨c.toArray⟩] w fun e w' => e = .returned (ptrV (seatB bl s.seats c)) ∧ w = w' := by
  have c0 := cell_of_row w m 0 _ _ _ h.top
  simp only [List.getElem?_toArray, List.getElem?_cons_zero] at c0
  have hl := h.map.look Tryz.underlying42 zeroSeat (s := ⟨c.toArray⟩) (by show c.toArray.size ≤ _; simpa using hc)
  rw [show seatB bl s.seats (⟨c.toArray⟩ : ByteArray).data.toList = seatB bl s.seats c from rfl] at hl
  clear h
  generalize seatB bl s.seats c = o at *
  go_enter Tryz.func31, Tryz.ntmps31
  go_wp2_with fail
  go_ret
  exact ⟨rfl, rfl⟩
theorem mseat_nil (c : ByteArray) (w : World) : Calls Tryz.prog 31 #[.pointer none, .string c] w fun e w' => e = .returned (.pointer none) ∧ w = w' := by
  go_enter Tryz.func31, Tryz.ntmps31
  go_wp2_with fail
  go_ret
  exact ⟨rfl, rfl⟩
theorem mseat_zero (m : Nat) (c : ByteArray) (w : World) (h : w.cell? ⟨m, 0, none⟩ = some (.map none)) (hc : c.size ≤ maxLen) : Calls Tryz.prog 31 #[.pointer (some ⟨m, 0, none⟩), .string c] w fun e w' => e = .returned (.pointer none) ∧ w = w' := by
  have hl := Maps.look_nil (w := w) false kS Tryz.underlying42 (zeroSeat w) (skey hc)
  simp only [Bool.false_eq_true, if_false] at hl
  go_enter Tryz.func31, Tryz.ntmps31
  go_wp2_with fail
  go_ret
  exact ⟨rfl, rfl⟩
end
section
open Go Go.RowKit Go.Maps

def connOf (o : Option Seat) : Int := match o with | some s => s.conn | none => 0
def bestOf (n : Str) (o : Option Seat) : Int × Bool := match o with | some s => bestS n s.l | none => (0, false)
theorem mhas_any (m N : Nat) (s : MS) (F : List Nat) (c : Str) (w : World) (h : MRep w m N s F) (hc : c.length ≤ maxLen) :
    Calls Tryz.prog 11 #[.pointer (some ⟨m, 0, none⟩), .string ⟨c.toArray⟩] w fun e w' => e = .returned (.bool (lookS c s.seats).isSome) ∧ w = w' := by
  obtain ⟨sb, kg, KF, bl, h, -⟩ := h
  have HC := Lib.hid (mseat_any m N sb kg KF bl s c w h hc)
  clear h
  have HB : Hid ((seatB bl s.seats c).isSome = (lookS c s.seats).isSome) := Lib.hid (by unfold seatB; simp)
  generalize seatB bl s.seats c = o at *
  generalize (lookS c s.seats).isSome = b at *
  cases o with
  | none =>
    simp only [ptrV] at HC
    go_enter Tryz.func11, Tryz.ntmps11
    go_wp2_with fail
    refine HC.out.mono ?_
    rintro e w' ⟨rfl, rfl⟩
    go_wp2_with fail
    go_ret
    exact ⟨ret_bool HB.out, rfl⟩
  | some x =>
    simp only [ptrV] at HC
    go_enter Tryz.func11, Tryz.ntmps11
    go_wp2_with fail
    refine HC.out.mono ?_
    rintro e w' ⟨rfl, rfl⟩
    go_wp2_with fail
    go_ret
    exact ⟨ret_bool HB.out, rfl⟩
theorem seatB_some {bl : Str → Nat × List Nat} {st : Seats} {c : Str} {x : Seat} (h : lookS c st = some x) : seatB bl st c = some (bl c).1 := by unfold seatB; rw [h]; rfl
theorem seatB_none {bl : Str → Nat × List Nat} {st : Seats} {c : Str} (h : lookS c st = none) : seatB bl st c = none := by unfold seatB; rw [h]; rfl
theorem SeatRep.cells {w : World} {b : Nat} {s : Seat} {F : List Nat} (h : SeatRep w b s F) : ∃ lb G, w.cell? ⟨b, 0, none⟩ = some (.pointer (some ⟨lb, 0, none⟩)) ∧ w.cell? ⟨b, 1, none⟩ = some (.int .i64 s.conn) ∧ w.cell? ⟨b, 2, none⟩ = some (.bool s.clean) ∧ SRep w lb s.l G := by
  obtain ⟨lb, G, hb, hr, -, -⟩ := h
  exact ⟨lb, G, cell_of_row w b 0 _ _ _ hb, cell_of_row w b 1 _ _ _ hb, cell_of_row w b 2 _ _ _ hb, hr⟩
theorem mconn_any (m N : Nat) (s : MS) (F : List Nat) (c : Str) (w : World) (h : MRep w m N s F) (hc : c.length ≤ maxLen) :
    Calls Tryz.prog 12 #[.pointer (some ⟨m, 0, none⟩), .string ⟨c.toArray⟩] w fun e w' => e = .returned (.int .i64 (connOf (lookS c s.seats))) ∧ w = w' := by
  obtain ⟨sb, kg, KF, bl, h, -⟩ := h
  have HC := Lib.hid (mseat_any m N sb kg KF bl s c w h hc)
  cases ho : lookS c s.seats with
  | none =>
    rw [seatB_none ho] at HC
    simp only [ptrV] at HC
    clear h ho
    go_enter Tryz.func12, Tryz.ntmps12
    go_wp2_with fail
    refine HC.out.mono ?_
    rintro e w' ⟨rfl, rfl⟩
    go_wp2_with fail
    go_ret
    exact ⟨rfl, rfl⟩
  | some x =>
    rw [seatB_some ho] at HC
    simp only [ptrV] at HC
    obtain ⟨lb, G, c0, c1, c2, -⟩ := (h.fam.rep c x ho).cells
    clear h ho c0 c2
    go_enter Tryz.func12, Tryz.ntmps12
    go_wp2_with fail
    refine HC.out.mono ?_
    rintro e w' ⟨rfl, rfl⟩
    go_wp2_with fail
    go_ret
    exact ⟨rfl, rfl⟩
theorem mbest_any (m N : Nat) (s : MS) (F : List Nat) (c n : Str) (w : World) (h : MRep w m N s F) (hO : MOk s) (hT : Tabs w) (hc : c.length ≤ maxLen) (hn : n.length < 4294967281) :
    Calls Tryz.prog 14 #[.pointer (some ⟨m, 0, none⟩), .string ⟨c.toArray⟩, .string ⟨n.toArray⟩] w fun e w' => e = .returned (.tuple #[.int .u8 (bestOf n (lookS c s.seats)).1, .bool (bestOf n (lookS c s.seats)).2]) ∧ Below w.heap.size w w' := by
  obtain ⟨sb, kg, KF, bl, h, -⟩ := h
  have HC := Lib.hid (mseat_any m N sb kg KF bl s c w h hc)
  cases ho : lookS c s.seats with
  | none =>
    rw [seatB_none ho] at HC
    simp only [ptrV] at HC
    clear h ho hT
    go_enter Tryz.func14, Tryz.ntmps14
    go_wp2_with fail
    refine HC.out.mono ?_
    rintro e w' ⟨rfl, rfl⟩
    go_wp2_with fail
    go_ret2
    exact ⟨rfl, Below.refl _ _⟩
  | some x =>
    rw [seatB_some ho] at HC
    simp only [ptrV] at HC
    obtain ⟨lb, G, c0, c1, c2, hr⟩ := (h.fam.rep c x ho).cells
    have HB := Lib.hid (sbest_any lb x.l G n w hr (hO.look ho).2.2.1 hT hn)
    clear h ho c1 c2 hr hT hO
    go_enter Tryz.func14, Tryz.ntmps14
    go_wp2_with fail
    refine HC.out.mono ?_
    rintro e w' ⟨rfl, rfl⟩
    go_wp2_with fail
    refine HB.out.mono ?_
    rintro e w1 ⟨rfl, hk⟩
    go_wp2_with fail
    go_ret2
    exact ⟨rfl, hk⟩
theorem mkept_any (m N : Nat) (s : MS) (F : List Nat) (w : World) (h : MRep w m N s F) (hl : s.kept.length < 1000000) :
    Calls Tryz.prog 13 #[.pointer (some ⟨m, 0, none⟩)] w fun e w' => ∃ v, e = .returned v ∧ w'.ownsRow w.heap.size 26 4 v s.kept.length (msgs s.kept) ∧ Below w.heap.size w w' := by
  obtain ⟨sb, kg, KF, bl, h, -⟩ := h
  have c1 := cell_of_row w m 1 _ _ _ h.top
  simp only [List.getElem?_toArray, List.getElem?_cons_zero, List.getElem?_cons_succ] at c1
  have HK := Lib.hid (kall_any kg s.kept KF w hl h.kept)
  clear h
  go_enter Tryz.func13, Tryz.ntmps13
  go_wp2_with fail
  refine HK.out.mono ?_
  rintro e w1 ⟨v, rfl, hv, hk⟩
  go_wp2_with fail
  go_ret
  exact ⟨_, rfl, hv, hk⟩
end
section
open Go Go.RowKit Go.Maps

theorem foot_old {m sb : Nat} {KF : List Nat} {bl : Str → Nat × List Nat} {st : Seats} {c : Str} {x : Seat} (h : lookS c st = some x) {k : Nat} (hk : k ∈ (bl c).2) : k ∈ footM m sb KF bl st := mem_footM.2 (.inr (.inr (.inr ⟨c, x, h, hk⟩)))
/-- one session is set: only its own blocks, and the map's, were turned -/
theorem MParts.set {w w' : World} {m N N' sb kg : Nat} {KF : List Nat} {bl : Str → Nat × List Nat} {s s' : MS} (h : MParts w m N sb kg KF bl s) (c : Str) {x' : Seat} {b' : Nat} {F0 F' : List Nat} (hm : Mod F0 w w')
    (hF0 : ∀ k ∈ F0, k = sb ∨ ∃ x, lookS c s.seats = some x ∧ k ∈ (bl c).2) (hr : SeatRep w' b' x' F') (hF' : ∀ k ∈ F', (∃ x, lookS c s.seats = some x ∧ k ∈ (bl c).2) ∨ w.heap.size ≤ k)
    (hmap : PMap w' sb N' (updF (seatB bl s.seats) c (some b'))) (hs : ∀ d, lookS d s'.seats = if d = c then some x' else lookS d s.seats) (hk : s'.kept = s.kept) :
    ∃ F1, MRep w' m N' s' F1 ∧ Upd (footM m sb KF bl s.seats) F1 w w' := by
  have hF0f : ∀ k ∈ F0, k ∈ footM m sb KF bl s.seats := fun k hk => by
    rcases hF0 k hk with rfl | ⟨x, hx, hk⟩
    · exact mem_footM.2 (.inr (.inl rfl))
    · exact foot_old hx hk
  have hmF : m ∉ F0 := fun hin => by
    rcases hF0 m hin with e | ⟨x, hx, hk⟩
    · exact h.ne e
    · exact (h.off c x hx m hk).1 rfl
  have hKF0 : ∀ k ∈ KF, k ∉ F0 := fun k hkk hin => by
    rcases hF0 k hin with rfl | ⟨x, hx, hk⟩
    · exact h.sK hkk
    · exact (h.off c x hx k hk).2.2 hkk
  have hF0c : ∀ k ∈ F0, ∀ d x, lookS d s.seats = some x → k ∈ (bl d).2 → d = c := fun k hk d x hd hkd => by
    rcases hF0 k hk with rfl | ⟨y, hy, hk2⟩
    · exact absurd rfl (h.off d x hd k hkd).2.1
    · exact h.fam.inj d x c y hd hy k hkd hk2
  have hfam : Fam SeatRep w' (updF (fun d => lookS d s.seats) c (some x')) (updF bl c (b', F')) := by
    have hall : ∀ d y, lookS d s.seats = some y → d ≠ c → ∀ k ∈ (bl d).2, k ∉ F' := fun d y hd hdc k hk1 hk2 => by
      rcases hF' k hk2 with ⟨x, hx, h1⟩ | h1
      · exact hdc (h.fam.inj d y c x hd hx k hk1 h1)
      · have := h.fam.lt seat_local hd k hk1; omega
    refine ⟨fun d y hd => ?_, fun d y d' y' hd hd' k hk1 hk2 => ?_⟩
    · by_cases e : d = c
      · subst e; rw [updF_same] at hd ⊢; cases hd; exact hr
      · rw [updF_other e] at hd ⊢
        exact seat_local.keep (h.fam.rep d y hd) fun k hk1 => hm.block k (h.fam.lt seat_local hd k hk1) (fun hin => e (hF0c k hin d y hd hk1))
    · by_cases e : d = c
      · by_cases e' : d' = c
        · rw [e, e']
        · subst e
          rw [updF_same] at hk1
          rw [updF_other e'] at hk2 hd'
          exact absurd hk1 (hall d' y' hd' e' k hk2)
      · by_cases e' : d' = c
        · subst e'
          rw [updF_same] at hk2
          rw [updF_other e] at hk1 hd
          exact absurd hk2 (hall d y hd e k hk1)
        · rw [updF_other e] at hk1 hd
          rw [updF_other e'] at hk2 hd'
          exact h.fam.inj d y d' y' hd hd' k hk1 hk2
  have hdom : (fun d => lookS d s'.seats) = updF (fun d => lookS d s.seats) c (some x') := by
    funext d
    rw [hs]; rfl
  have hsB : seatB (updF bl c (b', F')) s'.seats = updF (seatB bl s.seats) c (some b') := by
    funext d
    unfold seatB
    rw [hs]
    by_cases e : d = c
    · subst e; rw [updF_same, updF_same]; simp
    · rw [updF_other e, updF_other e, if_neg e]
  have hml := h.lt m (mem_footM.2 (.inl rfl))
  have hsl := h.lt sb (mem_footM.2 (.inr (.inl rfl)))
  have hoff : ∀ d y, lookS d s'.seats = some y → ∀ k ∈ (updF bl c (b', F') d).2, k ≠ m ∧ k ≠ sb ∧ k ∉ KF := fun d y hd k hkd => by
    rw [hs] at hd
    by_cases e : d = c
    · subst e
      rw [updF_same] at hkd
      rcases hF' k hkd with ⟨x, hx, h1⟩ | h1
      · exact h.off d x hx k h1
      · exact ⟨by omega, by omega, fun hin => by have := h.kept.lt k hin; omega⟩
    · rw [updF_other e] at hkd
      rw [if_neg e] at hd
      exact h.off d y hd k hkd
  have h' : MParts w' m N' sb kg KF (updF bl c (b', F')) s' := ⟨(hm.block m hml hmF).trans h.top, by rw [hsB]; exact hmap, by rw [hdom]; exact hfam, by rw [hk]; exact h.kept.mod hm hKF0, h.ne, h.mK, h.sK, hoff⟩
  refine MParts.upd hm hF0f h' fun k hk1 => ?_
  rcases mem_footM.1 hk1 with rfl | rfl | h1 | ⟨d, y, hd, h1⟩
  · exact .inl (mem_footM.2 (.inl rfl))
  · exact .inl (mem_footM.2 (.inr (.inl rfl)))
  · exact .inl (mem_footM.2 (.inr (.inr (.inl h1))))
  · rw [hs] at hd
    by_cases e : d = c
    · subst e
      rw [updF_same] at h1
      rcases hF' k h1 with ⟨x, hx, h2⟩ | h2
      · exact .inl (foot_old hx h2)
      · exact .inr h2
    · rw [updF_other e] at h1
      rw [if_neg e] at hd
      exact .inl (foot_old hd h1)
/-- one session goes -/
theorem MParts.drop {w w' : World} {m N N' sb kg : Nat} {KF : List Nat} {bl : Str → Nat × List Nat} {s s' : MS} (h : MParts w m N sb kg KF bl s) (c : Str) {F0 : List Nat} (hm : Mod F0 w w')
    (hF0 : ∀ k ∈ F0, k = sb ∨ ∃ x, lookS c s.seats = some x ∧ k ∈ (bl c).2)
    (hmap : PMap w' sb N' (updF (seatB bl s.seats) c none)) (hs : ∀ d, lookS d s'.seats = if d = c then none else lookS d s.seats) (hk : s'.kept = s.kept) :
    ∃ F1, MRep w' m N' s' F1 ∧ Upd (footM m sb KF bl s.seats) F1 w w' := by
  have hF0f : ∀ k ∈ F0, k ∈ footM m sb KF bl s.seats := fun k hk => by
    rcases hF0 k hk with rfl | ⟨x, hx, hk⟩
    · exact mem_footM.2 (.inr (.inl rfl))
    · exact foot_old hx hk
  have hmF : m ∉ F0 := fun hin => by
    rcases hF0 m hin with e | ⟨x, hx, hk⟩
    · exact h.ne e
    · exact (h.off c x hx m hk).1 rfl
  have hKF0 : ∀ k ∈ KF, k ∉ F0 := fun k hkk hin => by
    rcases hF0 k hin with rfl | ⟨x, hx, hk⟩
    · exact h.sK hkk
    · exact (h.off c x hx k hk).2.2 hkk
  have hF0c : ∀ k ∈ F0, ∀ d x, lookS d s.seats = some x → k ∈ (bl d).2 → d = c := fun k hk d x hd hkd => by
    rcases hF0 k hk with rfl | ⟨y, hy, hk2⟩
    · exact absurd rfl (h.off d x hd k hkd).2.1
    · exact h.fam.inj d x c y hd hy k hkd hk2
  have hin : ∀ d y, lookS d s'.seats = some y → d ≠ c ∧ lookS d s.seats = some y := fun d y hd => by
    rw [hs] at hd
    by_cases e : d = c
    · rw [if_pos e] at hd; cases hd
    · rw [if_neg e] at hd; exact ⟨e, hd⟩
  have hfam : Fam SeatRep w' (fun d => lookS d s'.seats) bl := ⟨fun d y hd => by
    obtain ⟨e, hd⟩ := hin d y hd
    exact seat_local.keep (h.fam.rep d y hd) fun k hk1 => hm.block k (h.fam.lt seat_local hd k hk1) (fun hin => e (hF0c k hin d y hd hk1)),
    fun d y d' y' hd hd' k hk1 hk2 => h.fam.inj d y d' y' (hin d y hd).2 (hin d' y' hd').2 k hk1 hk2⟩
  have hsB : seatB bl s'.seats = updF (seatB bl s.seats) c none := by
    funext d
    unfold seatB
    rw [hs]
    by_cases e : d = c
    · subst e; rw [updF_same]; simp
    · rw [updF_other e, if_neg e]
  have hml := h.lt m (mem_footM.2 (.inl rfl))
  have h' : MParts w' m N' sb kg KF bl s' := ⟨(hm.block m hml hmF).trans h.top, by rw [hsB]; exact hmap, hfam, by rw [hk]; exact h.kept.mod hm hKF0, h.ne, h.mK, h.sK, fun d y hd => h.off d y (hin d y hd).2⟩
  refine MParts.upd hm hF0f h' fun k hk1 => ?_
  rcases mem_footM.1 hk1 with rfl | rfl | h1 | ⟨d, y, hd, h1⟩
  · exact .inl (mem_footM.2 (.inl rfl))
  · exact .inl (mem_footM.2 (.inr (.inl rfl)))
  · exact .inl (mem_footM.2 (.inr (.inr (.inl h1))))
  · exact .inl (foot_old (hin d y hd).2 h1)
/-- what is kept is turned -/
theorem MParts.keepT {w w' : World} {m N sb kg : Nat} {KF KF' : List Nat} {bl : Str → Nat × List Nat} {s : MS} {l' : List Msg} (h : MParts w m N sb kg KF bl s) (hr : KRep w' kg l' KF') (hu : Upd KF KF' w w') :
    ∃ F1, MRep w' m N ⟨s.seats, l'⟩ F1 ∧ Upd (footM m sb KF bl s.seats) F1 w w' := by
  have hml := h.lt m (mem_footM.2 (.inl rfl))
  have hsl := h.lt sb (mem_footM.2 (.inr (.inl rfl)))
  have hK : ∀ k, k < w.heap.size → k ∉ KF → k ∉ KF' := fun k hl hk hin => by
    rcases hu.2 k hin with h1 | h1
    · exact hk h1
    · omega
  have h' : MParts w' m N sb kg KF' bl ⟨s.seats, l'⟩ := ⟨(hu.1.block m hml h.mK).trans h.top, h.map.of (hu.1.block sb hsl h.sK) (Nat.le_refl _) (fun _ => rfl),
    h.fam.mod seat_local hu.1 (fun c x hc k hk => (h.off c x hc k hk).2.2), hr, h.ne, hK m hml h.mK, hK sb hsl h.sK, fun c x hc k hk => ⟨(h.off c x hc k hk).1, (h.off c x hc k hk).2.1, hK k (h.fam.lt seat_local hc k hk) (h.off c x hc k hk).2.2⟩⟩
  refine ⟨_, ⟨sb, kg, KF', bl, h', rfl⟩, hu.1.mono (fun k hk => mem_footM.2 (.inr (.inr (.inl hk)))), fun k hk => ?_⟩
  rcases mem_footM.1 hk with rfl | rfl | h1 | ⟨d, y, hd, h1⟩
  · exact .inl (mem_footM.2 (.inl rfl))
  · exact .inl (mem_footM.2 (.inr (.inl rfl)))
  · rcases hu.2 k h1 with h2 | h2
    · exact .inl (mem_footM.2 (.inr (.inr (.inl h2))))
    · exact .inr h2
  · exact .inl (foot_old hd h1)
/-- a session's filters are turned -/
theorem SeatRep.list {w w' : World} {b lb : Nat} {x : Seat} {l' : List SubE} {G G' : List Nat} (hb : w.heap[b]? = some (.cells #[.pointer (some ⟨lb, 0, none⟩), .int .i64 x.conn, .bool x.clean] 77 (0, 0))) (hn : b ∉ G) (hr : SRep w' lb l' G') (hu : Upd G G' w w') : SeatRep w' b { x with l := l' } (b :: G') :=
  ⟨lb, G', (hu.1.block b (Array.getElem?_eq_some_iff.1 hb).1 hn).trans hb, hr, fun hin => by
    rcases hu.2 b hin with h | h
    · exact hn h
    · have := (Array.getElem?_eq_some_iff.1 hb).1; omega, rfl⟩
theorem seatB_set {bl : Str → Nat × List Nat} {st : Seats} {c : Str} {x : Seat} (h : lookS c st = some x) : updF (seatB bl st) c (some (bl c).1) = seatB bl st := by
  funext d
  by_cases e : d = c
  · subst e; rw [updF_same, seatB_some h]
  · rw [updF_other e]
theorem lookS_turn' {c : Str} {x y : Seat} {st : Seats} (h : lookS c st = some y) (d : Str) : lookS d (turnS c x st) = if d = c then some x else lookS d st := lookS_turn (by rw [h]; rfl) d
theorem lookS_fresh (c : Str) (x : Seat) (st : Seats) (d : Str) : lookS d (dropS c st ++ [(c, x)]) = if d = c then some x else lookS d st := by
  rw [lookS_snoc _ (lookS_none_drop c st), lookS_drop]
  split <;> rfl
/-- 's = &seat{List: subs.New()}; m.seats[client] = s; s.conn = ..; s.clean = ..' -/
theorem MParts.fresh {W : World} {m N sb kg : Nat} {KF : List Nat} {bl : Str → Nat × List Nat} {s : MS} (h : MParts W m N sb kg KF bl s) (c : Str) (conn : Int) (cl : Bool)
    {D : DataW Unit} (hD1 : W.ownsMap Tryz.prog 9 ptrElem sb (Maps.size D) D) (hD2 : Maps.size D ≤ N) (hD3 : ∀ x, Maps.has D (.string x) = (seatB bl s.seats x).isSome ∧ ∀ b, seatB bl s.seats x = some b → ∀ z, D.atKey (.string x) z = ptrDat b)
    {lb tb : Nat} (hlb : lb = W.heap.size) (htb : tb = W.heap.size + 1) {nb : Nat} {cs : Array Value} {T : TypeId} {fr : Nat × Nat} (hnsb : nb ≠ sb) (hnb : W.heap[nb]? = some (.cells cs T fr)) :
    ∀ (W4 : World) (nn : Nat), W4.ownsMap Tryz.prog 9 ptrElem sb nn (D.put (.string c) (ptrDat tb)) → ((W.alloc (.cells #[.slice none 0 0] 106)).alloc (.cells #[.pointer (some ⟨lb, 0, none⟩), .int .i64 0, .bool false] 77)).drew.grownBy W4 (some sb) →
      W4.heap[nb]? = some (.cells cs T fr) ∧ W4.heap[tb]? = some (.cells #[.pointer (some ⟨lb, 0, none⟩), .int .i64 0, .bool false] 77 (0, 0)) ∧
      (W4.setCell ⟨tb, 1, none⟩ (.int .i64 conn)).heap[nb]? = some (.cells cs T fr) ∧ (W4.setCell ⟨tb, 1, none⟩ (.int .i64 conn)).heap[tb]? = some (.cells #[.pointer (some ⟨lb, 0, none⟩), .int .i64 conn, .bool false] 77 (0, 0)) ∧
      Hid (∃ F1, MRep ((W4.setCell ⟨tb, 1, none⟩ (.int .i64 conn)).setCell ⟨tb, 2, none⟩ (.bool cl)) m (N + 1) ⟨dropS c s.seats ++ [(c, ⟨[], conn, cl⟩)], s.kept⟩ F1 ∧ Upd (footM m sb KF bl s.seats) F1 W ((W4.setCell ⟨tb, 1, none⟩ (.int .i64 conn)).setCell ⟨tb, 2, none⟩ (.bool cl))) := by
  intro W4 nn hown hg
  have hsb := h.lt sb (mem_footM.2 (.inr (.inl rfl)))
  have hnl := (Array.getElem?_eq_some_iff.1 hnb).1
  have hz : ((W.alloc (.cells #[.slice none 0 0] 106)).alloc (.cells #[.pointer (some ⟨lb, 0, none⟩), .int .i64 0, .bool false] 77)).drew.heap.size = W.heap.size + 2 := by simp
  have k4 : ∀ k, k < W.heap.size + 2 → k ≠ sb → W4.heap[k]? = ((W.alloc (.cells #[.slice none 0 0] 106)).alloc (.cells #[.pointer (some ⟨lb, 0, none⟩), .int .i64 0, .bool false] 77)).heap[k]? := fun k hk hne => hg.block k (by rw [hz]; exact hk) (by simpa using hne)
  have e1 : W4.heap[nb]? = some (.cells cs T fr) := by
    rw [k4 nb (by omega) hnsb, Below.heap_alloc _ _ _ (by simp; omega), Below.heap_alloc _ _ _ hnl]; exact hnb
  have e2 : W4.heap[tb]? = some (.cells #[.pointer (some ⟨lb, 0, none⟩), .int .i64 0, .bool false] 77 (0, 0)) := by
    rw [k4 tb (by omega) (by omega), show tb = (W.alloc (.cells #[.slice none 0 0] 106)).heap.size by simp [htb]]; exact heap_alloc_new _ _
  have e0 : W4.heap[lb]? = some (.cells #[.slice none 0 0] 106 (0, 0)) := by
    rw [k4 lb (by omega) (by omega), Below.heap_alloc _ _ _ (by simp; omega), hlb]; exact heap_alloc_new _ _
  have f1 : ∀ k, k ≠ tb → ∀ v, (W4.setCell ⟨tb, 1, none⟩ v).heap[k]? = W4.heap[k]? := fun k hk v => Below.heap_setCell _ _ _ _ (by show k ≠ tb; exact hk)
  have f2 : ∀ (X : World) k, k ≠ tb → ∀ v, (X.setCell ⟨tb, 2, none⟩ v).heap[k]? = X.heap[k]? := fun X k hk v => Below.heap_setCell _ _ _ _ (by show k ≠ tb; exact hk)
  have e4 := heap_setCell_same W4 tb 1 _ _ (.int .i64 conn) e2
  have e5 := heap_setCell_same _ tb 2 _ _ (.bool cl) e4
  refine ⟨e1, e2, (f1 nb (by omega) _).trans e1, e4, Lib.hid ?_⟩
  have hm0 : Mod [sb] W ((W.alloc (.cells #[.slice none 0 0] 106)).alloc (.cells #[.pointer (some ⟨lb, 0, none⟩), .int .i64 0, .bool false] 77)).drew := (((Mod.refl [sb] W).alloc _).alloc _).drew
  have hm := ((hm0.grown hg (fun k hk => by cases hk; left; simp)).setCell (p := ⟨tb, 1, none⟩) (.inr (by show W.heap.size ≤ tb; omega)) (.int .i64 conn)).setCell (p := ⟨tb, 2, none⟩) (.inr (by show W.heap.size ≤ tb; omega)) (.bool cl)
  have hr0 : SRep (W.alloc (.cells #[.slice none 0 0] 106)) lb [] [lb] :=
    ⟨none, 0, [], by rw [hlb]; exact heap_alloc_new _ _, .inl ⟨rfl, rfl, rfl⟩, by simp, by simp [maxLen], by simp, List.Pairwise.nil, by simp, rfl⟩
  refine h.set c (x' := ⟨[], conn, cl⟩) (b' := tb) (F' := [tb, lb]) hm (fun k hk => .inl (List.mem_singleton.1 hk)) ⟨lb, [lb], e5, srep_local.keep hr0 fun k hk => ?_, by simp; omega, rfl⟩ (fun k hk => .inr ?_) (PMap.put hD1 hD2 hD3 (owns_block hown ?_)) (fun d => lookS_fresh c _ _ d) rfl
  · obtain rfl := List.mem_singleton.1 hk
    rw [f2 _ k (by omega), f1 k (by omega), e0, hlb]
    exact (heap_alloc_new _ _).symm
  · simp only [List.mem_cons, List.not_mem_nil, or_false] at hk
    omega
  · rw [f2 _ sb (by omega), f1 sb (by omega)]
/-- 's.conn = ..; s.clean = ..' of a session that is there -/
theorem MParts.again {W : World} {m N sb kg : Nat} {KF : List Nat} {bl : Str → Nat × List Nat} {s : MS} (h : MParts W m N sb kg KF bl s) {c : Str} {x : Seat} (hx : lookS c s.seats = some x) (conn : Int) (cl : Bool) :
    ∃ lb, W.heap[(bl c).1]? = some (.cells #[.pointer (some ⟨lb, 0, none⟩), .int .i64 x.conn, .bool x.clean] 77 (0, 0)) ∧ (W.setCell ⟨(bl c).1, 1, none⟩ (.int .i64 conn)).heap[(bl c).1]? = some (.cells #[.pointer (some ⟨lb, 0, none⟩), .int .i64 conn, .bool x.clean] 77 (0, 0)) ∧
      ∀ st', (∀ d, lookS d st' = if d = c then some ⟨x.l, conn, cl⟩ else lookS d s.seats) → ∃ F1, MRep ((W.setCell ⟨(bl c).1, 1, none⟩ (.int .i64 conn)).setCell ⟨(bl c).1, 2, none⟩ (.bool cl)) m (N + 1) ⟨st', s.kept⟩ F1 ∧ Upd (footM m sb KF bl s.seats) F1 W ((W.setCell ⟨(bl c).1, 1, none⟩ (.int .i64 conn)).setCell ⟨(bl c).1, 2, none⟩ (.bool cl)) := by
  obtain ⟨lb, G, hb, hr, hn, hF⟩ := h.fam.rep c x hx
  have hbin : (bl c).1 ∈ (bl c).2 := by rw [hF]; simp
  have e4 := heap_setCell_same W (bl c).1 1 _ _ (.int .i64 conn) hb
  have e5 := heap_setCell_same _ (bl c).1 2 _ _ (.bool cl) e4
  have hsbne := (h.off c x hx _ hbin).2.1
  refine ⟨lb, hb, e4, fun st' hst => ?_⟩
  have hm : Mod (bl c).2 W ((W.setCell ⟨(bl c).1, 1, none⟩ (.int .i64 conn)).setCell ⟨(bl c).1, 2, none⟩ (.bool cl)) := ((Mod.refl _ W).setCell (p := ⟨(bl c).1, 1, none⟩) (.inl hbin) _).setCell (p := ⟨(bl c).1, 2, none⟩) (.inl hbin) _
  have hk : ∀ k, k ≠ (bl c).1 → ((W.setCell ⟨(bl c).1, 1, none⟩ (.int .i64 conn)).setCell ⟨(bl c).1, 2, none⟩ (.bool cl)).heap[k]? = W.heap[k]? := fun k hne => by
    rw [Below.heap_setCell _ _ _ _ (by show k ≠ (bl c).1; exact hne), Below.heap_setCell _ _ _ _ (by show k ≠ (bl c).1; exact hne)]
  refine h.set c (x' := ⟨x.l, conn, cl⟩) (b' := (bl c).1) (F' := (bl c).2) hm (fun k hk => .inr ⟨x, hx, hk⟩) ⟨lb, G, e5, srep_local.keep hr fun k hkG => hk k (fun e => hn (e ▸ hkG)), hn, hF⟩ (fun k hk => .inl ⟨x, hx, hk⟩) (h.map.of (hk sb hsbne.symm) (Nat.le_succ _) fun d => ?_) hst rfl
  rw [seatB_set hx]
end
end Go.Proofs.YthfeckndkmhieaaGreatDoor
