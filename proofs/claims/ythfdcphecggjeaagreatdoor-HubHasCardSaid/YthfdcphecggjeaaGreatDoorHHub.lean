/- The hub's laws: calls of a hub's trie and keep, at either hub. -/
import Derived.Test.YthfdcphecggjeaaGreatDoorHDoesW
import Derived.Test.YthfdcphecggjeaaGreatDoorDT
import Derived.Test.YthfdcphecggjeaaGreatDoorDW
import Derived.Test.YthfdcphecggjeaaGreatDoorHSameT
namespace Go.Proofs.YthfdcphecggjeaaGreatDoor
open Go Go.RowKit

section
variable {w0 w : World} {h n k : Nat} {s : HubS} {ns : List NoteK} {F : List Nat} {t : Nat}
theorem ptr_same {w : World} {p : Addr} {t t' : Nat} (h : w.cell? p = some (.pointer (some ⟨t, 0, none⟩))) (h' : w.cell? p = some (.pointer (some ⟨t', 0, none⟩))) : t = t' := by
  rw [h] at h'
  simpa using h'
theorem hb_match {lv : Value} (p : Hb w0 w h n k s lv ns F) (hT : Tabs w0) (hk : k ≤ 1000) (t0 : w.cell? ⟨h, 0, none⟩ = some (.pointer (some ⟨t, 0, none⟩))) (na : ByteArray) (hs : na.size ≤ 300) :
    Calls Tryz.prog 26 #[.pointer (some ⟨t, 0, none⟩), .string na] w fun e w' => ∃ a c, e = .returned (.slice a (toldG s.gs na.data.toList).length c) ∧ Row w' a (strs (toldG s.gs na.data.toList)) ∧ Below w.heap.size w w' := by
  obtain ⟨t', N, Ft, t1, hr, -⟩ := p.lensT
  cases ptr_same t0 t1
  exact hmatch k t N na s.gs Ft w hr (hT.below p.bel) hs hk
theorem hb_of {lv : Value} (p : Hb w0 w h n k s lv ns F) (hk : k ≤ 1000) (t0 : w.cell? ⟨h, 0, none⟩ = some (.pointer (some ⟨t, 0, none⟩))) (cl : ByteArray) :
    Calls Tryz.prog 28 #[.pointer (some ⟨t, 0, none⟩), .string cl] w fun e w' => ∃ a c, e = .returned (.slice a (ofL cl.data.toList s.gs).length c) ∧ Row w' a (strs (ofL cl.data.toList s.gs)) ∧ Below w.heap.size w w' := by
  obtain ⟨t', N, Ft, t1, hr, -⟩ := p.lensT
  cases ptr_same t0 t1
  refine (hof k t N cl s.gs Ft w hr hk).mono ?_
  rintro e w' ⟨v, rfl, ho, hb⟩
  obtain ⟨a, c, rfl, hr, -, -⟩ := ownsRow_row ho
  exact ⟨a, c, rfl, hr, hb⟩
theorem hb_nodes {lv : Value} (p : Hb w0 w h n k s lv ns F) (t0 : w.cell? ⟨h, 0, none⟩ = some (.pointer (some ⟨t, 0, none⟩))) :
    Calls Tryz.prog 33 #[.pointer (some ⟨t, 0, none⟩)] w fun e w' => e = .returned (.int .i64 (nodesOf s.gs)) ∧ w = w' := by
  obtain ⟨t', N, Ft, t1, hr, -⟩ := p.lensT
  cases ptr_same t0 t1
  have := hnodes k t N s.gs Ft w hr
  rwa [hr.count] at this
theorem hb_find {lv : Value} (p : Hb w0 w h n k s lv ns F) (hT : Tabs w0) (hk : k ≤ 1000) (t0 : w.cell? ⟨h, 1, none⟩ = some (.pointer (some ⟨t, 0, none⟩))) (fi : ByteArray) (hs : fi.size ≤ 300) :
    Calls Tryz.prog 31 #[.pointer (some ⟨t, 0, none⟩), .string fi] w fun e w' => ∃ a c, e = .returned (.slice a (finds fi.data.toList s.kp).length c) ∧ Row w' a (msgs (finds fi.data.toList s.kp)) ∧ Below w.heap.size w w' := by
  obtain ⟨t', KF, t1, hr, -⟩ := p.lensK
  cases ptr_same t0 t1
  refine (kfind_any fi t s.kp KF w (by have := p.kl; omega) (hT.below p.bel) (by omega) (fun m hm => by have := p.ok m hm; omega) hr).mono ?_
  rintro e w' ⟨v, rfl, ho, hb⟩
  obtain ⟨a, c, rfl, hr, -, -⟩ := ownsRow_row ho
  exact ⟨a, c, rfl, hr, hb⟩
theorem hb_get {lv : Value} (p : Hb w0 w h n k s lv ns F) (t0 : w.cell? ⟨h, 1, none⟩ = some (.pointer (some ⟨t, 0, none⟩))) (na : ByteArray) (hs : na.size ≤ 300) :
    Calls Tryz.prog 23 #[.pointer (some ⟨t, 0, none⟩), .string na] w fun e w' => e = .returned (.tuple #[(orNone (get na.data.toList s.kp)).val, .bool (get na.data.toList s.kp).isSome]) ∧ Below w.heap.size w w' := by
  obtain ⟨t', KF, t1, hr, -⟩ := p.lensK
  cases ptr_same t0 t1
  exact kget_any t na s.kp KF w hr (by unfold maxLen; omega)
theorem hb_add {lv : Value} (p : Hb w0 w h n k s lv ns F) (hT : Tabs w0) (hk : k ≤ 1000) (t0 : w.cell? ⟨h, 0, none⟩ = some (.pointer (some ⟨t, 0, none⟩))) (f c : ByteArray) (hf : f.size ≤ 300) (hc : c.size ≤ 300) :
    Calls Tryz.prog 35 #[.pointer (some ⟨t, 0, none⟩), .string f, .string c] w fun e w' => e = .returned (.bool (addB s.gs f.data.toList c.data.toList)) ∧ w'.cell? ⟨h, 0, none⟩ = some (.pointer (some ⟨t, 0, none⟩)) ∧ ∃ F', Hb w0 w' h n (k + 1) ⟨addG s.gs f.data.toList c.data.toList, s.kp⟩ lv ns F' ∧ Upd F F' w w' := by
  obtain ⟨t', N, Ft, t1, hr, hup⟩ := p.lensT
  cases ptr_same t0 t1
  refine (hadd k t N f c s.gs Ft w hr (hT.below p.bel) hf hc hk).mono ?_
  rintro e w' ⟨rfl, N', Ft', hr', hu'⟩
  obtain ⟨c0, F', hb', hu⟩ := hup w w' (Below.refl _ _) _ _ N' Ft' hr' hu' (Nat.le_succ k) (addG_cl p.cl (by simpa using hc))
  exact ⟨rfl, c0, F', hb', hu⟩
theorem hb_rem {lv : Value} (p : Hb w0 w h n k s lv ns F) (hT : Tabs w0) (hk : k ≤ 1000) (t0 : w.cell? ⟨h, 0, none⟩ = some (.pointer (some ⟨t, 0, none⟩))) (f c : ByteArray) (hf : f.size ≤ 300) (hc : c.size ≤ 300) :
    Calls Tryz.prog 37 #[.pointer (some ⟨t, 0, none⟩), .string f, .string c] w fun e w' => e = .returned (.bool (remB s.gs f.data.toList c.data.toList)) ∧ w'.cell? ⟨h, 0, none⟩ = some (.pointer (some ⟨t, 0, none⟩)) ∧ ∃ F', Hb w0 w' h n k ⟨s.gs.erase (f.data.toList, c.data.toList), s.kp⟩ lv ns F' ∧ Upd F F' w w' := by
  obtain ⟨t', N, Ft, t1, hr, hup⟩ := p.lensT
  cases ptr_same t0 t1
  refine (hrem k t N f c s.gs Ft w hr (hT.below p.bel) hf hc hk).mono ?_
  rintro e w' ⟨rfl, N', Ft', hr', hu'⟩
  obtain ⟨c0, F', hb', hu⟩ := hup w w' (Below.refl _ _) _ _ N' Ft' hr' hu' (Nat.le_refl k) (fun g hg => p.cl g (List.mem_of_mem_erase hg))
  exact ⟨rfl, c0, F', hb', hu⟩
theorem db_match {lv : Nat} (p : Db w0 w h n k s lv ns F) (hk : k ≤ 1000) (t0 : w.cell? ⟨h, 0, none⟩ = some (.pointer (some ⟨t, 0, none⟩))) (na : ByteArray) (hs : na.size ≤ 300) :
    Calls Tryz.prog 27 #[.pointer (some ⟨t, 0, none⟩), .string na] w fun e w' => ∃ a c, e = .returned (.slice a (toldG s.gs na.data.toList).length c) ∧ Row w' a (strs (toldG s.gs na.data.toList)) ∧ Below w.heap.size w w' := by
  obtain ⟨t', N, Ft, t1, hr, -⟩ := p.lensT
  cases ptr_same t0 t1
  exact tdmatchT_any t s.gs Ft na w hr.1 (by have := hr.2.2.2; omega) hs hr.2.2.1
theorem db_of {lv : Nat} (p : Db w0 w h n k s lv ns F) (hk : k ≤ 1000) (t0 : w.cell? ⟨h, 0, none⟩ = some (.pointer (some ⟨t, 0, none⟩))) (cl : ByteArray) :
    Calls Tryz.prog 29 #[.pointer (some ⟨t, 0, none⟩), .string cl] w fun e w' => ∃ a c, e = .returned (.slice a (ofL cl.data.toList s.gs).length c) ∧ Row w' a (strs (ofL cl.data.toList s.gs)) ∧ Below w.heap.size w w' := by
  obtain ⟨t', N, Ft, t1, hr, -⟩ := p.lensT
  cases ptr_same t0 t1
  exact tdof_any t s.gs Ft cl w hr.1 (by have := hr.2.2.2; omega)
theorem db_nodes {lv : Nat} (p : Db w0 w h n k s lv ns F) (hk : k ≤ 1000) (t0 : w.cell? ⟨h, 0, none⟩ = some (.pointer (some ⟨t, 0, none⟩))) :
    Calls Tryz.prog 34 #[.pointer (some ⟨t, 0, none⟩)] w fun e w' => e = .returned (.int .i64 (nodesOf s.gs)) ∧ Below w.heap.size w w' := by
  obtain ⟨t', N, Ft, t1, hr, -⟩ := p.lensT
  cases ptr_same t0 t1
  exact tdnodes_any t s.gs Ft w hr.1 (by have := hr.2.2.2; omega) hr.2.2.1
theorem db_find {lv : Nat} (p : Db w0 w h n k s lv ns F) (hk : k ≤ 1000) (t0 : w.cell? ⟨h, 1, none⟩ = some (.pointer (some ⟨t, 0, none⟩))) (fi : ByteArray) (hs : fi.size ≤ 300) :
    Calls Tryz.prog 32 #[.pointer (some ⟨t, 0, none⟩), .string fi] w fun e w' => ∃ a c, e = .returned (.slice a (finds fi.data.toList s.kp).length c) ∧ Row w' a (msgs (finds fi.data.toList s.kp)) ∧ Below w.heap.size w w' := by
  obtain ⟨t', KF, t1, hr, -⟩ := p.lensK
  cases ptr_same t0 t1
  refine (rfind_any fi t s.kp KF w (by have := p.kl; omega) (by omega) (fun m hm => by have := p.ok m hm; omega) hr).mono ?_
  rintro e w' ⟨v, rfl, ho, hb⟩
  obtain ⟨a, c, rfl, hr, -, -⟩ := ownsRow_row ho
  exact ⟨a, c, rfl, hr, hb⟩
theorem db_get {lv : Nat} (p : Db w0 w h n k s lv ns F) (hk : k ≤ 1000) (t0 : w.cell? ⟨h, 1, none⟩ = some (.pointer (some ⟨t, 0, none⟩))) (na : ByteArray) :
    Calls Tryz.prog 24 #[.pointer (some ⟨t, 0, none⟩), .string na] w fun e w' => e = .returned (.tuple #[(orNone (get na.data.toList s.kp)).val, .bool (get na.data.toList s.kp).isSome]) ∧ Below w.heap.size w w' := by
  obtain ⟨t', KF, t1, hr, -⟩ := p.lensK
  cases ptr_same t0 t1
  exact rget_any t na s.kp KF w hr (by have := p.kl; omega)
theorem db_add {lv : Nat} (p : Db w0 w h n k s lv ns F) (hk : k ≤ 1000) (t0 : w.cell? ⟨h, 0, none⟩ = some (.pointer (some ⟨t, 0, none⟩))) (f c : ByteArray) (hf : f.size ≤ 300) (hc : c.size ≤ 300) :
    Calls Tryz.prog 36 #[.pointer (some ⟨t, 0, none⟩), .string f, .string c] w fun e w' => e = .returned (.bool (addB s.gs f.data.toList c.data.toList)) ∧ w'.cell? ⟨h, 0, none⟩ = some (.pointer (some ⟨t, 0, none⟩)) ∧ ∃ F', Db w0 w' h n (k + 1) ⟨addG s.gs f.data.toList c.data.toList, s.kp⟩ lv ns F' ∧ Upd F F' w w' := by
  obtain ⟨t', N, Ft, t1, hr, hup⟩ := p.lensT
  cases ptr_same t0 t1
  refine (dadd_h k t N f c s.gs Ft w hr hf hk).mono ?_
  rintro e w' ⟨rfl, N', Ft', hr', hu'⟩
  obtain ⟨c0, F', hb', hu⟩ := hup w w' (Below.refl _ _) _ _ N' Ft' hr' hu' (Nat.le_succ k) (addG_cl p.cl (by simpa using hc))
  exact ⟨rfl, c0, F', hb', hu⟩
theorem db_rem {lv : Nat} (p : Db w0 w h n k s lv ns F) (hk : k ≤ 1000) (t0 : w.cell? ⟨h, 0, none⟩ = some (.pointer (some ⟨t, 0, none⟩))) (f c : ByteArray) :
    Calls Tryz.prog 38 #[.pointer (some ⟨t, 0, none⟩), .string f, .string c] w fun e w' => e = .returned (.bool (remB s.gs f.data.toList c.data.toList)) ∧ w'.cell? ⟨h, 0, none⟩ = some (.pointer (some ⟨t, 0, none⟩)) ∧ ∃ F', Db w0 w' h n k ⟨s.gs.erase (f.data.toList, c.data.toList), s.kp⟩ lv ns F' ∧ Upd F F' w w' := by
  obtain ⟨t', N, Ft, t1, hr, hup⟩ := p.lensT
  cases ptr_same t0 t1
  refine (drem_h k t N f c s.gs Ft w hr hk).mono ?_
  rintro e w' ⟨rfl, N', Ft', hr', hu'⟩
  obtain ⟨c0, F', hb', hu⟩ := hup w w' (Below.refl _ _) _ _ N' Ft' hr' hu' (Nat.le_refl k) (fun g hg => p.cl g (List.mem_of_mem_erase hg))
  exact ⟨rfl, c0, F', hb', hu⟩
end
end Go.Proofs.YthfdcphecggjeaaGreatDoor
