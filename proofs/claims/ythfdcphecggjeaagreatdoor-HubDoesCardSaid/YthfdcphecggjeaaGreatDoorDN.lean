/- The document's hub: how it lies in memory; its parts, turned one by one. (Printed by mkdmem.py.) The document's hub: New walked; a log joined. The document's hub: its trie's laws, with what is known of the hints. -/
import Derived.Test.YthfdcphecggjeaaGreatDoorDX
import Derived.Test.YthfdcphecggjeaaGreatDoorQX
import Derived.Test.YthfdcphecggjeaaGreatDoorDT
import Derived.Test.YthfdcphecggjeaaGreatDoorDW
namespace Go.Proofs.YthfdcphecggjeaaGreatDoor
section
open Go Go.RowKit

/-- the document's trie, with what is known of its hints; N is not asked -/
def DR (k : Nat) (w : World) (t : Nat) (gs : List Hint) (_N : Nat) (F : List Nat) : Prop := TRep w t gs F ∧ HRising gs ∧ (∀ g ∈ gs, g.1.length ≤ 300) ∧ gs.length ≤ k
theorem DR.lt {k t N : Nat} {w : World} {gs : List Hint} {F : List Nat} (h : DR k w t gs N F) : ∀ j ∈ F, j < w.heap.size := h.1.lt
theorem DR.mod {k t N : Nat} {w w' : World} {gs : List Hint} {F S : List Nat} (h : DR k w t gs N F) (hm : Mod S w w') (hS : ∀ k ∈ F, k ∉ S) : DR k w' t gs N F := ⟨h.1.mod hm hS, h.2⟩
theorem DR.below {k t N : Nat} {w w' : World} {gs : List Hint} {F : List Nat} (h : DR k w t gs N F) (hb : Below w.heap.size w w') : DR k w' t gs N F := ⟨h.1.below hb, h.2⟩
theorem DR.more {k m t N : Nat} {w : World} {gs : List Hint} {F : List Nat} (h : DR k w t gs N F) (hm : k ≤ m) : DR m w t gs N F := ⟨h.1, h.2.1, h.2.2.1, Nat.le_trans h.2.2.2 hm⟩
/-- A hub lies at block h, beside a log. -/
structure DbParts (w : World) (h t kg n k N : Nat) (s : HubS) (lv : Nat) (ns : List NoteK) (Ft KF G : List Nat) : Prop where
  top : w.heap[h]? = some (.cells #[.pointer (some ⟨t, 0, none⟩), .pointer (some ⟨kg, 0, none⟩), .int .i64 n] 70 (0, 0))
  tr : DR k w t s.gs N Ft
  kp : RRep w kg s.kp KF
  lg : DLogAt w lv ns G
  hT : h ∉ Ft
  hK : h ∉ KF
  hG : h ∉ G
  tK : ∀ j ∈ Ft, j ∉ KF
  tG : ∀ j ∈ Ft, j ∉ G
  kG : ∀ j ∈ KF, j ∉ G
section
variable {w w' : World} {h t kg n k k' N N' : Nat} {s : HubS} {lv : Nat} {ns : List NoteK} {Ft KF G Ft' KF' G' : List Nat}
theorem DbParts.lt (p : DbParts w h t kg n k N s lv ns Ft KF G) : ∀ j ∈ footH h Ft KF G, j < w.heap.size := by
  intro j hj
  rcases mem_footH.1 hj with rfl | hj | hj | hj
  · exact (Array.getElem?_eq_some_iff.1 p.top).1
  · exact p.tr.lt j hj
  · exact p.kp.lt j hj
  · exact p.lg.lt j hj
theorem DbParts.mod {S : List Nat} (p : DbParts w h t kg n k N s lv ns Ft KF G) (hm : Mod S w w') (hS : ∀ j ∈ footH h Ft KF G, j ∉ S) : DbParts w' h t kg n k N s lv ns Ft KF G :=
  ⟨(hm.block h (p.lt h (mem_footH.2 (.inl rfl))) (hS h (mem_footH.2 (.inl rfl)))).trans p.top, p.tr.mod hm fun j hj => hS j (mem_footH.2 (.inr (.inl hj))), p.kp.mod hm fun j hj => hS j (mem_footH.2 (.inr (.inr (.inl hj)))),
    p.lg.mod hm fun j hj => hS j (mem_footH.2 (.inr (.inr (.inr hj)))), p.hT, p.hK, p.hG, p.tK, p.tG, p.kG⟩
/-- the trie is turned -/
theorem DbParts.trie {gs' : List Hint} (p : DbParts w h t kg n k N s lv ns Ft KF G) (hr : DR k' w' t gs' N' Ft') (hu : Upd Ft Ft' w w') :
    DbParts w' h t kg n k' N' ⟨gs', s.kp⟩ lv ns Ft' KF G ∧ Upd (footH h Ft KF G) (footH h Ft' KF G) w w' := by
  have hl := p.lt
  have hh : h < w.heap.size := hl h (mem_footH.2 (.inl rfl))
  refine ⟨⟨(hu.1.block h hh p.hT).trans p.top, hr, p.kp.mod hu.1 fun j hj hj' => p.tK j hj' hj, p.lg.mod hu.1 fun j hj hj' => p.tG j hj' hj, fresh_not hh p.hT hu.2, p.hK, p.hG, fun j hj hj' => ?_, fun j hj hj' => ?_, p.kG⟩, hu.1.mono fun j hj => mem_footH.2 (.inr (.inl hj)), fun j hj => ?_⟩
  · exact fresh_not (p.kp.lt j hj') (fun h1 => p.tK j h1 hj') hu.2 hj
  · exact fresh_not (p.lg.lt j hj') (fun h1 => p.tG j h1 hj') hu.2 hj
  · rcases mem_footH.1 hj with rfl | hj | hj | hj
    · exact .inl (mem_footH.2 (.inl rfl))
    · exact (hu.2 j hj).imp (fun h1 => mem_footH.2 (.inr (.inl h1))) id
    · exact .inl (mem_footH.2 (.inr (.inr (.inl hj))))
    · exact .inl (mem_footH.2 (.inr (.inr (.inr hj))))
/-- what is kept is turned -/
theorem DbParts.keep {kp' : List Msg} (p : DbParts w h t kg n k N s lv ns Ft KF G) (hr : RRep w' kg kp' KF') (hu : Upd KF KF' w w') :
    DbParts w' h t kg n k N ⟨s.gs, kp'⟩ lv ns Ft KF' G ∧ Upd (footH h Ft KF G) (footH h Ft KF' G) w w' := by
  have hl := p.lt
  have hh : h < w.heap.size := hl h (mem_footH.2 (.inl rfl))
  refine ⟨⟨(hu.1.block h hh p.hK).trans p.top, p.tr.mod hu.1 fun j hj hj' => p.tK j hj hj', hr, p.lg.mod hu.1 fun j hj hj' => p.kG j hj' hj, p.hT, fresh_not hh p.hK hu.2, p.hG, fun j hj hj' => ?_, p.tG, fun j hj hj' => ?_⟩, hu.1.mono fun j hj => mem_footH.2 (.inr (.inr (.inl hj))), fun j hj => ?_⟩
  · exact fresh_not (p.tr.lt j hj) (p.tK j hj) hu.2 hj'
  · exact fresh_not (p.lg.lt j hj') (fun h1 => p.kG j h1 hj') hu.2 hj
  · rcases mem_footH.1 hj with rfl | hj | hj | hj
    · exact .inl (mem_footH.2 (.inl rfl))
    · exact .inl (mem_footH.2 (.inr (.inl hj)))
    · exact (hu.2 j hj).imp (fun h1 => mem_footH.2 (.inr (.inr (.inl h1)))) id
    · exact .inl (mem_footH.2 (.inr (.inr (.inr hj))))
/-- a note more -/
theorem DbParts.log {ns' : List NoteK} (p : DbParts w h t kg n k N s lv ns Ft KF G) (hr : DLogAt w' lv ns' G') (hu : Upd G G' w w') :
    DbParts w' h t kg n k N s lv ns' Ft KF G' ∧ Upd (footH h Ft KF G) (footH h Ft KF G') w w' := by
  have hl := p.lt
  have hh : h < w.heap.size := hl h (mem_footH.2 (.inl rfl))
  refine ⟨⟨(hu.1.block h hh p.hG).trans p.top, p.tr.mod hu.1 fun j hj hj' => p.tG j hj hj', p.kp.mod hu.1 fun j hj hj' => p.kG j hj hj', hr, p.hT, p.hK, fresh_not hh p.hG hu.2, p.tK, fun j hj hj' => ?_, fun j hj hj' => ?_⟩, hu.1.mono fun j hj => mem_footH.2 (.inr (.inr (.inr hj))), fun j hj => ?_⟩
  · exact fresh_not (p.tr.lt j hj) (p.tG j hj) hu.2 hj'
  · exact fresh_not (p.kp.lt j hj) (p.kG j hj) hu.2 hj'
  · rcases mem_footH.1 hj with rfl | hj | hj | hj
    · exact .inl (mem_footH.2 (.inl rfl))
    · exact .inl (mem_footH.2 (.inr (.inl hj)))
    · exact .inl (mem_footH.2 (.inr (.inr (.inl hj))))
    · exact (hu.2 j hj).imp (fun h1 => mem_footH.2 (.inr (.inr (.inr h1)))) id
end
/-- a hub of the call's own, beside a log: k bounds what was done -/
structure Db (w0 w : World) (h n k : Nat) (s : HubS) (lv : Nat) (ns : List NoteK) (F : List Nat) : Prop where
  p : ∃ t kg N Ft KF G, DbParts w h t kg n k N s lv ns Ft KF G ∧ F = footH h Ft KF G
  kl : s.kp.length ≤ k
  nl : ns.length ≤ k
  ok : ∀ m ∈ s.kp, m.t.size ≤ 300
  cl : ∀ g ∈ s.gs, g.2.length ≤ 300
  up : Up s.kp
  fF : ∀ j ∈ F, w0.heap.size ≤ j
  bel : Below w0.heap.size w0 w
theorem Db.lt {w0 w : World} {h n k : Nat} {s : HubS} {lv : Nat} {ns : List NoteK} {F : List Nat} (p : Db w0 w h n k s lv ns F) : ∀ j ∈ F, j < w.heap.size := by
  obtain ⟨t, kg, N, Ft, KF, G, h1, rfl⟩ := p.p
  exact h1.lt
theorem Db.mod {w0 w w' : World} {h n k : Nat} {s : HubS} {lv : Nat} {ns : List NoteK} {F S S' : List Nat} (p : Db w0 w h n k s lv ns F) (hu : Upd S S' w w') (hd : ∀ j ∈ F, j ∉ S) (hS : ∀ j ∈ S, w0.heap.size ≤ j) : Db w0 w' h n k s lv ns F := by
  obtain ⟨t, kg, N, Ft, KF, G, h1, rfl⟩ := p.p
  exact ⟨⟨t, kg, N, Ft, KF, G, h1.mod hu.1 hd, rfl⟩, p.kl, p.nl, p.ok, p.cl, p.up, p.fF, (lie_below p.bel (Nat.le_refl _) hS hu).1⟩
theorem Db.below {w0 w w' : World} {h n k : Nat} {s : HubS} {lv : Nat} {ns : List NoteK} {F : List Nat} (p : Db w0 w h n k s lv ns F) (hb : Below w.heap.size w w') : Db w0 w' h n k s lv ns F :=
  p.mod (S := []) (S' := []) ⟨Mod.of_below hb _, fun _ h => .inl h⟩ (by simp) (by simp)
theorem Db.beside {w0 w : World} {h n k : Nat} {s : HubS} {lv : Nat} {ns : List NoteK} {F : List Nat} (p : Db w0 w h n k s lv ns F) {a : Option Addr} {xs : List Value} (hr : Row w0 a xs) : Beside w F a xs := Beside.base hr p.bel p.fF
section
variable {w0 w : World} {h n k : Nat} {s : HubS} {lv : Nat} {ns : List NoteK} {F : List Nat}
theorem Db.mem (p : Db w0 w h n k s lv ns F) : h ∈ F := by
  obtain ⟨t, kg, N, Ft, KF, G, P, rfl⟩ := p.p
  exact mem_footH.2 (.inl rfl)
theorem Db.more (p : Db w0 w h n k s lv ns F) {k' : Nat} (hk : k ≤ k') : Db w0 w h n k' s lv ns F := by
  obtain ⟨t, kg, N, Ft, KF, G, P, rfl⟩ := p.p
  exact ⟨⟨t, kg, N, Ft, KF, G, ⟨P.top, P.tr.more hk, P.kp, P.lg, P.hT, P.hK, P.hG, P.tK, P.tG, P.kG⟩, rfl⟩, Nat.le_trans p.kl hk, Nat.le_trans p.nl hk, p.ok, p.cl, p.up, p.fF, p.bel⟩
/-- the number of workers -/
theorem Db.num (p : Db w0 w h n k s lv ns F) : w.cell? ⟨h, 2, none⟩ = some (.int .i64 n) := by
  obtain ⟨t, kg, N, Ft, KF, G, P, rfl⟩ := p.p
  exact cell_of_row w h 2 _ _ _ P.top
theorem Db.lensT (p : Db w0 w h n k s lv ns F) : ∃ t N Ft, w.cell? ⟨h, 0, none⟩ = some (.pointer (some ⟨t, 0, none⟩)) ∧ DR k w t s.gs N Ft ∧ ∀ w1 w', Below w.heap.size w w1 → ∀ gs' k' N' Ft', DR k' w' t gs' N' Ft' → Upd Ft Ft' w1 w' → k ≤ k' → (∀ g ∈ gs', g.2.length ≤ 300) →
    w'.cell? ⟨h, 0, none⟩ = some (.pointer (some ⟨t, 0, none⟩)) ∧ ∃ F', Db w0 w' h n k' ⟨gs', s.kp⟩ lv ns F' ∧ Upd F F' w1 w' := by
  obtain ⟨t, kg, N, Ft, KF, G, P, rfl⟩ := p.p
  refine ⟨t, N, Ft, cell_of_row w h 0 _ _ _ P.top, P.tr, fun w1 w' hb gs' k' N' Ft' hr hu hk hcl => ?_⟩
  obtain ⟨P2, hu2⟩ := (P.mod (Mod.of_below hb []) (by simp)).trie hr hu
  obtain ⟨hb2, hf2⟩ := lie_below (bnext p.bel (Nat.le_refl _) hb) (Nat.le_refl _) p.fF hu2
  exact ⟨cell_of_row w' h 0 _ _ _ P2.top, _, ⟨⟨_, _, _, _, _, _, P2, rfl⟩, Nat.le_trans p.kl hk, Nat.le_trans p.nl hk, p.ok, hcl, p.up, hf2, hb2⟩, hu2⟩
theorem Db.lensK (p : Db w0 w h n k s lv ns F) : ∃ g KF, w.cell? ⟨h, 1, none⟩ = some (.pointer (some ⟨g, 0, none⟩)) ∧ RRep w g s.kp KF ∧ ∀ w1 w', Below w.heap.size w w1 → ∀ kp' k' KF', RRep w' g kp' KF' → Upd KF KF' w1 w' → k ≤ k' → kp'.length ≤ k' → (∀ m ∈ kp', m.t.size ≤ 300) → Up kp' →
    w'.cell? ⟨h, 1, none⟩ = some (.pointer (some ⟨g, 0, none⟩)) ∧ ∃ F', Db w0 w' h n k' ⟨s.gs, kp'⟩ lv ns F' ∧ Upd F F' w1 w' := by
  obtain ⟨t, kg, N, Ft, KF, G, P, rfl⟩ := p.p
  refine ⟨kg, KF, cell_of_row w h 1 _ _ _ P.top, P.kp, fun w1 w' hb kp' k' KF' hr hu hk hkl hok hup => ?_⟩
  obtain ⟨P2, hu2⟩ := (P.mod (Mod.of_below hb []) (by simp)).keep hr hu
  obtain ⟨hb2, hf2⟩ := lie_below (bnext p.bel (Nat.le_refl _) hb) (Nat.le_refl _) p.fF hu2
  exact ⟨cell_of_row w' h 1 _ _ _ P2.top, _, ⟨⟨_, _, _, _, _, _, ⟨P2.top, P2.tr.more hk, P2.kp, P2.lg, P2.hT, P2.hK, P2.hG, P2.tK, P2.tG, P2.kG⟩, rfl⟩, hkl, Nat.le_trans p.nl hk, hok, p.cl, hup, hf2, hb2⟩, hu2⟩
theorem Db.lensL (p : Db w0 w h n k s lv ns F) : ∃ G, DLogAt w lv ns G ∧ ∀ w1 w', Below w.heap.size w w1 → ∀ ns' k' G', DLogAt w' lv ns' G' → Upd G G' w1 w' → k ≤ k' → ns'.length ≤ k' → ∃ F', Db w0 w' h n k' s lv ns' F' ∧ Upd F F' w1 w' := by
  obtain ⟨t, kg, N, Ft, KF, G, P, rfl⟩ := p.p
  refine ⟨G, P.lg, fun w1 w' hb ns' k' G' hr hu hk hnl => ?_⟩
  obtain ⟨P2, hu2⟩ := (P.mod (Mod.of_below hb []) (by simp)).log hr hu
  obtain ⟨hb2, hf2⟩ := lie_below (bnext p.bel (Nat.le_refl _) hb) (Nat.le_refl _) p.fF hu2
  exact ⟨_, ⟨⟨_, _, _, _, _, _, ⟨P2.top, P2.tr.more hk, P2.kp, P2.lg, P2.hT, P2.hK, P2.hG, P2.tK, P2.tG, P2.kG⟩, rfl⟩, Nat.le_trans p.kl hk, hnl, p.ok, p.cl, p.up, hf2, hb2⟩, hu2⟩
end
end
section
open Go Go.RowKit

structure DNew (w : World) (h t g n : Nat) : Prop where
  top : w.heap[h]? = some (.cells #[.pointer (some ⟨t, 0, none⟩), .pointer (some ⟨g, 0, none⟩), .int .i64 n] 70 (0, 0))
  tr : w.heap[t]? = some (.cells #[.slice none 0 0] 77 (0, 0))
  kp : w.heap[g]? = some (.cells #[.slice none 0 0] 85 (0, 0))
set_option maxRecDepth 100000 in
theorem dhub_new (n : Nat) (w : World) :
    Calls Tryz.prog 21 #[.int .i64 n] w fun e w' => ∃ h t g, e = .returned (.pointer (some ⟨h, 0, none⟩)) ∧ DNew w' h t g n ∧ w.heap.size ≤ t ∧ t < g ∧ g < h ∧ Below w.heap.size w w' := by
  go_enter Tryz.func21, Tryz.ntmps21
  go_wp2_with fail
  go_ret
  have h1 := heap_alloc_new w (.cells #[.slice none 0 0] 77)
  have hb1 := low_alloc w (.cells #[.slice none 0 0] 77)
  have s1 : (w.alloc (.cells #[.slice none 0 0] 77)).heap.size = w.heap.size + 1 := by simp
  generalize w.alloc (.cells #[.slice none 0 0] 77) = w1 at *
  have h2 := heap_alloc_new w1 (.cells #[.slice none 0 0] 85)
  have hb2 := low_alloc w1 (.cells #[.slice none 0 0] 85)
  have s2 : (w1.alloc (.cells #[.slice none 0 0] 85)).heap.size = w1.heap.size + 1 := by simp
  generalize w1.alloc (.cells #[.slice none 0 0] 85) = w2 at *
  refine ⟨w2.heap.size, w.heap.size, w1.heap.size, ?_, ⟨?_, ?_, ?_⟩, Nat.le_refl _, by omega, by omega, ?_⟩
  · rw [s2, s1]; rfl
  · rw [← s1]; exact heap_alloc_new w2 _
  · rw [Below.heap_alloc _ _ _ (by omega), hb2.block _ (by omega)]; exact h1
  · rw [Below.heap_alloc _ _ _ (by omega)]; exact h2
  · exact (hb1.trans (hb2.mono (by omega))).trans ((low_alloc w2 _).mono (by omega))
theorem trep_nil {w : World} {t : Nat} (h : w.heap[t]? = some (.cells #[.slice none 0 0] 77 (0, 0))) : TRep w t [] [t] :=
  ⟨none, 0, h, Nat.le_refl _, Nat.zero_le _, by simp [Row, hintsV], by simp, by simp, by
    intro k hk
    rw [List.mem_singleton.1 hk]
    exact (Array.getElem?_eq_some_iff.1 h).1⟩
theorem rrep_nil {w : World} {g : Nat} (h : w.heap[g]? = some (.cells #[.slice none 0 0] 85 (0, 0))) : RRep w g [] [g] :=
  ⟨.slice none 0 0, h, World.ownsRow_nil _ _ _ _, by simp [Value.ownBlock], rfl⟩
/-- a new hub, beside a log that came behind it -/
theorem Db.start {w0 w1 w : World} {h t g n lg : Nat} {G : List Nat} (p : DNew w1 h t g n) (h0 : w0.heap.size ≤ t) (h1 : t < g) (h2 : g < h) (hb1 : Below w0.heap.size w0 w1) (hb : Below w1.heap.size w1 w) (hl : DLogAt w lg [] G) (hG : ∀ j ∈ G, w1.heap.size ≤ j) :
    ∃ F, Db w0 w h n 0 HubS.new lg [] F ∧ F = footH h [t] [g] G := by
  have hh : h < w1.heap.size := (Array.getElem?_eq_some_iff.1 p.top).1
  refine ⟨_, ⟨⟨t, g, 0, [t], [g], G, ⟨(hb.block h hh).trans p.top, ⟨trep_nil ((hb.block t (by omega)).trans p.tr), List.Pairwise.nil, by simp [HubS.new], by simp [HubS.new]⟩, rrep_nil ((hb.block g (by omega)).trans p.kp), hl, ?_, ?_, fun hj => ?_, fun j hj hj' => ?_, fun j hj hj' => ?_, fun j hj hj' => ?_⟩, rfl⟩, by simp [HubS.new], by simp, by simp [HubS.new], by simp [HubS.new], ?_, fun j hj => ?_, ?_⟩, rfl⟩
  · simp; omega
  · simp; omega
  · have := hG h hj; omega
  · simp at hj hj'; omega
  · have := hG j hj'; simp at hj; omega
  · have := hG j hj'; simp at hj; omega
  · exact List.Pairwise.nil
  · rcases mem_footH.1 hj with rfl | hj | hj | hj
    · omega
    · simp at hj; omega
    · simp at hj; omega
    · have := hG j hj; have := hb1.size; omega
  · exact bnext hb1 (Nat.le_refl _) hb
end
section
open Go Go.RowKit

theorem dadd_h (k t N : Nat) (f c : ByteArray) (gs : List Hint) (F : List Nat) (w : World) (h : DR k w t gs N F) (hf : f.size ≤ 300) (hk : k ≤ 1000) :
    Calls Tryz.prog 36 #[.pointer (some ⟨t, 0, none⟩), .string f, .string c] w fun e w' => e = .returned (.bool (addB gs f.data.toList c.data.toList)) ∧ ∃ N' F', DR (k + 1) w' t (addG gs f.data.toList c.data.toList) N' F' ∧ Upd F F' w w' := by
  refine (tdadd_any t gs F f.data.toList c.data.toList w h.1 (by have := h.2.2.2; omega) hf).mono ?_
  rintro e w' ⟨he, G', hr, hu⟩
  refine ⟨he, 0, G', ⟨hr, ?_, ?_, ?_⟩, hu⟩
  · unfold addG
    split
    · rename_i hb
      exact hrising_insH h.2.1 (by unfold addB at hb; simp at hb; exact hb.2)
    · exact h.2.1
  · intro g hg
    unfold addG at hg
    split at hg
    · rcases List.mem_cons.1 ((perm_insH (f.data.toList, c.data.toList) gs).mem_iff.1 hg) with rfl | hg
      · exact hf
      · exact h.2.2.1 g hg
    · exact h.2.2.1 g hg
  · have := h.2.2.2
    unfold addG
    split
    · rw [(perm_insH _ gs).length_eq, List.length_cons]; omega
    · omega
theorem drem_h (k t N : Nat) (f c : ByteArray) (gs : List Hint) (F : List Nat) (w : World) (h : DR k w t gs N F) (hk : k ≤ 1000) :
    Calls Tryz.prog 38 #[.pointer (some ⟨t, 0, none⟩), .string f, .string c] w fun e w' => e = .returned (.bool (remB gs f.data.toList c.data.toList)) ∧ ∃ N' F', DR k w' t (gs.erase (f.data.toList, c.data.toList)) N' F' ∧ Upd F F' w w' := by
  refine (tdrem_any _ t gs F f.data.toList c.data.toList w h.1 (hrising_nodup h.2.1) (by have := h.2.2.2; omega) rfl).mono ?_
  rintro e w' ⟨he, G', hr, hu⟩
  refine ⟨he, 0, G', ⟨hr, hrising_erase h.2.1 _, fun g hg => h.2.2.1 g (List.mem_of_mem_erase hg), ?_⟩, hu⟩
  have := h.2.2.2
  have := (List.erase_sublist (a := (f.data.toList, c.data.toList)) (l := gs)).length_le
  omega
end
end Go.Proofs.YthfdcphecggjeaaGreatDoor
