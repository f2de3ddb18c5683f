/- Texts in rising rows. No program in sight. The trie: Match walked whole. -/
import Derived.Test.YthfdcphecggjeaaGreatDoorQL
import Derived.Test.YthfdcphecggjeaaGreatDoorRMatch2
import Derived.Test.YthfdcphecggjeaaGreatDoorRIter
import Derived.Test.YthfdcphecggjeaaGreatDoorQK
namespace Go.Proofs.YthfdcphecggjeaaGreatDoor
section
open Go

def Rising (l : List Str) : Prop := l.Pairwise (· < ·)
def putS (s : Str) : List Str → List Str
  | [] => [s]
  | y :: r => if y < s then y :: putS s r else if y = s then y :: r else s :: y :: r
theorem mem_putS {s x : Str} {l : List Str} : x ∈ putS s l ↔ x = s ∨ x ∈ l := by
  induction l with
  | nil => simp [putS]
  | cons y r ih =>
    unfold putS
    split
    · simp only [List.mem_cons, ih]
      constructor
      · rintro (h | h | h) <;> simp [h]
      · rintro (h | h | h) <;> simp [h]
    · split
      · rename_i h; subst h; simp
      · simp
theorem Rising.putS {s : Str} {l : List Str} (h : Rising l) : Rising (putS s l) := by
  induction l with
  | nil => exact List.pairwise_singleton _ _
  | cons y r ih =>
    obtain ⟨h1, h2⟩ := List.pairwise_cons.1 h
    unfold Go.Proofs.YthfdcphecggjeaaGreatDoor.putS
    split
    · rename_i hlt
      refine List.pairwise_cons.2 ⟨fun z hz => ?_, ih h2⟩
      rcases mem_putS.1 hz with rfl | hz
      · exact hlt
      · exact h1 z hz
    · split
      · exact h
      · rename_i h3 h4
        refine List.pairwise_cons.2 ⟨fun z hz => ?_, h⟩
        have h5 := slt_tri h3 h4
        rcases List.mem_cons.1 hz with rfl | hz
        · exact h5
        · exact List.lt_trans h5 (h1 z hz)
theorem rising_ext {l m : List Str} (hl : Rising l) (hm : Rising m) (h : ∀ x, x ∈ l ↔ x ∈ m) : l = m := by
  have n1 : l.Nodup := hl.imp (fun h e => by subst e; exact List.lt_irrefl _ h)
  have n2 : m.Nodup := hm.imp (fun h e => by subst e; exact List.lt_irrefl _ h)
  exact List.Perm.eq_of_pairwise (le := fun a b => decide (a < b) = true) (fun a b _ _ h1 h2 => by simp only [decide_eq_true_eq] at h1 h2; exact absurd (List.lt_trans h1 h2) (List.lt_irrefl _)) (hl.imp (by simp)) (hm.imp (by simp)) ((List.perm_ext_iff_of_nodup n1 n2).2 h)
theorem rising_nodup {l : List Str} (hl : Rising l) : l.Nodup := hl.imp (fun h e => by subst e; exact List.lt_irrefl _ h)
/-- the texts that g takes, rising, each once -/
def tellL (g : Str → Bool) : List (Path × Str) → List Str
  | [] => []
  | h :: r => if g h.2 then putS h.2 (tellL g r) else tellL g r
theorem mem_tellL {g : Str → Bool} {c : Str} {Hs : List (Path × Str)} : c ∈ tellL g Hs ↔ g c = true ∧ ∃ q, (q, c) ∈ Hs := by
  induction Hs with
  | nil => simp [tellL]
  | cons h r ih =>
    obtain ⟨q, d⟩ := h
    unfold tellL
    by_cases hg : g d = true
    · rw [if_pos hg, mem_putS, ih]
      constructor
      · rintro (rfl | ⟨h1, q', h2⟩)
        · exact ⟨hg, q, by simp⟩
        · exact ⟨h1, q', by simp [h2]⟩
      · rintro ⟨h1, q', h2⟩
        rcases List.mem_cons.1 h2 with h2 | h2
        · exact .inl (by simpa using congrArg Prod.snd h2)
        · exact .inr ⟨h1, q', h2⟩
    · rw [if_neg hg, ih]
      constructor
      · rintro ⟨h1, q', h2⟩; exact ⟨h1, q', by simp [h2]⟩
      · rintro ⟨h1, q', h2⟩
        rcases List.mem_cons.1 h2 with h2 | h2
        · have e : c = d := by simpa using congrArg Prod.snd h2
          rw [e] at h1; exact absurd h1 hg
        · exact ⟨h1, q', h2⟩
theorem rising_tellL {g : Str → Bool} {Hs : List (Path × Str)} : Rising (tellL g Hs) := by
  induction Hs with
  | nil => exact List.Pairwise.nil
  | cons h r ih =>
    unfold tellL
    split
    · exact ih.putS
    · exact ih
/-- the library's sort -/
theorem sort_rising {l m : List Str} (hm : Rising m) (h : l.Perm m) : (l.mergeSort fun x y => decide (x ≤ y)) = m := by
  have hp : ((l.mergeSort fun x y => decide (x ≤ y))).Pairwise (fun a b => decide (a ≤ b) = true) :=
    List.pairwise_mergeSort (fun a b c h1 h2 => by simp only [decide_eq_true_eq] at *; exact List.le_trans h1 h2) (fun a b => by have := List.le_total a b; simpa using this) l
  refine List.Perm.eq_of_pairwise (le := fun a b => decide (a ≤ b) = true) (fun a b _ _ h1 h2 => by simp only [decide_eq_true_eq] at *; exact List.le_antisymm h1 h2) hp
    (hm.imp (fun h => by simp only [decide_eq_true_eq]; exact List.le_of_lt h)) ((List.mergeSort_perm l _).trans h)
end
section
open Go Go.RowKit Go.Maps

theorem met_perm {w : World} {bm : Nat} {Hs : List (Path × Str)} {D : DataW Unit} (h : Met bm Hs w D) {g : Str → Bool} (hg : ∀ c, Maps.has D (.string c) = g c) {ss : List Str} (hp : ss.Perm (strKeys D)) : (ss.mergeSort fun x y => decide (x ≤ y)) = tellL g Hs := by
  refine sort_rising rising_tellL (hp.trans ?_)
  obtain ⟨es, hD, hpw, _⟩ := h.own.entries kS
  obtain ⟨es', hD', hko⟩ := h.own.keysOf
  obtain rfl : es = es' := by rw [hD] at hD'; simpa using hD'
  have hkeys := h.keys
  subst hD
  refine (perm_strKeys hpw (fun p hp => by obtain ⟨v, hv⟩ := hko p hp; obtain ⟨x, _, hx, _⟩ := Maps.keyOf_str Tryz.underlying9 hv; exact ⟨x, hx⟩) (rising_nodup rising_tellL) (fun x => ?_)).symm
  rw [mem_tellL, hg]
  exact ⟨fun hh => hh.1, fun hh => ⟨hh, hkeys x (by rw [hg]; exact hh)⟩⟩
theorem strs_enc (l : List Str) : l.map encStr = strs l := rfl
def toldL (Hs : List (Path × Str)) (s : Str) : List Str := if nameB s then tellL (fun c => tkB Hs c (hidB 0 s) [] (levels s)) Hs else []
theorem name_size {s : ByteArray} (h : nameB s.data.toList = true) : 0 < s.size := by
  rcases Nat.eq_zero_or_pos s.size with h0 | h0
  · rw [show s.data.toList = [] from List.eq_nil_of_length_eq_zero h0] at h
    simp [nameB] at h
  · exact h0

theorem mat_env {w2 : World} {nb t B : Nat} {hn nn : Int} {nd : Path → Nd} {Ns : List Path} {Hs : List (Path × Str)} {nm : ByteArray} {L : Path} {a : Option Addr} {ca : Nat} (hr : MemRep w2 t B hn nn nd Ns Hs) (hra : Row w2 a (strs L)) (h3 : w2.heap[nb]? = some (.cells #[.string nm] 9 (0, 0))) :
    MatE nb (w2.heap.size + 1 + 1) w2.heap.size (w2.heap.size + 1 + 1 + 1) (w2.heap.size + 1) t B hn nn nd Ns Hs nm L ((((w2.alloc (.cells #[.slice a L.length ca] 33)).alloc (.map #[] 0)).alloc (.cells #[.map (some (w2.heap.size + 1))] 100)).alloc (.cells #[.func (.func 56) #[] #[.pointer (some ⟨nb, 0, none⟩), .pointer (some ⟨w2.heap.size + 1 + 1, 0, none⟩), .pointer (some ⟨w2.heap.size, 0, none⟩), .pointer (some ⟨w2.heap.size + 1 + 1 + 1, 0, none⟩)]] 101)) ∧ Met (w2.heap.size + 1) Hs ((((w2.alloc (.cells #[.slice a L.length ca] 33)).alloc (.map #[] 0)).alloc (.cells #[.map (some (w2.heap.size + 1))] 100)).alloc (.cells #[.func (.func 56) #[] #[.pointer (some ⟨nb, 0, none⟩), .pointer (some ⟨w2.heap.size + 1 + 1, 0, none⟩), .pointer (some ⟨w2.heap.size, 0, none⟩), .pointer (some ⟨w2.heap.size + 1 + 1 + 1, 0, none⟩)]] 101)) (.map []) ∧ Below w2.heap.size w2 ((((w2.alloc (.cells #[.slice a L.length ca] 33)).alloc (.map #[] 0)).alloc (.cells #[.map (some (w2.heap.size + 1))] 100)).alloc (.cells #[.func (.func 56) #[] #[.pointer (some ⟨nb, 0, none⟩), .pointer (some ⟨w2.heap.size + 1 + 1, 0, none⟩), .pointer (some ⟨w2.heap.size, 0, none⟩), .pointer (some ⟨w2.heap.size + 1 + 1 + 1, 0, none⟩)]] 101)) := by
  have g1 := heap_alloc_new w2 (.cells #[.slice a L.length ca] 33)
  have b1 : Below w2.heap.size w2 (w2.alloc (.cells #[.slice a L.length ca] 33)) := (Below.refl _ _).alloc (Nat.le_refl _) _
  have z1 : (w2.alloc (.cells #[.slice a L.length ca] 33)).heap.size = w2.heap.size + 1 := by simp
  generalize (w2.alloc (.cells #[.slice a L.length ca] 33)) = v1 at *
  have g2 := heap_alloc_new v1 (.map #[] 0)
  have o2 : (v1.alloc (.map #[] 0)).ownsMap Tryz.prog 9 unitElem v1.heap.size 0 (.map [] : DataW Unit) := World.ownsMap_made v1 _ _ _
  have b2 : Below v1.heap.size v1 (v1.alloc (.map #[] 0)) := (Below.refl _ _).alloc (Nat.le_refl _) _
  have z2 : (v1.alloc (.map #[] 0)).heap.size = v1.heap.size + 1 := by simp
  generalize (v1.alloc (.map #[] 0)) = v2 at *
  have g3 := heap_alloc_new v2 (.cells #[.map (some (w2.heap.size + 1))] 100)
  have b3 : Below v2.heap.size v2 (v2.alloc (.cells #[.map (some (w2.heap.size + 1))] 100)) := (Below.refl _ _).alloc (Nat.le_refl _) _
  have z3 : (v2.alloc (.cells #[.map (some (w2.heap.size + 1))] 100)).heap.size = v2.heap.size + 1 := by simp
  generalize (v2.alloc (.cells #[.map (some (w2.heap.size + 1))] 100)) = v3 at *
  have g4 := heap_alloc_new v3 (.cells #[.func (.func 56) #[] #[.pointer (some ⟨nb, 0, none⟩), .pointer (some ⟨w2.heap.size + 1 + 1, 0, none⟩), .pointer (some ⟨w2.heap.size, 0, none⟩), .pointer (some ⟨w2.heap.size + 1 + 1 + 1, 0, none⟩)]] 101)
  have b4 : Below v3.heap.size v3 (v3.alloc (.cells #[.func (.func 56) #[] #[.pointer (some ⟨nb, 0, none⟩), .pointer (some ⟨w2.heap.size + 1 + 1, 0, none⟩), .pointer (some ⟨w2.heap.size, 0, none⟩), .pointer (some ⟨w2.heap.size + 1 + 1 + 1, 0, none⟩)]] 101)) := (Below.refl _ _).alloc (Nat.le_refl _) _
  generalize (v3.alloc (.cells #[.func (.func 56) #[] #[.pointer (some ⟨nb, 0, none⟩), .pointer (some ⟨w2.heap.size + 1 + 1, 0, none⟩), .pointer (some ⟨w2.heap.size, 0, none⟩), .pointer (some ⟨w2.heap.size + 1 + 1 + 1, 0, none⟩)]] 101)) = v4 at *
  have hlt : ∀ {v : World} {k : Nat} {o : Obj}, v.heap[k]? = some o → k < v.heap.size := fun h => (Array.getElem?_eq_some_iff.1 h).1
  have b24 : Below v2.heap.size v2 v4 := bnext b3 (by omega) b4
  have b14 : Below v1.heap.size v1 v4 := bnext b2 (by omega) b24
  have b04 : Below w2.heap.size w2 v4 := bnext b1 (by omega) b14
  have g1 := (b14.block _ (hlt g1)).trans g1
  have g3 := (b4.block _ (hlt g3)).trans g3
  have o4 := owns_block o2 (b24.block _ (hlt g2))
  have g2 := (b24.block _ (hlt g2)).trans g2
  have h3 := (b04.block _ (hlt h3)).trans h3
  rw [z1] at o4 g2
  rw [z2, z1] at g3
  rw [z3, z2, z1] at g4
  refine ⟨⟨hr.keep (fun p hp k hk => b04.block k (hr.lt p hp k hk)), fun p hp hk => ?_, cell_of_row _ _ 0 _ _ _ h3, cell_of_row _ _ 0 _ _ _ g3, ⟨a, ca, cell_of_row _ _ 0 _ _ _ g1, hra.below b04 (Nat.le_refl _)⟩, cell_of_row _ _ 0 _ _ _ g4, ⟨_, _, g2⟩⟩, ⟨o4, fun c hc => ?_⟩, b04⟩
  · have := hr.lt p hp _ hk; omega
  · exact absurd hc (by simp [Maps.has])

set_option maxRecDepth 100000 in
set_option maxHeartbeats 4000000 in
theorem tmatch_any (t B : Nat) (s : ByteArray) (Ns : List Path) (Hs : List (Path × Str)) (F : List Nat) (w : World) (h : PRep w t B Ns Hs F) (hT : Tabs w) (hs : s.size < 4294967281) (hB : B < 200000000) (hH : Hs.length < 200000000) :
    Calls Tryz.prog 26 #[.pointer (some ⟨t, 0, none⟩), .string s] w fun e w' => ∃ a c, e = .returned (.slice a (toldL Hs s.data.toList).length c) ∧ Row w' a (strs (toldL Hs s.data.toList)) ∧ Below w.heap.size w w' := by
  have hb : Below w.heap.size w (w.alloc (.cells #[.string s] 9)) := ((Below.refl _ _).alloc (Nat.le_refl _) _)
  have h3 : (w.alloc (.cells #[.string s] 9)).heap[w.heap.size]? = some (.cells #[.string s] 9 (0, 0)) := heap_alloc_new w _
  have c3 := cell_of_row _ _ 0 _ _ _ h3
  have HF := Lib.hid (name_any s _ (hT.below hb) hs)
  have HL := Lib.hid (fun W hT => levels_any s W hT hs)
  have HT := Lib.hid (hT.below hb)
  have HP := Lib.hid (h.below hb)
  have HB := Lib.hid hb
  have H3 := Lib.hid h3
  have hLl := levels_len_le s.data.toList
  have hLs := Lib.hid (levels_sum s.data.toList)
  have hL0 := levels_ne s.data.toList
  rw [show s.data.toList.length = s.size from rfl] at hLl hLs
  have HTL : Hid (toldL Hs s.data.toList = if nameB s.data.toList then tellL (fun c => tkB Hs c (hidB 0 s.data.toList) [] (levels s.data.toList)) Hs else []) := Lib.hid rfl
  have HSZ := Lib.hid (name_size (s := s))
  have hmm := @run_makeMap Tryz.prog
  generalize levels s.data.toList = L at *
  generalize toldL Hs s.data.toList = told at *
  clear hT hb h h3
  by_cases hnm : nameB s.data.toList = true
  · rw [hnm] at HF
    rw [if_pos hnm] at HTL
    have hsz := HSZ.out hnm
    go_enter Tryz.func26, Tryz.ntmps26
    go_wp2_with fail
    refine HF.out.mono ?_
    rintro e w1 ⟨rfl, hk⟩
    have HK := Lib.hid hk
    have h31 := (hk.block w.heap.size (by simp)).trans H3.out
    have c31 := cell_of_row _ _ 0 _ _ _ h31
    go_wp2_with fail
    refine (HL.out _ (HT.out.below hk)).mono ?_
    rintro e w2 ⟨a, ca, rfl, hra, hk2⟩
    go_wp2_with fail
    have hb12 : Below (w.alloc (.cells #[.string s] 9)).heap.size (w.alloc (.cells #[.string s] 9)) w2 := bnext hk (Nat.le_refl _) hk2
    have hb2 : Below w.heap.size w w2 := bnext HB.out (by simp) hb12
    have h3 := (hb12.block w.heap.size (by simp)).trans H3.out
    obtain ⟨nd, hti, hr, -⟩ := HP.out.below hb12
    obtain ⟨hE, hM, hb25⟩ := mat_env (nm := s) (ca := ca) hr hra h3
    have hle2 : w.heap.size ≤ w2.heap.size := hb2.size
    have hb5 := bnext hb2 (Nat.le_refl _) hb25
    generalize ((((w2.alloc (.cells #[.slice a L.length ca] 33)).alloc (.map #[] 0)).alloc (.cells #[.map (some (w2.heap.size + 1))] 100)).alloc (.cells #[.func (.func 56) #[] #[.pointer (some ⟨w.heap.size, 0, none⟩), .pointer (some ⟨w2.heap.size + 1 + 1, 0, none⟩), .pointer (some ⟨w2.heap.size, 0, none⟩), .pointer (some ⟨w2.heap.size + 1 + 1 + 1, 0, none⟩)]] 101)) = w5 at *
    have hE' := hE.below (drewN_below w5 1)
    have hM' := hM.below (drewN_below w5 1)
    have HC := Lib.hid (mat_from _ _ _ _ _ t B _ _ nd Ns Hs s L hti hsz (by omega) (by omega) (fun x hx => by have := hLs.out x hx; omega) L.length 0 [] _ _ (by omega) hti.root hE' hM')
    rw [List.drop_zero, hr.root] at HC
    have HB5 := Lib.hid hb5
    have cf := hE'.self
    have HE := Lib.hid hE'
    clear hk hk2 hra hb12 hb2 hb25 h3 h31 hb5 hti hr HT HP HL HF H3 HK c3 c31 hE hM hE' hM'
    refine wp_region_held_drew (S := fun W => W.cell? ⟨w2.heap.size + 1 + 1 + 1, 0, none⟩ = some (.func (.func 56) #[] #[.pointer (some ⟨w.heap.size, 0, none⟩), .pointer (some ⟨w2.heap.size + 1 + 1, 0, none⟩), .pointer (some ⟨w2.heap.size, 0, none⟩), .pointer (some ⟨w2.heap.size + 1 + 1 + 1, 0, none⟩)])) (by kernel_rfl) cf (fun hHeld => ?_)
    refine wpAnyH_take (i := 0) (v := ?_) rfl (by kernel_rfl) (by kernel_rfl) (by kernel_rfl) (fun _ _ _ h => h) (Or.inl ⟨rfl, ?_⟩) hHeld ?_
    rotate_left
    · intro w0 hS0
      try dsimp only at hS0
      go_simp
      try with_reducible rfl
    simp only [List.getElem_toArray, List.getElem_cons_zero, Act.put, List.setIfInBounds_toArray, List.set_cons_zero, List.set_cons_succ]
    refine wpAnyH_take (i := 1) (v := ?_) rfl (by kernel_rfl) (by kernel_rfl) (by kernel_rfl) (fun _ _ _ h => h) (Or.inl ⟨rfl, ?_⟩) hHeld ?_
    rotate_left
    · intro w0 hS0
      try dsimp only at hS0
      go_simp
      try with_reducible rfl
    simp only [List.getElem_toArray, List.getElem_cons_zero, List.getElem_cons_succ, Act.put, List.setIfInBounds_toArray, List.set_cons_zero, List.set_cons_succ]
    refine wpAnyH_take (i := 2) (v := ?_) rfl (by kernel_rfl) (by kernel_rfl) (by kernel_rfl) (fun _ _ _ h => h) (Or.inl ⟨rfl, ?_⟩) hHeld ?_
    rotate_left
    · intro w0 hS0
      try dsimp only at hS0
      go_simp
      try with_reducible rfl
    simp only [List.getElem_toArray, List.getElem_cons_zero, List.getElem_cons_succ, Act.put, List.setIfInBounds_toArray, List.set_cons_zero, List.set_cons_succ]
    refine wpAnyH_take (i := 3) (v := ?_) rfl (by kernel_rfl) (by kernel_rfl) (by kernel_rfl) (fun _ _ _ h => h) (Or.inl ⟨rfl, ?_⟩) hHeld ?_
    rotate_left
    · intro w0 hS0
      try dsimp only at hS0
      go_simp
      try with_reducible rfl
    simp only [List.getElem_toArray, List.getElem_cons_zero, List.getElem_cons_succ, Act.put, List.setIfInBounds_toArray, List.set_cons_zero, List.set_cons_succ]
    refine wpAnyH_ready (rs := [4]) (by kernel_rfl) (by simp) ?_
    refine AllReadyH.cons rfl (fun K hK => ?_) AllReadyH.nil
    rw [if_pos (by rfl)]
    go_simp
    go_at_call 56
    refine HC.out.mono ?_
    rintro e w6 ⟨rfl, D6, hM6, hD6, hm6⟩
    have hE6 := HE.out.mod hm6 hM6.map
    have hmb := hE6.cm
    have hb6 : Below w.heap.size w w6 := (below_drewN HB5.out 1).trans (hm6.below HB5.out.size (by simp; omega))
    have HPM := Lib.hid (fun ss hp => met_perm hM6 (g := fun c => tkB Hs c (hidB 0 s.data.toList) [] L) (fun c => by rw [hD6 c]; simp [Maps.has]) (ss := ss) hp)
    have hown := hM6.own
    have hmax : Maps.size D6 ≤ maxLen := by have := hM6.size; unfold maxLen; omega
    have hbytes : Maps.size D6 * 16 ≤ 140737488355328 := by have := hM6.size; omega
    have HB6 := Lib.hid hb6
    refine hK.out _ _ hE6.self (fun hHeld => ?_)
    refine wpAnyH_done (by kernel_rfl) ?_ _
    clear hE6 hb6 HE HC hM6 hD6 hm6 HB5 cf hHeld
    go_wp2_with fail
    go_at_call 59
    refine (callsIn_wide.1 (Tryz.maps_Keys_59 _ _)).mono ?_
    rintro e w7 ⟨rfl, rfl⟩
    go_wp2_with fail
    refine (callsIn_wide.1 (Tryz.slices_Sorted_keys_58_59 _ _ D6 unitElem w6 hown hmax hbytes)).mono ?_
    rintro e w8 ⟨v, ss, rfl, hS, hrow, -, hb⟩
    have hpm := HPM.out ss hS
    have hlen : ss.length = told.length := by rw [HTL.out, ← hpm]; simp
    rw [hpm, ← HTL.out, hlen, strs_enc] at hrow
    obtain ⟨a2, cap2, rfl, hr2, -, -⟩ := ownsRow_row hrow
    have HR2 := Lib.hid hr2
    have hb8 : Below w.heap.size w w8 := bnext HB6.out (by simp) (Below.trans ((Below.refl _ _).alloc (Nat.le_refl _) _) (hb.mono (by simp)))
    have HB8 := Lib.hid hb8
    clear hb8 hb hr2 hrow hlen hpm hS
    go_wp2_with fail
    go_ret
    exact ⟨a2, cap2, rfl, HR2.out, HB8.out⟩
  · rw [Bool.not_eq_true] at hnm
    rw [hnm] at HF
    rw [if_neg (by simp [hnm])] at HTL
    obtain rfl : told = [] := HTL.out
    go_enter Tryz.func26, Tryz.ntmps26
    go_wp2_with fail
    refine HF.out.mono ?_
    rintro e w1 ⟨rfl, hk⟩
    go_wp2_with fail
    go_ret
    exact ⟨none, 0, rfl, .inl rfl, bnext HB.out (by simp) hk⟩
end
end Go.Proofs.YthfdcphecggjeaaGreatDoor
