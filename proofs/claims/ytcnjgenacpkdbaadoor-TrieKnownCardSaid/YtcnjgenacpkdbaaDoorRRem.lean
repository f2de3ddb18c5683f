/- The trie: Remove walked. -/
import Derived.Test.YtcnjgenacpkdbaaDoorRAdd
namespace Go.Proofs.YtcnjgenacpkdbaaDoor
open Go Go.RowKit Go.Maps

/-- what Remove's 'from' has captured -/
structure RemW (bl bc bf bt t : Nat) (L : Path) (c : ByteArray) (w : World) : Prop where
  l : ∃ a ca, w.cell? ⟨bl, 0, none⟩ = some (.slice a L.length ca) ∧ Row w a (strs L)
  c : w.cell? ⟨bc, 0, none⟩ = some (.string c)
  self : w.cell? ⟨bf, 0, none⟩ = some (.func (.func 22) #[] #[.pointer (some ⟨bl, 0, none⟩), .pointer (some ⟨bc, 0, none⟩), .pointer (some ⟨bf, 0, none⟩), .pointer (some ⟨bt, 0, none⟩)])
  t : w.cell? ⟨bt, 0, none⟩ = some (.pointer (some ⟨t, 0, none⟩))
def remN (p L : Path) (c : Str) (Ns : List Path) (Hs : List (Path × Str)) : List Path := if (L, c) ∈ Hs then cut p (Hs.erase (L, c)) Ns else Ns
theorem len_filter_ne {l : List Path} {a : Path} (hn : l.Nodup) (ha : a ∈ l) : (l.filter fun q => q != a).length + 1 = l.length := by
  induction l with
  | nil => simp at ha
  | cons y r ih =>
    obtain ⟨h1, h2⟩ := List.nodup_cons.1 hn
    by_cases e : y = a
    · subst e
      have : r.filter (fun q => q != y) = r := by
        rw [List.filter_eq_self]
        intro z hz
        simp only [bne_iff_ne, ne_eq]
        rintro rfl
        exact h1 hz
      simp [this]
    · have := ih h2 (by simpa [show ¬ a = y from fun e' => e e'.symm] using ha)
      rw [List.filter_cons_of_pos (by simpa using e)]
      simp only [List.length_cons]; omega

theorem drop_step {w0 w : World} {F0 : List Nat} {t B : Nat} {hn nn : Int} {nd : Path → Nd} {N : List Path} {Hs : List (Path × Str)} (h : TS w0 F0 w t B hn nn nd N Hs) {p : Path} (hp : p ∈ N) {x : Str}
    {m : Nat} (hkb : (nd p).kb = some m) {D : DataW Unit} (hD1 : w.ownsMap Tryd.prog 9 ptrElem m (Maps.size D) D) (hD2 : Maps.size D ≤ B) (hD3 : ∀ x, Maps.has D (.string x) = (kidOf nd N p x).isSome ∧ ∀ b, kidOf nd N p x = some b → ∀ z, D.atKey (.string x) z = ptrDat b)
    (v : Int) (w2 : World) (n : Nat) (hown2 : w2.ownsMap Tryd.prog 9 ptrElem m n (D.del (.string x))) (hg : w.grownBy w2 (some m)) :
    w2.cell? ⟨t, 3, none⟩ = some (.int .i64 nn) ∧ w2.frozen? ⟨t, 3, none⟩ = false ∧ Mod F0 w0 w2 ∧ TS w0 F0 (w2.setCell ⟨t, 3, none⟩ (.int .i64 v)) t B hn v nd (N.filter fun q => q != p ++ [x]) Hs := by
  have h2 := h.dropKid hp hkb hD1 hD2 hD3 hown2 hg
  have h3 := h2.count 3 v (.inr rfl)
  simp only [if_true, show ¬ (3 : Nat) = 2 by omega, if_false] at h3
  have f3 := h2.rep.fz h2.rep.has0 3
  rw [h2.rep.root] at f3
  exact ⟨h2.rep.c2.2, f3, h2.mod, h3⟩

set_option maxRecDepth 100000 in
set_option maxHeartbeats 4000000 in
theorem rem_from (bl bc bf bt t : Nat) (L : Path) (c : ByteArray) (w0 : World) (F0 : List Nat) (hc : c.size ≤ maxLen) (hLs : ∀ x ∈ L, x.length ≤ 4294967296) (hE : ∀ W, Mod F0 w0 W → RemW bl bc bf bt t L c W) (B : Nat) (hB : B < 200000000) (hLl : L.length < 4294967296) (hn : Int) :
    ∀ (n i : Nat) (w : World) (nd : Path → Nd) (Ns : List Path) (Hs : List (Path × Str)), L.length = i + n → TS w0 F0 w t B hn Ns.length nd Ns Hs → Tight Ns Hs → L.take i ∈ Ns → Ns.length < 200000000 →
    Calls Tryd.prog 22 #[.pointer (some ⟨(nd (L.take i)).b, 0, none⟩), .int .i64 i, .pointer (some ⟨bl, 0, none⟩), .pointer (some ⟨bc, 0, none⟩), .pointer (some ⟨bf, 0, none⟩), .pointer (some ⟨bt, 0, none⟩)] w fun e w' =>
      e = .returned (.bool (decide ((L, c.data.toList) ∈ Hs))) ∧ TS w0 F0 w' t B hn (remN (L.take i) L c.data.toList Ns Hs).length nd (remN (L.take i) L c.data.toList Ns Hs) (Hs.erase (L, c.data.toList)) := by
  intro n
  induction n with
  | zero =>
    intro i w nd Ns Hs hn' hS hTi hp hNl
    have HS := Lib.hid hS
    have HR := Lib.hid (hE w hS.mod)
    have etk : L.take i = L := List.take_of_length_le (by omega)
    rw [etk] at hp ⊢
    have HEND : Hid (remN L L c.data.toList Ns Hs = Ns) := Lib.hid (by unfold remN; split; exact cut_all hTi; rfl)
    rw [HEND.out]
    obtain ⟨a, ca, cl, -⟩ := HR.out.l
    have cc := HR.out.c
    have h1 : ((i : Int) == L.length) = true := by simp; omega
    have c1 := hS.rep.c1 hp
    have hcl := hS.rep.cls L hp
    have HLK := Lib.hid (fun (W : World) (hb : Below w.heap.size w W) => show (Instr.lookup 33 (.map (nd L).cb) (.string c) true).run Tryd.prog W = .ok (.tuple #[.agg #[], .bool (decide ((L, c.data.toList) ∈ Hs))]) W from (hcl.of (w' := W) (fun m hm => hb.block m (hS.rep.lt L hp m (blocks_cb hm))) (Nat.le_refl _) (fun _ => rfl)).look hc)
    have hnd := hTi.hn
    obtain ⟨bin, hbin⟩ : ∃ b, decide ((L, c.data.toList) ∈ Hs) = b := ⟨_, rfl⟩
    rw [hbin] at HLK ⊢
    have HSZ := Lib.hid ((hS.drewN 1).below ((Below.refl _ _).alloc (Nat.le_refl _) (.cells #[] 41)))
    have HBZ := Lib.hid (show Below w.heap.size w ((w.drewN 1).alloc (.cells #[] 41)) from (below_drewN (Below.refl _ _) 1).alloc (Nat.le_refl _) _)
    have hl1 := HLK.out _ (below_drewN (Below.refl _ _) 1)
    have hl2 := HLK.out _ HBZ.out
    have c2 := HSZ.out.rep.c1 hp
    have cc2 := (hE _ HSZ.out.mod).c
    have hcl2 := HSZ.out.rep.cls L hp
    generalize hcbe : (nd L).cb = cb at *
    clear hS etk hE hLs hcl HLK
    go_enter Tryd.func22, Tryd.ntmps22
    go_wp2_with fail
    refine wp_region_held_drew (S := fun W => W.cell? ⟨(nd L).b, 1, none⟩ = some (.map cb) ∧ W.cell? ⟨bc, 0, none⟩ = some (.string c) ∧ (Instr.lookup 33 (.map cb) (.string c) true).run Tryd.prog W = .ok (.tuple #[.agg #[], .bool bin]) W) (by kernel_rfl) ⟨c1, cc, hl1⟩ (fun hHeld => ?_)
    refine wpAnyH_take (i := 0) (v := ?_) rfl (by kernel_rfl) (by kernel_rfl) (by kernel_rfl) (fun _ _ _ h => h) (Or.inl ⟨rfl, ?_⟩) hHeld ?_
    rotate_left
    · intro w0 hS0
      try dsimp only at hS0
      go_simp
      try with_reducible rfl
    simp only [List.getElem_toArray, List.getElem_cons_zero, Act.put, List.setIfInBounds_toArray, List.set_cons_zero, List.set_cons_succ]
    refine wpAnyH_take (i := 1) (v := ?_) rfl (by kernel_rfl) (by kernel_rfl) (by kernel_rfl) (fun _ _ _ h => h) (Or.inl ⟨rfl, ?_⟩) hHeld ?_
    rotate_left
    · intro w0 hS0
      try dsimp only at hS0
      go_simp
      try with_reducible rfl
    simp only [List.getElem_toArray, List.getElem_cons_zero, List.getElem_cons_succ, Act.put, List.setIfInBounds_toArray, List.set_cons_zero, List.set_cons_succ]
    refine wpAnyH_take (i := 2) (v := ?_) rfl (by kernel_rfl) (by kernel_rfl) (by kernel_rfl) (fun _ _ _ h => h) (Or.inl ⟨rfl, ?_⟩) hHeld ?_
    rotate_left
    · intro w0 hS0
      try dsimp only at hS0
      go_simp
      try with_reducible rfl
    simp only [List.getElem_toArray, List.getElem_cons_zero, List.getElem_cons_succ, Act.put, List.setIfInBounds_toArray, List.set_cons_zero, List.set_cons_succ]
    refine wpAnyH_take (i := 3) (v := ?_) rfl (by kernel_rfl) (by kernel_rfl) (by kernel_rfl) (fun _ _ _ h => h) (Or.inl ⟨rfl, ?_⟩) hHeld ?_
    rotate_left
    · intro w0 hS0
      try dsimp only at hS0
      go_simp
      try with_reducible rfl
    simp only [List.getElem_toArray, List.getElem_cons_zero, List.getElem_cons_succ, Act.put, List.setIfInBounds_toArray, List.set_cons_zero, List.set_cons_succ]
    refine wpAnyH_take (i := 4) (v := ?_) rfl (by kernel_rfl) (by kernel_rfl) (by kernel_rfl) (fun _ _ _ h => h) (Or.inl ⟨rfl, ?_⟩) hHeld ?_
    rotate_left
    · intro w0 hS0
      try dsimp only at hS0
      go_simp
      try with_reducible rfl
    simp only [List.getElem_toArray, List.getElem_cons_zero, List.getElem_cons_succ, Act.put, List.setIfInBounds_toArray, List.set_cons_zero, List.set_cons_succ]
    refine wpAnyH_take (i := 5) (v := ?_) rfl (by kernel_rfl) (by kernel_rfl) (by kernel_rfl) (fun _ _ _ h => h) (Or.inl ⟨rfl, ?_⟩) hHeld ?_
    rotate_left
    · intro w0 hS0
      try dsimp only at hS0
      go_simp
      try with_reducible rfl
    simp only [List.getElem_toArray, List.getElem_cons_zero, List.getElem_cons_succ, Act.put, List.setIfInBounds_toArray, List.set_cons_zero, List.set_cons_succ]
    refine wpAnyH_take (i := 6) (v := ?_) rfl (by kernel_rfl) (by kernel_rfl) (by kernel_rfl) (fun _ _ _ h => h) (Or.inl ⟨rfl, ?_⟩) hHeld ?_
    rotate_left
    · intro w0 hS0
      try dsimp only at hS0
      go_simp
      try with_reducible rfl
    simp only [List.getElem_toArray, List.getElem_cons_zero, List.getElem_cons_succ, Act.put, List.setIfInBounds_toArray, List.set_cons_zero, List.set_cons_succ]
    refine wpAnyH_take (i := 7) (v := ?_) rfl (by kernel_rfl) (by kernel_rfl) (by kernel_rfl) (fun _ _ _ h => h) (Or.inl ⟨rfl, ?_⟩) hHeld ?_
    rotate_left
    · intro w0 hS0
      try dsimp only at hS0
      go_simp
      try with_reducible rfl
    simp only [List.getElem_toArray, List.getElem_cons_zero, List.getElem_cons_succ, Act.put, List.setIfInBounds_toArray, List.set_cons_zero, List.set_cons_succ]
    refine wpAnyH_take (i := 8) (v := ?_) rfl (by kernel_rfl) (by kernel_rfl) (by kernel_rfl) (fun _ _ _ h => h) (Or.inl ⟨rfl, ?_⟩) hHeld ?_
    rotate_left
    · intro w0 hS0
      try dsimp only at hS0
      go_simp
      try with_reducible rfl
    simp only [List.getElem_toArray, List.getElem_cons_zero, List.getElem_cons_succ, Act.put, List.setIfInBounds_toArray, List.set_cons_zero, List.set_cons_succ]
    refine wpAnyH_ready (rs := [9]) (by kernel_rfl) (by simp) ?_
    refine AllReadyH.cons rfl (fun K hK => ?_) AllReadyH.nil
    rw [if_pos (by rfl)]
    go_simp
    refine hK.out _ _ ⟨c2, cc2, hl2⟩ (fun hHeld => ?_)
    refine wpAnyH_ready (rs := [10]) (by kernel_rfl) (by simp) ?_
    refine AllReadyH.cons rfl (fun K hK => ?_) AllReadyH.nil
    rw [if_pos (by rfl)]
    go_simp
    refine hK.out _ _ ⟨c2, cc2, hl2⟩ (fun hHeld => ?_)
    refine wpAnyH_take (i := 11) (v := ?_) rfl (by kernel_rfl) (by kernel_rfl) (by kernel_rfl) (fun _ _ _ h => h) (Or.inl ⟨rfl, ?_⟩) hHeld ?_
    rotate_left
    · intro w0 hS0
      try dsimp only at hS0
      go_simp
      try with_reducible rfl
    simp only [List.getElem_toArray, List.getElem_cons_zero, List.getElem_cons_succ, Act.put, List.setIfInBounds_toArray, List.set_cons_zero, List.set_cons_succ]
    refine wpAnyH_done (by kernel_rfl) ?_ _
    change Exit.then _ _ _ _ ((w.drewN 1).alloc (.cells #[] 41))
    clear hHeld c1 cc hl1 hl2 cl h1
    generalize (w.drewN 1).alloc (.cells #[] 41) = w2 at *
    go_wp2_with fail
    go_still_tail 5, (by kernel_rfl)
    change wpList _ _ _ _ _ w2.drew
    cases cb with
    | none =>
      have hnil : (L, c.data.toList) ∉ Hs := by simpa using hcl2 c.data.toList
      have HER := Lib.hid (List.erase_of_not_mem hnil)
      have hdn : ∀ ty W, (Builtin.delete_ #[33, 9] ty #[.map none, .string c]).run Tryd.prog W = .ok (.tuple #[]) W := fun ty W => Maps.drop_nil kS Tryd.underlying33 (skey hc) ty
      go_wp2_with fail
      go_ret
      exact ⟨rfl, by rw [HER.out]; exact HSZ.out.drewN 1⟩
    | some m =>
      obtain ⟨D, hD1, hD2, hD3⟩ := hcl2
      have HDEL := Lib.hid (fun w3 n hown hg => (HSZ.out.drewN 1).delCl hp hcbe hD1.drew hD2 hD3 (c := c.data.toList) (w2 := w3) (n := n) hown hg hnd)
      have hD := hD1.drew
      clear hD1 hD2 hD3
      go_wp2_with (first | (at_delete; refine wpList_delete_own _ rfl _ _ 33 9 rfl 41 kS Tryd.underlying33 _ m _ _ rfl hD _ _ rfl (skey hc) ?_; intro w3 hown3 hturn3) | fail)
      go_ret
      exact ⟨rfl, HDEL.out _ _ hown3 hturn3.grown⟩
  | succ n ih =>
    intro i w nd Ns Hs hn' hS hTi hp hNl
    have HI := Lib.hid ih
    have HS := Lib.hid hS
    have HTI := Lib.hid hTi
    have hlt : i < L.length := by omega
    have hi0 : (0 : Int) ≤ i := by omega
    have hiL : (i : Int) < L.length := by omega
    have h1 : ((i : Int) == L.length) = false := by simp; omega
    have hw1 : IntKind.i64.wrap ((i : Int) + 1) = (i : Int) + 1 := w_i64 _ (by omega) (by omega)
    have etk1 := List.take_succ_eq_append_getElem hlt
    have hxs : (⟨L[i].toArray⟩ : ByteArray).size ≤ maxLen := by have := hLs _ (List.getElem_mem hlt); show L[i].length ≤ _; unfold maxLen; omega
    have hpre : ∃ r, L = L.take i ++ L[i] :: r := ⟨L.drop (i + 1), by rw [← List.drop_eq_getElem_cons hlt, List.take_append_drop]⟩
    have HBOX := Lib.hid (fun W (hm : Mod F0 w0 W) => show (∃ a ca b o, a = some ⟨b, o, none⟩ ∧ W.cell? ⟨bl, 0, none⟩ = some (.slice a L.length ca) ∧ W.cell? ⟨b, o + i, none⟩ = some (.string ⟨L[i].toArray⟩)) ∧ W.cell? ⟨bf, 0, none⟩ = some (.func (.func 22) #[] #[.pointer (some ⟨bl, 0, none⟩), .pointer (some ⟨bc, 0, none⟩), .pointer (some ⟨bf, 0, none⟩), .pointer (some ⟨bt, 0, none⟩)]) ∧ W.cell? ⟨bt, 0, none⟩ = some (.pointer (some ⟨t, 0, none⟩)) from by
      obtain ⟨⟨a, ca, c1, c2⟩, -, c3, c4⟩ := hE W hm
      obtain ⟨b, o, ha, k0⟩ := strs_row c2 (k := i) (x := L[i]) (by simp [hlt])
      exact ⟨⟨a, ca, b, o, ha, c1, k0⟩, c3, c4⟩)
    have HNN := Lib.hid hn'
    have hin : i + 1 ≤ L.length := by omega
    generalize L[i] = x at *
    generalize hpe : L.take i = p at *
    obtain ⟨⟨_, ca, b1, o1, rfl, cl, k0⟩, cf, ct⟩ := HBOX.out w hS.mod
    have c0 := hS.rep.c0 hp
    have hkk := hS.rep.kids p hp
    have hlq := fun n => (hkk.of (w' := w.drewN n) (fun _ _ => rfl) (Nat.le_refl _) (fun _ => rfl)).look hxs
    rw [str_data] at hlq
    by_cases hx : p ++ [x] ∈ Ns
    · rw [show kidOf nd Ns p x = some (nd (p ++ [x])).b from if_pos hx] at hlq
      simp only [ptrV] at hlq
      have HC := Lib.hid (fun (m : Nat) => HI.out (i + 1) (w.drewN m) nd Ns Hs (by have := HNN.out; omega) (HS.out.drewN m) HTI.out (by rw [etk1]; exact hx) hNl)
      rw [etk1, show ((i + 1 : Nat) : Int) = (i : Int) + 1 by omega] at HC
      obtain ⟨bin, hbin⟩ : ∃ b, decide ((L, c.data.toList) ∈ Hs) = b := ⟨_, rfl⟩
      rw [hbin] at HC ⊢
      clear hkk hS hn' hTi
      cases bin with
      | false =>
        have hnin : (L, c.data.toList) ∉ Hs := by simpa using hbin
        have HE1 := Lib.hid (show remN (p ++ [x]) L c.data.toList Ns Hs = Ns by unfold remN; rw [if_neg hnin])
        have HE2 := Lib.hid (show remN p L c.data.toList Ns Hs = Ns by unfold remN; rw [if_neg hnin])
        rw [HE1.out] at HC
        rw [HE2.out]
        clear hE hLs hbin hpre
        go_enter Tryd.func22, Tryd.ntmps22
        go_wp2_with fail
        go_quiet (fail)
        go_wp2_with fail
        refine (HC.out nq).mono ?_
        rintro e w2 ⟨rfl, hS2⟩
        have HS2 := Lib.hid hS2
        clear hS2
        go_wp2_with fail
        go_ret
        exact ⟨rfl, HS2.out⟩
      | true =>
        have hyin : (L, c.data.toList) ∈ Hs := by simpa using hbin
        have HE1 := Lib.hid (show remN (p ++ [x]) L c.data.toList Ns Hs = cut (p ++ [x]) (Hs.erase (L, c.data.toList)) Ns by unfold remN; rw [if_pos hyin])
        have HE2 := Lib.hid (show remN p L c.data.toList Ns Hs = cut p (Hs.erase (L, c.data.toList)) Ns by unfold remN; rw [if_pos hyin])
        have hstep : cut p (Hs.erase (L, c.data.toList)) Ns = if live (Hs.erase (L, c.data.toList)) (p ++ [x]) then cut (p ++ [x]) (Hs.erase (L, c.data.toList)) Ns else (cut (p ++ [x]) (Hs.erase (L, c.data.toList)) Ns).filter fun q => q != p ++ [x] := by
          obtain ⟨r, hr⟩ := hpre
          have := cut_step HTI.out (p := p) (x := x) (r := r) (c := c.data.toList)
          rw [← hr] at this
          exact this
        have hdead := dead_iff HTI.out (ls := L) (c := c.data.toList) (q := p ++ [x])
        have hnd1 : (cut (p ++ [x]) (Hs.erase (L, c.data.toList)) Ns).Nodup := HTI.out.nn.filter _
        have hx1 : p ++ [x] ∈ cut (p ++ [x]) (Hs.erase (L, c.data.toList)) Ns := mem_cut.2 ⟨hx, fun _ h => absurd rfl h⟩
        have hp1 : p ∈ cut (p ++ [x]) (Hs.erase (L, c.data.toList)) Ns := mem_cut.2 ⟨hp, fun h => absurd h.length_le (by simp)⟩
        have hl1 : (cut (p ++ [x]) (Hs.erase (L, c.data.toList)) Ns).length ≤ Ns.length := List.length_filter_le _ _
        rw [HE1.out] at HC
        rw [HE2.out]
        generalize cut (p ++ [x]) (Hs.erase (L, c.data.toList)) Ns = N1 at *
        generalize cut p (Hs.erase (L, c.data.toList)) Ns = N2 at *
        generalize Hs.erase (L, c.data.toList) = Hs1 at *
        clear hE hLs hbin hpre HE1 HE2
        go_enter Tryd.func22, Tryd.ntmps22
        go_wp2_with fail
        go_quiet (fail)
        go_wp2_with fail
        refine (HC.out nq).mono ?_
        rintro e w2 ⟨rfl, hS2⟩
        have HS2 := Lib.hid hS2
        obtain ⟨n1, hB1, hz1, hq1⟩ := (hS2.rep.kids _ hx1).len
        obtain ⟨n2, hB2, hz2, hq2⟩ := (hS2.rep.cls _ hx1).len
        have e0 := hS2.rep.c0 hx1
        have e1 := hS2.rep.c1 hx1
        have hq1' := fun n ty => hq1 ty (w2.drewN n) (fun _ _ => rfl)
        have hq2' := fun n ty => hq2 ty (w2.drewN n) (fun _ _ => rfl)
        have hw2 : IntKind.i64.wrap ((n1 : Int) + n2) = (n1 : Int) + n2 := w_i64 _ (by omega) (by omega)
        have hzz : (n1 = 0 ∧ n2 = 0) ↔ live Hs1 (p ++ [x]) = false := by
          rw [hz1, hz2, hdead]
          refine and_congr (forall_congr' fun y => ?_) (forall_congr' fun d => by simp)
          unfold kidOf
          split
          · rename_i h; exact ⟨fun e => (by cases e), fun e => absurd h e⟩
          · rename_i h; exact ⟨fun _ => h, fun _ => rfl⟩
        clear hz1 hz2 hq1 hq2 hS2 hdead c0 cl k0 cf ct hlq HC
        cases hlv : live Hs1 (p ++ [x]) with
        | true =>
          rw [hlv] at hstep
          simp only [if_true] at hstep
          subst hstep
          have hsum : ((n1 : Int) + n2 == 0) = false := by
            rw [beq_eq_false_iff_ne]
            intro h
            have := hzz.1 ⟨by omega, by omega⟩
            rw [hlv] at this; cases this
          clear hzz
          go_wp2_with fail
          go_quiet (fail)
          go_wp2_with fail
          go_ret
          exact ⟨rfl, HS2.out.drewN _⟩
        | false =>
          rw [hlv] at hstep
          simp only [Bool.false_eq_true, if_false] at hstep
          obtain ⟨h0, h0'⟩ := hzz.2 hlv
          subst h0 h0'
          clear hzz
          go_wp2_with fail
          go_quiet (fail)
          have HS3 := Lib.hid (HS2.out.drewN nq)
          generalize w2.drewN nq = w3 at *
          clear hq1' hq2' e0 e1
          obtain ⟨⟨_, ca3, b3, o3, rfl, cl3, k3⟩, -, -⟩ := HBOX.out w3 HS3.out.mod
          have c0 := HS3.out.rep.c0 hp1
          have hkk := HS3.out.rep.kids p hp1
          obtain ⟨m, hkb⟩ : ∃ m, (nd p).kb = some m := by
            have hkn : kidOf nd N1 p x = some (nd (p ++ [x])).b := if_pos hx1
            cases hkb : (nd p).kb with
            | none => rw [hkb] at hkk; rw [hkk x] at hkn; cases hkn
            | some m => exact ⟨m, rfl⟩
          rw [hkb] at c0
          obtain ⟨D, hD1, hD2, hD3⟩ := kidsD hkk hkb
          have HDK := Lib.hid (fun v (_ : v = (N1.length : Int) - 1) => drop_step (HS3.out.drewN 1) hp1 (x := x) hkb hD1.drew hD2 hD3 v)
          have hD := hD1.drew
          have hw3 : IntKind.i64.wrap ((N1.length : Int) - 1) = (N1.length : Int) - 1 := w_i64 _ (by omega) (by omega)
          have hlen : (((N1.filter fun q => q != p ++ [x]).length : Nat) : Int) = (N1.length : Int) - 1 := by have h5 : (N1.filter fun q => q != p ++ [x]).length + 1 = N1.length := len_filter_ne hnd1 hx1; omega
          subst hstep
          clear hD1 hD2 hD3 hkk
          go_wp2_with fail
          go_still_tail 8, (by kernel_rfl)
          change wpList _ _ _ _ _ w3.drew
          go_wp2_with (first | (at_delete; refine wpList_delete_own _ rfl _ _ 36 9 rfl 35 kS Tryd.underlying36 _ m _ _ rfl hD _ _ rfl (skey hxs) ?_; intro w4 hown4 hturn4; obtain ⟨c3, f3, hm4, hS4⟩ := HDK.out _ rfl _ _ hown4 hturn4.grown; have HS4 := Lib.hid hS4; have ct4 := (HBOX.out w4 hm4).2.2; clear hS4 hm4 hown4 hturn4) | fail)
          go_ret
          exact ⟨rfl, by rw [hlen]; exact HS4.out⟩
    · have hnin : (L, c.data.toList) ∉ Hs := fun h => hx (HTI.out.up (HTI.out.hint h) (by obtain ⟨r, hr⟩ := hpre; exact ⟨r, by rw [hr]; simp⟩))
      rw [show kidOf nd Ns p x = none from if_neg hx] at hlq
      simp only [ptrV] at hlq
      have HE2 := Lib.hid (show remN p L c.data.toList Ns Hs = Ns by unfold remN; rw [if_neg hnin])
      have HE3 := Lib.hid (List.erase_of_not_mem hnin)
      have HE4 := Lib.hid (decide_eq_false hnin)
      rw [HE2.out, HE3.out, HE4.out]
      clear hE hLs hpre hkk hS hTi hn'
      go_enter Tryd.func22, Tryd.ntmps22
      go_wp2_with fail
      go_quiet (fail)
      go_wp2_with fail
      go_ret
      exact ⟨rfl, HS.out.drewN _⟩
end Go.Proofs.YtcnjgenacpkdbaaDoor
