/- The document's model: Lists walked. The document's model of the call's own, and what its calls answer. ModelPlays: the program's model and the document's side by side; calls that leave the world. -/
import Derived.Test.YthfeckndkmhieaaGreatDoorDF
import Derived.Test.YthfeckndkmhieaaGreatDoorQO
import Derived.Test.YthfeckndkmhieaaGreatDoorDG
import Derived.Test.YthfeckndkmhieaaGreatDoorQP
import Derived.Test.YthfeckndkmhieaaGreatDoorQR
import Derived.Test.YthfeckndkmhieaaGreatDoorMGreatN
namespace Go.Proofs.YthfeckndkmhieaaGreatDoor
section
open Go Go.RowKit Go.Maps Go.Lib

def addT (hs : List Hint) : List Hint := hs.foldl (fun acc h => addG acc h.1 h.2) []
theorem addT_snoc (hs : List Hint) (h : Hint) : addT (hs ++ [h]) = addG (addT hs) h.1 h.2 := by unfold addT; rw [List.foldl_append]; rfl
theorem insH_len (h : Hint) (l : List Hint) : (insH h l).length = l.length + 1 := (perm_insH h l).length_eq
theorem addG_len (Gs : List Hint) (s c : Str) : (addG Gs s c).length ≤ Gs.length + 1 := by
  unfold addG
  split
  · rw [insH_len]; omega
  · omega
theorem addT_len (hs : List Hint) : (addT hs).length ≤ hs.length := by
  have go : ∀ (l acc : List Hint), (l.foldl (fun acc h => addG acc h.1 h.2) acc).length ≤ acc.length + l.length := fun l => by
    induction l with
    | nil => exact fun acc => Nat.le_refl _
    | cons x t ih =>
      intro acc
      have h1 := ih (addG acc x.1 x.2)
      have h2 := addG_len acc x.1 x.2
      simp only [List.foldl_cons, List.length_cons]
      omega
  have := go hs []
  simpa [addT] using this
theorem addT_all {hs : List Hint} (hn : hs.Nodup) (hf : ∀ x ∈ hs, filterB x.1 = true) : addT hs = addAll hs := by
  have go : ∀ (l acc : List Hint), (l ++ acc).Nodup → (∀ x ∈ l, filterB x.1 = true) → l.foldl (fun acc h => addG acc h.1 h.2) acc = l.foldl (fun acc h => insH h acc) acc := fun l => by
    induction l with
    | nil => exact fun _ _ _ => rfl
    | cons x t ih =>
      intro acc hn hf
      have hp : (t ++ insH x acc).Perm (x :: t ++ acc) := ((perm_insH x acc).append_left t).trans List.perm_middle
      have hx : x ∉ acc := fun hin => by
        rw [List.cons_append, List.nodup_cons] at hn
        exact hn.1 (List.mem_append.2 (.inr hin))
      have e : addG acc x.1 x.2 = insH x acc := by
        unfold addG addB
        rw [hf x (by simp)]
        simp [hx]
      rw [List.foldl_cons, List.foldl_cons, e]
      exact ih _ (hp.nodup_iff.2 hn) (fun y hy => hf y (by simp [hy]))
  exact go hs [] (by simpa using hn) hf
theorem allHints_len {st : Seats} (h : ∀ x ∈ st, x.2.l.length ≤ 16) : (allHints st).length ≤ st.length * 16 := by
  induction st with
  | nil => simp [allHints]
  | cons x t ih =>
    have h1 := ih (fun y hy => h y (by simp [hy]))
    have h2 := h x (by simp)
    unfold allHints at *
    rw [List.flatMap_cons, List.length_append, hintsOf_len, List.length_cons]
    omega
theorem allHints_snoc (st : Seats) (x : Str × Seat) : allHints (st ++ [x]) = allHints st ++ hintsOf x.1 x.2.l := by simp [allHints]
theorem listsT {s : MS} (h : MOk s) : addT (allHints s.seats) = listsM s.seats := by
  refine addT_all (allHints_nodup h.key fun x hx => (h.ok x hx).2.2.2) fun y hy => ?_
  obtain ⟨f, c⟩ := y
  obtain ⟨z, hz, hf⟩ := mem_allHints.1 hy
  obtain ⟨u, hu, rfl⟩ := List.mem_map.1 hf
  exact ((h.ok _ hz).2.2.1 u hu).2.2.1
theorem trep_newT (w : World) : TRep (w.alloc (.cells #[.slice none 0 0] 97)) w.heap.size [] [w.heap.size] :=
  ⟨none, 0, heap_alloc_new _ _, by simp, by simp [maxLen], .inl rfl, by simp, (fun b o e => by cases e), fun k hk => by rw [List.mem_singleton.1 hk]; simp⟩
set_option maxRecDepth 100000 in
set_option maxHeartbeats 4000000 in
theorem dlists_any (r kg : Nat) (v : Value) (KF : List Nat) (bl : Str → Nat × List Nat) (s : MS) (w : World) (h : DParts w r kg v KF bl s) (hO : MOk s) (hl : s.seats.length ≤ 1000) :
    Calls Tryz.prog 25 #[.pointer (some ⟨r, 0, none⟩)] w fun e w' => ∃ a c, e = .returned (.slice a (listsM s.seats).length c) ∧ Row w' a (hintsV (listsM s.seats)) ∧ Below w.heap.size w w' := by
  obtain ⟨a, cp, hv, c0, -, hrow⟩ := h.held
  have HLT := Lib.hid (listsT hO)
  have HH : Hid (∀ X, Below w.heap.size w X → X.cell? ⟨r, 0, none⟩ = some (.slice a s.seats.length cp) ∧ Row X a (seatsV bl s.seats)) := Lib.hid (fun X hX => by
    obtain ⟨a', cp', hv', c0', -, hrow'⟩ := (h.below hX).held
    rw [hv] at hv'
    obtain ⟨rfl, rfl⟩ : a = a' ∧ cp = cp' := by simpa using hv'
    exact ⟨c0', hrow'⟩)
  have HL : Hid (∀ (i : Nat) (x : Str × Seat), s.seats[i]? = some x → ∃ la lc, x.2.l.length ≤ 16 ∧ ∀ X, Below w.heap.size w X → X.cell? ⟨(bl x.1).1, 0, none⟩ = some (.slice la x.2.l.length lc) ∧ Row X la (subsV x.2.l)) := Lib.hid (fun i x hx => by
    have hlk : lookS x.1 s.seats = some x.2 := lookS_of_mem hO.key (List.mem_of_getElem? hx)
    have hd : DRep w (bl x.1).1 x.2.l (bl x.1).2 := h.fam.rep _ _ hlk
    obtain ⟨la, lc, -, hh⟩ := hd.held
    exact ⟨la, lc, hd.len, hh⟩)
  have HAL : Hid (∀ i : Nat, (allHints (s.seats.take i)).length ≤ 16000) := Lib.hid (fun i => by
    have h1 := allHints_len (st := s.seats.take i) (fun x hx => by
      obtain ⟨j, hj⟩ := List.getElem?_of_mem (List.mem_of_mem_take hx)
      obtain ⟨_, _, h16, -⟩ := HL.out j x hj
      exact h16)
    rw [List.length_take] at h1
    omega)
  have HFO : Hid (∀ x ∈ s.seats, ∀ y ∈ x.2.l, y.1.length < 4294967281) := Lib.hid (fun x hx y hy => ((hO.ok x hx).2.2.1 y hy).2.2.2)
  clear h hO hv c0 hrow
  generalize s.seats = st at *
  go_enter Tryz.func25, Tryz.ntmps25
  go_wp2_with fail
  have hb1 := low_alloc w (.cells #[.slice none 0 0] 97)
  have HT1 := Lib.hid (trep_newT w)
  have HB1 := Lib.hid hb1
  clear hb1
  generalize w.alloc (.cells #[.slice none 0 0] 97) = w1 at *
  go_loopw [4] (fun i wr => ∃ j : Nat, i = .int .i64 j ∧ j ≤ st.length ∧ ∃ G, Below w.heap.size w wr ∧ (∀ k ∈ G, w.heap.size ≤ k) ∧ TRep wr w.heap.size (addT (allHints (st.take j))) G) (fun i _ => (st.length - intOf i).toNat)
  case atStart => exact ⟨0, rfl, by omega, [w.heap.size], HB1.out, by simp, by simpa [allHints, addT] using HT1.out⟩
  case round =>
    obtain ⟨j, rfl, hjl, G, hbr, hG, hT⟩ := hrel
    clear HT1 HB1
    obtain ⟨c0, hrow⟩ := HH.out _ hbr
    by_cases hlt : j < st.length
    · have hjI : (j : Int) < st.length := by omega
      have hj0 : (0 : Int) ≤ j := by omega
      obtain ⟨b1, o1, rfl, -, -, -, d3⟩ := seats_row hrow (k := j) (x := st[j]) (by simp [hlt])
      obtain ⟨la, lc, h16, hla⟩ := HL.out j st[j] (by simp [hlt])
      have HLA := Lib.hid hla
      have HC : Hid (∀ X, Below w.heap.size w X → X.cell? ⟨r, 0, none⟩ = some (.slice (some ⟨b1, o1, none⟩) st.length cp) ∧ X.cell? ⟨b1, o1 + j * 4, none⟩ = some (.string ⟨st[j].1.toArray⟩) ∧ X.cell? ⟨b1, o1 + j * 4 + 3, none⟩ = some (.pointer (some ⟨(bl st[j].1).1, 0, none⟩))) := Lib.hid (fun X hX => by
        obtain ⟨k0, k1⟩ := HH.out X hX
        obtain ⟨b2, o2, e, f0, -, -, f3⟩ := seats_row k1 (k := j) (x := st[j]) (by simp [hlt])
        cases e
        exact ⟨k0, f0, f3⟩)
      have HTK : Hid (allHints (st.take (j + 1)) = allHints (st.take j) ++ hintsOf st[j].1 st[j].2.l) := Lib.hid (by rw [List.take_succ_eq_append_getElem hlt, allHints_snoc])
      have HFJ := Lib.hid (HFO.out st[j] (List.getElem_mem hlt))
      have HAJ := Lib.hid (HAL.out j)
      generalize st[j] = y at *
      obtain ⟨yc, yl, ycn, ycl⟩ := y
      dsimp only at *
      generalize allHints (st.take j) = A at *
      have HT := Lib.hid hT
      have HG := Lib.hid hG
      have HBR := Lib.hid hbr
      clear hT hG hbr hla hrow d3
      go_wp2_with fail
      clear c0
      go_loopw [5] (fun i wq => ∃ k : Nat, i = .int .i64 k ∧ k ≤ yl.length ∧ ∃ G, Below w.heap.size w wq ∧ (∀ k ∈ G, w.heap.size ≤ k) ∧ TRep wq w.heap.size (addT (A ++ hintsOf yc (yl.take k))) G) (fun i _ => (yl.length - intOf i).toNat)
      case atStart => exact ⟨0, rfl, by omega, G, HBR.out, HG.out, by simpa [hintsOf] using HT.out⟩
      case round =>
        obtain ⟨k, rfl, hkl, G1, hbq, hG1, hT1⟩ := hrel
        clear HT HG HBR
        obtain ⟨c0, e0, e3⟩ := HC.out _ hbq
        obtain ⟨l0, hlr⟩ := HLA.out _ hbq
        by_cases hlk : k < yl.length
        · have hkI : (k : Int) < yl.length := by omega
          have hk0 : (0 : Int) ≤ k := by omega
          obtain ⟨b2, o2, rfl, f0, -⟩ := subs_row hlr hlk
          have HTK2 : Hid (A ++ hintsOf yc (yl.take (k + 1)) = A ++ hintsOf yc (yl.take k) ++ [(yl[k].1, yc)]) := Lib.hid (by
            rw [List.take_succ_eq_append_getElem hlk, hintsOf, hintsOf, List.map_append, List.append_assoc]; rfl)
          have HLEN : Hid ((addT (A ++ hintsOf yc (yl.take k))).length ≤ 100000) := Lib.hid (by
            have h1 := addT_len (A ++ hintsOf yc (yl.take k))
            rw [List.length_append, hintsOf_len, List.length_take] at h1
            have := HAJ.out
            omega)
          have hyl := HFJ.out yl[k] (List.getElem_mem hlk)
          generalize yl[k] = z at *
          obtain ⟨zf, zq⟩ := z
          dsimp only at *
          have HA := Lib.hid (tdadd_any w.heap.size _ G1 zf yc wr.drew (hT1.below (Below.refl _ _).drew) HLEN.out hyl)
          have HBQ := Lib.hid hbq
          have HG1 := Lib.hid hG1
          clear hT1 hG1 hlr hyl hbq
          go_wp2_with fail
          go_still_tail 24, (by kernel_rfl)
          change wpList _ _ _ _ _ wr.drew
          go_wp2_with fail
          refine HA.out.mono ?_
          rintro e w3 ⟨rfl, G2, hT2, hu2⟩
          have HT2 := Lib.hid hT2
          obtain ⟨hb2, hG2⟩ := lie_below HBQ.out.drew (Nat.le_refl _) HG1.out hu2
          have HB2 := Lib.hid hb2
          have HG2 := Lib.hid hG2
          clear hT2 hu2 hb2 hG2
          go_wp2_with fail
          go_roundw
          case rel => exact ⟨k + 1, by go_num, by omega, G2, HB2.out, HG2.out, by rw [HTK2.out, addT_snoc]; exact HT2.out⟩
          case measure => simp [intOf]; omega
        · have hkI : ¬ (k : Int) < yl.length := by omega
          rw [List.take_of_length_le (by omega)] at hT1
          go_wp2_with fail
          go_roundw
          case rel => exact ⟨j + 1, by go_num, by omega, G1, hbq, hG1, by rw [HTK.out]; exact hT1⟩
          case measure => simp [intOf]; omega
    · have hjI : ¬ (j : Int) < st.length := by omega
      rw [List.take_of_length_le (by omega), HLT.out] at hT
      obtain ⟨ta, tc, -, -, hh⟩ := hT.held
      obtain ⟨t0, tr⟩ := hh _ (Below.refl _ _)
      have HTR := Lib.hid tr
      have HBR := Lib.hid hbr
      clear hT hh tr hbr hG hrow
      go_wp2_with fail
      go_ret
      exact ⟨ta, ⟨tc, rfl⟩, HTR.out, HBR.out⟩
end
section
open Go Go.RowKit Go.Maps Go.Lib

theorem dapply_any (r kg : Nat) (v : Value) (KF : List Nat) (bl : Str → Nat × List Nat) (s : MS) (n : Note) (w : World) (h : DParts w r kg v KF bl s) (hO : MOk s) (hl : s.seats.length < 1000000) (hkl : s.kept.length < 1000000) (hn : NoteOk n) (hrw : Beside w (footD r v KF bl s.seats) n.pk.subsA (subsV n.pk.subs)) :
    Calls Tryz.prog 20 #[.pointer (some ⟨r, 0, none⟩), .agg n.cells.toArray] w (DApplyQ r kg v KF bl s n w) := by
  by_cases h5 : n.kind = 5
  · exact dapply_keeps r kg v KF bl s n w h hn h5 hO.up hkl
  by_cases h2 : n.kind = 2
  · by_cases h1 : n.pk.ty = 1
    · cases ho : lookS n.client.data.toList s.seats with
      | none => exact dapply_conn_none r kg v KF bl s n w h hl h2 h1 ho
      | some x => exact dapply_conn_some r kg v KF bl s n w h hl hO h2 h1 x ho
    · cases ho : lookS n.client.data.toList s.seats with
      | none => exact dapply_no r kg v KF bl s n w h hl h2 h1 (fun x hx => by rw [ho] at hx; cases hx)
      | some x =>
        by_cases hc1 : n.conn < 1
        · exact dapply_no r kg v KF bl s n w h hl h2 h1 (fun _ _ => .inl hc1)
        by_cases hc2 : x.conn = n.conn
        · by_cases h8 : n.pk.ty = 8
          · exact dapply_sub r kg v KF bl s n w h hl hO.key h2 x ho hc1 hc2 hn hrw h8
          by_cases h10 : n.pk.ty = 10
          · exact dapply_unsub r kg v KF bl s n w h hl hO.key h2 x ho hc1 hc2 hn hrw h10
          by_cases h14 : n.pk.ty = 14
          · exact dapply_end14 r kg v KF bl s n w h hl hO.key h2 x ho hc1 hc2 hrw.row hn.len h14
          by_cases h0 : n.pk.ty = 0
          · exact dapply_end0 r kg v KF bl s n w h hl hO.key h2 x ho hc1 hc2 hrw.row hn.len h0
          · exact dapply_odd r kg v KF bl s n w h hl h2 x ho hc1 hc2 h1 h8 h10 h14 h0
        · exact dapply_no r kg v KF bl s n w h hl h2 h1 (fun y hy => by rw [ho] at hy; cases hy; exact .inr hc2)
  · exact dapply_else r kg v KF bl s n w h h5 h2

/-- the document's model, of the call's own -/
structure DMo (w0 w : World) (r : Nat) (s : MS) (G : List Nat) : Prop where
  p : ∃ kg v KF bl, DParts w r kg v KF bl s ∧ G = footD r v KF bl s.seats
  fG : ∀ k ∈ G, w0.heap.size ≤ k
  bel : Below w0.heap.size w0 w
theorem DMo.lt {w0 w : World} {r : Nat} {s : MS} {G : List Nat} (h : DMo w0 w r s G) : ∀ k ∈ G, k < w.heap.size := by
  obtain ⟨kg, v, KF, bl, h1, rfl⟩ := h.p
  exact h1.lt
theorem DMo.below {w0 w w' : World} {r : Nat} {s : MS} {G : List Nat} (h : DMo w0 w r s G) (hk : Below w.heap.size w w') : DMo w0 w' r s G := by
  obtain ⟨kg, v, KF, bl, h1, h2⟩ := h.p
  exact ⟨⟨kg, v, KF, bl, h1.below hk, h2⟩, h.fG, bnext h.bel (Nat.le_refl _) hk⟩
theorem DMo.mod {w0 w w' : World} {r : Nat} {s : MS} {F F' G : List Nat} (h : DMo w0 w r s G) (hu : Upd F F' w w') (hd : ∀ k ∈ G, k ∉ F) (hF : ∀ k ∈ F, w0.heap.size ≤ k) : DMo w0 w' r s G := by
  obtain ⟨kg, v, KF, bl, h1, h2⟩ := h.p
  exact ⟨⟨kg, v, KF, bl, h1.mod hu.1 (by rw [← h2]; exact hd), h2⟩, h.fG, (lie_below h.bel (Nat.le_refl _) hF hu).1⟩
theorem DMo.beside {w0 w : World} {r : Nat} {s : MS} {G : List Nat} (h : DMo w0 w r s G) {a : Option Addr} {xs : List Value} (hr : Row w0 a xs) : Beside w G a xs := Beside.base hr h.bel h.fG
theorem dapply_x (r : Nat) (x : Note) (A : Ans) (s s' : MS) (w0 : World) (G : List Nat) (w : World) (h : DMo w0 w r s G) (hO : MOk s) (hl : s.seats.length < 1000000) (hkl : s.kept.length < 1000000) (hx : NoteOk x) (hr : Beside w G x.pk.subsA (subsV x.pk.subs)) (hA : applyM x s = (A, s')) :
    Calls Tryz.prog 20 #[.pointer (some ⟨r, 0, none⟩), .agg x.cells.toArray] w fun e w' => e = .returned (.tuple #[.string ⟨A.1.toArray⟩, .bool A.2.1, .bool A.2.2]) ∧ ∃ G', DMo w0 w' r s' G' ∧ Upd G G' w w' := by
  obtain ⟨kg, v, KF, bl, h1, rfl⟩ := h.p
  refine (dapply_any r kg v KF bl s x w h1 hO hl hkl hx hr).mono fun e w' hq => ?_
  unfold DApplyQ at hq
  rw [hA] at hq
  obtain ⟨he, v', KF', bl', h2, h3⟩ := hq
  obtain ⟨h4, h5⟩ := lie_below h.bel (Nat.le_refl _) h.fG h3
  exact ⟨he, _, ⟨⟨kg, v', KF', bl', h2, rfl⟩, h5, h4⟩, h3⟩
theorem dfind_x (b : Bool) (r : Nat) (s : MS) (c : ByteArray) (w0 : World) (G : List Nat) (w : World) (h : DMo w0 w r s G) (hl : s.seats.length < 1000000) (hb : (lookS c.data.toList s.seats).isSome = b) :
    Calls Tryz.prog 22 #[.pointer (some ⟨r, 0, none⟩), .string c] w fun e w' => (∃ k : Int, e = .returned (.int .i64 k) ∧ decide (k ≥ 0) = b) ∧ w = w' := by
  obtain ⟨kg, v, KF, bl, h1, -⟩ := h.p
  obtain ⟨a, cp, -, c0, -, hrow⟩ := h1.held
  have hf := dfind_any r c.data.toList s.seats bl a cp w c0 hrow hl
  rw [str_mk] at hf
  refine hf.mono fun e w' ⟨he, hw⟩ => ⟨⟨_, he, ?_⟩, hw⟩
  subst hb
  cases hp : posS c.data.toList s.seats with
  | none =>
    rw [findI_none hp, posS_none.1 hp]; rfl
  | some k =>
    obtain ⟨x, -, -, hlk⟩ := posS_some hp
    rw [findI_some hp, hlk]
    simp
theorem dconn_x (k : Int) (r : Nat) (s : MS) (c : ByteArray) (w0 : World) (G : List Nat) (w : World) (h : DMo w0 w r s G) (hl : s.seats.length < 1000000) (hk : connOf (lookS c.data.toList s.seats) = k) :
    Calls Tryz.prog 23 #[.pointer (some ⟨r, 0, none⟩), .string c] w fun e w' => e = .returned (.int .i64 k) ∧ w = w' := by
  subst hk
  obtain ⟨kg, v, KF, bl, h1, -⟩ := h.p
  have := dconn_any r kg v KF bl s c.data.toList w h1 hl
  rwa [str_mk] at this
theorem dbest_x (q : Int) (b : Bool) (r : Nat) (s : MS) (c x : ByteArray) (w0 : World) (G : List Nat) (w : World) (h : DMo w0 w r s G) (hO : MOk s) (hl : s.seats.length < 1000000) (hx : x.size ≤ 1000) (hq : bestOf x.data.toList (lookS c.data.toList s.seats) = (q, b)) :
    Calls Tryz.prog 21 #[.pointer (some ⟨r, 0, none⟩), .string c, .string x] w fun e w' => e = .returned (.tuple #[.int .u8 q, .bool b]) ∧ Below w.heap.size w w' := by
  obtain ⟨kg, v, KF, bl, h1, -⟩ := h.p
  have := dmbest_any r kg v KF bl s c.data.toList x.data.toList w h1 hl hO.ok (by have : x.data.toList.length = x.size := rfl; omega)
  rw [str_mk, str_mk, hq] at this
  exact this
theorem dlists_x (r : Nat) (s : MS) (L : List Hint) (w0 : World) (G : List Nat) (w : World) (h : DMo w0 w r s G) (hO : MOk s) (hl : s.seats.length ≤ 1000) (hL : listsM s.seats = L) :
    Calls Tryz.prog 25 #[.pointer (some ⟨r, 0, none⟩)] w fun e w' => ∃ a c, e = .returned (.slice a L.length c) ∧ Row w' a (hintsV L) ∧ Below w.heap.size w w' := by
  subst hL
  obtain ⟨kg, v, KF, bl, h1, -⟩ := h.p
  exact dlists_any r kg v KF bl s w h1 hO hl
/-- what is kept, read of it -/
theorem DMo.kept {w0 w : World} {r : Nat} {s : MS} {G : List Nat} (h : DMo w0 w r s G) : ∃ kg a c, ∀ X, Below w.heap.size w X → X.cell? ⟨r, 1, none⟩ = some (.pointer (some ⟨kg, 0, none⟩)) ∧ X.cell? ⟨kg, 0, none⟩ = some (.slice a s.kept.length c) ∧ Row X a (msgs s.kept) := by
  obtain ⟨kg, v, KF, bl, h1, -⟩ := h.p
  obtain ⟨v0, hg, hown, -, -⟩ := h1.kept
  obtain ⟨a, c, rfl, -, -, -⟩ := ownsRow_row hown
  refine ⟨kg, a, c, fun X hX => ?_⟩
  obtain ⟨_, _, -, -, h2, -⟩ := (h1.below hX).held
  have hg2 := (hX.block kg (Array.getElem?_eq_some_iff.1 hg).1).trans hg
  obtain ⟨a', c', e, h3, -, -⟩ := ownsRow_row (ownsRow_local hown fun k hk => hX.block k (hown.lt k hk).2)
  cases e
  exact ⟨h2, cell_of_row X kg 0 _ _ _ hg2, h3⟩
end
section
open Go Go.RowKit Go.Maps Go.Lib

structure Both (w0 w : World) (n m : Nat) (s : MS) (F : List Nat) (r : Nat) (t : MS) (G : List Nat) : Prop where
  a : Mo w0 w n m s F
  d : DMo w0 w r t G
  ok : MOk t
  sl : t.seats.length ≤ n
  kl : t.kept.length ≤ n
  ap : ∀ k ∈ F, k ∉ G
theorem Both.below {w0 w w' : World} {n m r : Nat} {s t : MS} {F G : List Nat} (h : Both w0 w n m s F r t G) (hk : Below w.heap.size w w') : Both w0 w' n m s F r t G := ⟨h.a.below hk, h.d.below hk, h.ok, h.sl, h.kl, h.ap⟩
theorem Both.updA {w0 w w' : World} {n n' m r : Nat} {s s' t : MS} {F F' G : List Nat} (h : Both w0 w n m s F r t G) (hm : Mo w0 w' n' m s' F') (hu : Upd F F' w w') (hn : n ≤ n') : Both w0 w' n' m s' F' r t G :=
  ⟨hm, h.d.mod hu (fun k hk hk' => h.ap k hk' hk) h.a.fF, h.ok, Nat.le_trans h.sl hn, Nat.le_trans h.kl hn, disj_upd h.ap h.d.lt hu⟩
theorem Both.updD {w0 w w' : World} {n m r : Nat} {s t t' : MS} {F G G' : List Nat} (h : Both w0 w n m s F r t G) (hd : DMo w0 w' r t' G') (hu : Upd G G' w w') (hok : MOk t') (hs : t'.seats.length ≤ n) (hk : t'.kept.length ≤ n) : Both w0 w' n m s F r t' G' :=
  ⟨h.a.mod hu h.ap h.d.fG, hd, hok, hs, hk, fun k hk hk' => disj_upd (fun k hk hk' => h.ap k hk' hk) h.a.c.lt hu k hk' hk⟩
theorem applyM_seats (n : Note) (m : MS) : (applyM n m).2.seats.length ≤ m.seats.length + 1 := by
  have hf : ∀ c, (dropS c m.seats).length ≤ m.seats.length := fun c => List.length_filter_le _ _
  have ht : ∀ c x, (turnS c x m.seats).length = m.seats.length := fun c x => turnS_length _ _ _
  unfold applyM
  split
  · exact Nat.le_succ _
  split
  · exact Nat.le_succ _
  split
  · split
    · exact Nat.le_succ _
    · simp only [List.length_append, List.length_cons, List.length_nil]
      have := hf n.client.data.toList
      omega
  · split
    · exact Nat.le_succ _
    · rename_i s _
      split
      · exact Nat.le_succ _
      · unfold does1
        split
        · simp only [ht]; omega
        split
        · simp only [ht]; omega
        split
        · split
          · simp only; have := hf n.client.data.toList; omega
          · simp only [ht]; omega
        · exact Nat.le_succ _
theorem dnew_x (w0 w : World) (hb : Below w0.heap.size w0 w) : Calls Tryz.prog 18 #[] w fun e w' => ∃ r G, e = .returned (.pointer (some ⟨r, 0, none⟩)) ∧ DMo w0 w' r MS.new G ∧ Upd [] G w w' := by
  have hs := hb.size
  go_enter Tryz.func18, Tryz.ntmps18
  go_wp2_with fail
  go_ret
  have h0 := heap_alloc_new w (.cells #[.slice none 0 0] 59)
  have h1 := heap_alloc_new (w.alloc (.cells #[.slice none 0 0] 59)) (.cells #[.slice none 0 0, .pointer (some ⟨w.heap.size, 0, none⟩)] 63)
  have e1 : (w.alloc (.cells #[.slice none 0 0] 59)).heap.size = w.heap.size + 1 := by simp
  have h2 := (Below.heap_alloc (w.alloc (.cells #[.slice none 0 0] 59)) (.cells #[.slice none 0 0, .pointer (some ⟨w.heap.size, 0, none⟩)] 63) w.heap.size (by omega)).trans h0
  rw [e1] at h1
  have hB := (low_alloc w (.cells #[.slice none 0 0] 59)).alloc (by omega) (.cells #[.slice none 0 0, .pointer (some ⟨w.heap.size, 0, none⟩)] 63)
  have hP : DParts ((w.alloc (.cells #[.slice none 0 0] 59)).alloc (.cells #[.slice none 0 0, .pointer (some ⟨w.heap.size, 0, none⟩)] 63)) (w.heap.size + 1) w.heap.size (.slice none 0 0) [w.heap.size] (fun _ => (0, [])) MS.new :=
    ⟨h1, World.ownsRow_nil _ _ _ _, by simp [Value.ownBlock], by simp [Value.ownBlock], ⟨fun c s hc => by simp [MS.new, lookS] at hc, fun c s _ _ hc => by simp [MS.new, lookS] at hc⟩,
      ⟨.slice none 0 0, h2, World.ownsRow_nil _ _ _ _, by simp [Value.ownBlock], rfl⟩, by simp, fun c x hx => by simp [MS.new, lookS] at hx⟩
  have hG : ∀ k ∈ footD (w.heap.size + 1) (.slice none 0 0) [w.heap.size] (fun _ => (0, [])) MS.new.seats, w.heap.size ≤ k := fun k hk => by
    rcases mem_footD.1 hk with h | h | h | ⟨c, x, hx, -⟩
    · omega
    · simp [Value.ownBlock] at h
    · rw [List.mem_singleton.1 h]; exact Nat.le_refl _
    · simp [MS.new, lookS] at hx
  refine ⟨w.heap.size + 1, _, by simp, ⟨⟨_, _, _, _, hP, rfl⟩, fun k hk => by have := hG k hk; omega, hb.trans (hB.mono hs)⟩, Mod.of_below hB _, fun k hk => .inr (hG k hk)⟩
theorem Both.start {w0 wa wb : World} {m r : Nat} {F G : List Nat} (ha : Mo w0 wa 0 m MS.new F) (hd : DMo w0 wb r MS.new G) (hu : Upd [] G wa wb) : Both w0 wb 0 m MS.new F r MS.new G :=
  ⟨ha.mod hu (fun k _ => by simp) (by simp), hd, MOk.new, Nat.le_refl _, Nat.le_refl _, fun k hk hk' => by
    have := ha.c.lt k hk
    rcases hu.2 k hk' with h | h
    · cases h
    · omega⟩
theorem mlists_o (n m : Nat) (s : MS) (L : List Hint) (w0 : World) (F : List Nat) (w : World) (h : Mo w0 w n m s F) (hn : n ≤ 10000) (hL : listsM s.seats = L) :
    Calls Tryz.prog 15 #[.pointer (some ⟨m, 0, none⟩)] w fun e w' => ∃ v, e = .returned v ∧ L.length ≤ 160000 ∧ w'.ownsRow w.heap.size 65 2 v L.length (hintsV L) ∧ Below w.heap.size w w' := by
  subst hL
  exact (mlists_any m n s F w h.c h.ok hn).mono fun e w' ⟨v, he, hown, hb, hl⟩ => ⟨v, he, hl.out, hown, hb⟩
/-- calls of region 13, in each world that a draw made -/
theorem hasQ {b : Bool} {n m : Nat} {s : MS} {c : ByteArray} {w0 : World} {F : List Nat} {w : World} (h : Mo w0 w n m s F) (hc : c.size ≤ maxLen) (hb : (lookS c.data.toList s.seats).isSome = b) (q : Nat) :
    Calls Tryz.prog 11 #[.pointer (some ⟨m, 0, none⟩), .string c] (w.drewN q) fun e w' => e = .returned (.bool b) ∧ w' = w.drewN q := (mhas_x b n m s c w0 F _ (h.drewN q) hc hb).mono fun _ _ ⟨he, hw⟩ => ⟨he, hw.symm⟩
theorem connQ {k : Int} {n m : Nat} {s : MS} {c : ByteArray} {w0 : World} {F : List Nat} {w : World} (h : Mo w0 w n m s F) (hc : c.size ≤ maxLen) (hk : connOf (lookS c.data.toList s.seats) = k) (q : Nat) :
    Calls Tryz.prog 12 #[.pointer (some ⟨m, 0, none⟩), .string c] (w.drewN q) fun e w' => e = .returned (.int .i64 k) ∧ w' = w.drewN q := (mconn_x k n m s c w0 F _ (h.drewN q) hc hk).mono fun _ _ ⟨he, hw⟩ => ⟨he, hw.symm⟩
theorem dconnQ {k : Int} {r : Nat} {s : MS} {c : ByteArray} {w0 : World} {G : List Nat} {w : World} (h : DMo w0 w r s G) (hl : s.seats.length < 1000000) (hk : connOf (lookS c.data.toList s.seats) = k) (q : Nat) :
    Calls Tryz.prog 23 #[.pointer (some ⟨r, 0, none⟩), .string c] (w.drewN q) fun e w' => e = .returned (.int .i64 k) ∧ w' = w.drewN q := (dconn_x k r s c w0 G _ (h.below (Go.below_drewN (Below.refl _ _) q)) hl hk).mono fun _ _ ⟨he, hw⟩ => ⟨he, hw.symm⟩
theorem dfindQ {b : Bool} {r : Nat} {s : MS} {c : ByteArray} {w0 : World} {G : List Nat} {w : World} (h : DMo w0 w r s G) (hl : s.seats.length < 1000000) (hb : (lookS c.data.toList s.seats).isSome = b) :
    ∃ z : Int, decide (0 ≤ z) = b ∧ ∀ q, Calls Tryz.prog 22 #[.pointer (some ⟨r, 0, none⟩), .string c] (w.drewN q) fun e w' => e = .returned (.int .i64 z) ∧ w' = w.drewN q := by
  refine ⟨findI c.data.toList s.seats, ?_, fun q => ?_⟩
  · subst hb
    cases hp : posS c.data.toList s.seats with
    | none => rw [findI_none hp, posS_none.1 hp]; rfl
    | some k =>
      obtain ⟨x, -, -, hlk⟩ := posS_some hp
      rw [findI_some hp, hlk]
      simp
  · obtain ⟨kg, v, KF, bl, h1, -⟩ := (h.below (Go.below_drewN (Below.refl _ _) q)).p
    obtain ⟨a, cp, -, c0, -, hrow⟩ := h1.held
    have hf := dfind_any r c.data.toList s.seats bl a cp _ c0 hrow hl
    rw [str_mk] at hf
    exact hf.mono fun _ _ ⟨he, hw⟩ => ⟨he, hw.symm⟩
end
end Go.Proofs.YthfeckndkmhieaaGreatDoor
