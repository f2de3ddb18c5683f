/- The document's list of filters (relayhouseref15): how it lies in memory; Has, Drop, Best walked. The document's list of filters: Drop, Best walked. -/
import Derived.Test.YthfeckndkmhieaaGreatDoorQV
import Derived.Test.YthfeckndkmhieaaGreatDoorDK
namespace Go.Proofs.YthfeckndkmhieaaGreatDoor
section
open Go Go.RowKit

def DRep (w : World) (b : Nat) (l : List SubE) (F : List Nat) : Prop :=
  ∃ a c G, w.heap[b]? = some (.cells #[.slice a l.length c] 93 (0, 0)) ∧ SRow w a l G ∧ l.length ≤ c ∧ c ≤ maxLen ∧ b ∉ G ∧ SUp l ∧ l.length ≤ 16 ∧ F = b :: G
theorem DRep.up {w : World} {b : Nat} {l : List SubE} {F : List Nat} (h : DRep w b l F) : SUp l := by obtain ⟨_, _, _, -, -, -, -, -, h, -⟩ := h; exact h
theorem DRep.len {w : World} {b : Nat} {l : List SubE} {F : List Nat} (h : DRep w b l F) : l.length ≤ 16 := by obtain ⟨_, _, _, -, -, -, -, -, -, h, -⟩ := h; exact h
theorem drep_local : Local DRep where
  lt := by
    rintro w b s F ⟨a, c, G, hb, hr, -, -, -, -, -, rfl⟩ k hk
    rcases List.mem_cons.1 hk with rfl | hk
    · exact (Array.getElem?_eq_some_iff.1 hb).1
    · exact hr.lt k hk
  keep := by
    rintro w w' b s F ⟨a, c, G, hb, hr, h1, h2, h3, h4, h5, rfl⟩ hk
    exact ⟨a, c, G, (hk b (by simp)).trans hb, hr.keep fun k hk' => hk k (by simp [hk']), h1, h2, h3, h4, h5, rfl⟩
theorem DRep.lt {w : World} {b : Nat} {l : List SubE} {F : List Nat} (h : DRep w b l F) : ∀ k ∈ F, k < w.heap.size := drep_local.lt h
theorem DRep.mod {S : List Nat} {w w' : World} {b : Nat} {l : List SubE} {F : List Nat} (h : DRep w b l F) (hm : Mod S w w') (hS : ∀ k ∈ F, k ∉ S) : DRep w' b l F := drep_local.keep h fun k hk => hm.block k (h.lt k hk) (hS k hk)
theorem DRep.below {w w' : World} {b : Nat} {l : List SubE} {F : List Nat} (h : DRep w b l F) (hk : Below w.heap.size w w') : DRep w' b l F := h.mod (Mod.of_below hk []) (by simp)
theorem DRep.store {w X : World} {b : Nat} {l l' : List SubE} {F G' : List Nat} {a' : Option Addr} {c' : Nat} (h : DRep w b l F) (hX : Below w.heap.size w X) (hr : SRow X a' l' G') (hG : ∀ k ∈ G', w.heap.size ≤ k)
    (hc : l'.length ≤ c') (hcm : c' ≤ maxLen) (hU : SUp l') (h16 : l'.length ≤ 16) (n : Nat) (hn : n = l'.length) :
    X.frozen? ⟨b, 0, none⟩ = false ∧ DRep (X.setCell ⟨b, 0, none⟩ (.slice a' n c')) b l' (b :: G') ∧ Upd F (b :: G') w (X.setCell ⟨b, 0, none⟩ (.slice a' n c')) := by
  subst hn
  obtain ⟨a, c, G, hb, -, -, -, hbG, -, -, rfl⟩ := h
  have hbl := (Array.getElem?_eq_some_iff.1 hb).1
  have hb1 := (hX.block b hbl).trans hb
  have hne : ∀ k ∈ G', k ≠ b := fun k hk => by have := hG k hk; omega
  refine ⟨frozen_of_row X b 0 _ _ hb1, ⟨a', c', G', heap_setCell_same X b 0 _ _ _ hb1, hr.keep (fun k hk => Below.heap_setCell _ _ _ _ (hne k hk)), hc, hcm, fun hin => hne b hin rfl, hU, h16, rfl⟩, (Mod.of_below hX _).setCell (.inl (by simp)) _, fun k hk => ?_⟩
  rcases List.mem_cons.1 hk with rfl | hk
  · exact .inl (by simp)
  · exact .inr (hG k hk)
/-- what is read of it, in each later world -/
theorem DRep.held {w : World} {b : Nat} {l : List SubE} {F : List Nat} (h : DRep w b l F) : ∃ a c, l.length ≤ c ∧ ∀ X : World, Below w.heap.size w X → X.cell? ⟨b, 0, none⟩ = some (.slice a l.length c) ∧ Row X a (subsV l) := by
  obtain ⟨a, c, G, hb, hr, hc, -⟩ := h
  exact ⟨a, c, hc, fun X hX => ⟨cell_of_row X b 0 _ _ _ ((hX.block b (Array.getElem?_eq_some_iff.1 hb).1).trans hb), hr.row.below hX (Nat.le_refl _)⟩⟩
theorem hasE_drop {f : List UInt8} {l : List SubE} {k : Nat} (hk : k < l.length) : hasE f (l.drop k) = (l[k].1 == f || hasE f (l.drop (k + 1))) := by
  rw [List.drop_eq_getElem_cons hk]; rfl
set_option maxRecDepth 100000 in
set_option maxHeartbeats 2000000 in
theorem dhas_any (b : Nat) (l : List SubE) (F : List Nat) (f : List UInt8) (w : World) (h : DRep w b l F) :
    Calls Tryz.prog 64 #[.pointer (some ⟨b, 0, none⟩), .string ⟨f.toArray⟩] w fun e w' => e = .returned (.bool (hasE f l)) ∧ w = w' := by
  have h16 := h.len
  obtain ⟨a, c, -, hH⟩ := h.held
  obtain ⟨cc, hrw⟩ := hH w (Below.refl _ _)
  have HR := Lib.hid hrw
  obtain ⟨bb, hbb⟩ : ∃ z, hasE f l = z := ⟨_, rfl⟩
  rw [hbb]
  have HBB := Lib.hid hbb
  clear h hH hrw hbb
  go_enter Tryz.func64, Tryz.ntmps64
  go_wp2_with fail
  go_loopw [5] (fun i wr => ∃ k : Nat, i = .int .i64 k ∧ k ≤ l.length ∧ wr = w ∧ hasE f (l.drop k) = bb) (fun i _ => (l.length - intOf i).toNat)
  case atStart => exact ⟨0, rfl, by omega, rfl, by simpa using HBB.out⟩
  case round =>
    obtain ⟨k, rfl, hk, rfl, htk⟩ := hrel
    have HTK := Lib.hid htk
    clear htk
    by_cases hlt : k < l.length
    · obtain ⟨b1, o1, rfl, d0, -⟩ := subs_row HR.out hlt
      have hk0 : (0 : Int) ≤ k := by omega
      have hkl : (k : Int) < l.length := by omega
      have HD := Lib.hid (hasE_drop (f := f) hlt)
      rw [HTK.out] at HD
      generalize l[k].1 = yf at *
      by_cases he : yf = f
      · have hq : (yf == f) = true := by simpa using he
        have HF : Hid (true = bb) := Lib.hid (by rw [HD.out, hq]; rfl)
        clear he
        go_wp2_with fail
        go_ret
        exact ⟨ret_bool HF.out, rfl⟩
      · have hq : (yf == f) = false := by simpa using he
        have HF : Hid (hasE f (l.drop (k + 1)) = bb) := Lib.hid (by rw [HD.out, hq]; rfl)
        clear he
        go_wp2_with fail
        go_roundw
        case rel => exact ⟨k + 1, by go_num, by omega, trivial, HF.out⟩
        case measure => simp [intOf]; omega
    · have hkl : ¬ (k : Int) < l.length := by omega
      have HF : Hid (false = bb) := Lib.hid (by rw [← HTK.out, List.drop_eq_nil_of_le (by omega)]; rfl)
      go_wp2_with fail
      go_ret
      exact ⟨ret_bool HF.out, rfl⟩
end
section
open Go Go.RowKit

theorem delE_snoc (f : List UInt8) (l : List SubE) (y : SubE) : delE f (l ++ [y]) = delE f l ++ (if y.1 = f then [] else [y]) := by
  unfold delE
  rw [List.filter_append]
  by_cases h : y.1 = f
  · rw [if_pos h, List.filter_cons_of_neg (by simpa using h)]; rfl
  · rw [if_neg h, List.filter_cons_of_pos (by simpa using h)]; rfl
set_option maxRecDepth 100000 in
set_option maxHeartbeats 2000000 in
theorem ddrop_any (b : Nat) (l : List SubE) (F : List Nat) (f : List UInt8) (w : World) (h : DRep w b l F) :
    Calls Tryz.prog 47 #[.pointer (some ⟨b, 0, none⟩), .string ⟨f.toArray⟩] w fun e w' => e = .returned (.bool (hasE f l)) ∧ ∃ F', DRep w' b (delE f l) F' ∧ Upd F F' w w' := by
  have h16 := h.len
  obtain ⟨a, c, -, hH⟩ := h.held
  have HH := Lib.hid hH
  have HC := Lib.hid (dhas_any b l F f w h)
  obtain ⟨bb, hbb⟩ : ∃ z, hasE f l = z := ⟨_, rfl⟩
  rw [hbb] at HC ⊢
  have HR := Lib.hid h
  clear h hH hbb
  go_enter Tryz.func47, Tryz.ntmps47
  go_wp2_with fail
  refine HC.out.mono ?_
  rintro e w1 ⟨rfl, rfl⟩
  go_wp2_with fail
  go_loopw [6, 7] (fun v i wr => ∃ k : Nat, i = .int .i64 k ∧ k ≤ l.length ∧ wr.ownsRow w.heap.size 39 2 v (delE f (l.take k)).length (subsV (delE f (l.take k))) ∧ Below w.heap.size w wr) (fun _ i _ => (l.length - intOf i).toNat)
  case atStart => exact ⟨0, rfl, by omega, by simpa [delE, subsV] using World.ownsRow_nil _ _ _ _, Below.refl _ _⟩
  case round =>
    obtain ⟨k, rfl, hk, hown, hb⟩ := hrel
    obtain ⟨cc, hrw⟩ := HH.out wr hb
    by_cases hlt : k < l.length
    · obtain ⟨b1, o1, rfl, d0, d1⟩ := subs_row hrw hlt
      have hk0 : (0 : Int) ≤ k := by omega
      have hkl : (k : Int) < l.length := by omega
      have HS := Lib.hid (delE_snoc f (l.take k) l[k])
      rw [← List.take_succ_eq_append_getElem hlt] at HS
      have HL : Hid ((delE f (l.take k)).length ≤ 16) := Lib.hid (Nat.le_trans (len_delE _ _) (by rw [List.length_take]; omega))
      generalize l[k] = y at *
      obtain ⟨yf, yq⟩ := y
      dsimp only at d0 d1 HS
      generalize delE f (l.take k) = V at *
      by_cases he : yf = f
      · have hq : (yf == f) = true := by simpa using he
        rw [if_pos he, List.append_nil] at HS
        clear he hrw
        go_wp2_with fail
        go_roundw
        case rel => exact ⟨k + 1, by go_num, by omega, by rw [HS.out]; exact hown, hb⟩
        case measure => simp [intOf]; omega
      · have hq : (yf == f) = false := by simpa using he
        rw [if_neg he] at HS
        have hvl := HL.out
        have hbs := hb.size
        clear he hrw
        go_wp2_with (first
          | (at_builtin; refine wpList_app (m := 1) T_sub hown hb hbs rfl rfl rfl rfl (by rfl) (by simp [Value.oneCell']) (by omega) (by omega) ?_; intro v' w8 hown' hbel3 hsz3 hlt3; have HOW := Lib.hid hown'; have HBL := Lib.hid hbel3; clear hown hown' hbel3 hsz3 hlt3 hb hbs; go_frame)
          | fail)
        go_roundw
        case rel => exact ⟨k + 1, by go_num, by omega, by rw [HS.out, List.length_append, subsV_append]; exact HOW.out, HBL.out⟩
        case measure => simp [intOf]; omega
    · have hkl : ¬ (k : Int) < l.length := by omega
      rw [List.take_of_length_le (by omega)] at hown
      obtain ⟨av, cv, rfl, h1, h2, h3⟩ := SRow.of_owns hown
      obtain ⟨hfz, hd, hu⟩ := HR.out.store hb h3 (fun k hk => (hown.lt k (by simpa using hk)).1) h1 h2 (sup_del HR.out.up) (by have := len_delE f l; omega) _ rfl
      have HD := Lib.hid (And.intro hd hu)
      clear hd hu h3 hown hrw
      go_wp2_with fail
      go_ret
      exact ⟨rfl, _, HD.out.1, HD.out.2⟩
set_option maxRecDepth 100000 in
set_option maxHeartbeats 2000000 in
theorem dbest_any (b : Nat) (l : List SubE) (F : List Nat) (n : List UInt8) (w : World) (h : DRep w b l F) (hO : SOk l) (hn : n.length < 4294967281) :
    Calls Tryz.prog 48 #[.pointer (some ⟨b, 0, none⟩), .string ⟨n.toArray⟩] w fun e w' => e = .returned (.tuple #[.int .u8 (bestS n l).1, .bool (bestS n l).2]) ∧ Below w.heap.size w w' := by
  have h16 := h.len
  obtain ⟨a, c, -, hH⟩ := h.held
  have HH := Lib.hid hH
  have HO := Lib.hid hO
  have HM := Lib.hid (fun (f : List UInt8) (hf : f.length < 4294967281) W => rmatch_any ⟨f.toArray⟩ ⟨n.toArray⟩ W (by show f.toArray.size < _; simpa using hf) (by show n.toArray.size < _; simpa using hn))
  clear h hH hO
  go_enter Tryz.func48, Tryz.ntmps48
  go_wp2_with fail
  go_loopw [6, 7, 8] (fun x y i wr => ∃ k : Nat, x = .int .u8 (bestS n (l.take k)).1 ∧ y = .bool (bestS n (l.take k)).2 ∧ i = .int .i64 k ∧ k ≤ l.length ∧ Below w.heap.size w wr) (fun _ _ i _ => (l.length - intOf i).toNat)
  case atStart => exact ⟨0, rfl, rfl, rfl, by omega, Below.refl _ _⟩
  case round =>
    obtain ⟨k, rfl, rfl, rfl, hk, hb⟩ := hrel
    obtain ⟨cc, hrw⟩ := HH.out wr hb
    have HB := Lib.hid hb
    clear hb
    by_cases hlt : k < l.length
    · have hk0 : (0 : Int) ≤ k := by omega
      have hkl : (k : Int) < l.length := by omega
      have HSN := Lib.hid (bestS_snoc n (l.take k) l[k])
      rw [← List.take_succ_eq_append_getElem hlt] at HSN
      have hxo := HO.out _ (List.getElem_mem hlt)
      have HLE := Lib.hid (bestS_le (n := n) (l := l.take k) (fun y hy => HO.out y (List.mem_of_mem_take hy)))
      have HH2 := Lib.hid (fun X (hX : Below w.heap.size w X) => And.intro (HH.out X hX).1 (subs_row (HH.out X hX).2 hlt))
      obtain ⟨b1, o1, rfl, d0, d1⟩ := subs_row hrw hlt
      generalize l[k] = x at *
      obtain ⟨xf, xq⟩ := x
      dsimp only at *
      have HMM := Lib.hid (HM.out xf hxo.2.2.2 wr)
      obtain ⟨bm, hbm⟩ : ∃ bm, matchB xf n = bm := ⟨_, rfl⟩
      rw [hbm] at HMM HSN
      generalize bestS n (l.take k) = B at *
      obtain ⟨bq, bs⟩ := B
      dsimp only at *
      have hq0 := hxo.1
      have hq2 := hxo.2.1
      have hb2 := HLE.out
      clear hbm hxo hrw
      go_wp2_with fail
      refine HMM.out.mono ?_
      rintro e w2 ⟨rfl, hk2⟩
      have HB2 := Lib.hid (bnext HB.out (Nat.le_refl _) hk2)
      obtain ⟨cc2, b2, o2, e2, f0, f1⟩ := HH2.out w2 HB2.out
      cases e2
      clear hk2 HMM HM cc d0 d1
      cases bm with
      | false =>
        have HE := Lib.hid HSN.out
        simp only [Bool.false_eq_true, if_false] at HE
        clear HSN
        go_wp2_with fail
        go_roundw
        case rel => exact ⟨k + 1, by rw [HE.out], by rw [HE.out], by go_num, by omega, HB2.out⟩
        case measure => simp [intOf]; omega
      | true =>
        have HE := Lib.hid HSN.out
        simp only [if_true] at HE
        clear HSN
        by_cases hgt : bq < xq
        · have hmx : max bq xq = xq := by omega
          go_wp2_with fail
          go_roundw
          case rel => exact ⟨k + 1, by rw [HE.out, hmx], by rw [HE.out], by go_num, by omega, HB2.out⟩
          case measure => simp [intOf]; omega
        · have hmx : max bq xq = bq := by omega
          go_wp2_with fail
          go_roundw
          case rel => exact ⟨k + 1, by rw [HE.out, hmx], by rw [HE.out], by go_num, by omega, HB2.out⟩
          case measure => simp [intOf]; omega
    · have hkl : ¬ (k : Int) < l.length := by omega
      have HE := Lib.hid (show bestS n (l.take k) = bestS n l by rw [List.take_of_length_le (by omega)])
      generalize bestS n (l.take k) = B at *
      obtain ⟨bq, bs⟩ := B
      go_wp2_with fail
      go_ret2
      exact ⟨by rw [← HE.out]; rfl, HB.out⟩
end
end Go.Proofs.YthfeckndkmhieaaGreatDoor
