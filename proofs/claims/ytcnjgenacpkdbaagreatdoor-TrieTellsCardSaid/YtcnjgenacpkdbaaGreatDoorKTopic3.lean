/- Topic names and filters, walked: Covers, Match. -/
import Derived.Test.YtcnjgenacpkdbaaGreatDoorKTopic2
namespace Go.Proofs.YtcnjgenacpkdbaaGreatDoor
open Go Go.RowKit

theorem coversB_no1 {a b : List UInt8} (h : filterB a = false) : coversB a b = false := by unfold coversB; rw [h]; rfl
theorem coversB_no2 {a b : List UInt8} (h : filterB b = false) : coversB a b = false := by unfold coversB; rw [h]; cases filterB a <;> rfl
theorem filterB_ne {b : List UInt8} (h : filterB b = true) : b ≠ [] := by rintro rfl; simp [filterB] at h
set_option maxRecDepth 100000 in
set_option maxHeartbeats 1000000 in
theorem coversf_any (s t : ByteArray) (w : World) (hT : Tabs w) (hs : s.size < 4294967281) (ht : t.size < 4294967281) :
    Calls Tryz.prog 46 #[.string s, .string t] w fun e w' => e = .returned (.bool (coversB s.data.toList t.data.toList)) ∧ Below w.heap.size w w' := by
  have HT := Lib.hid hT
  clear hT
  obtain ⟨fa, hfa⟩ : ∃ b, filterB s.data.toList = b := ⟨_, rfl⟩
  obtain ⟨fb, hfb⟩ : ∃ b, filterB t.data.toList = b := ⟨_, rfl⟩
  have HFA := Lib.hid (fun w hT => filter_any s w hT hs)
  have HFB := Lib.hid (fun w hT => filter_any t w hT ht)
  rw [hfa] at HFA
  rw [hfb] at HFB
  cases fa with
  | false =>
    have HF := Lib.hid (coversB_no1 (b := t.data.toList) hfa)
    clear hfa hfb
    go_enter Tryz.func46, Tryz.ntmps46
    go_wp2_with fail
    refine (HFA.out _ HT.out).mono ?_
    rintro e w1 ⟨rfl, hk⟩
    go_wp2_with fail
    go_ret
    exact ⟨ret_bool HF.out.symm, hk⟩
  | true =>
    cases fb with
    | false =>
      have HF := Lib.hid (coversB_no2 (a := s.data.toList) hfb)
      clear hfa hfb
      go_enter Tryz.func46, Tryz.ntmps46
      go_wp2_with fail
      refine (HFA.out _ HT.out).mono ?_
      rintro e w1 ⟨rfl, hk⟩
      go_wp2_with fail
      refine (HFB.out _ (HT.out.below hk)).mono ?_
      rintro e w2 ⟨rfl, hk2⟩
      replace hk := bnext hk (Nat.le_refl _) hk2
      go_wp2_with fail
      go_ret
      exact ⟨ret_bool HF.out.symm, hk⟩
    | true =>
      obtain ⟨wl, hwl⟩ : ∃ b, wildB s.data.toList = b := ⟨_, rfl⟩
      have HWL := Lib.hid (fun w hT => wild_any s w hT hs)
      rw [hwl] at HWL
      obtain ⟨c, r, hc⟩ := List.exists_cons_of_ne_nil (filterB_ne hfb)
      have hts : 0 < t.size := by
        have : t.data.toList.length = t.size := rfl
        rw [hc] at this; simp at this; omega
      have hts' : (0 : Int) < t.size := by omega
      have hct : t[0]'hts = c := by
        have := bget t 0 hts
        rw [hc] at this; simpa using this.symm
      obtain ⟨d, hd⟩ : ∃ d, (c == 36) = d := ⟨_, rfl⟩
      have HF : Hid (coversB s.data.toList t.data.toList = (!(wl && d) && coversL (levels s.data.toList) (levels t.data.toList))) := Lib.hid (by
        unfold coversB; rw [hfa, hfb, hwl, ← hd, hc]; rfl)
      have hd' : ((c.toNat : Int) == 36) = d := by
        rw [← hd, Bool.eq_iff_iff]; simp only [beq_iff_eq]
        exact ⟨fun h => UInt8.toNat_inj.1 (by simp; omega), fun h => by subst h; rfl⟩
      have hcl := byte_lt c
      have HLA := Lib.hid (fun w hT => levels_any s w hT hs)
      have HLB := Lib.hid (fun w hT => levels_any t w hT ht)
      have HLL := Lib.hid (levels_len_le t.data.toList)
      have hsl : t.data.toList.length = t.size := rfl
      rw [hsl] at HLL
      clear hfa hfb hwl hc hd
      generalize levels s.data.toList = LA at *
      generalize levels t.data.toList = LB at *
      go_enter Tryz.func46, Tryz.ntmps46
      go_wp2_with fail
      refine (HFA.out _ HT.out).mono ?_
      rintro e w1 ⟨rfl, hk⟩
      go_wp2_with fail
      refine (HFB.out _ (HT.out.below hk)).mono ?_
      rintro e w2 ⟨rfl, hk2⟩
      replace hk := bnext hk (Nat.le_refl _) hk2
      clear hk2
      go_wp2_with fail
      refine (HWL.out _ (HT.out.below hk)).mono ?_
      rintro e w3 ⟨rfl, hk2⟩
      replace hk := bnext hk (Nat.le_refl _) hk2
      clear hk2
      have HREST : ∀ (W : World), Below w.heap.size w W → (wl && d) = false → Hid (∀ (p q : Option Addr) (c d' : Nat) (w5 : World), Row w5 p (strs LA) → Row w5 q (strs LB) → Calls Tryz.prog 64 #[.slice p LA.length c, .slice q LB.length d'] w5 fun e w' => e = .returned (.bool (coversB s.data.toList t.data.toList)) ∧ Below w5.heap.size w5 w') := fun W _ hz => Lib.hid fun p q c d' w5 ha hb => by
        rw [HF.out, hz]
        exact covers_any p q c d' LA LB w5 (by have := HLL.out; omega) ha hb
      cases wl with
      | false =>
        have HR := HREST _ hk rfl
        clear HREST hd'
        go_wp2_with fail
        refine (HLA.out _ (HT.out.below hk)).mono ?_
        rintro e w4 ⟨p, c1, rfl, hra, hk2⟩
        replace hk := bnext hk (Nat.le_refl _) hk2
        clear hk2
        have HA := Lib.hid hra
        clear hra
        go_wp2_with fail
        refine (HLB.out _ (HT.out.below hk)).mono ?_
        rintro e w5 ⟨q, c2, rfl, hrb, hk2⟩
        replace hk := bnext hk (Nat.le_refl _) hk2
        have HA := Lib.hid (HA.out.below hk2 (Nat.le_refl _))
        have HB := Lib.hid hrb
        clear hrb hk2
        go_wp2_with fail
        refine (HR.out _ _ _ _ _ HA.out HB.out).mono ?_
        rintro e w6 ⟨rfl, hk2⟩
        replace hk := bnext hk (Nat.le_refl _) hk2
        go_wp2_with fail
        go_ret
        exact ⟨rfl, hk⟩
      | true =>
        cases d with
        | true =>
          have HFF := Lib.hid (show coversB s.data.toList t.data.toList = false by rw [HF.out]; rfl)
          clear HREST
          go_wp2_with fail
          go_ret
          exact ⟨ret_bool HFF.out.symm, hk⟩
        | false =>
          have HR := HREST _ hk rfl
          clear HREST
          go_wp2_with fail
          refine (HLA.out _ (HT.out.below hk)).mono ?_
          rintro e w4 ⟨p, c1, rfl, hra, hk2⟩
          replace hk := bnext hk (Nat.le_refl _) hk2
          clear hk2
          have HA := Lib.hid hra
          clear hra
          go_wp2_with fail
          refine (HLB.out _ (HT.out.below hk)).mono ?_
          rintro e w5 ⟨q, c2, rfl, hrb, hk2⟩
          replace hk := bnext hk (Nat.le_refl _) hk2
          have HA := Lib.hid (HA.out.below hk2 (Nat.le_refl _))
          have HB := Lib.hid hrb
          clear hrb hk2
          go_wp2_with fail
          refine (HR.out _ _ _ _ _ HA.out HB.out).mono ?_
          rintro e w6 ⟨rfl, hk2⟩
          replace hk := bnext hk (Nat.le_refl _) hk2
          go_wp2_with fail
          go_ret
          exact ⟨rfl, hk⟩

theorem match_any (s t : ByteArray) (w : World) (hT : Tabs w) (hs : s.size < 4294967281) (ht : t.size < 4294967281) :
    Calls Tryz.prog 25 #[.string s, .string t] w fun e w' => e = .returned (.bool (matchB s.data.toList t.data.toList)) ∧ Below w.heap.size w w' := by
  obtain ⟨n, hn⟩ : ∃ b, nameB t.data.toList = b := ⟨_, rfl⟩
  have HN := Lib.hid (name_any t w hT ht)
  rw [hn] at HN
  have HF := Lib.hid (show matchB s.data.toList t.data.toList = (n && coversB s.data.toList t.data.toList) by unfold matchB; rw [hn])
  have HC := Lib.hid (fun w hT => coversf_any s t w hT hs ht)
  have HT := Lib.hid hT
  clear hn hT
  cases n with
  | false =>
    go_enter Tryz.func25, Tryz.ntmps25
    go_wp2_with fail
    refine HN.out.mono ?_
    rintro e w1 ⟨rfl, hk⟩
    go_wp2_with fail
    go_ret
    exact ⟨ret_bool HF.out.symm, hk⟩
  | true =>
    go_enter Tryz.func25, Tryz.ntmps25
    go_wp2_with fail
    refine HN.out.mono ?_
    rintro e w1 ⟨rfl, hk⟩
    go_wp2_with fail
    refine (HC.out _ (HT.out.below hk)).mono ?_
    rintro e w2 ⟨rfl, hk2⟩
    replace hk := bnext hk (Nat.le_refl _) hk2
    go_wp2_with fail
    go_ret
    exact ⟨ret_bool (by rw [HF.out]; rfl), hk⟩
end Go.Proofs.YtcnjgenacpkdbaaGreatDoor
