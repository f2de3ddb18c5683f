/- The document's topics: a name of any length. The document's answer for what is kept: May walked (a topic of any size). The document's way to set a message in a row: the plain law. No program in sight. -/
import Derived.Test.YthfeckndkmhieaaGreatDoorDK
import Derived.Test.YthfeckndkmhieaaGreatDoorQJ
import Derived.Test.YthfeckndkmhieaaGreatDoorQA
namespace Go.Proofs.YthfeckndkmhieaaGreatDoor
section
open Go Go.RowKit

theorem rname_all (s : ByteArray) (w : World) (hs : s.size ≤ 9223372036854775807) :
    Calls Tryz.prog 91 #[.string s] w fun e w' => e = .returned (.bool (nameB s.data.toList)) ∧ Below w.heap.size w w' := by
  by_cases he : s.data.toList = []
  · have h1 : s.size = 0 := by have : s.data.toList.length = s.size := rfl; rw [he] at this; simpa using this.symm
    have h2 : decide ((0 : Int) < s.size) = false := decide_eq_false (by omega)
    have h3 : ¬ 0 < s.size := by omega
    have HF := Lib.hid (show nameB s.data.toList = false by unfold nameB; rw [he]; rfl)
    clear he h1
    go_enter Tryz.func91, Tryz.ntmps91
    go_wp2_with fail
    go_ret
    exact ⟨ret_bool HF.out.symm, Below.refl _ _⟩
  · have h1 : 0 < s.size := by
      have : s.data.toList.length = s.size := rfl
      have := List.length_pos_iff.2 he; omega
    have h2 : (0 : Int) < s.size := by omega
    obtain ⟨v, hv⟩ : ∃ v, validI s.data.toList = v := ⟨_, rfl⟩
    have HF := Lib.hid (show nameB s.data.toList = (v && plainB s.data.toList) by rw [nameB, List.isEmpty_eq_false_iff.2 he, ← hv]; rfl)
    have HSZ : Hid (v = true → s.size < 4294967281) := Lib.hid (fun h => by
      rw [← hv] at h
      unfold validI at h
      have hc := of_decide_eq_true h
      by_cases hl : 65535 < s.data.toList.length
      · rw [cntI_long hl] at hc; omega
      · have : s.data.toList.length = s.size := rfl
        omega)
    have HV := Lib.hid (rvalid_any s w (by omega))
    rw [hv] at HV
    clear he hv
    cases v with
    | false =>
      go_enter Tryz.func91, Tryz.ntmps91
      go_wp2_with fail
      refine HV.out.mono ?_
      rintro e w1 ⟨rfl, hk⟩
      go_wp2_with fail
      go_ret
      exact ⟨ret_bool HF.out.symm, hk⟩
    | true =>
      have HP := Lib.hid (fun w => rplain_any s w (HSZ.out rfl))
      clear HSZ
      go_enter Tryz.func91, Tryz.ntmps91
      go_wp2_with fail
      refine HV.out.mono ?_
      rintro e w1 ⟨rfl, hk⟩
      go_wp2_with fail
      refine (HP.out _).mono ?_
      rintro e w2 ⟨rfl, rfl⟩
      go_wp2_with fail
      go_ret
      exact ⟨ret_bool (by rw [HF.out]; rfl), hk⟩
end
section
open Go Go.RowKit Go.Maps

set_option maxHeartbeats 1000000 in
theorem rmay_any (m : Msg) (w : World) (hs : m.t.size ≤ 9223372036854775807) (hq : 0 ≤ m.q) (hq2 : m.q < 256) :
    Calls Tryz.prog 62 #[.agg #[.string m.t, .string m.p, .int .u8 m.q, .bool m.r]] w fun e w' => e = .returned (.bool (mayB m)) ∧ Below w.heap.size w w' := by
  obtain ⟨t, p, q, r⟩ := m
  have HB : Hid (mayB ⟨t, p, q, r⟩ = (nameB t.data.toList && decide (q ≤ 2))) := Lib.hid rfl
  have hb : Below w.heap.size w (w.alloc (.cells #[.string t, .string p, .int .u8 q, .bool r] 26)) := (Below.refl _ _).alloc (Nat.le_refl _) _
  have HBW := Lib.hid hb
  have HN := Lib.hid (rname_all t (w.alloc (.cells #[.string t, .string p, .int .u8 q, .bool r] 26)) hs)
  have hr := heap_alloc_new w (.cells #[.string t, .string p, .int .u8 q, .bool r] 26)
  have HR := Lib.hid hr
  clear hb hr
  obtain ⟨b, hbn⟩ : ∃ b, nameB t.data.toList = b := ⟨_, rfl⟩
  rw [hbn] at HN HB
  clear hbn
  go_enter Tryz.func62, Tryz.ntmps62
  go_wp2_with fail
  refine HN.out.mono ?_
  rintro e w1 ⟨rfl, hk⟩
  have hr1 : w1.heap[w.heap.size]? = _ := (hk.block w.heap.size (by simp)).trans HR.out
  obtain ⟨r0, r1, r2, r3⟩ := cells4 hr1
  have HK := Lib.hid (bnext HBW.out (by simp) hk)
  clear hk hr1
  cases b with
  | true =>
    obtain ⟨c, hc⟩ : ∃ c, decide (q ≤ 2) = c := ⟨_, rfl⟩
    rw [hc] at HB
    go_wp2_with fail
    go_ret
    exact ⟨ret_bool HB.out.symm, HK.out⟩
  | false =>
    go_wp2_with fail
    go_ret
    exact ⟨ret_bool HB.out.symm, HK.out⟩
end
section
open Go Go.RowKit

/-- What the document's loop makes of a row; b: the message is in already, or is not to be kept. -/
def refGo (m : Msg) : Bool → List Msg → List Msg
  | b, [] => if b then [] else [m]
  | b, y :: r =>
    if b = false ∧ m.k < y.k then m :: (if y.k = m.k then refGo m true r else y :: refGo m true r)
    else if y.k = m.k then refGo m b r else y :: refGo m b r
theorem refGo_true (m : Msg) (L : List Msg) : refGo m true L = del m.k L := by
  induction L with
  | nil => rfl
  | cons y r ih =>
    unfold refGo
    rw [if_neg (by simp), ih]
    by_cases h : y.k = m.k <;> simp [del, h]
theorem del_none {t : List UInt8} {L : List Msg} (h : ∀ x ∈ L, t < x.k) : del t L = L := by
  unfold del
  rw [List.filter_eq_self]
  intro x hx
  simp only [bne_iff_ne, ne_eq]
  exact fun e => lt_ne (h x hx) e.symm
theorem put_low {m : Msg} {L : List Msg} (h : ∀ x ∈ L, m.k < x.k) : put m L = m :: L := by
  cases L with
  | nil => rfl
  | cons z s => unfold put; rw [if_pos (h z (by simp))]
theorem refGo_false {m : Msg} {L : List Msg} (hU : Up L) : refGo m false L = put m L := by
  induction L with
  | nil => rfl
  | cons y r ih =>
    obtain ⟨h1, h2⟩ := List.pairwise_cons.1 hU
    unfold refGo put
    by_cases hlt : m.k < y.k
    · have hne : ¬ y.k = m.k := fun e => lt_ne hlt e.symm
      rw [if_pos ⟨rfl, hlt⟩, if_pos hlt, if_neg hne, refGo_true, del_none fun x hx => List.lt_trans hlt (h1 x hx)]
    · rw [if_neg (fun h => hlt h.2), if_neg hlt]
      by_cases he : y.k = m.k
      · rw [if_pos he, if_pos he, ih h2, put_low fun x hx => he ▸ h1 x hx]
      · rw [if_neg he, if_neg he, ih h2]
end
end Go.Proofs.YthfeckndkmhieaaGreatDoor
