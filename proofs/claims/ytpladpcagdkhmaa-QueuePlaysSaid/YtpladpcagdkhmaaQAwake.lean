import Derived.Test.YtpladpcagdkhmaaQSame
namespace Go.Proofs.Ytpladpcagdkhmaa
open Go Go.RowKit

theorem upd_at {F F' : List Nat} {w1 w2 : World} {p : Nat} {x : Obj} (hu : Upd F F' w1 w2) (hp : w1.heap[p]? = some x) (hn : ∀ k ∈ F, k ≠ p) : w2.heap[p]? = some x ∧ ∀ k ∈ F', k ≠ p := by
  have hl : p < w1.heap.size := (Array.getElem?_eq_some_iff.1 hp).1
  refine ⟨by rw [hu.1.block p hl (fun h => hn p h rfl)]; exact hp, fun k hk => ?_⟩
  rcases hu.2 k hk with h | h
  · exact hn k h
  · omega
theorem qbelow {w w' : World} {g : Nat} {l : List Msg} {most : Int} {F : List Nat} (h : QRep w g l most F) (hk : Below w.heap.size w w') : QRep w' g l most F := h.mod (Mod.of_below hk []) (by simp)
theorem qalloc {w : World} {g : Nat} {l : List Msg} {most : Int} {F : List Nat} (h : QRep w g l most F) (o : Obj) : QRep (w.alloc o) g l most F := qbelow h ((Below.refl _ _).alloc (Nat.le_refl _) o)
theorem below_at {w w' : World} {p : Nat} {x : Obj} (h : w.heap[p]? = some x) (hk : Below w.heap.size w w') : w'.heap[p]? = some x := by
  rw [hk.block p (Array.getElem?_eq_some_iff.1 h).1]; exact h
theorem qne_new {w : World} {g : Nat} {l : List Msg} {most : Int} {F : List Nat} (h : QRep w g l most F) : ∀ k ∈ F, k ≠ w.heap.size := fun k hk => by have := h.lt k hk; omega

set_option maxRecDepth 100000 in
set_option maxHeartbeats 4000000 in
theorem awake_true (w : World) : Calls Try.prog 17 #[] w fun e w' => e = .returned (.bool true) ∧ Below w.heap.size w w' := by
  go_enter Try.func17, Try.ntmps17
  go_wp2_with fail
  refine (qnew_any 2 _ (by omega)).mono ?_
  rintro e w1 ⟨g, rfl, hq, hu⟩
  obtain ⟨hb, hF⟩ := upd_below (Below.refl w.heap.size w) (Nat.le_refl _) (by simp) hu
  clear hu
  go_wp2_with fail
  refine (message_any _ _).mono ?_
  rintro e w2 ⟨rfl, hk⟩
  replace hq := qbelow hq hk
  replace hb := bnext hb (Nat.le_refl _) hk
  clear hk
  go_wp2_with fail
  refine (qpush_room g [] 2 _ ⟨⟨#[97]⟩, ⟨#[]⟩, 0, false⟩ _ hq (by simp)).mono ?_
  rintro e w3 ⟨rfl, F3, hq3, hu⟩
  obtain ⟨hb3, hF3⟩ := upd_below hb (Nat.le_refl _) hF hu
  clear hu hq hb hF
  go_wp2_with fail
  refine (message_any _ _).mono ?_
  rintro e w4 ⟨rfl, hk⟩
  replace hq3 := qbelow hq3 hk
  replace hb3 := bnext hb3 (Nat.le_refl _) hk
  clear hk
  go_wp2_with fail
  refine (qpush_room g _ 2 _ ⟨⟨#[98]⟩, ⟨#[]⟩, 0, false⟩ _ hq3 (by simp)).mono ?_
  rintro e w5 ⟨rfl, F5, hq5, hu⟩
  obtain ⟨hb5, hF5⟩ := upd_below hb3 (Nat.le_refl _) hF3 hu
  clear hu hq3 hb3 hF3
  go_wp2_with fail
  refine (message_any _ _).mono ?_
  rintro e w6 ⟨rfl, hk⟩
  replace hq5 := qbelow hq5 hk
  replace hb5 := bnext hb5 (Nat.le_refl _) hk
  clear hk
  go_wp2_with fail
  refine (qpush_full g _ 2 _ ⟨⟨#[99]⟩, ⟨#[]⟩, 0, false⟩ _ hq5 (by simp)).mono ?_
  rintro e w7 ⟨rfl, hq7, hu⟩
  obtain ⟨hb7, hF7⟩ := upd_below hb5 (Nat.le_refl _) hF5 hu
  clear hu hq5 hb5 hF5
  simp only [List.nil_append, List.cons_append] at hq7
  go_wp2_with fail
  refine (qlen_of 2 g _ 2 _ _ hq7 (by simp)).mono ?_
  rintro e w8 ⟨rfl, n1, rfl⟩
  replace hq7 := hq7.drewN n1
  replace hb7 := below_drewN hb7 n1
  go_wp2_with fail
  refine (qroom_of 0 g _ 2 _ _ hq7 (by simp)).mono ?_
  rintro e w9 ⟨rfl, n2, rfl⟩
  replace hq7 := hq7.drewN n2
  replace hb7 := below_drewN hb7 n2
  generalize (w7.drewN n1).drewN n2 = W at *
  go_wp2_with fail
  refine (qpeek_some g _ _ 2 _ _ hq7).mono ?_
  rintro e wa ⟨rfl, hk⟩
  replace hq7 := qbelow hq7 hk
  replace hb7 := bnext hb7 (Nat.le_refl _) hk
  clear hk
  simp only [Msg.val]
  have hx := heap_alloc_new wa (.cells #[.string ⟨#[97]⟩, .string ⟨#[]⟩, .int .u8 0, .bool false] 28)
  have hxn := qne_new hq7
  replace hq7 := qalloc hq7 (.cells #[.string ⟨#[97]⟩, .string ⟨#[]⟩, .int .u8 0, .bool false] 28)
  replace hb7 := hb7.alloc hb7.size (.cells #[.string ⟨#[97]⟩, .string ⟨#[]⟩, .int .u8 0, .bool false] 28)
  generalize hbx : wa.heap.size = bx at hx hxn
  go_wp2_with fail
  generalize wa.alloc (.cells #[.string ⟨#[97]⟩, .string ⟨#[]⟩, .int .u8 0, .bool false] 28) = Wx at *
  clear hbx
  refine (qpop_some g _ _ 2 _ _ hq7).mono ?_
  rintro e wb ⟨rfl, Fb, hqb, hu⟩
  obtain ⟨hbb, hFb⟩ := upd_below hb7 (Nat.le_refl _) hF7 hu
  obtain ⟨hx', hxn'⟩ := upd_at hu hx hxn
  clear hu hq7 hb7 hF7 hx hxn
  simp only [Msg.val]
  have hy := heap_alloc_new wb (.cells #[.string ⟨#[97]⟩, .string ⟨#[]⟩, .int .u8 0, .bool false] 28)
  have hyn := qne_new hqb
  have hx := (Below.heap_alloc wb (.cells #[.string ⟨#[97]⟩, .string ⟨#[]⟩, .int .u8 0, .bool false] 28) bx (Array.getElem?_eq_some_iff.1 hx').1).trans hx'
  replace hqb := qalloc hqb (.cells #[.string ⟨#[97]⟩, .string ⟨#[]⟩, .int .u8 0, .bool false] 28)
  replace hbb := hbb.alloc hbb.size (.cells #[.string ⟨#[97]⟩, .string ⟨#[]⟩, .int .u8 0, .bool false] 28)
  clear hx'
  generalize hby : wb.heap.size = bY at hy hyn
  go_wp2_with fail
  generalize wb.alloc (.cells #[.string ⟨#[97]⟩, .string ⟨#[]⟩, .int .u8 0, .bool false] 28) = Wy at *
  clear hby
  refine (message_any _ _).mono ?_
  rintro e wc ⟨rfl, hk⟩
  replace hqb := qbelow hqb hk
  replace hbb := bnext hbb (Nat.le_refl _) hk
  replace hx := below_at hx hk
  replace hy := below_at hy hk
  clear hk
  go_wp2_with fail
  refine (qpush_room g _ 2 _ ⟨⟨#[99]⟩, ⟨#[]⟩, 0, false⟩ _ hqb (by simp)).mono ?_
  rintro e wd ⟨rfl, Fd, hqd, hu⟩
  obtain ⟨hbd, hFd⟩ := upd_below hbb (Nat.le_refl _) hFb hu
  obtain ⟨hx1, hxn1⟩ := upd_at hu hx hxn'
  obtain ⟨hy1, hyn1⟩ := upd_at hu hy hyn
  clear hu hqb hbb hFb hx hy hxn' hyn
  go_wp2_with fail
  refine (qall_some g _ _ 2 _ _ hqd).mono ?_
  rintro e we ⟨v, rfl, hown, hk⟩
  obtain ⟨av, cv, rfl, hrow, -, -⟩ := ownsRow_row hown
  have hcut : ∀ b o, av = some ⟨b, o, none⟩ → b ∉ Fd := fun b o hab hin => by
    have h1 := (hown.lt b (by rw [hab]; rfl)).1
    have h2 := hqd.lt b hin
    omega
  replace hqd := qbelow hqd hk
  replace hbd := bnext hbd (Nat.le_refl _) hk
  replace hx1 := below_at hx1 hk
  replace hy1 := below_at hy1 hk
  clear hk hown
  go_wp2_with fail
  refine (qclear_any g _ 2 _ _ hqd).mono ?_
  rintro e wf ⟨rfl, hqf, hu⟩
  obtain ⟨hbf, hFf⟩ := upd_below hbd (Nat.le_refl _) hFd hu
  obtain ⟨hx2, hxn2⟩ := upd_at hu hx1 hxn1
  obtain ⟨hy2, hyn2⟩ := upd_at hu hy1 hyn1
  have hrow2 := hrow.mod hu.1 hcut
  clear hu hqd hbd hFd hx1 hy1 hxn1 hyn1 hrow
  go_wp2_with fail
  refine (qpop_empty g 2 _ _ hqf).mono ?_
  rintro e wh ⟨rfl, hk⟩
  replace hbf := bnext hbf (Nat.le_refl _) hk
  have hx3 := below_at hx2 hk
  have hy3 := below_at hy2 hk
  have hrow3 := hrow2.below hk (Nat.le_refl _)
  clear hk hqf hx2 hy2 hrow2
  simp only [Msg.val, Msg.none]
  obtain ⟨x0, -, -, -⟩ := cells4 hx3
  obtain ⟨y0, -, -, -⟩ := cells4 hy3
  have hxl : bx < wh.heap.size := (Array.getElem?_eq_some_iff.1 hx3).1
  have hyl : bY < wh.heap.size := (Array.getElem?_eq_some_iff.1 hy3).1
  have HR := Lib.hid (hrow3.below ((Below.refl wh.heap.size wh).alloc (Nat.le_refl _) (.cells #[.string ⟨#[]⟩, .string ⟨#[]⟩, .int .u8 0, .bool false] 28)) (Nat.le_refl _))
  clear hx3 hy3 hrow3
  go_wp2_with fail
  refine (message_any _ _).mono ?_
  rintro e wi ⟨rfl, hk⟩
  have hr1 := HR.out.below hk (Nat.le_refl _)
  replace hbf := bnext (hbf.alloc hbf.size _) (Nat.le_refl _) hk
  clear hk HR
  go_wp2_with fail
  refine (message_any _ _).mono ?_
  rintro e wj ⟨rfl, hk⟩
  have hr2 := hr1.below hk (Nat.le_refl _)
  replace hbf := bnext hbf (Nat.le_refl _) hk
  clear hk hr1
  simp only [Msg.val]
  go_wp2_with fail
  refine (same_true _ _ _ _ [⟨⟨#[98]⟩, ⟨#[]⟩, 0, false⟩, ⟨⟨#[99]⟩, ⟨#[]⟩, 0, false⟩] _ (hr2.below ((Below.refl _ _).alloc (Nat.le_refl _) _) (Nat.le_refl _)) (row_new _ _ _) (by decide)).mono ?_
  rintro e wk ⟨rfl, hk⟩
  replace hbf := bnext (hbf.alloc hbf.size _) (Nat.le_refl _) hk
  clear hk hr2
  go_wp2_with fail
  refine (qnew_out 0 _ (by omega)).mono ?_
  rintro e w' ⟨rfl, rfl⟩
  go_wp2_with fail
  refine (qnew_out 1025 _ (by omega)).mono ?_
  rintro e w' ⟨rfl, rfl⟩
  go_wp2_with fail
  go_ret
  exact ⟨rfl, hbf⟩
end Go.Proofs.Ytpladpcagdkhmaa
