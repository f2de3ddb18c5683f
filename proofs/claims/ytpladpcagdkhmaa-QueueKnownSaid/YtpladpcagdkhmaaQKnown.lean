import Derived.Test.YtpladpcagdkhmaaQNil
namespace Go.Proofs.Ytpladpcagdkhmaa
open Go Go.RowKit

/-- the message of QueueKnown -/
def knownMsg (k : Nat) : Msg := ⟨⟨#[116]⟩, ⟨#[]⟩, (k : Int) % 251, false⟩
def kL (k : Nat) : List Msg := (List.range k).map knownMsg
def kR (M k : Nat) : List Msg := (List.range' k (M - k)).map knownMsg
theorem kL_len (k : Nat) : (kL k).length = k := by simp [kL]
theorem kL_next (k : Nat) : kL (k + 1) = kL k ++ [knownMsg k] := by simp [kL, List.range_succ]
theorem kR_zero (M : Nat) : kR M 0 = kL M := by simp [kL, kR, List.range_eq_range']
theorem kR_next (M k : Nat) (h : k < M) : kR M k = knownMsg k :: kR M (k + 1) := by
  unfold kR
  obtain ⟨j, hj⟩ : ∃ j, M - k = j + 1 := ⟨M - k - 1, by omega⟩
  rw [hj, List.range'_succ, show M - (k + 1) = j by omega]; rfl
theorem kR_end (M : Nat) : kR M M = [] := by simp [kR]

theorem qall_n (n : Nat) (g : Nat) (m : Msg) (l : List Msg) (most : Int) (F : List Nat) (w : World) (h : QRep w g (m :: l) most F) (hn : (m :: l).length = n) :
    Calls Try.prog 13 #[.pointer (some ⟨g, 0, none⟩)] w fun e w' => ∃ a c, e = .returned (.slice a n c) ∧ Below w.heap.size w w' := by
  refine (qall_some g m l most F w h).mono ?_
  rintro e w' ⟨v, rfl, hown, hk⟩
  obtain ⟨a, c, rfl, -⟩ := ownsRow_row hown
  subst hn
  exact ⟨a, c, rfl, hk⟩

theorem QRep.head {w : World} {g : Nat} {l : List Msg} {most : Int} {F : List Nat} (h : QRep w g l most F) : g ∈ F := by
  obtain ⟨_, _, _, _, _, _, _, _, _, rfl⟩ := h; simp
theorem cell_mod {S : List Nat} {w w' : World} {a : Addr} {v : Value} (h : w.cell? a = some v) (hm : Mod S w w') (hn : a.block ∉ S) : w'.cell? a = some v := by
  have hl := World.block_lt_of_cell? w a h
  unfold World.cell? at *
  rw [hm.block _ hl hn]; exact h
theorem s30_mod {S : List Nat} {w w' : World} {Z bx bY o : Nat} {p : Value} (h : (w.cell? ⟨Z + 1, o, none⟩ = some p ∧ w.cell? ⟨bx, 0, none⟩ = some (.string ⟨#[]⟩) ∧ w.cell? ⟨bx, 1, none⟩ = some (.string ⟨#[]⟩) ∧ w.cell? ⟨bx, 2, none⟩ = some (.int .u8 0) ∧ w.cell? ⟨bx, 3, none⟩ = some (.bool false) ∧ w.cell? ⟨bY, 0, none⟩ = some (.string ⟨#[]⟩) ∧ w.cell? ⟨bY, 1, none⟩ = some (.string ⟨#[]⟩) ∧ w.cell? ⟨bY, 2, none⟩ = some (.int .u8 0) ∧ w.cell? ⟨bY, 3, none⟩ = some (.bool false))) (hm : Mod S w w') (h1 : Z + 1 ∉ S) (h2 : bx ∉ S) (h3 : bY ∉ S) : (w'.cell? ⟨Z + 1, o, none⟩ = some p ∧ w'.cell? ⟨bx, 0, none⟩ = some (.string ⟨#[]⟩) ∧ w'.cell? ⟨bx, 1, none⟩ = some (.string ⟨#[]⟩) ∧ w'.cell? ⟨bx, 2, none⟩ = some (.int .u8 0) ∧ w'.cell? ⟨bx, 3, none⟩ = some (.bool false) ∧ w'.cell? ⟨bY, 0, none⟩ = some (.string ⟨#[]⟩) ∧ w'.cell? ⟨bY, 1, none⟩ = some (.string ⟨#[]⟩) ∧ w'.cell? ⟨bY, 2, none⟩ = some (.int .u8 0) ∧ w'.cell? ⟨bY, 3, none⟩ = some (.bool false)) := by
  obtain ⟨a0, a1, a2, a3, a4, a5, a6, a7, a8⟩ := h
  exact ⟨cell_mod a0 hm h1, cell_mod a1 hm h2, cell_mod a2 hm h2, cell_mod a3 hm h2, cell_mod a4 hm h2, cell_mod a5 hm h3, cell_mod a6 hm h3, cell_mod a7 hm h3, cell_mod a8 hm h3⟩
theorem s30_below {w w' : World} {Z bx bY o : Nat} {p : Value} (h : (w.cell? ⟨Z + 1, o, none⟩ = some p ∧ w.cell? ⟨bx, 0, none⟩ = some (.string ⟨#[]⟩) ∧ w.cell? ⟨bx, 1, none⟩ = some (.string ⟨#[]⟩) ∧ w.cell? ⟨bx, 2, none⟩ = some (.int .u8 0) ∧ w.cell? ⟨bx, 3, none⟩ = some (.bool false) ∧ w.cell? ⟨bY, 0, none⟩ = some (.string ⟨#[]⟩) ∧ w.cell? ⟨bY, 1, none⟩ = some (.string ⟨#[]⟩) ∧ w.cell? ⟨bY, 2, none⟩ = some (.int .u8 0) ∧ w.cell? ⟨bY, 3, none⟩ = some (.bool false))) (hk : Below w.heap.size w w') : (w'.cell? ⟨Z + 1, o, none⟩ = some p ∧ w'.cell? ⟨bx, 0, none⟩ = some (.string ⟨#[]⟩) ∧ w'.cell? ⟨bx, 1, none⟩ = some (.string ⟨#[]⟩) ∧ w'.cell? ⟨bx, 2, none⟩ = some (.int .u8 0) ∧ w'.cell? ⟨bx, 3, none⟩ = some (.bool false) ∧ w'.cell? ⟨bY, 0, none⟩ = some (.string ⟨#[]⟩) ∧ w'.cell? ⟨bY, 1, none⟩ = some (.string ⟨#[]⟩) ∧ w'.cell? ⟨bY, 2, none⟩ = some (.int .u8 0) ∧ w'.cell? ⟨bY, 3, none⟩ = some (.bool false)) :=
  s30_mod h (Mod.of_below hk []) (by simp) (by simp) (by simp)

/-- the limits -/
def lims : List Int := [1, 2, 1023, 1024]
theorem lims_at (k : Nat) (h : k < 4) : ∃ M : Nat, lims[k]? = some (M : Int) ∧ 1 ≤ M ∧ M ≤ 1024 := by
  match k, h with
  | 0, _ => exact ⟨1, rfl, by omega, by omega⟩
  | 1, _ => exact ⟨2, rfl, by omega, by omega⟩
  | 2, _ => exact ⟨1023, rfl, by omega, by omega⟩
  | 3, _ => exact ⟨1024, rfl, by omega, by omega⟩

def limV : List Value := lims.map (fun x => .int .i64 x)
theorem limV_at (k : Nat) (h : k < 4) : ∃ M : Nat, limV[k]? = some (.int .i64 (M : Int)) ∧ 1 ≤ M ∧ M ≤ 1024 := by
  obtain ⟨M, h1, h2, h3⟩ := lims_at k h
  exact ⟨M, by simp [limV, h1], h2, h3⟩

set_option maxRecDepth 100000 in
set_option maxHeartbeats 4000000 in
set_option linter.unusedSimpArgs false in
theorem known_true (w : World) : Calls Try.prog 3 #[] w fun e w' => e = .returned (.bool true) ∧ Below w.heap.size w w' := by
  have hrow : Row (w.alloc (.cells limV.toArray 3)) (some ⟨w.heap.size, 0, none⟩) limV := row_new _ _ _
  have hb1 := (Below.refl w.heap.size w).alloc (Nat.le_refl _) (.cells limV.toArray 3)
  have hsz : w.heap.size ≤ (w.alloc (.cells limV.toArray 3)).heap.size := by simp
  have hlim : limV.toArray = #[.int .i64 1, .int .i64 2, .int .i64 1023, .int .i64 1024] := rfl
  rw [hlim] at hrow hb1 hsz
  clear hlim
  have HR := Lib.hid hrow
  have HB := Lib.hid hb1
  have HS := Lib.hid hsz
  clear hrow hb1 hsz
  go_enter Try.func3, Try.ntmps3
  go_wp2_with fail
  generalize w.alloc (.cells #[.int .i64 1, .int .i64 2, .int .i64 1023, .int .i64 1024] 3) = w1 at *
  generalize hbl : w.heap.size = bl at HR ⊢
  clear hbl
  go_loopw [2] (fun i wr => ∃ k : Nat, i = .int .i64 k ∧ k ≤ 4 ∧ Below w1.heap.size w1 wr) (fun i _ => (4 - intOf i).toNat)
  case atStart => exact ⟨0, rfl, by omega, Below.refl _ _⟩
  case round =>
    obtain ⟨i, rfl, hi, hbr⟩ := hrel
    by_cases hlt : i < 4
    · obtain ⟨M, hM, hM1, hM2⟩ := limV_at i hlt
      have hi0 : (0 : Int) ≤ i := by omega
      have hi4 : (i : Int) < 4 := by omega
      have hcell : ∀ W, Below w1.heap.size w1 W → W.cell? ⟨bl, i, none⟩ = some (.int .i64 (M : Int)) := fun W hW => by
        obtain ⟨b, off, e1, hc⟩ := (HR.out.below hW (Nat.le_refl _)).at hM
        cases e1
        simpa using hc
      have HC := Lib.hid hcell
      have c0 := hcell _ hbr
      clear hcell
      have m1 : (1 : Int) ≤ M := by omega
      have m2 : (M : Int) ≤ 1024 := by omega
      clear hM
      go_wp2_with fail
      refine (qnew_any M _ ⟨m1, m2⟩).mono ?_
      rintro e wq ⟨g, rfl, hq, hu⟩
      obtain ⟨hbq, hF⟩ := upd_below hbr (Nat.le_refl _) (by simp) hu
      clear hu c0 hbr
      have HQ := Lib.hid (⟨[g], hq, hF⟩ : ∃ F, QRep wq g [] M F ∧ ∀ x ∈ F, w1.heap.size ≤ x)
      have HBQ := Lib.hid hbq
      clear hq hF hbq
      go_wp2_with fail
      go_loopw [4] (fun i wr => ∃ t : Nat, i = .int .i64 t ∧ t ≤ 2 ∧ Below w1.heap.size w1 wr ∧ ∃ F, QRep wr g [] M F ∧ ∀ x ∈ F, w1.heap.size ≤ x) (fun i _ => (2 - intOf i).toNat)
      case atStart => exact ⟨0, rfl, by omega, HBQ.out, HQ.out⟩
      case round =>
        clear HBQ HQ
        obtain ⟨t, rfl, ht, hbr, F, hq, hF⟩ := hrel
        by_cases hlt2 : t < 2
        · have ht0 : (0 : Int) ≤ t := by omega
          have ht2 : (t : Int) < 2 := by omega
          have HB2 := Lib.hid hbr
          have HQ2 := Lib.hid (⟨F, hq, hF⟩ : ∃ F, QRep _ g [] M F ∧ ∀ x ∈ F, w1.heap.size ≤ x)
          clear hbr hq hF
          go_wp2_with fail
          go_loopw [5] (fun i wr => ∃ k : Nat, i = .int .i64 k ∧ k ≤ M ∧ Below w1.heap.size w1 wr ∧ ∃ F, QRep wr g (kL k) M F ∧ ∀ x ∈ F, w1.heap.size ≤ x) (fun i _ => (M - intOf i).toNat)
          case atStart => exact ⟨0, rfl, by omega, HB2.out, HQ2.out⟩
          case round =>
            clear HB2 HQ2
            obtain ⟨k, rfl, hk, hbr, F, hq, hF⟩ := hrel
            have hk0 : (0 : Int) ≤ k := by omega
            have c0 := HC.out _ hbr
            by_cases hlt3 : k < M
            · have hkM : (k : Int) < M := by omega
              have e0 : IntKind.i64.wrap ((M : Int) - k) = (M : Int) - k := w_i64 _ (by omega) (by omega)
              have e1 : (k : Int).tmod 251 = (k : Int) % 251 := by rw [Int.tmod_eq_emod_of_nonneg hk0]
              have e2 : IntKind.u8.wrap ((k : Int) % 251) = (k : Int) % 251 := by rw [IntKind.wrap_u8]; omega
              have e3 : IntKind.i64.wrap ((k : Int) % 251) = (k : Int) % 251 := w_i64 _ (by omega) (by omega)
              have HL := Lib.hid (kL_len k)
              have HL2 := Lib.hid (show ((kL k).length : Int) < M by rw [kL_len]; omega)
              go_wp2_with fail
              go_region_held3 (fun w' => w'.cell? ⟨bl, i, none⟩ = some (.int .i64 (M : Int))) (first | assumption | go_keep) (first
                  | (go_at_call 9; refine (qroom_of ((M : Int) - k) g (kL k) M F _ ?_ ?_).mono ?_; exact hq; exact (congrArg (fun x : Nat => (M : Int) - (x : Int)) HL.out); rintro e w' ⟨rfl, n, rfl⟩)
                  | (go_at_call 10; refine (qlen_of k g (kL k) M F _ ?_ ?_).mono ?_; exact hq; exact (congrArg (fun x : Nat => (x : Int)) HL.out); rintro e w' ⟨rfl, n', rfl⟩)
                  | (go_at_call 11; refine (qpush_room g (kL k) M F ⟨⟨#[116]⟩, ⟨#[]⟩, (k : Int) % 251, false⟩ _ ?_ ?_).mono ?_; exact hq; exact HL2.out; rintro e w9 ⟨rfl, Fc, hqc, hu⟩; have hbF := upd_below (below_drewN hbr _) (Nat.le_refl _) hF hu; have c1 := HC.out _ hbF.1))
              go_wp2_with fail
              go_roundw
              case rel => exact ⟨k + 1, by go_num, by omega, hbF.1, Fc, by rw [kL_next]; exact hqc, hbF.2⟩
              case measure => simp [intOf]; omega
            · have hkM : ¬ (k : Int) < M := by omega
              obtain rfl : k = M := by omega
              rw [← kR_zero, kR_next k 0 (by omega)] at hq
              have HL := Lib.hid (show ((knownMsg 0 :: kR k (0 + 1)).length : Int) = k by rw [← kR_next k 0 (by omega), kR_zero, kL_len])
              have HN := Lib.hid (show (knownMsg 0 :: kR k (0 + 1)).length = k by rw [← kR_next k 0 (by omega), kR_zero, kL_len])
              have HK := Lib.hid (kR_next k 0 (by omega))
              generalize kR k (0 + 1) = R at hq HL HN HK
              go_wp2_with fail
              go_region_held3 (fun w' => w'.cell? ⟨bl, i, none⟩ = some (.int .i64 (k : Int))) (first | assumption | go_keep) (first
                  | (go_at_call 12; refine (message_any _ _).mono ?_; rintro e wa ⟨rfl, hka⟩; have hqa := qbelow (by exact hq) hka; have hba := bnext (by first | exact hbr.drew | exact below_drewN hbr _) (Nat.le_refl _) hka; have ca := HC.out _ hba)
                  | (go_at_call 11; refine (qpush_full g _ k F _ _ hqa HL.out).mono ?_; rintro e wb ⟨rfl, hqb, hub⟩; have hbb := upd_below hba (Nat.le_refl _) hF hub; have cb := HC.out _ hbb.1)
                  | (go_at_call 9; refine (qroom_of 0 g (knownMsg 0 :: R) k F _ ?_ ?_).mono ?_; exact hqb; exact Int.sub_eq_zero.2 HL.out.symm; rintro e w' ⟨rfl, n, rfl⟩)
                  | (go_at_call 13; refine (qall_n k g (knownMsg 0) R k F _ ?_ ?_).mono ?_; exact hqb; exact HN.out; rintro e wd ⟨av, cv, rfl, hkd⟩; have hbd := bnext (by first | exact hbb.1.drew | exact below_drewN hbb.1 _) (Nat.le_refl _) hkd; have cd := HC.out _ hbd; have hqd := qbelow (by exact hqb) hkd))
              have HQ4 := Lib.hid (⟨F, by rw [HK.out]; exact hqd, hbb.2⟩ : ∃ F, QRep wd g (kR k 0) k F ∧ ∀ x ∈ F, w1.heap.size ≤ x)
              have HB4 := Lib.hid hbd
              refine (?_ : ∀ W : World, W = wd → Exit.then _ _ Exit.normal _ W) _ rfl
              rintro W rfl
              clear hqd hbd cd c0 ca cb hqa hba hqb hub hbb hka hkd HL HN HK hq hF hbr
              go_wp2_with fail
              try simp only [Msg.val]
              go_loopw [6] (fun i wr => ∃ j : Nat, i = .int .i64 j ∧ j ≤ k ∧ Below w1.heap.size w1 wr ∧ ∃ F, QRep wr g (kR k j) k F ∧ ∀ x ∈ F, w1.heap.size ≤ x) (fun i _ => (k - intOf i).toNat)
              case atStart => exact ⟨0, rfl, by omega, HB4.out, HQ4.out⟩
              case round =>
                clear HB4 HQ4
                obtain ⟨j, rfl, hj, hbr, F, hq, hF⟩ := hrel
                have hj0 : (0 : Int) ≤ j := by omega
                have c0 := HC.out _ hbr
                by_cases hlt4 : j < k
                · have hjk : (j : Int) < k := by omega
                  rw [kR_next k j hlt4] at hq
                  go_wp2_with fail
                  refine (qpop_some g _ _ _ _ _ hq).mono ?_
                  rintro e wb ⟨rfl, Fb, hqb, hu⟩
                  obtain ⟨hbb, hFb⟩ := upd_below hbr (Nat.le_refl _) hF hu
                  clear hu hq hbr hF c0
                  simp only [Msg.val, knownMsg]
                  obtain ⟨x0, x1, x2, x3⟩ := cells4 (heap_alloc_new wb (.cells #[.string ⟨#[116]⟩, .string ⟨#[]⟩, .int .u8 ((j : Int) % 251), .bool false] 28))
                  replace hqb := qalloc hqb (.cells #[.string ⟨#[116]⟩, .string ⟨#[]⟩, .int .u8 ((j : Int) % 251), .bool false] 28)
                  replace hbb := hbb.alloc hbb.size (.cells #[.string ⟨#[116]⟩, .string ⟨#[]⟩, .int .u8 ((j : Int) % 251), .bool false] 28)
                  have e1 : (j : Int).tmod 251 = (j : Int) % 251 := by rw [Int.tmod_eq_emod_of_nonneg hj0]
                  have e2 : IntKind.u8.wrap ((j : Int) % 251) = (j : Int) % 251 := by rw [IntKind.wrap_u8]; omega
                  have e3 : IntKind.i64.wrap ((j : Int) % 251) = (j : Int) % 251 := w_i64 _ (by omega) (by omega)
                  go_wp2_with fail
                  go_roundw
                  case rel => exact ⟨j + 1, by go_num, by omega, hbb, Fb, hqb, hFb⟩
                  case measure => simp [intOf]; omega
                · have hjk : ¬ (j : Int) < k := by omega
                  obtain rfl : j = k := by omega
                  rw [kR_end] at hq
                  go_wp2_with fail
                  go_roundw
                  case rel => exact ⟨t + 1, by go_num, by omega, hbr, F, hq, hF⟩
                  case measure => simp [intOf]; omega
        · have ht2 : ¬ (t : Int) < 2 := by omega
          go_wp2_with fail
          go_roundw
          case rel => exact ⟨i + 1, by go_num, by omega, hbr⟩
          case measure => simp [intOf]; omega
    · have hi4 : ¬ (i : Int) < 4 := by omega
      have hb := bnext HB.out (Nat.le_refl _) hbr
      have z0 := heap_alloc_new wr (.cells #[.slice none 0 0, .int .i64 0, .int .i64 0] 35)
      have hbz := hb.alloc hb.size (.cells #[.slice none 0 0, .int .i64 0, .int .i64 0] 35)
      have hZ : w.heap.size ≤ wr.heap.size := hb.size
      have hZ1 : (wr.alloc (.cells #[.slice none 0 0, .int .i64 0, .int .i64 0] 35)).heap.size = wr.heap.size + 1 := by simp
      have hq : QRep (wr.alloc (.cells #[.slice none 0 0, .int .i64 0, .int .i64 0] 35)) wr.heap.size [] 0 [wr.heap.size] :=
        ⟨.slice none 0 0, [], z0, World.ownsRow_nil _ _ _ _, by simp, by simp, by omega, by omega, by simp [Value.ownBlock], rfl⟩
      replace hq := qalloc hq (.cells #[.pointer none, .pointer (some ⟨wr.heap.size, 0, none⟩)] 23)
      have p0 := heap_alloc_new (wr.alloc (.cells #[.slice none 0 0, .int .i64 0, .int .i64 0] 35)) (.cells #[.pointer none, .pointer (some ⟨wr.heap.size, 0, none⟩)] 23)
      replace hbz := hbz.alloc hbz.size (.cells #[.pointer none, .pointer (some ⟨wr.heap.size, 0, none⟩)] 23)
      rw [hZ1] at p0
      have HQ := Lib.hid (⟨_, hq, by simp, by simp; omega⟩ : ∃ F, QRep _ wr.heap.size [] 0 F ∧ (∀ x ∈ F, x ≠ wr.heap.size + 1) ∧ ∀ x ∈ F, w.heap.size ≤ x)
      have HP := Lib.hid p0
      have HZ := Lib.hid hbz
      clear hq p0 hbz z0 hZ1 hb hbr
      go_wp2_with fail
      generalize (wr.alloc (.cells #[.slice none 0 0, .int .i64 0, .int .i64 0] 35)).alloc (.cells #[.pointer none, .pointer (some ⟨wr.heap.size, 0, none⟩)] 23) = wz at *
      generalize wr.heap.size = Z at *
      go_loopw [11] (fun i wr => ∃ j : Nat, i = .int .i64 j ∧ j ≤ 2 ∧ Below w.heap.size w wr ∧ wr.heap[Z + 1]? = some (.cells #[.pointer none, .pointer (some ⟨Z, 0, none⟩)] 23 (0, 0)) ∧ ∃ F, QRep wr Z [] 0 F ∧ (∀ x ∈ F, x ≠ Z + 1) ∧ ∀ x ∈ F, w.heap.size ≤ x) (fun i _ => (2 - intOf i).toNat)
      case atStart => exact ⟨0, rfl, by omega, HZ.out, HP.out, HQ.out⟩
      case round =>
        clear HZ HP HQ
        obtain ⟨j, rfl, hj, hb, hp, F, hq, hFp, hF⟩ := hrel
        obtain ⟨c0, c1⟩ : wr.cell? ⟨Z + 1, 0, none⟩ = some (.pointer none) ∧ wr.cell? ⟨Z + 1, 1, none⟩ = some (.pointer (some ⟨Z, 0, none⟩)) := ⟨cell_of_row wr (Z + 1) 0 _ _ _ hp, cell_of_row wr (Z + 1) 1 _ _ _ hp⟩
        by_cases h0 : j = 0
        · subst h0
          go_wp2_with fail
          refine (qnil_peek _).mono ?_
          rintro e wa ⟨rfl, hk⟩
          replace hq := qbelow hq hk
          replace hb := bnext hb (Nat.le_refl _) hk
          replace hp := below_at hp hk
          clear hk c0 c1
          simp only [Msg.val, Msg.none]
          have hx := heap_alloc_new wa (.cells #[.string ⟨#[]⟩, .string ⟨#[]⟩, .int .u8 0, .bool false] 28)
          replace hp := (Below.heap_alloc wa (.cells #[.string ⟨#[]⟩, .string ⟨#[]⟩, .int .u8 0, .bool false] 28) (Z + 1) (Array.getElem?_eq_some_iff.1 hp).1).trans hp
          replace hq := qalloc hq (.cells #[.string ⟨#[]⟩, .string ⟨#[]⟩, .int .u8 0, .bool false] 28)
          replace hb := hb.alloc hb.size (.cells #[.string ⟨#[]⟩, .string ⟨#[]⟩, .int .u8 0, .bool false] 28)
          generalize hbx : wa.heap.size = bx at hx
          have c0 := cell_of_row _ (Z + 1) 0 _ _ _ hp
          simp only [List.getElem?_toArray, List.getElem?_cons_zero] at c0
          go_wp2_with fail
          generalize wa.alloc (.cells #[.string ⟨#[]⟩, .string ⟨#[]⟩, .int .u8 0, .bool false] 28) = Wx at *
          clear hbx
          refine (qnil_pop _).mono ?_
          rintro e wb ⟨rfl, hk⟩
          replace hq := qbelow hq hk
          replace hb := bnext hb (Nat.le_refl _) hk
          replace hp := below_at hp hk
          replace hx := below_at hx hk
          clear hk c0
          simp only [Msg.val, Msg.none]
          have hy := heap_alloc_new wb (.cells #[.string ⟨#[]⟩, .string ⟨#[]⟩, .int .u8 0, .bool false] 28)
          replace hp := (Below.heap_alloc wb (.cells #[.string ⟨#[]⟩, .string ⟨#[]⟩, .int .u8 0, .bool false] 28) (Z + 1) (Array.getElem?_eq_some_iff.1 hp).1).trans hp
          replace hx := (Below.heap_alloc wb (.cells #[.string ⟨#[]⟩, .string ⟨#[]⟩, .int .u8 0, .bool false] 28) bx (Array.getElem?_eq_some_iff.1 hx).1).trans hx
          replace hq := qalloc hq (.cells #[.string ⟨#[]⟩, .string ⟨#[]⟩, .int .u8 0, .bool false] 28)
          replace hb := hb.alloc hb.size (.cells #[.string ⟨#[]⟩, .string ⟨#[]⟩, .int .u8 0, .bool false] 28)
          generalize hby : wb.heap.size = bY at hy
          have c0 := cell_of_row _ (Z + 1) 0 _ _ _ hp
          simp only [List.getElem?_toArray, List.getElem?_cons_zero] at c0
          go_wp2_with fail
          generalize wb.alloc (.cells #[.string ⟨#[]⟩, .string ⟨#[]⟩, .int .u8 0, .bool false] 28) = Wy at *
          clear hby
          refine (qnil_clear _).mono ?_
          rintro e w' ⟨rfl, rfl⟩
          obtain ⟨x0, x1, x2, x3⟩ := cells4 hx
          obtain ⟨y0, y1, y2, y3⟩ := cells4 hy
          have h30 := And.intro c0 (And.intro x0 (And.intro x1 (And.intro x2 (And.intro x3 (And.intro y0 (And.intro y1 (And.intro y2 y3)))))))
          clear c0 x0 x1 x2 x3 y0 y1 y2 y3
          go_wp2_with fail
          go_region_held3 (fun w' => (w'.cell? ⟨Z + 1, 0, none⟩ = some (.pointer none) ∧ w'.cell? ⟨bx, 0, none⟩ = some (.string ⟨#[]⟩) ∧ w'.cell? ⟨bx, 1, none⟩ = some (.string ⟨#[]⟩) ∧ w'.cell? ⟨bx, 2, none⟩ = some (.int .u8 0) ∧ w'.cell? ⟨bx, 3, none⟩ = some (.bool false) ∧ w'.cell? ⟨bY, 0, none⟩ = some (.string ⟨#[]⟩) ∧ w'.cell? ⟨bY, 1, none⟩ = some (.string ⟨#[]⟩) ∧ w'.cell? ⟨bY, 2, none⟩ = some (.int .u8 0) ∧ w'.cell? ⟨bY, 3, none⟩ = some (.bool false))) (first | exact sB | exact sA | go_keep) (first
              | (go_at_call 12; refine (message_any _ _).mono ?_; rintro e wc ⟨rfl, hka⟩; have hqa := qbelow (by exact hq) hka; have hba := bnext (by first | exact hb.drew | exact below_drewN hb _) (Nat.le_refl _) hka; have sA := s30_below (by exact h30) hka)
              | (go_at_call 11; refine (qnil_push ⟨⟨#[97]⟩, ⟨#[]⟩, 0, false⟩ _).mono ?_; rintro e wd ⟨rfl, hkb⟩; have hqb := qbelow (by exact hqa) hkb; have hbb := bnext (by first | exact hba | exact below_drewN hba _) (Nat.le_refl _) hkb; have sB := s30_below (by exact sA) hkb)
              | (go_at_call 9; refine (qroom_nil _).mono ?_; rintro e w' ⟨rfl, rfl⟩)
              | (go_at_call 10; refine (qlen_nil _).mono ?_; rintro e w' ⟨rfl, rfl⟩)
              | (go_at_call 13; refine (qnil_all _).mono ?_; rintro e w' ⟨rfl, rfl⟩))
          go_wp2_with fail
          go_roundw
          case rel => exact ⟨1, by go_num, by omega, hbb, below_at (below_at (by exact hp) hka) hkb, F, hqb, hFp, hF⟩
          case measure => simp [intOf]
        · by_cases h1 : j = 1
          · subst h1
            go_wp2_with fail
            refine (qpeek_empty Z 0 F _ hq).mono ?_
            rintro e wa ⟨rfl, hk⟩
            replace hq := qbelow hq hk
            replace hb := bnext hb (Nat.le_refl _) hk
            replace hp := below_at hp hk
            clear hk c0 c1
            simp only [Msg.val, Msg.none]
            have hx := heap_alloc_new wa (.cells #[.string ⟨#[]⟩, .string ⟨#[]⟩, .int .u8 0, .bool false] 28)
            replace hp := (Below.heap_alloc wa (.cells #[.string ⟨#[]⟩, .string ⟨#[]⟩, .int .u8 0, .bool false] 28) (Z + 1) (Array.getElem?_eq_some_iff.1 hp).1).trans hp
            have hq0 := hq
            replace hq := qalloc hq (.cells #[.string ⟨#[]⟩, .string ⟨#[]⟩, .int .u8 0, .bool false] 28)
            replace hb := hb.alloc hb.size (.cells #[.string ⟨#[]⟩, .string ⟨#[]⟩, .int .u8 0, .bool false] 28)
            have HXn := Lib.hid (qne_new (w := wa) (g := Z) (l := []) (most := 0) (F := F) hq0)
            have HX := Lib.hid (hq0.lt Z hq0.head)
            generalize hbx : wa.heap.size = bx at hx HXn HX
            have c0 := cell_of_row _ (Z + 1) 1 _ _ _ hp
            simp only [List.getElem?_toArray, List.getElem?_cons_zero, List.getElem?_cons_succ] at c0
            go_wp2_with fail
            generalize wa.alloc (.cells #[.string ⟨#[]⟩, .string ⟨#[]⟩, .int .u8 0, .bool false] 28) = Wx at *
            clear hbx hq0
            refine (qpop_empty Z 0 F _ hq).mono ?_
            rintro e wb ⟨rfl, hk⟩
            replace hq := qbelow hq hk
            replace hb := bnext hb (Nat.le_refl _) hk
            replace hp := below_at hp hk
            replace hx := below_at hx hk
            clear hk c0
            simp only [Msg.val, Msg.none]
            have hy := heap_alloc_new wb (.cells #[.string ⟨#[]⟩, .string ⟨#[]⟩, .int .u8 0, .bool false] 28)
            replace hp := (Below.heap_alloc wb (.cells #[.string ⟨#[]⟩, .string ⟨#[]⟩, .int .u8 0, .bool false] 28) (Z + 1) (Array.getElem?_eq_some_iff.1 hp).1).trans hp
            replace hx := (Below.heap_alloc wb (.cells #[.string ⟨#[]⟩, .string ⟨#[]⟩, .int .u8 0, .bool false] 28) bx (Array.getElem?_eq_some_iff.1 hx).1).trans hx
            have hq0 := hq
            replace hq := qalloc hq (.cells #[.string ⟨#[]⟩, .string ⟨#[]⟩, .int .u8 0, .bool false] 28)
            replace hb := hb.alloc hb.size (.cells #[.string ⟨#[]⟩, .string ⟨#[]⟩, .int .u8 0, .bool false] 28)
            have HYn := Lib.hid (qne_new (w := wb) (g := Z) (l := []) (most := 0) (F := F) hq0)
            have HY := Lib.hid (hq0.lt Z hq0.head)
            generalize hby : wb.heap.size = bY at hy HYn HY
            have c0 := cell_of_row _ (Z + 1) 1 _ _ _ hp
            simp only [List.getElem?_toArray, List.getElem?_cons_zero, List.getElem?_cons_succ] at c0
            go_wp2_with fail
            generalize wb.alloc (.cells #[.string ⟨#[]⟩, .string ⟨#[]⟩, .int .u8 0, .bool false] 28) = Wy at *
            clear hby hq0
            have hzx : Z ≠ bx := fun e => by have := HX.out; omega
            have hzy : Z ≠ bY := fun e => by have := HY.out; omega
            refine (qclear_any Z [] 0 F _ hq).mono ?_
            rintro e we ⟨rfl, hqe, hu⟩
            obtain ⟨hbe, hFe⟩ := upd_below hb (Nat.le_refl _) hF hu
            obtain ⟨hpe, hFpe⟩ := upd_at hu hp hFp
            obtain ⟨hxe, -⟩ := upd_at hu hx HXn.out
            obtain ⟨hye, -⟩ := upd_at hu hy HYn.out
            clear hu hq hb hF hp hFp hx hy c0
            have hp := hpe; have hx := hxe; have hy := hye; have hq := hqe; have hb := hbe
            clear hpe hxe hye hqe hbe
            have c0 := cell_of_row _ (Z + 1) 1 _ _ _ hp
            simp only [List.getElem?_toArray, List.getElem?_cons_zero, List.getElem?_cons_succ] at c0
            obtain ⟨x0, x1, x2, x3⟩ := cells4 hx
            obtain ⟨y0, y1, y2, y3⟩ := cells4 hy
            have h30 := And.intro c0 (And.intro x0 (And.intro x1 (And.intro x2 (And.intro x3 (And.intro y0 (And.intro y1 (And.intro y2 y3)))))))
            clear c0 x0 x1 x2 x3 y0 y1 y2 y3
            go_wp2_with fail
            go_region_held3 (fun w' => (w'.cell? ⟨Z + 1, 1, none⟩ = some (.pointer (some ⟨Z, 0, none⟩)) ∧ w'.cell? ⟨bx, 0, none⟩ = some (.string ⟨#[]⟩) ∧ w'.cell? ⟨bx, 1, none⟩ = some (.string ⟨#[]⟩) ∧ w'.cell? ⟨bx, 2, none⟩ = some (.int .u8 0) ∧ w'.cell? ⟨bx, 3, none⟩ = some (.bool false) ∧ w'.cell? ⟨bY, 0, none⟩ = some (.string ⟨#[]⟩) ∧ w'.cell? ⟨bY, 1, none⟩ = some (.string ⟨#[]⟩) ∧ w'.cell? ⟨bY, 2, none⟩ = some (.int .u8 0) ∧ w'.cell? ⟨bY, 3, none⟩ = some (.bool false))) (first | exact sC | exact sB | exact sA | go_keep) (first
                | (go_at_call 12; refine (message_any _ _).mono ?_; rintro e wc ⟨rfl, hka⟩; have hqa := qbelow (by exact hq) hka; have hba := bnext (by first | exact hb.drew | exact below_drewN hb _) (Nat.le_refl _) hka; have sA := s30_below (by exact h30) hka; have hpa := below_at (by exact hp) hka)
                | (go_at_call 11; refine (qpush_full Z [] 0 [Z] ⟨⟨#[97]⟩, ⟨#[]⟩, 0, false⟩ _ hqa rfl).mono ?_; rintro e wd ⟨rfl, hqb, hub⟩; have hbb := upd_below hba (Nat.le_refl _) hFe hub; have sB := s30_mod sA hub.1 (by simp) (by simpa using hzx.symm) (by simpa using hzy.symm); have hpb := upd_at hub hpa hFpe)
                | (go_at_call 9; refine (qroom_of 0 Z [] 0 [Z] _ ?_ rfl).mono ?_; exact hqb; rintro e w' ⟨rfl, n, rfl⟩)
                | (go_at_call 10; refine (qlen_of 0 Z [] 0 [Z] _ ?_ rfl).mono ?_; exact hqb; rintro e w' ⟨rfl, n', rfl⟩)
                | (go_at_call 13; refine (qall_empty Z 0 [Z] _ ?_).mono ?_; exact hqb; rintro e wf ⟨v, rfl, hown, hkd⟩; obtain ⟨av, cv, rfl, -⟩ := ownsRow_row hown; have hbd := bnext (by exact below_drewN hbb.1 _) (Nat.le_refl _) hkd; have sC := s30_below (by exact sB) hkd; have hpd := below_at (by exact hpb.1) hkd; have hqd := qbelow (by exact hqb) hkd))
            go_wp2_with fail
            go_roundw
            case rel => exact ⟨2, by go_num, by omega, hbd, hpd, [Z], hqd, hFpe, hFe⟩
            case measure => simp [intOf]
          · obtain rfl : j = 2 := by omega
            clear c0 c1 hp hq
            go_wp2_with fail
            refine (qnew_out (-9223372036854775808) _ (by omega)).mono ?_
            rintro e w' ⟨rfl, rfl⟩
            go_wp2_with fail
            refine (qnew_out 9223372036854775807 _ (by omega)).mono ?_
            rintro e w' ⟨rfl, rfl⟩
            go_wp2_with fail
            refine (awake_true _).mono ?_
            rintro e w7 ⟨rfl, hk⟩
            replace hb := bnext hb (Nat.le_refl _) hk
            clear hk
            go_wp2_with fail
            go_ret
            exact ⟨rfl, hb⟩
end Go.Proofs.Ytpladpcagdkhmaa
