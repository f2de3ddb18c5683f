/- InOnce walked. -/
import Derived.Test.YtjfmnlhbodekaaaIApart
import Derived.Laws.MakeOwn
namespace Go.Proofs.Ytjfmnlhbodekaaa
open Go Go.RowKit Go.Maps

theorem T_bool : ElemT Try.prog 42 4 (.bool false) 1 1 := ⟨Try.underlying42, by kernel_rfl, rfl, by decide⟩
/-- 'make([]T, n)' of one-cell elements -/
theorem wpList_full {P : Program} {t e : TypeId} {z : Value} {bytes : Nat} (E : ElemT P t e z 1 bytes) (hz1 : z.cells = #[z]) {w0 w : World} {B : Nat} (hbel : Below B w0 w) (hB : B ≤ w.heap.size)
    {ops : Array Oper} {rest : List Oper} {o : Oper} {a : Act} {Q : Exit → Act → World → Prop} {l c : Operand} {kl kc : IntKind} {n : Nat}
    (hgd : o.guard = none) (ho : o.op = Op.makeSlice t l c) (hl : a.eval l = .int kl n) (hc : a.eval c = .int kc n) (hCm : n * bytes ≤ 140737488355328) (hCn : n < 140737488355328)
    (h : ∀ w' cur, w'.heap[w.heap.size]? = some (.cells cur e (0, 0)) → cur.size = n → (∀ i, i < n → cur[i]? = some z) → Below B w0 w' → w'.heap.size = w.heap.size + 1 → Below w.heap.size w w' → wpList P ops Q rest (a.put o.dst (.slice (some ⟨w.heap.size, 0, none⟩) n n)) w') : wpList P ops Q (o :: rest) a w := by
  obtain ⟨i0, hi, hz0, hs, hz2⟩ := info_parts E.hi
  refine wpList_plain hgd fun K hK => ?_
  have hb : (i0.bytes : Int) * n ≤ 281474976710656 := by
    rw [hz2]
    have : ((n * bytes : Nat) : Int) ≤ 140737488355328 := Int.ofNat_le.2 hCm
    rw [Int.natCast_mul] at this
    rw [Int.mul_comm]; omega
  have hrun := run_make (P := P) w t e i0 z E.ht hi hz0 kl kc n n (by omega) (by omega) hb (by omega)
  unfold Oper.wp execOp
  simp only [ho, Sem.run_bind, Sem.run_pure, Result.andThen_ok, hl, hc, hrun]
  refine hK _ _ ?_
  simp only [Int.toNat_natCast]
  refine h _ _ (heap_alloc_new _ _) (by simp [size_madeCells, hs]) (fun i hin => ?_) (hbel.alloc hB _) (by simp) ((Below.refl _ _).alloc (Nat.le_refl _) _)
  simp [madeCells, hs, hin, hz1, Nat.mod_one]

/-- a row of bools: which numbers are on the list -/
def Bools (w : World) (cb : Nat) (q : List Int) : Prop := ∃ cur, w.heap[cb]? = some (.cells cur 4 (0, 0)) ∧ cur.size = 65536 ∧ ∀ z : Nat, z < 65536 → cur[z]? = some (.bool (decide ((z : Int) ∈ q)))
theorem Bools.below {w w' : World} {cb : Nat} {q : List Int} (h : Bools w cb q) (hk : Below w.heap.size w w') : Bools w' cb q := by
  obtain ⟨cur, h1, h2⟩ := h
  exact ⟨cur, by rw [hk.block cb (Array.getElem?_eq_some_iff.1 h1).1]; exact h1, h2⟩
theorem Bools.upd {F F' : List Nat} {w w' : World} {cb : Nat} {q : List Int} (h : Bools w cb q) (hu : Upd F F' w w') (hF : cb ∉ F) : Bools w' cb q := by
  obtain ⟨cur, h1, h2⟩ := h
  exact ⟨cur, by rw [hu.1.block cb (Array.getElem?_eq_some_iff.1 h1).1 hF]; exact h1, h2⟩
theorem Bools.cell {w : World} {cb : Nat} {q : List Int} (h : Bools w cb q) {x : Int} (x0 : 0 ≤ x) (x1 : x ≤ 65535) : w.cell? ⟨cb, x.toNat, none⟩ = some (.bool (decide (x ∈ q))) ∧ w.frozen? ⟨cb, x.toNat, none⟩ = false := by
  obtain ⟨cur, h1, h2, h3⟩ := h
  have := cell_of_row w cb x.toNat _ _ _ h1
  rw [h3 x.toNat (by omega), Int.toNat_of_nonneg x0] at this
  exact ⟨this, frozen_of_row w cb _ _ _ h1⟩
theorem Bools.set {w : World} {cb : Nat} {q q' : List Int} (h : Bools w cb q) {x : Int} (x0 : 0 ≤ x) (x1 : x ≤ 65535) (b : Bool) (hb : decide (x ∈ q') = b) (hq : ∀ z, z ≠ x → (z ∈ q' ↔ z ∈ q)) : Bools (w.setCell ⟨cb, x.toNat, none⟩ (.bool b)) cb q' := by
  obtain ⟨cur, h1, h2, h3⟩ := h
  refine ⟨cur.setIfInBounds x.toNat (.bool b), ?_, by simpa using h2, fun z hz => ?_⟩
  · rw [heap_setCell_same w cb x.toNat _ _ _ h1]
  · rw [Array.getElem?_setIfInBounds]
    by_cases e : x.toNat = z
    · have ez : (z : Int) = x := by omega
      rw [if_pos e, if_pos (by omega), ez, hb]
    · have ez : (z : Int) ≠ x := by omega
      rw [if_neg e, h3 z hz]
      have := hq z ez
      by_cases hm : (z : Int) ∈ q <;> simp [hm, this.2, this]
theorem Bools.one {w0 w : World} {g cb : Nat} {l : List Int} {F : List Nat} {x : Int} {u : Value} (h : One w0 w g l F) (hn : cb ∉ F) (hB : w0.heap.size ≤ cb) : One w0 (w.setCell ⟨cb, x.toNat, none⟩ u) g l F := by
  have hm := (Mod.refl [cb] w).setCell (p := ⟨cb, x.toNat, none⟩) (.inl (by simp)) u
  exact ⟨h.c.mod hm (fun k hk he => by obtain rfl := List.mem_singleton.1 he; exact hn hk), h.fF, h.bel.trans (hm.below h.bel.size (fun k hk => by obtain rfl := List.mem_singleton.1 hk; exact hB))⟩
theorem One.drew {w0 w : World} {g : Nat} {l : List Int} {F : List Nat} (h : One w0 w g l F) : One w0 w.drew g l F := h.drewN 1
theorem Bools.drewN {w : World} {cb : Nat} {q : List Int} (h : Bools w cb q) (n : Nat) : Bools (w.drewN n) cb q := h
theorem Bools.drew {w : World} {cb : Nat} {q : List Int} (h : Bools w cb q) : Bools w.drew cb q := h
theorem not_bne {b c : Bool} (h : c = b) : (b != c) = false := by subst h; cases c <;> rfl

set_option maxRecDepth 100000 in
set_option maxHeartbeats 4000000 in
theorem once_true (a : Option Addr) (c : Nat) (l : List Act2) (w : World) (ha : Row w a (acts l)) (hok : ∀ d ∈ l, d.ok) :
    Calls Try.prog 5 #[.slice a l.length c] w fun e w' => e = .returned (.bool true) ∧ Below w.heap.size w w' := by
  have HA := Lib.hid ha
  clear ha
  by_cases hbig : (500 : Int) < l.length
  · skip
    go_enter Try.func5, Try.ntmps5
    go_wp2_with fail
    refine (awake_true _).mono ?_
    rintro e w7 ⟨rfl, hb⟩
    go_wp2_with fail
    go_ret
    exact ⟨rfl, hb⟩
  have hbig' : decide ((500 : Int) < l.length) = false := by simp [hbig]
  have hlen : l.length ≤ 500 := by omega
  clear hbig
  go_enter Try.func5, Try.ntmps5
  go_wp2_with fail
  refine (cnew _).mono ?_
  rintro e w1 ⟨g, F, rfl, hq, hu⟩
  obtain ⟨hb, hF⟩ := upd_below (Below.refl w.heap.size w) (Nat.le_refl _) (by simp) hu
  have hT : One w w1 g [] F := ⟨hq, hF, hb⟩
  clear hu hq hF hb
  go_wp2_with (first | (at_make; refine wpList_full T_bool rfl hT.bel hT.bel.size (n := 65536) rfl rfl rfl rfl (by decide) (by decide) ?_; intro w2 cur hcur hcs hcz hb2 hsz2 hk2) | fail)
  obtain ⟨cb, hcb⟩ : ∃ cb, w1.heap.size = cb := ⟨_, rfl⟩
  have hcF : cb ∉ F := fun h => by have := hT.c.lt cb h; omega
  have hcB : w.heap.size ≤ cb := by have := hT.bel.size; omega
  have hB : Bools w2 cb [] := ⟨cur, by rw [← hcb]; exact hcur, hcs, fun z hz => by rw [hcz z hz]; simp⟩
  replace hT := hT.below hk2
  rw [hcb]
  have HT := Lib.hid hT
  have HB := Lib.hid hB
  clear hcur hcs hcz hb2 hsz2 hk2 hcb hB hT
  go_wp2_with fail
  go_loopw [5, 6] (fun m i wr => ∃ (k : Nat) (p : List Int), i = .int .i64 k ∧ k ≤ l.length ∧ One w wr g p F ∧ Bools wr cb p ∧ m = .int .i64 p.length) (fun _ i _ => (l.length - intOf i).toNat)
  case atStart => exact ⟨0, [], rfl, by omega, HT.out, HB.out, rfl⟩
  case round =>
    obtain ⟨k, p, rfl, hk, hT, hB, rfl⟩ := hrel
    have hpl := hT.c.len
    by_cases hlt : k < l.length
    · have hk0 : (0 : Int) ≤ k := by omega
      have hkl : (k : Int) < l.length := by omega
      obtain ⟨b1, o1, rfl, k0, k1⟩ := acts_row (HA.out.below hT.bel (Nat.le_refl _)) (k := k) (d := l[k]) (by simp [hlt])
      have hd := hok l[k] (List.getElem_mem hlt)
      generalize l[k] = d at *
      obtain ⟨dk, x⟩ := d
      have z0 := hd.k0
      have z1 := hd.k1
      have x0 := hd.i0
      have x1 := hd.i1
      simp only at k0 k1 z0 z1 x0 x1
      have HS := Lib.hid hT.c.sorted
      have HZ := Lib.hid (zero_not hT.c)
      have HBB := Lib.hid hB
      clear hB hok HT HB
      by_cases h4 : dk % 8 < 4
      · by_cases hx : x = 0 ∨ x ∈ p
        · have HX := Lib.hid (show decide (x ≠ 0 ∧ x ∉ p) = false by simp; intro h1; exact hx.resolve_left h1)
          have HE := Lib.hid (show frs x p = p by unfold frs; rw [if_pos hx])
          have hxb : (x != 0) = true → decide (x ∈ p) = true := fun h => by simp at h; simp; exact hx.resolve_left h
          obtain ⟨b, hb⟩ : ∃ b, decide (x ∈ p) = b := ⟨_, rfl⟩
          rw [hb] at hxb
          have HBx := Lib.hid hb
          clear hb hx
          go_wp2_with fail
          refine (cfirst_u false g x p F _ hT.c x0 x1 HX.out).mono ?_
          rintro e w5 ⟨rfl, hq, hu⟩
          replace hT := hT.upd hq hu
          rw [HE.out] at hT
          have HB5 := Lib.hid (HBB.out.upd hu hcF)
          obtain ⟨s0, -⟩ := HB5.out.cell x0 x1
          rw [HBx.out] at s0
          clear hq hu HBB k0 k1
          cases b with
          | true =>
            go_wp2_with fail
            refine (cfirst_u false g x p F _ hT.c x0 x1 HX.out).mono ?_
            rintro e w6 ⟨rfl, hq, hu⟩
            replace hT := hT.upd hq hu
            rw [HE.out] at hT
            have HB6 := Lib.hid (HB5.out.upd hu hcF)
            clear hq hu HB5
            go_wp2_with fail
            go_roundw
            case rel => exact ⟨k + 1, p, by go_num, by omega, hT, HB6.out, rfl⟩
            case measure => simp [intOf]; omega
          | false =>
            have hxz : (x != 0) = false := by cases h : (x != 0) <;> simp_all
            clear hxb
            go_wp2_with fail
            refine (cfirst_u false g x p F _ hT.c x0 x1 HX.out).mono ?_
            rintro e w6 ⟨rfl, hq, hu⟩
            replace hT := hT.upd hq hu
            rw [HE.out] at hT
            have HB6 := Lib.hid (HB5.out.upd hu hcF)
            clear hq hu HB5
            go_wp2_with fail
            go_roundw
            case rel => exact ⟨k + 1, p, by go_num, by omega, hT, HB6.out, rfl⟩
            case measure => simp [intOf]; omega
        · have hx' : x ≠ 0 ∧ x ∉ p := ⟨fun e => hx (.inl e), fun e => hx (.inr e)⟩
          have HX := Lib.hid (show decide (x ≠ 0 ∧ x ∉ p) = true by simpa using hx')
          have HE := Lib.hid (show frs x p = ins x p by unfold frs; rw [if_neg hx])
          have HX2 := Lib.hid (show decide (x ≠ 0 ∧ x ∉ ins x p) = false by simp [mem_ins])
          have HE2 := Lib.hid (show frs x (ins x p) = ins x p by unfold frs; rw [if_pos (.inr ((mem_ins x x p).2 (.inl rfl)))])
          have HM := Lib.hid (show decide (x ∈ ins x p) = true by simp [mem_ins])
          have HL := Lib.hid (length_ins x p)
          have HBx := Lib.hid (show decide (x ∈ p) = false by simpa using hx'.2)
          have hxz : (x != 0) = true := by simpa using hx'.1
          clear hx hx'
          go_wp2_with fail
          refine (cfirst_u true g x p F _ hT.c x0 x1 HX.out).mono ?_
          rintro e w5 ⟨rfl, hq, hu⟩
          replace hT := hT.upd hq hu
          rw [HE.out] at hT
          have HB5 := Lib.hid (HBB.out.upd hu hcF)
          obtain ⟨s0, -⟩ := HB5.out.cell x0 x1
          rw [HBx.out] at s0
          clear hq hu HBB k0 k1
          go_wp2_with fail
          refine (cfirst_u false g x (ins x p) F _ hT.c x0 x1 HX2.out).mono ?_
          rintro e w6 ⟨rfl, hq, hu⟩
          replace hT := hT.upd hq hu
          rw [HE2.out] at hT
          have HB6 := Lib.hid (HB5.out.upd hu hcF)
          clear hq hu HB5 s0
          obtain ⟨s0, f0⟩ := HB6.out.cell x0 x1
          have hB7 := HB6.out.set x0 x1 true HM.out (fun z hz => by rw [mem_ins]; exact ⟨fun h => h.resolve_left hz, .inr⟩)
          have hT7 := Bools.one (x := x) (u := .bool true) hT hcF hcB
          have HB7 := Lib.hid hB7
          have HT7 := Lib.hid hT7
          clear hB7 hT7 hT HB6
          go_wp2_with fail
          go_roundw
          case rel => exact ⟨k + 1, ins x p, by go_num, by omega, HT7.out, HB7.out, by rw [HL.out]; go_num⟩
          case measure => simp [intOf]; omega
      · have h4d : decide (dk % 8 < 4) = false := by simpa using h4
        obtain ⟨b, hb⟩ : ∃ b, decide (x ∈ p) = b := ⟨_, rfl⟩
        have HBx := Lib.hid hb
        have HX2 := Lib.hid (show decide (x ∈ out x p) = false by simp [mem_out])
        have HE := Lib.hid (out_none (show x ∉ out x p by simp [mem_out]))
        have hne : (b != b) = false := by cases b <;> rfl
        clear hb
        obtain ⟨s0, -⟩ := HBB.out.cell x0 x1
        rw [HBx.out] at s0
        have x2 : x < 65536 := by omega
        go_wp2_with fail
        go_region_held3 (fun w' => w'.cell? ⟨cb, x.toNat, none⟩ = some (.bool b)) (first | assumption | go_keep) (first
          | (go_at_call 12; refine (cknows_any false g x _ F _ ?_ x0 x1 HX2.out).mono ?_; exact hT6.c; rintro e w7 ⟨rfl, hk7⟩; have hT7 := hT6.below hk7; have HB7 := HB6.below hk7; have sC := HBx.out ▸ (HB7.cell x0 x1).1)
          | (go_at_call 11; refine (crel_u false g x _ F _ ?_ x0 x1 HX2.out).mono ?_; exact hT5.c; rintro e w6 ⟨rfl, hq6, hu6⟩; rw [HE.out] at hq6; have hT6 := hT5.upd hq6 hu6; have HB6 := HB5.upd hu6 hcF; have sB := HBx.out ▸ (HB6.cell x0 x1).1)
          | (go_at_call 11; refine (crel_u b g x p F _ ?_ x0 x1 HBx.out).mono ?_; (first | exact hT.c | exact hT.drew.c); rintro e w5 ⟨rfl, hq5, hu5⟩; have hT5 := One.upd (by first | exact hT | exact hT.drew) hq5 hu5; have HB5 := Bools.upd (by first | exact HBB.out | exact HBB.out.drew) hu5 hcF; have sA := HBx.out ▸ (HB5.cell x0 x1).1))
        have HS7 := Lib.hid (HB7.cell x0 x1).2
        have HB7 := Lib.hid HB7
        have HL : Hid ((if b = true then (out x p).length + 1 else (out x p).length) = p.length) := Lib.hid (by
          have h := HBx.out
          cases b with
          | true => simpa using length_out HS.out (by simpa using h)
          | false => rw [out_none (by simpa using h)]; simp)
        have HBset : Hid (b = true → Bools (w7.setCell ⟨cb, x.toNat, none⟩ (.bool false)) cb (out x p)) := Lib.hid fun _ =>
          HB7.out.set x0 x1 false HX2.out (fun z hz => by rw [mem_out]; exact ⟨fun h => h.1, fun h => ⟨h, hz⟩⟩)
        have HBsame : Hid (b = false → Bools w7 cb (out x p)) := Lib.hid fun hb => by
          have h := HBx.out
          rw [hb] at h
          rw [out_none (by simpa using h)]; exact HB7.out
        have HT7 := Lib.hid hT7
        have HT8 := Lib.hid (Bools.one (x := x) (u := .bool false) hT7 hcF hcB)
        have hol : (out x p).length ≤ 65535 := hT7.c.len
        clear hT hq5 hu5 hT5 HB5 sA hq6 hu6 hT6 HB6 sB hk7 hT7 s0 hne HBB k0 k1 HE HX2 HBx HB7
        cases b with
        | true =>
          have hf := HS7.out
          obtain ⟨pl, hpl'⟩ : ∃ n, (out x p).length = n := ⟨_, rfl⟩
          have hpp : p.length = pl + 1 := by rw [← hpl']; simpa using HL.out.symm
          rw [hpp]
          have hpl1 : pl ≤ 65535 := by omega
          have HPL := Lib.hid hpl'
          clear HL hpl' hpp hpl
          go_wp2_with fail
          go_roundw
          case rel => exact ⟨k + 1, out x p, by go_num, by omega, HT8.out, HBset.out rfl, by rw [HPL.out]⟩
          case measure => simp [intOf]; omega
        | false =>
          go_wp2_with fail
          go_roundw
          case rel => exact ⟨k + 1, out x p, by go_num, by omega, HT7.out, HBsame.out rfl, by rw [show (out x p).length = p.length by simpa using HL.out]⟩
          case measure => simp [intOf]; omega
    · have hkl : ¬ (k : Int) < l.length := by omega
      clear HT HB
      go_wp2_with fail
      refine (copen_u g p F _ hT.c).mono ?_
      rintro e w5 ⟨a5, c5, rfl, -, hr5, hk5⟩
      have HBB := Lib.hid (hB.below hk5)
      have HRR := Lib.hid hr5
      have HS := Lib.hid hT.c.sorted
      have HG := Lib.hid hT.c.range
      have hb := (hT.below hk5).bel
      have HBL := Lib.hid hb
      clear hT hB hr5 hk5 hb hok
      go_wp2_with fail
      go_loopw [10] (fun i wr => ∃ (k : Nat), i = .int .i64 k ∧ k ≤ p.length ∧ ∃ n, wr = w5.drewN n) (fun i _ => (p.length - intOf i).toNat)
      case atStart => exact ⟨0, rfl, by omega, 0, rfl⟩
      case round =>
        obtain ⟨j, rfl, hj, nd, rfl⟩ := hrel
        by_cases hlt2 : j < p.length
        · have hj0 : (0 : Int) ≤ j := by omega
          have hjl : (j : Int) < p.length := by omega
          obtain ⟨b2, o2, rfl, j0⟩ := row_at HRR.out (k := j) (x := p[j]) (by simp [hlt2])
          have hy := HG.out p[j] (List.getElem_mem hlt2)
          obtain ⟨s0, -⟩ := HBB.out.cell (show 0 ≤ p[j] by omega) hy.2
          rw [show decide (p[j] ∈ p) = true by simp] at s0
          by_cases hz : j = 0
          · subst hz
            rw [Nat.add_zero] at j0
            generalize p[0] = y at *
            obtain ⟨y0, y1⟩ := hy
            have y2 : y < 65536 := by omega
            have y3 : 0 ≤ y := by omega
            go_wp2_with fail
            go_quiet (fail)
            go_wp2_with fail
            go_roundw
            case rel => exact ⟨1, by go_num, by omega, _, rfl⟩
            case measure => simp [intOf]; omega
          · obtain ⟨i, hi⟩ : ∃ i, j = i + 1 := ⟨j - 1, by omega⟩
            have hlt3 : i < p.length := by omega
            obtain ⟨b3, o3, he, i0⟩ := row_at HRR.out (k := i) (x := p[i]) (by simp [hlt3])
            cases he
            have hyz : p[i] < p[j] := List.pairwise_iff_getElem.1 HS.out i j hlt3 hlt2 (by omega)
            generalize p[j] = y at *
            generalize p[i] = z at *
            obtain ⟨y0, y1⟩ := hy
            have y2 : y < 65536 := by omega
            have y3 : 0 ≤ y := by omega
            have hge : decide (y ≤ z) = false := by simp; omega
            have hgt : decide ((0 : Int) < j) = true := by simp; omega
            have hgt2 : 0 < j := by omega
            have e0 : (0 : Int) ≤ (j : Int) - 1 := by omega
            have e00 : 1 ≤ j := by omega
            have e1 : (j : Int) - 1 < p.length := by omega
            have e2 : ((j : Int) - 1).toNat = i := by omega
            have e3 : IntKind.i64.wrap ((j : Int) - 1) = (j : Int) - 1 := w_i64 _ (by omega) (by omega)
            clear hi hyz
            go_wp2_with fail
            go_quiet (fail)
            go_wp2_with fail
            go_roundw
            case rel => exact ⟨j + 1, by go_num, by omega, _, rfl⟩
            case measure => simp [intOf]; omega
        · have hjl : ¬ (j : Int) < p.length := by omega
          have hb := below_drewN HBL.out nd
          clear HRR HBB
          generalize w5.drewN nd = w6 at *
          go_wp2_with fail
          refine (awake_true _).mono ?_
          rintro e w7 ⟨rfl, hk⟩
          replace hb := bnext hb (Nat.le_refl _) hk
          go_wp2_with fail
          go_ret
          exact ⟨rfl, hb⟩
end Go.Proofs.Ytjfmnlhbodekaaa
