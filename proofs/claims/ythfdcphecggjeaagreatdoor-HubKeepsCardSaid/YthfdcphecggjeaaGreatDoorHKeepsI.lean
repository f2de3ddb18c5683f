/- The hub's laws: HubKeeps walked. (Printed by gen_hkeeps.py.) -/
import Derived.Test.YthfdcphecggjeaaGreatDoorHOnce
import Derived.Deep.CutBlock
namespace Go.Proofs.YthfdcphecggjeaaGreatDoor
open Go Go.RowKit

noncomputable def keepsBlk (k : Nat) : Code := (Tryz.f8.body.bind (blockOf k)).getD .skip
noncomputable def keepsReg (k : Nat) : Code := (Tryz.f8.body.bind (regionOf k)).getD .skip
def isBack (f : Int) (h : HMail) : Bool := decide (h.kind ≠ 11) && decide (h.dest = f)
def manyN (f : Int) (H : List HMail) : Nat := (H.filter (isBack f)).length
theorem manyN_snoc (f : Int) (H : List HMail) (h : HMail) : manyN f (H ++ [h]) = manyN f H + (if isBack f h then 1 else 0) := by
  unfold manyN
  rw [List.filter_append, List.length_append]
  by_cases e : isBack f h = true <;> simp [e]
/-- does an item want an answer? -/
def asksB (n : Nat) (x : Item) : Bool := decide (5 ≤ x.kind) && decide (x.kind ≤ 7) && decide (0 ≤ x.frm) && decide (x.frm < n)
theorem one_asks {n : Nat} {x : Item} (s : HubS) (h : asksB n x = true) : manyN x.frm (oneM n x s).1 = 1 := by
  simp only [asksB, Bool.and_eq_true, decide_eq_true_eq] at h
  have hf : fits n x = true := by simp [fits]; omega
  by_cases k5 : x.kind = 5
  · rw [one_add hf s k5]; simp [manyN, isBack, backM]
  · by_cases k6 : x.kind = 6
    · rw [one_rem hf s k6]; simp [manyN, isBack, backM]
    · rw [one_route hf s (by omega)]
      show manyN x.frm (routeM n x s) = 1
      unfold routeM
      rw [manyN_snoc]
      have : manyN x.frm (sendM n x (toldG s.gs x.msg.k) 64) = 0 := by
        unfold manyN
        rw [List.length_eq_zero_iff, List.filter_eq_nil_iff]
        intro h hh
        obtain ⟨q, -, -, rfl⟩ := send_mem hh
        simp [isBack, toM]
      rw [this]
      simp [isBack, backM]
theorem one_noask {n : Nat} {x : Item} (s : HubS) (h : asksB n x = false) : (oneM n x s).1 = [] := by
  have : fits n x = false ∨ (x.kind ≠ 5 ∧ x.kind ≠ 6 ∧ x.kind ≠ 7) := by
    by_cases hf : fits n x = true
    · right
      have hf2 : 0 ≤ x.frm ∧ x.frm < n := by simpa [fits] using hf
      simp only [asksB, Bool.and_eq_false_iff, decide_eq_false_iff_not] at h
      omega
    · left; simpa using hf
  rw [one_none s this]
theorem one_back {n : Nat} {x : Item} {s : HubS} : ∀ h ∈ (oneM n x s).1, h.op = x.op ∧ h.client = x.client := by
  intro h hh
  unfold oneM at hh
  split at hh
  · cases hh
  · split at hh
    · rw [List.mem_singleton.1 hh]; exact ⟨rfl, rfl⟩
    · split at hh
      · rw [List.mem_singleton.1 hh]; exact ⟨rfl, rfl⟩
      · split at hh
        · unfold routeM at hh
          rcases List.mem_append.1 hh with hh | hh
          · obtain ⟨q, -, -, rfl⟩ := send_mem hh; exact ⟨rfl, rfl⟩
          · rw [List.mem_singleton.1 hh]; exact ⟨rfl, rfl⟩
        · cases hh
set_option maxRecDepth 100000 in
set_option maxHeartbeats 8000000 in
theorem keeps_inner (x : Item) (b o ln c j : Nat) (a1 : Option Addr) (c1 : Nat) (M : List Mail) (H : List HMail) (W : World) (hj : j < ln) (hx : W.rangeAt b (o + j * 38) x.cells) (hr : Row W a1 (mailsV M)) (hm : Mails W [] M H) (hb : ∀ h ∈ H, h.op = x.op ∧ h.client = x.client) (hl : H.length ≤ 100000)
    {c0 c2 c3 c4 c5 c6 c11 c12 c13 c14 c15 c16 c17 c18 c19 c20 c21 c22 c23 c24 c25 c26 c27 c28 c29 c30 c31 c32 c33 c34 c35 c36 c37 c38 c39 c40 c41 c42 c43 c44 c45 c46 c47 c48 c49 c50 c51 c52 c53 c54 c55 c56 c57 c58 c59 c60 c61 c62 c63 c64 c65 c66 c67 c68 c69 c70 c71 c72 c73 c74 c75 c76 c77 c78 c79 c80 c81 c82 c83 c84 c85 c86 c87 c88 c89 c90 c91 c92 c93 c94 c95 c96 c97 c98 c99 c100 c101 c102 c103 c104 c105 c106 c107 c108 c109 c110 c111 c112 c113 c114 c115 c116 c117 c118 c119 c120 c121 c122 c123 c124 c125 c126 c127 c128 c129 c130 c131 c132 c133 c134 c135 c136 c137 c138 c139 c140 c141 c142 c143 c144 c145 c146 c147 c148 c149 c150 c151 c152 c153 c154 c155 c156 c157 c158 c159 c160 c161 c162 c163 c164 c165 c166 c167 c168 c169 c170 c171 : Value} {Q : Exit → Act → World → Prop}
    (hQ : ∀ ⦃d4 d10 d11 d40 d41 d42 d43 d44 d45 d46 d47 d48 d49 d50 d51 d52 d53 d54 d55 d56 d57 d58 d59 d60 d61 d62 d63 d64 d65 d66 d67 d68 d69 d70 d71 d72 d73 d74 d75 d76 d77 d78 d79 d80 d81 d82 d83 d84 d85 d86 : Value⦄ (w' : World), Below W.heap.size W w' → Q .normal ⟨#[c0, .slice (some ⟨b, o, none⟩) ln c, c2, c3, d4, c5, c6, .int .i64 j, .slice a1 H.length c1, .int .i64 (manyN x.frm H), d10, d11, c12, c13, c14, c15, c16, c17, c18, c19, c20, c21, c22, c23, c24, c25, c26, c27, c28, c29, c30, c31, c32, c33, c34, c35, c36, c37, c38, c39, d40, d41, d42, d43, d44, d45, d46, d47, d48, d49, d50, d51, d52, d53, d54, d55, d56, d57, d58, d59, d60, d61, d62, d63, d64, d65, d66, d67, d68, d69, d70, d71, d72, d73, d74, d75, d76, d77, d78, d79, d80, d81, d82, d83, d84, d85, d86, c87, c88, c89, c90, c91, c92, c93, c94, c95, c96, c97, c98, c99, c100, c101, c102, c103, c104, c105, c106, c107, c108, c109, c110, c111, c112, c113, c114, c115, c116, c117, c118, c119, c120, c121, c122, c123, c124, c125, c126, c127, c128, c129, c130, c131, c132, c133, c134, c135, c136, c137, c138, c139, c140, c141, c142, c143, c144, c145, c146, c147, c148, c149, c150, c151, c152, c153, c154, c155, c156, c157, c158, c159, c160, c161, c162, c163, c164, c165, c166, c167, c168, c169, c170, c171], []⟩ w') :
    Code.wp Tryz.prog (keepsBlk 2) Q ⟨#[c0, .slice (some ⟨b, o, none⟩) ln c, c2, c3, c4, c5, c6, .int .i64 j, .slice a1 H.length c1, .int .i64 0, .int .i64 0, c11, c12, c13, c14, c15, c16, c17, c18, c19, c20, c21, c22, c23, c24, c25, c26, c27, c28, c29, c30, c31, c32, c33, c34, c35, c36, c37, c38, c39, c40, c41, c42, c43, c44, c45, c46, c47, c48, c49, c50, c51, c52, c53, c54, c55, c56, c57, c58, c59, c60, c61, c62, c63, c64, c65, c66, c67, c68, c69, c70, c71, c72, c73, c74, c75, c76, c77, c78, c79, c80, c81, c82, c83, c84, c85, c86, c87, c88, c89, c90, c91, c92, c93, c94, c95, c96, c97, c98, c99, c100, c101, c102, c103, c104, c105, c106, c107, c108, c109, c110, c111, c112, c113, c114, c115, c116, c117, c118, c119, c120, c121, c122, c123, c124, c125, c126, c127, c128, c129, c130, c131, c132, c133, c134, c135, c136, c137, c138, c139, c140, c141, c142, c143, c144, c145, c146, c147, c148, c149, c150, c151, c152, c153, c154, c155, c156, c157, c158, c159, c160, c161, c162, c163, c164, c165, c166, c167, c168, c169, c170, c171], []⟩ W := by
  dsimp only at hQ ⊢
  conv => arg 2; whnf
  have HX := Lib.hid hx
  have HR := Lib.hid hr
  have HM := Lib.hid hm
  have HB := Lib.hid hb
  have HQ := Lib.hid hQ
  have e1 := Lib.hid hm.len
  have hj0 : (0 : Int) ≤ j := by omega
  have hjl : (j : Int) < ln := by omega
  clear hx hr hm hb hQ
  go_wp2_with fail
  go_loopw [9, 10] (fun my i wr => ∃ k : Nat, i = .int .i64 k ∧ k ≤ H.length ∧ my = .int .i64 (manyN x.frm (H.take k)) ∧ manyN x.frm (H.take k) ≤ k ∧ Below W.heap.size W wr) (fun _ i _ => (H.length - intOf i).toNat)
  case atStart => exact ⟨0, rfl, by omega, by simp [manyN], by simp [manyN], Below.refl _ _⟩
  case round =>
    obtain ⟨k, rfl, hk, rfl, hle, hbl⟩ := hrel
    have HBL := Lib.hid hbl
    clear hbl
    by_cases hlt : k < H.length
    · have hk0 : (0 : Int) ≤ k := by omega
      have hkl : (k : Int) < H.length := by omega
      have hk1 : k < M.length := by rw [e1.out]; exact hlt
      obtain ⟨b1, o1, rfl, g1⟩ := row_mid (mk := Mail.cells) (m := 40) mail_len (HR.out.below HBL.out (Nat.le_refl _)) hk1 (by decide)
      obtain ⟨ma, mc, ca, cc, e2, -, -⟩ := HM.out.at hk1 hlt
      rw [e2] at g1
      have HN := Lib.hid (manyN_snoc x.frm (H.take k) H[k])
      rw [← List.take_succ_eq_append_getElem hlt] at HN
      obtain ⟨s1, s2⟩ := HB.out _ (List.getElem_mem hlt)
      have hx2 := item_at (range_below19 HX.out HBL.out)
      clear hk1 e2
      generalize H[k] = h at *
      have HIB : Hid (isBack x.frm h = (decide (h.kind ≠ 11) && decide (h.dest = x.frm))) := Lib.hid rfl
      generalize manyN x.frm (H.take k) = my at *
      have hd := (mail_c g1).dest
      have HIT := Lib.hid (mail_item g1)
      have HIL : Hid ((Tryz.prog.info? 36).map (·.size) = some (itemOf h ma mc ca cc).cells.length) := Lib.hid ((item_size _).trans (congrArg some List.size_toArray))
      have HIS := Lib.hid (item_size (itemOf h ma mc ca cc))
      have HI38 : Hid ((38 : Nat) = (itemOf h ma mc ca cc).cells.toArray.size) := Lib.hid rfl
      have HIO := Lib.hid (item_one (itemOf h ma mc ca cc))
      have hbw := low_alloc wr (.cells (itemOf h ma mc ca cc).cells.toArray 36)
      obtain ⟨y0, y1, y3, -, -, -, -, -, -⟩ := item_cells (heap_alloc_new wr (.cells (itemOf h ma mc ca cc).cells.toArray 36))
      have HBW := Lib.hid hbw
      have x1 := (hbw.cell (World.block_lt_of_cell? _ _ hx2.op)).trans hx2.op
      have x3 := (hbw.cell (World.block_lt_of_cell? _ _ hx2.client)).trans hx2.client
      have x36 := (hbw.cell (World.block_lt_of_cell? _ _ hx2.frm)).trans hx2.frm
      have d0 := (hbw.cell (World.block_lt_of_cell? _ _ hd)).trans hd
      have eo : (itemOf h ma mc ca cc).op = x.op := s1
      have ec : (itemOf h ma mc ca cc).client = x.client := s2
      have ek : (itemOf h ma mc ca cc).kind = h.kind := rfl
      rw [eo] at y1
      rw [ec] at y3
      rw [ek] at y0
      dsimp only at d0
      clear g1 hx2 hd hbw s1 s2 eo ec ek
      generalize (itemOf h ma mc ca cc).cells = XC at *
      generalize h.kind = hkd at *
      generalize h.dest = hde at *
      generalize x.frm = xf at *
      generalize x.op = xo at *
      generalize x.client = xc at *
      go_wp2_with (first
        | (refine wpList_loadMid rfl 36 _ rfl b1 (o1 + k * 40 + 2) rfl XC _ HIT.out Tryz.underlying36 rfl HIL.out _ rfl ?_)
        | (refine wpList_store_newTo rfl 36 _ _ rfl rfl wr.heap.size rfl XC.toArray _ rfl rfl HIS.out HI38.out HIO.out ?_)
        | fail)
      go_quiet (fail)
      have HBW2 : Hid (∀ n2, Below wr.heap.size wr ((wr.alloc (.cells XC.toArray 36)).drewN n2)) := Lib.hid (fun n2 => bnext HBW.out (Nat.le_refl _) (drewN_below _ n2))
      by_cases k11 : hkd = 11
      · have HIB2 := Lib.hid (HIB.out.trans (show (decide (hkd ≠ 11) && decide (hde = xf)) = false by simp [k11]))
        subst k11
        go_wp2_with fail
        go_quiet (fail)
        go_wp2_with fail
        go_roundw
        case rel => exact ⟨k + 1, by go_num, by omega, by rw [HN.out, HIB2.out]; rfl, by rw [HN.out, HIB2.out]; simp; omega, bnext HBL.out (Nat.le_refl _) (HBW2.out _)⟩
        case measure => simp [intOf]; omega
      · have hd1 : decide (hkd = 11) = false := by simpa using k11
        by_cases hdx : hde = xf
        · have HIB2 := Lib.hid (HIB.out.trans (show (decide (hkd ≠ 11) && decide (hde = xf)) = true by simp [k11, hdx]))
          subst hdx
          go_wp2_with fail
          go_quiet (fail)
          go_wp2_with fail
          go_roundw
          case rel => exact ⟨k + 1, by go_num, by omega, by rw [HN.out, HIB2.out]; simp, by rw [HN.out, HIB2.out]; simp; omega, bnext HBL.out (Nat.le_refl _) (HBW2.out _)⟩
          case measure => simp [intOf]; omega
        · have HIB2 := Lib.hid (HIB.out.trans (show (decide (hkd ≠ 11) && decide (hde = xf)) = false by simp [hdx]))
          have hd3 : (hde == xf) = false := by simpa using hdx
          clear hdx
          go_wp2_with fail
          go_quiet (fail)
          go_wp2_with fail
          go_roundw
          case rel => exact ⟨k + 1, by go_num, by omega, by rw [HN.out, HIB2.out]; rfl, by rw [HN.out, HIB2.out]; simp; omega, bnext HBL.out (Nat.le_refl _) (HBW2.out _)⟩
          case measure => simp [intOf]; omega
    · have hkl : ¬ (k : Int) < H.length := by omega
      obtain rfl : k = H.length := by omega
      rw [List.take_length] at *
      go_wp2_with fail
      exact HQ.out _ HBL.out
set_option maxRecDepth 100000 in
set_option maxHeartbeats 8000000 in
theorem keeps_asks (x : Item) (b o ln c j n : Nat) (W : World) (hj : j < ln) (hx : W.rangeAt b (o + j * 38) x.cells)
    {c2 c3 c4 c5 c6 c8 c9 c10 c11 c12 c13 c14 c15 c16 c17 c18 c19 c20 c21 c22 c23 c24 c25 c26 c27 c28 c29 c30 c31 c32 c33 c34 c35 c36 c37 c38 c39 c40 c41 c42 c43 c44 c45 c46 c47 c48 c49 c50 c51 c52 c53 c54 c55 c56 c57 c58 c59 c60 c61 c62 c63 c64 c65 c66 c67 c68 c69 c70 c71 c72 c73 c74 c75 c76 c77 c78 c79 c80 c81 c82 c83 c84 c85 c86 c87 c88 c89 c90 c91 c92 c93 c94 c95 c96 c97 c98 c99 c100 c101 c102 c103 c104 c105 c106 c107 c108 c109 c110 c111 c112 c113 c114 c115 c116 c117 c118 c119 c120 c121 c122 c123 c124 c125 c126 c127 c128 c129 c130 c131 c132 c133 c134 c135 c136 c137 c138 c139 c140 c141 c142 c143 c144 c145 c146 c147 c148 c149 c150 c151 c152 c153 c154 c155 c156 c157 c158 c159 c160 c161 c162 c163 c164 c165 c166 c167 c168 c169 c170 c171 : Value} {Q : Exit → Act → World → Prop}
    (hQ : ∀ ⦃d87 d88 d89 d90 d91 d92 d93 d94 d95 d96 d97 d98 d99 d100 d101 d102 d103 d104 d105 d106 d107 d108 d109 d110 d111 d112 d113 d114 d115 d116 d117 : Value⦄, Q .normal ⟨#[.int .i64 n, .slice (some ⟨b, o, none⟩) ln c, c2, c3, c4, c5, c6, .int .i64 j, c8, c9, c10, c11, .bool (asksB n x), c13, c14, c15, c16, c17, c18, c19, c20, c21, c22, c23, c24, c25, c26, c27, c28, c29, c30, c31, c32, c33, c34, c35, c36, c37, c38, c39, c40, c41, c42, c43, c44, c45, c46, c47, c48, c49, c50, c51, c52, c53, c54, c55, c56, c57, c58, c59, c60, c61, c62, c63, c64, c65, c66, c67, c68, c69, c70, c71, c72, c73, c74, c75, c76, c77, c78, c79, c80, c81, c82, c83, c84, c85, c86, d87, d88, d89, d90, d91, d92, d93, d94, d95, d96, d97, d98, d99, d100, d101, d102, d103, d104, d105, d106, d107, d108, d109, d110, d111, d112, d113, d114, d115, d116, d117, c118, c119, c120, c121, c122, c123, c124, c125, c126, c127, c128, c129, c130, c131, c132, c133, c134, c135, c136, c137, c138, c139, c140, c141, c142, c143, c144, c145, c146, c147, c148, c149, c150, c151, c152, c153, c154, c155, c156, c157, c158, c159, c160, c161, c162, c163, c164, c165, c166, c167, c168, c169, c170, c171], []⟩ W) :
    Code.wp Tryz.prog (keepsReg 18) Q ⟨#[.int .i64 n, .slice (some ⟨b, o, none⟩) ln c, c2, c3, c4, c5, c6, .int .i64 j, c8, c9, c10, c11, c12, c13, c14, c15, c16, c17, c18, c19, c20, c21, c22, c23, c24, c25, c26, c27, c28, c29, c30, c31, c32, c33, c34, c35, c36, c37, c38, c39, c40, c41, c42, c43, c44, c45, c46, c47, c48, c49, c50, c51, c52, c53, c54, c55, c56, c57, c58, c59, c60, c61, c62, c63, c64, c65, c66, c67, c68, c69, c70, c71, c72, c73, c74, c75, c76, c77, c78, c79, c80, c81, c82, c83, c84, c85, c86, c87, c88, c89, c90, c91, c92, c93, c94, c95, c96, c97, c98, c99, c100, c101, c102, c103, c104, c105, c106, c107, c108, c109, c110, c111, c112, c113, c114, c115, c116, c117, c118, c119, c120, c121, c122, c123, c124, c125, c126, c127, c128, c129, c130, c131, c132, c133, c134, c135, c136, c137, c138, c139, c140, c141, c142, c143, c144, c145, c146, c147, c148, c149, c150, c151, c152, c153, c154, c155, c156, c157, c158, c159, c160, c161, c162, c163, c164, c165, c166, c167, c168, c169, c170, c171], []⟩ W := by
  dsimp only at hQ ⊢
  conv => arg 2; whnf
  have hj0 : (0 : Int) ≤ j := by omega
  have hjl : (j : Int) < ln := by omega
  obtain ⟨x0, -, -, -, -, -, x36⟩ := item_at hx
  have HQ : ∀ bb, asksB n x = bb → Hid (∀ ⦃d87 d88 d89 d90 d91 d92 d93 d94 d95 d96 d97 d98 d99 d100 d101 d102 d103 d104 d105 d106 d107 d108 d109 d110 d111 d112 d113 d114 d115 d116 d117 : Value⦄, Q .normal ⟨#[.int .i64 n, .slice (some ⟨b, o, none⟩) ln c, c2, c3, c4, c5, c6, .int .i64 j, c8, c9, c10, c11, .bool bb, c13, c14, c15, c16, c17, c18, c19, c20, c21, c22, c23, c24, c25, c26, c27, c28, c29, c30, c31, c32, c33, c34, c35, c36, c37, c38, c39, c40, c41, c42, c43, c44, c45, c46, c47, c48, c49, c50, c51, c52, c53, c54, c55, c56, c57, c58, c59, c60, c61, c62, c63, c64, c65, c66, c67, c68, c69, c70, c71, c72, c73, c74, c75, c76, c77, c78, c79, c80, c81, c82, c83, c84, c85, c86, d87, d88, d89, d90, d91, d92, d93, d94, d95, d96, d97, d98, d99, d100, d101, d102, d103, d104, d105, d106, d107, d108, d109, d110, d111, d112, d113, d114, d115, d116, d117, c118, c119, c120, c121, c122, c123, c124, c125, c126, c127, c128, c129, c130, c131, c132, c133, c134, c135, c136, c137, c138, c139, c140, c141, c142, c143, c144, c145, c146, c147, c148, c149, c150, c151, c152, c153, c154, c155, c156, c157, c158, c159, c160, c161, c162, c163, c164, c165, c166, c167, c168, c169, c170, c171], []⟩ W) := fun bb e => by subst e; exact Lib.hid hQ
  clear hx hQ
  have HK : Hid (asksB n x = (decide (5 ≤ x.kind) && decide (x.kind ≤ 7) && decide (0 ≤ x.frm) && decide (x.frm < n))) := Lib.hid rfl
  generalize x.kind = kd at *
  generalize x.frm = xf at *
  by_cases h1 : (5 : Int) ≤ kd
  · by_cases h2 : kd ≤ 7
    · by_cases h3 : (0 : Int) ≤ xf
      · by_cases h4 : xf < n
        · have HR := HQ true (by rw [HK.out]; simp [h1, h2, h3, h4])
          clear HQ HK
          go_wp2_with fail
          apply HR.out
        · have HR := HQ false (by rw [HK.out]; simp [h4])
          clear HQ HK
          go_wp2_with fail
          apply HR.out
      · have HR := HQ false (by rw [HK.out]; simp [h3])
        clear HQ HK
        go_wp2_with fail
        apply HR.out
    · have HR := HQ false (by rw [HK.out]; simp [h2])
      clear HQ HK
      go_wp2_with fail
      apply HR.out
  · have HR := HQ false (by rw [HK.out]; simp [h1])
    clear HQ HK
    go_wp2_with fail
    apply HR.out
end Go.Proofs.YthfdcphecggjeaaGreatDoor
