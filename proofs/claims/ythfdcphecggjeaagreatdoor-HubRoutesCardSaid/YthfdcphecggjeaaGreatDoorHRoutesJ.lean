/- The hub's laws: HubRoutes, its loops over the hints, over who is told. (Printed by gen_hroutes.py.) -/
import Derived.Test.YthfdcphecggjeaaGreatDoorHRoutesI
import Derived.Test.YthfdcphecggjeaaGreatDoorHCount
import Derived.Test.YthfdcphecggjeaaGreatDoorQI
namespace Go.Proofs.YthfdcphecggjeaaGreatDoor
open Go Go.RowKit

theorem hints_rowC {w : World} {a : Option Addr} {l : List Hint} {k : Nat} (h : Row w a (hintsV l)) (hk : k < l.length) : ∃ b o, a = some ⟨b, o, none⟩ ∧ ∀ X, Below w.heap.size w X → X.cell? ⟨b, o + k * 2, none⟩ = some (.string ⟨l[k].1.toArray⟩) ∧ X.cell? ⟨b, o + k * 2 + 1, none⟩ = some (.string ⟨l[k].2.toArray⟩) := by
  obtain ⟨b, o, rfl, h1, h2⟩ := hints_row h hk
  exact ⟨b, o, rfl, fun X hX => ⟨(hX.cell (World.block_lt_of_cell? _ _ h1)).trans h1, (hX.cell (World.block_lt_of_cell? _ _ h2)).trans h2⟩⟩
set_option maxRecDepth 100000 in
set_option maxHeartbeats 8000000 in
theorem routes_hints (mt : ByteArray) (mb : Nat) (Gs : List Hint) (ah at1 : Option Addr) (hc tc : Nat) (TL : List Str) (W : World) (hT : Tabs W) (hmt : mt.size ≤ 300) (hg : ∀ g ∈ Gs, g.1.length ≤ 300 ∧ (matchB g.1 mt.data.toList = true → TL.count g.2 = 1)) (hl : Gs.length ≤ 1000) (hl2 : TL.length ≤ 10000)
    (m0 : W.cell? ⟨mb, 0, none⟩ = some (.string mt)) (hr : Row W ah (hintsV Gs)) (ht : Row W at1 (strs TL))
    {c0 c1 c2 c3 c4 c6 c7 c9 c10 c12 c13 c14 c16 c17 c18 c19 c20 c21 c22 c23 c24 c25 c26 c27 c28 c29 c30 c31 c32 c33 c34 c35 c36 c37 c38 c39 c40 c41 c42 c43 c44 c45 c46 c47 c48 c49 c50 c51 c52 c53 c54 c55 c56 c57 c58 c59 c60 c61 c62 c63 c64 c65 c66 c67 c68 c69 c70 c71 c72 c73 c74 c75 c76 c77 c78 c79 c80 c81 c82 c83 c84 c85 c86 c87 c88 c89 c90 c91 c92 c93 c94 c95 c96 c97 c98 c99 c100 c101 c102 c103 c104 c105 c106 c107 c108 c109 c110 c111 c112 c113 c114 c115 c116 c117 c118 c119 c120 c121 c122 c123 c124 c125 c126 c127 c128 c129 c130 c131 c132 c133 c134 c135 c136 c137 c138 c139 c140 c141 c142 c143 c144 c145 c146 c147 c148 c149 c150 c151 c152 c153 c154 c155 c156 c157 c158 c159 c160 c161 c162 c163 c164 c165 c166 c167 c168 c169 c170 c171 c172 c173 c174 c175 c176 c177 c178 c179 c180 c181 c182 c183 c184 c185 c186 c187 c188 c189 c190 c191 c192 c193 c194 c195 c196 c197 c198 c199 c200 c201 c202 c203 c204 c205 c206 c207 c208 c209 c210 c211 c212 c213 c214 c215 c216 c217 c218 c219 c220 c221 c222 c223 c224 c225 c226 c227 c228 c229 c230 c231 c232 c233 c234 c235 c236 c237 c238 c239 c240 c241 : Value} {Q : Exit → Act → World → Prop} (hQp : QuietP Q)
    (hQ : ∀ ⦃d6 d15 d171 d172 d173 d174 d175 d176 d177 d178 d179 d180 d181 d182 d183 d184 d185 d186 d187 d188 d189 d190 d191 d192 d193 d194 : Value⦄ (w' : World), Below W.heap.size W w' → Q .normal ⟨#[c0, c1, c2, c3, c4, .pointer (some ⟨mb, 0, none⟩), d6, c7, .slice ah Gs.length hc, c9, c10, .slice at1 TL.length tc, c12, c13, c14, d15, c16, c17, c18, c19, c20, c21, c22, c23, c24, c25, c26, c27, c28, c29, c30, c31, c32, c33, c34, c35, c36, c37, c38, c39, c40, c41, c42, c43, c44, c45, c46, c47, c48, c49, c50, c51, c52, c53, c54, c55, c56, c57, c58, c59, c60, c61, c62, c63, c64, c65, c66, c67, c68, c69, c70, c71, c72, c73, c74, c75, c76, c77, c78, c79, c80, c81, c82, c83, c84, c85, c86, c87, c88, c89, c90, c91, c92, c93, c94, c95, c96, c97, c98, c99, c100, c101, c102, c103, c104, c105, c106, c107, c108, c109, c110, c111, c112, c113, c114, c115, c116, c117, c118, c119, c120, c121, c122, c123, c124, c125, c126, c127, c128, c129, c130, c131, c132, c133, c134, c135, c136, c137, c138, c139, c140, c141, c142, c143, c144, c145, c146, c147, c148, c149, c150, c151, c152, c153, c154, c155, c156, c157, c158, c159, c160, c161, c162, c163, c164, c165, c166, c167, c168, c169, c170, d171, d172, d173, d174, d175, d176, d177, d178, d179, d180, d181, d182, d183, d184, d185, d186, d187, d188, d189, d190, d191, d192, d193, d194, c195, c196, c197, c198, c199, c200, c201, c202, c203, c204, c205, c206, c207, c208, c209, c210, c211, c212, c213, c214, c215, c216, c217, c218, c219, c220, c221, c222, c223, c224, c225, c226, c227, c228, c229, c230, c231, c232, c233, c234, c235, c236, c237, c238, c239, c240, c241], []⟩ w') :
    Code.wp Tryz.prog (routesBlk 4) Q ⟨#[c0, c1, c2, c3, c4, .pointer (some ⟨mb, 0, none⟩), c6, c7, .slice ah Gs.length hc, c9, c10, .slice at1 TL.length tc, c12, c13, c14, .int .i64 0, c16, c17, c18, c19, c20, c21, c22, c23, c24, c25, c26, c27, c28, c29, c30, c31, c32, c33, c34, c35, c36, c37, c38, c39, c40, c41, c42, c43, c44, c45, c46, c47, c48, c49, c50, c51, c52, c53, c54, c55, c56, c57, c58, c59, c60, c61, c62, c63, c64, c65, c66, c67, c68, c69, c70, c71, c72, c73, c74, c75, c76, c77, c78, c79, c80, c81, c82, c83, c84, c85, c86, c87, c88, c89, c90, c91, c92, c93, c94, c95, c96, c97, c98, c99, c100, c101, c102, c103, c104, c105, c106, c107, c108, c109, c110, c111, c112, c113, c114, c115, c116, c117, c118, c119, c120, c121, c122, c123, c124, c125, c126, c127, c128, c129, c130, c131, c132, c133, c134, c135, c136, c137, c138, c139, c140, c141, c142, c143, c144, c145, c146, c147, c148, c149, c150, c151, c152, c153, c154, c155, c156, c157, c158, c159, c160, c161, c162, c163, c164, c165, c166, c167, c168, c169, c170, c171, c172, c173, c174, c175, c176, c177, c178, c179, c180, c181, c182, c183, c184, c185, c186, c187, c188, c189, c190, c191, c192, c193, c194, c195, c196, c197, c198, c199, c200, c201, c202, c203, c204, c205, c206, c207, c208, c209, c210, c211, c212, c213, c214, c215, c216, c217, c218, c219, c220, c221, c222, c223, c224, c225, c226, c227, c228, c229, c230, c231, c232, c233, c234, c235, c236, c237, c238, c239, c240, c241], []⟩ W := by
  dsimp only at hQ ⊢
  conv => arg 2; whnf
  have HQ := Lib.hid hQ
  have HG := Lib.hid hg
  have HR := Lib.hid hr
  have HTL := Lib.hid ht
  have HT := Lib.hid hT
  have HM : Hid (∀ X, Below W.heap.size W X → X.cell? ⟨mb, 0, none⟩ = some (.string mt)) := Lib.hid (fun X hX => (hX.cell (World.block_lt_of_cell? _ _ m0)).trans m0)
  clear hQ hg hr ht hT m0
  go_wp2_with fail
  go_loopw [15] (fun i wr => ∃ k : Nat, i = .int .i64 k ∧ k ≤ Gs.length ∧ Below W.heap.size W wr) (fun i _ => (Gs.length - intOf i).toNat)
  case atStart => exact ⟨0, rfl, by omega, Below.refl _ _⟩
  case round =>
    obtain ⟨k, rfl, hk, hbl⟩ := hrel
    have HBL := Lib.hid hbl
    clear hbl
    by_cases hlt : k < Gs.length
    · have hk0 : (0 : Int) ≤ k := by omega
      have hkl : (k : Int) < Gs.length := by omega
      obtain ⟨b, o, rfl, hcc⟩ := hints_rowC (HR.out.below HBL.out (Nat.le_refl _)) hlt
      obtain ⟨g1, g2⟩ := HG.out _ (List.getElem_mem hlt)
      have HCC := Lib.hid hcc
      clear hcc
      generalize Gs[k] = g at *
      obtain ⟨f, c⟩ := g
      dsimp only at *
      have HMA := Lib.hid (match_any ⟨f.toArray⟩ mt wr.drew ((HT.out.below HBL.out).below (Below.refl _ _).drew) (by have : (⟨f.toArray⟩ : ByteArray).size = f.length := (by show f.toArray.size = _; simp); omega) (by omega))
      have hs1 : (⟨f.toArray⟩ : ByteArray).data.toList = f := by simp
      rw [hs1] at HMA
      obtain ⟨bm, hbm⟩ : ∃ bm, matchB f mt.data.toList = bm := ⟨_, rfl⟩
      rw [hbm] at HMA g2
      clear hs1 hbm
      have HSX : Hid (∀ X, Below wr.heap.size wr X → X.cell? ⟨b, o + k * 2, none⟩ = some (.string ⟨f.toArray⟩) ∧ X.cell? ⟨b, o + k * 2 + 1, none⟩ = some (.string ⟨c.toArray⟩) ∧ X.cell? ⟨mb, 0, none⟩ = some (.string mt)) := Lib.hid (fun X hX => ⟨(HCC.out X hX).1, (HCC.out X hX).2, HM.out X (bnext HBL.out (Nat.le_refl _) hX)⟩)
      go_wp2_with fail
      refine wp_region_held_drew (S := fun X => X.cell? ⟨b, o + k * 2, none⟩ = some (.string ⟨f.toArray⟩) ∧ X.cell? ⟨b, o + k * 2 + 1, none⟩ = some (.string ⟨c.toArray⟩) ∧ X.cell? ⟨mb, 0, none⟩ = some (.string mt)) (by kernel_rfl) (HSX.out _ (Below.refl _ _).drew) (fun hHeld => ?_)
      refine wpAnyH_take (i := 0) (v := ?_) rfl (by kernel_rfl) (by kernel_rfl) (by kernel_rfl) (fun _ _ _ h => hQp _ _ _ _ h rfl) (Or.inl ⟨rfl, ?_⟩) hHeld ?_
      rotate_left
      · intro w0 hS0
        try dsimp only at hS0
        go_simp
        try with_reducible rfl
      simp only [List.getElem_toArray, List.getElem_cons_zero, Act.put, List.setIfInBounds_toArray, List.set_cons_zero, List.set_cons_succ]
      refine wpAnyH_take (i := 1) (v := ?_) rfl (by kernel_rfl) (by kernel_rfl) (by kernel_rfl) (fun _ _ _ h => hQp _ _ _ _ h rfl) (Or.inl ⟨rfl, ?_⟩) hHeld ?_
      rotate_left
      · intro w0 hS0
        try dsimp only at hS0
        go_simp
        try with_reducible rfl
      simp only [List.getElem_toArray, List.getElem_cons_zero, List.getElem_cons_succ, Act.put, List.setIfInBounds_toArray, List.set_cons_zero, List.set_cons_succ]
      refine wpAnyH_take (i := 2) (v := ?_) rfl (by kernel_rfl) (by kernel_rfl) (by kernel_rfl) (fun _ _ _ h => hQp _ _ _ _ h rfl) (Or.inl ⟨rfl, ?_⟩) hHeld ?_
      rotate_left
      · intro w0 hS0
        try dsimp only at hS0
        go_simp
        try with_reducible rfl
      simp only [List.getElem_toArray, List.getElem_cons_zero, List.getElem_cons_succ, Act.put, List.setIfInBounds_toArray, List.set_cons_zero, List.set_cons_succ]
      refine wpAnyH_take (i := 3) (v := ?_) rfl (by kernel_rfl) (by kernel_rfl) (by kernel_rfl) (fun _ _ _ h => hQp _ _ _ _ h rfl) (Or.inl ⟨rfl, ?_⟩) hHeld ?_
      rotate_left
      · intro w0 hS0
        try dsimp only at hS0
        go_simp
        try with_reducible rfl
      simp only [List.getElem_toArray, List.getElem_cons_zero, List.getElem_cons_succ, Act.put, List.setIfInBounds_toArray, List.set_cons_zero, List.set_cons_succ]
      refine wpAnyH_take (i := 4) (v := ?_) rfl (by kernel_rfl) (by kernel_rfl) (by kernel_rfl) (fun _ _ _ h => hQp _ _ _ _ h rfl) (Or.inl ⟨rfl, ?_⟩) hHeld ?_
      rotate_left
      · intro w0 hS0
        try dsimp only at hS0
        go_simp
        try with_reducible rfl
      simp only [List.getElem_toArray, List.getElem_cons_zero, List.getElem_cons_succ, Act.put, List.setIfInBounds_toArray, List.set_cons_zero, List.set_cons_succ]
      refine wpAnyH_take (i := 5) (v := ?_) rfl (by kernel_rfl) (by kernel_rfl) (by kernel_rfl) (fun _ _ _ h => hQp _ _ _ _ h rfl) (Or.inl ⟨rfl, ?_⟩) hHeld ?_
      rotate_left
      · intro w0 hS0
        try dsimp only at hS0
        go_simp
        try with_reducible rfl
      simp only [List.getElem_toArray, List.getElem_cons_zero, List.getElem_cons_succ, Act.put, List.setIfInBounds_toArray, List.set_cons_zero, List.set_cons_succ]
      refine wpAnyH_take (i := 6) (v := ?_) rfl (by kernel_rfl) (by kernel_rfl) (by kernel_rfl) (fun _ _ _ h => hQp _ _ _ _ h rfl) (Or.inl ⟨rfl, ?_⟩) hHeld ?_
      rotate_left
      · intro w0 hS0
        try dsimp only at hS0
        go_simp
        try with_reducible rfl
      simp only [List.getElem_toArray, List.getElem_cons_zero, List.getElem_cons_succ, Act.put, List.setIfInBounds_toArray, List.set_cons_zero, List.set_cons_succ]
      refine wpAnyH_ready (rs := [7]) (by kernel_rfl) (by simp) ?_
      refine AllReadyH.cons rfl (fun K hK => ?_) AllReadyH.nil
      rw [if_pos (by rfl)]
      go_simp
      go_at_call 15
      refine HMA.out.mono ?_
      rintro e w2 ⟨rfl, hk2⟩
      have HB2 : Hid (Below wr.heap.size wr w2) := Lib.hid ((Below.refl wr.heap.size wr).drew.trans hk2)
      clear hk2
      refine hK.out _ _ (HSX.out _ HB2.out) (fun hHeld => ?_)
      cases bm with
      | false =>
        clear g2
        refine wpAnyH_take (i := 8) (v := ?_) rfl (by kernel_rfl) (by kernel_rfl) (by kernel_rfl) (fun _ _ _ h => hQp _ _ _ _ h rfl) (Or.inl ⟨rfl, ?_⟩) hHeld ?_
        rotate_left
        · intro w0 hS0
          try dsimp only at hS0
          go_simp
          try with_reducible rfl
        simp only [List.getElem_toArray, List.getElem_cons_zero, List.getElem_cons_succ, Act.put, List.setIfInBounds_toArray, List.set_cons_zero, List.set_cons_succ]
        refine wpAnyH_take (i := 9) (v := undef) rfl (by kernel_rfl) (by kernel_rfl) (by kernel_rfl) (fun _ _ _ h => hQp _ _ _ _ h rfl) (Or.inr ⟨rfl, rfl⟩) hHeld ?_
        simp only [List.getElem_toArray, List.getElem_cons_zero, List.getElem_cons_succ, Act.put, List.setIfInBounds_toArray, List.set_cons_zero, List.set_cons_succ]
        refine wpAnyH_take (i := 10) (v := undef) rfl (by kernel_rfl) (by kernel_rfl) (by kernel_rfl) (fun _ _ _ h => hQp _ _ _ _ h rfl) (Or.inr ⟨rfl, rfl⟩) hHeld ?_
        simp only [List.getElem_toArray, List.getElem_cons_zero, List.getElem_cons_succ, Act.put, List.setIfInBounds_toArray, List.set_cons_zero, List.set_cons_succ]
        refine wpAnyH_take (i := 11) (v := undef) rfl (by kernel_rfl) (by kernel_rfl) (by kernel_rfl) (fun _ _ _ h => hQp _ _ _ _ h rfl) (Or.inr ⟨rfl, rfl⟩) hHeld ?_
        simp only [List.getElem_toArray, List.getElem_cons_zero, List.getElem_cons_succ, Act.put, List.setIfInBounds_toArray, List.set_cons_zero, List.set_cons_succ]
        refine wpAnyH_take (i := 12) (v := undef) rfl (by kernel_rfl) (by kernel_rfl) (by kernel_rfl) (fun _ _ _ h => hQp _ _ _ _ h rfl) (Or.inr ⟨rfl, rfl⟩) hHeld ?_
        simp only [List.getElem_toArray, List.getElem_cons_zero, List.getElem_cons_succ, Act.put, List.setIfInBounds_toArray, List.set_cons_zero, List.set_cons_succ]
        refine wpAnyH_take (i := 13) (v := undef) rfl (by kernel_rfl) (by kernel_rfl) (by kernel_rfl) (fun _ _ _ h => hQp _ _ _ _ h rfl) (Or.inr ⟨rfl, rfl⟩) hHeld ?_
        simp only [List.getElem_toArray, List.getElem_cons_zero, List.getElem_cons_succ, Act.put, List.setIfInBounds_toArray, List.set_cons_zero, List.set_cons_succ]
        refine wpAnyH_take (i := 14) (v := undef) rfl (by kernel_rfl) (by kernel_rfl) (by kernel_rfl) (fun _ _ _ h => hQp _ _ _ _ h rfl) (Or.inr ⟨rfl, rfl⟩) hHeld ?_
        simp only [List.getElem_toArray, List.getElem_cons_zero, List.getElem_cons_succ, Act.put, List.setIfInBounds_toArray, List.set_cons_zero, List.set_cons_succ]
        refine wpAnyH_take (i := 15) (v := undef) rfl (by kernel_rfl) (by kernel_rfl) (by kernel_rfl) (fun _ _ _ h => hQp _ _ _ _ h rfl) (Or.inr ⟨rfl, rfl⟩) hHeld ?_
        simp only [List.getElem_toArray, List.getElem_cons_zero, List.getElem_cons_succ, Act.put, List.setIfInBounds_toArray, List.set_cons_zero, List.set_cons_succ]
        refine wpAnyH_take (i := 16) (v := undef) rfl (by kernel_rfl) (by kernel_rfl) (by kernel_rfl) (fun _ _ _ h => hQp _ _ _ _ h rfl) (Or.inr ⟨rfl, rfl⟩) hHeld ?_
        simp only [List.getElem_toArray, List.getElem_cons_zero, List.getElem_cons_succ, Act.put, List.setIfInBounds_toArray, List.set_cons_zero, List.set_cons_succ]
        refine wpAnyH_take (i := 17) (v := ?_) rfl (by kernel_rfl) (by kernel_rfl) (by kernel_rfl) (fun _ _ _ h => hQp _ _ _ _ h rfl) (Or.inl ⟨rfl, ?_⟩) hHeld ?_
        rotate_left
        · intro w0 hS0
          try dsimp only at hS0
          go_simp
          try with_reducible rfl
        simp only [List.getElem_toArray, List.getElem_cons_zero, List.getElem_cons_succ, Act.put, List.setIfInBounds_toArray, List.set_cons_zero, List.set_cons_succ]
        refine wpAnyH_done (by kernel_rfl) ?_ _
        clear hHeld
        go_wp2_with fail
        go_roundw
        case rel => exact ⟨k + 1, by go_num, by omega, bnext HBL.out (Nat.le_refl _) HB2.out⟩
        case measure => simp [intOf]; omega
      | true =>
        have hcn := g2 rfl
        have HCN := count19 at1 tc TL ⟨c.toArray⟩ w2 (HTL.out.below (bnext HBL.out (Nat.le_refl _) HB2.out) (Nat.le_refl _)) (by omega)
        have hs2 : (⟨c.toArray⟩ : ByteArray).data.toList = c := by simp
        rw [hs2, hcn] at HCN
        replace HCN := Lib.hid HCN
        clear g2 hcn hs2
        refine wpAnyH_take (i := 8) (v := ?_) rfl (by kernel_rfl) (by kernel_rfl) (by kernel_rfl) (fun _ _ _ h => hQp _ _ _ _ h rfl) (Or.inl ⟨rfl, ?_⟩) hHeld ?_
        rotate_left
        · intro w0 hS0
          try dsimp only at hS0
          go_simp
          try with_reducible rfl
        simp only [List.getElem_toArray, List.getElem_cons_zero, List.getElem_cons_succ, Act.put, List.setIfInBounds_toArray, List.set_cons_zero, List.set_cons_succ]
        refine wpAnyH_take (i := 9) (v := ?_) rfl (by kernel_rfl) (by kernel_rfl) (by kernel_rfl) (fun _ _ _ h => hQp _ _ _ _ h rfl) (Or.inl ⟨rfl, ?_⟩) hHeld ?_
        rotate_left
        · intro w0 hS0
          try dsimp only at hS0
          go_simp
          try with_reducible rfl
        simp only [List.getElem_toArray, List.getElem_cons_zero, List.getElem_cons_succ, Act.put, List.setIfInBounds_toArray, List.set_cons_zero, List.set_cons_succ]
        refine wpAnyH_take (i := 10) (v := ?_) rfl (by kernel_rfl) (by kernel_rfl) (by kernel_rfl) (fun _ _ _ h => hQp _ _ _ _ h rfl) (Or.inl ⟨rfl, ?_⟩) hHeld ?_
        rotate_left
        · intro w0 hS0
          try dsimp only at hS0
          go_simp
          try with_reducible rfl
        simp only [List.getElem_toArray, List.getElem_cons_zero, List.getElem_cons_succ, Act.put, List.setIfInBounds_toArray, List.set_cons_zero, List.set_cons_succ]
        refine wpAnyH_take (i := 11) (v := ?_) rfl (by kernel_rfl) (by kernel_rfl) (by kernel_rfl) (fun _ _ _ h => hQp _ _ _ _ h rfl) (Or.inl ⟨rfl, ?_⟩) hHeld ?_
        rotate_left
        · intro w0 hS0
          try dsimp only at hS0
          go_simp
          try with_reducible rfl
        simp only [List.getElem_toArray, List.getElem_cons_zero, List.getElem_cons_succ, Act.put, List.setIfInBounds_toArray, List.set_cons_zero, List.set_cons_succ]
        refine wpAnyH_take (i := 12) (v := ?_) rfl (by kernel_rfl) (by kernel_rfl) (by kernel_rfl) (fun _ _ _ h => hQp _ _ _ _ h rfl) (Or.inl ⟨rfl, ?_⟩) hHeld ?_
        rotate_left
        · intro w0 hS0
          try dsimp only at hS0
          go_simp
          try with_reducible rfl
        simp only [List.getElem_toArray, List.getElem_cons_zero, List.getElem_cons_succ, Act.put, List.setIfInBounds_toArray, List.set_cons_zero, List.set_cons_succ]
        refine wpAnyH_take (i := 13) (v := ?_) rfl (by kernel_rfl) (by kernel_rfl) (by kernel_rfl) (fun _ _ _ h => hQp _ _ _ _ h rfl) (Or.inl ⟨rfl, ?_⟩) hHeld ?_
        rotate_left
        · intro w0 hS0
          try dsimp only at hS0
          go_simp
          try with_reducible rfl
        simp only [List.getElem_toArray, List.getElem_cons_zero, List.getElem_cons_succ, Act.put, List.setIfInBounds_toArray, List.set_cons_zero, List.set_cons_succ]
        refine wpAnyH_take (i := 14) (v := ?_) rfl (by kernel_rfl) (by kernel_rfl) (by kernel_rfl) (fun _ _ _ h => hQp _ _ _ _ h rfl) (Or.inl ⟨rfl, ?_⟩) hHeld ?_
        rotate_left
        · intro w0 hS0
          try dsimp only at hS0
          go_simp
          try with_reducible rfl
        simp only [List.getElem_toArray, List.getElem_cons_zero, List.getElem_cons_succ, Act.put, List.setIfInBounds_toArray, List.set_cons_zero, List.set_cons_succ]
        refine wpAnyH_ready (rs := [15]) (by kernel_rfl) (by simp) ?_
        refine AllReadyH.cons rfl (fun K hK => ?_) AllReadyH.nil
        rw [if_pos (by rfl)]
        go_simp
        go_at_call 16
        refine HCN.out.mono ?_
        rintro e w3 ⟨rfl, rfl⟩
        refine hK.out _ _ (HSX.out _ HB2.out) (fun hHeld => ?_)
        refine wpAnyH_take (i := 16) (v := ?_) rfl (by kernel_rfl) (by kernel_rfl) (by kernel_rfl) (fun _ _ _ h => hQp _ _ _ _ h rfl) (Or.inl ⟨rfl, ?_⟩) hHeld ?_
        rotate_left
        · intro w0 hS0
          try dsimp only at hS0
          go_simp
          try with_reducible rfl
        simp only [List.getElem_toArray, List.getElem_cons_zero, List.getElem_cons_succ, Act.put, List.setIfInBounds_toArray, List.set_cons_zero, List.set_cons_succ]
        refine wpAnyH_take (i := 17) (v := ?_) rfl (by kernel_rfl) (by kernel_rfl) (by kernel_rfl) (fun _ _ _ h => hQp _ _ _ _ h rfl) (Or.inl ⟨rfl, ?_⟩) hHeld ?_
        rotate_left
        · intro w0 hS0
          try dsimp only at hS0
          go_simp
          try with_reducible rfl
        simp only [List.getElem_toArray, List.getElem_cons_zero, List.getElem_cons_succ, Act.put, List.setIfInBounds_toArray, List.set_cons_zero, List.set_cons_succ]
        refine wpAnyH_done (by kernel_rfl) ?_ _
        clear hHeld
        go_wp2_with fail
        go_roundw
        case rel => exact ⟨k + 1, by go_num, by omega, bnext HBL.out (Nat.le_refl _) HB2.out⟩
        case measure => simp [intOf]; omega
    · have hkl : ¬ (k : Int) < Gs.length := by omega
      go_wp2_with fail
      exact HQ.out _ HBL.out
end Go.Proofs.YthfdcphecggjeaaGreatDoor
