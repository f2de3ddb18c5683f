/- The hub's laws: HubRoutes, its pieces. (Printed by gen_hroutes.py.) -/
import Derived.Test.YthfdcphecggjeaaGreatDoorHOnce
import Derived.Deep.CutBlock
namespace Go.Proofs.YthfdcphecggjeaaGreatDoor
open Go Go.RowKit

noncomputable def routesBlk (k : Nat) : Code := (Tryz.f3.body.bind (blockOf k)).getD .skip
noncomputable def routesReg (k : Nat) : Code := (Tryz.f3.body.bind (regionOf k)).getD .skip
theorem wrap_pred (k : Nat) (hk : k ≤ 1000000) : IntKind.i64.wrap ((k : Int) + 1 - 1) = k := by rw [w_i64 _ (by omega) (by omega)]; omega
theorem wrap_pred2 (k : Nat) (hk : k ≤ 1000000) : IntKind.i64.wrap (((k + 1 : Nat) : Int) - 1) = k := by rw [w_i64 _ (by omega) (by omega)]; omega
set_option maxRecDepth 100000 in
set_option maxHeartbeats 8000000 in
theorem routes_r17 (m : Msg) (mb xb b o ln c i : Nat) (ca : Option Addr) (cl cc : Nat) (W : World) (hi : i < ln) (hln : ln ≤ 1000) (hcl : 0 < cl)
    (m0 : W.cell? ⟨mb, 0, none⟩ = some (.string m.t)) (m1 : W.cell? ⟨mb, 1, none⟩ = some (.string m.p)) (m2 : W.cell? ⟨mb, 2, none⟩ = some (.int .u8 m.q)) (m3 : W.cell? ⟨mb, 3, none⟩ = some (.bool m.r))
    (x0 : W.cell? ⟨xb, 0, none⟩ = some (.int .u8 11)) (x3 : W.cell? ⟨xb, 3, none⟩ = some (.string ⟨#[112]⟩)) (x29 : W.cell? ⟨xb, 29, none⟩ = some (.string m.t)) (x30 : W.cell? ⟨xb, 30, none⟩ = some (.string m.p)) (x31 : W.cell? ⟨xb, 31, none⟩ = some (.int .u8 m.q)) (x32 : W.cell? ⟨xb, 32, none⟩ = some (.bool m.r)) (x34 : W.cell? ⟨xb, 34, none⟩ = some (.slice ca cl cc))
    (l0 : W.cell? ⟨b, o + i * 40 + 1, none⟩ = some (.int .i64 5)) (d : Int) (d0 : W.cell? ⟨b, o + i * 40, none⟩ = some (.int .i64 d)) (hp : ∀ k, i = k + 1 → ∃ d', d' < d ∧ W.cell? ⟨b, o + k * 40, none⟩ = some (.int .i64 d'))
    {c0 c1 c2 c3 c4 c6 c7 c8 c10 c11 c14 c15 c16 c17 c18 c19 c20 c21 c22 c23 c24 c25 c26 c27 c28 c29 c30 c31 c32 c33 c34 c35 c36 c37 c38 c39 c40 c41 c42 c43 c44 c45 c46 c47 c48 c49 c50 c51 c52 c53 c54 c55 c56 c57 c58 c59 c60 c61 c62 c63 c64 c65 c66 c67 c68 c69 c70 c71 c72 c73 c74 c75 c76 c77 c78 c79 c80 c81 c82 c83 c84 c85 c86 c87 c88 c89 c90 c91 c92 c93 c94 c95 c96 c97 c98 c99 c100 c101 c102 c103 c104 c105 c106 c107 c108 c109 c110 c111 c112 c113 c114 c115 c116 c117 c118 c119 c120 c121 c122 c123 c124 c125 c126 c127 c128 c129 c130 c131 c132 c133 c134 c135 c136 c137 c138 c139 c140 c141 c142 c143 c144 c145 c146 c147 c148 c149 c150 c151 c152 c153 c154 c155 c156 c157 c158 c159 c160 c161 c162 c163 c164 c165 c166 c167 c168 c169 c170 c171 c172 c173 c174 c175 c176 c177 c178 c179 c180 c181 c182 c183 c184 c185 c186 c187 c188 c189 c190 c191 c192 c193 c194 c195 c196 c197 c198 c199 c200 c201 c202 c203 c204 c205 c206 c207 c208 c209 c210 c211 c212 c213 c214 c215 c216 c217 c218 c219 c220 c221 c222 c223 c224 c225 c226 c227 c228 c229 c230 c231 c232 c233 c234 c235 c236 c237 c238 c239 c240 c241 : Value} {Q : Exit → Act → World → Prop}
    (hQ : ∀ ⦃d101 d102 d103 d104 d105 d106 d107 d108 d109 d110 d111 d112 d113 d114 d115 d116 d117 d118 d119 d120 d121 d122 d123 d124 d125 d126 d127 d128 d129 d130 d131 d132 d133 d134 d135 d136 d137 d138 d139 d140 d141 d142 d143 d144 d145 : Value⦄ (nq : Nat), Q .normal ⟨#[c0, c1, c2, c3, c4, .pointer (some ⟨mb, 0, none⟩), c6, c7, c8, .slice (some ⟨b, o, none⟩) ln c, c10, c11, .int .i64 i, .pointer (some ⟨xb, 0, none⟩), c14, c15, c16, c17, c18, c19, c20, c21, c22, c23, c24, c25, c26, c27, c28, c29, c30, c31, c32, c33, c34, c35, c36, c37, c38, c39, c40, c41, c42, c43, c44, c45, c46, c47, c48, c49, c50, c51, c52, c53, c54, c55, c56, c57, c58, c59, c60, c61, c62, c63, c64, c65, c66, c67, c68, c69, c70, c71, c72, c73, c74, c75, c76, c77, c78, c79, c80, c81, c82, c83, c84, c85, c86, c87, c88, c89, c90, c91, c92, c93, c94, c95, c96, c97, c98, c99, c100, d101, d102, d103, d104, d105, d106, d107, d108, d109, d110, d111, d112, d113, d114, d115, d116, d117, d118, d119, d120, d121, d122, d123, d124, d125, d126, d127, d128, d129, d130, d131, d132, d133, d134, d135, d136, d137, d138, d139, d140, d141, d142, d143, d144, d145, .bool false, c147, c148, c149, c150, c151, c152, c153, c154, c155, c156, c157, c158, c159, c160, c161, c162, c163, c164, c165, c166, c167, c168, c169, c170, c171, c172, c173, c174, c175, c176, c177, c178, c179, c180, c181, c182, c183, c184, c185, c186, c187, c188, c189, c190, c191, c192, c193, c194, c195, c196, c197, c198, c199, c200, c201, c202, c203, c204, c205, c206, c207, c208, c209, c210, c211, c212, c213, c214, c215, c216, c217, c218, c219, c220, c221, c222, c223, c224, c225, c226, c227, c228, c229, c230, c231, c232, c233, c234, c235, c236, c237, c238, c239, c240, c241], []⟩ (W.drewN nq)) :
    Code.wp Tryz.prog (routesReg 17) Q ⟨#[c0, c1, c2, c3, c4, .pointer (some ⟨mb, 0, none⟩), c6, c7, c8, .slice (some ⟨b, o, none⟩) ln c, c10, c11, .int .i64 i, .pointer (some ⟨xb, 0, none⟩), c14, c15, c16, c17, c18, c19, c20, c21, c22, c23, c24, c25, c26, c27, c28, c29, c30, c31, c32, c33, c34, c35, c36, c37, c38, c39, c40, c41, c42, c43, c44, c45, c46, c47, c48, c49, c50, c51, c52, c53, c54, c55, c56, c57, c58, c59, c60, c61, c62, c63, c64, c65, c66, c67, c68, c69, c70, c71, c72, c73, c74, c75, c76, c77, c78, c79, c80, c81, c82, c83, c84, c85, c86, c87, c88, c89, c90, c91, c92, c93, c94, c95, c96, c97, c98, c99, c100, c101, c102, c103, c104, c105, c106, c107, c108, c109, c110, c111, c112, c113, c114, c115, c116, c117, c118, c119, c120, c121, c122, c123, c124, c125, c126, c127, c128, c129, c130, c131, c132, c133, c134, c135, c136, c137, c138, c139, c140, c141, c142, c143, c144, c145, c146, c147, c148, c149, c150, c151, c152, c153, c154, c155, c156, c157, c158, c159, c160, c161, c162, c163, c164, c165, c166, c167, c168, c169, c170, c171, c172, c173, c174, c175, c176, c177, c178, c179, c180, c181, c182, c183, c184, c185, c186, c187, c188, c189, c190, c191, c192, c193, c194, c195, c196, c197, c198, c199, c200, c201, c202, c203, c204, c205, c206, c207, c208, c209, c210, c211, c212, c213, c214, c215, c216, c217, c218, c219, c220, c221, c222, c223, c224, c225, c226, c227, c228, c229, c230, c231, c232, c233, c234, c235, c236, c237, c238, c239, c240, c241], []⟩ W := by
  dsimp only at hQ ⊢
  conv => arg 2; whnf
  have HQ := Lib.hid hQ
  have HP := Lib.hid hp
  clear hQ hp
  have hcmp := fun w => msg_neq true w m.t m.p m.t m.p m.q m.q m.r m.r (by simp)
  generalize m.t = mt at *
  generalize m.p = mp at *
  generalize m.q = mq at *
  generalize m.r = mr at *
  have hc1 : ((cl : Int) == 0) = false := by simp; omega
  cases i with
  | zero =>
    have hj0 : (0 : Int) < ln := by omega
    simp only [Nat.zero_mul, Nat.add_zero, Int.natCast_zero] at *
    clear HP
    go_wp2_with fail
    go_quiet (fail)
    try simp only [Exit.inBlock, Exit.then]
    exact HQ.out _
  | succ k =>
    obtain ⟨d', hd', dp⟩ := HP.out k rfl
    have hw := wrap_pred k (by omega)
    have hw2 := wrap_pred2 k (by omega)
    have hj0 : (0 : Int) ≤ k := by omega
    have hj1 : (k : Int) < ln := by omega
    have hj2 : ((k + 1 : Nat) : Int) < ln := by omega
    have hj3 : (0 : Int) ≤ ((k + 1 : Nat) : Int) := by omega
    have hj4 : (0 : Int) < ((k + 1 : Nat) : Int) := by omega
    have hge : decide (d ≤ d') = false := by simp; omega
    clear HP hd'
    go_wp2_with fail
    go_quiet (fail)
    try simp only [Exit.inBlock, Exit.then]
    exact HQ.out _
set_option maxRecDepth 100000 in
set_option maxHeartbeats 8000000 in
theorem routes_inner (n q xb b o ln c i : Nat) (ca : Option Addr) (cc : Nat) (cl : List Str) (W : World) (h1 : 1 ≤ n) (h2 : n ≤ 64) (hi : i < ln) (hcl : ∀ x ∈ cl, homeN n x = q ∧ x.length ≤ 1000000) (hl : cl.length ≤ 1000)
    (x34 : W.cell? ⟨xb, 34, none⟩ = some (.slice ca cl.length cc)) (hr : Row W ca (strs cl)) (d0 : W.cell? ⟨b, o + i * 40, none⟩ = some (.int .i64 q))
    {c1 c2 c3 c4 c5 c6 c7 c8 c10 c11 c15 c16 c17 c18 c19 c20 c21 c22 c23 c24 c25 c26 c27 c28 c29 c30 c31 c32 c33 c34 c35 c36 c37 c38 c39 c40 c41 c42 c43 c44 c45 c46 c47 c48 c49 c50 c51 c52 c53 c54 c55 c56 c57 c58 c59 c60 c61 c62 c63 c64 c65 c66 c67 c68 c69 c70 c71 c72 c73 c74 c75 c76 c77 c78 c79 c80 c81 c82 c83 c84 c85 c86 c87 c88 c89 c90 c91 c92 c93 c94 c95 c96 c97 c98 c99 c100 c101 c102 c103 c104 c105 c106 c107 c108 c109 c110 c111 c112 c113 c114 c115 c116 c117 c118 c119 c120 c121 c122 c123 c124 c125 c126 c127 c128 c129 c130 c131 c132 c133 c134 c135 c136 c137 c138 c139 c140 c141 c142 c143 c144 c145 c146 c147 c148 c149 c150 c151 c152 c153 c154 c155 c156 c157 c158 c159 c160 c161 c162 c163 c164 c165 c166 c167 c168 c169 c170 c171 c172 c173 c174 c175 c176 c177 c178 c179 c180 c181 c182 c183 c184 c185 c186 c187 c188 c189 c190 c191 c192 c193 c194 c195 c196 c197 c198 c199 c200 c201 c202 c203 c204 c205 c206 c207 c208 c209 c210 c211 c212 c213 c214 c215 c216 c217 c218 c219 c220 c221 c222 c223 c224 c225 c226 c227 c228 c229 c230 c231 c232 c233 c234 c235 c236 c237 c238 c239 c240 c241 : Value} {Q : Exit → Act → World → Prop} (hQp : QuietP Q)
    (hQ : ∀ ⦃d6 d14 d147 d148 d149 d150 d151 d152 d153 d154 d155 d156 d157 d158 d159 d160 d161 d162 d163 d164 d165 d166 : Value⦄ (w' : World), Below W.heap.size W w' → Q .normal ⟨#[.int .i64 n, c1, c2, c3, c4, c5, d6, c7, c8, .slice (some ⟨b, o, none⟩) ln c, c10, c11, .int .i64 i, .pointer (some ⟨xb, 0, none⟩), d14, c15, c16, c17, c18, c19, c20, c21, c22, c23, c24, c25, c26, c27, c28, c29, c30, c31, c32, c33, c34, c35, c36, c37, c38, c39, c40, c41, c42, c43, c44, c45, c46, c47, c48, c49, c50, c51, c52, c53, c54, c55, c56, c57, c58, c59, c60, c61, c62, c63, c64, c65, c66, c67, c68, c69, c70, c71, c72, c73, c74, c75, c76, c77, c78, c79, c80, c81, c82, c83, c84, c85, c86, c87, c88, c89, c90, c91, c92, c93, c94, c95, c96, c97, c98, c99, c100, c101, c102, c103, c104, c105, c106, c107, c108, c109, c110, c111, c112, c113, c114, c115, c116, c117, c118, c119, c120, c121, c122, c123, c124, c125, c126, c127, c128, c129, c130, c131, c132, c133, c134, c135, c136, c137, c138, c139, c140, c141, c142, c143, c144, c145, c146, d147, d148, d149, d150, d151, d152, d153, d154, d155, d156, d157, d158, d159, d160, d161, d162, d163, d164, d165, d166, c167, c168, c169, c170, c171, c172, c173, c174, c175, c176, c177, c178, c179, c180, c181, c182, c183, c184, c185, c186, c187, c188, c189, c190, c191, c192, c193, c194, c195, c196, c197, c198, c199, c200, c201, c202, c203, c204, c205, c206, c207, c208, c209, c210, c211, c212, c213, c214, c215, c216, c217, c218, c219, c220, c221, c222, c223, c224, c225, c226, c227, c228, c229, c230, c231, c232, c233, c234, c235, c236, c237, c238, c239, c240, c241], []⟩ w') :
    Code.wp Tryz.prog (routesBlk 2) Q ⟨#[.int .i64 n, c1, c2, c3, c4, c5, c6, c7, c8, .slice (some ⟨b, o, none⟩) ln c, c10, c11, .int .i64 i, .pointer (some ⟨xb, 0, none⟩), .int .i64 0, c15, c16, c17, c18, c19, c20, c21, c22, c23, c24, c25, c26, c27, c28, c29, c30, c31, c32, c33, c34, c35, c36, c37, c38, c39, c40, c41, c42, c43, c44, c45, c46, c47, c48, c49, c50, c51, c52, c53, c54, c55, c56, c57, c58, c59, c60, c61, c62, c63, c64, c65, c66, c67, c68, c69, c70, c71, c72, c73, c74, c75, c76, c77, c78, c79, c80, c81, c82, c83, c84, c85, c86, c87, c88, c89, c90, c91, c92, c93, c94, c95, c96, c97, c98, c99, c100, c101, c102, c103, c104, c105, c106, c107, c108, c109, c110, c111, c112, c113, c114, c115, c116, c117, c118, c119, c120, c121, c122, c123, c124, c125, c126, c127, c128, c129, c130, c131, c132, c133, c134, c135, c136, c137, c138, c139, c140, c141, c142, c143, c144, c145, c146, c147, c148, c149, c150, c151, c152, c153, c154, c155, c156, c157, c158, c159, c160, c161, c162, c163, c164, c165, c166, c167, c168, c169, c170, c171, c172, c173, c174, c175, c176, c177, c178, c179, c180, c181, c182, c183, c184, c185, c186, c187, c188, c189, c190, c191, c192, c193, c194, c195, c196, c197, c198, c199, c200, c201, c202, c203, c204, c205, c206, c207, c208, c209, c210, c211, c212, c213, c214, c215, c216, c217, c218, c219, c220, c221, c222, c223, c224, c225, c226, c227, c228, c229, c230, c231, c232, c233, c234, c235, c236, c237, c238, c239, c240, c241], []⟩ W := by
  dsimp only at hQ ⊢
  conv => arg 2; whnf
  have HQ := Lib.hid hQ
  have HCL := Lib.hid hcl
  have HR := Lib.hid hr
  have HS : Hid (∀ X, Below W.heap.size W X → X.cell? ⟨xb, 34, none⟩ = some (.slice ca cl.length cc) ∧ X.cell? ⟨b, o + i * 40, none⟩ = some (.int .i64 q)) := Lib.hid (fun X hX => ⟨(hX.cell (World.block_lt_of_cell? _ _ x34)).trans x34, (hX.cell (World.block_lt_of_cell? _ _ d0)).trans d0⟩)
  have hi0 : (0 : Int) ≤ i := by omega
  have hi1 : (i : Int) < ln := by omega
  clear hQ hcl hr x34 d0
  go_wp2_with fail
  go_loopw [14] (fun i wr => ∃ k : Nat, i = .int .i64 k ∧ k ≤ cl.length ∧ Below W.heap.size W wr) (fun i _ => (cl.length - intOf i).toNat)
  case atStart => exact ⟨0, rfl, by omega, Below.refl _ _⟩
  case round =>
    obtain ⟨k, rfl, hk, hbl⟩ := hrel
    have HBL := Lib.hid hbl
    clear hbl
    obtain ⟨y34, y0⟩ := HS.out _ HBL.out
    by_cases hlt : k < cl.length
    · have hk0 : (0 : Int) ≤ k := by omega
      have hkl : (k : Int) < cl.length := by omega
      obtain ⟨b2, o2, rfl, k0⟩ := strs_row (HR.out.below HBL.out (Nat.le_refl _)) (k := k) (x := cl[k]) (by simp [hlt])
      obtain ⟨hh, hx⟩ := HCL.out _ (List.getElem_mem hlt)
      have HH := Lib.hid (fun w => home_any cl[k] n w hx h1 h2)
      rw [hh] at HH
      have HSX : Hid (∀ X, Below wr.heap.size wr X → X.cell? ⟨xb, 34, none⟩ = some (.slice (some ⟨b2, o2, none⟩) cl.length cc) ∧ X.cell? ⟨b, o + i * 40, none⟩ = some (.int .i64 q) ∧ X.cell? ⟨b2, o2 + k, none⟩ = some (.string ⟨cl[k].toArray⟩)) := Lib.hid (fun X hX => ⟨(hX.cell (World.block_lt_of_cell? _ _ y34)).trans y34, (hX.cell (World.block_lt_of_cell? _ _ y0)).trans y0, (hX.cell (World.block_lt_of_cell? _ _ k0)).trans k0⟩)
      clear hh hx
      generalize cl[k] = x at *
      go_wp2_with fail
      clear y34 y0 k0
      refine wp_region_held_drew (S := fun X => X.cell? ⟨xb, 34, none⟩ = some (.slice (some ⟨b2, o2, none⟩) cl.length cc) ∧ X.cell? ⟨b, o + i * 40, none⟩ = some (.int .i64 q) ∧ X.cell? ⟨b2, o2 + k, none⟩ = some (.string ⟨x.toArray⟩)) (by kernel_rfl) (HSX.out _ (Below.refl _ _).drew) (fun hHeld => ?_)
      refine wpAnyH_take (i := 0) (v := ?_) rfl (by kernel_rfl) (by kernel_rfl) (by kernel_rfl) (fun _ _ _ h => hQp _ _ _ _ h rfl) (Or.inl ⟨rfl, ?_⟩) hHeld ?_
      rotate_left
      · intro w0 hS0
        try dsimp only at hS0
        go_simp
        try with_reducible rfl
      simp only [List.getElem_toArray, List.getElem_cons_zero, Act.put, List.setIfInBounds_toArray, List.set_cons_zero, List.set_cons_succ]
      refine wpAnyH_take (i := 1) (v := ?_) rfl (by kernel_rfl) (by kernel_rfl) (by kernel_rfl) (fun _ _ _ h => hQp _ _ _ _ h rfl) (Or.inl ⟨rfl, ?_⟩) hHeld ?_
      rotate_left
      · intro w0 hS0
        try dsimp only at hS0
        go_simp
        try with_reducible rfl
      simp only [List.getElem_toArray, List.getElem_cons_zero, List.getElem_cons_succ, Act.put, List.setIfInBounds_toArray, List.set_cons_zero, List.set_cons_succ]
      refine wpAnyH_take (i := 2) (v := ?_) rfl (by kernel_rfl) (by kernel_rfl) (by kernel_rfl) (fun _ _ _ h => hQp _ _ _ _ h rfl) (Or.inl ⟨rfl, ?_⟩) hHeld ?_
      rotate_left
      · intro w0 hS0
        try dsimp only at hS0
        go_simp
        try with_reducible rfl
      simp only [List.getElem_toArray, List.getElem_cons_zero, List.getElem_cons_succ, Act.put, List.setIfInBounds_toArray, List.set_cons_zero, List.set_cons_succ]
      refine wpAnyH_take (i := 3) (v := ?_) rfl (by kernel_rfl) (by kernel_rfl) (by kernel_rfl) (fun _ _ _ h => hQp _ _ _ _ h rfl) (Or.inl ⟨rfl, ?_⟩) hHeld ?_
      rotate_left
      · intro w0 hS0
        try dsimp only at hS0
        go_simp
        try with_reducible rfl
      simp only [List.getElem_toArray, List.getElem_cons_zero, List.getElem_cons_succ, Act.put, List.setIfInBounds_toArray, List.set_cons_zero, List.set_cons_succ]
      refine wpAnyH_take (i := 4) (v := ?_) rfl (by kernel_rfl) (by kernel_rfl) (by kernel_rfl) (fun _ _ _ h => hQp _ _ _ _ h rfl) (Or.inl ⟨rfl, ?_⟩) hHeld ?_
      rotate_left
      · intro w0 hS0
        try dsimp only at hS0
        go_simp
        try with_reducible rfl
      simp only [List.getElem_toArray, List.getElem_cons_zero, List.getElem_cons_succ, Act.put, List.setIfInBounds_toArray, List.set_cons_zero, List.set_cons_succ]
      refine wpAnyH_take (i := 5) (v := ?_) rfl (by kernel_rfl) (by kernel_rfl) (by kernel_rfl) (fun _ _ _ h => hQp _ _ _ _ h rfl) (Or.inl ⟨rfl, ?_⟩) hHeld ?_
      rotate_left
      · intro w0 hS0
        try dsimp only at hS0
        go_simp
        try with_reducible rfl
      simp only [List.getElem_toArray, List.getElem_cons_zero, List.getElem_cons_succ, Act.put, List.setIfInBounds_toArray, List.set_cons_zero, List.set_cons_succ]
      refine wpAnyH_take (i := 7) (v := ?_) rfl (by kernel_rfl) (by kernel_rfl) (by kernel_rfl) (fun _ _ _ h => hQp _ _ _ _ h rfl) (Or.inl ⟨rfl, ?_⟩) hHeld ?_
      rotate_left
      · intro w0 hS0
        try dsimp only at hS0
        go_simp
        try with_reducible rfl
      simp only [List.getElem_toArray, List.getElem_cons_zero, List.getElem_cons_succ, Act.put, List.setIfInBounds_toArray, List.set_cons_zero, List.set_cons_succ]
      refine wpAnyH_take (i := 8) (v := ?_) rfl (by kernel_rfl) (by kernel_rfl) (by kernel_rfl) (fun _ _ _ h => hQp _ _ _ _ h rfl) (Or.inl ⟨rfl, ?_⟩) hHeld ?_
      rotate_left
      · intro w0 hS0
        try dsimp only at hS0
        go_simp
        try with_reducible rfl
      simp only [List.getElem_toArray, List.getElem_cons_zero, List.getElem_cons_succ, Act.put, List.setIfInBounds_toArray, List.set_cons_zero, List.set_cons_succ]
      refine wpAnyH_take (i := 9) (v := ?_) rfl (by kernel_rfl) (by kernel_rfl) (by kernel_rfl) (fun _ _ _ h => hQp _ _ _ _ h rfl) (Or.inl ⟨rfl, ?_⟩) hHeld ?_
      rotate_left
      · intro w0 hS0
        try dsimp only at hS0
        go_simp
        try with_reducible rfl
      simp only [List.getElem_toArray, List.getElem_cons_zero, List.getElem_cons_succ, Act.put, List.setIfInBounds_toArray, List.set_cons_zero, List.set_cons_succ]
      refine wpAnyH_take (i := 10) (v := ?_) rfl (by kernel_rfl) (by kernel_rfl) (by kernel_rfl) (fun _ _ _ h => hQp _ _ _ _ h rfl) (Or.inl ⟨rfl, ?_⟩) hHeld ?_
      rotate_left
      · intro w0 hS0
        try dsimp only at hS0
        go_simp
        try with_reducible rfl
      simp only [List.getElem_toArray, List.getElem_cons_zero, List.getElem_cons_succ, Act.put, List.setIfInBounds_toArray, List.set_cons_zero, List.set_cons_succ]
      refine wpAnyH_take (i := 11) (v := ?_) rfl (by kernel_rfl) (by kernel_rfl) (by kernel_rfl) (fun _ _ _ h => hQp _ _ _ _ h rfl) (Or.inl ⟨rfl, ?_⟩) hHeld ?_
      rotate_left
      · intro w0 hS0
        try dsimp only at hS0
        go_simp
        try with_reducible rfl
      simp only [List.getElem_toArray, List.getElem_cons_zero, List.getElem_cons_succ, Act.put, List.setIfInBounds_toArray, List.set_cons_zero, List.set_cons_succ]
      refine wpAnyH_ready (rs := [6]) (by kernel_rfl) (by simp) ?_
      refine AllReadyH.cons rfl (fun K hK => ?_) AllReadyH.nil
      rw [if_pos (by rfl)]
      go_simp
      go_at_call 14
      refine (HH.out _).mono ?_
      rintro e w2 ⟨rfl, hk2⟩
      have HB2 : Hid (Below wr.heap.size wr w2) := Lib.hid ((Below.refl wr.heap.size wr).drew.trans hk2)
      clear hk2
      refine hK.out _ _ (HSX.out _ HB2.out) (fun hHeld => ?_)
      refine wpAnyH_take (i := 12) (v := ?_) rfl (by kernel_rfl) (by kernel_rfl) (by kernel_rfl) (fun _ _ _ h => hQp _ _ _ _ h rfl) (Or.inl ⟨rfl, ?_⟩) hHeld ?_
      rotate_left
      · intro w0 hS0
        try dsimp only at hS0
        go_simp
        try with_reducible rfl
      simp only [List.getElem_toArray, List.getElem_cons_zero, List.getElem_cons_succ, Act.put, List.setIfInBounds_toArray, List.set_cons_zero, List.set_cons_succ]
      refine wpAnyH_done (by kernel_rfl) ?_ _
      clear hHeld
      go_wp2_with fail
      go_roundw
      case rel => exact ⟨k + 1, by go_num, by omega, bnext HBL.out (Nat.le_refl _) HB2.out⟩
      case measure => simp [intOf]; omega
    · have hkl : ¬ (k : Int) < cl.length := by omega
      go_wp2_with fail
      exact HQ.out _ HBL.out
end Go.Proofs.YthfdcphecggjeaaGreatDoor
