/- The hub: a row of mails that is appended to, beside a hub; pieces of a function's code. The hub: its parts, turned one by one. The hub: route's second loop: the mails to homes. (Printed by gen_hloop.py.) The hub: route walked. (Printed by gen_hroute.py.) -/
import Derived.Test.YthfdcphecggjeaaGreatDoorQW
import Derived.Deep.CutBlock
namespace Go.Proofs.YthfdcphecggjeaaGreatDoor
section
open Go Go.RowKit

/-- what is told of a panic does not hang on the frame -/
def QuietP (Q : Exit → Act → World → Prop) : Prop := ∀ x (a a' : Act) (w : World), Q (.panic x) a w → a.defers = a'.defers → Q (.panic x) a' w
theorem quiet_body {P : Program} {fn : Func} {R : Ending → World → Prop} : QuietP (bodyPost P fn R) := fun _ _ _ _ h e => ⟨e ▸ h.1, h.2⟩
theorem quiet_then {K : Act → World → Prop} {Q : Exit → Act → World → Prop} (h : QuietP Q) : QuietP (Exit.then K Q) := fun x a a' w e => h x a a' w e
theorem quiet_block {i : Nat} {Q : Exit → Act → World → Prop} (h : QuietP Q) : QuietP (Exit.inBlock i Q) := fun x a a' w e => h x a a' w e
/-- a code's loops, in their order -/
def loops : Code → List Code
  | .loop c => [.loop c]
  | .seq a b => loops a ++ loops b
  | .block _ c => loops c
  | .scope c => loops c
  | .cond _ a b => loops a ++ loops b
  | _ => []
/-- a region of a code, by its number -/
def regionOf (k : Nat) : Code → Option Code
  | .region id ops d => bif Nat.beq id k then some (.region id ops d) else none
  | .seq a b => match regionOf k a with
    | some c => some c
    | none => regionOf k b
  | .block _ c => regionOf k c
  | .scope c => regionOf k c
  | .loop c => regionOf k c
  | .cond _ a b => match regionOf k a with
    | some c => some c
    | none => regionOf k b
  | _ => none
/-- a block of a code, by its number -/
def blockOf (k : Nat) : Code → Option Code
  | .seq a b => match blockOf k a with
    | some c => some c
    | none => blockOf k b
  | .block id c => bif Nat.beq id k then some (.block id c) else blockOf k c
  | .scope c => blockOf k c
  | .loop c => blockOf k c
  | .cond _ a b => match blockOf k a with
    | some c => some c
    | none => blockOf k b
  | _ => none
/-- the number of a code's first region -/
def firstRegion : Code → Nat
  | .region id _ _ => id
  | .seq a _ => firstRegion a
  | .block _ c => firstRegion c
  | .scope c => firstRegion c
  | .loop c => firstRegion c
  | .cond _ a _ => firstRegion a
  | _ => 1000000
/-- what follows from a region on -/
def fromRegion (k : Nat) : Code → Option Code
  | .seq a b => bif Nat.beq (firstRegion b) k then some b else match fromRegion k a with
    | some c => some c
    | none => fromRegion k b
  | .block _ c => bif Nat.beq (firstRegion c) k then some c else fromRegion k c
  | .scope c => bif Nat.beq (firstRegion c) k then some c else fromRegion k c
  | .loop c => bif Nat.beq (firstRegion c) k then some c else fromRegion k c
  | .cond _ a b => match fromRegion k a with
    | some c => some c
    | none => fromRegion k b
  | _ => none
/-- a row of mails of the call's own, beside what F holds; what its mails have lies beside both -/
structure OutM (w : World) (F : List Nat) (B : Nat) (v : Value) (M : List Mail) (H : List HMail) : Prop where
  own : w.ownsRow B 43 40 v M.length (mailsV M)
  off : ∀ b, v.ownBlock = some b → b ∉ F
  ms : Mails w (F ++ v.ownBlock.toList) M H
theorem OutM.nil (w : World) (F : List Nat) (B : Nat) : OutM w F B (.slice none 0 0) [] [] := ⟨World.ownsRow_nil _ _ _ _, by simp [Value.ownBlock], trivial⟩
theorem OutM.upd {w w' : World} {F F' : List Nat} {B : Nat} {v : Value} {M : List Mail} {H : List HMail} (h : OutM w F B v M H) (hu : Upd F F' w w') : OutM w' F' B v M H := by
  have hl : ∀ b, v.ownBlock = some b → b < w.heap.size := fun b hb => (h.own.lt b hb).2
  refine ⟨ownsRow_local h.own fun b hb => hu.1.block b (hl b hb) (h.off b hb), fun b hb hk => ?_, Mails.upd ⟨hu.1.mono fun j hj => List.mem_append_left _ hj, fun k hk => ?_⟩ h.ms⟩
  · rcases hu.2 b hk with h1 | h1
    · exact h.off b hb h1
    · have := hl b hb; omega
  · rcases List.mem_append.1 hk with hk | hk
    · exact (hu.2 k hk).imp (fun h1 => List.mem_append_left _ h1) id
    · exact .inl (List.mem_append_right _ hk)
theorem OutM.below {w w' : World} {F : List Nat} {B : Nat} {v : Value} {M : List Mail} {H : List HMail} (h : OutM w F B v M H) (hb : Below w.heap.size w w') : OutM w' F B v M H := h.upd ⟨Mod.of_below hb _, fun _ hk => .inl hk⟩
theorem OutM.sub {w : World} {F G : List Nat} {B : Nat} {v : Value} {M : List Mail} {H : List HMail} (h : OutM w F B v M H) (hG : ∀ j ∈ G, j ∈ F) : OutM w G B v M H :=
  ⟨h.own, fun b hb hk => h.off b hb (hG b hk), h.ms.sub fun j hj => by
    rcases List.mem_append.1 hj with hj | hj
    · exact List.mem_append_left _ (hG j hj)
    · exact List.mem_append_right _ hj⟩
theorem OutM.lt {w : World} {F : List Nat} {B : Nat} {v : Value} {M : List Mail} {H : List HMail} (h : OutM w F B v M H) : ∀ j ∈ v.ownBlock.toList, B ≤ j ∧ j < w.heap.size := fun j hj => h.own.lt j (Option.mem_toList.1 hj)
/-- mails are appended -/
theorem OutM.grow {w w1 w2 : World} {F : List Nat} {B : Nat} {v v' : Value} {M M2 : List Mail} {H H2 : List HMail} (h : OutM w F B v M H) (hF : ∀ j ∈ F, j < w.heap.size) (hw : Below w.heap.size w w1)
    (ho : w2.ownsRow B 43 40 v' (M.length + M2.length) (mailsV M ++ mailsV M2)) (hg : w1.grownBy w2 v.ownBlock) (hv : ∀ b, v'.ownBlock = some b → v.ownBlock = some b ∨ w.heap.size ≤ b)
    (hm : Mails w (F ++ v.ownBlock.toList) M2 H2) : OutM w2 F B v' (M ++ M2) (H ++ H2) ∧ Upd v.ownBlock.toList v'.ownBlock.toList w w2 := by
  have hmod : Mod v.ownBlock.toList w w2 := (Mod.of_below hw _).grown hg fun j hj => .inl (Option.mem_toList.2 hj)
  have hup : Upd v.ownBlock.toList v'.ownBlock.toList w w2 := ⟨hmod, fun k hk => (hv k (Option.mem_toList.1 hk)).imp (fun h1 => Option.mem_toList.2 h1) id⟩
  have hbig : Upd (F ++ v.ownBlock.toList) (F ++ v'.ownBlock.toList) w w2 := ⟨hmod.mono fun j hj => List.mem_append_right _ hj, fun k hk => by
    rcases List.mem_append.1 hk with hk | hk
    · exact .inl (List.mem_append_left _ hk)
    · exact (hup.2 k hk).imp (fun h1 => List.mem_append_right _ h1) id⟩
  refine ⟨⟨by rw [List.length_append, ← mailsV_append]; exact ho, fun b hb hk => ?_, Mails.append (Mails.upd hbig hm) (Mails.upd hbig h.ms)⟩, hup⟩
  rcases hv b hb with h1 | h1
  · exact h.off b h1 hk
  · have := hF b hk; omega
/-- a hub, behind an append to a row beside it -/
theorem OutM.updG {w w' : World} {F F' G : List Nat} {B : Nat} {v : Value} {M : List Mail} {H : List HMail} (h : OutM w (F ++ G) B v M H) (hu : Upd F F' w w') : OutM w' (F' ++ G) B v M H :=
  h.upd ⟨hu.1.mono fun j hj => List.mem_append_left _ hj, fun k hk => by
    rcases List.mem_append.1 hk with hk | hk
    · exact (hu.2 k hk).imp (fun h1 => List.mem_append_left _ h1) id
    · exact .inl (List.mem_append_right _ hk)⟩
theorem Hb.out {w0 w w' : World} {h n k : Nat} {s : HubS} {lv : Value} {ns : List NoteK} {F G : List Nat} {B : Nat} {v v' : Value} {M : List Mail} {H : List HMail} (p : Hb w0 w h n k s lv ns F) (o : OutM w (F ++ G) B v M H) (hB : w0.heap.size ≤ B)
    (hu : Upd v.ownBlock.toList v'.ownBlock.toList w w') : Hb w0 w' h n k s lv ns F :=
  p.mod hu (fun j hj hj' => o.off j (Option.mem_toList.1 hj') (List.mem_append_left _ hj)) fun j hj => Nat.le_trans hB (o.lt j hj).1
/-- 'append(s, l...)' of a row that has something, as one step of a region that draws its order -/
theorem step_appR {P : Program} {t e : TypeId} {z : Value} {size bytes : Nat} (E : ElemT P t e z size bytes) {W : World} {B : Nat} {v : Value} {n : Nat} {xs : List Value} (hown : W.ownsRow B e size v n xs)
    {ad : Option Addr} {ys : List Value} {m c : Nat} (hrow : Row W ad ys)
    {ops : Array Oper} {o : Oper} {a : Act} {K : Act → World → Prop} {Q : Exit → Act → World → Prop} {E' : Prop} (hgd : o.guard = none) {s x : Operand}
    (ho : o.op = .call { callee := .builtin .append, args := #[s, x], argTypes := #[t, t] }) (hs : a.eval s = v) (hx : a.eval x = .slice ad m c)
    (hc : ys.length = m * size) (hm : 0 < m) (h1 : ∀ u ∈ ys, u.oneCell' = true) (hbytes : (n + m) * bytes ≤ 140737488355328) (hn : n + m < 140737488355328) (hB : B ≤ W.heap.size)
    (h : ∀ g cap w', w'.ownsRow B e size (.slice (some ⟨g, 0, none⟩) (n + m) cap) (n + m) (xs ++ ys) → W.grownBy w' v.ownBlock → (v.ownBlock = some g ∨ g = W.heap.size) → g < w'.heap.size →
      K (a.put o.dst (.slice (some ⟨g, 0, none⟩) (n + m) cap)) w') :
    if Region.wanted o (yielded ops a.tmps) = true then Oper.wp P o a W K Q else E' := by
  obtain ⟨i0, hi, hz0, hz1, hz2⟩ := info_parts E.hi
  rcases hrow with rfl | ⟨b, off, rfl, hcell⟩
  · exfalso
    have := Nat.mul_pos hm E.hsz
    simp at hc
    omega
  · refine step_append_lies W hgd s x t ho B e i0 z size bytes E.ht hi hz0 hz1 hz2 E.hzs E.hsz v n xs hs hown ⟨b, off, none⟩ m c ys hx (by simp [hc]) ?_ h1 hm (by unfold maxLen; omega) hbytes hB W.heap.size rfl h
    intro j u hj
    have e1 : (⟨b, off, none⟩ : Addr).add j = ⟨b, off + j, none⟩ := by unfold Addr.add; split <;> simp_all
    rw [e1]; exact hcell j u hj
theorem wpList_appR {P : Program} {t e : TypeId} {z : Value} {size bytes : Nat} (E : ElemT P t e z size bytes) {w : World} {B : Nat} {v : Value} {n : Nat} {xs : List Value} (hown : w.ownsRow B e size v n xs)
    {ad : Option Addr} {ys : List Value} {m c : Nat} (hrow : Row w ad ys)
    {ops : Array Oper} {rest : List Oper} {o : Oper} {a : Act} {Q : Exit → Act → World → Prop} {s x : Operand} (hgd : o.guard = none)
    (ho : o.op = .call { callee := .builtin .append, args := #[s, x], argTypes := #[t, t] }) (hs : a.eval s = v) (hx : a.eval x = .slice ad m c) (d : Option Tmp) (hd : o.dst = d)
    (hc : ys.length = m * size) (hm : 0 < m) (h1 : ∀ u ∈ ys, u.oneCell' = true) (hbytes : (n + m) * bytes ≤ 140737488355328) (hn : n + m < 140737488355328) (hB : B ≤ w.heap.size)
    (h : ∀ g cap w', w'.ownsRow B e size (.slice (some ⟨g, 0, none⟩) (n + m) cap) (n + m) (xs ++ ys) → w.grownBy w' v.ownBlock → (v.ownBlock = some g ∨ w.heap.size ≤ g) → g < w'.heap.size →
      wpList P ops Q rest (a.put d (.slice (some ⟨g, 0, none⟩) (n + m) cap)) w') : wpList P ops Q (o :: rest) a w := by
  subst hd
  refine wpList_step fun K hK => step_appR E hown hrow hgd ho hs hx hc hm h1 hbytes hn hB fun g cap w' h2 h3 h4 h5 => hK _ _ (h g cap w' h2 h3 (h4.imp id fun e => ?_) h5)
  rw [e]; exact Nat.le_refl _
/-- a struct is built, in a region that draws its order -/
theorem exec_build {P : Program} {ev : Operand → Value} {o : Oper} {w : World} (t : TypeId) (parts : Array (Nat × Operand)) (ho : o.op = .build t parts) (cells : Array Value) (ps : List (Nat × Value)) (hps : (parts.map fun (i, x) => (i, ev x)).toList = ps)
    (hf : P.built t ps = some cells) : (execOp ev o).run P w = .ok (Next.value (.agg cells)) w := by
  subst hps
  unfold execOp
  simp only [ho, Sem.run_bind, run_build w t _ cells hf, Result.andThen_ok, Sem.run_pure]
theorem mails_one (L : List Mail) : ∀ u ∈ mailsV L, u.oneCell' = true := by
  intro u hu
  obtain ⟨m, -, hm⟩ := List.mem_flatMap.1 hu
  have := mail_one m
  rw [Array.all_eq_true_iff_forall_mem] at this
  exact this u (by simpa using hm)
end
section
open Go Go.RowKit

/-- a message that is not too great -/
def SmallM (m : Msg) : Prop := m.t.size ≤ 300 ∧ m.p.size ≤ 300 ∧ 0 ≤ m.q ∧ m.q < 256
/-- an item that is not too great -/
structure SmallI (x : Item) : Prop where
  c : x.client.size ≤ 300
  f : x.filter.size ≤ 300
  m : SmallM x.msg
theorem item_cells {w : World} {b : Nat} {x : Item} (h : w.heap[b]? = some (.cells x.cells.toArray 36 (0, 0))) :
    w.cell? ⟨b, 0, none⟩ = some (.int .u8 x.kind) ∧ w.cell? ⟨b, 1, none⟩ = some (.int .i64 x.op) ∧ w.cell? ⟨b, 3, none⟩ = some (.string x.client) ∧ w.cell? ⟨b, 4, none⟩ = some (.string x.filter) ∧ w.cell? ⟨b, 29, none⟩ = some (.string x.msg.t) ∧ w.cell? ⟨b, 30, none⟩ = some (.string x.msg.p) ∧
      w.cell? ⟨b, 31, none⟩ = some (.int .u8 x.msg.q) ∧ w.cell? ⟨b, 32, none⟩ = some (.bool x.msg.r) ∧ w.cell? ⟨b, 36, none⟩ = some (.int .i64 x.frm) :=
  ⟨cell_of_row w b 0 _ _ _ h, cell_of_row w b 1 _ _ _ h, cell_of_row w b 3 _ _ _ h, cell_of_row w b 4 _ _ _ h, cell_of_row w b 29 _ _ _ h, cell_of_row w b 30 _ _ _ h, cell_of_row w b 31 _ _ _ h, cell_of_row w b 32 _ _ _ h, cell_of_row w b 36 _ _ _ h⟩
def itemsV (l : List Item) : List Value := l.flatMap Item.cells
structure ItemAt (w : World) (b o : Nat) (x : Item) : Prop where
  kind : w.cell? ⟨b, o, none⟩ = some (.int .u8 x.kind)
  op : w.cell? ⟨b, o + 1, none⟩ = some (.int .i64 x.op)
  client : w.cell? ⟨b, o + 3, none⟩ = some (.string x.client)
  filter : w.cell? ⟨b, o + 4, none⟩ = some (.string x.filter)
  topic : w.cell? ⟨b, o + 29, none⟩ = some (.string x.msg.t)
  payload : w.cell? ⟨b, o + 30, none⟩ = some (.string x.msg.p)
  frm : w.cell? ⟨b, o + 36, none⟩ = some (.int .i64 x.frm)
theorem item_at {w : World} {b o : Nat} {x : Item} (h : w.rangeAt b o x.cells) : ItemAt w b o x :=
  ⟨h 0 _ rfl, h 1 _ rfl, h 3 _ rfl, h 4 _ rfl, h 29 _ rfl, h 30 _ rfl, h 36 _ rfl⟩
theorem item_width (x : Item) : x.cells.length = 38 := rfl
section
variable {w0 w : World} {h n k : Nat} {s : HubS} {lv : Value} {ns : List NoteK} {F : List Nat}
theorem Hb.mem (p : Hb w0 w h n k s lv ns F) : h ∈ F := by
  obtain ⟨t, kg, N, Ft, KF, G, P, rfl⟩ := p.p
  exact mem_footH.2 (.inl rfl)
theorem Hb.more (p : Hb w0 w h n k s lv ns F) {k' : Nat} (hk : k ≤ k') : Hb w0 w h n k' s lv ns F := by
  obtain ⟨t, kg, N, Ft, KF, G, P, rfl⟩ := p.p
  exact ⟨⟨t, kg, N, Ft, KF, G, ⟨P.top, P.tr.more hk, P.kp, P.lg, P.hT, P.hK, P.hG, P.tK, P.tG, P.kG⟩, rfl⟩, Nat.le_trans p.kl hk, Nat.le_trans p.nl hk, p.ok, p.cl, p.up, p.fF, p.bel⟩
/-- the number of workers -/
theorem Hb.num (p : Hb w0 w h n k s lv ns F) : w.cell? ⟨h, 2, none⟩ = some (.int .i64 n) := by
  obtain ⟨t, kg, N, Ft, KF, G, P, rfl⟩ := p.p
  exact cell_of_row w h 2 _ _ _ P.top
theorem Hb.lensT (p : Hb w0 w h n k s lv ns F) : ∃ t N Ft, w.cell? ⟨h, 0, none⟩ = some (.pointer (some ⟨t, 0, none⟩)) ∧ HR k w t s.gs N Ft ∧ ∀ w1 w', Below w.heap.size w w1 → ∀ gs' k' N' Ft', HR k' w' t gs' N' Ft' → Upd Ft Ft' w1 w' → k ≤ k' → (∀ g ∈ gs', g.2.length ≤ 300) →
    w'.cell? ⟨h, 0, none⟩ = some (.pointer (some ⟨t, 0, none⟩)) ∧ ∃ F', Hb w0 w' h n k' ⟨gs', s.kp⟩ lv ns F' ∧ Upd F F' w1 w' := by
  obtain ⟨t, kg, N, Ft, KF, G, P, rfl⟩ := p.p
  refine ⟨t, N, Ft, cell_of_row w h 0 _ _ _ P.top, P.tr, fun w1 w' hb gs' k' N' Ft' hr hu hk hcl => ?_⟩
  obtain ⟨P2, hu2⟩ := (P.mod (Mod.of_below hb []) (by simp)).trie hr hu
  obtain ⟨hb2, hf2⟩ := lie_below (bnext p.bel (Nat.le_refl _) hb) (Nat.le_refl _) p.fF hu2
  exact ⟨cell_of_row w' h 0 _ _ _ P2.top, _, ⟨⟨_, _, _, _, _, _, P2, rfl⟩, Nat.le_trans p.kl hk, Nat.le_trans p.nl hk, p.ok, hcl, p.up, hf2, hb2⟩, hu2⟩
theorem Hb.lensK (p : Hb w0 w h n k s lv ns F) : ∃ g KF, w.cell? ⟨h, 1, none⟩ = some (.pointer (some ⟨g, 0, none⟩)) ∧ KRep w g s.kp KF ∧ ∀ w1 w', Below w.heap.size w w1 → ∀ kp' k' KF', KRep w' g kp' KF' → Upd KF KF' w1 w' → k ≤ k' → kp'.length ≤ k' → (∀ m ∈ kp', m.t.size ≤ 300) → Up kp' →
    w'.cell? ⟨h, 1, none⟩ = some (.pointer (some ⟨g, 0, none⟩)) ∧ ∃ F', Hb w0 w' h n k' ⟨s.gs, kp'⟩ lv ns F' ∧ Upd F F' w1 w' := by
  obtain ⟨t, kg, N, Ft, KF, G, P, rfl⟩ := p.p
  refine ⟨kg, KF, cell_of_row w h 1 _ _ _ P.top, P.kp, fun w1 w' hb kp' k' KF' hr hu hk hkl hok hup => ?_⟩
  obtain ⟨P2, hu2⟩ := (P.mod (Mod.of_below hb []) (by simp)).keep hr hu
  obtain ⟨hb2, hf2⟩ := lie_below (bnext p.bel (Nat.le_refl _) hb) (Nat.le_refl _) p.fF hu2
  exact ⟨cell_of_row w' h 1 _ _ _ P2.top, _, ⟨⟨_, _, _, _, _, _, ⟨P2.top, P2.tr.more hk, P2.kp, P2.lg, P2.hT, P2.hK, P2.hG, P2.tK, P2.tG, P2.kG⟩, rfl⟩, hkl, Nat.le_trans p.nl hk, hok, p.cl, hup, hf2, hb2⟩, hu2⟩
theorem Hb.lensL (p : Hb w0 w h n k s lv ns F) : ∃ G, LogAt w lv ns G ∧ ∀ w1 w', Below w.heap.size w w1 → ∀ ns' k' G', LogAt w' lv ns' G' → Upd G G' w1 w' → k ≤ k' → ns'.length ≤ k' → ∃ F', Hb w0 w' h n k' s lv ns' F' ∧ Upd F F' w1 w' := by
  obtain ⟨t, kg, N, Ft, KF, G, P, rfl⟩ := p.p
  refine ⟨G, P.lg, fun w1 w' hb ns' k' G' hr hu hk hnl => ?_⟩
  obtain ⟨P2, hu2⟩ := (P.mod (Mod.of_below hb []) (by simp)).log hr hu
  obtain ⟨hb2, hf2⟩ := lie_below (bnext p.bel (Nat.le_refl _) hb) (Nat.le_refl _) p.fF hu2
  exact ⟨_, ⟨⟨_, _, _, _, _, _, ⟨P2.top, P2.tr.more hk, P2.kp, P2.lg, P2.hT, P2.hK, P2.hG, P2.tK, P2.tG, P2.kG⟩, rfl⟩, Nat.le_trans p.kl hk, hnl, p.ok, p.cl, p.up, hf2, hb2⟩, hu2⟩
end
theorem addG_cl {gs : List Hint} {f c : Str} (h : ∀ g ∈ gs, g.2.length ≤ 300) (hc : c.length ≤ 300) : ∀ g ∈ addG gs f c, g.2.length ≤ 300 := by
  intro g hg
  unfold addG at hg
  split at hg
  · rcases List.mem_cons.1 ((perm_insH (f, c) gs).mem_iff.1 hg) with rfl | hg
    · exact hc
    · exact h g hg
  · exact h g hg
end
section
open Go Go.RowKit

noncomputable def routeLoop2 : Code := (((Tryz.f47.body.map loops).getD [])[1]?).getD .skip
set_option maxRecDepth 100000 in
set_option maxHeartbeats 8000000 in
theorem send_loop (n : Nat) (x : Item) (cs : List Str) (vs : Nat → Value) (B hb xb : Nat) (wb : World) (hH : Homes wb B hb vs (at1 n cs)) (hX : wb.heap[xb]? = some (.cells x.cells.toArray 36 (0, 0)))
    {c0 c1 c2 c3 c4 c6 c7 c8 c9 c10 c12 c13 c14 c15 c16 c17 c18 c19 c20 c21 c22 c23 c24 c25 c26 c27 c28 c29 c30 c31 c32 c33 c34 c35 c36 c37 c38 c39 c40 c41 c42 c43 c44 c45 c46 c47 c48 c49 c50 c51 c52 c53 c54 c55 c56 c57 c58 c59 c60 c61 c62 c63 c66 c67 c68 c69 c70 c71 c72 c73 c74 c75 c76 c77 c78 c79 c80 c81 c82 c83 c84 c85 c86 c87 c88 c89 c90 c91 c92 c93 c94 c95 c96 : Value} {Q : Exit → Act → World → Prop}
    (hQ : ∀ ⦃v d12 d13 d14 d65 d66 d67 d68 d69 d70 d71 d72 d73 d74 d75 d76 d77 d78 d79 d80 d81 d82 d83 d84 d85 d86 d87 d88 : Value⦄ (w' : World), w'.ownsRow wb.heap.size 43 40 v (sendL n x cs vs 64).length (mailsV (sendL n x cs vs 64)) → Below wb.heap.size wb w' → Q (.exit 2) ⟨#[c0, c1, c2, c3, c4, .pointer (some ⟨xb, 0, none⟩), c6, c7, c8, c9, c10, v, d12, d13, d14, c15, c16, c17, c18, c19, c20, c21, c22, c23, c24, c25, c26, c27, c28, c29, c30, c31, c32, c33, c34, c35, c36, c37, c38, c39, c40, c41, c42, c43, c44, c45, c46, c47, c48, c49, c50, c51, c52, c53, c54, c55, c56, c57, c58, c59, c60, c61, c62, c63, .agg (homesV vs).toArray, d65, d66, d67, d68, d69, d70, d71, d72, d73, d74, d75, d76, d77, d78, d79, d80, d81, d82, d83, d84, d85, d86, d87, d88, c89, c90, c91, c92, c93, c94, c95, c96], []⟩ w') :
    Code.wp Tryz.prog routeLoop2 Q ⟨#[c0, c1, c2, c3, c4, .pointer (some ⟨xb, 0, none⟩), c6, c7, c8, c9, c10, .slice none 0 0, c12, c13, c14, c15, c16, c17, c18, c19, c20, c21, c22, c23, c24, c25, c26, c27, c28, c29, c30, c31, c32, c33, c34, c35, c36, c37, c38, c39, c40, c41, c42, c43, c44, c45, c46, c47, c48, c49, c50, c51, c52, c53, c54, c55, c56, c57, c58, c59, c60, c61, c62, c63, .agg (homesV vs).toArray, .int .i64 0, c66, c67, c68, c69, c70, c71, c72, c73, c74, c75, c76, c77, c78, c79, c80, c81, c82, c83, c84, c85, c86, c87, c88, c89, c90, c91, c92, c93, c94, c95, c96], []⟩ wb := by
  dsimp only at hQ ⊢
  conv => arg 2; whnf
  have HH := Lib.hid hH
  have XB : Hid (∀ X, Below wb.heap.size wb X → X.heap[xb]? = some (.cells x.cells.toArray 36 (0, 0))) := Lib.hid (fun X hX' => (hX'.block _ (Array.getElem?_eq_some_iff.1 hX).1).trans hX)
  have HIDX := Lib.hid (fun q (hq : q < 64) W => run_index_homes (homesV vs).toArray q _ hq (homesV_at vs hq) W)
  have HQ := Lib.hid hQ
  clear hH hX hQ
  generalize (homesV vs).toArray = HV at *
  go_loopw [11, 12, 13, 14, 65] (fun v _ _ _ i wq => ∃ q : Nat, i = .int .i64 q ∧ q ≤ 64 ∧ Below wb.heap.size wb wq ∧ wq.ownsRow wb.heap.size 43 40 v (sendL n x cs vs q).length (mailsV (sendL n x cs vs q))) (fun _ _ _ _ i _ => (64 - intOf i).toNat)
  case atStart => exact ⟨0, rfl, by omega, Below.refl _ _, World.ownsRow_nil _ _ _ _⟩
  case round =>
    obtain ⟨q, rfl, hq, hbq, hownq⟩ := hrel
    obtain ⟨va, vc, rfl, -, -, -⟩ := ownsRow_row hownq
    by_cases hlt2 : q < 64
    · have hq0 : (0 : Int) ≤ q := by omega
      have hq1 : (q : Int) < 64 := by omega
      have hidx := HIDX.out q hlt2
      obtain ⟨-, -, a4, c4, hv4, -⟩ := HH.out.cell hlt2
      obtain ⟨ea, ec⟩ := slice_eta hv4
      have HEA := Lib.hid ea
      have HEC := Lib.hid ec
      have HSU := Lib.hid (sendL_succ n x cs vs q)
      have hsl := sendL_len n x cs vs q
      rw [hv4] at hidx
      clear ea ec hv4
      by_cases hem : at1 n cs q = []
      · have HSE : Hid (sendL n x cs vs (q + 1) = sendL n x cs vs q) := Lib.hid (by rw [HSU.out, hem]; simp)
        rw [hem] at hidx
        simp only [List.length_nil] at hidx
        generalize sendL n x cs vs q = V at *
        have HBQ := Lib.hid hbq
        have HOQ := Lib.hid hownq
        clear hbq hownq hem XB HQ
        go_wp2_with fail
        go_roundw
        case rel => exact ⟨q + 1, by go_num, by omega, HBQ.out, by rw [HSE.out]; exact HOQ.out⟩
        case measure => simp [intOf]; omega
      · have hne : (0 : Int) < (at1 n cs q).length := by have := List.length_pos_iff.2 hem; omega
        have HSN : Hid (sendL n x cs vs (q + 1) = sendL n x cs vs q ++ [(⟨q, itemOf (toM n x cs q) none 0 a4 c4⟩ : Mail)]) := Lib.hid (by
          rw [HSU.out, if_neg (by simpa using hem)]
          unfold mailTo
          rw [HEA.out, HEC.out])
        have HBI := Lib.hid (fun (_ : Unit) => built_deliver q x.op x.client x.msg a4 c4 (at1 n cs q) x.frm)
        have e0 : itemOf ⟨q, 11, x.op, x.client, x.msg, [], at1 n cs q, x.frm, 0⟩ none 0 a4 c4 = itemOf (toM n x cs q) none 0 a4 c4 := rfl
        rw [e0] at HBI
        clear e0
        have HIS := Lib.hid (item_size (itemOf (toM n x cs q) none 0 a4 c4))
        have HI38 : Hid ((38 : Nat) = (itemOf (toM n x cs q) none 0 a4 c4).cells.toArray.size) := Lib.hid rfl
        have HIO := Lib.hid (item_one (itemOf (toM n x cs q) none 0 a4 c4))
        have HBM2 := Lib.hid (fun (_ : Unit) => built_mail q (itemOf (toM n x cs q) none 0 a4 c4))
        have HBD := Lib.hid (build_mail ⟨q, itemOf (toM n x cs q) none 0 a4 c4⟩)
        have HMV : Hid (mailsV (sendL n x cs vs q) ++ (Mail.cells ⟨q, itemOf (toM n x cs q) none 0 a4 c4⟩).toArray.toList = mailsV (sendL n x cs vs (q + 1))) := Lib.hid (by rw [HSN.out, ← mailsV_append]; simp [mailsV])
        have HSL1 : Hid ((sendL n x cs vs (q + 1)).length = (sendL n x cs vs q).length + 1) := Lib.hid (by rw [HSN.out]; simp)
        have HM40 : Hid ((Mail.cells ⟨q, itemOf (toM n x cs q) none 0 a4 c4⟩).toArray.size = 1 * 40) := Lib.hid rfl
        have HMO1 : Hid (∀ u ∈ (Mail.cells ⟨q, itemOf (toM n x cs q) none 0 a4 c4⟩).toArray.toList, u.oneCell' = true) := Lib.hid (by
          have := mail_one ⟨q, itemOf (toM n x cs q) none 0 a4 c4⟩
          rw [Array.all_eq_true_iff_forall_mem] at this
          exact fun u hu => this u (by simpa using hu))
        obtain ⟨-, y1, y3, -, y29, y30, y31, y32, y36⟩ := item_cells (XB.out _ hbq)
        generalize (Mail.cells ⟨q, itemOf (toM n x cs q) none 0 a4 c4⟩) = ML at *
        generalize (itemOf (toM n x cs q) none 0 a4 c4).cells.toArray = IC at *
        generalize sendL n x cs vs q = V at *
        generalize at1 n cs q = A at *
        have HBQ := Lib.hid hbq
        have HOQ := Lib.hid hownq
        have hszq : wb.heap.size ≤ wr.heap.size := hbq.size
        have HIB : Hid ((wr.alloc (.cells IC 36)).heap[wr.heap.size]? = some (.cells IC 36 (0, 0))) := Lib.hid (heap_alloc_new _ _)
        clear hbq hownq hem XB HQ HSU HEA HEC HSN HIDX HH
        go_wp2_with (first
          | (refine wpList_buildBy rfl 36 _ rfl _ rfl IC [(0, .int .u8 11), (1, .int .i64 x.op), (3, .string x.client), (6, .agg #[.string x.msg.t, .string x.msg.p, .int .u8 x.msg.q, .bool x.msg.r]), (8, .slice a4 A.length c4), (10, .int .i64 x.frm)] (by kernel_rfl) (HBI.out ()) ?_)
          | (refine wpList_store_newTo rfl 36 _ _ rfl rfl wr.heap.size rfl IC _ rfl rfl HIS.out HI38.out HIO.out ?_)
          | (refine wpList_load_row rfl 36 _ rfl wr.heap.size rfl 36 IC _ _ HIB.out Tryz.underlying36 rfl HIS.out ?_)
          | (refine wpList_buildBy rfl 43 _ rfl _ rfl ML.toArray [(0, .int .i64 q), (1, .int .i64 5), (2, .agg IC)] (by kernel_rfl) (HBM2.out ()) ?_)
          | (refine wpList_build1 HBD.out rfl _ rfl rfl _ rfl (wr.heap.size + 1) (by simp) ?_)
          | (at_builtin; refine wpList_appS (m := 1) T_mail (HOQ.out.alloc (.cells IC 36)) rfl rfl rfl rfl (by simp) _ rfl HM40.out (by decide) HMO1.out (by omega) (by omega) (by simp; omega) ?_; intro ng cap w8 hown8 hg8 hb8 hlt8; have HOW8 := Lib.hid hown8; have HGR8 := Lib.hid hg8; clear hown8 hg8 hb8 hlt8)
          | fail)
        go_roundw
        case rel =>
          refine ⟨q + 1, by go_num, by omega, ?_, ?_⟩
          · exact ((HBQ.out.alloc hszq _).alloc (by simp; omega) _).grown HGR8.out (by simp; omega) fun k hk => (HOQ.out.lt k hk).1
          · rw [HSL1.out, ← HMV.out]; exact HOW8.out
        case measure => simp [intOf]; omega
    · obtain rfl : q = 64 := by omega
      have hlt2 : ¬ ((64 : Nat) : Int) < 64 := by omega
      have HBQ := Lib.hid hbq
      have HOQ := Lib.hid hownq
      clear hbq hownq
      go_wp2_with fail
      exact HQ.out _ HOQ.out HBQ.out
end
section
open Go Go.RowKit

theorem setB_noH {x : Msg} {l : List Msg} (h : mayB x = false) : setB x l = l := by unfold setB; rw [h]; rfl
theorem setB_yesH {x : Msg} {l : List Msg} (h : mayB x = true) : setB x l = setM x l := by unfold setB; rw [h]; rfl
theorem kset_h (b : Bool) (g : Nat) (m : Msg) (l : List Msg) (F : List Nat) (w : World) (h : KRep w g l F) (hT : Tabs w) (hm : SmallM m) (hl : l.length < 1000000) (hb : mayB m = b) :
    Calls Tryz.prog 43 #[.pointer (some ⟨g, 0, none⟩), .agg #[.string m.t, .string m.p, .int .u8 m.q, .bool m.r]] w fun e w' => e = .returned (.bool b) ∧ KRep w' g (setB m l) F ∧ Upd F F w w' := by
  have ht : m.t.size < 4294967281 := by have := hm.1; omega
  cases b with
  | false =>
    refine (kset_no g m w hT ht hm.2.2.1 hm.2.2.2 hb).mono ?_
    rintro e w' ⟨rfl, hk⟩
    exact ⟨rfl, by rw [setB_noH hb]; exact h.below hk, Mod.of_below hk _, fun k hk => .inl hk⟩
  | true =>
    refine (kset_yes g m l F w h hT ht hm.2.2.1 hm.2.2.2 hb hl).mono ?_
    rintro e w' ⟨rfl, hr, hu⟩
    exact ⟨rfl, by rw [setB_yesH hb]; exact hr, hu⟩
theorem putS_len (s : Str) (l : List Str) : (putS s l).length ≤ l.length + 1 := by
  induction l with
  | nil => simp [putS]
  | cons y r ih =>
    unfold putS
    split
    · simp only [List.length_cons]; omega
    · split <;> simp
theorem toldG_len (l : List Hint) (s : Str) : (toldG l s).length ≤ l.length := by
  have go : ∀ (l : List Hint) (out : List Str), (l.foldl (fun out g => if matchB g.1 s then putS g.2 out else out) out).length ≤ out.length + l.length := fun l => by
    induction l with
    | nil => exact fun _ => Nat.le_refl _
    | cons g r ih =>
      intro out
      rw [List.foldl_cons, List.length_cons]
      have h1 := ih (if matchB g.1 s then putS g.2 out else out)
      have h2 : (if matchB g.1 s then putS g.2 out else out).length ≤ out.length + 1 := by
        split
        · exact putS_len _ _
        · omega
      omega
  have := go l []
  simpa [toldG] using this
theorem at1_snoc (n : Nat) (l : List Str) (c : Str) : at1 n (l ++ [c]) = fun i => if i = homeN n c then at1 n l (homeN n c) ++ [c] else at1 n l i := by
  funext i
  unfold at1
  rw [List.filter_append]
  by_cases e : i = homeN n c
  · subst e
    rw [if_pos rfl, List.filter_cons_of_pos (by simp)]; rfl
  · rw [if_neg e, List.filter_cons_of_neg (by simpa using Ne.symm e)]; simp
theorem at1_nil (n : Nat) : at1 n [] = fun _ => [] := by funext i; rfl
theorem at1_len (n : Nat) (l : List Str) (i : Nat) : (at1 n l i).length ≤ l.length := List.length_filter_le _ _
theorem keepL {x : Item} {k : Nat} {l : List Msg} (h : l.length ≤ k) : (setB x.msg l).length ≤ k + 1 := by
  unfold setB
  split
  · unfold setM
    split
    · have := List.length_filter_le (fun m : Msg => m.k != x.msg.k) l
      unfold del; omega
    · have := len_put_le x.msg.kept l; omega
  · omega
/-- an item of an answer, ahead of its op and client -/
def itemB (kind : Int) (a : Option Addr) (c : Nat) (l : List Msg) (many : Int) : Item := ⟨kind, 0, 0, ⟨#[]⟩, ⟨#[]⟩, pkZ, Msg.zero, a, c, l, none, 0, [], none, 0, [], 0, many⟩
theorem built_added0 (a : Option Addr) (c n : Nat) : Tryz.prog.built 36 [(0, .int .u8 8), (7, .slice a n c)] =
      some (([.int .u8 8, .int .i64 0, .int .i64 0, .string ⟨#[]⟩, .string ⟨#[]⟩] ++ (pkZ.cells ++ (Msg.zero.cells ++ [.slice a n c, .slice none 0 0, .slice none 0 0, .int .i64 0, .int .i64 0])) : List Value).toArray) := by kernel_rfl
theorem built_added (a : Option Addr) (c : Nat) (l : List Msg) : Tryz.prog.built 36 [(0, .int .u8 8), (7, .slice a l.length c)] = some (itemB 8 a c l 0).cells.toArray := by
  rw [built_added0]
  rfl
theorem built_removed : Tryz.prog.built 36 [(0, .int .u8 9)] = some (itemB 9 none 0 [] 0).cells.toArray := by kernel_rfl
theorem built_routed (m : Int) : Tryz.prog.built 36 [(0, .int .u8 10), (11, .int .i64 m)] = some (itemB 10 none 0 [] m).cells.toArray := by kernel_rfl
theorem sendM_len (n : Nat) (x : Item) (cs : List Str) : (sendM n x cs 64).length ≤ 64 := by
  unfold sendM
  rw [List.length_map]
  exact Nat.le_trans (List.length_filter_le _ _) (by simp)
theorem up_setBh {m : Msg} {L : List Msg} (h : Up L) : Up (setB m L) := by
  unfold setB
  split
  · unfold setM
    split
    · exact h.del
    · exact h.put
  · exact h
theorem mem_setB {m x : Msg} {L : List Msg} (h : x ∈ setB m L) : x ∈ L ∨ x = m.kept := by
  have hput : ∀ {l : List Msg}, x ∈ put m.kept l → x ∈ l ∨ x = m.kept := fun {l} => by
    induction l with
    | nil => intro h; exact .inr (by simpa [put] using h)
    | cons y r ih =>
      intro h
      unfold put at h
      split at h
      · rcases List.mem_cons.1 h with h | h
        · exact .inr h
        · exact .inl h
      · split at h
        · rcases List.mem_cons.1 h with h | h
          · exact .inr h
          · exact .inl (List.mem_cons_of_mem _ h)
        · rcases List.mem_cons.1 h with h | h
          · exact .inl (h ▸ List.mem_cons_self ..)
          · exact (ih h).imp (List.mem_cons_of_mem _) id
  unfold setB at h
  split at h
  · unfold setM at h
    split at h
    · exact .inl ((List.mem_filter.1 h).1)
    · exact hput h
  · exact .inl h
noncomputable def routeLoop1 : Code := (((Tryz.f47.body.map loops).getD [])[0]?).getD .skip
set_option maxRecDepth 100000 in
set_option maxHeartbeats 8000000 in
theorem homes_loop (n h hb : Nat) (cs : List Str) (ra : Option Addr) (rc : Nat) (WM : World) (ht : WM.cell? ⟨h, 2, none⟩ = some (.int .i64 n)) (hr : Row WM ra (strs cs)) (hH : Homes WM WM.heap.size hb (fun _ => .slice none 0 0) (fun _ => [])) (hne : h ≠ hb)
    (hcl : ∀ c ∈ cs, c.length ≤ 300) (hl : cs.length ≤ 400) (h1 : 1 ≤ n) (h2 : n ≤ 64)
    {c1 c2 c3 c4 c5 c6 c8 c9 c10 c11 c12 c13 c14 c15 c16 c17 c18 c19 c20 c21 c22 c23 c24 c25 c26 c27 c28 c29 c30 c31 c32 c33 c34 c35 c36 c37 c38 c39 c40 c41 c42 c46 c47 c48 c49 c50 c51 c52 c53 c54 c55 c56 c57 c58 c59 c60 c61 c62 c63 c64 c65 c66 c67 c68 c69 c70 c71 c72 c73 c74 c75 c76 c77 c78 c79 c80 c81 c82 c83 c84 c85 c86 c87 c88 c89 c90 c91 c92 c93 c94 c95 c96 : Value} {Q : Exit → Act → World → Prop}
    (hQ : ∀ ⦃d9 d10 d45 d46 d47 d48 d49 d50 d51 d52 d53 d54 d55 d56 d57 d58 d59 d60 d61 d62 d63 : Value⦄ (vs : Nat → Value) (w' : World), Homes w' WM.heap.size hb vs (at1 n cs) → Mod [hb] WM w' → Q (.exit 0) ⟨#[.pointer (some ⟨h, 0, none⟩), c1, c2, c3, c4, c5, c6, .pointer (some ⟨hb, 0, none⟩), c8, d9, d10, c11, c12, c13, c14, c15, c16, c17, c18, c19, c20, c21, c22, c23, c24, c25, c26, c27, c28, c29, c30, c31, c32, c33, c34, c35, c36, c37, c38, c39, c40, c41, c42, .slice ra cs.length rc, .int .i64 cs.length, d45, d46, d47, d48, d49, d50, d51, d52, d53, d54, d55, d56, d57, d58, d59, d60, d61, d62, d63, c64, c65, c66, c67, c68, c69, c70, c71, c72, c73, c74, c75, c76, c77, c78, c79, c80, c81, c82, c83, c84, c85, c86, c87, c88, c89, c90, c91, c92, c93, c94, c95, c96], []⟩ w') :
    Code.wp Tryz.prog routeLoop1 Q ⟨#[.pointer (some ⟨h, 0, none⟩), c1, c2, c3, c4, c5, c6, .pointer (some ⟨hb, 0, none⟩), c8, c9, c10, c11, c12, c13, c14, c15, c16, c17, c18, c19, c20, c21, c22, c23, c24, c25, c26, c27, c28, c29, c30, c31, c32, c33, c34, c35, c36, c37, c38, c39, c40, c41, c42, .slice ra cs.length rc, .int .i64 cs.length, .int .i64 0, c46, c47, c48, c49, c50, c51, c52, c53, c54, c55, c56, c57, c58, c59, c60, c61, c62, c63, c64, c65, c66, c67, c68, c69, c70, c71, c72, c73, c74, c75, c76, c77, c78, c79, c80, c81, c82, c83, c84, c85, c86, c87, c88, c89, c90, c91, c92, c93, c94, c95, c96], []⟩ WM := by
  dsimp only at hQ ⊢
  conv => arg 2; whnf
  have HCL := Lib.hid hcl
  have HHM := Lib.hid hH
  have HQ := Lib.hid hQ
  have T2 : Hid (∀ X, Mod [hb] WM X → X.cell? ⟨h, 2, none⟩ = some (.int .i64 n)) := Lib.hid (fun X hX => by
    have hl := World.block_lt_of_cell? _ _ ht
    rw [World.cell?_of_block (w := WM) (hX.block h hl (fun e => hne (List.mem_singleton.1 e)))]; exact ht)
  have RX : Hid (∀ X, Mod [hb] WM X → Row X ra (strs cs)) := Lib.hid (fun X hX => by
    by_cases hne : cs = []
    · rw [hne]; exact .inl rfl
    · exact hr.mod hX fun b o e hb' => by
        subst e
        exact hH.row_off hr hne (List.mem_singleton.1 hb'))
  clear ht hr hH hcl hQ
  go_loopw [9, 10, 45] (fun _ _ i wr => ∃ j : Nat, i = .int .i64 j ∧ j ≤ cs.length ∧ Mod [hb] WM wr ∧ ∃ vs, Homes wr WM.heap.size hb vs (at1 n (cs.take j))) (fun _ _ i _ => (cs.length - intOf i).toNat)
  case atStart => exact ⟨0, rfl, by omega, Mod.refl _ _, _, by rw [List.take_zero, at1_nil]; exact HHM.out⟩
  case round =>
    obtain ⟨j, rfl, hj, hm, vs, hH⟩ := hrel
    have HM := Lib.hid hm
    have HHR := Lib.hid hH
    have t2r := T2.out _ hm
    clear hm hH
    by_cases hlt : j < cs.length
    · have hj0 : (0 : Int) ≤ j := by omega
      have hjl : (j : Int) < cs.length := by omega
      obtain ⟨b, o, hra, hcell⟩ := strs_row (RX.out _ HM.out) (k := j) (x := cs[j]) (by simp [hlt])
      rw [hra] at *
      have HHOME := Lib.hid (fun W' => home_any cs[j] n W' (by have := HCL.out _ (List.getElem_mem hlt); omega) h1 h2)
      have HTK : Hid (at1 n (cs.take (j + 1)) = _) := Lib.hid ((congrArg (at1 n) (List.take_succ_eq_append_getElem hlt)).trans (at1_snoc n (cs.take j) cs[j]))
      have hal := at1_len n (cs.take j) (homeN n cs[j])
      rw [List.length_take] at hal
      generalize cs[j] = c at *
      generalize at1 n (cs.take j) = A at *
      have hq : homeN n c < 64 := Nat.lt_of_lt_of_le (homeN_lt h1 c) h2
      go_wp2_with fail
      refine (HHOME.out _).mono ?_
      rintro e w4 ⟨rfl, hk4⟩
      have HH4 := Lib.hid (HHR.out.below hk4)
      have HM4 := Lib.hid (HM.out.next hk4)
      have hsM : WM.heap.size ≤ w4.heap.size := HM4.out.size
      clear hk4
      obtain ⟨c4, f4, a4, k4, hv4, -⟩ := HH4.out.cell hq
      have hown4 := HH4.out.own _ hq
      have HV4 := Lib.hid hv4
      rw [hv4] at c4 hown4
      have HOW4 := Lib.hid hown4
      clear hv4 hown4 t2r hcell
      have hq0 : (0 : Int) ≤ homeN n c := by omega
      have hq1 : (homeN n c : Int) < 64 := by omega
      have HQ := Lib.hid hq
      generalize homeN n c = q at *
      clear hq
      have HPUT : Hid (∀ g cap w8, w8.ownsRow WM.heap.size 9 1 (.slice (some ⟨g, 0, none⟩) ((A q).length + 1) cap) ((A q).length + 1) (strs (A q) ++ (#[Value.string ⟨c.toArray⟩] : Array Value).toList) → (w4.alloc (.cells #[.string ⟨c.toArray⟩] 9)).grownBy w8 (Value.slice a4 (A q).length k4).ownBlock → ((Value.slice a4 (A q).length k4).ownBlock = some g ∨ w4.heap.size ≤ g) →
          w8.cell? ⟨hb, q, none⟩ = some (.slice a4 (A q).length k4) ∧ w8.frozen? ⟨hb, q, none⟩ = false ∧ Hid (∃ vs', Homes (w8.setCell ⟨hb, q, none⟩ (.slice (some ⟨g, 0, none⟩) ((A q).length + 1) cap)) WM.heap.size hb vs' (fun i => if i = q then A q ++ [c] else A i)) ∧ Hid (Mod [hb] WM (w8.setCell ⟨hb, q, none⟩ (.slice (some ⟨g, 0, none⟩) ((A q).length + 1) cap)))) := Lib.hid (fun g cap w8 ho hg hgb => by
        have hpt := HH4.out.put (s := c) (v := .slice (some ⟨g, 0, none⟩) ((A q).length + 1) cap) HQ.out (low_alloc w4 _) (by rw [HV4.out]; exact hg) (fun b' hb' => by
          obtain rfl : g = b' := by simpa [Value.ownBlock] using hb'
          rw [HV4.out]; exact hgb) (by simpa [strs] using ho)
        rw [HV4.out] at hpt
        refine ⟨hpt.1, hpt.2.1, Lib.hid ⟨_, hpt.2.2⟩, Lib.hid (((HM4.out.alloc _).grown hg fun k' hk' => .inr ?_).setCell (.inl (by simp)) _)⟩
        exact (HOW4.out.lt k' hk').1)
      have hal2 : (A q).length ≤ 400 := by omega
      go_wp2_with (first
        | (at_builtin; refine wpList_appS (m := 1) T_str HOW4.out rfl rfl rfl rfl rfl _ rfl (by rfl) (by decide) (by simp [Value.oneCell']) (by omega) (by omega) hsM ?_; intro g cap w8 hown8 hg8 hb8 hlt8; obtain ⟨c8, f8, HP8, HM8⟩ := HPUT.out g cap w8 hown8 hg8 hb8; clear hown8 hg8 hb8 hlt8)
        | fail)
      go_roundw
      case rel => exact ⟨j + 1, by go_num, by omega, HM8.out, by rw [HTK.out]; exact HP8.out⟩
      case measure => simp [intOf]; omega
    · have hjl : ¬ (j : Int) < cs.length := by omega
      obtain rfl : j = cs.length := by omega
      rw [List.take_length] at HHR
      clear HCL T2 RX t2r
      go_wp2_with fail
      exact HQ.out _ _ HHR.out HM.out
noncomputable def routeRest : Code := (Tryz.f47.body.bind (fromRegion 3)).getD .skip
set_option maxRecDepth 100000 in
set_option maxHeartbeats 8000000 in
theorem route_rest (w0 : World) (h n k : Nat) (s : HubS) (lv : Value) (ns : List NoteK) (F : List Nat) (x : Item) (xb : Nat) (W : World) (hp : Hb w0 W h n k s lv ns F) (hT : Tabs w0) (hx : SmallI x) (hk : k ≤ 400) (h1 : 1 ≤ n) (h2 : n ≤ 64) (hX : W.heap[xb]? = some (.cells x.cells.toArray 36 (0, 0)))
    {c1 c2 c3 c4 c6 c7 c8 c9 c10 c11 c12 c13 c14 c15 c16 c17 c18 c19 c20 c21 c22 c23 c24 c25 c26 c27 c28 c29 c30 c31 c32 c33 c34 c35 c36 c37 c38 c39 c40 c41 c42 c43 c44 c45 c46 c47 c48 c49 c50 c51 c52 c53 c54 c55 c56 c57 c58 c59 c60 c61 c62 c63 c64 c65 c66 c67 c68 c69 c70 c71 c72 c73 c74 c75 c76 c77 c78 c79 c80 c81 c82 c83 c84 c85 c86 c87 c88 c89 c90 c91 c92 c93 c94 c95 c96 : Value} {Q : Exit → Act → World → Prop} (hQp : QuietP Q)
    (hQ : ∀ ⦃d7 d9 d10 d11 d12 d13 d14 d36 d37 d38 d39 d40 d41 d42 d43 d44 d45 d46 d47 d48 d49 d50 d51 d52 d53 d54 d55 d56 d57 d58 d59 d60 d61 d62 d63 d64 d65 d66 d67 d68 d69 d70 d71 d72 d73 d74 d75 d76 d77 d78 d79 d80 d81 d82 d83 d84 d85 d86 d87 d88 d89 d90 d91 d92 d93 d94 d95 d96 : Value⦄ (v : Value) (L : List Mail) (w' : World), Below W.heap.size W w' → (∀ G : List Nat, (∀ j ∈ G, j < W.heap.size) → OutM w' (F ++ G) W.heap.size v L (sendM n x (toldG s.gs x.msg.k) 64 ++ [backM x 10 [] (sendM n x (toldG s.gs x.msg.k) 64).length])) → Q .ret ⟨#[.pointer (some ⟨h, 0, none⟩), c1, c2, c3, c4, .pointer (some ⟨xb, 0, none⟩), v, d7, c8, d9, d10, d11, d12, d13, d14, c15, c16, c17, c18, c19, c20, c21, c22, c23, c24, c25, c26, c27, c28, c29, c30, c31, c32, c33, c34, c35, d36, d37, d38, d39, d40, d41, d42, d43, d44, d45, d46, d47, d48, d49, d50, d51, d52, d53, d54, d55, d56, d57, d58, d59, d60, d61, d62, d63, d64, d65, d66, d67, d68, d69, d70, d71, d72, d73, d74, d75, d76, d77, d78, d79, d80, d81, d82, d83, d84, d85, d86, d87, d88, d89, d90, d91, d92, d93, d94, d95, d96], []⟩ w') :
    Code.wp Tryz.prog routeRest Q ⟨#[.pointer (some ⟨h, 0, none⟩), c1, c2, c3, c4, .pointer (some ⟨xb, 0, none⟩), c6, c7, c8, c9, c10, c11, c12, c13, c14, c15, c16, c17, c18, c19, c20, c21, c22, c23, c24, c25, c26, c27, c28, c29, c30, c31, c32, c33, c34, c35, c36, c37, c38, c39, c40, c41, c42, c43, c44, c45, c46, c47, c48, c49, c50, c51, c52, c53, c54, c55, c56, c57, c58, c59, c60, c61, c62, c63, c64, c65, c66, c67, c68, c69, c70, c71, c72, c73, c74, c75, c76, c77, c78, c79, c80, c81, c82, c83, c84, c85, c86, c87, c88, c89, c90, c91, c92, c93, c94, c95, c96], []⟩ W := by
  dsimp only at hQ ⊢
  conv => arg 2; whnf
  obtain ⟨t, N, Ft, t0, htr, -⟩ := hp.lensT
  have tn := hp.num
  have HP := Lib.hid hp
  have HXB := Lib.hid hX
  have HTW := Lib.hid (hT.below hp.bel)
  have HFL := Lib.hid hp.lt
  have hhl : h < W.heap.size := hp.lt h hp.mem
  have hxl : xb < W.heap.size := (Array.getElem?_eq_some_iff.1 hX).1
  have HQ := Lib.hid hQ
  have HX := Lib.hid hx
  have HAN := Lib.hid (fun (y : Item) W => answer_any x y W)
  have HXS := Lib.hid (item_size x)
  have hgl := htr.len
  have HTR := Lib.hid htr
  clear hp hX hT hQ hx htr
  go_wp2_with fail
  rw [show (#[Value.slice none 0 0, Value.slice none 0 0, Value.slice none 0 0, Value.slice none 0 0, Value.slice none 0 0, Value.slice none 0 0, Value.slice none 0 0, Value.slice none 0 0, Value.slice none 0 0, Value.slice none 0 0, Value.slice none 0 0, Value.slice none 0 0, Value.slice none 0 0, Value.slice none 0 0, Value.slice none 0 0, Value.slice none 0 0, Value.slice none 0 0, Value.slice none 0 0, Value.slice none 0 0, Value.slice none 0 0, Value.slice none 0 0, Value.slice none 0 0, Value.slice none 0 0, Value.slice none 0 0, Value.slice none 0 0, Value.slice none 0 0, Value.slice none 0 0, Value.slice none 0 0, Value.slice none 0 0, Value.slice none 0 0, Value.slice none 0 0, Value.slice none 0 0, Value.slice none 0 0, Value.slice none 0 0, Value.slice none 0 0, Value.slice none 0 0, Value.slice none 0 0, Value.slice none 0 0, Value.slice none 0 0, Value.slice none 0 0, Value.slice none 0 0, Value.slice none 0 0, Value.slice none 0 0, Value.slice none 0 0, Value.slice none 0 0, Value.slice none 0 0, Value.slice none 0 0, Value.slice none 0 0, Value.slice none 0 0, Value.slice none 0 0, Value.slice none 0 0, Value.slice none 0 0, Value.slice none 0 0, Value.slice none 0 0, Value.slice none 0 0, Value.slice none 0 0, Value.slice none 0 0, Value.slice none 0 0, Value.slice none 0 0, Value.slice none 0 0, Value.slice none 0 0, Value.slice none 0 0, Value.slice none 0 0, Value.slice none 0 0] : Array Value) = (homesV fun _ => .slice none 0 0).toArray from rfl]
  have hbh : Below W.heap.size W (W.alloc (.cells (homesV fun _ => .slice none 0 0).toArray 129)) := low_alloc W (.cells (homesV fun _ => .slice none 0 0).toArray 129)
  have HHO : Hid (Homes (W.alloc (.cells (homesV fun _ => .slice none 0 0).toArray 129)) W.heap.size W.heap.size (fun _ => .slice none 0 0) (fun _ => [])) := Lib.hid (Homes.start W W.heap.size)
  have HBH := Lib.hid hbh
  have hszh : (W.alloc (.cells (homesV fun _ => .slice none 0 0).toArray 129)).heap.size = W.heap.size + 1 := by simp
  have t0h := (hbh.cell (World.block_lt_of_cell? _ _ t0)).trans t0
  have h29 := (item_cells ((hbh.block xb hxl).trans HXB.out)).2.2.2.2.1
  have HTRH := Lib.hid (HTR.out.below hbh)
  generalize (W.alloc (.cells (homesV fun _ => .slice none 0 0).toArray 129)) = WH at *
  clear hbh t0
  have HSB : Hid (∀ X, Below WH.heap.size WH X → X.cell? ⟨h, 0, none⟩ = some (.pointer (some ⟨t, 0, none⟩)) ∧ X.cell? ⟨xb, 29, none⟩ = some (.string x.msg.t)) := Lib.hid (fun X hX' => ⟨(hX'.cell (World.block_lt_of_cell? _ _ t0h)).trans t0h, (hX'.cell (World.block_lt_of_cell? _ _ h29)).trans h29⟩)
  have HMA := Lib.hid (hmatch k t N x.msg.t s.gs Ft WH.drew (HTRH.out.below (Below.refl _ _).drew) (HTW.out.below HBH.out.drew) HX.out.m.1 (by omega))
  obtain ⟨cs, hcs⟩ : ∃ cs, toldG s.gs x.msg.t.data.toList = cs := ⟨_, rfl⟩
  have hcl : cs.length ≤ 400 := by
    have h1 := toldG_len s.gs x.msg.t.data.toList
    rw [hcs] at h1
    omega
  have HCL : Hid (∀ c ∈ cs, c.length ≤ 300) := Lib.hid (fun c hc => by
    rw [← hcs] at hc
    obtain ⟨g, hg, -, rfl⟩ := mem_toldG.1 hc
    exact HP.out.cl g hg)
  rw [hcs] at HMA
  replace HQ := Lib.hid (by have := HQ.out; rw [show toldG s.gs x.msg.k = cs from hcs] at this; exact this)
  clear hcs
  refine wp_region_held_drew (S := fun X => X.cell? ⟨h, 0, none⟩ = some (.pointer (some ⟨t, 0, none⟩)) ∧ X.cell? ⟨xb, 29, none⟩ = some (.string x.msg.t)) (by kernel_rfl) ⟨t0h, h29⟩ (fun hHeld => ?_)
  clear t0h h29
  refine wpAnyH_take (i := 0) (v := ?_) rfl (by kernel_rfl) (by kernel_rfl) (by kernel_rfl) (fun _ _ _ h => hQp _ _ _ _ h rfl) (Or.inl ⟨rfl, ?_⟩) hHeld ?_
  rotate_left
  · intro w0 hS0
    try dsimp only at hS0
    go_simp
    try with_reducible rfl
  simp only [List.getElem_toArray, List.getElem_cons_zero, Act.put, List.setIfInBounds_toArray, List.set_cons_zero, List.set_cons_succ]
  refine wpAnyH_take (i := 1) (v := ?_) rfl (by kernel_rfl) (by kernel_rfl) (by kernel_rfl) (fun _ _ _ h => hQp _ _ _ _ h rfl) (Or.inl ⟨rfl, ?_⟩) hHeld ?_
  rotate_left
  · intro w0 hS0
    try dsimp only at hS0
    go_simp
    try with_reducible rfl
  simp only [List.getElem_toArray, List.getElem_cons_zero, List.getElem_cons_succ, Act.put, List.setIfInBounds_toArray, List.set_cons_zero, List.set_cons_succ]
  refine wpAnyH_take (i := 2) (v := ?_) rfl (by kernel_rfl) (by kernel_rfl) (by kernel_rfl) (fun _ _ _ h => hQp _ _ _ _ h rfl) (Or.inl ⟨rfl, ?_⟩) hHeld ?_
  rotate_left
  · intro w0 hS0
    try dsimp only at hS0
    go_simp
    try with_reducible rfl
  simp only [List.getElem_toArray, List.getElem_cons_zero, List.getElem_cons_succ, Act.put, List.setIfInBounds_toArray, List.set_cons_zero, List.set_cons_succ]
  refine wpAnyH_take (i := 3) (v := ?_) rfl (by kernel_rfl) (by kernel_rfl) (by kernel_rfl) (fun _ _ _ h => hQp _ _ _ _ h rfl) (Or.inl ⟨rfl, ?_⟩) hHeld ?_
  rotate_left
  · intro w0 hS0
    try dsimp only at hS0
    go_simp
    try with_reducible rfl
  simp only [List.getElem_toArray, List.getElem_cons_zero, List.getElem_cons_succ, Act.put, List.setIfInBounds_toArray, List.set_cons_zero, List.set_cons_succ]
  refine wpAnyH_take (i := 4) (v := ?_) rfl (by kernel_rfl) (by kernel_rfl) (by kernel_rfl) (fun _ _ _ h => hQp _ _ _ _ h rfl) (Or.inl ⟨rfl, ?_⟩) hHeld ?_
  rotate_left
  · intro w0 hS0
    try dsimp only at hS0
    go_simp
    try with_reducible rfl
  simp only [List.getElem_toArray, List.getElem_cons_zero, List.getElem_cons_succ, Act.put, List.setIfInBounds_toArray, List.set_cons_zero, List.set_cons_succ]
  refine wpAnyH_take (i := 5) (v := ?_) rfl (by kernel_rfl) (by kernel_rfl) (by kernel_rfl) (fun _ _ _ h => hQp _ _ _ _ h rfl) (Or.inl ⟨rfl, ?_⟩) hHeld ?_
  rotate_left
  · intro w0 hS0
    try dsimp only at hS0
    go_simp
    try with_reducible rfl
  simp only [List.getElem_toArray, List.getElem_cons_zero, List.getElem_cons_succ, Act.put, List.setIfInBounds_toArray, List.set_cons_zero, List.set_cons_succ]
  refine wpAnyH_take (i := 6) (v := ?_) rfl (by kernel_rfl) (by kernel_rfl) (by kernel_rfl) (fun _ _ _ h => hQp _ _ _ _ h rfl) (Or.inl ⟨rfl, ?_⟩) hHeld ?_
  rotate_left
  · intro w0 hS0
    try dsimp only at hS0
    go_simp
    try with_reducible rfl
  simp only [List.getElem_toArray, List.getElem_cons_zero, List.getElem_cons_succ, Act.put, List.setIfInBounds_toArray, List.set_cons_zero, List.set_cons_succ]
  refine wpAnyH_take (i := 9) (v := ?_) rfl (by kernel_rfl) (by kernel_rfl) (by kernel_rfl) (fun _ _ _ h => hQp _ _ _ _ h rfl) (Or.inl ⟨rfl, ?_⟩) hHeld ?_
  rotate_left
  · intro w0 hS0
    try dsimp only at hS0
    go_simp
    try with_reducible rfl
  simp only [List.getElem_toArray, List.getElem_cons_zero, List.getElem_cons_succ, Act.put, List.setIfInBounds_toArray, List.set_cons_zero, List.set_cons_succ]
  refine wpAnyH_ready (rs := [7]) (by kernel_rfl) (by simp) ?_
  refine AllReadyH.cons rfl (fun K hK => ?_) AllReadyH.nil
  rw [if_pos (by rfl)]
  go_simp
  go_at_call 26
  refine HMA.out.mono ?_
  rintro e WM ⟨ra, rc, rfl, hrow, hkm⟩
  have HBM : Hid (Below WH.heap.size WH WM) := Lib.hid ((Below.refl WH.heap.size WH).drew.trans hkm)
  have HROW := Lib.hid hrow
  clear hrow hkm
  refine hK.out _ _ (HSB.out _ HBM.out) (fun hHeld => ?_)
  refine wpAnyH_take (i := 8) (v := ?_) rfl (by kernel_rfl) (by kernel_rfl) (by kernel_rfl) (fun _ _ _ h => hQp _ _ _ _ h rfl) (Or.inl ⟨rfl, ?_⟩) hHeld ?_
  rotate_left
  · intro w0 hS0
    try dsimp only at hS0
    go_simp
    try with_reducible rfl
  simp only [List.getElem_toArray, List.getElem_cons_zero, List.getElem_cons_succ, Act.put, List.setIfInBounds_toArray, List.set_cons_zero, List.set_cons_succ]
  refine wpAnyH_done (by kernel_rfl) ?_ _
  clear hHeld HSB HMA
  have HBWM : Hid (Below W.heap.size W WM) := Lib.hid (bnext HBH.out (Nat.le_refl _) HBM.out)
  have hwm : W.heap.size + 1 ≤ WM.heap.size := by have := HBM.out.size; omega
  have tnm := (HBWM.out.cell (World.block_lt_of_cell? _ _ tn)).trans tn
  have HHM := Lib.hid ((HHO.out.below HBM.out).rebase (B' := WM.heap.size) (fun _ _ => ⟨rfl, rfl⟩))
  have HXM := Lib.hid ((HBWM.out.block xb hxl).trans HXB.out)
  clear tn
  go_wp2_with fail
  refine homes_loop n h W.heap.size cs ra rc WM tnm HROW.out HHM.out (by omega) HCL.out hcl h1 h2 ?_
  intro d9 d10 d45 d46 d47 d48 d49 d50 d51 d52 d53 d54 d55 d56 d57 d58 d59 d60 d61 d62 d63 vs wb hHb hmb
  dsimp only
  have hwb : WM.heap.size ≤ wb.heap.size := hmb.size
  have HHB := Lib.hid hHb
  have HBLK := Lib.hid hHb.blk
  have HWB : Hid (Below W.heap.size W wb) := Lib.hid (HBWM.out.trans (hmb.below (by omega) (by simp)))
  have HSZ64 : Hid ((Tryz.prog.info? 129).map (·.size) = some (homesV vs).toArray.size) := Lib.hid (by rw [List.size_toArray, homesV_len]; kernel_rfl)
  have HXW := Lib.hid ((HWB.out.block xb hxl).trans HXB.out)
  clear hHb hmb
  obtain ⟨HV, hHV⟩ : ∃ HV, (homesV vs).toArray = HV := ⟨_, rfl⟩
  rw [hHV] at HBLK HSZ64
  go_wp2_with (first
    | (refine wpList_load_row rfl 129 _ rfl W.heap.size rfl 129 HV _ _ HBLK.out Tryz.underlying129 rfl HSZ64.out ?_)
    | fail)
  subst hHV
  refine send_loop n x cs vs WM.heap.size W.heap.size xb wb HHB.out HXW.out ?_
  intro v d12 d13 d14 d65 d66 d67 d68 d69 d70 d71 d72 d73 d74 d75 d76 d77 d78 d79 d80 d81 d82 d83 d84 d85 d86 d87 d88 w2 hown2 hb2
  dsimp only
  have HO2 : Hid (∀ G : List Nat, (∀ j ∈ G, j < W.heap.size) → OutM w2 (F ++ G) wb.heap.size v (sendL n x cs vs 64) (sendM n x cs 64)) := Lib.hid (fun G hG => by
    have hlt : ∀ j ∈ F ++ G, j < WM.heap.size := fun j hj => by
      rcases List.mem_append.1 hj with hj | hj
      · have := HFL.out j hj; omega
      · have := hG j hj; omega
    refine ⟨hown2, fun b hb hbF => ?_, Mails.upd ⟨Mod.of_below hb2 _, fun k hk => ?_⟩ (send_mails HHB.out hlt (k := 64) (Nat.le_refl _))⟩
    · have := (hown2.lt b hb).1
      have := hlt b hbF
      omega
    · rcases List.mem_append.1 hk with hk | hk
      · exact .inl hk
      · exact .inr (hown2.lt k (Option.mem_toList.1 hk)).1)
  have hll := sendM_len n x cs
  have hml : (sendL n x cs vs 64).length = (sendM n x cs 64).length := (HO2.out [] (by simp)).ms.len
  obtain ⟨va, vc, rfl, -, -, -⟩ := ownsRow_row hown2
  have HW2 : Hid (Below W.heap.size W w2) := Lib.hid (bnext HWB.out (Nat.le_refl _) hb2)
  have HX2 := Lib.hid ((HW2.out.block xb hxl).trans HXB.out)
  have HOWN2 := Lib.hid hown2
  have hs2 : wb.heap.size ≤ w2.heap.size := hb2.size
  clear hown2 hb2
  rw [hml] at *
  have HBU := Lib.hid (fun (_ : Unit) => built_routed ((sendM n x cs 64).length : Int))
  have HAY := Lib.hid (fun W => HAN.out (itemB 10 none 0 [] ((sendM n x cs 64).length : Int)) W)
  have HBD := Lib.hid (build_mail ⟨x.frm, itemOf (backM x 10 [] (sendM n x cs 64).length) none 0 none 0⟩)
  have HMC : Hid ((Mail.cells ⟨x.frm, itemOf (backM x 10 [] (sendM n x cs 64).length) none 0 none 0⟩).toArray.size = 1 * 40) := Lib.hid rfl
  have HM1 := Lib.hid (mails_one [⟨x.frm, itemOf (backM x 10 [] (sendM n x cs 64).length) none 0 none 0⟩])
  have hmv : mailsV [(⟨x.frm, itemOf (backM x 10 [] (sendM n x cs 64).length) none 0 none 0⟩ : Mail)] = Mail.cells ⟨x.frm, itemOf (backM x 10 [] (sendM n x cs 64).length) none 0 none 0⟩ := by simp [mailsV]
  have HMV := Lib.hid hmv
  rw [hmv] at HM1
  clear hmv
  have e0 : ({ itemB 10 none 0 [] ((sendM n x cs 64).length : Int) with op := x.op, client := x.client } : Item) = itemOf (backM x 10 [] (sendM n x cs 64).length) none 0 none 0 := rfl
  rw [e0] at HAY
  clear e0
  have HMA : Hid (∀ W G, MailAt W G ⟨x.frm, itemOf (backM x 10 [] (sendM n x cs 64).length) none 0 none 0⟩ (backM x 10 [] (sendM n x cs 64).length)) := Lib.hid (fun W G => ⟨none, 0, none, 0, rfl, .inl rfl, .inl rfl⟩)
  generalize hmlx : (⟨x.frm, itemOf (backM x 10 [] (sendM n x cs 64).length) none 0 none 0⟩ : Mail) = ML at *
  clear hmlx
  generalize (itemB 10 none 0 [] ((sendM n x cs 64).length : Int)).cells.toArray = YA at *
  generalize hmc : ML.cells = MC at *
  clear hmc
  generalize x.cells.toArray = XA at *
  go_wp2_with (first
    | (refine wpList_load_row rfl 36 _ rfl xb rfl 36 XA _ _ HX2.out Tryz.underlying36 rfl HXS.out ?_)
    | (refine wpList_buildBy rfl 36 _ rfl _ rfl YA [(0, .int .u8 10), (11, .int .i64 (sendM n x cs 64).length)] (by kernel_rfl) (HBU.out ()) ?_)
    | fail)
  refine (HAY.out _).mono ?_
  rintro e w3 ⟨rfl, hk3⟩
  have HW3 : Hid (Below W.heap.size W w3) := Lib.hid (bnext HW2.out (Nat.le_refl _) hk3)
  have HK3 := Lib.hid hk3
  have hs3 : w2.heap.size ≤ w3.heap.size := hk3.size
  have HOWN3 := Lib.hid (ownsRow_local (w' := w3) HOWN2.out fun j hj => hk3.block j (HOWN2.out.lt j hj).2)
  clear hk3
  go_wp2_with (first
    | (refine wpList_build1 HBD.out rfl _ rfl rfl _ rfl w3.heap.size rfl ?_)
    | (at_builtin; refine wpList_appS (m := 1) T_mail HOWN3.out rfl rfl rfl rfl rfl _ rfl HMC.out (by decide) (by simpa using HM1.out) (by omega) (by omega) (by omega) ?_; intro ng cap w8 hown8 hg8 hb8 hlt8; have H8 := Lib.hid (And.intro hown8 (And.intro hg8 hb8)); clear hown8 hg8 hb8 hlt8)
    | fail)
  obtain ⟨hown8, hg8, hb8⟩ := H8.out
  refine HQ.out _ (sendL n x cs vs 64 ++ [ML]) _ ((HW3.out.alloc (by omega) _).grown hg8 (by simp; omega) fun k hk => by have := (HOWN3.out.lt k hk).1; omega) (fun G hG => ?_)
  have o3 := (HO2.out G hG).below HK3.out
  have e3 := o3.ms.len
  obtain ⟨o4, -⟩ := OutM.grow (v' := .slice (some ⟨ng, 0, none⟩) ((sendM n x cs 64).length + 1) cap) (M2 := [ML]) (H2 := [backM x 10 [] (sendM n x cs 64).length]) o3 (fun j hj => by
    rcases List.mem_append.1 hj with hj | hj
    · have := HFL.out j hj; omega
    · have := hG j hj; omega) (low_alloc w3 _) (by rw [e3, HMV.out]; simpa using hown8) hg8 (fun b hb => by
    obtain rfl : ng = b := by simpa [Value.ownBlock] using hb
    exact hb8) ⟨HMA.out _ _, trivial⟩
  exact ⟨row_base o4.own (by omega), o4.off, o4.ms⟩
theorem keeps_no {x : Item} (h : x.msg.r = false ∨ mayB x.msg = false) : keeps x = false := by unfold keeps; rcases h with h | h <;> simp [h]
theorem keeps_yes {x : Item} (h : x.msg.r = true) (h2 : mayB x.msg = true) : keeps x = true := by unfold keeps; simp [h, h2]
/-- what is left of route, behind what it keeps -/
theorem route_end {w0 w W : World} {h n k : Nat} {s : HubS} {lv : Value} {ns1 ns2 : List NoteK} {F F1 : List Nat} {x : Item} {kp : List Msg} (hp : Hb w0 W h n (k + 1) ⟨s.gs, kp⟩ lv ns1 F1) (hu : Upd F F1 w W) (hk : kp = routeK x s.kp) (hn : ns1 = ns2)
    {v : Value} {L : List Mail} {w' : World} (hb : Below W.heap.size W w') (ho : ∀ G : List Nat, (∀ j ∈ G, j < W.heap.size) → OutM w' (F1 ++ G) W.heap.size v L (sendM n x (toldG s.gs x.msg.k) 64 ++ [backM x 10 [] (sendM n x (toldG s.gs x.msg.k) 64).length])) :
    ∃ v' L F', v = v' ∧ Hb w0 w' h n (k + 1) ⟨s.gs, routeK x s.kp⟩ lv ns2 F' ∧ Upd F F' w w' ∧ ∀ G : List Nat, (∀ j ∈ G, j < w.heap.size) → OutM w' (F' ++ G) w.heap.size v' L (routeM n x s) := by
  subst hk hn
  refine ⟨v, L, F1, rfl, hp.below hb, ⟨hu.1.next hb, hu.2⟩, fun G hG => ?_⟩
  have hs := hu.1.size
  have o := ho G (fun j hj => by have := hG j hj; omega)
  exact ⟨row_base o.own hs, o.off, o.ms⟩
theorem built_keeps (op : Int) (c : ByteArray) (m : Msg) : Tryz.prog.built 88 [(0, .int .u8 5), (1, .int .i64 op), (3, .string c), (5, .agg #[.string m.t, .string m.p, .int .u8 m.q, .bool m.r])] = some (NoteK.note ⟨op, c, m⟩).cells.toArray := by
  obtain ⟨t, p, q, r⟩ := m
  kernel_rfl
set_option maxRecDepth 100000 in
set_option maxHeartbeats 8000000 in
theorem hroute_any (w0 : World) (h n k : Nat) (s : HubS) (lv : Value) (ns : List NoteK) (F : List Nat) (x : Item) (w : World) (hp : Hb w0 w h n k s lv ns F) (hT : Tabs w0) (hx : SmallI x) (hk : k ≤ 399) (h1 : 1 ≤ n) (h2 : n ≤ 64) :
    Calls Tryz.prog 47 #[.pointer (some ⟨h, 0, none⟩), lv, .agg x.cells.toArray] w fun e w' => ∃ v L F', e = .returned v ∧ Hb w0 w' h n (k + 1) ⟨s.gs, routeK x s.kp⟩ lv (ns ++ if keeps x then [⟨x.op, x.client, x.msg⟩] else []) F' ∧ Upd F F' w w' ∧ ∀ G : List Nat, (∀ j ∈ G, j < w.heap.size) → OutM w' (F' ++ G) w.heap.size v L (routeM n x s) := by
  have hba := low_alloc w (.cells x.cells.toArray 36)
  have HBA := Lib.hid hba
  have HXA := Lib.hid (heap_alloc_new w (.cells x.cells.toArray 36))
  have HP := Lib.hid (hp.below hba)
  have HT := Lib.hid hT
  have HX := Lib.hid hx
  have hhl : h < w.heap.size := hp.lt h hp.mem
  have HFL := Lib.hid hp.lt
  clear hba hp hT hx
  obtain ⟨-, x1, x3, -, x29, x30, x31, x32, x36⟩ := item_cells HXA.out
  cases hr : x.msg.r with
  | false =>
    rw [hr] at x32
    have HK := Lib.hid (keeps_no (x := x) (.inl hr))
    go_enter Tryz.func47, Tryz.ntmps47
    refine wp_seq_k (fun K hK => ?_)
    replace hK := Lib.hid hK
    go_wp2_with fail
    refine hK.out _ _ ?_
    refine wp_seq_k (fun K2 hK2 => ?_)
    have HK2 := Lib.hid hK2
    clear hK2
    go_wp2_with fail
    refine wp_region_held_drew (S := fun X => X.cell? ⟨w.heap.size, 32, none⟩ = some (.bool false)) (by kernel_rfl) x32 (fun hHeld => ?_)
    refine wpAnyH_take (i := 0) (v := ?_) rfl (by kernel_rfl) (by kernel_rfl) (by kernel_rfl) (fun _ _ _ h => h) (Or.inl ⟨rfl, ?_⟩) hHeld ?_
    rotate_left
    · intro w0 hS0
      try dsimp only at hS0
      go_simp
      try with_reducible rfl
    simp only [List.getElem_toArray, List.getElem_cons_zero, Act.put, List.setIfInBounds_toArray, List.set_cons_zero, List.set_cons_succ]
    refine wpAnyH_take (i := 1) (v := ?_) rfl (by kernel_rfl) (by kernel_rfl) (by kernel_rfl) (fun _ _ _ h => h) (Or.inl ⟨rfl, ?_⟩) hHeld ?_
    rotate_left
    · intro w0 hS0
      try dsimp only at hS0
      go_simp
      try with_reducible rfl
    simp only [List.getElem_toArray, List.getElem_cons_zero, List.getElem_cons_succ, Act.put, List.setIfInBounds_toArray, List.set_cons_zero, List.set_cons_succ]
    refine wpAnyH_take (i := 2) (v := ?_) rfl (by kernel_rfl) (by kernel_rfl) (by kernel_rfl) (fun _ _ _ h => h) (Or.inl ⟨rfl, ?_⟩) hHeld ?_
    rotate_left
    · intro w0 hS0
      try dsimp only at hS0
      go_simp
      try with_reducible rfl
    simp only [List.getElem_toArray, List.getElem_cons_zero, List.getElem_cons_succ, Act.put, List.setIfInBounds_toArray, List.set_cons_zero, List.set_cons_succ]
    refine wpAnyH_take (i := 3) (v := ?_) rfl (by kernel_rfl) (by kernel_rfl) (by kernel_rfl) (fun _ _ _ h => h) (Or.inl ⟨rfl, ?_⟩) hHeld ?_
    rotate_left
    · intro w0 hS0
      try dsimp only at hS0
      go_simp
      try with_reducible rfl
    simp only [List.getElem_toArray, List.getElem_cons_zero, List.getElem_cons_succ, Act.put, List.setIfInBounds_toArray, List.set_cons_zero, List.set_cons_succ]
    refine wpAnyH_take (i := 4) (v := undef) rfl (by kernel_rfl) (by kernel_rfl) (by kernel_rfl) (fun _ _ _ h => h) (Or.inr ⟨rfl, rfl⟩) hHeld ?_
    simp only [List.getElem_toArray, List.getElem_cons_zero, List.getElem_cons_succ, Act.put, List.setIfInBounds_toArray, List.set_cons_zero, List.set_cons_succ]
    refine wpAnyH_take (i := 5) (v := undef) rfl (by kernel_rfl) (by kernel_rfl) (by kernel_rfl) (fun _ _ _ h => h) (Or.inr ⟨rfl, rfl⟩) hHeld ?_
    simp only [List.getElem_toArray, List.getElem_cons_zero, List.getElem_cons_succ, Act.put, List.setIfInBounds_toArray, List.set_cons_zero, List.set_cons_succ]
    refine wpAnyH_take (i := 6) (v := undef) rfl (by kernel_rfl) (by kernel_rfl) (by kernel_rfl) (fun _ _ _ h => h) (Or.inr ⟨rfl, rfl⟩) hHeld ?_
    simp only [List.getElem_toArray, List.getElem_cons_zero, List.getElem_cons_succ, Act.put, List.setIfInBounds_toArray, List.set_cons_zero, List.set_cons_succ]
    refine wpAnyH_take (i := 7) (v := undef) rfl (by kernel_rfl) (by kernel_rfl) (by kernel_rfl) (fun _ _ _ h => h) (Or.inr ⟨rfl, rfl⟩) hHeld ?_
    simp only [List.getElem_toArray, List.getElem_cons_zero, List.getElem_cons_succ, Act.put, List.setIfInBounds_toArray, List.set_cons_zero, List.set_cons_succ]
    refine wpAnyH_take (i := 8) (v := undef) rfl (by kernel_rfl) (by kernel_rfl) (by kernel_rfl) (fun _ _ _ h => h) (Or.inr ⟨rfl, rfl⟩) hHeld ?_
    simp only [List.getElem_toArray, List.getElem_cons_zero, List.getElem_cons_succ, Act.put, List.setIfInBounds_toArray, List.set_cons_zero, List.set_cons_succ]
    refine wpAnyH_take (i := 9) (v := undef) rfl (by kernel_rfl) (by kernel_rfl) (by kernel_rfl) (fun _ _ _ h => h) (Or.inr ⟨rfl, rfl⟩) hHeld ?_
    simp only [List.getElem_toArray, List.getElem_cons_zero, List.getElem_cons_succ, Act.put, List.setIfInBounds_toArray, List.set_cons_zero, List.set_cons_succ]
    refine wpAnyH_take (i := 10) (v := undef) rfl (by kernel_rfl) (by kernel_rfl) (by kernel_rfl) (fun _ _ _ h => h) (Or.inr ⟨rfl, rfl⟩) hHeld ?_
    simp only [List.getElem_toArray, List.getElem_cons_zero, List.getElem_cons_succ, Act.put, List.setIfInBounds_toArray, List.set_cons_zero, List.set_cons_succ]
    refine wpAnyH_take (i := 11) (v := ?_) rfl (by kernel_rfl) (by kernel_rfl) (by kernel_rfl) (fun _ _ _ h => h) (Or.inl ⟨rfl, ?_⟩) hHeld ?_
    rotate_left
    · intro w0 hS0
      try dsimp only at hS0
      go_simp
      try with_reducible rfl
    simp only [List.getElem_toArray, List.getElem_cons_zero, List.getElem_cons_succ, Act.put, List.setIfInBounds_toArray, List.set_cons_zero, List.set_cons_succ]
    refine wpAnyH_done (by kernel_rfl) ?_ _
    clear hHeld
    go_wp2_with fail
    refine HK2.out _ _ ?_
    refine route_rest w0 h n (k + 1) s lv ns F x w.heap.size _ ((HP.out.more (Nat.le_succ k)).below (Below.refl _ _).drew) HT.out HX.out (by omega) h1 h2 HXA.out ?_ ?_
    · exact quiet_body
    · intro d7 d9 d10 d11 d12 d13 d14 d36 d37 d38 d39 d40 d41 d42 d43 d44 d45 d46 d47 d48 d49 d50 d51 d52 d53 d54 d55 d56 d57 d58 d59 d60 d61 d62 d63 d64 d65 d66 d67 d68 d69 d70 d71 d72 d73 d74 d75 d76 d77 d78 d79 d80 d81 d82 d83 d84 d85 d86 d87 d88 d89 d90 d91 d92 d93 d94 d95 d96 v L w' hb ho
      dsimp only
      go_ret
      obtain ⟨v', L', F', e, h5⟩ := route_end (s := s) (kp := s.kp) (ns2 := ns ++ if keeps x then [⟨x.op, x.client, x.msg⟩] else []) ((HP.out.more (Nat.le_succ k)).below (Below.refl _ _).drew) (w := w) ⟨Mod.of_below (HBA.out.drew) F, fun _ h => .inl h⟩ (by unfold routeK; rw [hr]; rfl) (by rw [HK.out]; simp) hb ho
      subst e
      exact ⟨_, L', F', rfl, h5⟩
  | true =>
    rw [hr] at x32
    have HR := Lib.hid (fun (_ : Unit) => hr)
    obtain ⟨bm, hbm⟩ : ∃ b, mayB x.msg = b := ⟨_, rfl⟩
    obtain ⟨g, KF, c1, hkr, hup⟩ := HP.out.lensK
    have HUP := Lib.hid hup
    have HKS := kset_h bm g x.msg s.kp KF (w.alloc (.cells x.cells.toArray 36)).drew (hkr.below (Below.refl _ _).drew) ((HT.out.below HP.out.bel).below (Below.refl _ _).drew) HX.out.m (by have := HP.out.kl; omega) hbm
    rw [hr] at HKS
    replace HKS := Lib.hid HKS
    have HXF : Hid (∀ F' : List Nat, (∀ j ∈ F', j ∈ F ∨ (w.alloc (.cells x.cells.toArray 36)).heap.size ≤ j) → w.heap.size ∉ F') := Lib.hid (fun F' h hm => by
      rcases h _ hm with h | h
      · have := HFL.out _ h; omega
      · simp at h; omega)
    have hxF : w.heap.size ∉ F := fun hm => by have := HFL.out _ hm; omega
    have HXC : Hid (∀ X : World, X.heap[w.heap.size]? = (w.alloc (.cells x.cells.toArray 36)).heap[w.heap.size]? → X.cell? ⟨w.heap.size, 1, none⟩ = some (.int .i64 x.op) ∧ X.cell? ⟨w.heap.size, 3, none⟩ = some (.string x.client) ∧ X.cell? ⟨w.heap.size, 29, none⟩ = some (.string x.msg.t) ∧ X.cell? ⟨w.heap.size, 30, none⟩ = some (.string x.msg.p) ∧ X.cell? ⟨w.heap.size, 31, none⟩ = some (.int .u8 x.msg.q) ∧ X.cell? ⟨w.heap.size, 32, none⟩ = some (.bool true)) := Lib.hid (fun X h => by
      obtain ⟨-, y1, y3, -, y29, y30, y31, y32, -⟩ := item_cells (h.trans HXA.out)
      rw [hr] at y32
      exact ⟨y1, y3, y29, y30, y31, y32⟩)
    have hxl : w.heap.size < (w.alloc (.cells x.cells.toArray 36)).heap.size := by simp
    have HBU := built_keeps x.op x.client x.msg
    rw [hr] at HBU
    replace HBU := Lib.hid (fun (_ : Unit) => HBU)
    have HLA := Lib.hid (fun G w2 (h : LogAt w2 lv ns G) => log_add ⟨x.op, x.client, x.msg⟩ lv ns G w2 h (by have := HP.out.nl; omega))
    generalize (NoteK.note ⟨x.op, x.client, x.msg⟩).cells.toArray = NA at *
    clear hup hkr x1 x3 x36
    go_enter Tryz.func47, Tryz.ntmps47
    refine wp_seq_k (fun K hK => ?_)
    replace hK := Lib.hid hK
    go_wp2_with fail
    refine hK.out _ _ ?_
    refine wp_seq_k (fun K2 hK2 => ?_)
    have HK2 := Lib.hid hK2
    clear hK2
    go_wp2_with fail
    refine wp_region_held_drew (S := fun X => X.cell? ⟨h, 1, none⟩ = some (.pointer (some ⟨g, 0, none⟩)) ∧ X.cell? ⟨w.heap.size, 29, none⟩ = some (.string x.msg.t) ∧ X.cell? ⟨w.heap.size, 30, none⟩ = some (.string x.msg.p) ∧ X.cell? ⟨w.heap.size, 31, none⟩ = some (.int .u8 x.msg.q) ∧ X.cell? ⟨w.heap.size, 32, none⟩ = some (.bool true)) (by kernel_rfl) ⟨c1, x29, x30, x31, x32⟩ (fun hHeld => ?_)
    clear x29 x30 x31 x32 c1
    refine wpAnyH_take (i := 0) (v := ?_) rfl (by kernel_rfl) (by kernel_rfl) (by kernel_rfl) (fun _ _ _ h => h) (Or.inl ⟨rfl, ?_⟩) hHeld ?_
    rotate_left
    · intro w0 hS0
      try dsimp only at hS0
      go_simp
      try with_reducible rfl
    simp only [List.getElem_toArray, List.getElem_cons_zero, Act.put, List.setIfInBounds_toArray, List.set_cons_zero, List.set_cons_succ]
    refine wpAnyH_take (i := 1) (v := ?_) rfl (by kernel_rfl) (by kernel_rfl) (by kernel_rfl) (fun _ _ _ h => h) (Or.inl ⟨rfl, ?_⟩) hHeld ?_
    rotate_left
    · intro w0 hS0
      try dsimp only at hS0
      go_simp
      try with_reducible rfl
    simp only [List.getElem_toArray, List.getElem_cons_zero, List.getElem_cons_succ, Act.put, List.setIfInBounds_toArray, List.set_cons_zero, List.set_cons_succ]
    refine wpAnyH_take (i := 2) (v := ?_) rfl (by kernel_rfl) (by kernel_rfl) (by kernel_rfl) (fun _ _ _ h => h) (Or.inl ⟨rfl, ?_⟩) hHeld ?_
    rotate_left
    · intro w0 hS0
      try dsimp only at hS0
      go_simp
      try with_reducible rfl
    simp only [List.getElem_toArray, List.getElem_cons_zero, List.getElem_cons_succ, Act.put, List.setIfInBounds_toArray, List.set_cons_zero, List.set_cons_succ]
    refine wpAnyH_take (i := 3) (v := ?_) rfl (by kernel_rfl) (by kernel_rfl) (by kernel_rfl) (fun _ _ _ h => h) (Or.inl ⟨rfl, ?_⟩) hHeld ?_
    rotate_left
    · intro w0 hS0
      try dsimp only at hS0
      go_simp
      try with_reducible rfl
    simp only [List.getElem_toArray, List.getElem_cons_zero, List.getElem_cons_succ, Act.put, List.setIfInBounds_toArray, List.set_cons_zero, List.set_cons_succ]
    refine wpAnyH_take (i := 4) (v := ?_) rfl (by kernel_rfl) (by kernel_rfl) (by kernel_rfl) (fun _ _ _ h => h) (Or.inl ⟨rfl, ?_⟩) hHeld ?_
    rotate_left
    · intro w0 hS0
      try dsimp only at hS0
      go_simp
      try with_reducible rfl
    simp only [List.getElem_toArray, List.getElem_cons_zero, List.getElem_cons_succ, Act.put, List.setIfInBounds_toArray, List.set_cons_zero, List.set_cons_succ]
    refine wpAnyH_take (i := 5) (v := ?_) rfl (by kernel_rfl) (by kernel_rfl) (by kernel_rfl) (fun _ _ _ h => h) (Or.inl ⟨rfl, ?_⟩) hHeld ?_
    rotate_left
    · intro w0 hS0
      try dsimp only at hS0
      go_simp
      try with_reducible rfl
    simp only [List.getElem_toArray, List.getElem_cons_zero, List.getElem_cons_succ, Act.put, List.setIfInBounds_toArray, List.set_cons_zero, List.set_cons_succ]
    refine wpAnyH_take (i := 6) (v := ?_) rfl (by kernel_rfl) (by kernel_rfl) (by kernel_rfl) (fun _ _ _ h => h) (Or.inl ⟨rfl, ?_⟩) hHeld ?_
    rotate_left
    · intro w0 hS0
      try dsimp only at hS0
      go_simp
      try with_reducible rfl
    simp only [List.getElem_toArray, List.getElem_cons_zero, List.getElem_cons_succ, Act.put, List.setIfInBounds_toArray, List.set_cons_zero, List.set_cons_succ]
    refine wpAnyH_take (i := 7) (v := ?_) rfl (by kernel_rfl) (by kernel_rfl) (by kernel_rfl) (fun _ _ _ h => h) (Or.inl ⟨rfl, ?_⟩) hHeld ?_
    rotate_left
    · intro w0 hS0
      try dsimp only at hS0
      go_simp
      try with_reducible rfl
    simp only [List.getElem_toArray, List.getElem_cons_zero, List.getElem_cons_succ, Act.put, List.setIfInBounds_toArray, List.set_cons_zero, List.set_cons_succ]
    refine wpAnyH_take (i := 8) (v := ?_) rfl (by kernel_rfl) (by kernel_rfl) (by kernel_rfl) (fun _ _ _ h => h) (Or.inl ⟨rfl, ?_⟩) hHeld ?_
    rotate_left
    · intro w0 hS0
      try dsimp only at hS0
      go_simp
      try with_reducible rfl
    simp only [List.getElem_toArray, List.getElem_cons_zero, List.getElem_cons_succ, Act.put, List.setIfInBounds_toArray, List.set_cons_zero, List.set_cons_succ]
    refine wpAnyH_take (i := 9) (v := ?_) rfl (by kernel_rfl) (by kernel_rfl) (by kernel_rfl) (fun _ _ _ h => h) (Or.inl ⟨rfl, ?_⟩) hHeld ?_
    rotate_left
    · intro w0 hS0
      try dsimp only at hS0
      go_simp
      try with_reducible rfl
    simp only [List.getElem_toArray, List.getElem_cons_zero, List.getElem_cons_succ, Act.put, List.setIfInBounds_toArray, List.set_cons_zero, List.set_cons_succ]
    refine wpAnyH_ready (rs := [10]) (by kernel_rfl) (by simp) ?_
    refine AllReadyH.cons rfl (fun K hK => ?_) AllReadyH.nil
    rw [if_pos (by rfl)]
    go_simp
    go_at_call 43
    refine HKS.out.mono ?_
    rintro e w2 ⟨rfl, hkr2, hu2⟩
    obtain ⟨c1', F1, hp1, hu1⟩ := HUP.out _ w2 (Below.refl _ _).drew (setB x.msg s.kp) (k + 1) KF hkr2 hu2 (by omega) (keepL HP.out.kl) (fun m hm => by
      rcases mem_setB hm with h | rfl
      · exact HP.out.ok m h
      · exact HX.out.m.1) (up_setBh HP.out.up)
    have hx2 : w2.heap[w.heap.size]? = (w.alloc (.cells x.cells.toArray 36)).heap[w.heap.size]? := hu1.1.block _ hxl hxF
    have hxc := HXC.out w2 hx2
    refine hK.out _ _ ⟨c1', hxc.2.2⟩ (fun hHeld => ?_)
    have HP1 := Lib.hid hp1
    have HF1 := Lib.hid (HXF.out F1 hu1.2)
    have HX2 := Lib.hid (hx2.trans HXA.out)
    have HU1 : Hid (Upd F F1 w w2) := Lib.hid ⟨(Mod.of_below HBA.out.drew F).trans hu1.1 fun k hk => .inl hk, fun j hj => (hu1.2 j hj).imp id fun h => Nat.le_trans (by simp) h⟩
    obtain ⟨y1, y3, y29, y30, y31, y32⟩ := hxc
    clear hkr2 hu2 c1' hp1 hx2 hu1
    cases bm with
    | false =>
      have HKP := Lib.hid (keeps_no (x := x) (.inr hbm))
      clear hbm y1 y3 y29 y30 y31 y32
      refine wpAnyH_take (i := 11) (v := ?_) rfl (by kernel_rfl) (by kernel_rfl) (by kernel_rfl) (fun _ _ _ h => h) (Or.inl ⟨rfl, ?_⟩) hHeld ?_
      rotate_left
      · intro w0 hS0
        try dsimp only at hS0
        go_simp
        try with_reducible rfl
      simp only [List.getElem_toArray, List.getElem_cons_zero, List.getElem_cons_succ, Act.put, List.setIfInBounds_toArray, List.set_cons_zero, List.set_cons_succ]
      refine wpAnyH_done (by kernel_rfl) ?_ _
      clear hHeld
      go_wp2_with fail
      refine HK2.out _ _ ?_
      refine route_rest w0 h n (k + 1) _ lv _ F1 x w.heap.size _ HP1.out HT.out HX.out (by omega) h1 h2 (HX2.out) ?_ ?_
      · exact quiet_body
      · intro d7 d9 d10 d11 d12 d13 d14 d36 d37 d38 d39 d40 d41 d42 d43 d44 d45 d46 d47 d48 d49 d50 d51 d52 d53 d54 d55 d56 d57 d58 d59 d60 d61 d62 d63 d64 d65 d66 d67 d68 d69 d70 d71 d72 d73 d74 d75 d76 d77 d78 d79 d80 d81 d82 d83 d84 d85 d86 d87 d88 d89 d90 d91 d92 d93 d94 d95 d96 v L w' hb ho
        dsimp only
        go_ret
        obtain ⟨v', L', F', e, h5⟩ := route_end (s := s) (kp := setB x.msg s.kp) (ns2 := ns ++ if keeps x then [⟨x.op, x.client, x.msg⟩] else []) HP1.out (w := w) HU1.out (by unfold routeK; rw [HR.out ()]; rfl) (by rw [HKP.out]; simp) hb ho
        subst e
        exact ⟨_, L', F', rfl, h5⟩
    | true =>
      have HKP := Lib.hid (keeps_yes (x := x) hr hbm)
      obtain ⟨G, hlg, hupL⟩ := HP1.out.lensL
      have HLG := Lib.hid (HLA.out G w2 hlg)
      have HUL := Lib.hid hupL
      clear hbm hlg hupL
      refine wpAnyH_take (i := 11) (v := ?_) rfl (by kernel_rfl) (by kernel_rfl) (by kernel_rfl) (fun _ _ _ h => h) (Or.inl ⟨rfl, ?_⟩) hHeld ?_
      rotate_left
      · intro w0 hS0
        try dsimp only at hS0
        go_simp
        try with_reducible rfl
      simp only [List.getElem_toArray, List.getElem_cons_zero, List.getElem_cons_succ, Act.put, List.setIfInBounds_toArray, List.set_cons_zero, List.set_cons_succ]
      refine wpAnyH_done (by kernel_rfl) ?_ _
      clear hHeld
      go_wp2_with (first
        | (refine wpList_buildBy rfl 88 _ rfl _ rfl NA [(0, .int .u8 5), (1, .int .i64 x.op), (3, .string x.client), (5, .agg #[.string x.msg.t, .string x.msg.p, .int .u8 x.msg.q, .bool true])] (by kernel_rfl) (HBU.out ()) ?_)
        | fail)
      refine HLG.out.mono ?_
      rintro e w3 ⟨i, rfl, G', hl3, hu3⟩
      obtain ⟨F2, hp2, hu2⟩ := HUL.out w2 w3 (Below.refl _ _) _ (k + 1) G' hl3 hu3 (Nat.le_refl _) (by rw [List.length_append]; have := HP.out.nl; simp; omega)
      have HP2 := Lib.hid hp2
      have HX3 := Lib.hid ((hu2.1.block w.heap.size (Array.getElem?_eq_some_iff.1 HX2.out).1 HF1.out).trans HX2.out)
      have HU2 : Hid (Upd F F2 w w3) := Lib.hid ⟨HU1.out.1.trans hu2.1 HU1.out.2, fun j hj => (hu2.2 j hj).elim (HU1.out.2 j) fun h => .inr (Nat.le_trans HU1.out.1.size h)⟩
      clear hl3 hu3 hp2 hu2
      go_wp2_with fail
      refine HK2.out _ _ ?_
      refine route_rest w0 h n (k + 1) _ lv _ F2 x w.heap.size _ HP2.out HT.out HX.out (by omega) h1 h2 (HX3.out) ?_ ?_
      · exact quiet_body
      · intro d7 d9 d10 d11 d12 d13 d14 d36 d37 d38 d39 d40 d41 d42 d43 d44 d45 d46 d47 d48 d49 d50 d51 d52 d53 d54 d55 d56 d57 d58 d59 d60 d61 d62 d63 d64 d65 d66 d67 d68 d69 d70 d71 d72 d73 d74 d75 d76 d77 d78 d79 d80 d81 d82 d83 d84 d85 d86 d87 d88 d89 d90 d91 d92 d93 d94 d95 d96 v L w' hb ho
        dsimp only
        go_ret
        obtain ⟨v', L', F', e, h5⟩ := route_end (s := s) (kp := setB x.msg s.kp) (ns2 := ns ++ if keeps x then [⟨x.op, x.client, x.msg⟩] else []) HP2.out (w := w) HU2.out (by unfold routeK; rw [HR.out ()]; rfl) (by rw [HKP.out]; simp) hb ho
        subst e
        exact ⟨_, L', F', rfl, h5⟩
end
end Go.Proofs.YthfdcphecggjeaaGreatDoor
