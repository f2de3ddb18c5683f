/- A session's laws: two sessions of the call's own; rows of calls. Packets: packet.Same at two that are the same, without filters. A session's law: told walked. A session's law: what is told, compared. A session that was begun with Clean is as a new one that is begun so: SessionFresh walked. -/
import Derived.Test.YtmkhagmjpbfieaaGreatDoorSeGX
import Derived.Test.YtmkhagmjpbfieaaGreatDoorPkY
import Derived.Test.YtmkhagmjpbfieaaGreatDoorIRX
namespace Go.Proofs.YtmkhagmjpbfieaaGreatDoor
section
open Go Go.RowKit

structure Se2 (w0 w : World) (s t : Nat) (win most : Int) (x y : SS) (F G : List Nat) : Prop where
  a : Se w0 w s win most x F
  b : Se w0 w t win most y G
  off : Off F G
section
variable {w0 w w' : World} {s t : Nat} {win most : Int} {x y x' y' : SS} {F G F' G' : List Nat}
theorem Se2.ua (h : Se2 w0 w s t win most x y F G) (hr : SesRep w' s win most x' F') (hu : Upd F F' w w') : Se2 w0 w' s t win most x' y F' G := by
  have h1 := h.a.upd hr hu
  exact ⟨h1, ⟨h1.bel, h.b.rep.mod hu.1 fun k hk hk' => h.off k hk' hk, h.b.hi⟩, hu.off h.off h.b.rep.lt⟩
theorem Se2.ub (h : Se2 w0 w s t win most x y F G) (hr : SesRep w' t win most y' G') (hu : Upd G G' w w') : Se2 w0 w' s t win most x y' F G' := by
  have h1 := h.b.upd hr hu
  exact ⟨⟨h1.bel, h.a.rep.mod hu.1 fun k hk hk' => h.off k hk hk', h.a.hi⟩, h1, (hu.off h.off.symm h.a.rep.lt).symm⟩
theorem Se2.below (h : Se2 w0 w s t win most x y F G) (hb : Below w.heap.size w w') : Se2 w0 w' s t win most x y F G := ⟨h.a.below hb, h.b.below hb, h.off⟩
end
def doAll (win most : Int) (l : List ActS) (x : SS) : SS := l.foldl (fun x a => doS win most a x) x
theorem doAll_snoc {win most : Int} {l : List ActS} {x : SS} {k : Nat} (h : k < l.length) : doAll win most (l.take (k + 1)) x = doS win most l[k] (doAll win most (l.take k) x) := by
  rw [List.take_succ_eq_append_getElem h]
  unfold doAll
  rw [List.foldl_append]; rfl
theorem again_subs (x : Sent) : (againK x).subs = [] := by
  unfold againK
  split <;> rfl
theorem resume_subs (o : OT) : ∀ x ∈ resumeO o, x.subs = [] := by
  intro x hx
  obtain ⟨y, -, rfl⟩ := List.mem_map.1 hx
  exact again_subs y
theorem SesRep.lens {w : World} {s : Nat} {win most : Int} {x : SS} {F : List Nat} (h : SesRep w s win most x F) : x.l.length ≤ 16 ∧ (resumeO x.o).length ≤ 1024 ∧ x.came.length ≤ 65535 ∧ x.o.wait.length ≤ 1024 := by
  obtain ⟨lb, tb, cb, FL, FO, FC, hp, rfl⟩ := h
  have h1 := hp.subs.len
  have h2 := hp.out.lens
  have h3 := hp.came.len
  refine ⟨h1, by simp [resumeO]; omega, by omega, h2.1⟩
theorem act_size (a : ActS) : (Tryz.prog.info? 41).map (·.size) = some (actC a).length := show _ = some 32 by kernel_rfl
end
section
open Go Go.RowKit

end
section
open Go Go.RowKit

/-- what a session tells lies in rows -/
structure ToldAt (w : World) (x : SS) (a1 a2 a3 : Option Addr) : Prop where
  subs : Row w a1 (subsV x.l)
  res : Row w a2 (pksV (resumeO x.o))
  opn : Row w a3 (u16s x.came)
theorem ToldAt.below {w w' : World} {x : SS} {a1 a2 a3 : Option Addr} (h : ToldAt w x a1 a2 a3) (hb : Below w.heap.size w w') : ToldAt w' x a1 a2 a3 := ⟨h.subs.below hb (Nat.le_refl _), h.res.below hb (Nat.le_refl _), h.opn.below hb (Nat.le_refl _)⟩
end
section
open Go Go.RowKit

set_option maxRecDepth 100000 in
theorem sub_neq (f : ByteArray) (q : Int) (w : World) : (binOp .neq 39 (.agg #[.string f, .int .u8 q]) (.agg #[.string f, .int .u8 q])).run Tryz.prog w = .ok (.bool false) w := by
  have hst : Tryz.prog.stoodInHeld 39 = false := by kernel_rfl
  have hgd : Tryz.prog.eqGuardType Tryz.prog.depth 39 = false := by kernel_rfl
  go_simp
end
section
open Go Go.RowKit

/-- what the laws read of a session's head -/
def HeadAt (X : World) (s tb : Nat) (z : SS) : Prop := X.cell? ⟨s, 1, none⟩ = some (.int .i64 z.conn) ∧ X.cell? ⟨s, 2, none⟩ = some (.bool z.clean) ∧ X.cell? ⟨s, 3, none⟩ = some (.string z.will.t) ∧ X.cell? ⟨s, 4, none⟩ = some (.string z.will.p) ∧ X.cell? ⟨s, 5, none⟩ = some (.int .u8 z.will.q) ∧ X.cell? ⟨s, 6, none⟩ = some (.bool z.will.r) ∧ X.cell? ⟨s, 7, none⟩ = some (.bool z.has) ∧ X.cell? ⟨s, 9, none⟩ = some (.pointer (some ⟨tb, 0, none⟩))
theorem SParts.head {w : World} {s lb tb cb : Nat} {x : SS} {win most : Int} {FL FO FC : List Nat} (h : SParts w s lb tb cb x win most FL FO FC) : HeadAt w s tb x := by
  obtain ⟨-, k1, k2, k3, k4, k5, k6, k7, -, k9, -⟩ := h.cells
  exact ⟨k1, k2, k3, k4, k5, k6, k7, k9⟩
end
end Go.Proofs.YtmkhagmjpbfieaaGreatDoor
