/- A session's laws: two sessions of the call's own; rows of calls. -/
import Derived.Test.YtmkhagmjpbfieaaGreatDoorSeGX
namespace Go.Proofs.YtmkhagmjpbfieaaGreatDoor
open Go Go.RowKit

structure Se2 (w0 w : World) (s t : Nat) (win most : Int) (x y : SS) (F G : List Nat) : Prop where
  a : Se w0 w s win most x F
  b : Se w0 w t win most y G
  off : Off F G
section
variable {w0 w w' : World} {s t : Nat} {win most : Int} {x y x' y' : SS} {F G F' G' : List Nat}
theorem Se2.ua (h : Se2 w0 w s t win most x y F G) (hr : SesRep w' s win most x' F') (hu : Upd F F' w w') : Se2 w0 w' s t win most x' y F' G := by
  have h1 := h.a.upd hr hu
  exact ⟨h1, ⟨h1.bel, h.b.rep.mod hu.1 fun k hk hk' => h.off k hk' hk, h.b.hi⟩, hu.off h.off h.b.rep.lt⟩
theorem Se2.ub (h : Se2 w0 w s t win most x y F G) (hr : SesRep w' t win most y' G') (hu : Upd G G' w w') : Se2 w0 w' s t win most x y' F G' := by
  have h1 := h.b.upd hr hu
  exact ⟨⟨h1.bel, h.a.rep.mod hu.1 fun k hk hk' => h.off k hk hk', h.a.hi⟩, h1, (hu.off h.off.symm h.a.rep.lt).symm⟩
theorem Se2.below (h : Se2 w0 w s t win most x y F G) (hb : Below w.heap.size w w') : Se2 w0 w' s t win most x y F G := ⟨h.a.below hb, h.b.below hb, h.off⟩
end
def doAll (win most : Int) (l : List ActS) (x : SS) : SS := l.foldl (fun x a => doS win most a x) x
theorem doAll_snoc {win most : Int} {l : List ActS} {x : SS} {k : Nat} (h : k < l.length) : doAll win most (l.take (k + 1)) x = doS win most l[k] (doAll win most (l.take k) x) := by
  rw [List.take_succ_eq_append_getElem h]
  unfold doAll
  rw [List.foldl_append]; rfl
theorem begin_client (conn : Int) (p : Pkt) (x : SS) : (beginS conn p x).client = x.client := by
  unfold beginS
  split
  · split <;> rfl
  · rfl
theorem doS_client (win most : Int) (a : ActS) (x : SS) : (doS win most a x).client = x.client := by
  unfold doS
  dsimp only
  repeat' split
  all_goals first | exact begin_client _ _ _ | rfl
theorem doAll_client (win most : Int) : ∀ (l : List ActS) (x : SS), (doAll win most l x).client = x.client
  | [], _ => rfl
  | a :: l, x => by
    show (doAll win most l (doS win most a x)).client = _
    rw [doAll_client win most l, doS_client]
theorem begin_clean (x : SS) : beginS 3 (conK true) x = ⟨x.client, 3, true, Msg.none, false, [], OT.new, []⟩ := by
  unfold beginS
  rw [show mayB 3 (conK true) = true by rfl, show freshB (conK true) x = true by unfold freshB; simp [conK]]
  rfl
theorem again_subs (x : Sent) : (againK x).subs = [] := by
  unfold againK
  split <;> rfl
theorem resume_subs (o : OT) : ∀ x ∈ resumeO o, x.subs = [] := by
  intro x hx
  obtain ⟨y, -, rfl⟩ := List.mem_map.1 hx
  exact again_subs y
theorem SesRep.lens {w : World} {s : Nat} {win most : Int} {x : SS} {F : List Nat} (h : SesRep w s win most x F) : x.l.length ≤ 16 ∧ (resumeO x.o).length ≤ 1024 ∧ x.came.length ≤ 65535 ∧ x.o.wait.length ≤ 1024 := by
  obtain ⟨lb, tb, cb, FL, FO, FC, hp, rfl⟩ := h
  have h1 := hp.subs.len
  have h2 := hp.out.lens
  have h3 := hp.came.len
  refine ⟨h1, by simp [resumeO]; omega, by omega, h2.1⟩
theorem act_size (a : ActS) : (Tryz.prog.info? 41).map (·.size) = some (actC a).length := show _ = some 32 by kernel_rfl
/-- a call of do, at a session of the call's own -/
theorem do_x (w0 : World) (s : Nat) (x : SS) (win most : Int) (F : List Nat) (a : ActS) (w : World) (h : Se w0 w s win most x F) (ha : ActOk a) (hT : Tabs w0) (hB : Bru w0) :
    Calls Tryz.prog 12 #[.pointer (some ⟨s, 0, none⟩), .agg (actC a).toArray] w fun e w' => e = .returned (.tuple #[]) ∧ ∃ F', SesRep w' s win most (doS win most a x) F' ∧ Upd F F' w w' :=
  do_any s x win most F a w h.rep ha (hT.below h.bel) (hB.below h.bel) (h.zero (World.block_lt_of_cell? w0 _ (hB 0 (by decide))))
end Go.Proofs.YtmkhagmjpbfieaaGreatDoor
