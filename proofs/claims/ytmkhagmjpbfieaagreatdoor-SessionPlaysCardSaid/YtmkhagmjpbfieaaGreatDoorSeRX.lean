/- A session (layer 18): how it lies in memory. A client's filters: Clear walked. -/
import Derived.Test.YtmkhagmjpbfieaaGreatDoorOutRX
import Derived.Test.YtmkhagmjpbfieaaGreatDoorSeP
import Derived.Test.YtmkhagmjpbfieaaGreatDoorICame
namespace Go.Proofs.YtmkhagmjpbfieaaGreatDoor
section
open Go Go.RowKit

def ssC (x : SS) (lb tb cb : Nat) : List Value := [.string x.client, .int .i64 x.conn, .bool x.clean, .string x.will.t, .string x.will.p, .int .u8 x.will.q, .bool x.will.r, .bool x.has, .pointer (some ⟨lb, 0, none⟩), .pointer (some ⟨tb, 0, none⟩), .pointer (some ⟨cb, 0, none⟩)]
/-- a session's parts: where they lie -/
structure SParts (w : World) (s lb tb cb : Nat) (x : SS) (win most : Int) (FL FO FC : List Nat) : Prop where
  hd : w.heap[s]? = some (.cells (ssC x lb tb cb).toArray 54 (0, 0))
  subs : SRep w lb x.l FL
  out : OutRep w tb win most x.o FO
  came : CRep w cb x.came FC
  sl : s ∉ FL
  so : s ∉ FO
  sc : s ∉ FC
  lo : Off FL FO
  lc : Off FL FC
  oc : Off FO FC
def sFoot (s : Nat) (FL FO FC : List Nat) : List Nat := s :: (FL ++ (FO ++ FC))
theorem mem_sFoot {s : Nat} {FL FO FC : List Nat} {k : Nat} : k ∈ sFoot s FL FO FC ↔ k = s ∨ k ∈ FL ∨ k ∈ FO ∨ k ∈ FC := by simp [sFoot]
section
variable {w w' : World} {s lb tb cb : Nat} {x x' : SS} {win most : Int} {FL FO FC FL' FO' FC' : List Nat}
theorem SParts.lts (h : SParts w s lb tb cb x win most FL FO FC) : s < w.heap.size := (Array.getElem?_eq_some_iff.1 h.hd).1
theorem SParts.lt (h : SParts w s lb tb cb x win most FL FO FC) : ∀ k ∈ sFoot s FL FO FC, k < w.heap.size := fun k hk => by
  rcases mem_sFoot.1 hk with rfl | hk | hk | hk
  · exact h.lts
  · exact h.subs.lt k hk
  · exact h.out.lt k hk
  · exact h.came.lt k hk
theorem SParts.mod {S : List Nat} (h : SParts w s lb tb cb x win most FL FO FC) (hm : Mod S w w') (hS : ∀ k ∈ sFoot s FL FO FC, k ∉ S) : SParts w' s lb tb cb x win most FL FO FC :=
  ⟨(hm.block s h.lts (hS s (mem_sFoot.2 (.inl rfl)))).trans h.hd, h.subs.mod hm fun k hk => hS k (mem_sFoot.2 (.inr (.inl hk))), h.out.mod hm fun k hk => hS k (mem_sFoot.2 (.inr (.inr (.inl hk)))), h.came.mod hm fun k hk => hS k (mem_sFoot.2 (.inr (.inr (.inr hk)))), h.sl, h.so, h.sc, h.lo, h.lc, h.oc⟩
theorem SParts.below (h : SParts w s lb tb cb x win most FL FO FC) (hb : Below w.heap.size w w') : SParts w' s lb tb cb x win most FL FO FC := h.mod (Mod.of_below hb []) (by simp)
/-- the head is turned -/
theorem SParts.turnH (h : SParts w s lb tb cb x win most FL FO FC) (hm : Mod [s] w w') (hs : w'.heap[s]? = some (.cells (ssC x' lb tb cb).toArray 54 (0, 0))) (h1 : x'.l = x.l) (h2 : x'.o = x.o) (h3 : x'.came = x.came) :
    SParts w' s lb tb cb x' win most FL FO FC ∧ Upd (sFoot s FL FO FC) (sFoot s FL FO FC) w w' :=
  ⟨⟨hs, by rw [h1]; exact h.subs.mod hm fun k hk hk' => h.sl (List.mem_singleton.1 hk' ▸ hk), by rw [h2]; exact h.out.mod hm fun k hk hk' => h.so (List.mem_singleton.1 hk' ▸ hk), by rw [h3]; exact h.came.mod hm fun k hk hk' => h.sc (List.mem_singleton.1 hk' ▸ hk), h.sl, h.so, h.sc, h.lo, h.lc, h.oc⟩,
    hm.mono fun k hk => mem_sFoot.2 (.inl (List.mem_singleton.1 hk)), fun k hk => .inl hk⟩
/-- the filters are turned -/
theorem SParts.turnL (h : SParts w s lb tb cb x win most FL FO FC) {l' : List SubE} (hl : SRep w' lb l' FL') (hu : Upd FL FL' w w') : SParts w' s lb tb cb { x with l := l' } win most FL' FO FC ∧ Upd (sFoot s FL FO FC) (sFoot s FL' FO FC) w w' := by
  have new : ∀ k ∈ FL', k ∈ FL ∨ w.heap.size ≤ k := hu.2
  refine ⟨⟨(hu.1.block s h.lts h.sl).trans h.hd, hl, h.out.mod hu.1 fun k hk hk' => h.lo k hk' hk, h.came.mod hu.1 fun k hk hk' => h.lc k hk' hk, fun hk => ?_, h.so, h.sc, fun k hk hk' => ?_, fun k hk hk' => ?_, h.oc⟩, hu.1.mono fun k hk => mem_sFoot.2 (.inr (.inl hk)), fun k hk => ?_⟩
  · rcases new _ hk with h1 | h1
    · exact h.sl h1
    · have := h.lts; omega
  · rcases new k hk with h1 | h1
    · exact h.lo k h1 hk'
    · have := h.out.lt k hk'; omega
  · rcases new k hk with h1 | h1
    · exact h.lc k h1 hk'
    · have := h.came.lt k hk'; omega
  · rcases mem_sFoot.1 hk with rfl | hk | hk
    · exact .inl (mem_sFoot.2 (.inl rfl))
    · exact (new k hk).imp (fun h1 => mem_sFoot.2 (.inr (.inl h1))) id
    · exact .inl (mem_sFoot.2 (.inr (.inr hk)))
/-- the table is turned -/
theorem SParts.turnO (h : SParts w s lb tb cb x win most FL FO FC) {o' : OT} (ho : OutRep w' tb win most o' FO') (hu : Upd FO FO' w w') : SParts w' s lb tb cb { x with o := o' } win most FL FO' FC ∧ Upd (sFoot s FL FO FC) (sFoot s FL FO' FC) w w' := by
  have new : ∀ k ∈ FO', k ∈ FO ∨ w.heap.size ≤ k := hu.2
  refine ⟨⟨(hu.1.block s h.lts h.so).trans h.hd, h.subs.mod hu.1 fun k hk hk' => h.lo k hk hk', ho, h.came.mod hu.1 fun k hk hk' => h.oc k hk' hk, h.sl, fun hk => ?_, h.sc, fun k hk hk' => ?_, h.lc, fun k hk hk' => ?_⟩, hu.1.mono fun k hk => mem_sFoot.2 (.inr (.inr (.inl hk))), fun k hk => ?_⟩
  · rcases new _ hk with h1 | h1
    · exact h.so h1
    · have := h.lts; omega
  · rcases new k hk' with h1 | h1
    · exact h.lo k hk h1
    · have := h.subs.lt k hk; omega
  · rcases new k hk with h1 | h1
    · exact h.oc k h1 hk'
    · have := h.came.lt k hk'; omega
  · rcases mem_sFoot.1 hk with rfl | hk | hk | hk
    · exact .inl (mem_sFoot.2 (.inl rfl))
    · exact .inl (mem_sFoot.2 (.inr (.inl hk)))
    · exact (new k hk).imp (fun h1 => mem_sFoot.2 (.inr (.inr (.inl h1)))) id
    · exact .inl (mem_sFoot.2 (.inr (.inr (.inr hk))))
/-- the ids that came are turned -/
theorem SParts.turnC (h : SParts w s lb tb cb x win most FL FO FC) {c' : List Int} (hc : CRep w' cb c' FC') (hu : Upd FC FC' w w') : SParts w' s lb tb cb { x with came := c' } win most FL FO FC' ∧ Upd (sFoot s FL FO FC) (sFoot s FL FO FC') w w' := by
  have new : ∀ k ∈ FC', k ∈ FC ∨ w.heap.size ≤ k := hu.2
  refine ⟨⟨(hu.1.block s h.lts h.sc).trans h.hd, h.subs.mod hu.1 fun k hk hk' => h.lc k hk hk', h.out.mod hu.1 fun k hk hk' => h.oc k hk hk', hc, h.sl, h.so, fun hk => ?_, h.lo, fun k hk hk' => ?_, fun k hk hk' => ?_⟩, hu.1.mono fun k hk => mem_sFoot.2 (.inr (.inr (.inr hk))), fun k hk => ?_⟩
  · rcases new _ hk with h1 | h1
    · exact h.sc h1
    · have := h.lts; omega
  · rcases new k hk' with h1 | h1
    · exact h.lc k hk h1
    · have := h.subs.lt k hk; omega
  · rcases new k hk' with h1 | h1
    · exact h.oc k hk h1
    · have := h.out.lt k hk; omega
  · rcases mem_sFoot.1 hk with rfl | hk | hk | hk
    · exact .inl (mem_sFoot.2 (.inl rfl))
    · exact .inl (mem_sFoot.2 (.inr (.inl hk)))
    · exact .inl (mem_sFoot.2 (.inr (.inr (.inl hk))))
    · exact (new k hk).imp (fun h1 => mem_sFoot.2 (.inr (.inr (.inr h1)))) id
end
/-- a session lies at block s -/
def SesRep (w : World) (s : Nat) (win most : Int) (x : SS) (F : List Nat) : Prop := ∃ lb tb cb FL FO FC, SParts w s lb tb cb x win most FL FO FC ∧ F = sFoot s FL FO FC
theorem SesRep.lt {w : World} {s : Nat} {win most : Int} {x : SS} {F : List Nat} (h : SesRep w s win most x F) : ∀ k ∈ F, k < w.heap.size := by
  obtain ⟨lb, tb, cb, FL, FO, FC, h, rfl⟩ := h
  exact h.lt
theorem SesRep.mod {S : List Nat} {w w' : World} {s : Nat} {win most : Int} {x : SS} {F : List Nat} (h : SesRep w s win most x F) (hm : Mod S w w') (hS : ∀ k ∈ F, k ∉ S) : SesRep w' s win most x F := by
  obtain ⟨lb, tb, cb, FL, FO, FC, h, rfl⟩ := h
  exact ⟨lb, tb, cb, FL, FO, FC, h.mod hm hS, rfl⟩
theorem SesRep.below {w w' : World} {s : Nat} {win most : Int} {x : SS} {F : List Nat} (h : SesRep w s win most x F) (hb : Below w.heap.size w w') : SesRep w' s win most x F := h.mod (Mod.of_below hb []) (by simp)
theorem SParts.cells {w : World} {s lb tb cb : Nat} {x : SS} {win most : Int} {FL FO FC : List Nat} (h : SParts w s lb tb cb x win most FL FO FC) :
    w.cell? ⟨s, 0, none⟩ = some (.string x.client) ∧ w.cell? ⟨s, 1, none⟩ = some (.int .i64 x.conn) ∧ w.cell? ⟨s, 2, none⟩ = some (.bool x.clean) ∧ w.cell? ⟨s, 3, none⟩ = some (.string x.will.t) ∧ w.cell? ⟨s, 4, none⟩ = some (.string x.will.p) ∧ w.cell? ⟨s, 5, none⟩ = some (.int .u8 x.will.q) ∧
      w.cell? ⟨s, 6, none⟩ = some (.bool x.will.r) ∧ w.cell? ⟨s, 7, none⟩ = some (.bool x.has) ∧ w.cell? ⟨s, 8, none⟩ = some (.pointer (some ⟨lb, 0, none⟩)) ∧ w.cell? ⟨s, 9, none⟩ = some (.pointer (some ⟨tb, 0, none⟩)) ∧ w.cell? ⟨s, 10, none⟩ = some (.pointer (some ⟨cb, 0, none⟩)) :=
  ⟨cell_of_row _ _ 0 _ _ _ h.hd, cell_of_row _ _ 1 _ _ _ h.hd, cell_of_row _ _ 2 _ _ _ h.hd, cell_of_row _ _ 3 _ _ _ h.hd, cell_of_row _ _ 4 _ _ _ h.hd, cell_of_row _ _ 5 _ _ _ h.hd, cell_of_row _ _ 6 _ _ _ h.hd, cell_of_row _ _ 7 _ _ _ h.hd, cell_of_row _ _ 8 _ _ _ h.hd, cell_of_row _ _ 9 _ _ _ h.hd, cell_of_row _ _ 10 _ _ _ h.hd⟩
end
section
open Go Go.RowKit

def namesV (l : List (List UInt8)) : List Value := l.map fun x => .string ⟨x.toArray⟩
theorem T_strS : ElemT Tryz.prog 58 9 (.string ⟨#[]⟩) 1 16 := ⟨Tryz.underlying58, by kernel_rfl, rfl, by decide⟩
theorem namesV_snoc (l : List SubE) (k : Nat) (hk : k < l.length) : namesV ((namesE l).take (k + 1)) = namesV ((namesE l).take k) ++ [.string ⟨l[k].1.toArray⟩] := by
  have : k < (namesE l).length := by simpa [namesE] using hk
  rw [List.take_succ_eq_append_getElem this]
  simp [namesV, namesE]
set_option maxRecDepth 100000 in
set_option maxHeartbeats 2000000 in
theorem sclear_any (b : Nat) (l : List SubE) (F : List Nat) (w : World) (h : SRep w b l F) :
    Calls Tryz.prog 56 #[.pointer (some ⟨b, 0, none⟩)] w fun e w' => ∃ v, e = .returned v ∧ w'.ownsRow w.heap.size 9 1 v l.length (namesV (namesE l)) ∧ SRep w' b [] [b] ∧ Upd F [b] w w' := by
  have HS := Lib.hid (subs_any b l F w h)
  have H := Lib.hid h
  have hl16 := h.len
  clear h
  go_enter Tryz.func56, Tryz.ntmps56
  go_wp2_with fail
  refine HS.out.mono ?_
  rintro e w1 ⟨sv, rfl, hso, hb1⟩
  obtain ⟨sa, sc, rfl, hrow, -, -⟩ := ownsRow_row hso
  have HR : Hid (∀ X, Below w1.heap.size w1 X → Row X sa (subsV l)) := Lib.hid (fun X hX => hrow.below hX (Nat.le_refl _))
  have HB1 := Lib.hid hb1
  clear hso hrow hb1
  go_wp2_with fail
  go_loopw [3, 9] (fun v i wr => ∃ k : Nat, i = .int .i64 k ∧ k ≤ l.length ∧ Below w1.heap.size w1 wr ∧ wr.ownsRow w1.heap.size 9 1 v k (namesV ((namesE l).take k))) (fun _ i _ => (l.length - intOf i).toNat)
  case atStart => exact ⟨0, rfl, by omega, Below.refl _ _, by simpa [namesV] using World.ownsRow_nil _ _ _ _⟩
  case round =>
    obtain ⟨k, rfl, hk, hbr, hown⟩ := hrel
    by_cases hlt : k < l.length
    · have hk0 : (0 : Int) ≤ k := by omega
      have hkl : (k : Int) < l.length := by omega
      obtain ⟨rb, off, rfl, c0, c1⟩ := subs_row (HR.out _ hbr) hlt
      have HTK := Lib.hid (namesV_snoc l k hlt)
      generalize l[k] = x at *
      generalize namesV ((namesE l).take k) = V at *
      obtain ⟨xn, xq⟩ := x
      dsimp only at *
      have hw1 : IntKind.i64.wrap ((k : Int) + 1) = (k : Int) + 1 := w_i64 _ (by omega) (by omega)
      have ho2 := hown.alloc (.cells #[.string ⟨xn.toArray⟩, .int .u8 xq] 39)
      have hb2 := hbr.alloc hbr.size (.cells #[.string ⟨xn.toArray⟩, .int .u8 xq] 39)
      have hs2 := hb2.size
      clear hown hbr
      go_wp2_with (first
        | (at_builtin; refine wpList_app T_strS ho2 hb2 hs2 rfl rfl rfl (by rw [World.size_alloc]; rfl) (by rfl) (by simp [Value.oneCell']) (by omega) (by omega) ?_; intro v' w8 hown' hbel3 hsz3 hlt3; have HOW8 := Lib.hid hown'; have HBL8 := Lib.hid hbel3; clear hown' hbel3 hsz3 hlt3 ho2 hb2 hs2; go_frame)
        | fail)
      go_roundw
      case rel => exact ⟨k + 1, by go_num, by omega, HBL8.out, by rw [HTK.out]; exact HOW8.out⟩
      case measure => simp [intOf]; omega
    · have hkl : ¬ (k : Int) < l.length := by omega
      obtain rfl : k = l.length := by omega
      have hnl : (namesE l).length = l.length := by simp [namesE]
      rw [← hnl, List.take_length, hnl] at hown
      have hbw := bnext HB1.out (Nat.le_refl _) hbr
      have hr := H.out.below hbw
      obtain ⟨a0, c0, G, hh, hsr, -, -, hbG, -, -, hF⟩ := hr
      have c0' := cell_of_row _ b 0 _ _ _ hh
      have f0 := frozen_of_row _ b 0 _ _ hh
      simp only [List.getElem?_toArray, List.getElem?_cons_zero] at c0'
      have hbF : b ∈ F := by rw [hF]; simp
      have hbl := H.out.lt b hbF
      have HOW := Lib.hid hown
      have HBW := Lib.hid hbw
      have HH := Lib.hid hh
      have hs1 := HB1.out.size
      clear hown hbr hbw hh hsr hF hnl
      go_wp2_with fail
      go_ret
      have h9 := heap_setCell_same wr b 0 _ _ (.slice none 0 0) HH.out
      refine ⟨_, rfl, ?_, ⟨none, 0, [], by simpa using h9, .inl ⟨rfl, rfl, rfl⟩, by simp, by decide, by simp, by simp [SUp], by simp, rfl⟩, ((Mod.of_below HBW.out F).setCell (.inl hbF) _), fun k hk => by rw [List.mem_singleton.1 hk]; exact .inl hbF⟩
      refine ownsRow_mono (ownsRow_local HOW.out fun j hj => heap_setCell_other wr _ _ _ ?_) hs1
      have := (HOW.out.lt j hj).1
      show j ≠ b
      omega
end
end Go.Proofs.YtmkhagmjpbfieaaGreatDoor
