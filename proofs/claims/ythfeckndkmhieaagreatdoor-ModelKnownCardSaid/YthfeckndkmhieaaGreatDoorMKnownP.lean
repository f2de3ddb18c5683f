/- ModelKnown: what its notes come to. -/
import Derived.Test.YthfeckndkmhieaaGreatDoorMNil
namespace Go.Proofs.YthfeckndkmhieaaGreatDoor
open Go Go.RowKit Go.Maps

def knX : ByteArray := ⟨#[120]⟩
def knS : MS := ⟨[([120], ⟨[], 4, false⟩)], []⟩
def knMsg : Msg := ⟨⟨#[97]⟩, ⟨#[112]⟩, 0, false⟩
theorem kn_new (k : Int) (h1 : k ≠ 1) : applyM (doesN knX 1 (pk0 k)) MS.new = (([], false, false), MS.new) := by
  have e1 : (doesN knX 1 (pk0 k)).kind = 2 := rfl
  have e2 : (doesN knX 1 (pk0 k)).pk.ty = k := rfl
  generalize doesN knX 1 (pk0 k) = x at *
  unfold applyM
  rw [if_neg (by omega), if_neg (by omega), if_neg (by omega)]
  rfl
theorem kn_look : lookS [120] knS.seats = some ⟨[], 4, false⟩ := rfl
theorem kn_odd (k : Int) (h1 : k ≠ 1) (h0 : k ≠ 0) (h8 : k ≠ 8) (h10 : k ≠ 10) (h14 : k ≠ 14) : applyM (doesN knX 4 (pk0 k)) knS = (([], false, false), knS) := by
  have e1 : (doesN knX 4 (pk0 k)).kind = 2 := rfl
  have e2 : (doesN knX 4 (pk0 k)).pk.ty = k := rfl
  have e3 : (doesN knX 4 (pk0 k)).client.data.toList = [120] := rfl
  have e4 : (doesN knX 4 (pk0 k)).conn = 4 := rfl
  generalize doesN knX 4 (pk0 k) = x at *
  unfold applyM
  rw [if_neg (by omega), if_neg (by omega), if_neg (by omega), e3, kn_look]
  simp only
  rw [if_neg (show ¬ (x.conn < 1 ∨ (4 : Int) ≠ x.conn) by omega)]
  unfold does1
  rw [if_neg (by omega), if_neg (by omega), if_neg (by omega)]
theorem kn_five (k : Int) (h1 : k ≠ 1) : applyM (doesN knX 5 (pk0 k)) knS = (([], false, false), knS) := by
  have e1 : (doesN knX 5 (pk0 k)).kind = 2 := rfl
  have e2 : (doesN knX 5 (pk0 k)).pk.ty = k := rfl
  have e3 : (doesN knX 5 (pk0 k)).client.data.toList = [120] := rfl
  have e4 : (doesN knX 5 (pk0 k)).conn = 5 := rfl
  generalize doesN knX 5 (pk0 k) = x at *
  unfold applyM
  rw [if_neg (by omega), if_neg (by omega), if_neg (by omega), e3, kn_look]
  simp only
  rw [if_pos (show x.conn < 1 ∨ (4 : Int) ≠ x.conn by omega)]
theorem kn_else (k : Int) (h2 : k ≠ 2) (h5 : k ≠ 5) : applyM (keepsN k 4 knX knMsg) knS = (([], false, true), knS) := else_look _ _ h5 h2
theorem kn_ok (n k : Int) (hn : -1 ≤ n ∧ n ≤ 5) (h0 : 0 ≤ k) (h1 : k < 20) : NoteOk (doesN knX n (pk0 k)) :=
  ⟨by show _ ≤ n; omega, by show n ≤ _; omega, by show (0 : Int) ≤ 2; decide, by show (2 : Int) ≤ 255; decide, h0, by show k ≤ 255; omega, by show (1 : Nat) ≤ maxLen; decide, by show (0 : Nat) ≤ _; omega, by show (0 : Int) ≤ 0; decide, by show (0 : Int) < 256; decide, (fun x hx => by cases hx), by show (0 : Nat) ≤ 1000; decide⟩
theorem kn_okE (k : Int) (h0 : 0 ≤ k) (h1 : k < 20) : NoteOk (keepsN k 4 knX knMsg) :=
  ⟨by show _ ≤ (4 : Int); decide, by show (4 : Int) ≤ _; decide, h0, by show k ≤ 255; omega, by show (0 : Int) ≤ 0; decide, by show (0 : Int) ≤ 255; decide, by show (1 : Nat) ≤ maxLen; decide, by show (1 : Nat) ≤ _; decide, by show (0 : Int) ≤ 0; decide, by show (0 : Int) < 256; decide, (fun x hx => by cases hx), by show (0 : Nat) ≤ 1000; decide⟩
def knBad : List Msg := [⟨⟨#[]⟩, ⟨#[]⟩, 0, false⟩, ⟨⟨#[97, 47, 43]⟩, ⟨#[112]⟩, 0, false⟩, ⟨⟨#[97]⟩, ⟨#[112]⟩, 3, false⟩]
theorem kn_bad : ∀ y ∈ knBad, applyM (keepsN 5 0 ⟨#[]⟩ y) knS = (([], false, false), knS) ∧ NoteOk (keepsN 5 0 ⟨#[]⟩ y) := by
  intro y hy
  simp only [knBad, List.mem_cons, List.not_mem_nil, or_false] at hy
  rcases hy with rfl | rfl | rfl
  · exact ⟨by kernel_rfl, noteOk_of (by kernel_rfl)⟩
  · exact ⟨by kernel_rfl, noteOk_of (by kernel_rfl)⟩
  · exact ⟨by kernel_rfl, noteOk_of (by kernel_rfl)⟩
theorem built_else (k : Int) : Tryz.prog.built 32 [(0, .int .u8 k), (3, .string ⟨#[120]⟩), (2, .int .i64 4), (5, .agg #[.string ⟨#[97]⟩, .string ⟨#[112]⟩, .int .u8 0, .bool false])] = some (keepsN k 4 knX knMsg).cells.toArray := by kernel_rfl
theorem built_zero : Tryz.prog.built 32 [] = some (keepsN 0 0 ⟨#[]⟩ ⟨⟨#[]⟩, ⟨#[]⟩, 0, false⟩).cells.toArray := by kernel_rfl
theorem yieldsIf_buildG {P : Program} {ops : Array Oper} {S : World → Prop} {op : Oper} {a : Act} (hw : Region.wanted op (yielded ops a.tmps) = true) (t : TypeId) (parts : Array (Nat × Operand)) (ho : op.op = .build t parts)
    (cells : Array Value) (ps : List (Nat × Value)) (hps : (parts.map fun (i, x) => (i, a.eval x)).toList = ps) (hf : P.built t ps = some cells) : YieldsIf P ops S op (.agg cells) a :=
  .inl ⟨hw, fun w _ => by
    subst hps
    unfold execOp
    simp only [ho, Sem.run_bind, run_build w t _ cells hf, Result.andThen_ok, Sem.run_pure]⟩
def knSub : List SubE := [([97], 2), ([97], 1), ([43], 0), ([122], 3)]
def knUn : List SubE := [([97], 0), ([113], 0)]
def knS2 : MS := ⟨[([120], ⟨[([43], 0), ([97], 1)], 4, false⟩)], []⟩
def knS3 : MS := ⟨[([120], ⟨[([43], 0)], 4, false⟩)], []⟩
theorem kn_sub (b : Nat) : applyM (doesN knX 4 (pkOf 8 false (some ⟨b, 0, none⟩) 4 knSub)) knS = (([2, 1, 0, 128], false, true), knS2) := by kernel_rfl
theorem kn_un (b : Nat) : applyM (doesN knX 4 (pkOf 10 false (some ⟨b, 0, none⟩) 2 knUn)) knS2 = (([], false, true), knS3) := by kernel_rfl
theorem kn_sub_ok (b : Nat) : NoteOk (doesN knX 4 (pkOf 8 false (some ⟨b, 0, none⟩) 4 knSub)) := noteOk_of (by kernel_rfl)
theorem kn_un_ok (b : Nat) : NoteOk (doesN knX 4 (pkOf 10 false (some ⟨b, 0, none⟩) 2 knUn)) := noteOk_of (by kernel_rfl)
theorem kn_b1 : bestOf [97] (lookS [120] knS3.seats) = (0, true) := by kernel_rfl
theorem kn_b2 : bestOf [97, 47, 98] (lookS [120] knS3.seats) = (0, false) := by kernel_rfl
theorem kn_4 : applyM (doesN knX 4 (pk0 1)) MS.new = (([], false, true), knS) := by kernel_rfl
theorem kn_4b : applyM (doesN knX 4 (pk0 1)) knS = (([], false, false), knS) := by kernel_rfl
theorem kn_0 : applyM (doesN knX 0 (pk0 1)) MS.new = (([], false, false), MS.new) := by kernel_rfl
theorem kn_m1 : applyM (doesN knX (-1) (pk0 1)) MS.new = (([], false, false), MS.new) := by kernel_rfl
end Go.Proofs.YthfeckndkmhieaaGreatDoor
