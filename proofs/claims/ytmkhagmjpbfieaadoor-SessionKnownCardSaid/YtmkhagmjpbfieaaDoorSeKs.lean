/- What the law's examples come to: the states of SessionKnown. -/
import Derived.Test.YtmkhagmjpbfieaaDoorSeKn
namespace Go.Proofs.YtmkhagmjpbfieaaDoor
open Go Go.RowKit

def msgB : Msg := ⟨⟨#[98]⟩, ⟨#[]⟩, 2, false⟩
def msgZ : Msg := ⟨⟨#[122]⟩, ⟨#[]⟩, 0, false⟩
def msgA : Msg := ⟨⟨#[97]⟩, ⟨#[]⟩, 0, false⟩
def kn0 : SS := SS.new ⟨#[]⟩
def kn1 (c : Bool) : SS := beginS 1 (conK c) kn0
def kn2 (c : Bool) : SS := { kn1 c with l := setE [98, 47, 35] 2 (kn1 c).l }
def kn3 (c : Bool) : SS := { kn2 c with l := setE [97] 0 (kn2 c).l }
def kn4 (c : Bool) : SS := { kn3 c with o := (putO 2 msgB (kn3 c).o).2 }
def kn5 (c : Bool) : SS := { kn4 c with o := (pumpO 2 (kn4 c).o.wait (kn4 c).o.row).2 }
def kn6 (c : Bool) : SS := { kn5 c with o := (putO 2 msgZ (kn5 c).o).2 }
def kn7 (c : Bool) : SS := { kn6 c with came := firstI 9 (kn6 c).came }
def kn8 (c : Bool) : SS := leaveS (kn7 c)
def kn9 (c n : Bool) : SS := beginS 2 (conK n) (kn8 c)
theorem kn_b1 (c : Bool) : beginA 1 (conK c) kn0 = (false, []) := by cases c <;> rfl
theorem kn_s2 (c : Bool) : setC [98, 47, 35] 2 (kn1 c).l = 2 := by cases c <;> rfl
theorem kn_s3 (c : Bool) : setC [97] 0 (kn2 c).l = 0 := by cases c <;> rfl
theorem kn_p4 (c : Bool) : (putO 2 msgB (kn3 c).o).1 = true := by cases c <;> rfl
theorem kn_u5 (c : Bool) : (pumpO 2 (kn4 c).o.wait (kn4 c).o.row).1.length = 1 := by cases c <;> rfl
theorem kn_p6 (c : Bool) : (putO 2 msgZ (kn5 c).o).1 = true := by cases c <;> rfl
theorem kn_f7 (c : Bool) : (!decide ((9 : Int) = 0 ∨ (9 : Int) ∈ (kn6 c).came)) = true := by cases c <;> rfl
theorem kn_l8 (c : Bool) : (kn8 c).l.length = 2 := by cases c <;> rfl
theorem kn_r8 (c : Bool) : ((kn8 c).o.row.length : Int) = 1 := by cases c <;> rfl
theorem kn_w8 (c : Bool) : ((kn8 c).o.wait.length : Int) = 1 := by cases c <;> rfl
theorem kn_c8 (c : Bool) : decide ((9 : Int) ∈ (kn8 c).came) = true := by cases c <;> rfl
theorem kn_z8 (c : Bool) : (kn8 c).clean = c := by cases c <;> rfl
theorem kn_b9 (c n : Bool) (h : (c || n) = true) : beginA 2 (conK n) (kn8 c) = (false, [[97], [98, 47, 35]]) := by cases c <;> cases n <;> first | rfl | simp at h
theorem kn_b9' : beginA 2 (conK false) (kn8 false) = (true, []) := rfl
theorem kn_l9 (c n : Bool) : (kn9 c n).l.length = if c || n then 0 else 2 := by cases c <;> cases n <;> rfl
theorem kn_r9 (c n : Bool) : ((kn9 c n).o.row.length : Int) = if c || n then 0 else 1 := by cases c <;> cases n <;> rfl
theorem kn_u9 (c n : Bool) : (resumeO (kn9 c n).o).length = if c || n then 0 else 1 := by cases c <;> cases n <;> rfl
theorem kn_w9 (c n : Bool) : ((kn9 c n).o.wait.length : Int) = if c || n then 0 else 1 := by cases c <;> cases n <;> rfl
theorem kn_c9 (c n : Bool) : decide ((9 : Int) ∈ (kn9 c n).came) = if c || n then false else true := by cases c <;> cases n <;> rfl
theorem kn_z9 (c n : Bool) : (kn9 c n).conn = 2 ∧ (kn9 c n).clean = n := by cases c <;> cases n <;> exact ⟨rfl, rfl⟩

end Go.Proofs.YtmkhagmjpbfieaaDoor
