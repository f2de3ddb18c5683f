/- The laws' own helpers, walked: said, small, awake. -/
import Derived.Test.YtagjlmpmbflmhaaDoorKHelp2
namespace Go.Proofs.YtagjlmpmbflmhaaDoor
open Go Go.RowKit Go.Maps

def saidB (l : List Msg) : List UInt8 := l.flatMap fun m => m.p.data.toList ++ [32]
theorem saidB_snoc (l : List Msg) (m : Msg) : saidB (l ++ [m]) = saidB l ++ m.p.data.toList ++ [32] := by simp [saidB]
theorem saidB_len {l : List Msg} (h : allOk l) : (saidB l).length ≤ l.length * 301 := by
  induction l with
  | nil => simp [saidB]
  | cons m l ih =>
    have h1 := (h m (by simp)).2.1
    have h2 : m.p.data.toList.length = m.p.size := rfl
    have := ih (fun x hx => h x (by simp [hx]))
    unfold saidB at *
    rw [List.flatMap_cons, List.length_append, List.length_append, h2]
    simp only [List.length_cons, List.length_nil]
    omega
set_option maxRecDepth 100000 in
set_option maxHeartbeats 2000000 in
theorem said_any (a : Option Addr) (c : Nat) (l : List Msg) (w : World) (ha : Row w a (msgs l)) (hl : l.length ≤ 1000) (hok : allOk l) :
    Calls Tryd.prog 28 #[.slice a l.length c] w fun e w' => e = .returned (.string ⟨(saidB l).toArray⟩) ∧ w' = w := by
  have HA := Lib.hid ha
  have HOK := Lib.hid hok
  clear ha hok
  go_enter Tryd.func28, Tryd.ntmps28
  go_wp2_with fail
  go_loopw [3, 4] (fun s i wr => ∃ k : Nat, i = .int .i64 k ∧ k ≤ l.length ∧ wr = w ∧ s = .string ⟨(saidB (l.take k)).toArray⟩) (fun _ i _ => (l.length - intOf i).toNat)
  case atStart => exact ⟨0, rfl, by omega, rfl, by simp [saidB]⟩
  case round =>
    obtain ⟨k, rfl, hk, rfl, rfl⟩ := hrel
    by_cases hlt : k < l.length
    · obtain ⟨b1, o1, rfl, k0, k1, k2, k3⟩ := msgs_row HA.out (k := k) (m := l[k]) (by simp [hlt])
      have hk0 : (0 : Int) ≤ k := by omega
      have hkl : (k : Int) < l.length := by omega
      have HS := Lib.hid (show saidB (l.take (k + 1)) = saidB (l.take k) ++ l[k].p.data.toList ++ [32] by rw [List.take_succ_eq_append_getElem hlt, saidB_snoc])
      have hlen : (saidB (l.take k)).length ≤ 301000 := by
        have := saidB_len (l := l.take k) (fun x hx => HOK.out x (List.mem_of_mem_take hx))
        rw [List.length_take] at this; omega
      have hxp := (HOK.out l[k] (List.getElem_mem hlt)).2.1
      generalize l[k] = x at *
      generalize saidB (l.take k) = S at *
      obtain ⟨xt, xp, xq, xr⟩ := x
      dsimp only at *
      have hx2 : xp.data.toList.length = xp.size := rfl
      have add1 : ∀ w : World, (Op.stringOp .add ⟨S.toArray⟩ xp).run Tryd.prog w = .ok (.string ⟨(S ++ xp.data.toList).toArray⟩) w := fun w => by
        rw [run_string_add_sum w _ _ (by show S.length + _ ≤ _; omega)]
        congr 2
      have add2 : ∀ w : World, (Op.stringOp .add ⟨(S ++ xp.data.toList).toArray⟩ ⟨#[32]⟩).run Tryd.prog w = .ok (.string ⟨(S ++ xp.data.toList ++ [32]).toArray⟩) w := fun w => by
        rw [run_string_add_sum w _ _ (by show (S ++ xp.data.toList).length + 1 ≤ _; rw [List.length_append]; omega)]
        congr 2
      have HOK2 := HOK
      clear hx2 hlen hxp
      go_wp2_with fail
      go_roundw
      case rel => exact ⟨k + 1, by go_num, by omega, trivial, by rw [HS.out, List.append_assoc]⟩
      case measure => simp [intOf]; omega
    · have hkl : ¬ (k : Int) < l.length := by omega
      rw [List.take_of_length_le (by omega)]
      go_wp2_with fail
      go_ret
      exact ⟨rfl, rfl⟩

def sm1 : Msg := ⟨⟨#[97, 47, 98]⟩, ⟨#[49]⟩, 0, false⟩
def sm2 : Msg := ⟨⟨#[97]⟩, ⟨#[50]⟩, 1, false⟩
def sm3 : Msg := ⟨⟨#[36, 115]⟩, ⟨#[51]⟩, 0, false⟩
def sm4 : Msg := ⟨⟨#[97, 47, 98]⟩, ⟨#[52]⟩, 2, false⟩
def smallL : List Msg := [sm3.kept, sm2.kept, sm4.kept]
theorem may_s1 : mayB sm1 = true := by kernel_rfl
theorem may_s2 : mayB sm2 = true := by kernel_rfl
theorem may_s3 : mayB sm3 = true := by kernel_rfl
theorem may_s4 : mayB sm4 = true := by kernel_rfl
theorem set_s1 : setB sm1 [] = [sm1.kept] := by kernel_rfl
theorem set_s2 : setB sm2 [sm1.kept] = [sm2.kept, sm1.kept] := by kernel_rfl
theorem set_s3 : setB sm3 [sm2.kept, sm1.kept] = [sm3.kept, sm2.kept, sm1.kept] := by kernel_rfl
theorem set_s4 : setB sm4 [sm3.kept, sm2.kept, sm1.kept] = smallL := by kernel_rfl
theorem said_s : saidB smallL = [51, 32, 50, 32, 52, 32] := by kernel_rfl
theorem find_plus : finds [43] smallL = [sm2.kept] := by kernel_rfl
theorem said_p : saidB [sm2.kept] = [50, 32] := by kernel_rfl
end Go.Proofs.YtagjlmpmbflmhaaDoor
