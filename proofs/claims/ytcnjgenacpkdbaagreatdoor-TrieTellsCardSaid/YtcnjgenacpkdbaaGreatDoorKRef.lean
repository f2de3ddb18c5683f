/- The reference's count of characters. -/
import Derived.Test.YtcnjgenacpkdbaaGreatDoorKCount
namespace Go.Proofs.YtcnjgenacpkdbaaGreatDoor
open Go Go.RowKit Go.Lib

/-- how many bytes the character has that begins with a byte, by the reference -/
def szN (b : Nat) : Int := if b < 128 then 1 else if b < 192 then 0 else if b < 224 then 2 else if b < 240 then 3 else if b < 248 then 4 else 0
theorem size_any (b : Nat) (n : Int) (w : World) (hb : b < 256) (hn : szN b = n) :
    Calls Tryz.prog 129 #[.int .u8 (b : Int)] w fun e w' => e = .returned (.int .i64 n) ∧ w = w' := by
  subst hn
  unfold szN
  by_cases h1 : b < 128
  · rw [if_pos h1]
    have h1' : (b : Int) < 128 := by omega
    go_enter Tryz.func129, Tryz.ntmps129
    go_wp2_with fail
    go_ret
    exact ⟨rfl, rfl⟩
  rw [if_neg h1]
  by_cases h2 : b < 192
  · rw [if_pos h2]
    have h1' : ¬ (b : Int) < 128 := by omega
    have h2' : ¬ (192 : Int) ≤ b := by omega
    have h3' : ¬ (224 : Int) ≤ b := by omega
    have h4' : ¬ (240 : Int) ≤ b := by omega
    go_enter Tryz.func129, Tryz.ntmps129
    go_wp2_with fail
    go_ret
    exact ⟨rfl, rfl⟩
  rw [if_neg h2]
  have h1' : ¬ (b : Int) < 128 := by omega
  have h2' : (192 : Int) ≤ b := by omega
  by_cases h3 : b < 224
  · rw [if_pos h3]
    have h3' : (b : Int) < 224 := by omega
    go_enter Tryz.func129, Tryz.ntmps129
    go_wp2_with fail
    go_ret
    exact ⟨rfl, rfl⟩
  rw [if_neg h3]
  have h3' : ¬ (b : Int) < 224 := by omega
  have h4' : (224 : Int) ≤ b := by omega
  by_cases h4 : b < 240
  · rw [if_pos h4]
    have h5' : (b : Int) < 240 := by omega
    go_enter Tryz.func129, Tryz.ntmps129
    go_wp2_with fail
    go_ret
    exact ⟨rfl, rfl⟩
  rw [if_neg h4]
  have h5' : ¬ (b : Int) < 240 := by omega
  have h6' : (240 : Int) ≤ b := by omega
  by_cases h5 : b < 248
  · rw [if_pos h5]
    have h7' : (b : Int) < 248 := by omega
    go_enter Tryz.func129, Tryz.ntmps129
    go_wp2_with fail
    go_ret
    exact ⟨rfl, rfl⟩
  · rw [if_neg h5]
    have h7' : ¬ (b : Int) < 248 := by omega
    go_enter Tryz.func129, Tryz.ntmps129
    go_wp2_with fail
    go_ret
    exact ⟨rfl, rfl⟩

def leastN (n : Nat) : Int := if n = 1 then 1 else if n = 2 then 128 else if n = 3 then 2048 else 65536
theorem least_any (n : Nat) (w : World) (h1 : 1 ≤ n) (h4 : n ≤ 4) :
    Calls Tryz.prog 130 #[.int .i64 (n : Int)] w fun e w' => e = .returned (.int .i64 (leastN n)) ∧ Below w.heap.size w w' := by
  rcases (by omega : n = 1 ∨ n = 2 ∨ n = 3 ∨ n = 4) with rfl | rfl | rfl | rfl
  all_goals
    go_enter Tryz.func130, Tryz.ntmps130
    go_wp2_with fail
    go_ret
    exact ⟨rfl, (Below.refl _ _).alloc (Nat.le_refl _) _⟩
end Go.Proofs.YtcnjgenacpkdbaaGreatDoor
