import Derived.Test.YtpladpcagdkhmaaQRef
namespace Go.Proofs.Ytpladpcagdkhmaa
open Go Go.RowKit

set_option maxRecDepth 100000 in
set_option maxHeartbeats 2000000 in
theorem same_true (a b : Option Addr) (c d : Nat) (l : List Msg) (w : World) (ha : Row w a (msgs l)) (hb : Row w b (msgs l)) (hl : l.length ≤ 100000) :
    Calls Try.prog 22 #[.slice a l.length c, .slice b l.length d] w fun e w' => e = .returned (.bool true) ∧ Below w.heap.size w w' := by
  have hst : Try.prog.stoodInHeld 28 = false := by kernel_rfl
  have hgd : Try.prog.eqGuardType Try.prog.depth 28 = false := by kernel_rfl
  have HA := Lib.hid ha
  have HB := Lib.hid hb
  clear ha hb
  go_enter Try.func22, Try.ntmps22
  go_wp2_with fail
  go_loopw [5] (fun i wr => ∃ k : Nat, i = .int .i64 k ∧ k ≤ l.length ∧ Below w.heap.size w wr) (fun i _ => (l.length - intOf i).toNat)
  case atStart => exact ⟨0, rfl, by omega, Below.refl _ _⟩
  case round =>
    obtain ⟨k, rfl, hk, hbel⟩ := hrel
    by_cases hlt : k < l.length
    · obtain ⟨b1, o1, rfl, k0, k1, k2, k3⟩ := msgs_row (HA.out.below hbel (Nat.le_refl _)) (k := k) (m := l[k]) (by simp [hlt])
      obtain ⟨b2, o2, rfl, j0, j1, j2, j3⟩ := msgs_row (HB.out.below hbel (Nat.le_refl _)) (k := k) (m := l[k]) (by simp [hlt])
      generalize l[k] = m at *
      obtain ⟨mt, mp, mq, mr⟩ := m
      have hk0 : (0 : Int) ≤ k := by omega
      have hkl : (k : Int) < l.length := by omega
      simp only at k0 k1 k2 k3 j0 j1 j2 j3
      go_wp2_with fail
      go_quiet (fail)
      go_wp2_with fail
      go_roundw
      case rel => exact ⟨k + 1, by go_num, by omega, below_drewN hbel _⟩
      case measure => simp [intOf]; omega
    · have hkl : ¬ (k : Int) < l.length := by omega
      go_wp2_with fail
      go_ret
      exact ⟨rfl, hbel⟩

theorem number_any (n : Int) (w : World) (h0 : 0 ≤ n) (h1 : n ≤ 65535) :
    Calls Try.prog 23 #[.int .i64 n] w fun e w' => e = .returned (.string ⟨[UInt8.ofNat (n / 256).toNat, UInt8.ofNat (n % 256).toNat].toArray⟩) ∧ Below w.heap.size w w' := by
  have hconv := fun (w : World) (x y : Int) => run_string_new (P := Try.prog) Try.underlying51 Try.underlying5 Try.underlying9 [x, y] 2 w
  simp only [List.map_cons, List.map_nil, List.length_cons, List.length_nil] at hconv
  go_enter Try.func23, Try.ntmps23
  go_wp2_with fail
  go_ret
  exact ⟨rfl, (Below.refl _ _).alloc (Nat.le_refl _) _⟩

/-- What a queue of the call's own was and is: all from B on. -/
theorem upd_below {F F' : List Nat} {w w1 w2 : World} {B : Nat} (hb : Below B w w1) (hB : B ≤ w.heap.size) (hF : ∀ k ∈ F, B ≤ k) (hu : Upd F F' w1 w2) : Below B w w2 ∧ ∀ k ∈ F', B ≤ k :=
  ⟨hb.trans (hu.1.below (Nat.le_trans hB hb.size) hF), fun k hk => by
    rcases hu.2 k hk with h | h
    · exact hF k h
    · have := hb.size; omega⟩
theorem qroom_of (n : Int) (g : Nat) (l : List Msg) (most : Int) (F : List Nat) (w : World) (h : QRep w g l most F) (hn : most - (l.length : Int) = n) :
    Calls Try.prog 9 #[.pointer (some ⟨g, 0, none⟩)] w fun e w' => e = .returned (.int .i64 n) ∧ ∃ m, w' = w.drewN m := by
  subst hn; exact qroom_any g l most F w h
end Go.Proofs.Ytpladpcagdkhmaa
