/- The acts of the queue's laws: an argument of type []Act opened, its cells, and whether there are too many. -/
import Derived.Test.YtpladpcagdkhmaaQSame
import Derived.Test.YtpladpcagdkhmaaOpen
namespace Go.Proofs.Ytpladpcagdkhmaa
open Go Go.ChangeShapes Go.WideShapes Go.ChangeAt Go.RowKit Go.WideMaps Go.WideElems Go.Joins

/-- an act: a kind and a message -/
structure Do where
  k : Int
  m : Msg
def Do.cells (d : Do) : List Value := [.int .u8 d.k, .string d.m.t, .string d.m.p, .int .u8 d.m.q, .bool d.m.r]
def dos (l : List Do) : List Value := l.flatMap Do.cells
structure Do.ok (d : Do) : Prop where
  k0 : 0 ≤ d.k
  k1 : d.k ≤ 255
  ht : d.m.t.size ≤ maxLen
  hp : d.m.p.size ≤ maxLen
  q0 : 0 ≤ d.m.q
  q1 : d.m.q ≤ 255

theorem flat_msg : Flat Try.prog 28 Msg.cells (fun m => m.t.size ≤ maxLen ∧ m.p.size ≤ maxLen ∧ 0 ≤ m.q ∧ m.q ≤ 255) := by
  intro H enc w base sp held fuel cs x h
  obtain ⟨y0, y1, y2, y3, n, -, hl, h0, h1, h2, h3⟩ := trod_struct4 Try.underlying28 h
  have hc : Try.prog.cellsOf 28 = 4 := by kernel_rfl
  have c9 : Try.prog.cellsOf 9 = 1 := by kernel_rfl
  have c5 : Try.prog.cellsOf 5 = 1 := by kernel_rfl
  have c4 : Try.prog.cellsOf 4 = 1 := by kernel_rfl
  rw [hc] at hl
  match cs, hl with
  | [a, b, c, d], _ =>
    simp only [c9, c5, c4, List.drop_zero, List.drop_succ_cons, List.take_succ_cons, List.take_zero] at h0 h1 h2 h3
    obtain ⟨s, e0, -, z0⟩ := DataW.trod_string Try.underlying9 h0
    obtain ⟨p, e1, -, z1⟩ := DataW.trod_string Try.underlying9 h1
    obtain ⟨q, e2, -, z2⟩ := DataW.trod_int Try.underlying5 h2
    obtain ⟨r, e3, -⟩ := DataW.trod_bool Try.underlying4 h3
    have b2 := bounds_u8 z2
    refine ⟨⟨s, p, q, r⟩, ?_, z0, z1, b2.1, b2.2⟩
    simp only [List.cons.injEq, and_true] at e0 e1 e2 e3
    subst e0 e1 e2 e3
    rfl

theorem flat_do : Flat Try.prog 43 Do.cells Do.ok := by
  intro H enc w base sp held fuel cs x h
  obtain ⟨y0, y1, n, -, hl, h0, h1⟩ := trod_struct2 Try.underlying43 h
  have hc : Try.prog.cellsOf 43 = 5 := by kernel_rfl
  have c4 : Try.prog.cellsOf 28 = 4 := by kernel_rfl
  have c5 : Try.prog.cellsOf 5 = 1 := by kernel_rfl
  rw [hc] at hl
  match cs, hl with
  | [k, a, b, c, d], _ =>
    simp only [c4, c5, List.drop_zero, List.drop_succ_cons, List.take_succ_cons, List.take_zero] at h0 h1
    obtain ⟨k', e0, -, z0⟩ := DataW.trod_int Try.underlying5 h0
    obtain ⟨m, e1, z1, z2, z3, z4⟩ := flat_msg _ _ _ _ _ _ _ _ _ h1
    have b0 := bounds_u8 z0
    refine ⟨⟨k', m⟩, ?_, b0.1, b0.2, z1, z2, z3, z4⟩
    simp only [List.cons.injEq, and_true] at e0
    rw [e0, e1]
    rfl

theorem do_len (d : Do) : d.cells.length = Try.prog.cellsOf 43 := (show (5 : Nat) = Try.prog.cellsOf 43 from by kernel_rfl)
theorem do_pos : 0 < Try.prog.cellsOf 43 := by rw [← do_len ⟨0, Msg.none⟩]; exact Nat.succ_pos _
/-- the five cells of the act at k -/
theorem dos_row {w : World} {a : Option Addr} {l : List Do} (h : Row w a (dos l)) {k : Nat} {d : Do} (hk : l[k]? = some d) :
    ∃ b off, a = some ⟨b, off, none⟩ ∧ w.cell? ⟨b, off + k * 5, none⟩ = some (.int .u8 d.k) ∧ w.cell? ⟨b, off + k * 5 + 1, none⟩ = some (.string d.m.t) ∧ w.cell? ⟨b, off + k * 5 + 2, none⟩ = some (.string d.m.p) ∧
      w.cell? ⟨b, off + k * 5 + 3, none⟩ = some (.int .u8 d.m.q) ∧ w.cell? ⟨b, off + k * 5 + 4, none⟩ = some (.bool d.m.r) := by
  have hc : ∀ d : Do, d.cells.length = 5 := fun _ => rfl
  have ha : ∀ r, r < 5 → (dos l)[k * 5 + r]? = d.cells[r]? := fun r hr => by rw [dos, flatMap_at hc _ _ _ hr, hk]; rfl
  have m0 := ha 0 (by omega)
  rcases h with h | ⟨b, off, e, hcell⟩
  · rw [h] at m0; simp [Do.cells] at m0
  · exact ⟨b, off, e, hcell _ _ m0, by rw [Nat.add_assoc]; exact hcell _ _ (ha 1 (by omega)), by rw [Nat.add_assoc]; exact hcell _ _ (ha 2 (by omega)), by rw [Nat.add_assoc]; exact hcell _ _ (ha 3 (by omega)), by rw [Nat.add_assoc]; exact hcell _ _ (ha 4 (by omega))⟩

set_option maxRecDepth 100000 in
set_option maxHeartbeats 2000000 in
theorem great_any (a : Option Addr) (c : Nat) (l : List Do) (w : World) (ha : Row w a (dos l)) :
    Calls Try.prog 18 #[.slice a l.length c] w fun e w' => ∃ b, e = .returned (.bool b) ∧ (b = false → l.length ≤ 2500) ∧ ∃ n, w' = w.drewN n := by
  have HA := Lib.hid ha
  clear ha
  go_enter Try.func18, Try.ntmps18
  by_cases hbig : (2500 : Int) < l.length
  · go_wp2_with fail
    go_ret
    first | exact ⟨true, rfl, by simp, 0, rfl⟩ | exact .inr ⟨rfl, 0, rfl⟩
  have hbig' : decide ((2500 : Int) < l.length) = false := by simp [hbig]
  go_wp2_with fail
  go_loopw [3] (fun i wr => ∃ k : Nat, i = .int .i64 k ∧ k ≤ l.length ∧ ∃ n, wr = w.drewN n) (fun i _ => (l.length - intOf i).toNat)
  case atStart => exact ⟨0, rfl, by omega, 0, rfl⟩
  case round =>
    obtain ⟨k, rfl, hk, nd, rfl⟩ := hrel
    by_cases hlt : k < l.length
    · obtain ⟨b1, o1, rfl, k0, k1, k2, k3, k4⟩ := dos_row HA.out (k := k) (d := l[k]) (by simp [hlt])
      generalize l[k] = d at *
      obtain ⟨dk, mt, mp, mq, mr⟩ := d
      have hk0 : (0 : Int) ≤ k := by omega
      have hkl : (k : Int) < l.length := by omega
      simp only at k0 k1 k2 k3 k4
      go_wp2_with fail
      go_quiet (fail)
      by_cases hbg : (200 : Int) < wrap64 ((mt.size : Int) + mp.size)
      · go_wp2_with fail
        go_ret
        exact ⟨true, rfl, by simp, nd + nq, World.drewN_drewN _ _ _⟩
      · go_wp2_with fail
        go_roundw
        case rel => exact ⟨k + 1, by go_num, by omega, _, rfl⟩
        case measure => simp [intOf]; omega
    · have hkl : ¬ (k : Int) < l.length := by omega
      go_wp2_with fail
      go_ret
      exact .inl ⟨rfl, by omega, nd, rfl⟩
end Go.Proofs.Ytpladpcagdkhmaa
