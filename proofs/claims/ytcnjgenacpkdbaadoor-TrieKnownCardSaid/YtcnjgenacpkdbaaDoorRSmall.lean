/- The trie's laws: how many nodes there are, by the hints; small and awake. -/
import Derived.Test.YtcnjgenacpkdbaaDoorRTr
namespace Go.Proofs.YtcnjgenacpkdbaaDoor
open Go Go.RowKit

def prefs : Path → List Path
  | [] => [[]]
  | x :: r => [] :: (prefs r).map (x :: ·)
theorem mem_prefs {p q : Path} : q ∈ prefs p ↔ q <+: p := by
  induction p generalizing q with
  | nil => simp [prefs, List.prefix_nil]
  | cons x r ih =>
    cases q with
    | nil => simp [prefs]
    | cons y s =>
      simp only [prefs, List.mem_cons, List.mem_map, List.cons_prefix_cons, reduceCtorEq, false_or]
      constructor
      · rintro ⟨z, hz, e⟩
        cases e
        exact ⟨rfl, ih.1 hz⟩
      · rintro ⟨rfl, h⟩
        exact ⟨s, ih.2 h, rfl⟩
def ndp : List Path → List Path
  | [] => []
  | x :: r => if x ∈ ndp r then ndp r else x :: ndp r
theorem mem_ndp {x : Path} {l : List Path} : x ∈ ndp l ↔ x ∈ l := by
  induction l with
  | nil => simp [ndp]
  | cons y r ih =>
    unfold ndp
    split
    · rename_i h
      rw [ih, List.mem_cons]
      constructor
      · exact .inr
      · rintro (rfl | h')
        · exact ih.1 h
        · exact h'
    · rw [List.mem_cons, List.mem_cons, ih]
theorem nodup_ndp (l : List Path) : (ndp l).Nodup := by
  induction l with
  | nil => exact List.nodup_nil
  | cons y r ih =>
    unfold ndp
    split
    · exact ih
    · rename_i h
      exact List.nodup_cons.2 ⟨h, ih⟩
/-- the nodes that hints have -/
def pathsOf (Gs : List Hint) : List Path := ndp ([] :: Gs.flatMap fun g => prefs (levels g.1))
def nodesOf (Gs : List Hint) : Nat := (pathsOf Gs).length
theorem mem_pathsOf {Gs : List Hint} {p : Path} : p ∈ pathsOf Gs ↔ p = [] ∨ ∃ g ∈ Gs, p <+: levels g.1 := by
  unfold pathsOf
  rw [mem_ndp, List.mem_cons, List.mem_flatMap]
  simp only [mem_prefs]
theorem HR.count {n t N : Nat} {w : World} {Gs : List Hint} {F : List Nat} (h : HR n w t Gs N F) : N = nodesOf Gs := by
  obtain ⟨B, Ns, Hs, h1, h2, h3, h4, h5, h6, h7, h8⟩ := h
  have a := h1.tight
  rw [← h6]
  refine ((List.perm_ext_iff_of_nodup a.nn (nodup_ndp _)).2 (fun p => ?_)).length_eq
  rw [a.mem]
  refine Iff.trans ?_ (mem_pathsOf (Gs := Gs)).symm
  constructor
  · rintro (e | ⟨x, hx, hp'⟩)
    · exact .inl e
    · obtain ⟨g, hg, rfl⟩ := List.mem_map.1 (h2.mem_iff.1 hx)
      exact .inr ⟨g, hg, hp'⟩
  · rintro (e | ⟨g, hg, hp'⟩)
    · exact .inl e
    · exact .inr ⟨asPath g, h2.mem_iff.2 (List.mem_map.2 ⟨g, hg, rfl⟩), hp'⟩

def smallG : List Hint := [([35], [122]), ([97, 47, 35], [120]), ([97, 47, 35], [121]), ([97, 47, 43], [120])]
theorem nodes_x (t N n M : Nat) (Gs : List Hint) (w0 : World) (F : List Nat) (w : World) (h : Tr w0 w n t Gs N F) (hM : nodesOf Gs = M) :
    Calls Tryd.prog 10 #[.pointer (some ⟨t, 0, none⟩)] w fun e w' => e = .returned (.int .i64 M) ∧ w = w' := by
  have := hnodes n t N Gs F w h.c
  rwa [h.c.count, hM] at this
theorem add_s1 : addB [] [97, 47, 43] [120] = true ∧ addG [] [97, 47, 43] [120] = [([97, 47, 43], [120])] := by decide +kernel
theorem add_s2 : addB [([97, 47, 43], [120])] [97, 47, 35] [121] = true ∧ addG [([97, 47, 43], [120])] [97, 47, 35] [121] = [([97, 47, 35], [121]), ([97, 47, 43], [120])] := by decide +kernel
theorem add_s3 : addB [([97, 47, 35], [121]), ([97, 47, 43], [120])] [97, 47, 35] [120] = true ∧ addG [([97, 47, 35], [121]), ([97, 47, 43], [120])] [97, 47, 35] [120] = [([97, 47, 35], [120]), ([97, 47, 35], [121]), ([97, 47, 43], [120])] := by decide +kernel
theorem add_s4 : addB [([97, 47, 35], [120]), ([97, 47, 35], [121]), ([97, 47, 43], [120])] [35] [122] = true ∧ addG [([97, 47, 35], [120]), ([97, 47, 35], [121]), ([97, 47, 43], [120])] [35] [122] = smallG := by decide +kernel
theorem told_s : toldG smallG [97, 47, 98] = [[120], [121], [122]] := by decide +kernel
theorem nodes_s : nodesOf smallG = 5 := by decide +kernel

set_option maxRecDepth 100000 in
set_option maxHeartbeats 2000000 in
theorem small_any (w : World) (hT : Tabs w) : Calls Tryd.prog 4 #[] w fun e w' => ∃ t N F, e = .returned (.pointer (some ⟨t, 0, none⟩)) ∧ Tr w w' 4 t smallG N F := by
  have HT := Lib.hid hT
  clear hT
  go_enter Tryd.func4, Tryd.ntmps4
  go_wp2_with fail
  refine (hnew _).mono ?_
  rintro e w1 ⟨t, F, rfl, hq, hu⟩
  have HO := Lib.hid (Tr.start (Below.refl w.heap.size w) hq hu)
  clear hq hu
  go_wp2_with fail
  refine (add_x t _ 0 ⟨#[97, 47, 43]⟩ ⟨#[120]⟩ true _ _ w F _ HO.out HT.out (by decide) (by decide) (by omega) add_s1.1 add_s1.2).mono ?_
  rintro e w2 ⟨rfl, N2, F2, hq, -⟩
  replace HO := Lib.hid hq
  clear hq
  go_wp2_with fail
  refine (add_x t _ _ ⟨#[97, 47, 35]⟩ ⟨#[121]⟩ true _ _ w F2 _ HO.out HT.out (by decide) (by decide) (by omega) add_s2.1 add_s2.2).mono ?_
  rintro e w3 ⟨rfl, N3, F3, hq, -⟩
  replace HO := Lib.hid hq
  clear hq
  go_wp2_with fail
  refine (add_x t _ _ ⟨#[97, 47, 35]⟩ ⟨#[120]⟩ true _ _ w F3 _ HO.out HT.out (by decide) (by decide) (by omega) add_s3.1 add_s3.2).mono ?_
  rintro e w4 ⟨rfl, N4, F4, hq, -⟩
  replace HO := Lib.hid hq
  clear hq
  go_wp2_with fail
  refine (add_x t _ _ ⟨#[35]⟩ ⟨#[122]⟩ true _ _ w F4 _ HO.out HT.out (by decide) (by decide) (by omega) add_s4.1 add_s4.2).mono ?_
  rintro e w5 ⟨rfl, N5, F5, hq, -⟩
  replace HO := Lib.hid hq
  clear hq
  go_wp2_with fail
  go_ret
  exact ⟨t, N5, F5, rfl, HO.out⟩
end Go.Proofs.YtcnjgenacpkdbaaDoor
