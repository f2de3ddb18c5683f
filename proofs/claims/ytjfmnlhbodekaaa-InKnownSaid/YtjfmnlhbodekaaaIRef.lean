/- The document's table of ids: walked. -/
import Derived.Test.YtjfmnlhbodekaaaIOpen
namespace Go.Proofs.Ytjfmnlhbodekaaa
open Go Go.RowKit Go.Maps

theorem u16s_at {l : List Int} {k : Nat} {x : Int} (h : l[k]? = some x) : (u16s l)[k]? = some (.int .u16 x) := by simp [u16s, h]
theorem row_at {w : World} {a : Option Addr} {l : List Int} (h : Row w a (u16s l)) {k : Nat} {x : Int} (hx : l[k]? = some x) : ∃ b off, a = some ⟨b, off, none⟩ ∧ w.cell? ⟨b, off + k, none⟩ = some (.int .u16 x) := h.at (u16s_at hx)

/-- A table lies at block g: it has the row l; its blocks are F. -/
def TRep (w : World) (g : Nat) (l : List Int) (F : List Nat) : Prop :=
  ∃ v, w.heap[g]? = some (.cells #[v] 40 (0, 0)) ∧ w.ownsRow 0 25 1 v l.length (u16s l) ∧ v.ownBlock ≠ some g ∧ F = g :: v.ownBlock.toList
theorem TRep.lt {w : World} {g : Nat} {l : List Int} {F : List Nat} (h : TRep w g l F) : ∀ k ∈ F, k < w.heap.size := by
  obtain ⟨v, hg, hown, _, rfl⟩ := h
  intro k hk
  simp only [List.mem_cons, Option.mem_toList] at hk
  rcases hk with rfl | hk
  · exact (Array.getElem?_eq_some_iff.1 hg).1
  · exact (hown.lt k hk).2
theorem TRep.mod {S : List Nat} {w w' : World} {g : Nat} {l : List Int} {F : List Nat} (h : TRep w g l F) (hm : Mod S w w') (hS : ∀ k ∈ F, k ∉ S) : TRep w' g l F := by
  have hl := h.lt
  obtain ⟨v, hg, hown, h1, rfl⟩ := h
  exact ⟨v, by rw [hm.block g (hl g (by simp)) (hS g (by simp))]; exact hg, ownsRow_local hown fun k hk => hm.block k (hl k (by simp [hk])) (hS k (by simp [hk])), h1, rfl⟩
theorem TRep.below {w w' : World} {g : Nat} {l : List Int} {F : List Nat} (h : TRep w g l F) (hk : Below w.heap.size w w') : TRep w' g l F := h.mod (Mod.of_below hk []) (by simp)

theorem tnew (w : World) : Calls Try.prog 15 #[] w fun e w' => ∃ g F, e = .returned (.pointer (some ⟨g, 0, none⟩)) ∧ TRep w' g [] F ∧ Upd [] F w w' := by
  go_enter Try.func15, Try.ntmps15
  go_wp2_with fail
  go_ret
  exact ⟨_, _, rfl, ⟨.slice none 0 0, heap_alloc_new _ _, World.ownsRow_nil _ _ _ _, by simp [Value.ownBlock], rfl⟩, (Mod.refl _ _).alloc _, by simp [Value.ownBlock]⟩

theorem tknows_any (b : Bool) (g : Nat) (x : Int) (l : List Int) (F : List Nat) (w : World) (h : TRep w g l F) (hlen : l.length ≤ 1000000) (hb : decide (x ∈ l) = b) :
    Calls Try.prog 19 #[.pointer (some ⟨g, 0, none⟩), .int .u16 x] w fun e w' => e = .returned (.bool b) ∧ w = w' := by
  obtain ⟨v, hg, hown, -, -⟩ := h
  obtain ⟨a, cap, rfl, hrow, hn, hc⟩ := ownsRow_row hown
  have c0 := cell_of_row w g 0 _ _ _ hg
  simp only [List.getElem?_toArray, List.getElem?_cons_zero] at c0
  have HB := Lib.hid hb
  have HR := Lib.hid hrow
  clear hg hown hb hrow
  go_enter Try.func19, Try.ntmps19
  go_wp2_with fail
  go_loop [5] (fun i => ∃ k : Nat, i = .int .i64 k ∧ k ≤ l.length ∧ x ∉ l.take k) (fun i => (l.length - intOf i).toNat)
  case atStart => exact ⟨0, rfl, by omega, by simp⟩
  case round =>
    obtain ⟨k, rfl, hk, hn⟩ := hrel
    have HN := Lib.hid hn
    clear hn
    by_cases hlt : k < l.length
    · obtain ⟨b1, o1, rfl, k0⟩ := row_at HR.out (k := k) (x := l[k]) (by simp [hlt])
      have hk0 : (0 : Int) ≤ k := by omega
      have hkl : (k : Int) < l.length := by omega
      have HY := Lib.hid (show l[k]? = some l[k] by simp [hlt])
      generalize l[k] = y at *
      by_cases he : y = x
      · subst he
        go_wp2_with fail
        go_ret
        refine ⟨ret_bool ?_, rfl⟩
        rw [← HB.out]
        simp [List.mem_of_getElem? HY.out]
      · have he' : (y == x) = false := by simpa using he
        go_wp2_with fail
        go_round
        case rel =>
          refine ⟨k + 1, by go_num, by omega, ?_⟩
          rw [List.take_add_one, HY.out]
          simp only [Option.toList_some, List.mem_append, List.mem_singleton, not_or]
          exact ⟨HN.out, fun e => he e.symm⟩
        case measure => simp [intOf]; omega
    · have hkl : ¬ (k : Int) < l.length := by omega
      have HF := Lib.hid (show false = b by rw [← HB.out]; have := HN.out; rw [List.take_of_length_le (by omega)] at this; simp [this])
      go_wp2_with fail
      go_ret
      exact ⟨ret_bool HF.out, rfl⟩
end Go.Proofs.Ytjfmnlhbodekaaa
