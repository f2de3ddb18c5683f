/- The hub's laws: HubAtOnce walked. -/
import Derived.Test.YthfdcphecggjeaaGreatDoorQZ
import Derived.Test.YthfdcphecggjeaaGreatDoorHRouP
namespace Go.Proofs.YthfdcphecggjeaaGreatDoor
open Go Go.RowKit

theorem small_of {l : List Item} (h : SmL l) (hq : ∀ x ∈ l, 0 ≤ x.msg.q ∧ x.msg.q < 256) : ∀ x ∈ l, SmallI x := fun x hx => by
  obtain ⟨h1, h2, h3, h4⟩ := h.2 x hx
  exact ⟨by omega, by omega, by omega, by omega, (hq x hx).1, (hq x hx).2⟩
theorem addG_len (gs : List Hint) (f c : Str) : (addG gs f c).length ≤ gs.length + 1 := by
  unfold addG
  split
  · rw [(perm_insH (f, c) gs).length_eq]; simp
  · omega
theorem routeK_len (x : Item) {kp : List Msg} {k : Nat} (h : kp.length ≤ k) : (routeK x kp).length ≤ k + 1 := by
  unfold routeK
  split
  · exact keepL h
  · omega
theorem oneM_small {n k : Nat} (x : Item) {s : HubS} (hk : s.kp.length ≤ k) (hg : s.gs.length ≤ k) : (∀ h ∈ (oneM n x s).1, h.msgs.length ≤ k ∧ h.clients.length ≤ k) ∧ (oneM n x s).2.kp.length ≤ k + 1 ∧ (oneM n x s).2.gs.length ≤ k + 1 := by
  have hz : ∀ (l : List Msg) (y : Int) (z : Int), l.length ≤ k → ∀ h ∈ [backM x y l z], h.msgs.length ≤ k ∧ h.clients.length ≤ k := fun l y z hl h hh => by
    rw [List.mem_singleton.1 hh]; exact ⟨hl, by simp [backM]⟩
  unfold oneM
  split
  · exact ⟨by simp, by show s.kp.length ≤ _; omega, by show s.gs.length ≤ _; omega⟩
  · split
    · exact ⟨hz _ _ _ (Nat.le_trans (finds_len _ _) hk), by show s.kp.length ≤ _; omega, Nat.le_trans (addG_len ..) (by omega)⟩
    · split
      · exact ⟨hz _ _ _ (by simp), by show s.kp.length ≤ _; omega, Nat.le_trans (List.length_erase_le) (by omega)⟩
      · split
        · refine ⟨fun h hh => ?_, routeK_len x hk, by show s.gs.length ≤ _; omega⟩
          unfold routeM at hh
          rcases List.mem_append.1 hh with hh | hh
          · obtain ⟨q, -, -, rfl⟩ := send_mem hh
            exact ⟨by simp [toM], Nat.le_trans (at1_len n _ q) (Nat.le_trans (toldG_len ..) hg)⟩
          · exact hz _ _ _ (by simp) h hh
        · exact ⟨by simp, by show s.kp.length ≤ _; omega, by show s.gs.length ≤ _; omega⟩
theorem doH_one (n : Nat) (x : Item) (s : HubS) : (doH n [x] s).1 = (oneM n x s).1 ∧ (doH n [x] s).2 = (oneM n x s).2 := ⟨by simp [doH], rfl⟩
theorem notesOf_one (n : Nat) (x : Item) : notesOf n [x] = if noted n x then [noteOf x] else [] := by
  have := notesOf_snoc n [] x
  rw [List.nil_append] at this
  rw [this]; rfl
theorem upd_l {A S S' : List Nat} {w w' : World} (h : Upd S S' w w') : Upd (A ++ S) (A ++ S') w w' :=
  ⟨h.1.mono fun _ hj => List.mem_append_right _ hj, fun k hk => by
    rcases List.mem_append.1 hk with hk | hk
    · exact .inl (List.mem_append_left _ hk)
    · exact (h.2 k hk).imp (fun h1 => List.mem_append_right _ h1) id⟩
end Go.Proofs.YthfdcphecggjeaaGreatDoor
