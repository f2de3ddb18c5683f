/- The queue's calls, and the reference's, each in one contract for whatever the queue has; what lies apart. -/
import Derived.Test.YtpladpcagdkhmaaQActs
import Derived.Test.YtpladpcagdkhmaaQAwake
namespace Go.Proofs.Ytpladpcagdkhmaa
open Go Go.RowKit

def pushL (most : Int) (l : List Msg) (m : Msg) : List Msg := if (l.length : Int) < most then l ++ [m] else l
theorem qbelow_upd {F : List Nat} {w w' : World} (h : Below w.heap.size w w') : Upd F F w w' := ⟨Mod.of_below h F, fun _ hk => .inl hk⟩
theorem QRep.le {w : World} {g : Nat} {l : List Msg} {most : Int} {F : List Nat} (h : QRep w g l most F) : (l.length : Int) ≤ most ∧ most ≤ 1024 := by
  obtain ⟨_, _, _, _, _, h, _, h', _, _⟩ := h; exact ⟨h, h'⟩
theorem RRep.le {w : World} {g : Nat} {l : List Msg} {most : Int} {F : List Nat} (h : RRep w g l most F) : (l.length : Int) ≤ most ∧ most ≤ 1024 := by
  obtain ⟨_, _, _, h, _, h', _⟩ := h; exact ⟨h, h'⟩
theorem QRep.hd {w : World} {g : Nat} {l : List Msg} {most : Int} {F : List Nat} (h : QRep w g l most F) : g ∈ F := by
  obtain ⟨_, _, _, _, _, _, _, _, _, rfl⟩ := h; simp

theorem qpush_u (b : Bool) (g : Nat) (l : List Msg) (most : Int) (F : List Nat) (m : Msg) (w : World) (h : QRep w g l most F) (hb : decide ((l.length : Int) < most) = b) :
    Calls Try.prog 11 #[.pointer (some ⟨g, 0, none⟩), m.val] w fun e w' => e = .returned (.bool b) ∧ ∃ F', QRep w' g (pushL most l m) most F' ∧ Upd F F' w w' := by
  subst hb
  have hle := h.le.1
  by_cases hl : (l.length : Int) < most
  · refine (qpush_room g l most F m w h hl).mono ?_
    rintro e w' ⟨rfl, F', h1, h2⟩
    exact ⟨by simp [hl], F', by rw [pushL, if_pos hl]; exact h1, h2⟩
  · refine (qpush_full g l most F m w h (by omega)).mono ?_
    rintro e w' ⟨rfl, h1, h2⟩
    exact ⟨by simp [hl], F, by rw [pushL, if_neg hl]; exact h1, h2⟩
theorem rpush_u (b : Bool) (g : Nat) (l : List Msg) (most : Int) (F : List Nat) (m : Msg) (w : World) (h : RRep w g l most F) (hb : decide ((l.length : Int) < most) = b) :
    Calls Try.prog 20 #[.pointer (some ⟨g, 0, none⟩), m.val] w fun e w' => e = .returned (.bool b) ∧ ∃ F', RRep w' g (pushL most l m) most F' ∧ Upd F F' w w' := by
  subst hb
  have hle := h.le.1
  by_cases hl : (l.length : Int) < most
  · refine (rpush_room g l most F m w h hl).mono ?_
    rintro e w' ⟨rfl, F', h1, h2⟩
    exact ⟨by simp [hl], F', by rw [pushL, if_pos hl]; exact h1, h2⟩
  · refine (rpush_full g l most F m w h (by omega)).mono ?_
    rintro e w' ⟨rfl, h1, h2⟩
    exact ⟨by simp [hl], F, by rw [pushL, if_neg hl]; exact h1, h2⟩
theorem qpop_u (m : Msg) (b : Bool) (l' : List Msg) (g : Nat) (l : List Msg) (most : Int) (F : List Nat) (w : World) (h : QRep w g l most F) (hm : l.headD Msg.none = m) (hb : (!l.isEmpty) = b) (hl : l.tail = l') :
    Calls Try.prog 14 #[.pointer (some ⟨g, 0, none⟩)] w fun e w' => e = .returned (.tuple #[m.val, .bool b]) ∧ ∃ F', QRep w' g l' most F' ∧ Upd F F' w w' := by
  subst hm hb hl
  cases l with
  | nil =>
    refine (qpop_empty g most F w h).mono ?_
    rintro e w' ⟨rfl, h1⟩
    exact ⟨rfl, F, h.mod (Mod.of_below h1 []) (by simp), qbelow_upd h1⟩
  | cons x l =>
    exact qpop_some g x l most F w h
theorem rpop_u (m : Msg) (b : Bool) (l' : List Msg) (g : Nat) (l : List Msg) (most : Int) (F : List Nat) (w : World) (h : RRep w g l most F) (hm : l.headD Msg.none = m) (hb : (!l.isEmpty) = b) (hl : l.tail = l') :
    Calls Try.prog 21 #[.pointer (some ⟨g, 0, none⟩)] w fun e w' => e = .returned (.tuple #[m.val, .bool b]) ∧ ∃ F', RRep w' g l' most F' ∧ Upd F F' w w' := by
  subst hm hb hl
  cases l with
  | nil =>
    refine (rpop_empty g most F w h).mono ?_
    rintro e w' ⟨rfl, h1⟩
    exact ⟨rfl, F, h.mod (Mod.of_below h1 []) (by simp), qbelow_upd h1⟩
  | cons x l =>
    exact rpop_some g x l most F w h
theorem qpeek_u (m : Msg) (b : Bool) (g : Nat) (l : List Msg) (most : Int) (F : List Nat) (w : World) (h : QRep w g l most F) (hm : l.headD Msg.none = m) (hb : (!l.isEmpty) = b) :
    Calls Try.prog 15 #[.pointer (some ⟨g, 0, none⟩)] w fun e w' => e = .returned (.tuple #[m.val, .bool b]) ∧ Below w.heap.size w w' := by
  subst hm hb
  cases l with
  | nil => exact qpeek_empty g most F w h
  | cons x l => exact qpeek_some g x l most F w h
theorem qall_u (g : Nat) (l : List Msg) (most : Int) (F : List Nat) (w : World) (h : QRep w g l most F) :
    Calls Try.prog 13 #[.pointer (some ⟨g, 0, none⟩)] w fun e w' => ∃ v, e = .returned v ∧ w'.ownsRow w.heap.size 28 4 v l.length (msgs l) ∧ Below w.heap.size w w' := by
  cases l with
  | nil => exact qall_empty g most F w h
  | cons x l => exact qall_some g x l most F w h

/-- Two footprints have no block in common. -/
def Far (F G : List Nat) : Prop := ∀ k ∈ F, k ∉ G
theorem Far.symm {F G : List Nat} (h : Far F G) : Far G F := fun k hk hf => h k hf hk
theorem Far.upd {F F' G : List Nat} {w w' : World} (h : Far F G) (hu : Upd F F' w w') (hG : ∀ k ∈ G, k < w.heap.size) : Far F' G := fun k hk hg => by
  rcases hu.2 k hk with h1 | h1
  · exact h k h1 hg
  · have := hG k hg; omega
theorem QRep.upd {F F' G : List Nat} {w w' : World} {g : Nat} {l : List Msg} {most : Int} (h : QRep w g l most G) (hu : Upd F F' w w') (hf : Far F G) : QRep w' g l most G := h.mod hu.1 fun k hk => hf.symm k hk
theorem RRep.upd {F F' G : List Nat} {w w' : World} {g : Nat} {l : List Msg} {most : Int} (h : RRep w g l most G) (hu : Upd F F' w w') (hf : Far F G) : RRep w' g l most G := h.mod hu.1 fun k hk => hf.symm k hk
theorem QRep.below {w w' : World} {g : Nat} {l : List Msg} {most : Int} {F : List Nat} (h : QRep w g l most F) (hk : Below w.heap.size w w') : QRep w' g l most F := h.mod (Mod.of_below hk []) (by simp)
theorem RRep.below {w w' : World} {g : Nat} {l : List Msg} {most : Int} {F : List Nat} (h : RRep w g l most F) (hk : Below w.heap.size w w') : RRep w' g l most F := h.mod (Mod.of_below hk []) (by simp)
theorem far_new {F G : List Nat} {w w' : World} (hu : Upd [] F w w') (hG : ∀ k ∈ G, k < w.heap.size) : Far F G := Far.upd (F := []) (fun _ h => by simp at h) hu hG
end Go.Proofs.Ytpladpcagdkhmaa
