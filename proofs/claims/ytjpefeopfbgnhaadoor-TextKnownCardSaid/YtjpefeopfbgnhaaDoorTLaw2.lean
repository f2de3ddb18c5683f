/- Characters of bytes that are cut, or put one behind the other. No program in sight. -/
import Derived.Test.YtjpefeopfbgnhaaDoorTUtf
namespace Go.Proofs.YtjpefeopfbgnhaaDoor
open Go Go.RowKit

def C2 (n b0 b1 : Nat) : Prop := 194 ≤ b0 ∧ b0 < 224 ∧ 1 < n ∧ 128 ≤ b1 ∧ b1 < 192
def C3 (n b0 b1 b2 : Nat) : Prop := 224 ≤ b0 ∧ b0 < 240 ∧ 2 < n ∧ 128 ≤ b1 ∧ b1 < 192 ∧ 128 ≤ b2 ∧ b2 < 192 ∧ (b0 = 224 → 160 ≤ b1) ∧ (b0 = 237 → b1 < 160)
def C4 (n b0 b1 b2 b3 : Nat) : Prop := 240 ≤ b0 ∧ b0 < 245 ∧ 3 < n ∧ 128 ≤ b1 ∧ b1 < 192 ∧ 128 ≤ b2 ∧ b2 < 192 ∧ 128 ≤ b3 ∧ b3 < 192 ∧ (b0 = 240 → 144 ≤ b1) ∧ (b0 = 244 → b1 < 144)
theorem cwN_cases (n b0 b1 b2 b3 : Nat) : cwN n b0 b1 b2 b3 = 0 ∨ (cwN n b0 b1 b2 b3 = 1 ∧ (1 ≤ b0 ∧ b0 < 128)) ∨ (cwN n b0 b1 b2 b3 = 2 ∧ C2 n b0 b1) ∨ (cwN n b0 b1 b2 b3 = 3 ∧ C3 n b0 b1 b2) ∨ (cwN n b0 b1 b2 b3 = 4 ∧ C4 n b0 b1 b2 b3) := by
  unfold cwN
  split
  · rename_i h; exact .inr (.inl ⟨rfl, h⟩)
  · split
    · rename_i h; exact .inr (.inr (.inl ⟨rfl, h⟩))
    · split
      · rename_i h; exact .inr (.inr (.inr (.inl ⟨rfl, h⟩)))
      · split
        · rename_i h; exact .inr (.inr (.inr (.inr ⟨rfl, h⟩)))
        · exact .inl rfl
theorem is1 {n b0 b1 b2 b3 : Nat} (h : 1 ≤ b0 ∧ b0 < 128) : cwN n b0 b1 b2 b3 = 1 := by unfold cwN; rw [if_pos h]
theorem is2 {n b0 b1 b2 b3 : Nat} (h : C2 n b0 b1) : cwN n b0 b1 b2 b3 = 2 := by
  have h1 := h.1
  unfold C2 at h
  unfold cwN; rw [if_neg (by omega), if_pos h]
theorem is3 {n b0 b1 b2 b3 : Nat} (h : C3 n b0 b1 b2) : cwN n b0 b1 b2 b3 = 3 := by
  have h1 := h.1
  unfold C3 at h
  unfold cwN; rw [if_neg (by omega), if_neg (by omega), if_pos h]
theorem is4 {n b0 b1 b2 b3 : Nat} (h : C4 n b0 b1 b2 b3) : cwN n b0 b1 b2 b3 = 4 := by
  have h1 := h.1
  unfold C4 at h
  unfold cwN; rw [if_neg (by omega), if_neg (by omega), if_neg (by omega), if_pos h]
theorem cwN_app (n n' b0 b1 b2 b3 c0 c1 c2 c3 : Nat) (hn : n ≤ n') (h0 : 0 < n → c0 = b0) (h1 : 1 < n → c1 = b1) (h2 : 2 < n → c2 = b2) (h3 : 3 < n → c3 = b3) (z0 : n ≤ 0 → b0 = 0) (h : cwN n b0 b1 b2 b3 ≠ 0) : cwN n' c0 c1 c2 c3 = cwN n b0 b1 b2 b3 := by
  rcases cwN_cases n b0 b1 b2 b3 with e | ⟨e, c⟩ | ⟨e, c⟩ | ⟨e, c⟩ | ⟨e, c⟩
  · exact absurd e h
  · rw [e]
    obtain rfl := h0 (by omega)
    exact is1 c
  · rw [e]
    obtain ⟨d0, d1, d2, d3, d4⟩ := c
    obtain rfl := h0 (by omega)
    obtain rfl := h1 (by omega)
    exact is2 ⟨d0, d1, by omega, d3, d4⟩
  · rw [e]
    obtain ⟨d0, d1, d2, d3⟩ := c
    obtain rfl := h0 (by omega)
    obtain rfl := h1 (by omega)
    obtain rfl := h2 (by omega)
    exact is3 ⟨d0, d1, by omega, d3⟩
  · rw [e]
    obtain ⟨d0, d1, d2, d3⟩ := c
    obtain rfl := h0 (by omega)
    obtain rfl := h1 (by omega)
    obtain rfl := h2 (by omega)
    obtain rfl := h3 (by omega)
    exact is4 ⟨d0, d1, by omega, d3⟩
theorem cwN_take (n n' b0 b1 b2 b3 c0 c1 c2 c3 : Nat) (h0 : 0 < n → c0 = b0) (h1 : 1 < n → c1 = b1) (h2 : 2 < n → c2 = b2) (h3 : 3 < n → c3 = b3) (h : cwN n' c0 c1 c2 c3 ≠ 0) (hle : cwN n' c0 c1 c2 c3 ≤ n) : cwN n b0 b1 b2 b3 = cwN n' c0 c1 c2 c3 := by
  rcases cwN_cases n' c0 c1 c2 c3 with e | ⟨e, c⟩ | ⟨e, c⟩ | ⟨e, c⟩ | ⟨e, c⟩
  · exact absurd e h
  · rw [e] at hle ⊢
    obtain rfl := h0 (by omega)
    exact is1 c
  · rw [e] at hle ⊢
    obtain ⟨d0, d1, d2, d3, d4⟩ := c
    obtain rfl := h0 (by omega)
    obtain rfl := h1 (by omega)
    exact is2 ⟨d0, d1, by omega, d3, d4⟩
  · rw [e] at hle ⊢
    obtain ⟨d0, d1, d2, d3⟩ := c
    obtain rfl := h0 (by omega)
    obtain rfl := h1 (by omega)
    obtain rfl := h2 (by omega)
    exact is3 ⟨d0, d1, by omega, d3⟩
  · rw [e] at hle ⊢
    obtain ⟨d0, d1, d2, d3⟩ := c
    obtain rfl := h0 (by omega)
    obtain rfl := h1 (by omega)
    obtain rfl := h2 (by omega)
    obtain rfl := h3 (by omega)
    exact is4 ⟨d0, d1, by omega, d3⟩
theorem cwN_short (n n' b0 b1 b2 b3 c0 c1 c2 c3 : Nat) (h0 : 0 < n → c0 = b0) (h : n < cwN n' c0 c1 c2 c3) (hp : 0 < n) : cwN n b0 b1 b2 b3 = 0 := by
  obtain rfl := h0 hp
  have hc : (cwN n' c0 c1 c2 c3 = 2 ∧ 194 ≤ c0 ∧ c0 < 224) ∨ (cwN n' c0 c1 c2 c3 = 3 ∧ 224 ≤ c0 ∧ c0 < 240) ∨ (cwN n' c0 c1 c2 c3 = 4 ∧ 240 ≤ c0 ∧ c0 < 245) := by
    rcases cwN_cases n' c0 c1 c2 c3 with e | ⟨e, c⟩ | ⟨e, c⟩ | ⟨e, c⟩ | ⟨e, c⟩
    · omega
    · omega
    · exact .inl ⟨e, c.1, c.2.1⟩
    · exact .inr (.inl ⟨e, c.1, c.2.1⟩)
    · exact .inr (.inr ⟨e, c.1, c.2.1⟩)
  rcases cwN_cases n c0 b1 b2 b3 with e | ⟨e, c⟩ | ⟨e, c⟩ | ⟨e, c⟩ | ⟨e, c⟩
  · exact e
  · omega
  · have := c.1; have := c.2.1; have := c.2.2.1; omega
  · have := c.1; have := c.2.1; have := c.2.2.1; omega
  · have := c.1; have := c.2.1; have := c.2.2.1; omega
theorem cwl_app {a b : List UInt8} (h : cw a ≠ 0) : cw (a ++ b) = cw a := by
  refine cwN_app _ _ _ _ _ _ _ _ _ _ (by rw [List.length_append]; omega) (fun h => at0_app_left h) (fun h => at0_app_left h) (fun h => at0_app_left h) (fun h => at0_app_left h) (fun h => at0_ge h) h
theorem cwl_take {l : List UInt8} {k : Nat} (hk : k ≤ l.length) (h : cw l ≠ 0) (hle : cw l ≤ k) : cw (l.take k) = cw l := by
  have hg : ∀ i, i < (l.take k).length → at0 l i = at0 (l.take k) i := fun i hi => by
    rw [List.length_take] at hi
    unfold at0; rw [List.getD_eq_getElem?_getD, List.getD_eq_getElem?_getD, List.getElem?_take, if_pos (by omega)]
  refine cwN_take _ _ _ _ _ _ _ _ _ _ (hg 0) (hg 1) (hg 2) (hg 3) h (by rw [List.length_take, Nat.min_eq_left hk]; exact hle)
theorem cwl_short {l : List UInt8} {k : Nat} (h : k < cw l) (hp : 0 < k) : cw (l.take k) = 0 := by
  have hl := cw_le l
  have hg : 0 < (l.take k).length → at0 l 0 = at0 (l.take k) 0 := fun hi => by
    unfold at0; rw [List.getD_eq_getElem?_getD, List.getD_eq_getElem?_getD, List.getElem?_take, if_pos (by omega)]
  have hlen : (l.take k).length = k := by rw [List.length_take]; omega
  exact cwN_short _ l.length _ _ _ _ _ _ _ _ hg (by rw [hlen]; exact h) (by omega)
theorem cw_cases (l : List UInt8) : cw l = 0 ∨ (cw l = 1 ∧ (1 ≤ at0 l 0 ∧ at0 l 0 < 128)) ∨ (cw l = 2 ∧ C2 l.length (at0 l 0) (at0 l 1)) ∨ (cw l = 3 ∧ C3 l.length (at0 l 0) (at0 l 1) (at0 l 2)) ∨ (cw l = 4 ∧ C4 l.length (at0 l 0) (at0 l 1) (at0 l 2) (at0 l 3)) := cwN_cases _ _ _ _ _
theorem cw_cont {l : List UInt8} (h : 128 ≤ at0 l 0 ∧ at0 l 0 < 192) : cw l = 0 := by
  rcases cw_cases l with e | ⟨e, c⟩ | ⟨e, c⟩ | ⟨e, c⟩ | ⟨e, c⟩
  · exact e
  all_goals (have := c.1; omega)
theorem cw_inner {l : List UInt8} {p : Nat} (h : p < cw l) (hp : 0 < p) : 128 ≤ at0 l p ∧ at0 l p < 192 := by
  rcases cw_cases l with e | ⟨e, c⟩ | ⟨e, c⟩ | ⟨e, c⟩ | ⟨e, c⟩
  · omega
  · omega
  · obtain rfl : p = 1 := by omega
    exact ⟨c.2.2.2.1, c.2.2.2.2⟩
  · rcases (show p = 1 ∨ p = 2 by omega) with rfl | rfl
    · exact ⟨c.2.2.2.1, c.2.2.2.2.1⟩
    · exact ⟨c.2.2.2.2.2.1, c.2.2.2.2.2.2.1⟩
  · rcases (show p = 1 ∨ p = 2 ∨ p = 3 by omega) with rfl | rfl | rfl
    · exact ⟨c.2.2.2.1, c.2.2.2.2.1⟩
    · exact ⟨c.2.2.2.2.2.1, c.2.2.2.2.2.2.1⟩
    · exact ⟨c.2.2.2.2.2.2.2.1, c.2.2.2.2.2.2.2.2.1⟩
theorem cw_first {l : List UInt8} (h : cw l ≠ 0) : at0 l 0 ≠ 0 ∧ at0 l 0 ≠ 192 ∧ at0 l 0 ≠ 193 ∧ at0 l 0 < 245 := by
  rcases cw_cases l with e | ⟨e, c⟩ | ⟨e, c⟩ | ⟨e, c⟩ | ⟨e, c⟩
  · exact absurd e h
  · omega
  all_goals (have h1 := c.1; have h2 := c.2.1; omega)

theorem cnt_none {l : List UInt8} (h : l ≠ []) (hc : cw l = 0) : cnt l = none := by rw [cnt_step h, if_pos hc]
theorem cnt_some {l : List UInt8} (hc : cw l ≠ 0) : cnt l = (cnt (l.drop (cw l))).map (· + 1) := by
  have hne : l ≠ [] := by rintro rfl; exact hc rfl
  rw [cnt_step hne, if_neg hc]

theorem cnt_app : ∀ (f : Nat) (a b : List UInt8) (n m : Nat), a.length ≤ f → cnt a = some n → cnt b = some m → cnt (a ++ b) = some (n + m) := by
  intro f
  induction f with
  | zero =>
    intro a b n m hf ha hb
    obtain rfl := List.eq_nil_of_length_eq_zero (Nat.le_zero.1 hf)
    rw [cnt_nil] at ha
    obtain rfl := Option.some.inj ha
    simpa using hb
  | succ f ih =>
    intro a b n m hf ha hb
    rcases Classical.em (a = []) with rfl | hne
    · rw [cnt_nil] at ha
      obtain rfl := Option.some.inj ha
      simpa using hb
    · by_cases hc : cw a = 0
      · rw [cnt_none hne hc] at ha; cases ha
      · rw [cnt_some hc] at ha
        obtain ⟨n', hn', rfl⟩ := Option.map_eq_some_iff.1 ha
        have hl := cw_le a
        have hca := cwl_app (b := b) hc
        rw [cnt_some (by rw [hca]; exact hc), hca, List.drop_append_of_le_length hl, ih _ b n' m (by rw [List.length_drop]; omega) hn' hb]
        simp; omega

/-- A text that is cut: two texts, with all its characters; or neither piece is one, and a byte from 128 to 191 stands behind the cut. -/
theorem cnt_cut : ∀ (f : Nat) (l : List UInt8) (n k : Nat), l.length ≤ f → k ≤ l.length → cnt l = some n →
    (∃ x y, cnt (l.take k) = some x ∧ cnt (l.drop k) = some y ∧ x + y = n) ∨ (cnt (l.take k) = none ∧ cnt (l.drop k) = none ∧ 0 < k ∧ k < l.length ∧ 128 ≤ at0 l k ∧ at0 l k < 192) := by
  intro f
  induction f with
  | zero =>
    intro l n k hf hk h
    obtain rfl := List.eq_nil_of_length_eq_zero (Nat.le_zero.1 hf)
    obtain rfl : k = 0 := by simpa using hk
    exact .inl ⟨0, n, rfl, h, by omega⟩
  | succ f ih =>
    intro l n k hf hk h
    rcases Nat.eq_zero_or_pos k with rfl | hk0
    · exact .inl ⟨0, n, rfl, h, by omega⟩
    have hne : l ≠ [] := by rintro rfl; simp at hk; omega
    by_cases hc : cw l = 0
    · rw [cnt_none hne hc] at h; cases h
    · have hl := cw_le l
      rw [cnt_some hc] at h
      obtain ⟨n', hn', rfl⟩ := Option.map_eq_some_iff.1 h
      rcases Nat.lt_or_ge k (cw l) with hlt | hge
      · right
        have hin := cw_inner hlt hk0
        have h1 : l.take k ≠ [] := by intro e; have := congrArg List.length e; rw [List.length_take, Nat.min_eq_left hk] at this; exact Nat.ne_of_gt hk0 this
        have h2 : l.drop k ≠ [] := by intro e; have := congrArg List.length e; rw [List.length_drop] at this; have h0 : ([] : List UInt8).length = 0 := rfl; omega
        refine ⟨cnt_none h1 (cwl_short hlt hk0), cnt_none h2 (cw_cont ?_), hk0, by omega, hin⟩
        rw [at0_drop]; exact hin
      · have ht := cwl_take hk hc hge
        have e1 : cnt (l.take k) = (cnt ((l.drop (cw l)).take (k - cw l))).map (· + 1) := by
          rw [cnt_some (by rw [ht]; exact hc), ht, List.drop_take]
        have e2 : l.drop k = (l.drop (cw l)).drop (k - cw l) := by rw [List.drop_drop, Nat.add_sub_cancel' hge]
        rcases ih (l.drop (cw l)) n' (k - cw l) (by rw [List.length_drop]; omega) (by rw [List.length_drop]; omega) hn' with ⟨x, y, hx, hy, hxy⟩ | ⟨hx, hy, h1, h2, h3⟩
        · left
          exact ⟨x + 1, y, by rw [e1, hx]; rfl, by rw [e2, hy], by omega⟩
        · right
          refine ⟨by rw [e1, hx]; rfl, by rw [e2, hy], hk0, by rw [List.length_drop] at h2; omega, ?_⟩
          rw [at0_drop, Nat.add_sub_cancel' hge] at h3
          exact h3

/-- No byte of a text is 0, 192, 193, or 245 and more. -/
theorem cnt_bytes : ∀ (f : Nat) (l : List UInt8) (n p : Nat), l.length ≤ f → p < l.length → cnt l = some n → at0 l p ≠ 0 ∧ at0 l p ≠ 192 ∧ at0 l p ≠ 193 ∧ at0 l p < 245 := by
  intro f
  induction f with
  | zero => intro l n p hf hp; omega
  | succ f ih =>
    intro l n p hf hp h
    have hne : l ≠ [] := by rintro rfl; simp at hp
    by_cases hc : cw l = 0
    · rw [cnt_none hne hc] at h; cases h
    · have hl := cw_le l
      rw [cnt_some hc] at h
      obtain ⟨n', hn', rfl⟩ := Option.map_eq_some_iff.1 h
      rcases Nat.lt_or_ge p (cw l) with hlt | hge
      · rcases Nat.eq_zero_or_pos p with rfl | hp0
        · exact cw_first hc
        · have := cw_inner hlt hp0; omega
      · have := ih (l.drop (cw l)) n' (p - cw l) (by rw [List.length_drop]; omega) (by rw [List.length_drop]; omega) hn'
        rw [at0_drop, Nat.add_sub_cancel' hge] at this
        exact this
theorem cnt_le : ∀ (f : Nat) (l : List UInt8) (n : Nat), l.length ≤ f → cnt l = some n → n ≤ l.length := by
  intro f
  induction f with
  | zero =>
    intro l n hf h
    obtain rfl := List.eq_nil_of_length_eq_zero (Nat.le_zero.1 hf)
    rw [cnt_nil] at h; obtain rfl := Option.some.inj h; omega
  | succ f ih =>
    intro l n hf h
    rcases Classical.em (l = []) with rfl | hne
    · rw [cnt_nil] at h; obtain rfl := Option.some.inj h; omega
    · by_cases hc : cw l = 0
      · rw [cnt_none hne hc] at h; cases h
      · have hl := cw_le l
        rw [cnt_some hc] at h
        obtain ⟨n', hn', rfl⟩ := Option.map_eq_some_iff.1 h
        have := ih (l.drop (cw l)) n' (by rw [List.length_drop]; omega) hn'
        rw [List.length_drop] at this
        omega
theorem cnt_letter {c : UInt8} {t : List UInt8} (h0 : 1 ≤ c.toNat) (h1 : c.toNat < 128) : cw (c :: t) = 1 := by
  exact is1 ⟨h0, h1⟩
end Go.Proofs.YtjpefeopfbgnhaaDoor
