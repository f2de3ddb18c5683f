import Derived.Test.YtmnhbbhcilbnoaaNumAwake
namespace Go.Proofs.Ytmnhbbhcilbnoaa
open Go Go.RowKit

theorem byte_nat (x : Nat) (h : x < 256) : (UInt8.ofNat x).toNat = x := by simp; omega
theorem dig_lead (f : Nat) : ∀ (n : Nat) (r : List UInt8), n < 128 ^ (f + 1) → lead (dig f n ++ r) + 1 = (dig f n).length := by
  induction f with
  | zero => intro n r h; simp only [dig, List.cons_append, List.nil_append, lead]; rw [byte_nat n (by omega), if_pos (by omega)]; rfl
  | succ f ih =>
    intro n r h
    by_cases hn : n < 128
    · rw [dig_small _ n hn]; simp only [List.cons_append, List.nil_append, lead]; rw [byte_nat n (by omega), if_pos hn]; rfl
    · rw [dig_big f n (by omega)]
      simp only [List.cons_append, lead, List.length_cons]
      rw [byte_nat _ (by omega), if_neg (by omega), ih (n / 128) r (by rw [Nat.pow_succ] at h; omega)]
theorem dig_val (f : Nat) : ∀ (n : Nat), n < 128 ^ (f + 1) → val (dig f n) = (n : Int) := by
  induction f with
  | zero => intro n h; simp only [dig, val]; rw [byte_nat n (by omega)]; omega
  | succ f ih =>
    intro n h
    by_cases hn : n < 128
    · rw [dig_small _ n hn]; simp only [val]; rw [byte_nat n (by omega)]; omega
    · rw [dig_big f n (by omega)]
      simp only [val]
      rw [byte_nat _ (by omega), ih (n / 128) (by rw [Nat.pow_succ] at h; omega)]; omega

theorem lenM_in (n : Int) (h0 : 0 ≤ n) (h1 : n ≤ 268435455) : lenM n = dig 3 n.toNat ∧ lenE n = 0 ∧ 1 ≤ (lenM n).length ∧ (lenM n).length ≤ 4 := by
  have hb := sizeM_bd n h0 h1
  have hl := lenM_length n
  exact ⟨by rw [lenM, if_neg (by omega)], by rw [lenE, if_neg (by omega)], by omega, by omega⟩
theorem lenM_out (n : Int) (h : n < 0 ∨ 268435455 < n) : lenM n = [] ∧ lenE n = 1 ∧ sizeM n = 0 := by
  have : sizeM n = 0 := by rw [sizeM, if_pos (by omega)]
  exact ⟨by rw [lenM, if_pos this], by rw [lenE, if_pos this], this⟩
theorem readLen_back (n : Int) (h0 : 0 ≤ n) (h1 : n ≤ 268435455) (r : List UInt8) : readLenM (lenM n ++ r) = (n, ((lenM n).length : Int), 0) := by
  obtain ⟨e, -, hl1, hl4⟩ := lenM_in n h0 h1
  have hd := dig_lead 3 n.toNat r (by omega)
  have hv := dig_val 3 n.toNat (by omega)
  rw [← e] at hd hv
  rw [readLenM_eq, if_neg (by omega), if_neg (by simp; omega), hd, List.take_left, hv]
  congr 1
  · omega
  · congr 1; omega
theorem lead_take (l : List UInt8) : ∀ j, j ≤ lead l → lead (l.take j) = j := by
  induction l with
  | nil => intro j h; simp [lead] at h ⊢; omega
  | cons c r ih =>
    intro j h
    cases j with
    | zero => rfl
    | succ j =>
      simp only [lead] at h
      split at h
      · omega
      · rename_i hc; rw [List.take_succ_cons, lead, if_neg hc, ih j (by omega)]
theorem readLen_cut (n : Int) (h0 : 0 ≤ n) (h1 : n ≤ 268435455) (j : Nat) (hj : j < (lenM n).length) : readLenM ((lenM n).take j) = (0, 0, 2) := by
  obtain ⟨e, -, hl1, hl4⟩ := lenM_in n h0 h1
  have hd := dig_lead 3 n.toNat [] (by omega)
  rw [List.append_nil, ← e] at hd
  have ht := lead_take (lenM n) j (by omega)
  rw [readLenM_eq, ht, if_neg (by omega), if_pos (by rw [List.length_take]; omega)]
theorem lenM_inj (a b : Int) (ha : 0 ≤ a) (ha' : a ≤ 268435455) (hb : 0 ≤ b) (hb' : b ≤ 268435455) (h : lenM a = lenM b) : a = b := by
  have h1 := readLen_back a ha ha' []
  have h2 := readLen_back b hb hb' []
  rw [h, h2] at h1
  injection h1 with h1 _
  exact h1.symm
theorem lenM_mono (a b : Int) (ha : 0 ≤ a) (hb' : b ≤ 268435455) (h : a ≤ b) : (lenM a).length ≤ (lenM b).length := by
  have h1 := lenM_length a
  have h2 := lenM_length b
  have : sizeM a ≤ sizeM b := by
    unfold sizeM
    repeat' split
    all_goals omega
  omega
theorem append_data (l : List UInt8) (s : ByteArray) : ((⟨l.toArray⟩ : ByteArray) ++ s).data.toList = l ++ s.data.toList := by simp
theorem append_size (l : List UInt8) (s : ByteArray) : ((⟨l.toArray⟩ : ByteArray) ++ s).size = l.length + s.size := by simp [ByteArray.size_append]; rfl
theorem extract_to (l : List UInt8) (j : Nat) : ((⟨l.toArray⟩ : ByteArray).extract 0 j).data.toList = l.take j := by simp

theorem lead_app (p : List UInt8) : ∀ r : List UInt8, lead p = p.length → lead (p ++ r) = p.length + lead r := by
  induction p with
  | nil => intro r _; simp
  | cons c p ih =>
    intro r h
    simp only [lead, List.length_cons] at h
    split at h
    · omega
    · rename_i hc
      rw [List.cons_append, lead, if_neg hc, ih r (by omega), List.length_cons]; omega
theorem lead_snoc (p : List UInt8) (x : UInt8) (h : lead p = p.length) (hx : x.toNat < 128) : lead (p ++ [x]) = p.length := by
  rw [lead_app p _ h, lead, if_pos hx]; rfl
theorem enc_split (t : List UInt8) : lead t + 1 = t.length → ∃ p x, t = p ++ [x] ∧ lead p = p.length ∧ x.toNat < 128 := by
  induction t with
  | nil => intro h; simp [lead] at h
  | cons c r ih =>
    intro h
    simp only [lead, List.length_cons] at h
    split at h
    · rename_i hc
      have : r = [] := List.eq_nil_of_length_eq_zero (by omega)
      subst this
      exact ⟨[], c, rfl, rfl, hc⟩
    · rename_i hc
      obtain ⟨p, x, rfl, hp, hx⟩ := ih (by omega)
      exact ⟨c :: p, x, rfl, by rw [lead, if_neg hc, hp]; rfl, hx⟩
theorem enc_uniq (p : List UInt8) : ∀ (p' : List UInt8) (x x' : UInt8), lead p = p.length → lead p' = p'.length → x.toNat < 128 → x'.toNat < 128 → p.length = p'.length → val (p ++ [x]) = val (p' ++ [x']) → p ++ [x] = p' ++ [x'] := by
  induction p with
  | nil =>
    intro p' x x' _ _ hx hx' hl hv
    have : p' = [] := List.eq_nil_of_length_eq_zero (by simpa using hl.symm)
    subst this
    simp only [List.nil_append, val] at hv ⊢
    have : x = x' := UInt8.toNat_inj.1 (by omega)
    rw [this]
  | cons c p ih =>
    intro p' x x' h h' hx hx' hl hv
    cases p' with
    | nil => simp at hl
    | cons c' p' =>
      simp only [lead, List.length_cons] at h h' hl
      split at h
      · omega
      split at h'
      · omega
      simp only [List.cons_append, val] at hv ⊢
      have h1 : val (p ++ [x]) = val (p' ++ [x']) := by omega
      have h2 : c.toNat % 128 = c'.toNat % 128 := by omega
      have h3 := c.toNat_lt
      have h4 := c'.toNat_lt
      have : c = c' := UInt8.toNat_inj.1 (by omega)
      rw [this, ih p' x x' (by omega) (by omega) hx hx' (by omega) h1]
theorem lead_more (p : List UInt8) (x : UInt8) (h : lead p = p.length) (hx : x.toNat < 128) : lead (p ++ [UInt8.ofNat (x.toNat + 128)]) = (p ++ [UInt8.ofNat (x.toNat + 128)]).length := by
  rw [lead_app p _ h, lead, byte_nat _ (by omega), if_neg (by omega)]; simp [lead]
theorem val_app (p : List UInt8) : ∀ r r' : List UInt8, val r = val r' → val (p ++ r) = val (p ++ r') := by
  induction p with
  | nil => intro r r' h; simpa using h
  | cons c p ih => intro r r' h; simp only [List.cons_append, val]; rw [ih r r' h]
theorem val_more (p : List UInt8) (x : UInt8) (hx : x.toNat < 128) : val (p ++ [UInt8.ofNat (x.toNat + 128), 0]) = val (p ++ [x]) := by
  refine val_app p _ _ ?_
  simp only [val]
  rw [byte_nat _ (by omega)]
  simp
theorem sizeM_le (n : Int) (k : Nat) (h1 : 1 ≤ k) (h4 : k ≤ 4) (h : n < 128 ^ k) : sizeM n ≤ k := by
  have h3 : k = 1 ∨ k = 2 ∨ k = 3 ∨ k = 4 := by omega
  unfold sizeM
  rcases h3 with rfl | rfl | rfl | rfl <;> simp at h <;> (repeat' split) <;> omega
/-- A length that is read: its bytes are p ++ [x]. -/
theorem readLen_split (l : List UInt8) (h4 : ¬ 4 ≤ lead l) (hl : ¬ lead l = l.length) : ∃ p x, l.take (lead l + 1) = p ++ [x] ∧ p.length = lead l ∧ lead p = p.length ∧ x.toNat < 128 ∧ l[lead l]? = some x ∧ l.take (lead l) = p ∧
    0 ≤ val (p ++ [x]) ∧ val (p ++ [x]) < 128 ^ (p.length + 1) ∧ readLenM l = (val (p ++ [x]), (p.length : Int) + 1, 0) := by
  have hle := lead_le l
  have hlt : lead l < l.length := by omega
  have e := take_snoc l (lead l) l[lead l] (by simp [hlt])
  have hlen : (l.take (lead l)).length = lead l := by rw [List.length_take]; omega
  have hx : l[lead l].toNat < 128 := by
    have := lead_at l (lead l) l[lead l] (Nat.le_refl _) (by simp [hlt])
    by_cases c : l[lead l].toNat < 128
    · exact c
    · have := this.2 c; omega
  have hv := val_bd (l.take (lead l) ++ [l[lead l]])
  rw [List.length_append] at hv
  refine ⟨l.take (lead l), l[lead l], e, hlen, by rw [lead_take l _ (Nat.le_refl _), hlen], hx, by simp [hlt], rfl, hv.1, hv.2, ?_⟩
  rw [readLenM_eq, if_neg h4, if_neg hl, e, hlen]
end Go.Proofs.Ytmnhbbhcilbnoaa
