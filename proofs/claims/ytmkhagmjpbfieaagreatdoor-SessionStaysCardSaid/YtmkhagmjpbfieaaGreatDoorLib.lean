/- General laws over any program: elements of slices, slices of the call's own, slices that are read. No program in sight. -/
import Derived.WalkKit
import Derived.WalkLawsBesides
import Derived.WalkSpells
import Derived.RowKit3
import Derived.Lib.Hide
import Derived.Deep.QuietTactic
import Derived.BigQuiet
import Derived.Deep.RegionHeld3
namespace Go.Proofs.YtmkhagmjpbfieaaGreatDoor
open Go Go.RowKit

theorem ret_int {k : IntKind} {a b : Int} (h : a = b) : Ending.returned (.int k a) = .returned (.int k b) := by rw [h]
theorem ret_bool {a b : Bool} (h : a = b) : Ending.returned (.bool a) = .returned (.bool b) := by rw [h]

theorem ret_str {a b : List UInt8} (h : a = b) : Ending.returned (.string ⟨a.toArray⟩) = .returned (.string ⟨b.toArray⟩) := by rw [h]
theorem ret2 {a b c d : Value} (h : a = c) (h' : b = d) : Ending.returned (.tuple #[a, b]) = .returned (.tuple #[c, d]) := by rw [h, h']
theorem ret3 {a b c d x y : Value} (h : a = c) (h' : b = d) (h'' : x = y) : Ending.returned (.tuple #[a, b, x]) = .returned (.tuple #[c, d, y]) := by rw [h, h', h'']
theorem v_str {a b : List UInt8} (h : a = b) : Value.string ⟨a.toArray⟩ = .string ⟨b.toArray⟩ := by rw [h]
theorem v_int {k : IntKind} {a b : Int} (h : a = b) : Value.int k a = .int k b := by rw [h]
theorem v_bool {a b : Bool} (h : a = b) : Value.bool a = .bool b := by rw [h]
theorem mk_append (a b : List UInt8) : (⟨a.toArray⟩ : ByteArray) ++ ⟨b.toArray⟩ = ⟨(a ++ b).toArray⟩ := by
  apply ByteArray.ext; simp
theorem v_app {a b c : List UInt8} (h : a ++ b = c) : Value.string ((⟨a.toArray⟩ : ByteArray) ++ ⟨b.toArray⟩) = .string ⟨c.toArray⟩ := by rw [mk_append, h]

theorem v_cut {q r m c : List UInt8} {k : Nat} (hk : k = q.length) (h : q ++ m = c) : Value.string ((⟨(q ++ r).toArray⟩ : ByteArray).extract 0 k ++ ⟨m.toArray⟩) = .string ⟨c.toArray⟩ := by
  subst hk
  have e : (⟨(q ++ r).toArray⟩ : ByteArray).extract 0 q.length = ⟨q.toArray⟩ := by apply ByteArray.ext; simp
  rw [e]; exact v_app h
/-- the length of a string's slot, for a measure -/
def strLen : Value → Nat | .string s => s.size | _ => 0

/-- what the tables say of a slice's type and its elements' -/
structure ElemT (P : Program) (t e : TypeId) (z : Value) (size bytes : Nat) : Prop where
  ht : P.underlying t = some (.slice e)
  hi : (P.info? e).map (fun i => (i.zero, i.size, i.bytes)) = some (some z, size, bytes)
  hzs : z.cells.size = size
  hsz : 0 < size

/-- Built elements (m of them) are appended to a slice of the call's own, or a nil one. -/
theorem wpList_app {P : Program} {t e : TypeId} {z : Value} {size bytes : Nat} (E : ElemT P t e z size bytes) {w0 w : World} {B : Nat} {v : Value} {n : Nat} {xs : List Value} (hown : w.ownsRow B e size v n xs) (hbel : Below B w0 w) (hB : B ≤ w.heap.size)
    {ops : Array Oper} {rest : List Oper} {o : Oper} {a : Act} {Q : Exit → Act → World → Prop} {s x : Operand} {cur : Array Value} {m c : Nat}
    (hgd : o.guard = none) (ho : o.op = .call { callee := .builtin .append, args := #[s, x], argTypes := #[t, t] }) (hs : a.eval s = v) (hx : a.eval x = .slice (some ⟨w.heap.size, 0, none⟩) m c)
    (hc : cur.size = m * size) (h1 : ∀ u ∈ cur.toList, u.oneCell' = true) (hbytes : (n + m) * bytes ≤ 140737488355328) (hn : n + m < 140737488355328)
    (h : ∀ v' w', w'.ownsRow B e size v' (n + m) (xs ++ cur.toList) → Below B w0 w' → B ≤ w'.heap.size → w.heap.size < w'.heap.size → wpList P ops Q rest (a.put o.dst v') w') : wpList P ops Q (o :: rest) a (w.alloc (.cells cur e)) := by
  obtain ⟨i0, hi, hz0, hz1, hz2⟩ := info_parts E.hi
  refine wpList_append_own _ hgd s x t ho B e i0 z size bytes E.ht hi hz0 hz1 hz2 E.hzs E.hsz v n xs hs (hown.alloc _) ⟨w.heap.size, 0, none⟩ m c cur.toList hx (by simp [hc]) ?_ h1 (by unfold maxLen; omega) hbytes (by simp; omega) ?_
  · intro j u hj
    have e1 : (⟨w.heap.size, 0, none⟩ : Addr).add j = ⟨w.heap.size, j, none⟩ := by unfold Addr.add; split <;> simp_all
    rw [e1, World.cell?_alloc_new]
    simpa using hj
  · intro v' w' h1 h2 _
    have hl := hown.lt
    refine h v' w' h1 ((hbel.alloc hB _).grown h2 (by simp; omega) (fun k hk => (hl k hk).1)) ?_ ?_
    · have := h2.size; simp at this; omega
    · have := h2.size; simp at this; omega

/-- Built elements (m of them) are appended to a slice of the call's own, or a nil one. -/
theorem wpList_appG {P : Program} {t e : TypeId} {z : Value} {size bytes : Nat} (E : ElemT P t e z size bytes) {w0 w : World} {B : Nat} {v : Value} {n : Nat} {xs : List Value} (hown : w.ownsRow B e size v n xs) (hbel : Below B w0 w) (hB : B ≤ w.heap.size)
    {ops : Array Oper} {rest : List Oper} {o : Oper} {a : Act} {Q : Exit → Act → World → Prop} {s x : Operand} {cur : Array Value} {m c : Nat}
    (hgd : o.guard = none) (ho : o.op = .call { callee := .builtin .append, args := #[s, x], argTypes := #[t, t] }) (hs : a.eval s = v) (hx : a.eval x = .slice (some ⟨w.heap.size, 0, none⟩) m c)
    (hc : cur.size = m * size) (h1 : ∀ u ∈ cur.toList, u.oneCell' = true) (hbytes : (n + m) * bytes ≤ 140737488355328) (hn : n + m < 140737488355328)
    (h : ∀ v' w', w'.ownsRow B e size v' (n + m) (xs ++ cur.toList) → Below B w0 w' → B ≤ w'.heap.size → (w.alloc (.cells cur e)).grownBy w' v.ownBlock → wpList P ops Q rest (a.put o.dst v') w') : wpList P ops Q (o :: rest) a (w.alloc (.cells cur e)) := by
  obtain ⟨i0, hi, hz0, hz1, hz2⟩ := info_parts E.hi
  refine wpList_append_own _ hgd s x t ho B e i0 z size bytes E.ht hi hz0 hz1 hz2 E.hzs E.hsz v n xs hs (hown.alloc _) ⟨w.heap.size, 0, none⟩ m c cur.toList hx (by simp [hc]) ?_ h1 (by unfold maxLen; omega) hbytes (by simp; omega) ?_
  · intro j u hj
    have e1 : (⟨w.heap.size, 0, none⟩ : Addr).add j = ⟨w.heap.size, j, none⟩ := by unfold Addr.add; split <;> simp_all
    rw [e1, World.cell?_alloc_new]
    simpa using hj
  · intro v' w' h1 h2 _
    have hl := hown.lt
    refine h v' w' h1 ((hbel.alloc hB _).grown h2 (by simp; omega) (fun k hk => (hl k hk).1)) ?_ h2
    have := h2.size; simp at this; omega

/-- The cells of a slice that is read: none, or in a row somewhere. -/
def Row (w : World) (a : Option Addr) (xs : List Value) : Prop :=
  xs = [] ∨ ∃ b off, a = some ⟨b, off, none⟩ ∧ ∀ j u, xs[j]? = some u → w.cell? ⟨b, off + j, none⟩ = some u

theorem Row.below {w w' : World} {a : Option Addr} {xs : List Value} {B : Nat} (h : Row w a xs) (hb : Below B w w') (hB : w.heap.size ≤ B) : Row w' a xs := by
  rcases h with h | ⟨b, off, ha, hc⟩
  · exact .inl h
  · refine .inr ⟨b, off, ha, fun j u hj => ?_⟩
    have h0 := hc j u hj
    rw [hb.cell (p := ⟨b, off + j, none⟩) (Nat.lt_of_lt_of_le (World.block_lt_of_cell? w _ h0) hB)]
    exact h0
theorem Row.at {w : World} {a : Option Addr} {xs : List Value} (h : Row w a xs) {j : Nat} {u : Value} (hj : xs[j]? = some u) : ∃ b off, a = some ⟨b, off, none⟩ ∧ w.cell? ⟨b, off + j, none⟩ = some u := by
  rcases h with rfl | ⟨b, off, ha, hc⟩
  · simp at hj
  · exact ⟨b, off, ha, hc j u hj⟩
theorem Row.nil (w : World) (a : Option Addr) : Row w a [] := .inl rfl
theorem bnext {w w1 w2 : World} {B : Nat} (h : Below B w w1) (hB : B ≤ w.heap.size) (k : Below w1.heap.size w1 w2) : Below B w w2 := h.trans (k.mono (Nat.le_trans hB h.size))
theorem row_new (w : World) (xs : List Value) (t : TypeId) : Row (w.alloc (.cells xs.toArray t)) (some ⟨w.heap.size, 0, none⟩) xs :=
  .inr ⟨_, 0, rfl, fun j u hj => by rw [Nat.zero_add, World.cell?_alloc_new]; simpa using hj⟩
theorem quiet_eq {P : Program} {f : FuncId} {args : Array Value} {w : World} {n : Nat} {v : Value}
    (h : Calls P f args (w.drewN n) fun e w' => e = .returned v ∧ w.drewN n = w') : Calls P f args (w.drewN n) fun e w'' => e = .returned v ∧ ∃ m, w'' = w.drewN m :=
  h.mono fun _ _ ⟨he, hm⟩ => ⟨he, n, hm.symm⟩
theorem below_draws {B : Nat} {w : World} (n : Nat) : Below B w (w.drewN n) := below_drewN (Below.refl _ _) n
/-- What the call owns can be read. -/
theorem ownsRow_row {w : World} {B : Nat} {e : TypeId} {size n : Nat} {v : Value} {xs : List Value} (h : w.ownsRow B e size v n xs) : ∃ a cap, v = .slice a n cap ∧ Row w a xs ∧ n ≤ cap ∧ cap ≤ maxLen := by
  have hxl := h.1
  rcases h.2 with ⟨rfl, hn⟩ | ⟨g, cap, cur, rfl, hb, hg, hnc, hcm, hcs, htake⟩
  · exact ⟨none, 0, by rw [hn], .inl (by have := h.1; rw [hn] at this; simpa using this), by omega, by omega⟩
  · exact ⟨_, _, rfl, .inr ⟨g, 0, rfl, fun j u hj => by
      rw [Nat.zero_add, h.cellAt j ?_, hj]
      have := (List.getElem?_eq_some_iff.1 hj).1
      omega⟩, hnc, hcm⟩

/-- A row that is read is appended to a slice of the call's own, or a nil one. -/
theorem wpList_appRow {P : Program} {t e : TypeId} {z : Value} {size bytes : Nat} (E : ElemT P t e z size bytes) {w0 w : World} {B : Nat} {v : Value} {n : Nat} {xs : List Value} (hown : w.ownsRow B e size v n xs) (hbel : Below B w0 w) (hB : B ≤ w.heap.size)
    {ops : Array Oper} {rest : List Oper} {o : Oper} {a : Act} {Q : Exit → Act → World → Prop} {s x : Operand} {ad : Option Addr} {ys : List Value} {m c : Nat} (hrow : Row w ad ys)
    (hgd : o.guard = none) (ho : o.op = .call { callee := .builtin .append, args := #[s, x], argTypes := #[t, t] }) (hs : a.eval s = v) (hx : a.eval x = .slice ad m c)
    (hc : ys.length = m * size) (h1 : ∀ u ∈ ys, u.oneCell' = true) (hbytes : (n + m) * bytes ≤ 140737488355328) (hn : n + m < 140737488355328)
    (h : ∀ v' w', w'.ownsRow B e size v' (n + m) (xs ++ ys) → Below B w0 w' → B ≤ w'.heap.size → wpList P ops Q rest (a.put o.dst v') w') : wpList P ops Q (o :: rest) a w := by
  obtain ⟨i0, hi, hz0, hz1, hz2⟩ := info_parts E.hi
  have hl := hown.lt
  have fin : ∀ v' w', w'.ownsRow B e size v' (n + m) (xs ++ ys) → w.grownBy w' v.ownBlock → wpList P ops Q rest (a.put o.dst v') w' := by
    intro v' w' h1 h2
    exact h v' w' h1 (hbel.grown h2 hB (fun k hk => (hl k hk).1)) (Nat.le_trans hB h2.size)
  rcases hrow with rfl | ⟨b, off, rfl, hcell⟩
  · have hm : m = 0 := by
      have hz := E.hsz
      have hc' : m * size = 0 := by simpa using hc.symm
      rcases Nat.mul_eq_zero.1 hc' with h | h <;> omega
    subst hm
    cases ad with
    | none =>
      have hr : (Builtin.append_ #[t, t] o.type #[v, .slice none 0 c]).run P w = .ok v w := by
        rcases hown.2 with ⟨rfl, rfl⟩ | ⟨g, cap, cur, rfl, _, _, hnc, _⟩
        · simp [Builtin.append_, run_underlying E.ht, sizeOf, typeInfo, hi, Builtin.lenOf, Builtin.firstCells]
        · simp [Builtin.append_, run_underlying E.ht, sizeOf, typeInfo, hi, Builtin.lenOf, Builtin.firstCells, hnc, storeCells]
      refine wpList_plain hgd fun K hK => ?_
      unfold Oper.wp execOp
      simp only [ho, resolve, invoke, builtin, Sem.run_bind, Sem.run_pure, Result.andThen_ok, List.map_toArray, List.map_cons, List.map_nil, hs, hx, hr]
      exact hK _ _ (fin v w (by simpa using hown) (World.grownBy.refl _ _))
    | some ad =>
      exact wpList_append_own _ hgd s x t ho B e i0 z size bytes E.ht hi hz0 hz1 hz2 E.hzs E.hsz v n xs hs hown ad 0 c [] hx (by simp) (by simp) (by simp) (by unfold maxLen; omega) hbytes hB (fun v' w' h1 h2 _ => fin v' w' h1 h2)
  · refine wpList_append_own _ hgd s x t ho B e i0 z size bytes E.ht hi hz0 hz1 hz2 E.hzs E.hsz v n xs hs hown ⟨b, off, none⟩ m c ys hx hc ?_ h1 (by unfold maxLen; omega) hbytes hB (fun v' w' h1 h2 _ => fin v' w' h1 h2)
    intro j u hj
    have e1 : (⟨b, off, none⟩ : Addr).add j = ⟨b, off + j, none⟩ := by unfold Addr.add; split <;> simp_all
    rw [e1]; exact hcell j u hj

/-- 'make([]T, 0, n)'. -/
theorem wpList_mk {P : Program} {t e : TypeId} {z : Value} {size bytes : Nat} (E : ElemT P t e z size bytes) {w0 w : World} {B : Nat} (hbel : Below B w0 w) (hB : B ≤ w.heap.size)
    {ops : Array Oper} {rest : List Oper} {o : Oper} {a : Act} {Q : Exit → Act → World → Prop} {l c : Operand} {kl kc : IntKind} {C : Int}
    (hgd : o.guard = none) (ho : o.op = Op.makeSlice t l c) (hl : a.eval l = .int kl 0) (hc : a.eval c = .int kc C) (hC : 0 ≤ C) (hCm : C * bytes ≤ 140737488355328) (hCn : C < 140737488355328)
    (h : ∀ v' w', w'.ownsRow B e size v' 0 [] → Below B w0 w' → B ≤ w'.heap.size → wpList P ops Q rest (a.put o.dst v') w') : wpList P ops Q (o :: rest) a w := by
  obtain ⟨i0, hi, hz0, hz1, hz2⟩ := info_parts E.hi
  obtain ⟨n, rfl⟩ := Int.eq_ofNat_of_zero_le hC
  refine wpList_make_own w hgd l c t ho B e i0 z size E.ht hi hz0 hz1 kl kc n n hl hc rfl ?_ (by unfold maxLen; omega) hB ?_
  · rw [hz2, Nat.mul_comm]
    have : ((n * bytes : Nat) : Int) ≤ 140737488355328 := by simpa using hCm
    omega
  · intro w' h1 h2
    exact h _ w' h1 (hbel.grown h2 hB (by simp)) (Nat.le_trans hB h2.size)

/-- 'string([]byte{..})': of a block that was just made. -/
theorem run_string_new {P : Program} {e t T : TypeId} (ht : P.underlying t = some (.slice e)) (he : P.underlying e = some (.int .u8)) (hT : P.underlying T = some .string) (xs : List Int) (c : Nat) (w : World) :
    (convert t T (.slice (some ⟨w.heap.size, 0, none⟩) xs.length c)).run P (w.alloc (.cells (xs.map (Value.int .u8)).toArray e)) = .ok (.string ⟨(xs.map fun n => UInt8.ofNat n.toNat).toArray⟩) (w.alloc (.cells (xs.map (Value.int .u8)).toArray e)) := by
  refine run_convert_bytes_arg (w.alloc (.cells (xs.map (Value.int .u8)).toArray e)) t e ht he w.heap.size 0 xs.length c xs rfl ?_ T hT
  intro i hi
  rw [Nat.zero_add, World.cell?_alloc_new]
  simp [hi]
theorem extract_pre (q r : List UInt8) : (⟨(q ++ r).toArray⟩ : ByteArray).extract 0 q.length = ⟨q.toArray⟩ := by apply ByteArray.ext; simp
theorem extract_take (s : ByteArray) (k : Nat) : s.extract 0 k = ⟨(s.data.toList.take k).toArray⟩ := by
  apply ByteArray.ext; apply Array.ext'; simp
/-- 's[:k]', k the length of its first part. -/
theorem run_slice_to {P : Program} {T : TypeId} (hT : P.underlying T = some .string) (q r : List UInt8) (k : IntKind) (w : World) : (Instr.slice T (.string ⟨(q ++ r).toArray⟩) none (some (.int k (q.length : Int))) none).run P w = .ok (.string ⟨q.toArray⟩) w := by
  have h : (q.length : Int) ≤ ((⟨(q ++ r).toArray⟩ : ByteArray).size : Int) := by show (q.length : Int) ≤ ((q ++ r).length : Int); rw [List.length_append]; omega
  have := run_slice_string_h (P := P) w T ⟨(q ++ r).toArray⟩ hT k (q.length : Int) (by omega) h
  rw [Int.toNat_natCast, extract_pre] at this
  exact this
theorem i64_or_nat (a b : Nat) (ha : a < 4294967296) (hb : b < 4294967296) : bits .or .i64 (a : Int) (b : Int) = ((a ||| b : Nat) : Int) := by
  have hx : a ||| b < 2 ^ 32 := Nat.or_lt_two_pow (by omega) (by omega)
  have e : ∀ n : Nat, n < 4294967296 → (BitVec.ofInt 64 (n : Int)).toNat = n := fun n hn => by
    rw [BitVec.ofInt_natCast, BitVec.toNat_ofNat]; exact Nat.mod_eq_of_lt (by omega)
  show IntKind.i64.wrap ((BitVec.ofInt 64 (a : Int) ||| BitVec.ofInt 64 (b : Int)).toNat : Int) = _
  rw [BitVec.toNat_or, e a ha, e b hb, IntKind.wrap_i64]
  omega
theorem or_word (a b : Nat) (ha : a < 256) (hb : b < 256) : bits .or .i64 (wrap64 (wrap64 (a : Int) * 256)) (wrap64 (b : Int)) = (a : Int) * 256 + b := by
  rw [IntWalk.wrap64_in (a : Int) ⟨by omega, by omega⟩, IntWalk.wrap64_in (b : Int) ⟨by omega, by omega⟩, IntWalk.wrap64_in ((a : Int) * 256) ⟨by omega, by omega⟩]
  rw [show (a : Int) * 256 = ((a * 256 : Nat) : Int) by omega, i64_or_nat _ _ (by omega) (by omega), nat_join 8 (a * 256) b (by omega) (by omega)]
  omega

theorem add_word (a b : Nat) (ha : a < 256) (hb : b < 256) : wrap64 (wrap64 (256 * wrap64 (a : Int)) + wrap64 (b : Int)) = (a : Int) * 256 + b := by
  rw [IntWalk.wrap64_in (a : Int) ⟨by omega, by omega⟩, IntWalk.wrap64_in (b : Int) ⟨by omega, by omega⟩, IntWalk.wrap64_in (256 * (a : Int)) ⟨by omega, by omega⟩, IntWalk.wrap64_in _ ⟨by omega, by omega⟩]
  omega
theorem w_u8 (x : Int) (h0 : 0 ≤ x) (h1 : x < 256) : IntKind.u8.wrap x = x := by rw [IntKind.wrap_u8']; omega
theorem w_i64 (x : Int) (h0 : -9223372036854775808 ≤ x) (h1 : x ≤ 9223372036854775807) : IntKind.i64.wrap x = x := by rw [IntKind.wrap_i64]; omega

def ints (l : List Int) : List Value := l.map (Value.int .i64)

/-- bytes as values -/
def u8s (l : List UInt8) : List Value := l.map fun c => Value.int .u8 (c.toNat : Int)
theorem u8s_length (l : List UInt8) : (u8s l).length = l.length := by simp [u8s]
theorem u8s_append (l m : List UInt8) : u8s l ++ u8s m = u8s (l ++ m) := by simp [u8s]

/-- 'string(b)' of a row of the call's own. -/
theorem run_string_own {P : Program} {w : World} {B : Nat} {e t T : TypeId} {v : Value} {n : Nat} {l : List UInt8} (ht : P.underlying t = some (.slice e)) (he : P.underlying e = some (.int .u8)) (hT : P.underlying T = some .string)
    (hown : w.ownsRow B e 1 v n (u8s l)) : (convert t T v).run P w = .ok (.string ⟨l.toArray⟩) w := by
  rcases hown.2 with ⟨rfl, hn⟩ | ⟨g, cap, cur, rfl, hb, hg, hnc, hcm, hcs, htake⟩
  · have : l = [] := by have := hown.1; simp [u8s, hn] at this; exact this
    subst this
    rw [run_convert_bytes_nil w t e ht he 0 0 T hT]; rfl
  · have hln : l.length = n := by have := hown.1; simpa [u8s] using this
    rw [run_convert_bytes_arg w t e ht he g 0 n cap (l.map fun c => (c.toNat : Int)) (by simp [hln]) ?_ T hT]
    · have : strOfNums (l.map fun c => (c.toNat : Int)) = ⟨l.toArray⟩ := by
        unfold strOfNums; congr 2; simp [Function.comp_def]
      rw [this]
    · intro i hi
      rw [Nat.zero_add, hown.cellAt i (by omega)]
      have hil : i < l.length := by omega
      simp [u8s, hil]
end Go.Proofs.YtmkhagmjpbfieaaGreatDoor
