/- General laws over any program: elements of slices, slices of the call's own, slices that are read. No program in sight. Frames by footprints: which blocks a call may have changed; messages as cells. No program in sight. Messages by topics: the plain model. No program in sight. -/
import Derived.WalkKit
import Derived.WalkLawsBesides
import Derived.WalkSpells
import Derived.RowKit3
import Derived.Lib.Hide
import Derived.Deep.QuietTactic
import Derived.BigQuiet
import Derived.Deep.RegionHeld3
import Derived.Deep.AppendLies
import Derived.Deep.RegionLaw
namespace Go.Proofs.YthfdcphecggjeaaGreatDoor
section
open Go Go.RowKit

theorem ret_int {k : IntKind} {a b : Int} (h : a = b) : Ending.returned (.int k a) = .returned (.int k b) := by rw [h]
theorem ret_bool {a b : Bool} (h : a = b) : Ending.returned (.bool a) = .returned (.bool b) := by rw [h]

theorem ret_str {a b : List UInt8} (h : a = b) : Ending.returned (.string ⟨a.toArray⟩) = .returned (.string ⟨b.toArray⟩) := by rw [h]
theorem ret2 {a b c d : Value} (h : a = c) (h' : b = d) : Ending.returned (.tuple #[a, b]) = .returned (.tuple #[c, d]) := by rw [h, h']
theorem ret3 {a b c d x y : Value} (h : a = c) (h' : b = d) (h'' : x = y) : Ending.returned (.tuple #[a, b, x]) = .returned (.tuple #[c, d, y]) := by rw [h, h', h'']
theorem v_str {a b : List UInt8} (h : a = b) : Value.string ⟨a.toArray⟩ = .string ⟨b.toArray⟩ := by rw [h]
theorem v_int {k : IntKind} {a b : Int} (h : a = b) : Value.int k a = .int k b := by rw [h]
theorem v_bool {a b : Bool} (h : a = b) : Value.bool a = .bool b := by rw [h]
theorem mk_append (a b : List UInt8) : (⟨a.toArray⟩ : ByteArray) ++ ⟨b.toArray⟩ = ⟨(a ++ b).toArray⟩ := by
  apply ByteArray.ext; simp
theorem v_app {a b c : List UInt8} (h : a ++ b = c) : Value.string ((⟨a.toArray⟩ : ByteArray) ++ ⟨b.toArray⟩) = .string ⟨c.toArray⟩ := by rw [mk_append, h]

theorem v_cut {q r m c : List UInt8} {k : Nat} (hk : k = q.length) (h : q ++ m = c) : Value.string ((⟨(q ++ r).toArray⟩ : ByteArray).extract 0 k ++ ⟨m.toArray⟩) = .string ⟨c.toArray⟩ := by
  subst hk
  have e : (⟨(q ++ r).toArray⟩ : ByteArray).extract 0 q.length = ⟨q.toArray⟩ := by apply ByteArray.ext; simp
  rw [e]; exact v_app h
/-- the length of a string's slot, for a measure -/
def strLen : Value → Nat | .string s => s.size | _ => 0

/-- what the tables say of a slice's type and its elements' -/
structure ElemT (P : Program) (t e : TypeId) (z : Value) (size bytes : Nat) : Prop where
  ht : P.underlying t = some (.slice e)
  hi : (P.info? e).map (fun i => (i.zero, i.size, i.bytes)) = some (some z, size, bytes)
  hzs : z.cells.size = size
  hsz : 0 < size

/-- Built elements (m of them) are appended to a slice of the call's own, or a nil one. -/
theorem wpList_app {P : Program} {t e : TypeId} {z : Value} {size bytes : Nat} (E : ElemT P t e z size bytes) {w0 w : World} {B : Nat} {v : Value} {n : Nat} {xs : List Value} (hown : w.ownsRow B e size v n xs) (hbel : Below B w0 w) (hB : B ≤ w.heap.size)
    {ops : Array Oper} {rest : List Oper} {o : Oper} {a : Act} {Q : Exit → Act → World → Prop} {s x : Operand} {cur : Array Value} {m c : Nat}
    (hgd : o.guard = none) (ho : o.op = .call { callee := .builtin .append, args := #[s, x], argTypes := #[t, t] }) (hs : a.eval s = v) (hx : a.eval x = .slice (some ⟨w.heap.size, 0, none⟩) m c)
    (hc : cur.size = m * size) (h1 : ∀ u ∈ cur.toList, u.oneCell' = true) (hbytes : (n + m) * bytes ≤ 140737488355328) (hn : n + m < 140737488355328)
    (h : ∀ v' w', w'.ownsRow B e size v' (n + m) (xs ++ cur.toList) → Below B w0 w' → B ≤ w'.heap.size → w.heap.size < w'.heap.size → wpList P ops Q rest (a.put o.dst v') w') : wpList P ops Q (o :: rest) a (w.alloc (.cells cur e)) := by
  obtain ⟨i0, hi, hz0, hz1, hz2⟩ := info_parts E.hi
  refine wpList_append_own _ hgd s x t ho B e i0 z size bytes E.ht hi hz0 hz1 hz2 E.hzs E.hsz v n xs hs (hown.alloc _) ⟨w.heap.size, 0, none⟩ m c cur.toList hx (by simp [hc]) ?_ h1 (by unfold maxLen; omega) hbytes (by simp; omega) ?_
  · intro j u hj
    have e1 : (⟨w.heap.size, 0, none⟩ : Addr).add j = ⟨w.heap.size, j, none⟩ := by unfold Addr.add; split <;> simp_all
    rw [e1, World.cell?_alloc_new]
    simpa using hj
  · intro v' w' h1 h2 _
    have hl := hown.lt
    refine h v' w' h1 ((hbel.alloc hB _).grown h2 (by simp; omega) (fun k hk => (hl k hk).1)) ?_ ?_
    · have := h2.size; simp at this; omega
    · have := h2.size; simp at this; omega

/-- Built elements (m of them) are appended to a slice of the call's own, or a nil one. -/
theorem wpList_appG {P : Program} {t e : TypeId} {z : Value} {size bytes : Nat} (E : ElemT P t e z size bytes) {w0 w : World} {B : Nat} {v : Value} {n : Nat} {xs : List Value} (hown : w.ownsRow B e size v n xs) (hbel : Below B w0 w) (hB : B ≤ w.heap.size)
    {ops : Array Oper} {rest : List Oper} {o : Oper} {a : Act} {Q : Exit → Act → World → Prop} {s x : Operand} {cur : Array Value} {m c : Nat}
    (hgd : o.guard = none) (ho : o.op = .call { callee := .builtin .append, args := #[s, x], argTypes := #[t, t] }) (hs : a.eval s = v) (hx : a.eval x = .slice (some ⟨w.heap.size, 0, none⟩) m c)
    (hc : cur.size = m * size) (h1 : ∀ u ∈ cur.toList, u.oneCell' = true) (hbytes : (n + m) * bytes ≤ 140737488355328) (hn : n + m < 140737488355328)
    (h : ∀ v' w', w'.ownsRow B e size v' (n + m) (xs ++ cur.toList) → Below B w0 w' → B ≤ w'.heap.size → (w.alloc (.cells cur e)).grownBy w' v.ownBlock → wpList P ops Q rest (a.put o.dst v') w') : wpList P ops Q (o :: rest) a (w.alloc (.cells cur e)) := by
  obtain ⟨i0, hi, hz0, hz1, hz2⟩ := info_parts E.hi
  refine wpList_append_own _ hgd s x t ho B e i0 z size bytes E.ht hi hz0 hz1 hz2 E.hzs E.hsz v n xs hs (hown.alloc _) ⟨w.heap.size, 0, none⟩ m c cur.toList hx (by simp [hc]) ?_ h1 (by unfold maxLen; omega) hbytes (by simp; omega) ?_
  · intro j u hj
    have e1 : (⟨w.heap.size, 0, none⟩ : Addr).add j = ⟨w.heap.size, j, none⟩ := by unfold Addr.add; split <;> simp_all
    rw [e1, World.cell?_alloc_new]
    simpa using hj
  · intro v' w' h1 h2 _
    have hl := hown.lt
    refine h v' w' h1 ((hbel.alloc hB _).grown h2 (by simp; omega) (fun k hk => (hl k hk).1)) ?_ h2
    have := h2.size; simp at this; omega

/-- The cells of a slice that is read: none, or in a row somewhere. -/
def Row (w : World) (a : Option Addr) (xs : List Value) : Prop :=
  xs = [] ∨ ∃ b off, a = some ⟨b, off, none⟩ ∧ ∀ j u, xs[j]? = some u → w.cell? ⟨b, off + j, none⟩ = some u

theorem Row.below {w w' : World} {a : Option Addr} {xs : List Value} {B : Nat} (h : Row w a xs) (hb : Below B w w') (hB : w.heap.size ≤ B) : Row w' a xs := by
  rcases h with h | ⟨b, off, ha, hc⟩
  · exact .inl h
  · refine .inr ⟨b, off, ha, fun j u hj => ?_⟩
    have h0 := hc j u hj
    rw [hb.cell (p := ⟨b, off + j, none⟩) (Nat.lt_of_lt_of_le (World.block_lt_of_cell? w _ h0) hB)]
    exact h0
theorem Row.at {w : World} {a : Option Addr} {xs : List Value} (h : Row w a xs) {j : Nat} {u : Value} (hj : xs[j]? = some u) : ∃ b off, a = some ⟨b, off, none⟩ ∧ w.cell? ⟨b, off + j, none⟩ = some u := by
  rcases h with rfl | ⟨b, off, ha, hc⟩
  · simp at hj
  · exact ⟨b, off, ha, hc j u hj⟩
theorem Row.nil (w : World) (a : Option Addr) : Row w a [] := .inl rfl
theorem bnext {w w1 w2 : World} {B : Nat} (h : Below B w w1) (hB : B ≤ w.heap.size) (k : Below w1.heap.size w1 w2) : Below B w w2 := h.trans (k.mono (Nat.le_trans hB h.size))
theorem row_new (w : World) (xs : List Value) (t : TypeId) : Row (w.alloc (.cells xs.toArray t)) (some ⟨w.heap.size, 0, none⟩) xs :=
  .inr ⟨_, 0, rfl, fun j u hj => by rw [Nat.zero_add, World.cell?_alloc_new]; simpa using hj⟩
theorem quiet_eq {P : Program} {f : FuncId} {args : Array Value} {w : World} {n : Nat} {v : Value}
    (h : Calls P f args (w.drewN n) fun e w' => e = .returned v ∧ w.drewN n = w') : Calls P f args (w.drewN n) fun e w'' => e = .returned v ∧ ∃ m, w'' = w.drewN m :=
  h.mono fun _ _ ⟨he, hm⟩ => ⟨he, n, hm.symm⟩
theorem below_draws {B : Nat} {w : World} (n : Nat) : Below B w (w.drewN n) := below_drewN (Below.refl _ _) n
/-- What the call owns can be read. -/
theorem ownsRow_row {w : World} {B : Nat} {e : TypeId} {size n : Nat} {v : Value} {xs : List Value} (h : w.ownsRow B e size v n xs) : ∃ a cap, v = .slice a n cap ∧ Row w a xs ∧ n ≤ cap ∧ cap ≤ maxLen := by
  have hxl := h.1
  rcases h.2 with ⟨rfl, hn⟩ | ⟨g, cap, cur, rfl, hb, hg, hnc, hcm, hcs, htake⟩
  · exact ⟨none, 0, by rw [hn], .inl (by have := h.1; rw [hn] at this; simpa using this), by omega, by omega⟩
  · exact ⟨_, _, rfl, .inr ⟨g, 0, rfl, fun j u hj => by
      rw [Nat.zero_add, h.cellAt j ?_, hj]
      have := (List.getElem?_eq_some_iff.1 hj).1
      omega⟩, hnc, hcm⟩

/-- A row that is read is appended to a slice of the call's own, or a nil one. -/
theorem wpList_appRow {P : Program} {t e : TypeId} {z : Value} {size bytes : Nat} (E : ElemT P t e z size bytes) {w0 w : World} {B : Nat} {v : Value} {n : Nat} {xs : List Value} (hown : w.ownsRow B e size v n xs) (hbel : Below B w0 w) (hB : B ≤ w.heap.size)
    {ops : Array Oper} {rest : List Oper} {o : Oper} {a : Act} {Q : Exit → Act → World → Prop} {s x : Operand} {ad : Option Addr} {ys : List Value} {m c : Nat} (hrow : Row w ad ys)
    (hgd : o.guard = none) (ho : o.op = .call { callee := .builtin .append, args := #[s, x], argTypes := #[t, t] }) (hs : a.eval s = v) (hx : a.eval x = .slice ad m c)
    (hc : ys.length = m * size) (h1 : ∀ u ∈ ys, u.oneCell' = true) (hbytes : (n + m) * bytes ≤ 140737488355328) (hn : n + m < 140737488355328)
    (h : ∀ v' w', w'.ownsRow B e size v' (n + m) (xs ++ ys) → Below B w0 w' → B ≤ w'.heap.size → wpList P ops Q rest (a.put o.dst v') w') : wpList P ops Q (o :: rest) a w := by
  obtain ⟨i0, hi, hz0, hz1, hz2⟩ := info_parts E.hi
  have hl := hown.lt
  have fin : ∀ v' w', w'.ownsRow B e size v' (n + m) (xs ++ ys) → w.grownBy w' v.ownBlock → wpList P ops Q rest (a.put o.dst v') w' := by
    intro v' w' h1 h2
    exact h v' w' h1 (hbel.grown h2 hB (fun k hk => (hl k hk).1)) (Nat.le_trans hB h2.size)
  rcases hrow with rfl | ⟨b, off, rfl, hcell⟩
  · have hm : m = 0 := by
      have hz := E.hsz
      have hc' : m * size = 0 := by simpa using hc.symm
      rcases Nat.mul_eq_zero.1 hc' with h | h <;> omega
    subst hm
    cases ad with
    | none =>
      have hr : (Builtin.append_ #[t, t] o.type #[v, .slice none 0 c]).run P w = .ok v w := by
        rcases hown.2 with ⟨rfl, rfl⟩ | ⟨g, cap, cur, rfl, _, _, hnc, _⟩
        · simp [Builtin.append_, run_underlying E.ht, sizeOf, typeInfo, hi, Builtin.lenOf, Builtin.firstCells]
        · simp [Builtin.append_, run_underlying E.ht, sizeOf, typeInfo, hi, Builtin.lenOf, Builtin.firstCells, hnc, storeCells]
      refine wpList_plain hgd fun K hK => ?_
      unfold Oper.wp execOp
      simp only [ho, resolve, invoke, builtin, Sem.run_bind, Sem.run_pure, Result.andThen_ok, List.map_toArray, List.map_cons, List.map_nil, hs, hx, hr]
      exact hK _ _ (fin v w (by simpa using hown) (World.grownBy.refl _ _))
    | some ad =>
      exact wpList_append_own _ hgd s x t ho B e i0 z size bytes E.ht hi hz0 hz1 hz2 E.hzs E.hsz v n xs hs hown ad 0 c [] hx (by simp) (by simp) (by simp) (by unfold maxLen; omega) hbytes hB (fun v' w' h1 h2 _ => fin v' w' h1 h2)
  · refine wpList_append_own _ hgd s x t ho B e i0 z size bytes E.ht hi hz0 hz1 hz2 E.hzs E.hsz v n xs hs hown ⟨b, off, none⟩ m c ys hx hc ?_ h1 (by unfold maxLen; omega) hbytes hB (fun v' w' h1 h2 _ => fin v' w' h1 h2)
    intro j u hj
    have e1 : (⟨b, off, none⟩ : Addr).add j = ⟨b, off + j, none⟩ := by unfold Addr.add; split <;> simp_all
    rw [e1]; exact hcell j u hj

/-- 'make([]T, 0, n)'. -/
theorem wpList_mk {P : Program} {t e : TypeId} {z : Value} {size bytes : Nat} (E : ElemT P t e z size bytes) {w0 w : World} {B : Nat} (hbel : Below B w0 w) (hB : B ≤ w.heap.size)
    {ops : Array Oper} {rest : List Oper} {o : Oper} {a : Act} {Q : Exit → Act → World → Prop} {l c : Operand} {kl kc : IntKind} {C : Int}
    (hgd : o.guard = none) (ho : o.op = Op.makeSlice t l c) (hl : a.eval l = .int kl 0) (hc : a.eval c = .int kc C) (hC : 0 ≤ C) (hCm : C * bytes ≤ 140737488355328) (hCn : C < 140737488355328)
    (h : ∀ v' w', w'.ownsRow B e size v' 0 [] → Below B w0 w' → B ≤ w'.heap.size → wpList P ops Q rest (a.put o.dst v') w') : wpList P ops Q (o :: rest) a w := by
  obtain ⟨i0, hi, hz0, hz1, hz2⟩ := info_parts E.hi
  obtain ⟨n, rfl⟩ := Int.eq_ofNat_of_zero_le hC
  refine wpList_make_own w hgd l c t ho B e i0 z size E.ht hi hz0 hz1 kl kc n n hl hc rfl ?_ (by unfold maxLen; omega) hB ?_
  · rw [hz2, Nat.mul_comm]
    have : ((n * bytes : Nat) : Int) ≤ 140737488355328 := by simpa using hCm
    omega
  · intro w' h1 h2
    exact h _ w' h1 (hbel.grown h2 hB (by simp)) (Nat.le_trans hB h2.size)

/-- 'string([]byte{..})': of a block that was just made. -/
theorem run_string_new {P : Program} {e t T : TypeId} (ht : P.underlying t = some (.slice e)) (he : P.underlying e = some (.int .u8)) (hT : P.underlying T = some .string) (xs : List Int) (c : Nat) (w : World) :
    (convert t T (.slice (some ⟨w.heap.size, 0, none⟩) xs.length c)).run P (w.alloc (.cells (xs.map (Value.int .u8)).toArray e)) = .ok (.string ⟨(xs.map fun n => UInt8.ofNat n.toNat).toArray⟩) (w.alloc (.cells (xs.map (Value.int .u8)).toArray e)) := by
  refine run_convert_bytes_arg (w.alloc (.cells (xs.map (Value.int .u8)).toArray e)) t e ht he w.heap.size 0 xs.length c xs rfl ?_ T hT
  intro i hi
  rw [Nat.zero_add, World.cell?_alloc_new]
  simp [hi]
theorem extract_pre (q r : List UInt8) : (⟨(q ++ r).toArray⟩ : ByteArray).extract 0 q.length = ⟨q.toArray⟩ := by apply ByteArray.ext; simp
theorem extract_take (s : ByteArray) (k : Nat) : s.extract 0 k = ⟨(s.data.toList.take k).toArray⟩ := by
  apply ByteArray.ext; apply Array.ext'; simp
/-- 's[:k]', k the length of its first part. -/
theorem run_slice_to {P : Program} {T : TypeId} (hT : P.underlying T = some .string) (q r : List UInt8) (k : IntKind) (w : World) : (Instr.slice T (.string ⟨(q ++ r).toArray⟩) none (some (.int k (q.length : Int))) none).run P w = .ok (.string ⟨q.toArray⟩) w := by
  have h : (q.length : Int) ≤ ((⟨(q ++ r).toArray⟩ : ByteArray).size : Int) := by show (q.length : Int) ≤ ((q ++ r).length : Int); rw [List.length_append]; omega
  have := run_slice_string_h (P := P) w T ⟨(q ++ r).toArray⟩ hT k (q.length : Int) (by omega) h
  rw [Int.toNat_natCast, extract_pre] at this
  exact this
theorem i64_or_nat (a b : Nat) (ha : a < 4294967296) (hb : b < 4294967296) : bits .or .i64 (a : Int) (b : Int) = ((a ||| b : Nat) : Int) := by
  have hx : a ||| b < 2 ^ 32 := Nat.or_lt_two_pow (by omega) (by omega)
  have e : ∀ n : Nat, n < 4294967296 → (BitVec.ofInt 64 (n : Int)).toNat = n := fun n hn => by
    rw [BitVec.ofInt_natCast, BitVec.toNat_ofNat]; exact Nat.mod_eq_of_lt (by omega)
  show IntKind.i64.wrap ((BitVec.ofInt 64 (a : Int) ||| BitVec.ofInt 64 (b : Int)).toNat : Int) = _
  rw [BitVec.toNat_or, e a ha, e b hb, IntKind.wrap_i64]
  omega
theorem or_word (a b : Nat) (ha : a < 256) (hb : b < 256) : bits .or .i64 (wrap64 (wrap64 (a : Int) * 256)) (wrap64 (b : Int)) = (a : Int) * 256 + b := by
  rw [IntWalk.wrap64_in (a : Int) ⟨by omega, by omega⟩, IntWalk.wrap64_in (b : Int) ⟨by omega, by omega⟩, IntWalk.wrap64_in ((a : Int) * 256) ⟨by omega, by omega⟩]
  rw [show (a : Int) * 256 = ((a * 256 : Nat) : Int) by omega, i64_or_nat _ _ (by omega) (by omega), nat_join 8 (a * 256) b (by omega) (by omega)]
  omega

theorem add_word (a b : Nat) (ha : a < 256) (hb : b < 256) : wrap64 (wrap64 (256 * wrap64 (a : Int)) + wrap64 (b : Int)) = (a : Int) * 256 + b := by
  rw [IntWalk.wrap64_in (a : Int) ⟨by omega, by omega⟩, IntWalk.wrap64_in (b : Int) ⟨by omega, by omega⟩, IntWalk.wrap64_in (256 * (a : Int)) ⟨by omega, by omega⟩, IntWalk.wrap64_in _ ⟨by omega, by omega⟩]
  omega
theorem w_u8 (x : Int) (h0 : 0 ≤ x) (h1 : x < 256) : IntKind.u8.wrap x = x := by rw [IntKind.wrap_u8']; omega
theorem w_i64 (x : Int) (h0 : -9223372036854775808 ≤ x) (h1 : x ≤ 9223372036854775807) : IntKind.i64.wrap x = x := by rw [IntKind.wrap_i64]; omega

def ints (l : List Int) : List Value := l.map (Value.int .i64)

/-- bytes as values -/
def u8s (l : List UInt8) : List Value := l.map fun c => Value.int .u8 (c.toNat : Int)
theorem u8s_length (l : List UInt8) : (u8s l).length = l.length := by simp [u8s]
theorem u8s_append (l m : List UInt8) : u8s l ++ u8s m = u8s (l ++ m) := by simp [u8s]

/-- 'string(b)' of a row of the call's own. -/
theorem run_string_own {P : Program} {w : World} {B : Nat} {e t T : TypeId} {v : Value} {n : Nat} {l : List UInt8} (ht : P.underlying t = some (.slice e)) (he : P.underlying e = some (.int .u8)) (hT : P.underlying T = some .string)
    (hown : w.ownsRow B e 1 v n (u8s l)) : (convert t T v).run P w = .ok (.string ⟨l.toArray⟩) w := by
  rcases hown.2 with ⟨rfl, hn⟩ | ⟨g, cap, cur, rfl, hb, hg, hnc, hcm, hcs, htake⟩
  · have : l = [] := by have := hown.1; simp [u8s, hn] at this; exact this
    subst this
    rw [run_convert_bytes_nil w t e ht he 0 0 T hT]; rfl
  · have hln : l.length = n := by have := hown.1; simpa [u8s] using this
    rw [run_convert_bytes_arg w t e ht he g 0 n cap (l.map fun c => (c.toNat : Int)) (by simp [hln]) ?_ T hT]
    · have : strOfNums (l.map fun c => (c.toNat : Int)) = ⟨l.toArray⟩ := by
        unfold strOfNums; congr 2; simp [Function.comp_def]
      rw [this]
    · intro i hi
      rw [Nat.zero_add, hown.cellAt i (by omega)]
      have hil : i < l.length := by omega
      simp [u8s, hil]
end
section
open Go Go.RowKit

/-- Of what was there, the blocks of S alone may have changed. -/
structure Mod (S : List Nat) (w w' : World) : Prop where
  os : w'.os = w.os
  tape : w'.tape = w.tape
  output : w'.output = w.output
  size : w.heap.size ≤ w'.heap.size
  block : ∀ k, k < w.heap.size → k ∉ S → w'.heap[k]? = w.heap[k]?

theorem Mod.refl (S : List Nat) (w : World) : Mod S w w := ⟨rfl, rfl, rfl, Nat.le_refl _, fun _ _ _ => rfl⟩
theorem Mod.of_below {w w' : World} (h : Below w.heap.size w w') (S : List Nat) : Mod S w w' := ⟨h.os, h.tape, h.output, h.size, fun k hk _ => h.block k hk⟩
theorem Mod.below {S : List Nat} {w w' : World} {B : Nat} (h : Mod S w w') (hB : B ≤ w.heap.size) (hS : ∀ k ∈ S, B ≤ k) : Below B w w' :=
  ⟨h.os, h.tape, h.output, h.size, fun k hk => h.block k (by omega) (fun hs => by have := hS k hs; omega)⟩
theorem Mod.trans {S S' : List Nat} {w w1 w2 : World} (h : Mod S w w1) (h' : Mod S' w1 w2) (hS : ∀ k ∈ S', k ∈ S ∨ w.heap.size ≤ k) : Mod S w w2 :=
  ⟨h'.os.trans h.os, h'.tape.trans h.tape, h'.output.trans h.output, Nat.le_trans h.size h'.size, fun k hk hn => by
    rw [h'.block k (Nat.lt_of_lt_of_le hk h.size) (fun hs => by rcases hS k hs with h1 | h1 <;> first | exact hn h1 | omega), h.block k hk hn]⟩
theorem Mod.mono {S S' : List Nat} {w w' : World} (h : Mod S w w') (hS : ∀ k ∈ S, k ∈ S') : Mod S' w w' := ⟨h.os, h.tape, h.output, h.size, fun k hk hn => h.block k hk (fun hs => hn (hS k hs))⟩
theorem Mod.next {S : List Nat} {w w1 w2 : World} (h : Mod S w w1) (h' : Below w1.heap.size w1 w2) : Mod S w w2 := h.trans (Mod.of_below h' []) (by simp)
theorem Mod.drewN {S : List Nat} {w w' : World} (h : Mod S w w') (n : Nat) : Mod S w (w'.drewN n) := ⟨h.os, h.tape, h.output, h.size, h.block⟩
theorem Mod.drew {S : List Nat} {w w' : World} (h : Mod S w w') : Mod S w w'.drew := ⟨h.os, h.tape, h.output, h.size, h.block⟩
theorem Mod.alloc {S : List Nat} {w w' : World} (h : Mod S w w') (o : Obj) : Mod S w (w'.alloc o) := h.next ((Below.refl _ _).alloc (Nat.le_refl _) o)
theorem Mod.setCell {S : List Nat} {w w' : World} (h : Mod S w w') {p : Addr} (hp : p.block ∈ S ∨ w.heap.size ≤ p.block) (u : Value) : Mod S w (w'.setCell p u) :=
  ⟨h.os, h.tape, h.output, by simpa using h.size, fun k hk hn => by
    rw [Below.heap_setCell _ _ _ _ (by rintro rfl; rcases hp with hp | hp <;> first | exact hn hp | omega), h.block k hk hn]⟩
theorem Mod.grown {S : List Nat} {w w1 w2 : World} {row : Option Nat} (h : Mod S w w1) (hg : w1.grownBy w2 row) (hr : ∀ k, row = some k → k ∈ S ∨ w.heap.size ≤ k) : Mod S w w2 :=
  ⟨hg.os.trans h.os, hg.tape.trans h.tape, hg.output.trans h.output, Nat.le_trans h.size hg.size, fun k hk hn => by
    rw [hg.block k (Nat.lt_of_lt_of_le hk h.size) (fun e => by rcases hr k e.symm with h1 | h1 <;> first | exact hn h1 | omega), h.block k hk hn]⟩
theorem Row.mod {S : List Nat} {w w' : World} {a : Option Addr} {xs : List Value} (h : Row w a xs) (hm : Mod S w w') (hS : ∀ b o, a = some ⟨b, o, none⟩ → b ∉ S) : Row w' a xs := by
  rcases h with h | ⟨b, off, rfl, hc⟩
  · exact .inl h
  · refine .inr ⟨b, off, rfl, fun j u hj => ?_⟩
    have h0 := hc j u hj
    rw [World.cell?_of_block (w := w) (hm.block b (World.block_lt_of_cell? w _ h0) (hS b off rfl))]
    exact h0

/-- What was of F is now of F', or new; the rest is as it was. -/
def Upd (F F' : List Nat) (w w' : World) : Prop := Mod F w w' ∧ ∀ k ∈ F', k ∈ F ∨ w.heap.size ≤ k

theorem ownsRow_local {w w' : World} {B : Nat} {e : TypeId} {size n : Nat} {v : Value} {xs : List Value} (h : w.ownsRow B e size v n xs) (hk : ∀ k, v.ownBlock = some k → w'.heap[k]? = w.heap[k]?) : w'.ownsRow B e size v n xs := by
  refine ⟨h.1, ?_⟩
  rcases h.2 with hn | ⟨b, cap, cur, rfl, hb, hgg, rest⟩
  · exact .inl hn
  · exact .inr ⟨b, cap, cur, rfl, hb, by rw [hk b rfl]; exact hgg, rest⟩
theorem grown_keep {W1 w2 : World} {o : Obj} {row : Option Nat} {g : Nat} {x : Obj} (h : (W1.alloc o).grownBy w2 row) (hg : W1.heap[g]? = some x) (hne : row ≠ some g) : w2.heap[g]? = some x := by
  have hgl : g < W1.heap.size := (Array.getElem?_eq_some_iff.1 hg).1
  rw [h.block g (by simp; omega) (fun e => hne e.symm), Below.heap_alloc W1 o g hgl, hg]
/-- 'append(s, E{..})' as one step of a region that draws its order. -/
theorem step_app {P : Program} {t e : TypeId} {z : Value} {size bytes : Nat} (E : ElemT P t e z size bytes) {W : World} {B : Nat} {v : Value} {n : Nat} {xs : List Value} (hown : W.ownsRow B e size v n xs)
    {b m c : Nat} {cur : Array Value} {t' : TypeId} {fr : Nat × Nat} (hblk : W.heap[b]? = some (.cells cur t' fr))
    {ops : Array Oper} {o : Oper} {a : Act} {K : Act → World → Prop} {Q : Exit → Act → World → Prop} {E' : Prop} (hgd : o.guard = none) {s x : Operand}
    (ho : o.op = .call { callee := .builtin .append, args := #[s, x], argTypes := #[t, t] }) (hs : a.eval s = v) (hx : a.eval x = .slice (some ⟨b, 0, none⟩) m c)
    (hc : cur.size = m * size) (hm : 0 < m) (h1 : ∀ u ∈ cur.toList, u.oneCell' = true) (hbytes : (n + m) * bytes ≤ 140737488355328) (hn : n + m < 140737488355328) (hB : B ≤ W.heap.size)
    (h : ∀ g cap w', w'.ownsRow B e size (.slice (some ⟨g, 0, none⟩) (n + m) cap) (n + m) (xs ++ cur.toList) → W.grownBy w' v.ownBlock → (v.ownBlock = some g ∨ g = W.heap.size) → g < w'.heap.size →
      K (a.put o.dst (.slice (some ⟨g, 0, none⟩) (n + m) cap)) w') :
    if Region.wanted o (yielded ops a.tmps) = true then Oper.wp P o a W K Q else E' := by
  obtain ⟨i0, hi, hz0, hz1, hz2⟩ := info_parts E.hi
  refine step_append_lies W hgd s x t ho B e i0 z size bytes E.ht hi hz0 hz1 hz2 E.hzs E.hsz v n xs hs hown ⟨b, 0, none⟩ m c cur.toList hx (by simp [hc]) ?_ h1 hm (by unfold maxLen; omega) hbytes hB W.heap.size rfl h
  intro j u hj
  have e1 : (⟨b, 0, none⟩ : Addr).add j = ⟨b, j, none⟩ := by unfold Addr.add; split <;> simp_all
  rw [e1, cell_of_row W b j _ _ _ hblk]
  simpa using hj

/-- a message -/
structure Msg where
  t : ByteArray
  p : ByteArray
  q : Int
  r : Bool
def Msg.none : Msg := ⟨⟨#[]⟩, ⟨#[]⟩, 0, false⟩
def Msg.cells (m : Msg) : List Value := [.string m.t, .string m.p, .int .u8 m.q, .bool m.r]
def Msg.val (m : Msg) : Value := .agg #[.string m.t, .string m.p, .int .u8 m.q, .bool m.r]
def msgs (l : List Msg) : List Value := l.flatMap Msg.cells
theorem msgs_length (l : List Msg) : (msgs l).length = l.length * 4 := by
  induction l with
  | nil => rfl
  | cons m l ih => simp only [msgs, List.flatMap_cons, List.length_append, List.length_cons] at *; rw [ih]; simp [Msg.cells]; omega
theorem msgs_append (a b : List Msg) : msgs a ++ msgs b = msgs (a ++ b) := by simp [msgs]
theorem msgs_one (l : List Msg) : ∀ u ∈ msgs l, u.oneCell' = true := by
  intro u hu
  simp only [msgs, List.mem_flatMap] at hu
  obtain ⟨m, _, hm⟩ := hu
  simp only [Msg.cells, List.mem_cons, List.not_mem_nil, or_false] at hm
  rcases hm with rfl | rfl | rfl | rfl <;> rfl
/-- the cells of the message at k -/
theorem msgs_at (l : List Msg) : ∀ (k : Nat) (m : Msg), l[k]? = some m → (msgs l)[k * 4]? = some (.string m.t) ∧ (msgs l)[k * 4 + 1]? = some (.string m.p) ∧ (msgs l)[k * 4 + 2]? = some (.int .u8 m.q) ∧ (msgs l)[k * 4 + 3]? = some (.bool m.r) := by
  induction l with
  | nil => intro k m h; simp at h
  | cons x l ih =>
    intro k m h
    cases k with
    | zero =>
      simp at h
      subst h
      simp [msgs, Msg.cells]
    | succ k =>
      have h1 := ih k m (by simpa using h)
      have e : msgs (x :: l) = [.string x.t, .string x.p, .int .u8 x.q, .bool x.r] ++ msgs l := rfl
      have e4 : ∀ j, (msgs (x :: l))[(k + 1) * 4 + j]? = (msgs l)[k * 4 + j]? := fun j => by
        rw [e, show (k + 1) * 4 + j = k * 4 + j + 4 by omega]; simp
      have e0 := e4 0
      simp only [Nat.add_zero] at e0
      rw [e0, e4, e4, e4]
      exact h1
theorem set4 {w : World} {g : Nat} {a b c d x y z u : Value} {T : TypeId} (h : w.heap[g]? = some (.cells #[a, b, c, d] T (0, 0))) :
    ((((w.setCell ⟨g, 0, none⟩ x).setCell ⟨g, 1, none⟩ y).setCell ⟨g, 2, none⟩ z).setCell ⟨g, 3, none⟩ u).heap[g]? = some (.cells #[x, y, z, u] T (0, 0)) ∧
    Mod [g] w ((((w.setCell ⟨g, 0, none⟩ x).setCell ⟨g, 1, none⟩ y).setCell ⟨g, 2, none⟩ z).setCell ⟨g, 3, none⟩ u) := by
  constructor
  · have h1 := heap_setCell_same w g 0 _ _ x h
    have h2 := heap_setCell_same _ g 1 _ _ y h1
    have h3 := heap_setCell_same _ g 2 _ _ z h2
    have h4 := heap_setCell_same _ g 3 _ _ u h3
    exact h4
  · exact ((((Mod.refl [g] w).setCell (.inl (by simp)) _).setCell (.inl (by simp)) _).setCell (.inl (by simp)) _).setCell (.inl (by simp)) _

/-- The results of a function whose first result is a struct's variable. -/
theorem results_row_tmp {P : Program} {fn : Func} {p t : Tmp} {ty : TypeId} (h : fn.results = #[.cell p ty, .tmp t]) {tmps : Array Value} {w : World} {g : Nat} {T : TypeId} {cs : Array Value} {fr : Nat × Nat} {d : TypeDesc}
    (hp : tmps.getD p undef = .pointer (some ⟨g, 0, none⟩)) (hg : w.heap[g]? = some (.cells cs T fr))
    (hu : P.underlying ty = some d) (hd : (match d with | .struct _ | .array _ _ => true | _ => false) = true) (hi : (P.info? ty).map (·.size) = some cs.size) :
    (results fn tmps).run P w = .ok (.tuple #[.agg cs, tmps.getD t undef]) w := by
  have hp' : tmps[p]?.getD undef = .pointer (some ⟨g, 0, none⟩) := by simpa using hp
  simp [results, h, hp', asAddr, run_loadVar_row w g T ty cs fr d hg hu hd hi]

/-- the four cells of the message at k -/
theorem msgs_row {w : World} {a : Option Addr} {l : List Msg} (h : Row w a (msgs l)) {k : Nat} {m : Msg} (hk : l[k]? = some m) :
    ∃ b off, a = some ⟨b, off, none⟩ ∧ w.cell? ⟨b, off + k * 4, none⟩ = some (.string m.t) ∧ w.cell? ⟨b, off + k * 4 + 1, none⟩ = some (.string m.p) ∧ w.cell? ⟨b, off + k * 4 + 2, none⟩ = some (.int .u8 m.q) ∧ w.cell? ⟨b, off + k * 4 + 3, none⟩ = some (.bool m.r) := by
  obtain ⟨m0, m1, m2, m3⟩ := msgs_at l k m hk
  rcases h with h | ⟨b, off, ha, hc⟩
  · rw [h] at m0; simp at m0
  · exact ⟨b, off, ha, hc _ _ m0, by rw [Nat.add_assoc]; exact hc _ _ m1, by rw [Nat.add_assoc]; exact hc _ _ m2, by rw [Nat.add_assoc]; exact hc _ _ m3⟩
theorem cells4 {w : World} {g : Nat} {a b c d : Value} {T : TypeId} {fr : Nat × Nat} (h : w.heap[g]? = some (.cells #[a, b, c, d] T fr)) :
    w.cell? ⟨g, 0, none⟩ = some a ∧ w.cell? ⟨g, 1, none⟩ = some b ∧ w.cell? ⟨g, 2, none⟩ = some c ∧ w.cell? ⟨g, 3, none⟩ = some d :=
  ⟨cell_of_row w g 0 _ _ _ h, cell_of_row w g 1 _ _ _ h, cell_of_row w g 2 _ _ _ h, cell_of_row w g 3 _ _ _ h⟩
theorem cells3 {w : World} {g : Nat} {a b c : Value} {T : TypeId} {fr : Nat × Nat} (h : w.heap[g]? = some (.cells #[a, b, c] T fr)) :
    w.cell? ⟨g, 0, none⟩ = some a ∧ w.cell? ⟨g, 1, none⟩ = some b ∧ w.cell? ⟨g, 2, none⟩ = some c :=
  ⟨cell_of_row w g 0 _ _ _ h, cell_of_row w g 1 _ _ _ h, cell_of_row w g 2 _ _ _ h⟩
theorem free4 {w : World} {g : Nat} {cs : Array Value} {T : TypeId} (h : w.heap[g]? = some (.cells cs T (0, 0))) :
    w.frozen? ⟨g, 0, none⟩ = false ∧ w.frozen? ⟨g, 1, none⟩ = false ∧ w.frozen? ⟨g, 2, none⟩ = false ∧ w.frozen? ⟨g, 3, none⟩ = false :=
  ⟨frozen_of_row w g 0 _ _ h, frozen_of_row w g 1 _ _ h, frozen_of_row w g 2 _ _ h, frozen_of_row w g 3 _ _ h⟩
theorem mod_setRow {S : List Nat} {w w' : World} (h : Mod S w w') {g : Nat} (hg : g ∈ S ∨ w.heap.size ≤ g) (cs : Array Value) : Mod S w (w'.setRow g cs) :=
  ⟨h.os, h.tape, h.output, by simpa using h.size, fun k hk hn => by
    rw [setRow_other w' g k cs (by rintro rfl; rcases hg with hg | hg <;> first | exact hn hg | omega), h.block k hk hn]⟩

/-- 'copy(d, s)' into a block that is known, as one step of a region that draws its order. -/
theorem step_copy {P : Program} {t e : TypeId} {z : Value} {size bytes : Nat} (E : ElemT P t e z size bytes) {W : World}
    {ops : Array Oper} {o : Oper} {a : Act} {K : Act → World → Prop} {Q : Exit → Act → World → Prop} {E' : Prop} (hgd : o.guard = none) {d s : Operand}
    (ho : o.op = .call { callee := .builtin .copy, args := #[d, s], argTypes := #[t, t] }) {g dLen dCap sLen sCap : Nat} {ad : Addr} (hd : a.eval d = .slice (some ⟨g, 0, none⟩) dLen dCap) (hs : a.eval s = .slice (some ad) sLen sCap)
    {cur : Array Value} {T : TypeId} (hg : W.heap[g]? = some (.cells cur T (0, 0))) {cs : List Value} (hn : cs.length = sLen * size) (hle : sLen ≤ dLen)
    (hsrc : ∀ j v, cs[j]? = some v → W.cell? (ad.add j) = some v) (hfit : cs.length ≤ cur.size) (h1 : ∀ v ∈ cs, v.oneCell' = true)
    (h : ∀ w' cur', w'.heap[g]? = some (.cells cur' T (0, 0)) → cur'.size = cur.size → cur'.toList.take cs.length = cs → Mod [g] W w' → K (a.put o.dst (.int .i64 sLen)) w') :
    if Region.wanted o (yielded ops a.tmps) = true then Oper.wp P o a W K Q else E' := by
  obtain ⟨i0, hi, hz0, hz1, hz2⟩ := info_parts E.hi
  rw [if_pos (by simp [Region.wanted, hgd])]
  have hf := run_firstCells_some (P := P) W size sLen ad sLen sCap cs hn hsrc
  have hst := run_storeCells_at P g 0 T cs 0 cur W hg (by simpa using hfit) h1
  have hrun : (Builtin.copy_ #[t, t] o.type #[.slice (some ⟨g, 0, none⟩) dLen dCap, .slice (some ad) sLen sCap]).run P W = .ok (goInt sLen) (W.setRow g (cs ++ cur.toList.drop cs.length).toArray) := by
    simp only [Nat.zero_add, List.take_zero, List.nil_append] at hst
    simp [Builtin.copy_, run_underlying E.ht, Builtin.lenOf, sizeOf, typeInfo, hi, hz1, Nat.min_eq_left hle, hf, hst]
  unfold Oper.wp execOp
  simp only [ho, resolve, invoke, builtin, Sem.run_bind, Sem.run_pure, Result.andThen_ok, List.map_toArray, List.map_cons, List.map_nil, hd, hs, hrun]
  exact h _ _ (setRow_heap W g cur _ T _ hg) (by simp; omega) (by simp) (mod_setRow (Mod.refl _ _) (.inl (by simp)) _)

/-- 'clear(x)' of a piece of a block that is known: what lies ahead of it stays. -/
theorem wpList_clear {P : Program} {t e : TypeId} {z : Value} {size bytes : Nat} (E : ElemT P t e z size bytes) (hz1 : ∀ u ∈ z.cells.toList, u.oneCell' = true) {w : World} {ops : Array Oper} {rest : List Oper} {o : Oper} {a : Act} {Q : Exit → Act → World → Prop} (hgd : o.guard = none) {x : Operand}
    (ho : o.op = .call { callee := .builtin .clear, args := #[x], argTypes := #[t] }) {g off m c : Nat} {ad : Option Addr} (hx : a.eval x = .slice ad m c) (had : 0 < m → ad = some ⟨g, off, none⟩)
    {cur : Array Value} {T : TypeId} (hg : w.heap[g]? = some (.cells cur T (0, 0))) (hfit : off + m * size ≤ cur.size)
    (h : ∀ w' cur', w'.heap[g]? = some (.cells cur' T (0, 0)) → cur'.size = cur.size → cur'.toList.take off = cur.toList.take off → Mod [g] w w' → wpList P ops Q rest (a.put o.dst (.tuple #[])) w') : wpList P ops Q (o :: rest) a w := by
  obtain ⟨i0, hi, hz0, hz1', hz2⟩ := info_parts E.hi
  refine wpList_plain hgd fun K hK => ?_
  rcases Nat.eq_zero_or_pos m with rfl | hm
  · have hrun : (Builtin.clear_ #[t] o.type #[.slice ad 0 c]).run P w = .ok (.tuple #[]) w := by
      cases ad <;> simp [Builtin.clear_, run_underlying E.ht]
    unfold Oper.wp execOp
    simp only [ho, resolve, invoke, builtin, Sem.run_bind, Sem.run_pure, Result.andThen_ok, List.map_toArray, List.map_cons, List.map_nil, hx, hrun]
    exact hK _ _ (h w cur hg rfl rfl (Mod.refl _ _))
  · have ha := had hm
    subst ha
    have hzs := E.hzs
    have hzc : (Builtin.zeroCells z.cells m).toList.length = m * size := by simp [Builtin.zeroCells, hzs]
    have hone : ∀ u ∈ (Builtin.zeroCells z.cells m).toList, u.oneCell' = true := by
      intro u hu
      simp only [Builtin.zeroCells, Array.toList_map, Array.toList_range, List.mem_map, List.mem_range] at hu
      obtain ⟨i, -, rfl⟩ := hu
      have hlt : i % z.cells.size < z.cells.size := Nat.mod_lt _ (by rw [hzs]; exact E.hsz)
      rw [getElem!_pos z.cells _ hlt]
      exact hz1 _ (Array.getElem_mem_toList hlt)
    have hst := run_storeCells_at P g off T (Builtin.zeroCells z.cells m).toList 0 cur w hg (by rw [hzc]; omega) hone
    obtain ⟨m, rfl⟩ : ∃ k, m = k + 1 := ⟨m - 1, by omega⟩
    have hzv : (zeroValue e).run P w = .ok z w := by simp [zeroValue, typeInfo, hi, hz0]
    have hrun : (Builtin.clear_ #[t] o.type #[.slice (some ⟨g, off, none⟩) (m + 1) c]).run P w = .ok (.tuple #[]) (w.setRow g (cur.toList.take (off + 0) ++ (Builtin.zeroCells z.cells (m + 1)).toList ++ cur.toList.drop (off + 0 + (Builtin.zeroCells z.cells (m + 1)).toList.length)).toArray) := by
      simp [Builtin.clear_, run_underlying E.ht, hzv]
      simp at hst
      rw [hst]
      simp
    unfold Oper.wp execOp
    simp only [ho, resolve, invoke, builtin, Sem.run_bind, Sem.run_pure, Result.andThen_ok, List.map_toArray, List.map_cons, List.map_nil, hx, hrun]
    refine hK _ _ (h _ _ (setRow_heap w g cur _ T _ hg) ?_ ?_ (mod_setRow (Mod.refl _ _) (.inl (by simp)) _))
    · simp only [List.size_toArray, List.length_append, List.length_take, List.length_drop, Array.length_toList, hzc]; omega
    · simp only [Nat.add_zero, List.append_assoc]
      rw [List.take_append_of_le_length (by simp; omega), List.take_take]; simp
end
section
open Go Go.RowKit

def Msg.k (m : Msg) : List UInt8 := m.t.data.toList
def put (m : Msg) : List Msg → List Msg
  | [] => [m]
  | y :: r => if m.k < y.k then m :: y :: r else if y.k = m.k then m :: r else y :: put m r
def get (t : List UInt8) (l : List Msg) : Option Msg := l.find? fun m => m.k == t
def del (t : List UInt8) (l : List Msg) : List Msg := l.filter fun m => m.k != t
def Up (l : List Msg) : Prop := l.Pairwise fun a b => a.k < b.k

theorem lt_ne {a b : List UInt8} (h : a < b) : a ≠ b := fun e => List.lt_irrefl b (e ▸ h)
theorem lt_tri {a b : List UInt8} (h : ¬ a < b) (h' : b ≠ a) : b < a := by
  by_cases h2 : b < a
  · exact h2
  · exact absurd (List.le_antisymm (as := b) (bs := a) h h2) h'
theorem mem_put {m x : Msg} {l : List Msg} (h : x ∈ put m l) : x = m ∨ x ∈ l := by
  induction l with
  | nil => simp [put] at h; exact .inl h
  | cons y r ih =>
    unfold put at h
    split at h
    · simp at h; rcases h with h | h | h <;> simp [h]
    · split at h
      · simp at h; rcases h with h | h <;> simp [h]
      · simp at h
        rcases h with h | h
        · simp [h]
        · rcases ih h with h | h <;> simp [h]
theorem Up.put {m : Msg} {l : List Msg} (h : Up l) : Up (put m l) := by
  induction l with
  | nil => exact List.pairwise_singleton _ _
  | cons y r ih =>
    obtain ⟨h1, h2⟩ := List.pairwise_cons.1 h
    unfold Go.Proofs.YthfdcphecggjeaaGreatDoor.put
    split
    · rename_i hlt
      refine List.pairwise_cons.2 ⟨fun z hz => ?_, h⟩
      rcases List.mem_cons.1 hz with rfl | hz
      · exact hlt
      · exact List.lt_trans hlt (h1 z hz)
    · split
      · rename_i hlt he
        exact List.pairwise_cons.2 ⟨fun z hz => he ▸ h1 z hz, h2⟩
      · rename_i hlt he
        refine List.pairwise_cons.2 ⟨fun z hz => ?_, ih h2⟩
        rcases mem_put hz with rfl | hz
        · exact lt_tri hlt he
        · exact h1 z hz
theorem Up.del {t : List UInt8} {l : List Msg} (h : Up l) : Up (del t l) := h.filter _
theorem get_none_of {t : List UInt8} {l : List Msg} (h : ∀ m ∈ l, t < m.k) : get t l = none := by
  unfold get
  rw [List.find?_eq_none]
  intro x hx
  simp only [beq_iff_eq]
  exact fun e => lt_ne (h x hx) e.symm
theorem get_cons (t : List UInt8) (y : Msg) (r : List Msg) : get t (y :: r) = if y.k = t then some y else get t r := by
  unfold get
  by_cases h : y.k = t <;> simp [h]
theorem get_put {m : Msg} {l : List Msg} (h : Up l) (t : List UInt8) : get t (put m l) = if t = m.k then some m else get t l := by
  induction l with
  | nil => rw [put, get_cons]; by_cases h : t = m.k <;> simp [h, eq_comm]
  | cons y r ih =>
    obtain ⟨h1, h2⟩ := List.pairwise_cons.1 h
    unfold put
    split
    · rw [get_cons]; by_cases h : t = m.k <;> simp [h, eq_comm]
    · split
      · rename_i hlt he
        rw [get_cons, get_cons]
        by_cases h : t = m.k
        · simp [h]
        · have : ¬ m.k = t := fun e => h e.symm
          simp [this, he, h]
      · rename_i hlt he
        rw [get_cons, get_cons, ih h2]
        by_cases h : t = m.k
        · subst h; simp [he]
        · simp [h]
theorem get_del (t u : List UInt8) (l : List Msg) : get t (del u l) = if t = u then none else get t l := by
  induction l with
  | nil => simp [del, get]
  | cons y r ih =>
    rw [get_cons]
    unfold del at *
    by_cases h : y.k = u
    · have : (y.k != u) = false := by simp [h]
      rw [List.filter_cons_of_neg (by simp [h]), ih]
      by_cases h' : t = u
      · simp [h']
      · have : ¬ y.k = t := fun e => h' (e.symm.trans h)
        simp [h', this]
    · rw [List.filter_cons_of_pos (by simp [h]), get_cons, ih]
      by_cases h' : t = u
      · subst h'; simp [h]
      · simp [h']
theorem len_put {m : Msg} {l : List Msg} (h : Up l) : (put m l).length = if (get m.k l).isSome then l.length else l.length + 1 := by
  induction l with
  | nil => rfl
  | cons y r ih =>
    obtain ⟨h1, h2⟩ := List.pairwise_cons.1 h
    unfold put
    rw [get_cons]
    split
    · rename_i hlt
      have e : get m.k r = none := get_none_of fun x hx => List.lt_trans hlt (h1 x hx)
      have : ¬ y.k = m.k := fun e => lt_ne hlt e.symm
      simp [this, e]
    · split
      · rename_i he; simp
      · rename_i he
        simp only [List.length_cons, ih h2]
        split <;> simp
theorem len_put_le (m : Msg) (l : List Msg) : (put m l).length ≤ l.length + 1 := by
  induction l with
  | nil => simp [put]
  | cons y r ih =>
    unfold put
    split
    · simp
    · split
      · simp
      · simp; omega
theorem len_del {t : List UInt8} {l : List Msg} (h : Up l) : (del t l).length + (if (get t l).isSome then 1 else 0) = l.length := by
  induction l with
  | nil => rfl
  | cons y r ih =>
    obtain ⟨h1, h2⟩ := List.pairwise_cons.1 h
    have ih := ih h2
    rw [get_cons]
    unfold del at *
    by_cases he : y.k = t
    · have e : get t r = none := get_none_of fun x hx => he ▸ h1 x hx
      rw [List.filter_cons_of_neg (by simp [he])]
      rw [e] at ih
      simp [he] at ih ⊢
      exact ih
    · rw [List.filter_cons_of_pos (by simp [he])]
      simp only [List.length_cons, if_neg he]
      omega
theorem len_del_le (t : List UInt8) (l : List Msg) : (del t l).length ≤ l.length := List.length_filter_le _ _
theorem get_some {t : List UInt8} {l : List Msg} {m : Msg} (h : get t l = some m) : m.k = t ∧ m ∈ l := by
  unfold get at h
  exact ⟨by have := List.find?_some h; simpa using this, List.mem_of_find?_eq_some h⟩
theorem get_of_mem {l : List Msg} {m : Msg} (h : Up l) (hm : m ∈ l) : get m.k l = some m := by
  induction l with
  | nil => simp at hm
  | cons y r ih =>
    obtain ⟨h1, h2⟩ := List.pairwise_cons.1 h
    rw [get_cons]
    rcases List.mem_cons.1 hm with rfl | hm
    · simp
    · have : ¬ y.k = m.k := lt_ne (h1 m hm)
      rw [if_neg this]; exact ih h2 hm
theorem mem_get {l : List Msg} (t : List UInt8) : (get t l).isSome = true ↔ t ∈ l.map Msg.k := by
  unfold get
  simp only [List.find?_isSome, beq_iff_eq, List.mem_map]
theorem Up.keys {l : List Msg} (h : Up l) : (l.map Msg.k).Pairwise (· < ·) := List.pairwise_map.2 h
/-- the library's sort of the keys -/
theorem sort_keys {l : List (List UInt8)} {m : List (List UInt8)} (hm : m.Pairwise (· < ·)) (h : l.Perm m) : (l.mergeSort fun x y => decide (x ≤ y)) = m := by
  have hp : ((l.mergeSort fun x y => decide (x ≤ y))).Pairwise (fun a b => decide (a ≤ b) = true) :=
    List.pairwise_mergeSort (fun a b c h1 h2 => by simp only [decide_eq_true_eq] at *; exact List.le_trans h1 h2) (fun a b => by have := List.le_total a b; simpa using this) l
  refine List.Perm.eq_of_pairwise (le := fun a b => decide (a ≤ b) = true) (fun a b _ _ h1 h2 => by simp only [decide_eq_true_eq] at *; exact List.le_antisymm h1 h2) hp
    (hm.imp (fun h => by simp only [decide_eq_true_eq]; exact List.le_of_lt h)) ((List.mergeSort_perm l _).trans h)
theorem nodup_keys {m : List (List UInt8)} (hm : m.Pairwise (· < ·)) : m.Nodup := hm.imp lt_ne
end
end Go.Proofs.YthfdcphecggjeaaGreatDoor
