/- AX 3: operations that yield a value and leave the world alone. -/
import Derived.Test.YtobablbklkpchaaAxRules
import Derived.IntWalk
import Derived.Lib.Strings
set_option linter.unusedVariables false
set_option linter.unusedSimpArgs false
namespace Go.AX
variable {P : Program} {N : Nat} {j : J P N} {Q : Exit → Sl → List Ch → Prop} {s : Sl} {H : List Ch} {ops : Array Oper} {rest : List Oper}

/-- A type's shape: its description, its cells, its bytes, its zero value. -/
class Ty (P : Program) (T : TypeId) (D : outParam TypeDesc) (sz bytes : outParam Nat) (z : outParam Value) : Prop where
  u : P.underlying T = some D
  i : ∃ i, P.info? T = some i ∧ i.size = sz ∧ i.bytes = bytes ∧ i.zero = some z
/-- Whether a type is a struct or an array. -/
def aggOf : TypeDesc → Bool
  | .struct _ | .array _ _ => true
  | _ => false
theorem Ty.isAgg {T : TypeId} {D : TypeDesc} {sz by_ : Nat} {z : Value} (t : Ty P T D sz by_ z) (w : World) : (Go.isAgg T).run P w = .ok (aggOf D) w := by
  cases D <;> simp [Go.isAgg, run_underlying t.u, aggOf]
theorem Ty.sizeOf {T : TypeId} {D : TypeDesc} {sz by_ : Nat} {z : Value} (t : Ty P T D sz by_ z) (w : World) : (Go.sizeOf T).run P w = .ok sz w := by
  obtain ⟨i, h1, h2, _⟩ := t.i
  simp [Go.sizeOf, typeInfo, h1, h2]
theorem Ty.zeroValue {T : TypeId} {D : TypeDesc} {sz by_ : Nat} {z : Value} (t : Ty P T D sz by_ z) (w : World) : (Go.zeroValue T).run P w = .ok z w := by
  obtain ⟨i, h1, _, _, h2⟩ := t.i
  simp [Go.zeroValue, typeInfo, h1, h2]

/-- In every state that meets the abstract one the operation yields a value, the same in whatever world, that the abstract one stands for. -/
def PureV (j : J P N) (s : Sl) (H : List Ch) (o : Oper) (v : V) : Prop :=
  ∀ a w, St j s H a w → ∃ x, (∀ w', (execOp a.eval o).run P w' = .ok (.value x) w') ∧ conc w (own (H ++ j.F)) v x
theorem op_pure {o : Oper} {v : V} {d : Nat} (hv : PureV j s H o v) (hd : o.dst = some d) (hN : Nat.blt d N = true) {K : Sl → List Ch → Prop} (hk : K ((d, v) :: s) H) : OP j o K Q s H := fun a w st K' hK => by
  obtain ⟨x, hx, hc⟩ := hv a w st
  simp only [Oper.wp, hx w, Oper.upon]
  refine hK _ _ ⟨_, H, ?_, hk⟩
  have := st.put (d := o.dst) hc (fun i hi => by rw [hd] at hi; cases hi; exact Nat.le_of_ble_eq_true hN)
  rwa [hd] at this ⊢
theorem rl_pure {o : Oper} {v : V} {d : Nat} (hv : PureV j s H o v) (hg : o.guard = none) (hd : o.dst = some d) (hN : Nat.blt d N = true) (h : RL j ops rest Q ((d, v) :: s) H) : RL j ops (o :: rest) Q s H :=
  rl_op hg (op_pure hv hd hN h)

section
variable {dst : Option Tmp} {ty : TypeId} {pos : String} {after : Array Edge} {g : Option (Nat × Bool)}
theorem pv_move {x : Operand} {v : V} (h : s.ev x = some v) : PureV j s H ⟨dst, .move x, ty, pos, after, g⟩ v := fun a w st => ⟨a.eval x, fun w' => rfl, st.sl.ev h⟩
theorem pv_assign {x : Operand} {v : V} (h : s.ev x = some v) : PureV j s H ⟨dst, .assign x, ty, pos, after, g⟩ v := fun a w st => ⟨a.eval x, fun w' => rfl, st.sl.ev h⟩
theorem pv_pick_t {c x y : Operand} {b : Bool} {v : V} (hc : s.ev c = some (.raw (.bool b))) (hb : b = true) (h : s.ev x = some v) : PureV j s H ⟨dst, .pick c x y, ty, pos, after, g⟩ v := fun a w st => by
  have h1 := st.sl.ev hc
  simp only [conc] at h1
  exact ⟨a.eval x, fun w' => by simp [execOp, h1, asBool, hb], st.sl.ev h⟩
theorem pv_pick_f {c x y : Operand} {b : Bool} {v : V} (hc : s.ev c = some (.raw (.bool b))) (hb : b = false) (h : s.ev y = some v) : PureV j s H ⟨dst, .pick c x y, ty, pos, after, g⟩ v := fun a w st => by
  have h1 := st.sl.ev hc
  simp only [conc] at h1
  exact ⟨a.eval y, fun w' => by simp [execOp, h1, asBool, hb], st.sl.ev h⟩
/-- The address of a field. -/
class FieldAt (P : Program) (T i : Nat) (off : outParam Nat) : Prop where
  h : ∀ a w, (Instr.fieldAt T (.pointer (some a)) i).run P w = .ok (.pointer (some (a.add off))) w
theorem FieldAt.of {T i : Nat} {fs : Array Field} {f : Field} {D : TypeDesc} {sz by_ : Nat} {z : Value} (hu : P.underlying T = some (.struct fs)) (hf : fs[i]? = some f) (t : Ty P f.type D sz by_ z) (hz : sz ≠ 0) : FieldAt P T i f.offset :=
  ⟨fun a w => by simp [Instr.fieldAt, run_underlying hu, hf, Instr.sureAddr, fieldPlace, t.sizeOf, hz]⟩
theorem pv_fieldAddr {T i off b o : Nat} {x : Operand} [hf : FieldAt P T i off] (h : s.ev x = some (.raw (.pointer (some ⟨b, o, none⟩)))) : PureV j s H ⟨dst, .fieldAddr T x i, ty, pos, after, g⟩ (.raw (.pointer (some ⟨b, o + off, none⟩))) := fun a w st => by
  have h1 := st.sl.ev h
  simp only [conc] at h1
  exact ⟨_, fun w' => by simp [execOp, h1, hf.h, Addr.add_lit], rfl⟩
theorem pv_fieldAddr_ro {T i off o : Nat} {cs : List V} {x : Operand} [hf : FieldAt P T i off] (h : s.ev x = some (.rop cs o)) : PureV j s H ⟨dst, .fieldAddr T x i, ty, pos, after, g⟩ (.rop cs (o + off)) := fun a w st => by
  have h1 := st.sl.ev h
  simp only [conc] at h1
  obtain ⟨b, q, h1, h2, h3, h4⟩ := h1
  refine ⟨.pointer (some ⟨b, q + o + off, none⟩), fun w' => by simp [execOp, h1, hf.h, Addr.add_lit], ?_⟩
  simp only [conc]
  exact ⟨b, q, by rw [Nat.add_assoc], h2, h3, h4⟩
theorem pv_fieldAddr_vp {T i off sz k o : Nat} {sv : Value} {x : Operand} [hf : FieldAt P T i off] (h : s.ev x = some (.vp sv sz k o)) : PureV j s H ⟨dst, .fieldAddr T x i, ty, pos, after, g⟩ (.vp sv sz k (o + off)) := fun a w st => by
  have h1 := st.sl.ev h
  simp only [conc] at h1
  obtain ⟨b, n, c, h0, h1⟩ := h1
  refine ⟨.pointer (some ⟨b, k * sz + o + off, none⟩), fun w' => by simp [execOp, h1, hf.h, Addr.add_lit], ?_⟩
  simp only [conc]
  exact ⟨b, n, c, h0, by rw [Nat.add_assoc]⟩
/-- An operation of two plain values. -/
theorem pv_bin {op : BinOp} {T T' : TypeId} {x y : Operand} {p q r : Value} (hx : s.ev x = some (.raw p)) (hy : s.ev y = some (.raw q))
    (hg : ∀ w, (eqGuard op T x y p q).run P w = .ok () w) (h : ∀ w, (binOp op T p q).run P w = .ok r w) : PureV j s H ⟨dst, .binOp op T x y T', ty, pos, after, g⟩ (.raw r) := fun a w st => by
  have h1 := st.sl.ev hx
  have h2 := st.sl.ev hy
  simp only [conc] at h1 h2
  exact ⟨r, fun w' => by simp [execOp, h1, h2, hg, h], rfl⟩
section
variable {T T' : TypeId} {x y : Operand} {k : IntKind} {m n : Int}
theorem pv_add_in (hx : s.ev x = some (.raw (.int .i64 m))) (hy : s.ev y = some (.raw (.int .i64 n))) (h : -9223372036854775808 ≤ m + n ∧ m + n ≤ 9223372036854775807) : PureV j s H ⟨dst, .binOp .add T x y T', ty, pos, after, g⟩ (.raw (.int .i64 (m + n))) :=
  pv_bin hx hy (fun w => by simp [go_sem]) fun w => by simp [binOp, Op.intArith, IntWalk.i64_in (m + n) (by omega)]
theorem pv_sub_in (hx : s.ev x = some (.raw (.int .i64 m))) (hy : s.ev y = some (.raw (.int .i64 n))) (h : -9223372036854775808 ≤ m - n ∧ m - n ≤ 9223372036854775807) : PureV j s H ⟨dst, .binOp .sub T x y T', ty, pos, after, g⟩ (.raw (.int .i64 (m - n))) :=
  pv_bin hx hy (fun w => by simp [go_sem]) fun w => by simp [binOp, Op.intArith, IntWalk.i64_in (m - n) (by omega)]
theorem pv_mul_in (hx : s.ev x = some (.raw (.int .i64 m))) (hy : s.ev y = some (.raw (.int .i64 n))) (h : -9223372036854775808 ≤ m * n ∧ m * n ≤ 9223372036854775807) : PureV j s H ⟨dst, .binOp .mul T x y T', ty, pos, after, g⟩ (.raw (.int .i64 (m * n))) :=
  pv_bin hx hy (fun w => by simp [go_sem]) fun w => by simp [binOp, Op.intArith, IntWalk.i64_in (m * n) (by omega)]
theorem pv_add (hx : s.ev x = some (.raw (.int k m))) (hy : s.ev y = some (.raw (.int k n))) : PureV j s H ⟨dst, .binOp .add T x y T', ty, pos, after, g⟩ (.raw (.int k (k.wrap (m + n)))) :=
  pv_bin hx hy (fun w => by simp [go_sem]) fun w => by simp [binOp, Op.intArith]
theorem pv_sub (hx : s.ev x = some (.raw (.int k m))) (hy : s.ev y = some (.raw (.int k n))) : PureV j s H ⟨dst, .binOp .sub T x y T', ty, pos, after, g⟩ (.raw (.int k (k.wrap (m - n)))) :=
  pv_bin hx hy (fun w => by simp [go_sem]) fun w => by simp [binOp, Op.intArith]
theorem pv_mul (hx : s.ev x = some (.raw (.int k m))) (hy : s.ev y = some (.raw (.int k n))) : PureV j s H ⟨dst, .binOp .mul T x y T', ty, pos, after, g⟩ (.raw (.int k (k.wrap (m * n)))) :=
  pv_bin hx hy (fun w => by simp [go_sem]) fun w => by simp [binOp, Op.intArith]
theorem pv_quo (hx : s.ev x = some (.raw (.int k m))) (hy : s.ev y = some (.raw (.int k n))) (h : n ≠ 0) : PureV j s H ⟨dst, .binOp .quo T x y T', ty, pos, after, g⟩ (.raw (.int k (k.wrap (m.tdiv n)))) :=
  pv_bin hx hy (fun w => by simp [go_sem]) fun w => by simp [binOp, Op.intDiv, h]
theorem pv_quo_in (hx : s.ev x = some (.raw (.int .i64 m))) (hy : s.ev y = some (.raw (.int .i64 n))) (h : 0 ≤ m ∧ m ≤ 9223372036854775807 ∧ 0 < n) : PureV j s H ⟨dst, .binOp .quo T x y T', ty, pos, after, g⟩ (.raw (.int .i64 (m / n))) :=
  pv_bin hx hy (fun w => by simp [go_sem]) fun w => by
    have h1 : m.tdiv n = m / n := Int.tdiv_eq_ediv_of_nonneg h.1
    have h2 : m / n ≤ m := Int.ediv_le_self n h.1
    have h3 : 0 ≤ m / n := Int.ediv_nonneg h.1 (by omega)
    simp [binOp, Op.intDiv, show n ≠ 0 by omega, h1, IntWalk.i64_in (m / n) (by omega)]
theorem pv_rem (hx : s.ev x = some (.raw (.int k m))) (hy : s.ev y = some (.raw (.int k n))) (h : n ≠ 0) : PureV j s H ⟨dst, .binOp .rem T x y T', ty, pos, after, g⟩ (.raw (.int k (m.tmod n))) :=
  pv_bin hx hy (fun w => by simp [go_sem]) fun w => by simp [binOp, Op.intDiv, h]
theorem pv_rem_in (hx : s.ev x = some (.raw (.int k m))) (hy : s.ev y = some (.raw (.int k n))) (h : 0 ≤ m ∧ 0 < n) : PureV j s H ⟨dst, .binOp .rem T x y T', ty, pos, after, g⟩ (.raw (.int k (m % n))) :=
  pv_bin hx hy (fun w => by simp [go_sem]) fun w => by simp [binOp, Op.intDiv, show n ≠ 0 by omega, Int.tmod_eq_emod_of_nonneg h.1]
theorem pv_eql (hx : s.ev x = some (.raw (.int k m))) (hy : s.ev y = some (.raw (.int k n))) : PureV j s H ⟨dst, .binOp .eql T x y T', ty, pos, after, g⟩ (.raw (.bool (decide (m = n)))) :=
  pv_bin hx hy (fun w => by simp [go_sem]) fun w => by simp [binOp, Op.intCmp]; rfl
theorem pv_neq (hx : s.ev x = some (.raw (.int k m))) (hy : s.ev y = some (.raw (.int k n))) : PureV j s H ⟨dst, .binOp .neq T x y T', ty, pos, after, g⟩ (.raw (.bool (decide (m ≠ n)))) :=
  pv_bin hx hy (fun w => by simp [go_sem]) fun w => by
    simp only [binOp, Op.intCmp]
    by_cases e : m = n <;> simp [e]
theorem pv_lss (hx : s.ev x = some (.raw (.int k m))) (hy : s.ev y = some (.raw (.int k n))) : PureV j s H ⟨dst, .binOp .lss T x y T', ty, pos, after, g⟩ (.raw (.bool (decide (m < n)))) :=
  pv_bin hx hy (fun w => by simp [go_sem]) fun w => by simp [binOp, Op.intCmp]
theorem pv_leq (hx : s.ev x = some (.raw (.int k m))) (hy : s.ev y = some (.raw (.int k n))) : PureV j s H ⟨dst, .binOp .leq T x y T', ty, pos, after, g⟩ (.raw (.bool (decide (m ≤ n)))) :=
  pv_bin hx hy (fun w => by simp [go_sem]) fun w => by simp [binOp, Op.intCmp]
theorem pv_gtr (hx : s.ev x = some (.raw (.int k m))) (hy : s.ev y = some (.raw (.int k n))) : PureV j s H ⟨dst, .binOp .gtr T x y T', ty, pos, after, g⟩ (.raw (.bool (decide (n < m)))) :=
  pv_bin hx hy (fun w => by simp [go_sem]) fun w => by simp [binOp, Op.intCmp]
theorem pv_geq (hx : s.ev x = some (.raw (.int k m))) (hy : s.ev y = some (.raw (.int k n))) : PureV j s H ⟨dst, .binOp .geq T x y T', ty, pos, after, g⟩ (.raw (.bool (decide (n ≤ m)))) :=
  pv_bin hx hy (fun w => by simp [go_sem]) fun w => by simp [binOp, Op.intCmp]
/-- Bits: and, or, xor, shifts, as the model tells them. -/
theorem pv_bits {op : BinOp} {r : Int} (hx : s.ev x = some (.raw (.int k m))) (hy : s.ev y = some (.raw (.int k n))) (h : ∀ w, (Op.intBits op k m n).run P w = .ok (.int k r) w) (ho : (op matches .and | .or | .xor | .andNot) = true) : PureV j s H ⟨dst, .binOp op T x y T', ty, pos, after, g⟩ (.raw (.int k r)) :=
  pv_bin hx hy (fun w => by cases op <;> simp_all [go_sem]) fun w => by cases op <;> simp_all [binOp]
theorem pv_shift {op : BinOp} {k' : IntKind} {r : Value} (hx : s.ev x = some (.raw (.int k m))) (hy : s.ev y = some (.raw (.int k' n))) (h : ∀ w, (Op.shift op k m k' n).run P w = .ok r w) (ho : (op matches .shl | .shr) = true) : PureV j s H ⟨dst, .binOp op T x y T', ty, pos, after, g⟩ (.raw r) :=
  pv_bin hx hy (fun w => by cases op <;> simp_all [go_sem]) fun w => by cases op <;> simp_all [binOp]
end
section
variable {T T' : TypeId} {x y : Operand} {p q : ByteArray}
theorem pv_str_eql (hx : s.ev x = some (.raw (.string p))) (hy : s.ev y = some (.raw (.string q))) : PureV j s H ⟨dst, .binOp .eql T x y T', ty, pos, after, g⟩ (.raw (.bool (decide (p = q)))) :=
  pv_bin hx hy (fun w => by simp [go_sem]) fun w => by
    simp only [binOp, Op.stringOp]
    by_cases e : p = q
    · simp [e]
    · have : ¬ p.toList = q.toList := fun h => e (by
        have h1 : p.data.toList = q.data.toList := by rw [← Lib.toList_data, ← Lib.toList_data]; exact h
        cases p; cases q; congr; exact Array.toList_inj.1 h1)
      simp [e, this]
end
end
end Go.AX
