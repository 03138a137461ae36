/- AX 4: more operations that yield a value: strings, slices that are read, structs. -/
import Derived.Test.YtobablbklkpchaaAxVals
import Derived.WalkLawsBesides
set_option linter.unusedVariables false
set_option linter.unusedSimpArgs false
namespace Go.AX
variable {P : Program} {N : Nat} {j : J P N} {Q : Exit → Sl → List Ch → Prop} {s : Sl} {H : List Ch} {ops : Array Oper} {rest : List Oper}
variable {dst : Option Tmp} {ty : TypeId} {pos : String} {after : Array Edge} {g : Option (Nat × Bool)}
/-- The byte of a string at a place. -/
def bt (p : ByteArray) (i : Int) : Int := ((p.data.toList.getD i.toNat 0).toNat : Int)
theorem bt_eq (p : ByteArray) (i : Int) (h : i.toNat < p.size) : ((p[i.toNat]'h).toNat : Int) = bt p i := by
  have h2 : i.toNat < p.data.size := h
  have : p[i.toNat]'h = p.data.toList.getD i.toNat 0 := by
    simp only [List.getD_eq_getElem?_getD, Array.getElem?_toList]
    rw [Array.getElem?_eq_getElem h2]
    rfl
  rw [this, bt]
theorem bt_range (p : ByteArray) (i : Int) : 0 ≤ bt p i ∧ bt p i ≤ 255 := by
  have := (p.data.toList.getD i.toNat 0).toNat_lt
  simp only [bt]
  omega
section
variable {T T' : TypeId} {x y : Operand} {p q : ByteArray}
theorem ba_toList_inj {p q : ByteArray} (h : p.toList = q.toList) : p = q := by
  have h1 : p.data.toList = q.data.toList := by rw [← Lib.toList_data, ← Lib.toList_data]; exact h
  cases p; cases q; congr; exact Array.toList_inj.1 h1
theorem ba_beq (p q : ByteArray) : (p.toList == q.toList) = decide (p = q) := by
  by_cases e : p = q
  · simp [e]
  · have : ¬ p.toList = q.toList := fun h => e (ba_toList_inj h)
    simp [e, this]
theorem pv_str_neq (hx : s.ev x = some (.raw (.string p))) (hy : s.ev y = some (.raw (.string q))) : PureV j s H ⟨dst, .binOp .neq T x y T', ty, pos, after, g⟩ (.raw (.bool (decide (p ≠ q)))) :=
  pv_bin hx hy (fun w => by simp [go_sem]) fun w => by simp [binOp, Op.stringOp, ba_beq]
theorem pv_str_lss (hx : s.ev x = some (.raw (.string p))) (hy : s.ev y = some (.raw (.string q))) : PureV j s H ⟨dst, .binOp .lss T x y T', ty, pos, after, g⟩ (.raw (.bool (Op.bytesLess p.toList q.toList))) :=
  pv_bin hx hy (fun w => by simp [go_sem]) fun w => by simp [binOp, Op.stringOp]
theorem pv_str_leq (hx : s.ev x = some (.raw (.string p))) (hy : s.ev y = some (.raw (.string q))) : PureV j s H ⟨dst, .binOp .leq T x y T', ty, pos, after, g⟩ (.raw (.bool (Op.bytesLess p.toList q.toList || p.toList == q.toList))) :=
  pv_bin hx hy (fun w => by simp [go_sem]) fun w => by simp [binOp, Op.stringOp]
theorem pv_str_gtr (hx : s.ev x = some (.raw (.string p))) (hy : s.ev y = some (.raw (.string q))) : PureV j s H ⟨dst, .binOp .gtr T x y T', ty, pos, after, g⟩ (.raw (.bool (!(Op.bytesLess p.toList q.toList || p.toList == q.toList)))) :=
  pv_bin hx hy (fun w => by simp [go_sem]) fun w => by simp [binOp, Op.stringOp]
theorem pv_str_add (hx : s.ev x = some (.raw (.string p))) (hy : s.ev y = some (.raw (.string q))) (h : ((p.size + q.size : Nat) : Int) ≤ 9223372036854775807) : PureV j s H ⟨dst, .binOp .add T x y T', ty, pos, after, g⟩ (.raw (.string (p ++ q))) :=
  pv_bin hx hy (fun w => by simp [go_sem]) fun w => by
    have h2 : ¬ (((p.size + q.size : Nat) : Int) > IntKind.i64.max) := by rw [IntKind.max_i64]; omega
    simp only [binOp, Op.stringOp, if_neg h2]
    rfl
theorem pv_bool_eql {sz bs : Nat} {z : Value} {m n : Bool} [t : Ty P T .bool sz bs z] (hx : s.ev x = some (.raw (.bool m))) (hy : s.ev y = some (.raw (.bool n))) : PureV j s H ⟨dst, .binOp .eql T x y T', ty, pos, after, g⟩ (.raw (.bool (m == n))) :=
  pv_bin hx hy (fun w => by simp [go_sem]) fun w => run_eql_bool w T m n t.u
theorem pv_bool_neq {sz bs : Nat} {z : Value} {m n : Bool} [t : Ty P T .bool sz bs z] (hx : s.ev x = some (.raw (.bool m))) (hy : s.ev y = some (.raw (.bool n))) : PureV j s H ⟨dst, .binOp .neq T x y T', ty, pos, after, g⟩ (.raw (.bool (m != n))) :=
  pv_bin hx hy (fun w => by simp [go_sem]) fun w => run_neq_bool w T m n t.u
theorem pv_not {b : Bool} (hx : s.ev x = some (.raw (.bool b))) : PureV j s H ⟨dst, .unOp .not T x, ty, pos, after, g⟩ (.raw (.bool (!b))) := fun a w st => by
  have h1 := st.sl.ev hx
  simp only [conc] at h1
  exact ⟨_, fun w' => by simp [execOp, h1, Op.unary], rfl⟩
theorem pv_neg_in {n : Int} (hx : s.ev x = some (.raw (.int .i64 n))) (h : -9223372036854775807 ≤ n ∧ n ≤ 9223372036854775807) : PureV j s H ⟨dst, .unOp .neg T x, ty, pos, after, g⟩ (.raw (.int .i64 (-n))) := fun a w st => by
  have h1 := st.sl.ev hx
  simp only [conc] at h1
  exact ⟨.int .i64 (-n), fun w' => by simp [execOp, h1, Op.unary, Op.intArith, IntWalk.i64_in (-n) (by omega)], rfl⟩
theorem pv_neg {k : IntKind} {n : Int} (hx : s.ev x = some (.raw (.int k n))) : PureV j s H ⟨dst, .unOp .neg T x, ty, pos, after, g⟩ (.raw (.int k (k.wrap (-n)))) := fun a w st => by
  have h1 := st.sl.ev hx
  simp only [conc] at h1
  exact ⟨.int k (k.wrap (-n)), fun w' => by simp [execOp, h1, Op.unary, Op.intArith], rfl⟩
theorem pv_convert_int {k k' : IntKind} {n : Int} {D : TypeDesc} {sz bs sz' bs' : Nat} {z z' : Value} [ts : Ty P T D sz bs z] [t : Ty P T' (.int k') sz' bs' z'] (hx : s.ev x = some (.raw (.int k n))) : PureV j s H ⟨dst, .convert T T' x, ty, pos, after, g⟩ (.raw (.int k' (k'.wrap n))) := fun a w st => by
  have h1 := st.sl.ev hx
  simp only [conc] at h1
  exact ⟨.int k' (k'.wrap n), fun w' => by simp [execOp, h1, convert, run_underlying ts.u, run_underlying t.u, Conv.intToInt], rfl⟩
theorem pv_convert_in {k k' : IntKind} {n : Int} {D : TypeDesc} {sz bs sz' bs' : Nat} {z z' : Value} [ts : Ty P T D sz bs z] [t : Ty P T' (.int k') sz' bs' z'] (hx : s.ev x = some (.raw (.int k n))) (hw : k'.wrap n = n) : PureV j s H ⟨dst, .convert T T' x, ty, pos, after, g⟩ (.raw (.int k' n)) := fun a w st => by
  have h1 := st.sl.ev hx
  simp only [conc] at h1
  exact ⟨.int k' n, fun w' => by simp [execOp, h1, convert, run_underlying ts.u, run_underlying t.u, Conv.intToInt, hw], rfl⟩
theorem pv_convert_str {sz bs sz' bs' : Nat} {z z' : Value} [ts : Ty P T .string sz bs z] [t : Ty P T' .string sz' bs' z'] (hx : s.ev x = some (.raw (.string p))) : PureV j s H ⟨dst, .convert T T' x, ty, pos, after, g⟩ (.raw (.string p)) := fun a w st => by
  have h1 := st.sl.ev hx
  simp only [conc] at h1
  exact ⟨.string p, fun w' => by simp [execOp, h1, convert, run_underlying ts.u, run_underlying t.u], rfl⟩
theorem pv_index_str {k : IntKind} {i : Int} {sz bs : Nat} {z : Value} [t : Ty P T .string sz bs z] (hx : s.ev x = some (.raw (.string p))) (hy : s.ev y = some (.raw (.int k i))) (h : 0 ≤ i ∧ i < (p.size : Int)) : PureV j s H ⟨dst, .index T x y, ty, pos, after, g⟩ (.raw (.int .u8 (bt p i))) := fun a w st => by
  have h1 := st.sl.ev hx
  have h2 := st.sl.ev hy
  simp only [conc] at h1 h2
  refine ⟨.int .u8 (bt p i), fun w' => ?_, rfl⟩
  simp [execOp, h1, h2, run_index_string w' T p k i t.u, dif_pos h, bt_eq]
theorem pv_len_str {sz bs : Nat} {z : Value} [t : Ty P T .string sz bs z] (hx : s.ev x = some (.raw (.string p))) : PureV j s H ⟨dst, .call { callee := .builtin .len, args := #[x], argTypes := #[T] }, ty, pos, after, g⟩ (.raw (.int .i64 p.size)) := fun a w st => by
  have h1 := st.sl.ev hx
  simp only [conc] at h1
  exact ⟨.int .i64 p.size, fun w' => by simp [execOp, h1, resolve, invoke, builtin, Builtin.len_, run_underlying t.u, goInt], rfl⟩
theorem pv_len_ro {e sz bs : Nat} {z : Value} {rows : List (List V)} [t : Ty P T (.slice e) sz bs z] (hx : s.ev x = some (.ro rows)) : PureV j s H ⟨dst, .call { callee := .builtin .len, args := #[x], argTypes := #[T] }, ty, pos, after, g⟩ (.raw (.int .i64 rows.length)) := fun a w st => by
  have h1 := st.sl.ev hx
  simp only [conc] at h1
  obtain ⟨A, c, h1, _⟩ := h1
  exact ⟨.int .i64 rows.length, fun w' => by simp [execOp, h1, resolve, invoke, builtin, Builtin.len_, run_underlying t.u, goInt], rfl⟩
theorem pv_len_nil {e sz bs n c : Nat} {A : Option Addr} {z : Value} [t : Ty P T (.slice e) sz bs z] (hx : s.ev x = some (.raw (.slice A n c))) : PureV j s H ⟨dst, .call { callee := .builtin .len, args := #[x], argTypes := #[T] }, ty, pos, after, g⟩ (.raw (.int .i64 n)) := fun a w st => by
  have h1 := st.sl.ev hx
  simp only [conc] at h1
  exact ⟨.int .i64 n, fun w' => by simp [execOp, h1, resolve, invoke, builtin, Builtin.len_, run_underlying t.u, goInt], rfl⟩
/-- The form of a slice that a chunk owns. -/
theorem own_form {w : World} {base E size n : Nat} {v : Value} {l : List Value} (h : w.ownsRow base E size v n l) : ∃ A c, v = .slice A n c ∧ n ≤ c ∧ c ≤ maxLen := by
  rcases h.2 with ⟨rfl, rfl⟩ | ⟨g, cap, cur, rfl, _, _, h1, h2, _⟩
  · exact ⟨none, 0, rfl, Nat.le_refl _, Nat.zero_le _⟩
  · exact ⟨_, cap, rfl, h1, h2⟩
theorem pv_len_own {e sz bs E k : Nat} {z sv : Value} {rows : List (List V)} [t : Ty P T (.slice e) sz bs z] (hx : s.ev x = some (.own sv)) (hm : Ch.vec sv E k rows ∈ H ++ j.F) : PureV j s H ⟨dst, .call { callee := .builtin .len, args := #[x], argTypes := #[T] }, ty, pos, after, g⟩ (.raw (.int .i64 rows.length)) := fun a w st => by
  have h1 := st.sl.ev hx
  simp only [conc] at h1
  obtain ⟨l, ho, _⟩ := st.hp.sat _ hm
  obtain ⟨A, c, h2, _⟩ := own_form ho
  exact ⟨.int .i64 rows.length, fun w' => by simp [execOp, h1.1, h2, resolve, invoke, builtin, Builtin.len_, run_underlying t.u, goInt], rfl⟩
end
theorem concRows_get {w : World} {ow : Nat → Prop} {b sz : Nat} : ∀ {o : Nat} {rows : List (List V)}, concRows w ow b sz o rows → ∀ {i : Nat} {r : List V}, rows[i]? = some r → r.length = sz ∧ concAt w ow b (o + i * sz) r
  | o, [], h, i, r, hr => by simp at hr
  | o, q :: rows, h, i, r, hr => by
    simp only [concRows] at h
    obtain ⟨h1, h2, h3⟩ := h
    cases i with
    | zero => simp at hr; subst hr; exact ⟨h1, by simpa using h2⟩
    | succ i =>
      have := concRows_get h3 (i := i) (by simpa using hr)
      rwa [Nat.add_assoc, Nat.add_comm sz, ← Nat.succ_mul] at this
section
variable {T T' : TypeId} {x y : Operand}
theorem pv_indexAddr_ro {e sz bs szT bsT : Nat} {DE : TypeDesc} {z zT : Value} {kd : IntKind} {i : Int} {rows : List (List V)} {r : List V} [t : Ty P T (.slice e) szT bsT zT] [te : Ty P e DE sz bs z]
    (hx : s.ev x = some (.ro rows)) (hy : s.ev y = some (.raw (.int kd i))) (h0 : 0 ≤ i) (hr : rows[i.toNat]? = some r) (hl : r.length = sz) : PureV j s H ⟨dst, .indexAddr T x y, ty, pos, after, g⟩ (.rop r 0) := fun a w st => by
  have h1 := st.sl.ev hx
  have h2 := st.sl.ev hy
  simp only [conc] at h1 h2
  obtain ⟨A, c, h1, hc, _, hA⟩ := h1
  have hlt : i.toNat < rows.length := (List.getElem?_eq_some_iff.1 hr).1
  rcases hA with ⟨hA, _⟩ | ⟨b, o, sz', hA, hb, ho, hR⟩
  · subst hA; simp at hr
  · obtain ⟨e1, e2⟩ := concRows_get hR hr
    have : sz' = sz := e1.symm.trans hl
    subst this
    refine ⟨.pointer (some ⟨b, o + i.toNat * sz', none⟩), fun w' => ?_, ?_⟩
    · subst hA
      have hin : 0 ≤ i ∧ i < (rows.length : Int) := ⟨h0, by omega⟩
      simp [execOp, h1, h2, Instr.indexAt, run_underlying t.u, asIntOf, hin, te.sizeOf, Addr.add_lit]
    · simp only [conc]
      exact ⟨b, _, rfl, hb, ho, e2⟩
theorem pv_indexAddr_own {e E sz bs szT bsT : Nat} {DE : TypeDesc} {z zT sv : Value} {kd : IntKind} {i : Int} {rows : List (List V)} [t : Ty P T (.slice e) szT bsT zT] [te : Ty P e DE sz bs z]
    (hx : s.ev x = some (.own sv)) (hm : Ch.vec sv E sz rows ∈ H ++ j.F) (hy : s.ev y = some (.raw (.int kd i))) (h0 : 0 ≤ i ∧ i < (rows.length : Int)) : PureV j s H ⟨dst, .indexAddr T x y, ty, pos, after, g⟩ (.vp sv sz i.toNat 0) := fun a w st => by
  have h1 := st.sl.ev hx
  have h2 := st.sl.ev hy
  simp only [conc] at h1 h2
  obtain ⟨l, ho, _⟩ := st.hp.sat _ hm
  rcases ho.2 with ⟨_, hn⟩ | ⟨b, cap, cur, hsv, _⟩
  · omega
  · refine ⟨.pointer (some ⟨b, i.toNat * sz, none⟩), fun w' => ?_, ?_⟩
    · simp [execOp, h1.1, h2, hsv, Instr.indexAt, run_underlying t.u, asIntOf, h0, te.sizeOf, Addr.add_lit]
    · simp only [conc]
      exact ⟨b, _, cap, hsv, rfl⟩
/-- An element of an array that lies in a variable. -/
theorem pv_indexAddr_arr {e n b o sz bs szT bsT : Nat} {DE : TypeDesc} {z zT : Value} {kd : IntKind} {i : Int} [t : Ty P T (.array n e) szT bsT zT] [te : Ty P e DE sz bs z]
    (hx : s.ev x = some (.raw (.pointer (some ⟨b, o, none⟩)))) (hy : s.ev y = some (.raw (.int kd i))) (h0 : 0 ≤ i ∧ i < (n : Int)) : PureV j s H ⟨dst, .indexAddr T x y, ty, pos, after, g⟩ (.raw (.pointer (some ⟨b, o + i.toNat * sz, none⟩))) := fun a w st => by
  have h1 := st.sl.ev hx
  have h2 := st.sl.ev hy
  simp only [conc] at h1 h2
  exact ⟨_, fun w' => by simp [execOp, h1, h2, Instr.indexAt, run_underlying t.u, asIntOf, h0, te.sizeOf, Addr.add_lit, Instr.sureAddr], rfl⟩
theorem pv_extract {vs : List V} {i : Nat} {v : V} (hx : s.ev x = some (.tup vs)) (hi : vs[i]? = some v) : PureV j s H ⟨dst, .extract x i, ty, pos, after, g⟩ v := fun a w st => by
  have h1 := st.sl.ev hx
  simp only [conc] at h1
  obtain ⟨l, h1, hl⟩ := h1
  obtain ⟨y, hy, hc⟩ := concL_get hl i v hi
  exact ⟨y, fun w' => by simp [execOp, h1, Instr.extract, hy], hc⟩
theorem pv_makeFunc {f : FuncId} {cap : Array Operand} {vs : List V} (h : s.evs cap.toList = some vs) : PureV j s H ⟨dst, .makeFunc (.func f) #[] cap, ty, pos, after, g⟩ (.fn f vs) := fun a w st => by
  have h1 := st.sl.evs h
  refine ⟨.func (.func f) #[] (cap.map a.eval), fun w' => by simp [execOp, Instr.makeFunc], ?_⟩
  simp only [conc]
  exact ⟨cap.toList.map a.eval, by rw [← Array.toList_map, Array.toArray_toList], h1⟩
theorem pv_makeInterface {v : V} (hc : P.concrete T = true) (hx : s.ev x = some v) : PureV j s H ⟨dst, .makeInterface T x, ty, pos, after, g⟩ (.ifc T v) := fun a w st => by
  have h1 := st.sl.ev hx
  exact ⟨.iface T (a.eval x), fun w' => by simp [execOp, run_makeInterface w' T _ hc], _, rfl, h1⟩
end
end Go.AX
