/- AX 19: nil checks, slicing, bits, new slices. -/
import Derived.Test.YtobablbklkpchaaAxAuto
import Derived.Laws.OwnMore
set_option linter.unusedVariables false
set_option linter.unusedSimpArgs false
namespace Go.AX
variable {P : Program} {N : Nat} {j : J P N} {Q : Exit → Sl → List Ch → Prop} {K : Sl → List Ch → Prop} {s so : Sl} {H : List Ch}
variable {d : Nat} {dst : Option Tmp} {ty : TypeId} {pos : String} {after : Array Edge} {g : Option (Nat × Bool)} {T T' : TypeId} {x y : Operand} {D : TypeDesc} {sz bs : Nat} {z : Value}
theorem pv_nilCheck {b o : Nat} {sp : Option Nat} (h : s.ev x = some (.raw (.pointer (some ⟨b, o, sp⟩)))) : PureV j s H ⟨dst, .nilCheck x, ty, pos, after, g⟩ (.raw (.pointer (some ⟨b, o, sp⟩))) := fun a w st => by
  have h1 := st.sl.ev h
  simp only [conc] at h1
  exact ⟨_, fun w' => by simp [execOp, h1], rfl⟩
theorem pv_nilCheck_ro {cs : List V} {o : Nat} (h : s.ev x = some (.rop cs o)) : PureV j s H ⟨dst, .nilCheck x, ty, pos, after, g⟩ (.rop cs o) := fun a w st => by
  have h1 := st.sl.ev h
  have h2 := h1
  simp only [conc] at h1
  obtain ⟨b, q, h1, _⟩ := h1
  exact ⟨_, fun w' => by simp [execOp, h1], h1 ▸ h2⟩
theorem pv_nilCheck_vp {sv : Value} {k i o : Nat} (h : s.ev x = some (.vp sv k i o)) : PureV j s H ⟨dst, .nilCheck x, ty, pos, after, g⟩ (.vp sv k i o) := fun a w st => by
  have h1 := st.sl.ev h
  have h2 := h1
  simp only [conc] at h1
  obtain ⟨b, n, c, _, h1⟩ := h1
  exact ⟨_, fun w' => by simp [execOp, h1], h1 ▸ h2⟩
theorem pv_nilCheck_fn {f : FuncId} {cap : List V} (h : s.ev x = some (.fn f cap)) : PureV j s H ⟨dst, .nilCheck x, ty, pos, after, g⟩ (.fn f cap) := fun a w st => by
  have h1 := st.sl.ev h
  have h2 := h1
  simp only [conc] at h1
  obtain ⟨l, h1, _⟩ := h1
  exact ⟨_, fun w' => by simp [execOp, h1], h1 ▸ h2⟩
/-! ### What stands first -/
section
variable {u : Operand} {lo hi mx : Option Operand} {ok e : Bool} {i : Nat} {ops : Array Oper} {rest : List Oper} {Hs E1 E : List Ch} {restP : Plan}
theorem k_nilCheck (h : RL j ops (⟨dst, .nilCheck x, ty, pos, after, none⟩ :: rest) Q s H) : RL j ops (⟨dst, .nilCheck x, ty, pos, after, none⟩ :: rest) Q s H := h
theorem kd_nilCheck (h : DL j Hs E1 ops ((e, i, some ⟨dst, .nilCheck x, ty, pos, after, g⟩) :: restP) Q so s E) : DL j Hs E1 ops ((e, i, some ⟨dst, .nilCheck x, ty, pos, after, g⟩) :: restP) Q so s E := h
theorem k_slice (h : RL j ops (⟨dst, .slice T x lo hi mx, ty, pos, after, none⟩ :: rest) Q s H) : RL j ops (⟨dst, .slice T x lo hi mx, ty, pos, after, none⟩ :: rest) Q s H := h
theorem kd_slice (h : DL j Hs E1 ops ((e, i, some ⟨dst, .slice T x lo hi mx, ty, pos, after, g⟩) :: restP) Q so s E) : DL j Hs E1 ops ((e, i, some ⟨dst, .slice T x lo hi mx, ty, pos, after, g⟩) :: restP) Q so s E := h
theorem k_makeSlice (h : RL j ops (⟨dst, .makeSlice T x y, ty, pos, after, none⟩ :: rest) Q s H) : RL j ops (⟨dst, .makeSlice T x y, ty, pos, after, none⟩ :: rest) Q s H := h
theorem kd_makeSlice (h : DL j Hs E1 ops ((e, i, some ⟨dst, .makeSlice T x y, ty, pos, after, g⟩) :: restP) Q so s E) : DL j Hs E1 ops ((e, i, some ⟨dst, .makeSlice T x y, ty, pos, after, g⟩) :: restP) Q so s E := h
theorem k_makeMap (h : RL j ops (⟨dst, .makeMap T lo, ty, pos, after, none⟩ :: rest) Q s H) : RL j ops (⟨dst, .makeMap T lo, ty, pos, after, none⟩ :: rest) Q s H := h
theorem kd_makeMap (h : DL j Hs E1 ops ((e, i, some ⟨dst, .makeMap T lo, ty, pos, after, g⟩) :: restP) Q so s E) : DL j Hs E1 ops ((e, i, some ⟨dst, .makeMap T lo, ty, pos, after, g⟩) :: restP) Q so s E := h
theorem k_lookup (h : RL j ops (⟨dst, .lookup T x y ok, ty, pos, after, none⟩ :: rest) Q s H) : RL j ops (⟨dst, .lookup T x y ok, ty, pos, after, none⟩ :: rest) Q s H := h
theorem kd_lookup (h : DL j Hs E1 ops ((e, i, some ⟨dst, .lookup T x y ok, ty, pos, after, g⟩) :: restP) Q so s E) : DL j Hs E1 ops ((e, i, some ⟨dst, .lookup T x y ok, ty, pos, after, g⟩) :: restP) Q so s E := h
theorem k_mapUpdate (h : RL j ops (⟨dst, .mapUpdate T x y u, ty, pos, after, none⟩ :: rest) Q s H) : RL j ops (⟨dst, .mapUpdate T x y u, ty, pos, after, none⟩ :: rest) Q s H := h
theorem kd_mapUpdate (h : DL j Hs E1 ops ((e, i, some ⟨dst, .mapUpdate T x y u, ty, pos, after, g⟩) :: restP) Q so s E) : DL j Hs E1 ops ((e, i, some ⟨dst, .mapUpdate T x y u, ty, pos, after, g⟩) :: restP) Q so s E := h
theorem k_insert (h : RL j ops (⟨dst, .insert T x y u, ty, pos, after, none⟩ :: rest) Q s H) : RL j ops (⟨dst, .insert T x y u, ty, pos, after, none⟩ :: rest) Q s H := h
theorem kd_insert (h : DL j Hs E1 ops ((e, i, some ⟨dst, .insert T x y u, ty, pos, after, g⟩) :: restP) Q so s E) : DL j Hs E1 ops ((e, i, some ⟨dst, .insert T x y u, ty, pos, after, g⟩) :: restP) Q so s E := h
theorem k_and (h : RL j ops (⟨dst, .binOp .and T x y T', ty, pos, after, none⟩ :: rest) Q s H) : RL j ops (⟨dst, .binOp .and T x y T', ty, pos, after, none⟩ :: rest) Q s H := h
theorem kd_and (h : DL j Hs E1 ops ((e, i, some ⟨dst, .binOp .and T x y T', ty, pos, after, g⟩) :: restP) Q so s E) : DL j Hs E1 ops ((e, i, some ⟨dst, .binOp .and T x y T', ty, pos, after, g⟩) :: restP) Q so s E := h
theorem k_or (h : RL j ops (⟨dst, .binOp .or T x y T', ty, pos, after, none⟩ :: rest) Q s H) : RL j ops (⟨dst, .binOp .or T x y T', ty, pos, after, none⟩ :: rest) Q s H := h
theorem kd_or (h : DL j Hs E1 ops ((e, i, some ⟨dst, .binOp .or T x y T', ty, pos, after, g⟩) :: restP) Q so s E) : DL j Hs E1 ops ((e, i, some ⟨dst, .binOp .or T x y T', ty, pos, after, g⟩) :: restP) Q so s E := h
theorem k_xor (h : RL j ops (⟨dst, .binOp .xor T x y T', ty, pos, after, none⟩ :: rest) Q s H) : RL j ops (⟨dst, .binOp .xor T x y T', ty, pos, after, none⟩ :: rest) Q s H := h
theorem kd_xor (h : DL j Hs E1 ops ((e, i, some ⟨dst, .binOp .xor T x y T', ty, pos, after, g⟩) :: restP) Q so s E) : DL j Hs E1 ops ((e, i, some ⟨dst, .binOp .xor T x y T', ty, pos, after, g⟩) :: restP) Q so s E := h
theorem k_andNot (h : RL j ops (⟨dst, .binOp .andNot T x y T', ty, pos, after, none⟩ :: rest) Q s H) : RL j ops (⟨dst, .binOp .andNot T x y T', ty, pos, after, none⟩ :: rest) Q s H := h
theorem kd_andNot (h : DL j Hs E1 ops ((e, i, some ⟨dst, .binOp .andNot T x y T', ty, pos, after, g⟩) :: restP) Q so s E) : DL j Hs E1 ops ((e, i, some ⟨dst, .binOp .andNot T x y T', ty, pos, after, g⟩) :: restP) Q so s E := h
theorem k_shl (h : RL j ops (⟨dst, .binOp .shl T x y T', ty, pos, after, none⟩ :: rest) Q s H) : RL j ops (⟨dst, .binOp .shl T x y T', ty, pos, after, none⟩ :: rest) Q s H := h
theorem kd_shl (h : DL j Hs E1 ops ((e, i, some ⟨dst, .binOp .shl T x y T', ty, pos, after, g⟩) :: restP) Q so s E) : DL j Hs E1 ops ((e, i, some ⟨dst, .binOp .shl T x y T', ty, pos, after, g⟩) :: restP) Q so s E := h
theorem k_shr (h : RL j ops (⟨dst, .binOp .shr T x y T', ty, pos, after, none⟩ :: rest) Q s H) : RL j ops (⟨dst, .binOp .shr T x y T', ty, pos, after, none⟩ :: rest) Q s H := h
theorem kd_shr (h : DL j Hs E1 ops ((e, i, some ⟨dst, .binOp .shr T x y T', ty, pos, after, g⟩) :: restP) Q so s E) : DL j Hs E1 ops ((e, i, some ⟨dst, .binOp .shr T x y T', ty, pos, after, g⟩) :: restP) Q so s E := h
theorem by_fill {pl : Nat → Option (Nat × Nat)} {L : Nat} {cs ds : List V} {ps : List (Nat × V)} (h : fillV pl L cs ps = some ds := by first | (simp only [fillV, setAll, V.cells, List.set_cons_zero, List.set_cons_succ, List.drop_succ_cons, List.drop_zero, List.take_succ_cons, List.take_zero, List.take_nil, List.drop_nil, List.map_cons, List.map_nil, List.toList_toArray, Value.cells, List.cons_append, List.nil_append]; rfl) | rfl) : fillV pl L cs ps = some ds := h
theorem by_rows {vs : List V} {rows : List (List V)} (h : vs.map V.cells = rows := by first | (simp only [List.map_cons, List.map_nil, V.cells]; rfl) | rfl) : vs.map V.cells = rows := h
theorem by_bound {p : Prop} (h : p := by first | omega | decide | (simp only [List.length_cons, List.length_nil, List.length_map, List.length_append]; omega) | assumption) : p := h
end
/-! ### Slicing -/
theorem concRows_drop {w : World} {ow : Nat → Prop} {b k : Nat} : ∀ (n : Nat) {o : Nat} {rows : List (List V)}, concRows w ow b k o rows → concRows w ow b k (o + n * k) (rows.drop n)
  | 0, o, rows, h => by simpa using h
  | n + 1, o, [], h => by simp [concRows]
  | n + 1, o, r :: rows, h => by
    simp only [concRows] at h
    have := concRows_drop n h.2.2
    rwa [Nat.add_assoc, Nat.add_comm k, ← Nat.succ_mul] at this
theorem concRows_take {w : World} {ow : Nat → Prop} {b k : Nat} : ∀ (n : Nat) {o : Nat} {rows : List (List V)}, concRows w ow b k o rows → concRows w ow b k o (rows.take n)
  | 0, o, rows, h => by simp [concRows]
  | n + 1, o, [], h => by simp [concRows]
  | n + 1, o, r :: rows, h => by
    simp only [concRows] at h
    exact ⟨h.1, h.2.1, concRows_take n h.2.2⟩
/-- The bounds of a slicing. -/
def Sl.lo (s : Sl) : Option Operand → Option Int
  | none => some 0
  | some x => match s.ev x with
    | some (.raw (.int _ n)) => some n
    | _ => none
def Sl.hi (s : Sl) (len : Nat) : Option Operand → Option Int
  | none => some len
  | some x => match s.ev x with
    | some (.raw (.int _ n)) => some n
    | _ => none
theorem lo_form {a : Act} {w : World} {lo : Option Operand} {l : Int} (st : St j s H a w) (h : s.lo lo = some l) : (lo.map a.eval = none ∧ l = 0) ∨ ∃ k, lo.map a.eval = some (.int k l) := by
  cases lo with
  | none => simp only [Sl.lo, Option.some.injEq] at h; exact .inl ⟨rfl, h.symm⟩
  | some x =>
    right
    simp only [Sl.lo] at h
    split at h
    · rename_i k n e
      simp only [Option.some.injEq] at h
      subst h
      have := st.sl.ev e
      simp only [conc] at this
      exact ⟨k, by simp [this]⟩
    · cases h
theorem hi_form {a : Act} {w : World} {hi : Option Operand} {l : Int} {n : Nat} (st : St j s H a w) (h : s.hi n hi = some l) : (hi.map a.eval = none ∧ l = n) ∨ ∃ k, hi.map a.eval = some (.int k l) := by
  cases hi with
  | none => simp only [Sl.hi, Option.some.injEq] at h; exact .inl ⟨rfl, h.symm⟩
  | some x =>
    right
    simp only [Sl.hi] at h
    split at h
    · rename_i k m e
      simp only [Option.some.injEq] at h
      subst h
      have := st.sl.ev e
      simp only [conc] at this
      exact ⟨k, by simp [this]⟩
    · cases h
theorem run_bounds {w : World} {isS : Bool} {len cap : Nat} {lo hi : Option Value} {l h : Int} (hl : (lo = none ∧ l = 0) ∨ ∃ k, lo = some (.int k l)) (hh : (hi = none ∧ h = len) ∨ ∃ k, hi = some (.int k h)) (h0 : 0 ≤ l) (h1 : l ≤ h) (h2 : h ≤ len) (hc : len ≤ cap) :
    (Instr.sliceBounds isS len cap lo hi none).run P w = .ok (l.toNat, h.toNat, cap) w := by
  rcases hl with ⟨rfl, rfl⟩ | ⟨k, rfl⟩ <;> rcases hh with ⟨rfl, rfl⟩ | ⟨k', rfl⟩
  · simp [Instr.sliceBounds]
  · have : 0 ≤ h ∧ h ≤ (cap : Int) := ⟨by omega, by omega⟩
    simp [Instr.sliceBounds, Instr.sliceBound, asIntOf, this]
  · have : 0 ≤ l ∧ l ≤ (len : Int) := ⟨by omega, by omega⟩
    simp [Instr.sliceBounds, Instr.sliceBound, asIntOf, this]
  · have e1 : 0 ≤ h ∧ h ≤ (cap : Int) := ⟨by omega, by omega⟩
    have e2 : 0 ≤ l ∧ l ≤ ((h.toNat : Nat) : Int) := ⟨by omega, by omega⟩
    have e3 : l ≤ max h 0 := by omega
    simp [Instr.sliceBounds, Instr.sliceBound, asIntOf, e1, h0, e3]
theorem pv_slice_ro {e : Nat} {DE : TypeDesc} {zT : Value} {szT bsT : Nat} {rows : List (List V)} {lo hi : Option Operand} {l h : Int} [t : Ty P T (.slice e) szT bsT zT] [te : Ty P e DE sz bs z]
    (hx : s.ev x = some (.ro rows)) (hl : s.lo lo = some l) (hh : s.hi rows.length hi = some h) (hb : 0 ≤ l ∧ l ≤ h ∧ h ≤ (rows.length : Int)) (hr : ∀ r ∈ rows, r.length = sz) :
    PureV j s H ⟨dst, .slice T x lo hi none, ty, pos, after, g⟩ (.ro ((rows.drop l.toNat).take (h.toNat - l.toNat))) := fun a w st => by
  have h1 := st.sl.ev hx
  simp only [conc] at h1
  obtain ⟨A, c, h1, h2, h3, h4⟩ := h1
  have hlo := lo_form st hl
  have hhi := hi_form st hh
  obtain ⟨b0, b1, b2⟩ := hb
  refine ⟨.slice (if c = l.toNat then A else A.map (·.add (l.toNat * sz))) (h.toNat - l.toNat) (c - l.toNat), fun w' => ?_, ?_⟩
  · have hbd := run_bounds (P := P) (w := w') (isS := true) hlo hhi b0 b1 b2 h2
    simp [execOp, h1, Instr.sliceAt, run_underlying t.u, Instr.slice, hbd, te.sizeOf]
  · simp only [conc]
    have hlen : ((rows.drop l.toNat).take (h.toNat - l.toNat)).length = h.toNat - l.toNat := by
      simp only [List.length_take, List.length_drop]; omega
    refine ⟨_, _, by rw [hlen], by rw [hlen]; omega, by omega, ?_⟩
    by_cases hz : h.toNat - l.toNat = 0
    · left
      refine ⟨by rw [hz]; simp, fun hn => ?_⟩
      split at hn
      · omega
      · rcases h4 with ⟨rfl, h5⟩ | ⟨b, o, k, rfl, _⟩
        · simp only [Option.map_eq_none_iff] at hn
          have := h5 hn
          omega
        · simp at hn
    · right
      rcases h4 with ⟨rfl, h5⟩ | ⟨b, o, k, rfl, q1, q2, q3⟩
      · simp at b2; omega
      · have hk : k = sz := by
          cases rows with
          | nil => simp at b2; omega
          | cons r rows =>
            have := hr r (List.mem_cons_self ..)
            simp only [concRows] at q3
            omega
        subst hk
        have hc : c ≠ l.toNat := by omega
        refine ⟨b, o + l.toNat * k, k, by simp [hc, Addr.add_lit], q1, q2, concRows_take _ (concRows_drop _ q3)⟩
theorem pv_slice_str {zT : Value} {szT bsT : Nat} {p : ByteArray} {lo hi : Option Operand} {l h : Int} [t : Ty P T .string szT bsT zT]
    (hx : s.ev x = some (.raw (.string p))) (hl : s.lo lo = some l) (hh : s.hi p.size hi = some h) (hb : 0 ≤ l ∧ l ≤ h ∧ h ≤ (p.size : Int)) :
    PureV j s H ⟨dst, .slice T x lo hi none, ty, pos, after, g⟩ (.raw (.string (p.extract l.toNat h.toNat))) := fun a w st => by
  have h1 := st.sl.ev hx
  simp only [conc] at h1
  have hlo := lo_form st hl
  have hhi := hi_form st hh
  obtain ⟨b0, b1, b2⟩ := hb
  refine ⟨_, fun w' => ?_, rfl⟩
  have hbd := run_bounds (P := P) (w := w') (isS := false) (len := p.size) (cap := p.size) hlo hhi b0 b1 b2 (Nat.le_refl _)
  simp [execOp, h1, Instr.sliceAt, run_underlying t.u, Instr.slice, hbd]
/-! ### Bits -/
def iand (k : IntKind) (m n : Int) : Int := k.wrap ((BitVec.ofInt k.bits m &&& BitVec.ofInt k.bits n).toNat : Int)
def ior (k : IntKind) (m n : Int) : Int := k.wrap ((BitVec.ofInt k.bits m ||| BitVec.ofInt k.bits n).toNat : Int)
def ixor (k : IntKind) (m n : Int) : Int := k.wrap ((BitVec.ofInt k.bits m ^^^ BitVec.ofInt k.bits n).toNat : Int)
def iandNot (k : IntKind) (m n : Int) : Int := k.wrap ((BitVec.ofInt k.bits m &&& ~~~(BitVec.ofInt k.bits n)).toNat : Int)
def ishl (k : IntKind) (m n : Int) : Int := k.wrap (m * 2 ^ (min n.toNat k.bits))
def ishr (k : IntKind) (m n : Int) : Int := m.fdiv (2 ^ (min n.toNat k.bits))
section
variable {k k' : IntKind} {m n : Int}
theorem pv_and (hx : s.ev x = some (.raw (.int k m))) (hy : s.ev y = some (.raw (.int k n))) : PureV j s H ⟨dst, .binOp .and T x y T', ty, pos, after, g⟩ (.raw (.int k (iand k m n))) :=
  pv_bits hx hy (fun w => by simp [Op.intBits, iand]) rfl
theorem pv_or (hx : s.ev x = some (.raw (.int k m))) (hy : s.ev y = some (.raw (.int k n))) : PureV j s H ⟨dst, .binOp .or T x y T', ty, pos, after, g⟩ (.raw (.int k (ior k m n))) :=
  pv_bits hx hy (fun w => by simp [Op.intBits, ior]) rfl
theorem pv_xor (hx : s.ev x = some (.raw (.int k m))) (hy : s.ev y = some (.raw (.int k n))) : PureV j s H ⟨dst, .binOp .xor T x y T', ty, pos, after, g⟩ (.raw (.int k (ixor k m n))) :=
  pv_bits hx hy (fun w => by simp [Op.intBits, ixor]) rfl
theorem pv_andNot (hx : s.ev x = some (.raw (.int k m))) (hy : s.ev y = some (.raw (.int k n))) : PureV j s H ⟨dst, .binOp .andNot T x y T', ty, pos, after, g⟩ (.raw (.int k (iandNot k m n))) :=
  pv_bits hx hy (fun w => by simp [Op.intBits, iandNot]) rfl
theorem pv_shl (hx : s.ev x = some (.raw (.int k m))) (hy : s.ev y = some (.raw (.int k' n))) (h : 0 ≤ n) : PureV j s H ⟨dst, .binOp .shl T x y T', ty, pos, after, g⟩ (.raw (.int k (ishl k m n))) :=
  pv_shift hx hy (fun w => by simp [Op.shift, ishl, show ¬ n < 0 by omega]) rfl
theorem pv_shr (hx : s.ev x = some (.raw (.int k m))) (hy : s.ev y = some (.raw (.int k' n))) (h : 0 ≤ n) : PureV j s H ⟨dst, .binOp .shr T x y T', ty, pos, after, g⟩ (.raw (.int k (ishr k m n))) :=
  pv_shift hx hy (fun w => by simp [Op.shift, ishr, show ¬ n < 0 by omega]) rfl
theorem iand_nat (a b : Nat) (ha : a < 2 ^ 63) (hb : b < 2 ^ 63) : iand .i64 a b = ((a &&& b : Nat) : Int) := by
  have h1 : (BitVec.ofInt 64 (a : Int) &&& BitVec.ofInt 64 (b : Int)).toNat = a &&& b := by
    rw [BitVec.toNat_and, BitVec.toNat_ofInt, BitVec.toNat_ofInt]
    have e1 : ((a : Int) % ((2 ^ 64 : Nat) : Int)).toNat = a := by omega
    have e2 : ((b : Int) % ((2 ^ 64 : Nat) : Int)).toNat = b := by omega
    rw [e1, e2]
  have h2 : a &&& b ≤ a := Nat.and_le_left
  show IntKind.i64.wrap ((BitVec.ofInt 64 (a : Int) &&& BitVec.ofInt 64 (b : Int)).toNat : Int) = _
  rw [h1]
  exact IntWalk.i64_in _ (by omega)
theorem ior_nat (a b : Nat) (ha : a < 2 ^ 63) (hb : b < 2 ^ 63) : ior .i64 a b = ((a ||| b : Nat) : Int) := by
  have h1 : (BitVec.ofInt 64 (a : Int) ||| BitVec.ofInt 64 (b : Int)).toNat = a ||| b := by
    rw [BitVec.toNat_or, BitVec.toNat_ofInt, BitVec.toNat_ofInt]
    have e1 : ((a : Int) % ((2 ^ 64 : Nat) : Int)).toNat = a := by omega
    have e2 : ((b : Int) % ((2 ^ 64 : Nat) : Int)).toNat = b := by omega
    rw [e1, e2]
  have h2 : a ||| b < 2 ^ 63 := Nat.or_lt_two_pow ha hb
  show IntKind.i64.wrap ((BitVec.ofInt 64 (a : Int) ||| BitVec.ofInt 64 (b : Int)).toNat : Int) = _
  rw [h1]
  exact IntWalk.i64_in _ (by omega)
/-- A mask of low bits. -/
theorem iand_mask (m : Int) (q : Nat) (hq : q ≤ 62) : iand .i64 m (((2 ^ q - 1 : Nat)) : Int) = m % ((2 ^ q : Nat) : Int) := by
  have hp : 2 ^ q ≤ 2 ^ 62 := Nat.pow_le_pow_right (by decide) hq
  have hpos : 0 < 2 ^ q := Nat.two_pow_pos q
  have h1 : (BitVec.ofInt 64 m &&& BitVec.ofInt 64 ((2 ^ q - 1 : Nat) : Int)).toNat = (m % ((2 ^ q : Nat) : Int)).toNat := by
    rw [BitVec.toNat_and, BitVec.toNat_ofInt, BitVec.toNat_ofInt]
    have e2 : (((2 ^ q - 1 : Nat) : Int) % ((2 ^ 64 : Nat) : Int)).toNat = 2 ^ q - 1 := by
      rw [Int.emod_eq_of_lt (by omega) (by omega)]
      omega
    rw [e2, Nat.and_two_pow_sub_one_eq_mod]
    have hd : ((2 ^ q : Nat) : Int) ∣ ((2 ^ 64 : Nat) : Int) := Int.natCast_dvd_natCast.2 (Nat.pow_dvd_pow 2 (by omega))
    have e3 : (m % ((2 ^ 64 : Nat) : Int)) % ((2 ^ q : Nat) : Int) = m % ((2 ^ q : Nat) : Int) := Int.emod_emod_of_dvd m hd
    have h64 : 0 ≤ m % ((2 ^ 64 : Nat) : Int) := Int.emod_nonneg _ (by omega)
    have : (((m % ((2 ^ 64 : Nat) : Int)).toNat % 2 ^ q : Nat) : Int) = m % ((2 ^ q : Nat) : Int) := by
      rw [Int.natCast_emod, Int.toNat_of_nonneg h64, e3]
    omega
  show IntKind.i64.wrap ((BitVec.ofInt 64 m &&& BitVec.ofInt 64 ((2 ^ q - 1 : Nat) : Int)).toNat : Int) = _
  rw [h1]
  have h2 : 0 ≤ m % ((2 ^ q : Nat) : Int) := Int.emod_nonneg _ (by omega)
  have h3 : m % ((2 ^ q : Nat) : Int) < ((2 ^ q : Nat) : Int) := Int.emod_lt_of_pos _ (by omega)
  rw [Int.toNat_of_nonneg h2]
  exact IntWalk.i64_in _ (by omega)
end
/-! ### New slices -/
theorem st_grown {a : Act} {w w' : World} {sv : Value} {e k : Nat} {rows : List (List V)} {l : List Value} (st : St j s H a w) (hg : w.grownBy w' none) (ho : w'.ownsRow w.heap.size e k sv rows.length l)
    (hl : ∀ ow, concL w' ow rows.flatten l) (h1 : ∀ y ∈ l, y.oneCell' = true) (hr : ∀ r ∈ rows, r.length = k) : St j s (.vec sv e k rows :: H) a w' := by
  have hlt : ∀ b, own [Ch.vec sv e k rows] b → w.heap.size ≤ b := fun b hb => by
    obtain ⟨c, hc, hcb⟩ := List.mem_filterMap.1 hb
    rw [List.mem_singleton.1 hc] at hcb
    exact (ho.lt b hcb).1
  have ev : Evo (own []) w (own [Ch.vec sv e k rows]) w' := ⟨hg.os, hg.tape, hg.output, hg.size, fun b hb _ => hg.block b hb (by simp), fun b hb => .inr (hlt b hb)⟩
  exact (St.eff (Hf := []) (Hf' := [.vec sv e k rows]) (Hr := H) st (.refl _) ev (by simp only [blks, List.filterMap_cons, List.filterMap_nil, Ch.blk]; cases sv.ownBlock <;> simp) (fun c hc => by
    rw [List.mem_singleton.1 hc]
    exact ⟨l, ownsRow_base ho (Nat.zero_le _), hl _, h1, hr⟩)).1
/-- 'make([]T, n)' for a type of one cell. -/
theorem op_makeSlice {e : Nat} {DE : TypeDesc} {zs : Value} {szT bsT : Nat} {k1 k2 : IntKind} {n : Nat} [t : Ty P T (.slice e) szT bsT zs] [te : Ty P e DE 1 bs z]
    (hx : s.ev x = some (.raw (.int k1 n))) (hy : s.ev y = some (.raw (.int k2 n))) (hz : z.cells = #[z]) (h1 : z.oneCell' = true) (hb : bs * n ≤ 281474976710656) (hc : n ≤ 16777216) (hN : Nat.blt d N = true)
    (h : ∀ sv, K ((d, .own sv) :: s) (.vec sv e 1 (List.replicate n [.raw z]) :: H)) : OP j ⟨some d, .makeSlice T x y, ty, pos, after, none⟩ K Q s H :=
  op_eff rfl hN fun a w st => by
    have e1 := st.sl.ev hx
    have e2 := st.sl.ev hy
    simp only [conc] at e1 e2
    obtain ⟨i, hi1, hi2, hi3, hi4⟩ := te.i
    obtain ⟨w', hr, ho, hg⟩ := run_makeSlice_full (P := P) w w.heap.size T e i z 1 t.u hi1 hi4 hi2 k1 k2 n (by omega) (by rw [hi3]; exact hb) (by simp [maxLen]; omega) (Nat.le_refl _)
    have hcl : (madeCells z.cells (n * 1)).toList = List.replicate n z := by rw [hz, Nat.mul_one, toList_madeCells_one]
    rw [hcl] at ho
    have hcc : ∀ (m : Nat) (ow : Nat → Prop), concL w' ow (List.replicate m [V.raw z]).flatten (List.replicate m z) := fun m ow => by
      induction m with
      | zero => rfl
      | succ m ih => exact ⟨z, List.replicate m z, rfl, rfl, ih⟩
    refine ⟨.slice (some ⟨w.heap.size, 0, none⟩) n n, w', .own (.slice (some ⟨w.heap.size, 0, none⟩) n n), _, by simp [execOp, e1, e2, hr], st_grown st hg (rows := List.replicate n [.raw z]) (by simpa using ho) (fun ow => hcc n ow) (fun y hy => by rw [List.eq_of_mem_replicate hy]; exact h1) (fun r hr => by rw [List.eq_of_mem_replicate hr]; rfl), ?_, h _⟩
    simp only [conc]
    exact ⟨trivial, rfl⟩
end Go.AX
