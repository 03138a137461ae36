/- AX: what was read lies apart from tables of numbers of one kind. -/
import Derived.Test.YtepmllodaoanmaaDoorAx0
import Derived.Laws.OwnMore
import Derived.MapKept
import Derived.ChangeKeysEq
import Derived.Laws.BytesArg
import Derived.Lib.ConvBytes
import Derived.LoopN
import Derived.Lib.LaidU8
import Derived.Lib.LaidTab
import Derived.RangeFuncIn
import Derived.RangeFuncRecord
import Derived.RangeFuncLeaves
import Derived.Lib.Builder
import Derived.LaidEqlPtr
import Derived.Laws.Externs
import Derived.Lib.AppendStr
import Derived.Lib.UnsafeStr
set_option linter.unusedVariables false
set_option linter.unusedSimpArgs false
namespace Go.AX
variable {P : Program} {N : Nat} {j : J P N} {Q : Exit → Sl → List Ch → Prop} {s so : Sl} {H H' G E F Hs : List Ch} {c c' : Ch} {ops : Array Oper}
theorem by_mem (h : c ∈ H ++ F := by (first | exact List.mem_append_left _ (List.Mem.head _) | exact List.mem_append_left _ (List.Mem.tail _ (List.Mem.head _)) | exact List.mem_append_left _ (List.Mem.tail _ (List.Mem.tail _ (List.Mem.head _))) | exact List.mem_append_left _ (List.Mem.tail _ (List.Mem.tail _ (List.Mem.tail _ (List.Mem.head _)))) | exact List.mem_append_left _ (List.Mem.tail _ (List.Mem.tail _ (List.Mem.tail _ (List.Mem.tail _ (List.Mem.head _))))) | exact List.mem_append_left _ (List.Mem.tail _ (List.Mem.tail _ (List.Mem.tail _ (List.Mem.tail _ (List.Mem.tail _ (List.Mem.head _)))))) | exact List.mem_append_left _ (List.Mem.tail _ (List.Mem.tail _ (List.Mem.tail _ (List.Mem.tail _ (List.Mem.tail _ (List.Mem.tail _ (List.Mem.head _))))))) | exact List.mem_append_left _ (List.Mem.tail _ (List.Mem.tail _ (List.Mem.tail _ (List.Mem.tail _ (List.Mem.tail _ (List.Mem.tail _ (List.Mem.tail _ (List.Mem.head _)))))))) | exact List.mem_append_left _ (List.Mem.tail _ (List.Mem.tail _ (List.Mem.tail _ (List.Mem.tail _ (List.Mem.tail _ (List.Mem.tail _ (List.Mem.tail _ (List.Mem.tail _ (List.Mem.head _))))))))))) : c ∈ H ++ F := h
theorem by_mem0 (h : c ∈ H := by (first | exact List.Mem.head _ | exact List.Mem.tail _ (List.Mem.head _) | exact List.Mem.tail _ (List.Mem.tail _ (List.Mem.head _)) | exact List.Mem.tail _ (List.Mem.tail _ (List.Mem.tail _ (List.Mem.head _))) | exact List.Mem.tail _ (List.Mem.tail _ (List.Mem.tail _ (List.Mem.tail _ (List.Mem.head _)))) | exact List.Mem.tail _ (List.Mem.tail _ (List.Mem.tail _ (List.Mem.tail _ (List.Mem.tail _ (List.Mem.head _))))) | exact List.Mem.tail _ (List.Mem.tail _ (List.Mem.tail _ (List.Mem.tail _ (List.Mem.tail _ (List.Mem.tail _ (List.Mem.head _)))))) | exact List.Mem.tail _ (List.Mem.tail _ (List.Mem.tail _ (List.Mem.tail _ (List.Mem.tail _ (List.Mem.tail _ (List.Mem.tail _ (List.Mem.head _))))))) | exact List.Mem.tail _ (List.Mem.tail _ (List.Mem.tail _ (List.Mem.tail _ (List.Mem.tail _ (List.Mem.tail _ (List.Mem.tail _ (List.Mem.tail _ (List.Mem.head _)))))))))) : c ∈ H := h
theorem by_memj (h : c ∈ H ++ F := by (first | (first | exact List.mem_append_left _ (List.Mem.head _) | exact List.mem_append_left _ (List.Mem.tail _ (List.Mem.head _)) | exact List.mem_append_left _ (List.Mem.tail _ (List.Mem.tail _ (List.Mem.head _))) | exact List.mem_append_left _ (List.Mem.tail _ (List.Mem.tail _ (List.Mem.tail _ (List.Mem.head _)))) | exact List.mem_append_left _ (List.Mem.tail _ (List.Mem.tail _ (List.Mem.tail _ (List.Mem.tail _ (List.Mem.head _))))) | exact List.mem_append_left _ (List.Mem.tail _ (List.Mem.tail _ (List.Mem.tail _ (List.Mem.tail _ (List.Mem.tail _ (List.Mem.head _)))))) | exact List.mem_append_left _ (List.Mem.tail _ (List.Mem.tail _ (List.Mem.tail _ (List.Mem.tail _ (List.Mem.tail _ (List.Mem.tail _ (List.Mem.head _))))))) | exact List.mem_append_left _ (List.Mem.tail _ (List.Mem.tail _ (List.Mem.tail _ (List.Mem.tail _ (List.Mem.tail _ (List.Mem.tail _ (List.Mem.tail _ (List.Mem.head _)))))))) | exact List.mem_append_left _ (List.Mem.tail _ (List.Mem.tail _ (List.Mem.tail _ (List.Mem.tail _ (List.Mem.tail _ (List.Mem.tail _ (List.Mem.tail _ (List.Mem.tail _ (List.Mem.head _)))))))))) | exact DrawJ.mem (by assumption) (List.Mem.head _) _ | exact DrawJ.mem (by assumption) (List.Mem.tail _ (List.Mem.head _)) _ | exact DrawJ.mem (by assumption) (List.Mem.tail _ (List.Mem.tail _ (List.Mem.head _))) _ | exact DrawJ.mem (by assumption) (List.Mem.tail _ (List.Mem.tail _ (List.Mem.tail _ (List.Mem.head _)))) _ | exact DrawJ.mem (by assumption) (List.Mem.tail _ (List.Mem.tail _ (List.Mem.tail _ (List.Mem.tail _ (List.Mem.head _))))) _ | exact DrawJ.mem (by assumption) (List.Mem.tail _ (List.Mem.tail _ (List.Mem.tail _ (List.Mem.tail _ (List.Mem.tail _ (List.Mem.head _)))))) _ | exact DrawJ.mem (by assumption) (List.Mem.tail _ (List.Mem.tail _ (List.Mem.tail _ (List.Mem.tail _ (List.Mem.tail _ (List.Mem.tail _ (List.Mem.head _))))))) _ | exact DrawJ.mem (by assumption) (List.Mem.tail _ (List.Mem.tail _ (List.Mem.tail _ (List.Mem.tail _ (List.Mem.tail _ (List.Mem.tail _ (List.Mem.tail _ (List.Mem.head _)))))))) _ | exact DrawJ.mem (by assumption) (List.Mem.tail _ (List.Mem.tail _ (List.Mem.tail _ (List.Mem.tail _ (List.Mem.tail _ (List.Mem.tail _ (List.Mem.tail _ (List.Mem.tail _ (List.Mem.head _))))))))) _)) : c ∈ H ++ F := h
theorem by_upd (h : Upd c c' H H' := by (first | exact Upd.here | exact Upd.there (Upd.here) | exact Upd.there (Upd.there (Upd.here)) | exact Upd.there (Upd.there (Upd.there (Upd.here))) | exact Upd.there (Upd.there (Upd.there (Upd.there (Upd.here)))) | exact Upd.there (Upd.there (Upd.there (Upd.there (Upd.there (Upd.here))))) | exact Upd.there (Upd.there (Upd.there (Upd.there (Upd.there (Upd.there (Upd.here)))))) | exact Upd.there (Upd.there (Upd.there (Upd.there (Upd.there (Upd.there (Upd.there (Upd.here))))))) | exact Upd.there (Upd.there (Upd.there (Upd.there (Upd.there (Upd.there (Upd.there (Upd.there (Upd.here)))))))))) : Upd c c' H H' := h
theorem by_take (h : Take c H H' := by (first | exact Take.here | exact Take.there (Take.here) | exact Take.there (Take.there (Take.here)) | exact Take.there (Take.there (Take.there (Take.here))) | exact Take.there (Take.there (Take.there (Take.there (Take.here)))) | exact Take.there (Take.there (Take.there (Take.there (Take.there (Take.here))))) | exact Take.there (Take.there (Take.there (Take.there (Take.there (Take.there (Take.here)))))) | exact Take.there (Take.there (Take.there (Take.there (Take.there (Take.there (Take.there (Take.here))))))) | exact Take.there (Take.there (Take.there (Take.there (Take.there (Take.there (Take.there (Take.there (Take.here)))))))))) : Take c H H' := h
theorem by_nrm {α : Type} {a b : α} (h : a = b := by (first | (simp only [setAll, V.cells, List.set_cons_zero, List.set_cons_succ, List.drop_succ_cons, List.drop_zero, List.take_succ_cons, List.take_zero, List.take_nil, List.drop_nil, List.map_cons, List.map_nil, List.toList_toArray, Value.cells, List.cons_append, List.nil_append]; rfl) | rfl)) : a = b := h
theorem by_bd {p : Prop} (h : p := by first | rfl | assumption) : p := h
theorem by_len {a b : Nat} (h : a = b := by first | (simp only [List.length_cons, List.length_nil, List.length_map, List.length_append, Nat.reduceAdd, Nat.zero_add]; rfl) | rfl) : a = b := h
theorem by_app (h : E ++ Hs = G := by first | rfl | (simp only [List.cons_append, List.nil_append, List.append_nil]; rfl)) : E ++ Hs = G := h
theorem by_nos (h : NoS Q := by repeat (first | exact nos_ret | refine nos_then ?_ | refine nos_in ?_ | assumption)) : NoS Q := h
theorem by_wants {g : Option (Nat × Bool)} (h : Wants ops s g := by first | exact wants_none | exact wants_on rfl rfl rfl by_bd) : Wants ops s g := h
theorem by_lit {sch : List (Bool × Nat)} {l : Plan} (h : (sch.map fun p => (p.1, p.2, ops[p.2]?)) = l := by simp only [List.map_cons, List.map_nil, List.getElem?_toArray, List.getElem?_cons_zero, List.getElem?_cons_succ]; rfl) : (sch.map fun p => (p.1, p.2, ops[p.2]?)) = l := h
theorem by_le {a b : Nat} (h : a ≤ b := by first | exact Nat.le_of_ble_eq_true rfl | decide | (simp; done)) : a ≤ b := h
theorem by_res {r : ResultVar} {v : V} (h : ResV j s H r v := by first | exact res_tmp rfl | exact res_cell rfl by_mem0 (by rfl) (by rfl) | exact res_cell_agg rfl by_mem0 (by rfl) by_nrm (by rfl)) : ResV j s H r v := h
end Go.AX

set_option linter.unusedVariables false
set_option linter.unusedSimpArgs false
namespace Go.AX
variable {TT : Term}
variable {P : Program} {N : Nat} {j : J P N} {Q : Exit → Sl → List Ch → Prop} {K : Sl → List Ch → Prop} {s so : Sl} {H : List Ch}
variable {d : Nat} {dst : Option Tmp} {ty : TypeId} {pos : String} {after : Array Edge} {g : Option (Nat × Bool)} {T T' : TypeId} {x y : Operand} {D : TypeDesc} {sz bs : Nat} {z : Value}
theorem pv_nilCheck {b o : Nat} {sp : Option Nat} (h : s.ev x = some (.raw (.pointer (some ⟨b, o, sp⟩)))) : PureV j s H ⟨dst, .nilCheck x, ty, pos, after, g⟩ (.raw (.pointer (some ⟨b, o, sp⟩))) := fun a w st => by
  have h1 := st.sl.ev h
  simp only [conc] at h1
  exact ⟨_, fun w' => by simp [execOp, h1], rfl⟩
theorem pv_nilCheck_ro {cs : List V} {o : Nat} (h : s.ev x = some (.rop cs o)) : PureV j s H ⟨dst, .nilCheck x, ty, pos, after, g⟩ (.rop cs o) := fun a w st => by
  have h1 := st.sl.ev h
  have h2 := h1
  simp only [conc] at h1
  obtain ⟨b, q, h1, _⟩ := h1
  exact ⟨_, fun w' => by simp [execOp, h1], h1 ▸ h2⟩
theorem pv_nilCheck_vp {sv : Value} {k i o : Nat} (h : s.ev x = some (.vp sv k i o)) : PureV j s H ⟨dst, .nilCheck x, ty, pos, after, g⟩ (.vp sv k i o) := fun a w st => by
  have h1 := st.sl.ev h
  have h2 := h1
  simp only [conc] at h1
  obtain ⟨b, n, c, _, h1⟩ := h1
  exact ⟨_, fun w' => by simp [execOp, h1], h1 ▸ h2⟩
theorem pv_nilCheck_fn {f : FuncId} {cap : List V} (h : s.ev x = some (.fn f cap)) : PureV j s H ⟨dst, .nilCheck x, ty, pos, after, g⟩ (.fn f cap) := fun a w st => by
  have h1 := st.sl.ev h
  have h2 := h1
  simp only [conc] at h1
  obtain ⟨l, h1, _⟩ := h1
  exact ⟨_, fun w' => by simp [execOp, h1], h1 ▸ h2⟩
/-! ### What stands first -/
section
variable {u : Operand} {lo hi mx : Option Operand} {ok e : Bool} {i : Nat} {ops : Array Oper} {rest : List Oper} {Hs E1 E : List Ch} {restP : Plan}
theorem k_nilCheck (h : RL j ops (⟨dst, .nilCheck x, ty, pos, after, none⟩ :: rest) Q s H) : RL j ops (⟨dst, .nilCheck x, ty, pos, after, none⟩ :: rest) Q s H := h
theorem kd_nilCheck (h : DL TT j Hs E1 ops ((e, i, some ⟨dst, .nilCheck x, ty, pos, after, g⟩) :: restP) Q so s E) : DL TT j Hs E1 ops ((e, i, some ⟨dst, .nilCheck x, ty, pos, after, g⟩) :: restP) Q so s E := h
theorem k_slice (h : RL j ops (⟨dst, .slice T x lo hi mx, ty, pos, after, none⟩ :: rest) Q s H) : RL j ops (⟨dst, .slice T x lo hi mx, ty, pos, after, none⟩ :: rest) Q s H := h
theorem kd_slice (h : DL TT j Hs E1 ops ((e, i, some ⟨dst, .slice T x lo hi mx, ty, pos, after, g⟩) :: restP) Q so s E) : DL TT j Hs E1 ops ((e, i, some ⟨dst, .slice T x lo hi mx, ty, pos, after, g⟩) :: restP) Q so s E := h
theorem k_makeSlice (h : RL j ops (⟨dst, .makeSlice T x y, ty, pos, after, none⟩ :: rest) Q s H) : RL j ops (⟨dst, .makeSlice T x y, ty, pos, after, none⟩ :: rest) Q s H := h
theorem kd_makeSlice (h : DL TT j Hs E1 ops ((e, i, some ⟨dst, .makeSlice T x y, ty, pos, after, g⟩) :: restP) Q so s E) : DL TT j Hs E1 ops ((e, i, some ⟨dst, .makeSlice T x y, ty, pos, after, g⟩) :: restP) Q so s E := h
theorem k_makeMap (h : RL j ops (⟨dst, .makeMap T lo, ty, pos, after, none⟩ :: rest) Q s H) : RL j ops (⟨dst, .makeMap T lo, ty, pos, after, none⟩ :: rest) Q s H := h
theorem kd_makeMap (h : DL TT j Hs E1 ops ((e, i, some ⟨dst, .makeMap T lo, ty, pos, after, g⟩) :: restP) Q so s E) : DL TT j Hs E1 ops ((e, i, some ⟨dst, .makeMap T lo, ty, pos, after, g⟩) :: restP) Q so s E := h
theorem k_lookup (h : RL j ops (⟨dst, .lookup T x y ok, ty, pos, after, none⟩ :: rest) Q s H) : RL j ops (⟨dst, .lookup T x y ok, ty, pos, after, none⟩ :: rest) Q s H := h
theorem kd_lookup (h : DL TT j Hs E1 ops ((e, i, some ⟨dst, .lookup T x y ok, ty, pos, after, g⟩) :: restP) Q so s E) : DL TT j Hs E1 ops ((e, i, some ⟨dst, .lookup T x y ok, ty, pos, after, g⟩) :: restP) Q so s E := h
theorem k_mapUpdate (h : RL j ops (⟨dst, .mapUpdate T x y u, ty, pos, after, none⟩ :: rest) Q s H) : RL j ops (⟨dst, .mapUpdate T x y u, ty, pos, after, none⟩ :: rest) Q s H := h
theorem kd_mapUpdate (h : DL TT j Hs E1 ops ((e, i, some ⟨dst, .mapUpdate T x y u, ty, pos, after, g⟩) :: restP) Q so s E) : DL TT j Hs E1 ops ((e, i, some ⟨dst, .mapUpdate T x y u, ty, pos, after, g⟩) :: restP) Q so s E := h
theorem k_insert (h : RL j ops (⟨dst, .insert T x y u, ty, pos, after, none⟩ :: rest) Q s H) : RL j ops (⟨dst, .insert T x y u, ty, pos, after, none⟩ :: rest) Q s H := h
theorem kd_insert (h : DL TT j Hs E1 ops ((e, i, some ⟨dst, .insert T x y u, ty, pos, after, g⟩) :: restP) Q so s E) : DL TT j Hs E1 ops ((e, i, some ⟨dst, .insert T x y u, ty, pos, after, g⟩) :: restP) Q so s E := h
theorem k_and (h : RL j ops (⟨dst, .binOp .and T x y T', ty, pos, after, none⟩ :: rest) Q s H) : RL j ops (⟨dst, .binOp .and T x y T', ty, pos, after, none⟩ :: rest) Q s H := h
theorem kd_and (h : DL TT j Hs E1 ops ((e, i, some ⟨dst, .binOp .and T x y T', ty, pos, after, g⟩) :: restP) Q so s E) : DL TT j Hs E1 ops ((e, i, some ⟨dst, .binOp .and T x y T', ty, pos, after, g⟩) :: restP) Q so s E := h
theorem k_or (h : RL j ops (⟨dst, .binOp .or T x y T', ty, pos, after, none⟩ :: rest) Q s H) : RL j ops (⟨dst, .binOp .or T x y T', ty, pos, after, none⟩ :: rest) Q s H := h
theorem kd_or (h : DL TT j Hs E1 ops ((e, i, some ⟨dst, .binOp .or T x y T', ty, pos, after, g⟩) :: restP) Q so s E) : DL TT j Hs E1 ops ((e, i, some ⟨dst, .binOp .or T x y T', ty, pos, after, g⟩) :: restP) Q so s E := h
theorem k_xor (h : RL j ops (⟨dst, .binOp .xor T x y T', ty, pos, after, none⟩ :: rest) Q s H) : RL j ops (⟨dst, .binOp .xor T x y T', ty, pos, after, none⟩ :: rest) Q s H := h
theorem kd_xor (h : DL TT j Hs E1 ops ((e, i, some ⟨dst, .binOp .xor T x y T', ty, pos, after, g⟩) :: restP) Q so s E) : DL TT j Hs E1 ops ((e, i, some ⟨dst, .binOp .xor T x y T', ty, pos, after, g⟩) :: restP) Q so s E := h
theorem k_andNot (h : RL j ops (⟨dst, .binOp .andNot T x y T', ty, pos, after, none⟩ :: rest) Q s H) : RL j ops (⟨dst, .binOp .andNot T x y T', ty, pos, after, none⟩ :: rest) Q s H := h
theorem kd_andNot (h : DL TT j Hs E1 ops ((e, i, some ⟨dst, .binOp .andNot T x y T', ty, pos, after, g⟩) :: restP) Q so s E) : DL TT j Hs E1 ops ((e, i, some ⟨dst, .binOp .andNot T x y T', ty, pos, after, g⟩) :: restP) Q so s E := h
theorem k_shl (h : RL j ops (⟨dst, .binOp .shl T x y T', ty, pos, after, none⟩ :: rest) Q s H) : RL j ops (⟨dst, .binOp .shl T x y T', ty, pos, after, none⟩ :: rest) Q s H := h
theorem kd_shl (h : DL TT j Hs E1 ops ((e, i, some ⟨dst, .binOp .shl T x y T', ty, pos, after, g⟩) :: restP) Q so s E) : DL TT j Hs E1 ops ((e, i, some ⟨dst, .binOp .shl T x y T', ty, pos, after, g⟩) :: restP) Q so s E := h
theorem k_shr (h : RL j ops (⟨dst, .binOp .shr T x y T', ty, pos, after, none⟩ :: rest) Q s H) : RL j ops (⟨dst, .binOp .shr T x y T', ty, pos, after, none⟩ :: rest) Q s H := h
theorem kd_shr (h : DL TT j Hs E1 ops ((e, i, some ⟨dst, .binOp .shr T x y T', ty, pos, after, g⟩) :: restP) Q so s E) : DL TT j Hs E1 ops ((e, i, some ⟨dst, .binOp .shr T x y T', ty, pos, after, g⟩) :: restP) Q so s E := h
theorem by_fill {pl : Nat → Option (Nat × Nat)} {L : Nat} {cs ds : List V} {ps : List (Nat × V)} (h : fillV pl L cs ps = some ds := by first | (simp only [fillV, setAll, V.cells, List.set_cons_zero, List.set_cons_succ, List.drop_succ_cons, List.drop_zero, List.take_succ_cons, List.take_zero, List.take_nil, List.drop_nil, List.map_cons, List.map_nil, List.toList_toArray, Value.cells, List.cons_append, List.nil_append]; rfl) | rfl) : fillV pl L cs ps = some ds := h
theorem by_rows {vs : List V} {rows : List (List V)} (h : vs.map V.cells = rows := by first | (simp only [List.map_cons, List.map_nil, V.cells]; rfl) | rfl) : vs.map V.cells = rows := h
theorem by_bound {p : Prop} (h : p := by first | omega | decide | (simp only [List.length_cons, List.length_nil, List.length_map, List.length_append]; omega) | assumption) : p := h
end
/-! ### Slicing -/
theorem concRows_drop {w : World} {ow : Nat → Prop} {b k : Nat} : ∀ (n : Nat) {o : Nat} {rows : List (List V)}, concRows w ow b k o rows → concRows w ow b k (o + n * k) (rows.drop n)
  | 0, o, rows, h => by simpa using h
  | n + 1, o, [], h => by simp [concRows]
  | n + 1, o, r :: rows, h => by
    simp only [concRows] at h
    have := concRows_drop n h.2.2
    rwa [Nat.add_assoc, Nat.add_comm k, ← Nat.succ_mul] at this
theorem concRows_take {w : World} {ow : Nat → Prop} {b k : Nat} : ∀ (n : Nat) {o : Nat} {rows : List (List V)}, concRows w ow b k o rows → concRows w ow b k o (rows.take n)
  | 0, o, rows, h => by simp [concRows]
  | n + 1, o, [], h => by simp [concRows]
  | n + 1, o, r :: rows, h => by
    simp only [concRows] at h
    exact ⟨h.1, h.2.1, concRows_take n h.2.2⟩
/-- The bounds of a slicing. -/
def Sl.lo (s : Sl) : Option Operand → Option Int
  | none => some 0
  | some x => match s.ev x with
    | some (.raw (.int _ n)) => some n
    | _ => none
def Sl.hi (s : Sl) (len : Nat) : Option Operand → Option Int
  | none => some len
  | some x => match s.ev x with
    | some (.raw (.int _ n)) => some n
    | _ => none
theorem lo_form {a : Act} {w : World} {lo : Option Operand} {l : Int} (st : St j s H a w) (h : s.lo lo = some l) : (lo.map a.eval = none ∧ l = 0) ∨ ∃ k, lo.map a.eval = some (.int k l) := by
  cases lo with
  | none => simp only [Sl.lo, Option.some.injEq] at h; exact .inl ⟨rfl, h.symm⟩
  | some x =>
    right
    simp only [Sl.lo] at h
    split at h
    · rename_i k n e
      simp only [Option.some.injEq] at h
      subst h
      have := st.sl.ev e
      simp only [conc] at this
      exact ⟨k, by simp [this]⟩
    · cases h
theorem hi_form {a : Act} {w : World} {hi : Option Operand} {l : Int} {n : Nat} (st : St j s H a w) (h : s.hi n hi = some l) : (hi.map a.eval = none ∧ l = n) ∨ ∃ k, hi.map a.eval = some (.int k l) := by
  cases hi with
  | none => simp only [Sl.hi, Option.some.injEq] at h; exact .inl ⟨rfl, h.symm⟩
  | some x =>
    right
    simp only [Sl.hi] at h
    split at h
    · rename_i k m e
      simp only [Option.some.injEq] at h
      subst h
      have := st.sl.ev e
      simp only [conc] at this
      exact ⟨k, by simp [this]⟩
    · cases h
theorem run_bounds {w : World} {isS : Bool} {len cap : Nat} {lo hi : Option Value} {l h : Int} (hl : (lo = none ∧ l = 0) ∨ ∃ k, lo = some (.int k l)) (hh : (hi = none ∧ h = len) ∨ ∃ k, hi = some (.int k h)) (h0 : 0 ≤ l) (h1 : l ≤ h) (h2 : h ≤ len) (hc : len ≤ cap) :
    (Instr.sliceBounds isS len cap lo hi none).run P w = .ok (l.toNat, h.toNat, cap) w := by
  rcases hl with ⟨rfl, rfl⟩ | ⟨k, rfl⟩ <;> rcases hh with ⟨rfl, rfl⟩ | ⟨k', rfl⟩
  · simp [Instr.sliceBounds]
  · have : 0 ≤ h ∧ h ≤ (cap : Int) := ⟨by omega, by omega⟩
    simp [Instr.sliceBounds, Instr.sliceBound, asIntOf, this]
  · have : 0 ≤ l ∧ l ≤ (len : Int) := ⟨by omega, by omega⟩
    simp [Instr.sliceBounds, Instr.sliceBound, asIntOf, this]
  · have e1 : 0 ≤ h ∧ h ≤ (cap : Int) := ⟨by omega, by omega⟩
    have e2 : 0 ≤ l ∧ l ≤ ((h.toNat : Nat) : Int) := ⟨by omega, by omega⟩
    have e3 : l ≤ max h 0 := by omega
    simp [Instr.sliceBounds, Instr.sliceBound, asIntOf, e1, h0, e3]
theorem pv_slice_ro {e : Nat} {DE : TypeDesc} {zT : Value} {szT bsT : Nat} {rows : List (List V)} {lo hi : Option Operand} {l h : Int} [t : Ty P T (.slice e) szT bsT zT] [te : Ty P e DE sz bs z]
    (hx : s.ev x = some (.ro rows)) (hl : s.lo lo = some l) (hh : s.hi rows.length hi = some h) (hb : 0 ≤ l ∧ l ≤ h ∧ h ≤ (rows.length : Int)) (hr : ∀ r ∈ rows, r.length = sz) :
    PureV j s H ⟨dst, .slice T x lo hi none, ty, pos, after, g⟩ (.ro ((rows.drop l.toNat).take (h.toNat - l.toNat))) := fun a w st => by
  have h1 := st.sl.ev hx
  simp only [conc] at h1
  obtain ⟨A, c, h1, h2, h3, h4⟩ := h1
  have hlo := lo_form st hl
  have hhi := hi_form st hh
  obtain ⟨b0, b1, b2⟩ := hb
  refine ⟨.slice (if c = l.toNat then A else A.map (·.add (l.toNat * sz))) (h.toNat - l.toNat) (c - l.toNat), fun w' => ?_, ?_⟩
  · have hbd := run_bounds (P := P) (w := w') (isS := true) hlo hhi b0 b1 b2 h2
    simp [execOp, h1, Instr.sliceAt, run_underlying t.u, Instr.slice, hbd, te.sizeOf]
  · simp only [conc]
    have hlen : ((rows.drop l.toNat).take (h.toNat - l.toNat)).length = h.toNat - l.toNat := by
      simp only [List.length_take, List.length_drop]; omega
    refine ⟨_, _, by rw [hlen], by rw [hlen]; omega, by omega, ?_⟩
    by_cases hz : h.toNat - l.toNat = 0
    · left
      refine ⟨by rw [hz]; simp, fun hn => ?_⟩
      split at hn
      · omega
      · rcases h4 with ⟨rfl, h5⟩ | ⟨b, o, k, rfl, _⟩
        · simp only [Option.map_eq_none_iff] at hn
          have := h5 hn
          omega
        · simp at hn
    · right
      rcases h4 with ⟨rfl, h5⟩ | ⟨b, o, k, rfl, q1, q2, q3⟩
      · simp at b2; omega
      · have hk : k = sz := by
          cases rows with
          | nil => simp at b2; omega
          | cons r rows =>
            have := hr r (List.mem_cons_self ..)
            simp only [concRows] at q3
            omega
        subst hk
        have hc : c ≠ l.toNat := by omega
        refine ⟨b, o + l.toNat * k, k, by simp [hc, Addr.add_lit], q1, q2, concRows_take _ (concRows_drop _ q3)⟩
theorem pv_slice_str {zT : Value} {szT bsT : Nat} {p : ByteArray} {lo hi : Option Operand} {l h : Int} [t : Ty P T .string szT bsT zT]
    (hx : s.ev x = some (.raw (.string p))) (hl : s.lo lo = some l) (hh : s.hi p.size hi = some h) (hb : 0 ≤ l ∧ l ≤ h ∧ h ≤ (p.size : Int)) :
    PureV j s H ⟨dst, .slice T x lo hi none, ty, pos, after, g⟩ (.raw (.string (p.extract l.toNat h.toNat))) := fun a w st => by
  have h1 := st.sl.ev hx
  simp only [conc] at h1
  have hlo := lo_form st hl
  have hhi := hi_form st hh
  obtain ⟨b0, b1, b2⟩ := hb
  refine ⟨_, fun w' => ?_, rfl⟩
  have hbd := run_bounds (P := P) (w := w') (isS := false) (len := p.size) (cap := p.size) hlo hhi b0 b1 b2 (Nat.le_refl _)
  simp [execOp, h1, Instr.sliceAt, run_underlying t.u, Instr.slice, hbd]
/-! ### Bits -/
def iand (k : IntKind) (m n : Int) : Int := k.wrap ((BitVec.ofInt k.bits m &&& BitVec.ofInt k.bits n).toNat : Int)
def ior (k : IntKind) (m n : Int) : Int := k.wrap ((BitVec.ofInt k.bits m ||| BitVec.ofInt k.bits n).toNat : Int)
def ixor (k : IntKind) (m n : Int) : Int := k.wrap ((BitVec.ofInt k.bits m ^^^ BitVec.ofInt k.bits n).toNat : Int)
def iandNot (k : IntKind) (m n : Int) : Int := k.wrap ((BitVec.ofInt k.bits m &&& ~~~(BitVec.ofInt k.bits n)).toNat : Int)
def ishl (k : IntKind) (m n : Int) : Int := k.wrap (m * 2 ^ (min n.toNat k.bits))
def ishr (k : IntKind) (m n : Int) : Int := m.fdiv (2 ^ (min n.toNat k.bits))
section
variable {k k' : IntKind} {m n : Int}
theorem pv_and (hx : s.ev x = some (.raw (.int k m))) (hy : s.ev y = some (.raw (.int k n))) : PureV j s H ⟨dst, .binOp .and T x y T', ty, pos, after, g⟩ (.raw (.int k (iand k m n))) :=
  pv_bits hx hy (fun w => by simp [Op.intBits, iand]) rfl
theorem pv_or (hx : s.ev x = some (.raw (.int k m))) (hy : s.ev y = some (.raw (.int k n))) : PureV j s H ⟨dst, .binOp .or T x y T', ty, pos, after, g⟩ (.raw (.int k (ior k m n))) :=
  pv_bits hx hy (fun w => by simp [Op.intBits, ior]) rfl
theorem pv_xor (hx : s.ev x = some (.raw (.int k m))) (hy : s.ev y = some (.raw (.int k n))) : PureV j s H ⟨dst, .binOp .xor T x y T', ty, pos, after, g⟩ (.raw (.int k (ixor k m n))) :=
  pv_bits hx hy (fun w => by simp [Op.intBits, ixor]) rfl
theorem pv_andNot (hx : s.ev x = some (.raw (.int k m))) (hy : s.ev y = some (.raw (.int k n))) : PureV j s H ⟨dst, .binOp .andNot T x y T', ty, pos, after, g⟩ (.raw (.int k (iandNot k m n))) :=
  pv_bits hx hy (fun w => by simp [Op.intBits, iandNot]) rfl
theorem pv_shl (hx : s.ev x = some (.raw (.int k m))) (hy : s.ev y = some (.raw (.int k' n))) (h : 0 ≤ n) : PureV j s H ⟨dst, .binOp .shl T x y T', ty, pos, after, g⟩ (.raw (.int k (ishl k m n))) :=
  pv_shift hx hy (fun w => by simp [Op.shift, ishl, show ¬ n < 0 by omega]) rfl
theorem pv_shr (hx : s.ev x = some (.raw (.int k m))) (hy : s.ev y = some (.raw (.int k' n))) (h : 0 ≤ n) : PureV j s H ⟨dst, .binOp .shr T x y T', ty, pos, after, g⟩ (.raw (.int k (ishr k m n))) :=
  pv_shift hx hy (fun w => by simp [Op.shift, ishr, show ¬ n < 0 by omega]) rfl
theorem iand_nat (a b : Nat) (ha : a < 2 ^ 63) (hb : b < 2 ^ 63) : iand .i64 a b = ((a &&& b : Nat) : Int) := by
  have h1 : (BitVec.ofInt 64 (a : Int) &&& BitVec.ofInt 64 (b : Int)).toNat = a &&& b := by
    rw [BitVec.toNat_and, BitVec.toNat_ofInt, BitVec.toNat_ofInt]
    have e1 : ((a : Int) % ((2 ^ 64 : Nat) : Int)).toNat = a := by omega
    have e2 : ((b : Int) % ((2 ^ 64 : Nat) : Int)).toNat = b := by omega
    rw [e1, e2]
  have h2 : a &&& b ≤ a := Nat.and_le_left
  show IntKind.i64.wrap ((BitVec.ofInt 64 (a : Int) &&& BitVec.ofInt 64 (b : Int)).toNat : Int) = _
  rw [h1]
  exact IntWalk.i64_in _ (by omega)
theorem ior_nat (a b : Nat) (ha : a < 2 ^ 63) (hb : b < 2 ^ 63) : ior .i64 a b = ((a ||| b : Nat) : Int) := by
  have h1 : (BitVec.ofInt 64 (a : Int) ||| BitVec.ofInt 64 (b : Int)).toNat = a ||| b := by
    rw [BitVec.toNat_or, BitVec.toNat_ofInt, BitVec.toNat_ofInt]
    have e1 : ((a : Int) % ((2 ^ 64 : Nat) : Int)).toNat = a := by omega
    have e2 : ((b : Int) % ((2 ^ 64 : Nat) : Int)).toNat = b := by omega
    rw [e1, e2]
  have h2 : a ||| b < 2 ^ 63 := Nat.or_lt_two_pow ha hb
  show IntKind.i64.wrap ((BitVec.ofInt 64 (a : Int) ||| BitVec.ofInt 64 (b : Int)).toNat : Int) = _
  rw [h1]
  exact IntWalk.i64_in _ (by omega)
/-- A mask of low bits. -/
theorem iand_mask (m : Int) (q : Nat) (hq : q ≤ 62) : iand .i64 m (((2 ^ q - 1 : Nat)) : Int) = m % ((2 ^ q : Nat) : Int) := by
  have hp : 2 ^ q ≤ 2 ^ 62 := Nat.pow_le_pow_right (by decide) hq
  have hpos : 0 < 2 ^ q := Nat.two_pow_pos q
  have h1 : (BitVec.ofInt 64 m &&& BitVec.ofInt 64 ((2 ^ q - 1 : Nat) : Int)).toNat = (m % ((2 ^ q : Nat) : Int)).toNat := by
    rw [BitVec.toNat_and, BitVec.toNat_ofInt, BitVec.toNat_ofInt]
    have e2 : (((2 ^ q - 1 : Nat) : Int) % ((2 ^ 64 : Nat) : Int)).toNat = 2 ^ q - 1 := by
      rw [Int.emod_eq_of_lt (by omega) (by omega)]
      omega
    rw [e2, Nat.and_two_pow_sub_one_eq_mod]
    have hd : ((2 ^ q : Nat) : Int) ∣ ((2 ^ 64 : Nat) : Int) := Int.natCast_dvd_natCast.2 (Nat.pow_dvd_pow 2 (by omega))
    have e3 : (m % ((2 ^ 64 : Nat) : Int)) % ((2 ^ q : Nat) : Int) = m % ((2 ^ q : Nat) : Int) := Int.emod_emod_of_dvd m hd
    have h64 : 0 ≤ m % ((2 ^ 64 : Nat) : Int) := Int.emod_nonneg _ (by omega)
    have : (((m % ((2 ^ 64 : Nat) : Int)).toNat % 2 ^ q : Nat) : Int) = m % ((2 ^ q : Nat) : Int) := by
      rw [Int.natCast_emod, Int.toNat_of_nonneg h64, e3]
    omega
  show IntKind.i64.wrap ((BitVec.ofInt 64 m &&& BitVec.ofInt 64 ((2 ^ q - 1 : Nat) : Int)).toNat : Int) = _
  rw [h1]
  have h2 : 0 ≤ m % ((2 ^ q : Nat) : Int) := Int.emod_nonneg _ (by omega)
  have h3 : m % ((2 ^ q : Nat) : Int) < ((2 ^ q : Nat) : Int) := Int.emod_lt_of_pos _ (by omega)
  rw [Int.toNat_of_nonneg h2]
  exact IntWalk.i64_in _ (by omega)
end
/-! ### New slices -/
theorem st_grown {a : Act} {w w' : World} {sv : Value} {e k : Nat} {rows : List (List V)} {l : List Value} (st : St j s H a w) (hg : w.grownBy w' none) (ho : w'.ownsRow w.heap.size e k sv rows.length l)
    (hl : ∀ ow, concL w' ow rows.flatten l) (h1 : ∀ y ∈ l, y.oneCell' = true) (hr : ∀ r ∈ rows, r.length = k) : St j s (.vec sv e k rows :: H) a w' := by
  have hlt : ∀ b, own [Ch.vec sv e k rows] b → w.heap.size ≤ b := fun b hb => by
    obtain ⟨c, hc, hcb⟩ := List.mem_filterMap.1 hb
    rw [List.mem_singleton.1 hc] at hcb
    exact (ho.lt b hcb).1
  have ev : Evo (own []) w (own [Ch.vec sv e k rows]) w' := ⟨hg.os, hg.tape, hg.output, hg.size, fun b hb _ => hg.block b hb (by simp), fun b hb => .inr (hlt b hb)⟩
  exact (St.eff (Hf := []) (Hf' := [.vec sv e k rows]) (Hr := H) st (.refl _) ev (by simp only [blks, List.filterMap_cons, List.filterMap_nil, Ch.blk]; cases sv.ownBlock <;> simp) (fun c hc => by
    rw [List.mem_singleton.1 hc]
    exact ⟨l, ownsRow_base ho (Nat.zero_le _), hl _, h1, hr⟩)).1
/-- 'make([]T, n)' for a type of one cell. -/
theorem op_makeSlice {e : Nat} {DE : TypeDesc} {zs : Value} {szT bsT : Nat} {k1 k2 : IntKind} {n : Nat} [t : Ty P T (.slice e) szT bsT zs] [te : Ty P e DE 1 bs z]
    (hx : s.ev x = some (.raw (.int k1 n))) (hy : s.ev y = some (.raw (.int k2 n))) (hz : z.cells = #[z]) (h1 : z.oneCell' = true) (hb : bs * n ≤ 281474976710656) (hc : n ≤ 16777216) (hN : Nat.blt d N = true)
    (h : ∀ sv, K ((d, .own sv) :: s) (.vec sv e 1 (List.replicate n [.raw z]) :: H)) : OP j ⟨some d, .makeSlice T x y, ty, pos, after, none⟩ K Q s H :=
  op_eff rfl hN fun a w st => by
    have e1 := st.sl.ev hx
    have e2 := st.sl.ev hy
    simp only [conc] at e1 e2
    obtain ⟨i, hi1, hi2, hi3, hi4⟩ := te.i
    obtain ⟨w', hr, ho, hg⟩ := run_makeSlice_full (P := P) w w.heap.size T e i z 1 t.u hi1 hi4 hi2 k1 k2 n (by omega) (by rw [hi3]; exact hb) (by simp [maxLen]; omega) (Nat.le_refl _)
    have hcl : (madeCells z.cells (n * 1)).toList = List.replicate n z := by rw [hz, Nat.mul_one, toList_madeCells_one]
    rw [hcl] at ho
    have hcc : ∀ (m : Nat) (ow : Nat → Prop), concL w' ow (List.replicate m [V.raw z]).flatten (List.replicate m z) := fun m ow => by
      induction m with
      | zero => rfl
      | succ m ih => exact ⟨z, List.replicate m z, rfl, rfl, ih⟩
    refine ⟨.slice (some ⟨w.heap.size, 0, none⟩) n n, w', .own (.slice (some ⟨w.heap.size, 0, none⟩) n n), _, by simp [execOp, e1, e2, hr], st_grown st hg (rows := List.replicate n [.raw z]) (by simpa using ho) (fun ow => hcc n ow) (fun y hy => by rw [List.eq_of_mem_replicate hy]; exact h1) (fun r hr => by rw [List.eq_of_mem_replicate hr]; rfl), ?_, h _⟩
    simp only [conc]
    exact ⟨trivial, rfl⟩
end Go.AX

set_option linter.unusedVariables false
set_option linter.unusedSimpArgs false
namespace Go.AX
variable {P : Program} {N : Nat} {j : J P N} {Q : Exit → Sl → List Ch → Prop} {K : Sl → List Ch → Prop} {s so : Sl} {H : List Ch}
variable {d : Nat} {dst : Option Tmp} {ty : TypeId} {pos : String} {after : Array Edge} {g : Option (Nat × Bool)} {T T' : TypeId} {x y u : Operand} {D : TypeDesc} {sz bs : Nat} {z : Value}
def KeyOf (kk : SK) (v : Value) : Prop := match kk with
  | .int k => ∃ n, v = .int k n
  | .str => ∃ p, v = .string p
  | .bool => ∃ b, v = .bool b
/-- Equal keys. -/
def keyB : Value → Value → Bool
  | .int k a, .int k' b => decide (k = k') && decide (a = b)
  | .string a, .string b => decide (a = b)
  | .bool a, .bool b => a == b
  | _, _ => false
theorem keyB_iff {kk : SK} {a b : Value} (ha : KeyOf kk a) : keyB a b = true ↔ a = b := by
  cases kk with
  | int k => obtain ⟨m, rfl⟩ := ha; cases b <;> simp [keyB]
  | str => obtain ⟨m, rfl⟩ := ha; cases b <;> simp [keyB]
  | bool => obtain ⟨m, rfl⟩ := ha; cases b <;> simp [keyB]
theorem run_getM {w : World} {r : Nat} {o : Obj} (hb : w.heap[r]? = some o) (hk : ∀ c t f, o ≠ .cells c t f) : (getObj r).run P w = .ok o w := by
  cases o <;> first | exact absurd rfl (hk _ _ _) | simp [getObj, Sem.run, hb]
theorem run_setM {w : World} {r : Nat} {o : Obj} (o' : Obj) (hb : w.heap[r]? = some o) (hk : ∀ c t f, o ≠ .cells c t f) : (setObj r o').run P w = .ok () { w with heap := w.heap.setIfInBounds r o' } := by
  cases o <;> first | exact absurd rfl (hk _ _ _) | simp [setObj, Sem.run, hb]
theorem same_key {kk : SK} {a b : Value} (ha : KeyOf kk a) (hb : KeyOf kk b) : Instr.sameNow kk.desc a b = some (keyB a b) := by
  cases kk with
  | int k =>
    obtain ⟨m, rfl⟩ := ha
    obtain ⟨n, rfl⟩ := hb
    simp [SK.desc, Instr.sameNow, keyB]
    rw [Bool.eq_iff_iff]
    simp
  | str =>
    obtain ⟨m, rfl⟩ := ha
    obtain ⟨n, rfl⟩ := hb
    simp only [SK.desc, Instr.sameNow, Option.some.injEq, beq_toListBytes, ba_beq, keyB]
  | bool =>
    obtain ⟨m, rfl⟩ := ha
    obtain ⟨n, rfl⟩ := hb
    simp [SK.desc, Instr.sameNow, keyB]
/-- What a map gives for a key. -/
def entry (l : List MapEntry) (k : Value) : Option Value := (l.find? fun e => keyB k e.key).map (·.val)
def AllKeys (kk : SK) (l : List MapEntry) : Prop := ∀ e ∈ l, KeyOf kk e.key
theorem findNow_spec {kk : SK} {k : Value} (hk : KeyOf kk k) : ∀ {l : List MapEntry} (i : Nat), AllKeys kk l →
    ∃ r, Instr.findNow kk.desc k l i = some r ∧ ((r = none ∧ entry l k = none) ∨ ∃ q e, r = some (i + q, e.val) ∧ l[q]? = some e ∧ e.key = k ∧ entry l k = some e.val ∧ ∀ p e', p < q → l[p]? = some e' → e'.key ≠ k)
  | [], i, _ => ⟨none, rfl, .inl ⟨rfl, rfl⟩⟩
  | e :: l, i, h => by
    have he := h e (List.mem_cons_self ..)
    have hs := same_key hk he
    cases hke : keyB k e.key with
    | true =>
      have := (keyB_iff hk).1 hke
      exact ⟨some (i, e.val), by simp only [Instr.findNow, hs, hke], .inr ⟨0, e, rfl, rfl, this.symm, by simp [entry, hke], fun p e' hp => by omega⟩⟩
    | false =>
      have hne : k ≠ e.key := fun h => by rw [(keyB_iff hk).2 h] at hke; cases hke
      obtain ⟨r, h1, h2⟩ := findNow_spec hk (i + 1) (l := l) (fun e he => h e (List.mem_cons_of_mem _ he))
      refine ⟨r, by simp only [Instr.findNow, hs, hke, h1], ?_⟩
      rcases h2 with ⟨rfl, h2⟩ | ⟨q, e', rfl, h3, h4, h5, h6⟩
      · refine .inl ⟨rfl, ?_⟩
        simp only [entry, List.find?_cons, hke] at h2 ⊢
        exact h2
      · refine .inr ⟨q + 1, e', by rw [Nat.add_assoc, Nat.add_comm 1], by simpa using h3, h4, ?_, fun p e'' hp hpe => ?_⟩
        · simp only [entry, List.find?_cons, hke] at h5 ⊢
          exact h5
        · cases p with
          | zero => simp at hpe; subst hpe; exact fun h => hne h.symm
          | succ p => exact h6 p e'' (by omega) (by simpa using hpe)
theorem entry_set {kk : SK} {k v : Value} {k' : Value} (hk' : KeyOf kk k') : ∀ {l : List MapEntry} {q : Nat} {e : MapEntry}, l[q]? = some e → e.key = k → (∀ p e', p < q → l[p]? = some e' → e'.key ≠ k) → entry (l.set q { e with key := k, val := v }) k' = if keyB k' k then some v else entry l k'
  | [], q, e, h, _, _ => by simp at h
  | e0 :: l, 0, e, h, hk, _ => by
    simp at h
    subst h
    simp only [List.set_cons_zero, entry, List.find?_cons, hk]
    cases keyB k' k <;> simp
  | e0 :: l, q + 1, e, h, hk, hp => by
    have h0 : e0.key ≠ k := hp 0 e0 (by omega) rfl
    have ih := entry_set hk' (v := v) (l := l) (q := q) (by simpa using h) hk (fun p e' hpq hpe => hp (p + 1) e' (by omega) (by simpa using hpe))
    simp only [List.set_cons_succ, entry, List.find?_cons] at ih ⊢
    cases hq : keyB k' e0.key with
    | true =>
      have e1 := (keyB_iff hk').1 hq
      have : keyB k' k = false := by
        cases h2 : keyB k' k
        · rfl
        · exact absurd (e1.symm.trans ((keyB_iff hk').1 h2)) h0
      simp [this]
    | false => exact ih
theorem entry_push {kk : SK} {k v : Value} {b : Nat} {k' : Value} (hk : KeyOf kk k) (hk' : KeyOf kk k') : ∀ {l : List MapEntry}, entry l k = none → entry (l ++ [⟨k, v, b⟩]) k' = if keyB k' k then some v else entry l k'
  | [], _ => by
    simp only [List.nil_append, entry, List.find?_cons, List.find?_nil]
    cases keyB k' k <;> simp
  | e0 :: l, h => by
    simp only [entry, List.find?_cons] at h
    cases h0 : keyB k e0.key with
    | true => simp [h0] at h
    | false =>
      simp only [h0] at h
      have ih := entry_push hk hk' (v := v) (b := b) (l := l) h
      simp only [List.cons_append, entry, List.find?_cons] at ih ⊢
      cases hq : keyB k' e0.key with
      | true =>
        have e1 := (keyB_iff hk').1 hq
        have : keyB k' k = false := by
          cases h2 : keyB k' k
          · rfl
          · have e2 := (keyB_iff hk').1 h2
            rw [← e2, hq] at h0
            cases h0
        simp [this]
      | false => exact ih
/-- A map, told by what it gives. -/
structure MapOf (kk : SK) (es : Array MapEntry) (f : Value → Option Value) : Prop where
  keys : AllKeys kk es.toList
  gets : ∀ k, KeyOf kk k → entry es.toList k = f k
  one : ∀ k v, f k = some v → v.oneCell' = true
def mput (f : Value → Option Value) (k v : Value) : Value → Option Value := fun k' => if keyB k' k then some v else f k'
theorem mapOf_empty {kk : SK} : MapOf kk #[] fun _ => none := ⟨fun e h => by simp at h, fun k _ => rfl, fun k v h => by cases h⟩
theorem run_checkKey {kk : SK} {t : TypeId} (ht : P.underlying t = some kk.desc) {k : Value} (hk : KeyOf kk k) (e : Bool) (n : Nat) (w : World) : (Instr.checkKey e (n + 1) t k).run P w = .ok () w := by
  unfold Instr.checkKey
  cases kk with
  | int q => obtain ⟨m, rfl⟩ := hk; simp [run_underlying ht, SK.desc]
  | str => obtain ⟨m, rfl⟩ := hk; simp [run_underlying ht, SK.desc]
  | bool => obtain ⟨m, rfl⟩ := hk; simp [run_underlying ht, SK.desc]
theorem same_bits {kk : SK} {k : Value} (hk : KeyOf kk k) : Instr.sameBits 10000 k k = true := by
  cases kk with
  | int q => obtain ⟨n, rfl⟩ := hk; simp [Instr.sameBits]
  | str => obtain ⟨n, rfl⟩ := hk; simp only [Instr.sameBits, beq_toListBytes]; simp
  | bool => obtain ⟨n, rfl⟩ := hk; simp [Instr.sameBits]
theorem run_keyStays {kk : SK} {k : Value} (hk : KeyOf kk k) (w : World) : (Instr.keyThatStays k k).run P w = .ok k w := by
  simp [Instr.keyThatStays, same_bits hk]
class KeyT (P : Program) (t : TypeId) (kk : outParam SK) : Prop where
  u : P.underlying t = some kk.desc
/-- A lookup. -/
theorem pv_lookup {kt et : TypeId} {kk : SK} {b : Nat} {es : Array MapEntry} {clock : Nat} {f : Value → Option Value} {k : Value} {DE : TypeDesc} {zM : Value} {sM bM : Nat} [t : Ty P T (.map kt et) sM bM zM] [tk : KeyT P kt kk] [te : Ty P et DE sz bs z]
    (hx : s.ev x = some (.raw (.map (some b)))) (hy : s.ev y = some (.raw k)) (hk : KeyOf kk k) (hm : Ch.obj b (.map es clock) ∈ H ++ j.F) (hM : MapOf kk es f) :
    ValV j s H ⟨dst, .lookup T x y false, ty, pos, after, g⟩ (.raw ((f k).getD z)) := fun a w st => by
  have h1 := st.sl.ev hx
  have h2 := st.sl.ev hy
  simp only [conc] at h1 h2
  have hb : w.heap[b]? = some (.map es clock) := st.hp.sat _ hm
  obtain ⟨r, k1, k2⟩ := findNow_spec hk (l := es.toList) 0 hM.keys
  have hf := hM.gets k hk
  have hfind : (Instr.findKey kt k es.toList).run P w = .ok r w := by simp [Instr.findKey, run_underlying tk.u, k1]
  refine ⟨(f k).getD z, ?_, rfl⟩
  simp only [execOp, h1, h2, Instr.lookup, Sem.run_bind, run_underlying t.u, Result.andThen_ok, run_getM hb (by intros; simp), Sem.run_pure, run_checkKey tk.u hk _ 9999, hfind]
  rcases k2 with ⟨rfl, k3⟩ | ⟨q, e, rfl, _, _, k3, _⟩
  · rw [← hf, k3]
    simp [te.zeroValue]
  · rw [← hf, k3]
    simp
theorem pv_lookup_ok {kt et : TypeId} {kk : SK} {b : Nat} {es : Array MapEntry} {clock : Nat} {f : Value → Option Value} {k : Value} {DE : TypeDesc} {zM : Value} {sM bM : Nat} [t : Ty P T (.map kt et) sM bM zM] [tk : KeyT P kt kk] [te : Ty P et DE sz bs z]
    (hx : s.ev x = some (.raw (.map (some b)))) (hy : s.ev y = some (.raw k)) (hk : KeyOf kk k) (hm : Ch.obj b (.map es clock) ∈ H ++ j.F) (hM : MapOf kk es f) :
    ValV j s H ⟨dst, .lookup T x y true, ty, pos, after, g⟩ (.tup [.raw ((f k).getD z), .raw (.bool (f k).isSome)]) := fun a w st => by
  have h1 := st.sl.ev hx
  have h2 := st.sl.ev hy
  simp only [conc] at h1 h2
  have hb : w.heap[b]? = some (.map es clock) := st.hp.sat _ hm
  obtain ⟨r, k1, k2⟩ := findNow_spec hk (l := es.toList) 0 hM.keys
  have hf := hM.gets k hk
  have hfind : (Instr.findKey kt k es.toList).run P w = .ok r w := by simp [Instr.findKey, run_underlying tk.u, k1]
  refine ⟨.tuple #[(f k).getD z, .bool (f k).isSome], ?_, ⟨[_, _], rfl, _, _, rfl, rfl, _, _, rfl, rfl, rfl⟩⟩
  simp only [execOp, h1, h2, Instr.lookup, Sem.run_bind, run_underlying t.u, Result.andThen_ok, run_getM hb (by intros; simp), Sem.run_pure, run_checkKey tk.u hk _ 9999, hfind]
  rcases k2 with ⟨rfl, k3⟩ | ⟨q, e, rfl, _, _, k3, _⟩
  · rw [← hf, k3]
    simp [te.zeroValue]
  · rw [← hf, k3]
    simp
theorem evo_setObj {w : World} {b : Nat} {o o' : Obj} : Evo (own [Ch.obj b o]) w (own [Ch.obj b o]) { w with heap := w.heap.setIfInBounds b o' } :=
  ⟨rfl, rfl, rfl, by simp, fun k _ hk => by
    have : b ≠ k := fun h => hk (by simp [own, blks, Ch.blk, h])
    simp [Array.getElem?_setIfInBounds, this], fun k hk => .inl hk⟩
theorem st_setObj {a : Act} {w : World} {b : Nat} {o o' : Obj} {H' : List Ch} (st : St j s H a w) (hu : Upd (.obj b o) (.obj b o') H H') : St j s H' a { w with heap := w.heap.setIfInBounds b o' } := by
  have hb : w.heap[b]? = some o := st.hp.sat _ (List.mem_append_left _ hu.mem)
  have hlt := (Array.getElem?_eq_some_iff.1 hb).1
  exact (St.upd st hu rfl evo_setObj (by show _ = _; simp [Array.getElem?_setIfInBounds, hlt])).1
/-- What an update leaves in the map. -/
theorem run_update {kk : SK} {kt et : TypeId} {b : Nat} {es : Array MapEntry} {clock : Nat} {f : Value → Option Value} {k v : Value} {zM : Value} {sM bM : Nat} (t : Ty P T (.map kt et) sM bM zM) (tk : KeyT P kt kk) (hk : KeyOf kk k) (hv : v.oneCell' = true) {w : World}
    (hb : w.heap[b]? = some (.map es clock)) (hM : MapOf kk es f) : ∃ es' clock', (Instr.mapUpdate T (.map (some b)) k v).run P w = .ok () { w with heap := w.heap.setIfInBounds b (.map es' clock') } ∧ MapOf kk es' (mput f k v) := by
  obtain ⟨r, k1, k2⟩ := findNow_spec hk (l := es.toList) 0 hM.keys
  have hfind : (Instr.findKey kt k es.toList).run P w = .ok r w := by simp [Instr.findKey, run_underlying tk.u, k1]
  have one : ∀ k' u, mput f k v k' = some u → u.oneCell' = true := fun k' u h => by
    simp only [mput] at h
    split at h
    · cases h; exact hv
    · exact hM.one k' u h
  rcases k2 with ⟨rfl, k3⟩ | ⟨q, e, rfl, h3, h4, h5, h6⟩
  · refine ⟨es.push ⟨k, v, clock⟩, clock + 1, ?_, ⟨fun e he => ?_, fun k' hk' => ?_, one⟩⟩
    · simp [Instr.mapUpdate, run_underlying t.u, run_getM hb (by intros; simp), run_checkKey tk.u hk _ 9999, hfind, run_setM _ hb (by intros; simp)]
    · simp only [Array.toList_push, List.mem_append, List.mem_singleton] at he
      rcases he with he | rfl
      · exact hM.keys e he
      · exact hk
    · rw [Array.toList_push, entry_push hk hk' k3]
      simp only [mput, hM.gets k' hk']
  · have hq : es[q]? = some e := by simpa using h3
    have hlt := (Array.getElem?_eq_some_iff.1 hq).1
    have hm : (es.modify q fun e => { e with key := k, val := v }).toList = es.toList.set q { e with key := k, val := v } := by
      apply List.ext_getElem?
      intro i
      rw [Array.getElem?_toList, Array.getElem?_modify, List.getElem?_set]
      by_cases hi : q = i
      · subst hi
        simp [hlt, (Array.getElem?_eq_some_iff.1 hq).2]
      · simp [hi]
    refine ⟨es.modify q fun e => { e with key := k, val := v }, clock, ?_, ⟨fun e' he => ?_, fun k' hk' => ?_, one⟩⟩
    · simp [Instr.mapUpdate, run_underlying t.u, run_getM hb (by intros; simp), run_checkKey tk.u hk _ 9999, hfind, run_setM _ hb (by intros; simp), hq, h4, run_keyStays hk]
    · rw [hm] at he
      rcases List.mem_or_eq_of_mem_set he with he | rfl
      · exact hM.keys e' he
      · exact hk
    · rw [hm, entry_set hk' h3 h4 h6]
      simp only [mput, hM.gets k' hk']
theorem op_mapUpdate {kt et : TypeId} {kk : SK} {b : Nat} {es : Array MapEntry} {clock : Nat} {f : Value → Option Value} {k v : Value} {zM : Value} {sM bM : Nat} [t : Ty P T (.map kt et) sM bM zM] [tk : KeyT P kt kk]
    (hx : s.ev x = some (.raw (.map (some b)))) (hy : s.ev y = some (.raw k)) (hu : s.ev u = some (.raw v)) (hk : KeyOf kk k) (hv : v.oneCell' = true) (hM : MapOf kk es f) (H' : Array MapEntry → Nat → List Ch) (hup : ∀ es' c', Upd (.obj b (.map es clock)) (.obj b (.map es' c')) H (H' es' c'))
    (h : ∀ es' c', MapOf kk es' (mput f k v) → K s (H' es' c')) : OP j ⟨none, .mapUpdate T x y u, ty, pos, after, none⟩ K Q s H :=
  op_skip rfl fun a w st => by
    have h1 := st.sl.ev hx
    have h2 := st.sl.ev hy
    have h3 := st.sl.ev hu
    simp only [conc] at h1 h2 h3
    have hb : w.heap[b]? = some (.map es clock) := st.hp.sat _ (List.mem_append_left _ (hup es clock).mem)
    obtain ⟨es', c', hr, hM'⟩ := run_update (P := P) t tk hk hv hb hM
    exact ⟨_, _, by simp [execOp, h1, h2, h3, hr], st_setObj st (hup es' c'), h es' c' hM'⟩
theorem op_insert {kt et : TypeId} {kk : SK} {b : Nat} {es : Array MapEntry} {clock : Nat} {f : Value → Option Value} {k v : Value} {zM : Value} {sM bM : Nat} [t : Ty P T (.map kt et) sM bM zM] [tk : KeyT P kt kk]
    (hx : s.ev x = some (.raw (.map (some b)))) (hy : s.ev y = some (.raw k)) (hu : s.ev u = some (.raw v)) (hk : KeyOf kk k) (hv : v.oneCell' = true) (hM : MapOf kk es f) (H' : Array MapEntry → Nat → List Ch) (hup : ∀ es' c', Upd (.obj b (.map es clock)) (.obj b (.map es' c')) H (H' es' c'))
    (h : ∀ es' c', MapOf kk es' (mput f k v) → K s (H' es' c')) : OP j ⟨none, .insert T x y u, ty, pos, after, none⟩ K Q s H :=
  op_skip rfl fun a w st => by
    have h1 := st.sl.ev hx
    have h2 := st.sl.ev hy
    have h3 := st.sl.ev hu
    simp only [conc] at h1 h2 h3
    have hb : w.heap[b]? = some (.map es clock) := st.hp.sat _ (List.mem_append_left _ (hup es clock).mem)
    obtain ⟨es', c', hr, hM'⟩ := run_update (P := P) t tk hk hv hb hM
    exact ⟨_, _, by simp [execOp, h1, h2, h3, hr], st_setObj st (hup es' c'), h es' c' hM'⟩
theorem op_makeMap (hN : Nat.blt d N = true) (h : ∀ b, K ((d, .raw (.map (some b))) :: s) (.obj b (.map #[] 0) :: H)) : OP j ⟨some d, .makeMap T none, ty, pos, after, none⟩ K Q s H :=
  op_eff rfl hN fun a w st => by
    have e : Evo (own []) w (own [Ch.obj w.heap.size (.map #[] 0)]) (w.alloc (.map #[] 0)) :=
      ⟨rfl, rfl, rfl, by simp, fun b hb _ => heap_alloc_old w _ hb, fun b hb => .inr (by simp [own, blks, Ch.blk] at hb; omega)⟩
    refine ⟨.map (some w.heap.size), w.alloc (.map #[] 0), .raw (.map (some w.heap.size)), _, by simp [execOp, Instr.makeMap], ?_, rfl, h w.heap.size⟩
    refine (St.eff (Hf := []) (Hf' := [.obj w.heap.size (.map #[] 0)]) (Hr := H) st (.refl _) e (by simp [blks, Ch.blk]) (fun c hc => ?_)).1
    rw [List.mem_singleton.1 hc]
    exact heap_alloc_new w _
/-- '[n]T{..}' -/
theorem pv_build_arr {parts : Array (Nat × Operand)} {ps : List (Nat × V)} {zc : List Value} {cs : List V} {e n szT bsT : Nat} {DE : TypeDesc} [t : Ty P T (.array n e) szT bsT (.agg zc.toArray)] [te : Ty P e DE sz bs z] (hp : s.parts parts.toList = some ps) (hf : fillV (fun i => some (i * sz, sz)) zc.length (zc.map .raw) ps = some cs) (h1 : zc.all Value.oneCell' = true) :
    PureV j s H ⟨dst, .build T parts, ty, pos, after, g⟩ (.agg cs) := fun a w st => by
  obtain ⟨r, e1, e2, e3, _⟩ := fill_of hf (st.sl.parts hp) (concL_raw zc) (fun y hy => List.all_eq_true.1 h1 y hy) (by simp)
  refine ⟨.agg r.toArray, fun w' => ?_, ?_⟩
  · have e1' : Instr.fill (fun i => some (i * sz, sz)) zc.toArray (parts.map fun (i, x) => (i, a.eval x)).toList = some r.toArray := by simpa using e1
    simp only [execOp, Instr.build, Sem.run_bind, t.zeroValue, Result.andThen_ok, run_underlying t.u, te.sizeOf, Value.cells]
    simp only [e1', Sem.run_pure, Result.andThen_ok]
  · simp only [conc]
    exact ⟨r, rfl, e2, e3⟩
end Go.AX

set_option linter.unusedVariables false
set_option linter.unusedSimpArgs false
namespace Go.AX
variable {P : Program} {N : Nat} {j : J P N} {Q : Exit → Sl → List Ch → Prop} {K : Sl → List Ch → Prop} {s so : Sl} {H H' : List Ch}
variable {ty : TypeId} {pos : String} {after : Array Edge} {T : TypeId} {x : Operand}
theorem op_clear {kt et : TypeId} {b : Nat} {es : Array MapEntry} {clock : Nat} {zM : Value} {sM bM : Nat} [t : Ty P T (.map kt et) sM bM zM]
    (hx : s.ev x = some (.raw (.map (some b)))) (hu : Upd (.obj b (.map es clock)) (.obj b (.map #[] clock)) H H') (h : K s H') : OP j ⟨none, .call { callee := .builtin .clear, args := #[x], argTypes := #[T] }, ty, pos, after, none⟩ K Q s H := fun a w st K' hK => by
  have h1 := st.sl.ev hx
  simp only [conc] at h1
  have hb : w.heap[b]? = some (.map es clock) := st.hp.sat _ (List.mem_append_left _ hu.mem)
  have hrun : (execOp a.eval ⟨none, .call { callee := .builtin .clear, args := #[x], argTypes := #[T] }, ty, pos, after, none⟩).run P w = .ok (.value (.tuple #[])) { w with heap := w.heap.setIfInBounds b (.map #[] clock) } := by
    simp [execOp, resolve, invoke, builtin, h1, Builtin.clear_, run_underlying t.u, run_getM hb (by intros; simp), run_setM _ hb (by intros; simp)]
  simp only [Oper.wp, hrun, Oper.upon, Act.put]
  exact hK _ _ ⟨s, H', st_setObj st hu, h⟩
theorem upd_set {c c' : Ch} : ∀ {i : Nat} {l : List Ch}, l[i]? = some c → Upd c c' l (l.set i c')
  | _, [], h => by simp at h
  | 0, d :: l, h => by simp at h; subst h; exact .here
  | i + 1, d :: l, h => .there (upd_set (by simpa using h))
section
variable {y u : Operand} {kt et : TypeId} {kk : SK} {b i clock : Nat} {es : Array MapEntry} {f : Value → Option Value} {k v : Value} {zM : Value} {sM bM : Nat}
theorem op_mapUpdate_at (i : Nat) [t : Ty P T (.map kt et) sM bM zM] [tk : KeyT P kt kk]
    (hx : s.ev x = some (.raw (.map (some b)))) (hy : s.ev y = some (.raw k)) (hu : s.ev u = some (.raw v)) (hi : H[i]? = some (.obj b (.map es clock))) (hM : MapOf kk es f) (hk : KeyOf kk k) (hv : v.oneCell' = true)
    (h : ∀ es' c', MapOf kk es' (mput f k v) → K s (H.set i (.obj b (.map es' c')))) : OP j ⟨none, .mapUpdate T x y u, ty, pos, after, none⟩ K Q s H :=
  op_mapUpdate hx hy hu hk hv hM (fun es' c' => H.set i (.obj b (.map es' c'))) (fun _ _ => upd_set hi) h
theorem op_insert_at (i : Nat) [t : Ty P T (.map kt et) sM bM zM] [tk : KeyT P kt kk]
    (hx : s.ev x = some (.raw (.map (some b)))) (hy : s.ev y = some (.raw k)) (hu : s.ev u = some (.raw v)) (hi : H[i]? = some (.obj b (.map es clock))) (hM : MapOf kk es f) (hk : KeyOf kk k) (hv : v.oneCell' = true)
    (h : ∀ es' c', MapOf kk es' (mput f k v) → K s (H.set i (.obj b (.map es' c')))) : OP j ⟨none, .insert T x y u, ty, pos, after, none⟩ K Q s H :=
  op_insert hx hy hu hk hv hM (fun es' c' => H.set i (.obj b (.map es' c'))) (fun _ _ => upd_set hi) h
end
end Go.AX

set_option linter.unusedVariables false
set_option linter.unusedSimpArgs false
namespace Go.AX
variable {TT : Term}
variable {P : Program} {N : Nat} {j : J P N} {Q : Exit → Sl → List Ch → Prop} {K : Sl → List Ch → Prop} {s so : Sl} {H H' : List Ch}
variable {dst : Option Tmp} {ty : TypeId} {pos : String} {after : Array Edge} {g : Option (Nat × Bool)} {T T' : TypeId} {x y : Operand} {D : TypeDesc} {sz bs : Nat} {z : Value}
theorem res_le {r : ResultVar} {v v' : V} (h : ResV j s H r v) (hle : V.Le v v') : ResV j s H r v' := fun a w st => let ⟨x, h1, h2⟩ := h a w st; ⟨x, h1, hle _ _ _ h2⟩
theorem pv_indexAddr_arr_vp {e n sz bs szT bsT k q o : Nat} {sv : Value} {DE : TypeDesc} {z zT : Value} {kd : IntKind} {i : Int} [t : Ty P T (.array n e) szT bsT zT] [te : Ty P e DE sz bs z]
    (hx : s.ev x = some (.vp sv k q o)) (hy : s.ev y = some (.raw (.int kd i))) (h0 : 0 ≤ i ∧ i < (n : Int)) : PureV j s H ⟨dst, .indexAddr T x y, ty, pos, after, g⟩ (.vp sv k q (o + i.toNat * sz)) := fun a w st => by
  have h1 := st.sl.ev hx
  have h2 := st.sl.ev hy
  simp only [conc] at h1 h2
  obtain ⟨b, n', c, h0', h1⟩ := h1
  refine ⟨.pointer (some ⟨b, q * k + o + i.toNat * sz, none⟩), fun w' => by simp [execOp, h1, h2, Instr.indexAt, run_underlying t.u, asIntOf, h0, te.sizeOf, Addr.add_lit, Instr.sureAddr], ?_⟩
  simp only [conc]
  exact ⟨b, n', c, h0', by rw [Nat.add_assoc]⟩
theorem pv_indexAddr_arr_ro {e n sz bs szT bsT o : Nat} {cs : List V} {DE : TypeDesc} {z zT : Value} {kd : IntKind} {i : Int} [t : Ty P T (.array n e) szT bsT zT] [te : Ty P e DE sz bs z]
    (hx : s.ev x = some (.rop cs o)) (hy : s.ev y = some (.raw (.int kd i))) (h0 : 0 ≤ i ∧ i < (n : Int)) : PureV j s H ⟨dst, .indexAddr T x y, ty, pos, after, g⟩ (.rop cs (o + i.toNat * sz)) := fun a w st => by
  have h1 := st.sl.ev hx
  have h2 := st.sl.ev hy
  simp only [conc] at h1 h2
  obtain ⟨b, q, h1, h3, h4, h5⟩ := h1
  refine ⟨.pointer (some ⟨b, q + o + i.toNat * sz, none⟩), fun w' => by simp [execOp, h1, h2, Instr.indexAt, run_underlying t.u, asIntOf, h0, te.sizeOf, Addr.add_lit, Instr.sureAddr], ?_⟩
  simp only [conc]
  exact ⟨b, q, by rw [Nat.add_assoc], h3, h4, h5⟩
/-- Arrays of plain values. -/
class ArrEq (P : Program) (T : TypeId) (n : outParam Nat) (k : outParam SK) : Prop where
  guard : P.eqGuardType P.depth T = false
  fs : ∃ e i, P.underlying T = some (.array n e) ∧ P.info? e = some i ∧ P.cellsOf e = 1 ∧ P.underlying e = some k.desc
theorem run_eqI {d : Nat} {cs ds : List V} {w0 : World} {ow : Nat → Prop} {xs ys : List Value} {e : TypeId} {k : SK} (hu : P.underlying e = some k.desc) (hx : concL w0 ow cs xs) (hy : concL w0 ow ds ys) (w : World) : ∀ {is : List Nat} {b : Bool}, eqR cs ds (is.map fun i => (i, k)) = some b → (Op.eqItems (d + 1) e 1 xs.toArray ys.toArray is).run P w = .ok b w
  | [], b, h => by simp only [List.map_nil, eqR, Option.some.injEq] at h; subst h; simp [Op.eqItems]
  | i :: is, b, h => by
    simp only [List.map_cons, eqR] at h
    split at h
    · rename_i a a' e1 e2
      split at h
      · rename_i p q e3 e4
        simp only [Option.some.injEq] at h
        subst h
        obtain ⟨u, hu1, hu2⟩ := concL_get hx _ _ e1
        obtain ⟨u', hu1', hu2'⟩ := concL_get hy _ _ e2
        simp only [conc] at hu2 hu2'
        subst hu2 hu2'
        have ih := run_eqI (d := d) hu hx hy w e4
        rw [Op.eqItems]
        simp only [Sem.run_bind, run_part_sc hu (show xs.toArray[i * 1]? = some _ by simpa using hu1) w, run_part_sc hu (show ys.toArray[i * 1]? = some _ by simpa using hu1') w, run_eqSc hu e3 w, Result.andThen_ok]
        cases p
        · simp
        · simpa using ih
      · cases h
    · cases h
theorem pv_eql_arr {n : Nat} {k : SK} {cs ds : List V} {b : Bool} [t : ArrEq P T n k] (hx : s.ev x = some (.agg cs)) (hy : s.ev y = some (.agg ds)) (h : eqR cs ds ((List.range n).map fun i => (i, k)) = some b) : PureV j s H ⟨dst, .binOp .eql T x y T', ty, pos, after, g⟩ (.raw (.bool b)) := fun a w st => by
  have h1 := st.sl.ev hx
  have h2 := st.sl.ev hy
  simp only [conc] at h1 h2
  obtain ⟨xs, h1, hL1, _⟩ := h1
  obtain ⟨ys, h2, hL2, _⟩ := h2
  obtain ⟨e, i, hu, hi, hc, hk⟩ := t.fs
  refine ⟨.bool b, fun w' => ?_, rfl⟩
  have e2 := run_eqI (d := 9998) hk hL1 hL2 w' h
  simp [execOp, h1, h2, run_eqGuard_agg w' _ _ _ _ _ _ t.guard, run_eql_struct, run_equalIn_array w' 9999 _ _ hu hi, hc, e2]
theorem pv_neq_arr {n : Nat} {k : SK} {cs ds : List V} {b : Bool} [t : ArrEq P T n k] (hx : s.ev x = some (.agg cs)) (hy : s.ev y = some (.agg ds)) (h : eqR cs ds ((List.range n).map fun i => (i, k)) = some b) : PureV j s H ⟨dst, .binOp .neq T x y T', ty, pos, after, g⟩ (.raw (.bool (!b))) := fun a w st => by
  have h1 := st.sl.ev hx
  have h2 := st.sl.ev hy
  simp only [conc] at h1 h2
  obtain ⟨xs, h1, hL1, _⟩ := h1
  obtain ⟨ys, h2, hL2, _⟩ := h2
  obtain ⟨e, i, hu, hi, hc, hk⟩ := t.fs
  refine ⟨.bool (!b), fun w' => ?_, rfl⟩
  have e2 := run_eqI (d := 9998) hk hL1 hL2 w' h
  simp [execOp, h1, h2, run_eqGuard_agg w' _ _ _ _ _ _ t.guard, run_neq_struct, run_equalIn_array w' 9999 _ _ hu hi, hc, e2]
theorem mput_int {f : Value → Option Value} {k : IntKind} {m n : Int} {v : Value} : mput f (.int k m) v (.int k n) = if n = m then some v else f (.int k n) := by
  simp only [mput, keyB]
  by_cases e : n = m <;> simp [e]
theorem mput_str {f : Value → Option Value} {p q : ByteArray} {v : Value} : mput f (.string p) v (.string q) = if q = p then some v else f (.string q) := by
  simp only [mput, keyB]
  by_cases e : q = p <;> simp [e]
section
variable {kt et : TypeId} {kk : SK} {b clock : Nat} {es : Array MapEntry} {f : Value → Option Value} {k r : Value} {DE : TypeDesc} {zM : Value} {sM bM : Nat}
/-- A lookup whose answer is known. -/
theorem pv_lookup_is [t : Ty P T (.map kt et) sM bM zM] [tk : KeyT P kt kk] [te : Ty P et DE sz bs z]
    (hx : s.ev x = some (.raw (.map (some b)))) (hy : s.ev y = some (.raw k)) (hk : KeyOf kk k) (hm : Ch.obj b (.map es clock) ∈ H ++ j.F) (hM : MapOf kk es f) (hf : (f k).getD z = r) :
    ValV j s H ⟨dst, .lookup T x y false, ty, pos, after, g⟩ (.raw r) := hf ▸ pv_lookup hx hy hk hm hM
theorem pv_lookup_ok_is {q : Option Value} [t : Ty P T (.map kt et) sM bM zM] [tk : KeyT P kt kk] [te : Ty P et DE sz bs z]
    (hx : s.ev x = some (.raw (.map (some b)))) (hy : s.ev y = some (.raw k)) (hk : KeyOf kk k) (hm : Ch.obj b (.map es clock) ∈ H ++ j.F) (hM : MapOf kk es f) (hf : f k = q) :
    ValV j s H ⟨dst, .lookup T x y true, ty, pos, after, g⟩ (.tup [.raw (q.getD z), .raw (.bool q.isSome)]) := hf ▸ pv_lookup_ok hx hy hk hm hM
end
section
variable {k k' : IntKind} {m n : Int} {ts : Array TypeId}
theorem pv_min2 (hx : s.ev x = some (.raw (.int k m))) (hy : s.ev y = some (.raw (.int k' n))) : PureV j s H ⟨dst, .call { callee := .builtin .min, args := #[x, y], argTypes := ts }, ty, pos, after, g⟩ (.raw (.int k (min m n))) := fun a w st => by
  have h1 := st.sl.ev hx
  have h2 := st.sl.ev hy
  simp only [conc] at h1 h2
  have e : min m n = if n < m then n else m := by split <;> omega
  exact ⟨.int k (min m n), fun w' => by rw [e]; simp [execOp, h1, h2, resolve, invoke, builtin, Builtin.min_, Builtin.min2], rfl⟩
theorem pv_max2 (hx : s.ev x = some (.raw (.int k m))) (hy : s.ev y = some (.raw (.int k' n))) : PureV j s H ⟨dst, .call { callee := .builtin .max, args := #[x, y], argTypes := ts }, ty, pos, after, g⟩ (.raw (.int k (max m n))) := fun a w st => by
  have h1 := st.sl.ev hx
  have h2 := st.sl.ev hy
  simp only [conc] at h1 h2
  have e : max m n = if m < n then n else m := by split <;> omega
  exact ⟨.int k (max m n), fun w' => by rw [e]; simp [execOp, h1, h2, resolve, invoke, builtin, Builtin.max_, Builtin.max2], rfl⟩
end
section
variable {ops : Array Oper} {rest : List Oper} {xs : Array Operand} {ts : Array TypeId}
theorem k_min (h : RL j ops (⟨dst, .call { callee := .builtin .min, args := xs, argTypes := ts }, ty, pos, after, none⟩ :: rest) Q s H) : RL j ops (⟨dst, .call { callee := .builtin .min, args := xs, argTypes := ts }, ty, pos, after, none⟩ :: rest) Q s H := h
theorem k_max (h : RL j ops (⟨dst, .call { callee := .builtin .max, args := xs, argTypes := ts }, ty, pos, after, none⟩ :: rest) Q s H) : RL j ops (⟨dst, .call { callee := .builtin .max, args := xs, argTypes := ts }, ty, pos, after, none⟩ :: rest) Q s H := h
variable {E1 E Hs : List Ch} {e : Bool} {i : Nat} {rest' : Plan}
theorem kd_min (h : DL TT j Hs E1 ops ((e, i, some ⟨dst, .call { callee := .builtin .min, args := xs, argTypes := ts }, ty, pos, after, g⟩) :: rest') Q so s E) : DL TT j Hs E1 ops ((e, i, some ⟨dst, .call { callee := .builtin .min, args := xs, argTypes := ts }, ty, pos, after, g⟩) :: rest') Q so s E := h
theorem kd_max (h : DL TT j Hs E1 ops ((e, i, some ⟨dst, .call { callee := .builtin .max, args := xs, argTypes := ts }, ty, pos, after, g⟩) :: rest') Q so s E) : DL TT j Hs E1 ops ((e, i, some ⟨dst, .call { callee := .builtin .max, args := xs, argTypes := ts }, ty, pos, after, g⟩) :: rest') Q so s E := h
end
end Go.AX

set_option linter.unusedVariables false
set_option linter.unusedSimpArgs false
namespace Go.AX
variable {TT : Term}
variable {P : Program} {N : Nat} {j : J P N} {Q : Exit → Sl → List Ch → Prop} {K : Sl → List Ch → Prop} {s so : Sl} {H : List Ch}
variable {d : Nat} {ty : TypeId} {pos : String} {after : Array Edge}
/-- A function of its arguments and of memory C that its caller owns; it turns nothing. -/
def FunB (P : Program) (f : FuncId) (vs : List V) (C : List Ch) (v : V) : Prop :=
  ∀ (F : List Ch) (w : World) (xs : List Value), (∀ c ∈ C, c ∈ F) → Hp (own F) F w → concL w (own F) vs xs →
    Calls P f xs.toArray w fun e w' => ∃ x, e = .returned x ∧ conc w' (own F) v x ∧ Evo (own []) w (own []) w'
theorem funB_of {f : FuncId} {fn : Func} {c : Code} {vs : List V} {C : List Ch} {v : V} (hf : P.funcs[f]? = some fn) (hb : fn.body = some c) (hN : fn.ntmps = N) (hn0 : Nat.ble vs.length N = true)
    (h : ∀ j : J P N, (∀ c ∈ C, c ∈ j.F) → AW j c (Ret j fn fun ae H' => ∃ u, ae = .ret u ∧ u = v ∧ H' = []) (initS 0 vs) []) : FunB P f vs C v := fun F w xs hC hp hv => by
  have hn := Nat.le_of_ble_eq_true hn0
  have hxl := concL_length hv
  refine calls_of_wp hf hb ((wpIn_wide (n := 0)).1 ?_)
  let j : J P N := { F := F, H0 := own [], w0 := w }
  have st : St j (initS 0 vs) [] { tmps := xs.toArray ++ Array.replicate (fn.ntmps - xs.toArray.size) undef, defers := [] } w := by
    refine ⟨⟨by simp [hN]; omega, fun i v hi => ?_⟩, hp, Evo.refl _ _, rfl⟩
    obtain ⟨m, x, rfl, h1, h2⟩ := initS_get 0 hv i v hi
    have hm : m < xs.length := (List.getElem?_eq_some_iff.1 h1).1
    refine ⟨x, ?_, h2⟩
    rw [Nat.zero_add, Array.getElem?_append_left (by simpa using hm)]
    simpa using h1
  refine wpIn_mono' (F := j.fence) (fun e a' w' h' => ?_) (h j hC (fun _ _ k => k) _ w st)
  obtain ⟨s', H', st', hq⟩ := h'
  have fin : RetOk j fn s' H' (fun u H' => ∃ u', AEnd.ret u = .ret u' ∧ u' = v ∧ H' = []) → a'.defers = [] ∧ ∃ u, (results fn a'.tmps).run P w' = .ok u w' ∧ ∃ x, Ending.returned u = .returned x ∧ conc w' (own F) v x ∧ Evo (own []) w (own []) w' := fun hq => by
    obtain ⟨x, u, s2, H2, k1, k2, k3, u', k4, k5, k6⟩ := hq a' w' st'
    injection k4 with k4
    subst k4 k5 k6
    exact ⟨st'.df, x, k1, x, rfl, k3, k2.evo⟩
  cases e with
  | normal => exact fin hq
  | ret => exact fin hq
  | panic ch => obtain ⟨u, hu, _⟩ := hq; cases hu
  | exit id => exact hq.elim
  | goto l => exact hq.elim
  | outgrown => exact hq.elim
def Bor (C H F : List Ch) : Prop := ∀ c ∈ C, c ∈ H ++ F
theorem bor_nil {F : List Ch} : Bor [] H F := fun _ h => by simp at h
theorem bor_cons {c : Ch} {C F : List Ch} (h : c ∈ H ++ F) (t : Bor C H F) : Bor (c :: C) H F := fun x hx => by
  rcases List.mem_cons.1 hx with rfl | hx
  · exact h
  · exact t x hx
theorem op_callB {f : FuncId} {fop : Operand} {args : Array Operand} {tys : Array TypeId} {bf cap vs : List V} {C : List Ch} {v : V} [en : Ent P f]
    (hf : asFn (s.ev fop) = some (f, bf, cap)) (ha : s.evs args.toList = some vs) (ht : FunB P f (bf ++ vs ++ cap) C v) (hC : Bor C H j.F) (hN : Nat.blt d N = true)
    (hk : K ((d, v) :: s) H) : OP j ⟨some d, .call { callee := .value fop, args := args, argTypes := tys }, ty, pos, after, none⟩ K Q s H :=
  fun a w st K' hK => by
    obtain ⟨u, hu⟩ : ∃ u, s.ev fop = some u := by
      cases e : s.ev fop with
      | none => rw [e] at hf; cases hf
      | some u => exact ⟨u, rfl⟩
    obtain ⟨l0, l, h1, hl0, hl⟩ := asFn_conc hu hf (st.sl.ev hu)
    have h2 := st.sl.evs ha
    have hcall := ht (H ++ j.F) w _ hC st.hp (concL_append (concL_append hl0 h2) hl)
    have hrun : (execOp a.eval ⟨some d, .call { callee := .value fop, args := args, argTypes := tys }, ty, pos, after, none⟩).run P w = .ok (.enter f (l0 ++ args.toList.map a.eval ++ l).toArray) w := by
      simp only [execOp, resolve, h1, Deferred.ofValue, Sem.run_bind, Sem.run_pure, Result.andThen_ok, invoke, en.h]
      congr 2
      apply Array.toList_inj.1
      simp
    simp only [Oper.wp, hrun, Oper.upon]
    refine hcall.mono fun e w' ⟨x, he, hx, ev⟩ => ?_
    subst he
    obtain ⟨st', _, _⟩ := St.eff (Hf := []) (Hf' := []) (Hr := H) st (.refl _) ev (by simp [blks]) (fun c hc => by simp at hc)
    refine hK _ _ ⟨_, H, ?_, hk⟩
    exact st'.put (d := some d) hx (fun i hi => by cases hi; exact Nat.le_of_ble_eq_true hN)
section
variable {ops : Array Oper} {rest : List Oper} {dst : Option Tmp} {fop : Operand} {xs : Array Operand} {ts : Array TypeId}
theorem k_callv (h : RL j ops (⟨dst, .call { callee := .value fop, args := xs, argTypes := ts }, ty, pos, after, none⟩ :: rest) Q s H) : RL j ops (⟨dst, .call { callee := .value fop, args := xs, argTypes := ts }, ty, pos, after, none⟩ :: rest) Q s H := h
variable {E1 E Hs : List Ch} {e : Bool} {i : Nat} {rest' : Plan} {g : Option (Nat × Bool)}
theorem kd_callv (h : DL TT j Hs E1 ops ((e, i, some ⟨dst, .call { callee := .value fop, args := xs, argTypes := ts }, ty, pos, after, g⟩) :: rest') Q so s E) : DL TT j Hs E1 ops ((e, i, some ⟨dst, .call { callee := .value fop, args := xs, argTypes := ts }, ty, pos, after, g⟩) :: rest') Q so s E := h
end
theorem by_memb {c : Ch} {F : List Ch} (h : c ∈ H ++ F := by first | exact by_mem | exact List.mem_append_right _ (by assumption)) : c ∈ H ++ F := h
/-! ### Guards that hang on an operation that was not done -/
section
variable {ops : Array Oper} {rest : List Oper} {op : Op} {gi tt i : Nat} {want : Bool} {og o : Oper} {rest' : Plan} {Hs E E1 F : List Ch}
theorem yielded_undef {a : Act} {w : World} (st : St j s H a w) (ho : ops[gi]? = some og) (hd : og.dst = some tt) (hv : s.get tt = some (.raw undef)) : yielded ops a.tmps gi = none := by
  obtain ⟨x, h1, h2⟩ := st.sl.2 tt _ hv
  simp only [conc] at h2
  subst h2
  simp [yielded, ho, hd, h1, undef]
theorem rl_off_u (ho : ops[gi]? = some og) (hd : og.dst = some tt) (hv : s.get tt = some (.raw undef)) (hN : Nat.blt d N = true)
    (h : RL j ops rest Q ((d, .raw undef) :: s) H) : RL j ops (⟨some d, op, ty, pos, after, some (gi, want)⟩ :: rest) Q s H := fun a w st => by
  have hy := yielded_undef st ho hd hv
  unfold wpList
  rw [if_neg (by simp [Region.wanted, hy])]
  exact h _ _ (st.put (d := some d) rfl (fun i hi => by cases hi; exact Nat.le_of_ble_eq_true hN))
theorem dl_off_u (hg : o.guard = some (gi, want)) (ho : ops[gi]? = some og) (hgd : og.dst = some tt) (hgv : s.get tt = some (.raw undef)) (hd : o.dst = some d) (hN : Nat.blt d N = true)
    (h : DL TT j Hs E1 ops rest' Q ((d, .raw undef) :: so) ((d, .raw undef) :: s) E) : DL TT j Hs E1 ops ((false, i, some o) :: rest') Q so s E := fun hq fuel listed hs hl a w st0 st => by
  obtain ⟨hi, hsel, hf, hr, hs⟩ := hs
  have hNd : d < N := Nat.le_of_ble_eq_true hN
  have st0' := st0.put (d := o.dst) (v := .raw undef) (x := undef) (by simp only [conc]) (fun i hi => by rw [hd] at hi; cases hi; exact hNd)
  have st' := st.put (d := o.dst) (v := .raw undef) (x := undef) (by simp only [conc]) (fun i hi => by rw [hd] at hi; cases hi; exact hNd)
  have hy := yielded_undef st ho hgd hgv
  obtain ⟨fuel, rfl⟩ : ∃ k, fuel = k + 1 := ⟨fuel - 1, by simp only [List.length_cons] at hl; omega⟩
  refine wpAnyH_take hi hsel hf hr (hq_put (fun c s H k => hq c s _ k) (fun i hi => by rw [hd] at hi; cases hi; exact hNd)) (.inr ⟨by simp [Region.wanted, hg, hy], rfl⟩) (stable_of st) ?_
  rw [hd] at st0' st' ⊢
  exact h hq fuel _ hs (by simp only [List.length_cons] at hl; omega) _ w st0' st'
theorem dl_off_u_eff (hg : o.guard = some (gi, want)) (ho : ops[gi]? = some og) (hgd : og.dst = some tt) (hgv : s.get tt = some (.raw undef)) (hd : o.dst = some d) (hN : Nat.blt d N = true)
    (h : DL TT j Hs E1 ops rest' Q ((d, .raw undef) :: so) ((d, .raw undef) :: s) E) : DL TT j Hs E1 ops ((true, i, some o) :: rest') Q so s E := fun hq fuel listed hs hl a w st0 st => by
  obtain ⟨hi, hr, hs⟩ := hs
  have hNd : d < N := Nat.le_of_ble_eq_true hN
  have st0' := st0.put (d := o.dst) (v := .raw undef) (x := undef) (by simp only [conc]) (fun i hi => by rw [hd] at hi; cases hi; exact hNd)
  have st' := st.put (d := o.dst) (v := .raw undef) (x := undef) (by simp only [conc]) (fun i hi => by rw [hd] at hi; cases hi; exact hNd)
  have hy := yielded_undef st ho hgd hgv
  obtain ⟨fuel, rfl⟩ : ∃ k, fuel = k + 1 := ⟨fuel - 1, by simp only [List.length_cons] at hl; omega⟩
  refine wpAnyH_all hr (by simp) fun k hk => ?_
  simp only [List.mem_singleton] at hk
  subst hk
  unfold wpOp
  have hwn : Region.wanted o (yielded ops a.tmps) = false := by simp [Region.wanted, hg, hy]
  simp only [hi, hwn]
  rw [if_neg (by simp)]
  refine ⟨stable_of st', ?_⟩
  rw [hd] at st0' st' ⊢
  exact h hq fuel _ hs (by simp only [List.length_cons] at hl; omega) _ w st0' st'
end
end Go.AX

set_option linter.unusedVariables false
set_option linter.unusedSimpArgs false
namespace Go.AX
variable {P : Program} {N : Nat} {j : J P N} {Q : Exit → Sl → List Ch → Prop} {K : Sl → List Ch → Prop} {s so : Sl} {H : List Ch}
variable {d : Nat} {dst : Option Tmp} {ty : TypeId} {pos : String} {after : Array Edge} {g : Option (Nat × Bool)} {T T' : TypeId} {x y : Operand} {sz bs : Nat} {z : Value} {e : Nat}
theorem run_equal_slice_nil (hu : P.underlying T = some (.slice e)) (a : Addr) (n c m k : Nat) (w : World) : (Op.equal T (.slice (some a) n c) (.slice none m k)).run P w = .ok false w := by
  unfold Op.equal
  show (Op.equalIn (9999 + 1) T _ _).run P w = _
  rw [Op.equalIn]
  simp [Sem.run_bind, run_underlying hu]
theorem run_equal_nil_nil (hu : P.underlying T = some (.slice e)) (n c m k : Nat) (w : World) : (Op.equal T (.slice none n c) (.slice none m k)).run P w = .ok true w := by
  unfold Op.equal
  show (Op.equalIn (9999 + 1) T _ _).run P w = _
  rw [Op.equalIn]
  simp [Sem.run_bind, run_underlying hu]
theorem pv_eql_nil_ro {rows : List (List V)} [t : Ty P T (.slice e) sz bs z] (hx : s.ev x = some (.ro rows)) (hy : s.ev y = some (.raw (.slice none 0 0))) (hne : rows ≠ []) : PureV j s H ⟨dst, .binOp .eql T x y T', ty, pos, after, g⟩ (.raw (.bool false)) := fun a w st => by
  have h1 := st.sl.ev hx
  have h2 := st.sl.ev hy
  simp only [conc] at h1 h2
  obtain ⟨A, c, h1, h3, h4, h5⟩ := h1
  rcases h5 with h5 | ⟨b, o, z', hA, _⟩
  · exact absurd h5.1 hne
  · subst hA
    exact ⟨.bool false, fun w' => by simp [execOp, h1, h2, eqGuard, binOp, run_equal_slice_nil t.u], rfl⟩
theorem pv_neq_nil_ro {rows : List (List V)} [t : Ty P T (.slice e) sz bs z] (hx : s.ev x = some (.ro rows)) (hy : s.ev y = some (.raw (.slice none 0 0))) (hne : rows ≠ []) : PureV j s H ⟨dst, .binOp .neq T x y T', ty, pos, after, g⟩ (.raw (.bool true)) := fun a w st => by
  have h1 := st.sl.ev hx
  have h2 := st.sl.ev hy
  simp only [conc] at h1 h2
  obtain ⟨A, c, h1, h3, h4, h5⟩ := h1
  rcases h5 with h5 | ⟨b, o, z', hA, _⟩
  · exact absurd h5.1 hne
  · subst hA
    exact ⟨.bool true, fun w' => by simp [execOp, h1, h2, eqGuard, binOp, run_equal_slice_nil t.u], rfl⟩
/-- A slice beside nil: if it is nil, it is empty. -/
theorem rl_eql_nil_ro {ops : Array Oper} {rest : List Oper} {rows : List (List V)} [t : Ty P T (.slice e) sz bs z] (hx : s.ev x = some (.ro rows)) (hy : s.ev y = some (.raw (.slice none 0 0))) (hN : Nat.blt d N = true)
    (h : ∀ b : Bool, (b = true → rows = []) → RL j ops rest Q ((d, .raw (.bool b)) :: s) H) : RL j ops (⟨some d, .binOp .eql T x y T', ty, pos, after, none⟩ :: rest) Q s H := fun a w st => by
  have h1 := st.sl.ev hx
  have h2 := st.sl.ev hy
  simp only [conc] at h1 h2
  obtain ⟨A, c, h1, h3, h4, h5⟩ := h1
  have fin : ∀ b : Bool, (Op.equal T (a.eval x) (a.eval y)).run P w = .ok b w → (b = true → rows = []) → wpList P ops (liftE j Q) (⟨some d, .binOp .eql T x y T', ty, pos, after, none⟩ :: rest) a w := fun b hb hr =>
    wpList_plain rfl fun K hK => by
      have hrun : (execOp a.eval ⟨some d, .binOp .eql T x y T', ty, pos, after, none⟩).run P w = .ok (.value (.bool b)) w := by
        rw [h1, h2] at hb
        simp [execOp, h1, h2, eqGuard, binOp, hb]
      simp only [Oper.wp, hrun, Oper.upon]
      have st' := st.put (d := some d) (v := .raw (.bool b)) (x := .bool b) rfl (fun i hi => by cases hi; exact Nat.le_of_ble_eq_true hN)
      exact hK _ _ (h b hr _ _ st')
  cases A with
  | none =>
    have hr : rows = [] := by
      rcases h5 with h5 | ⟨b, o, z', hA, _⟩
      · exact h5.1
      · cases hA
    exact fin true (by rw [h1, h2]; exact run_equal_nil_nil t.u ..) fun _ => hr
  | some ad => exact fin false (by rw [h1, h2]; exact run_equal_slice_nil t.u ..) fun h => by cases h
end Go.AX

set_option linter.unusedVariables false
set_option linter.unusedSimpArgs false
namespace Go.AX
variable {TT : Term}
variable {P : Program} {N : Nat} {j : J P N} {Q : Exit → Sl → List Ch → Prop} {K : Sl → List Ch → Prop} {s so : Sl} {H : List Ch}
variable {d : Nat} {dst : Option Tmp} {ty : TypeId} {pos : String} {after : Array Edge} {g : Option (Nat × Bool)} {T T' : TypeId} {x y : Operand} {sz bs sz' bs' sz2 bs2 : Nat} {z z' z2 : Value} {e : Nat}
/-- Rows of bytes. -/
abbrev br (b : Int) : List V := [.raw (.int .u8 b)]
theorem br_len (b : Int) : (br b).length = 1 := rfl
theorem br_flat : ∀ l : List Int, (l.map br).flatten = l.map fun b => V.raw (.int .u8 b)
  | [] => rfl
  | b :: l => by rw [List.map_cons, List.flatten_cons, br_flat l]; rfl
theorem concL_br {w : World} {ow : Nat → Prop} : ∀ {l : List Int} {xs : List Value}, concL w ow (l.map fun b => V.raw (.int .u8 b)) xs → xs = l.map (Value.int .u8)
  | [], xs, h => h
  | b :: l, xs, h => by
    simp only [List.map_cons, concL, conc] at h
    obtain ⟨y, ys, rfl, rfl, h2⟩ := h
    rw [concL_br h2, List.map_cons]
theorem cellsAt_getD {w : World} {b o : Nat} {l : List Int} (h : ∀ i v, (l.map (Value.int .u8))[i]? = some v → w.cell? ⟨b, o + i, none⟩ = some v) : ∀ i, i < l.length → w.cell? ⟨b, o + i, none⟩ = some (.int .u8 (l.getD i 0)) := fun i hi => by
  refine h i _ ?_
  rw [List.getElem?_map, List.getElem?_eq_getElem hi]
  simp [List.getD_eq_getElem?_getD, hi]
/-- 'string(b)' of bytes that nobody writes any more. -/
theorem vv_convert_bytes {l : List Int} [ts : Ty P T (.slice e) sz bs z] [te : Ty P e (.int .u8) sz2 bs2 z2] [t : Ty P T' .string sz' bs' z'] (hx : s.ev x = some (.ro (l.map br))) :
    ValV j s H ⟨dst, .convert T T' x, ty, pos, after, g⟩ (.raw (.string (strOfNums l))) := fun a w st => by
  have h1 := st.sl.ev hx
  simp only [conc] at h1
  obtain ⟨A, c, h1, h2, h3, h4⟩ := h1
  refine ⟨.string (strOfNums l), ?_, rfl⟩
  rw [List.length_map] at h1
  rcases h4 with ⟨h4, h5⟩ | ⟨b, o, z', rfl, hb, ho, hr⟩
  · obtain rfl : l = [] := by simpa using h4
    cases A with
    | none => simp only [execOp, h1, Sem.run_bind, run_convert_bytes_nil w T e ts.u te.u _ _ T' t.u]; rfl
    | some ad =>
      obtain ⟨b, o, q⟩ := ad
      have hl : (loadCells ⟨b, o, q⟩ 0).run P w = .ok (([] : List Int).map (Value.int .u8)).toArray w := run_loadCells_list (P := P) w ⟨b, o, q⟩ [] (fun j v hj => by simp at hj)
      have := run_convert_bytes_string w T T' e (some ⟨b, o, q⟩) 0 c ts.u te.u t.u
      rw [run_bytesToString w _ 0 c [] hl] at this
      simp only [execOp, h1, List.length_nil, Sem.run_bind, this]
      rfl
  · obtain ⟨xs, a1, a2, a3, a4, a5⟩ := rows_list hr
    rw [br_flat] at a1
    obtain rfl := concL_br a1
    have := run_convert_bytes_arg (P := P) w T e ts.u te.u b o l.length c l rfl (cellsAt_getD a3) T' t.u
    simp only [execOp, h1, Sem.run_bind, this]
    rfl
/-- 'string(b)' of bytes of one's own. -/
theorem vv_convert_own {l : List Int} {sv : Value} {E : TypeId} [ts : Ty P T (.slice e) sz bs z] [te : Ty P e (.int .u8) sz2 bs2 z2] [t : Ty P T' .string sz' bs' z'] (hx : s.ev x = some (.own sv)) (hm : Ch.vec sv E 1 (l.map br) ∈ H ++ j.F) :
    ValV j s H ⟨dst, .convert T T' x, ty, pos, after, g⟩ (.raw (.string (strOfNums l))) := fun a w st => by
  have h1 := st.sl.ev hx
  simp only [conc] at h1
  obtain ⟨xs, ho, a1, a2, a3⟩ := st.hp.sat _ hm
  rw [br_flat] at a1
  obtain rfl := concL_br a1
  refine ⟨.string (strOfNums l), ?_, rfl⟩
  rw [List.length_map] at ho
  obtain ⟨_, h2 | ⟨b, cap, cur, hsv, _, hb, h3, h4, h5, h6⟩⟩ := ho
  · obtain ⟨h2, h3⟩ := h2
    obtain rfl : l = [] := by simpa using h3
    simp only [execOp, h1.1, h2, Sem.run_bind, run_convert_bytes_nil w T e ts.u te.u _ _ T' t.u]
    rfl
  · have hc : ∀ i v, (l.map (Value.int .u8))[i]? = some v → w.cell? ⟨b, 0 + i, none⟩ = some v := fun i v hv => by
      rw [← h6, List.getElem?_take] at hv
      split at hv
      · simp only [World.cell?, hb, Nat.zero_add]
        simpa using hv
      · cases hv
    have := run_convert_bytes_arg (P := P) w T e ts.u te.u b 0 l.length cap l rfl (cellsAt_getD hc) T' t.u
    simp only [execOp, h1.1, hsv, Sem.run_bind, this]
    rfl
/-- The bytes of a text. -/
def nums (p : ByteArray) : List Int := p.data.toList.map fun b => (b.toNat : Int)
theorem nums_len (p : ByteArray) : (nums p).length = p.size := by
  unfold nums
  rw [List.length_map, Array.length_toList]
  rfl
theorem concRows_br {w : World} {ow : Nat → Prop} {b : Nat} : ∀ (l : List Int) (o : Nat), (∀ i v, l[i]? = some v → w.cell? ⟨b, o + i, none⟩ = some (.int .u8 v)) → concRows w ow b 1 o (l.map br)
  | [], o, h => trivial
  | v :: l, o, h => by
    simp only [List.map_cons, concRows, concAt]
    refine ⟨rfl, ⟨⟨_, by simpa using h 0 v rfl, rfl, rfl⟩, trivial⟩, concRows_br l (o + 1) fun i u hu => ?_⟩
    have := h (i + 1) u (by simpa using hu)
    rwa [show o + 1 + i = o + (i + 1) by omega]
/-- '[]byte(s)' that nobody will write. -/
theorem op_convert_str {p : ByteArray} [ts : Ty P T .string sz bs z] [te : Ty P e (.int .u8) sz2 bs2 z2] [t : Ty P T' (.slice e) sz' bs' z'] (hx : s.ev x = some (.raw (.string p))) (hs : p.size ≤ maxLen) (hN : Nat.blt d N = true)
    (h : K ((d, .ro ((nums p).map br)) :: s) H) : OP j ⟨some d, .convert T T' x, ty, pos, after, none⟩ K Q s H :=
  op_eff rfl hN fun a w st => by
    have h1 := st.sl.ev hx
    simp only [conc] at h1
    have hrun := Lib.run_convert_string_bytes w T T' e p ts.u t.u te.u
    have hsz := Lib.bytesWorld_size w e p
    have ev : Evo (own []) w (own []) (Lib.bytesWorld w e p) := ⟨rfl, rfl, rfl, by omega, fun b hb _ => Lib.bytesWorld_at_old w e p b hb, fun b hb => .inl hb⟩
    obtain ⟨st', _, _⟩ := St.eff (Hf := []) (Hf' := []) (Hr := H) st (.refl _) ev (by simp [blks]) (fun c hc => by simp at hc)
    refine ⟨.slice (some ⟨w.heap.size, 0, none⟩) p.size (grownCap w p.size 0 e), _, _, H, by simp only [execOp, h1, Sem.run_bind, hrun]; rfl, st', ?_, h⟩
    simp only [conc]
    refine ⟨_, _, by rw [List.length_map, nums_len], by rw [List.length_map, nums_len]; exact grownCap_ge .., grownCap_le_maxLen _ _ _ _ hs, .inr ⟨w.heap.size, 0, 1, rfl, by omega, fun ho => ?_, concRows_br _ _ fun i v hv => ?_⟩⟩
    · have : own (H ++ j.F) w.heap.size := ho
      have := own_lt st.hp this
      omega
    · have hi : i < p.size := by
        have := (List.getElem?_eq_some_iff.1 hv).1
        rwa [nums_len] at this
      rw [Nat.zero_add, Lib.bytesWorld_cell w e p i hi]
      unfold nums at hv
      rw [List.getElem?_map] at hv
      have hi2 : i < p.data.toList.length := by rw [Array.length_toList]; exact hi
      rw [List.getElem?_eq_getElem hi2] at hv
      simp only [Option.map_some, Option.some.injEq] at hv
      rw [List.getD_eq_getElem?_getD, List.getElem?_eq_getElem hi2, ← hv]
      rfl
section
variable {ops : Array Oper} {rest : List Oper}
theorem k_index (h : RL j ops (⟨dst, .index T x y, ty, pos, after, none⟩ :: rest) Q s H) : RL j ops (⟨dst, .index T x y, ty, pos, after, none⟩ :: rest) Q s H := h
variable {E1 E Hs : List Ch} {eb : Bool} {i : Nat} {rest' : Plan}
theorem kd_index (h : DL TT j Hs E1 ops ((eb, i, some ⟨dst, .index T x y, ty, pos, after, g⟩) :: rest') Q so s E) : DL TT j Hs E1 ops ((eb, i, some ⟨dst, .index T x y, ty, pos, after, g⟩) :: rest') Q so s E := h
end
/-- Texts of the same bytes are one. -/
theorem strOfNums_inj : ∀ {l m : List Int}, (∀ b ∈ l, 0 ≤ b ∧ b ≤ 255) → (∀ b ∈ m, 0 ≤ b ∧ b ≤ 255) → (strOfNums l = strOfNums m ↔ l = m) := fun {l m} hl hm => by
  constructor
  · intro h
    have h2 : (l.map fun n => UInt8.ofNat n.toNat) = m.map fun n => UInt8.ofNat n.toNat := by
      have := congrArg (fun p : ByteArray => p.data.toList) h
      simpa [strOfNums] using this
    have inv : ∀ q : List Int, (∀ b ∈ q, 0 ≤ b ∧ b ≤ 255) → (q.map fun n => UInt8.ofNat n.toNat).map (fun u => (u.toNat : Int)) = q := fun q hq => by
      rw [List.map_map]
      conv => rhs; rw [← List.map_id q]
      refine List.map_congr_left fun b hb => ?_
      have := hq b hb
      simp only [Function.comp, id]
      rw [UInt8.toNat_ofNat']
      omega
    rw [← inv l hl, h2, inv m hm]
  · rintro rfl; rfl
end Go.AX

set_option linter.unusedVariables false
set_option linter.unusedSimpArgs false
namespace Go.AX
variable {P : Program} {N : Nat} {j : J P N} {Q : Exit → Sl → List Ch → Prop} {K : Sl → List Ch → Prop} {s so : Sl} {H R : List Ch}
variable {d : Nat} {dst : Option Tmp} {ty : TypeId} {pos : String} {after : Array Edge} {g : Option (Nat × Bool)} {T T' : TypeId} {x y : Operand} {sz bs sz' bs' : Nat} {z z' : Value} {e : Nat}
/-- So many rounds at most. -/
def AWR (j : J P N) (c : Code) (Q : Exit → Sl → List Ch → Prop) : Nat → Sl → List Ch → Prop
  | 0, _, _ => False
  | n + 1, s, H => AW j c (Then (AWR j c Q n) Q) s H
theorem awr_succ {c : Code} {n : Nat} (h : AW j c (Then (AWR j c Q n) Q) s H) : AWR j c Q (n + 1) s H := h
theorem awr_wp {c : Code} : ∀ (n : Nat) (s : Sl) (H : List Ch), AWR j c Q n s H → NoOut Q → ∀ a w, St j s H a w → Code.roundsIn j.fence 0 P c (liftE j Q) n a w
  | 0, _, _, h, _, _, _, _ => h
  | n + 1, s, H, h, hno, a, w, st => by
    rw [roundsIn_succ]
    refine wpIn_mono' (fun e a' w' h' => ?_) (h (noOut_then hno) a w st)
    obtain ⟨s', H', st', hq⟩ := h'
    cases e with
    | normal => exact awr_wp n s' H' hq hno a' w' st'
    | _ => exact ⟨s', H', st', hq⟩
theorem aw_rounds {c : Code} (n : Nat) (h : AWR j c Q n s H) : AW j (.loop c) Q s H := fun hno a w st => wpIn_loop_rounds n (awr_wp n s H h hno a w st)
/-- Branches that join. -/
theorem aw_cut {x y : Code} (lit : Sl) (hl : List Ch) (h1 : AW j x (Then (fun s' H' => Sl.sub lit s' ∧ ∃ R, Pick hl H' R) Q) s H) (h2 : AW j y Q lit hl) : AW j (.seq x y) Q s H :=
  aw_seq (aw_mono h1 fun e s' H' h => by
    cases e with
    | normal =>
      obtain ⟨k1, R, k2⟩ := h
      exact aw_pick lit hl k1 k2 h2
    | _ => exact h)
/-- 'xs[i]' of an array that is a value; its elements have one cell. -/
theorem pv_index_agg {n : Nat} {cs : List V} {i : Int} {k : IntKind} {v : V} {D : TypeDesc} [t : Ty P T (.array n e) sz bs z] [te : Ty P e D 1 bs' z'] (hx : s.ev x = some (.agg cs)) (hy : s.ev y = some (.raw (.int k i))) (hb : 0 ≤ i ∧ i < (n : Int)) (hD : aggOf D = false) (hv : cs[i.toNat]? = some v) :
    PureV j s H ⟨dst, .index T x y, ty, pos, after, g⟩ v := fun a w st => by
  have h1 := st.sl.ev hx
  have h2 := st.sl.ev hy
  simp only [conc] at h1 h2
  obtain ⟨l, h1, hl, _⟩ := h1
  obtain ⟨u, hu, hc⟩ := concL_get hl _ _ hv
  refine ⟨u, fun w' => ?_, hc⟩
  have hp : (part e l.toArray i.toNat).run P w' = .ok u w' := by
    simp [part, te.isAgg, hD, hu]
  simp [execOp, h1, h2, Instr.index, asIntOf, run_underlying t.u, hb.1, hb.2, te.sizeOf, hp]
theorem pv_convert_u8 {n : Int} {k : IntKind} {D : TypeDesc} [ts : Ty P T D sz bs z] [t : Ty P T' (.int .u8) sz' bs' z'] (hx : s.ev x = some (.raw (.int k n))) : PureV j s H ⟨dst, .convert T T' x, ty, pos, after, g⟩ (.raw (.int .u8 (n % 256))) := by
  have e : IntKind.u8.wrap n = n % 256 := by simp [IntKind.wrap, IntKind.bits, IntKind.signed]
  rw [← e]
  exact pv_convert_int hx
theorem ishr_i64 (m : Int) (n : Nat) (h : n ≤ 64) : ishr .i64 m n = m / 2 ^ n := by
  have e : IntKind.i64.bits = 64 := rfl
  unfold ishr
  rw [e, show min ((n : Int).toNat) 64 = n by omega, Int.fdiv_eq_ediv_of_nonneg _ (by exact Int.le_of_lt (Int.pow_pos (by decide)))]
theorem ret4 {fn : Func} {r1 r2 r3 r4 : ResultVar} {v1 v2 v3 v4 : V} {K : V → List Ch → Prop} (hr : fn.results = #[r1, r2, r3, r4]) (h1 : ResV j s H r1 v1) (h2 : ResV j s H r2 v2) (h3 : ResV j s H r3 v3) (h4 : ResV j s H r4 v4) {H' : List Ch} (hs : H'.Sublist H) (hk : K (.tup [v1, v2, v3, v4]) H') : RetOk j fn s H K := fun a w st => by
  obtain ⟨x1, k1, k2⟩ := h1 a w st
  obtain ⟨x2, k3, k4⟩ := h2 a w st
  obtain ⟨x3, k5, k6⟩ := h3 a w st
  obtain ⟨x4, k7, k8⟩ := h4 a w st
  have hless : ∀ b, own (H' ++ j.F) b → own (H ++ j.F) b := fun b hb => ((hs.append_right j.F).filterMap Ch.blk).mem hb
  have kk : Keeps (own (H ++ j.F)) w (own (H' ++ j.F)) w := ⟨Nat.le_refl _, fun _ _ _ => rfl, fun b _ h => hless b h⟩
  refine ⟨.tuple #[x1, x2, x3, x4], .tup [v1, v2, v3, v4], s, H', ?_, st_sub st hs, ?_, hk⟩
  · simp [results_rv, hr, k1, k3, k5, k7]
  · simp only [conc]
    exact ⟨[x1, x2, x3, x4], rfl, x1, _, rfl, conc_keep kk _ _ k2, x2, _, rfl, conc_keep kk _ _ k4, x3, _, rfl, conc_keep kk _ _ k6, x4, _, rfl, conc_keep kk _ _ k8, rfl⟩
/-- A variable that holds a slice of one's own becomes one that holds a slice that nobody writes any more. -/
theorem st_box_freeze {a : Act} {w : World} {b : Nat} {B E k i : Nat} {sv : Value} {cells : List V} {rows : List (List V)} {H1 H2 : List Ch} (ht : Take (.vec sv E k rows) H H1) (hi : cells[i]? = some (.own sv)) (hu : Upd (.box b B cells) (.box b B (cells.set i (.ro rows))) H1 H2) (st : St j s H a w) : St j s H2 a w := by
  obtain ⟨st', hc⟩ := st_freeze st ht
  obtain ⟨t, h1, h2⟩ := hu.split
  have st1 := st'.perm h1
  have hb : blks (Ch.box b B (cells.set i (.ro rows)) :: t ++ j.F) = blks (Ch.box b B cells :: t ++ j.F) := rfl
  have ho : own (Ch.box b B (cells.set i (.ro rows)) :: t ++ j.F) = own (Ch.box b B cells :: t ++ j.F) := by unfold own; rw [hb]
  have ho' : own (Ch.box b B (cells.set i (.ro rows)) :: t) = own (Ch.box b B cells :: t) := rfl
  have hc' : conc w (own (Ch.box b B cells :: t ++ j.F)) (.ro rows) sv := by
    rw [← own_funext (h1.append_right j.F)]
    exact hc
  have st2 : St j s (Ch.box b B (cells.set i (.ro rows)) :: t) a w := by
    refine ⟨?_, ⟨?_, fun c hcm => ?_⟩, ?_, st1.df⟩
    · rw [ho]; exact st1.sl
    · rw [hb]; exact st1.hp.nd
    · rw [ho]
      rcases List.mem_cons.1 hcm with rfl | hcm
      · obtain ⟨l, k1, k2, k3⟩ := st1.hp.sat _ (List.mem_cons_self ..)
        obtain ⟨x, hx, hx2⟩ := concL_get k2 i _ hi
        simp only [conc] at hx2
        have k4 := concL_set k2 i (.ro rows) x (by rw [hx2.1]; exact hc')
        rw [show l.set i x = l by
          obtain ⟨h, rfl⟩ := List.getElem?_eq_some_iff.1 hx
          exact List.set_getElem_self _] at k4
        exact ⟨l, k1, k4, k3⟩
      · exact st1.hp.sat _ (List.mem_cons_of_mem _ hcm)
    · rw [ho']; exact st1.evo
  exact st2.perm h2.symm
theorem aw_box_freeze {c : Code} {b : Nat} {B E k : Nat} {sv : Value} {cells : List V} {rows : List (List V)} {H1 H2 : List Ch} (i : Nat) (ht : Take (.vec sv E k rows) H H1) (hi : cells[i]? = some (.own sv)) (hu : Upd (.box b B cells) (.box b B (cells.set i (.ro rows))) H1 H2) (h : AW j c Q s H2) : AW j c Q s H :=
  aw_weak (fun a w st => st_box_freeze ht hi hu st) h
theorem rl_box_freeze {ops : Array Oper} {l : List Oper} {b : Nat} {B E k : Nat} {sv : Value} {cells : List V} {rows : List (List V)} {H1 H2 : List Ch} (i : Nat) (ht : Take (.vec sv E k rows) H H1) (hi : cells[i]? = some (.own sv)) (hu : Upd (.box b B cells) (.box b B (cells.set i (.ro rows))) H1 H2) (h : RL j ops l Q s H2) : RL j ops l Q s H :=
  rl_weak (fun a w st => st_box_freeze ht hi hu st) h
theorem hv_convert_bytes {l : List Int} {E1 Hs F : List Ch} {sz2 bs2 : Nat} {z2 : Value} [ts : Ty P T (.slice e) sz bs z] [te : Ty P e (.int .u8) sz2 bs2 z2] [t : Ty P T' .string sz' bs' z'] (hj : DrawJ j Hs F E1) (hx : so.ev x = some (.ro (l.map br))) :
    HV j so E1 ⟨dst, .convert T T' x, ty, pos, after, g⟩ (.raw (.string (strOfNums l))) := fun a st => by
  have h1 := st.sl.ev hx
  simp only [conc] at h1
  obtain ⟨A, c, h1, h2, h3, h4⟩ := h1
  refine ⟨.string (strOfNums l), fun w hw => ?_, rfl⟩
  rw [List.length_map] at h1
  rcases h4 with ⟨h4, h5⟩ | ⟨b, o, z', rfl, hb, ho, hr⟩
  · obtain rfl : l = [] := by simpa using h4
    cases A with
    | none => simp only [execOp, h1, Sem.run_bind, run_convert_bytes_nil w T e ts.u te.u _ _ T' t.u]; rfl
    | some ad =>
      obtain ⟨b, o, q⟩ := ad
      have hl : (loadCells ⟨b, o, q⟩ 0).run P w = .ok (([] : List Int).map (Value.int .u8)).toArray w := run_loadCells_list (P := P) w ⟨b, o, q⟩ [] (fun j v hj => by simp at hj)
      have := run_convert_bytes_string w T T' e (some ⟨b, o, q⟩) 0 c ts.u te.u t.u
      rw [run_bytesToString w _ 0 c [] hl] at this
      simp only [execOp, h1, List.length_nil, Sem.run_bind, this]
      rfl
  · obtain ⟨xs, a1, a2, a3, a4, a5⟩ := rows_list hr
    rw [br_flat] at a1
    obtain rfl := concL_br a1
    have := run_convert_bytes_arg (P := P) w T e ts.u te.u b o l.length c l rfl (fun i hi => run_hold (hw b hb (hj.ro_own ho)) rfl (cellsAt_getD a3 i hi)) T' t.u
    simp only [execOp, h1, Sem.run_bind, this]
    rfl
/-- A nil slice is one's own, if one likes. -/
theorem triR_nil {f : FuncId} {vs : List V} {Rr : V → List Ch → Prop} {E k : Nat} (h : TriR P f (.own (.slice none 0 0) :: vs) (.vec (.slice none 0 0) E k [] :: H) Rr) : TriR P f (.raw (.slice none 0 0) :: vs) H Rr := fun F w xs hp hv => by
  have hp' : Hp (own (Ch.vec (.slice none 0 0) E k [] :: H ++ F)) (Ch.vec (.slice none 0 0) E k [] :: H ++ F) w := ⟨hp.nd, fun c hc => by
    rcases List.mem_cons.1 hc with rfl | hc
    · exact ⟨[], ⟨by simp, .inl ⟨rfl, rfl⟩⟩, rfl, by simp, by simp⟩
    · exact hp.sat c hc⟩
  refine h F w xs hp' ?_
  simp only [concL, conc] at hv ⊢
  obtain ⟨x, ys, rfl, rfl, h2⟩ := hv
  exact ⟨_, _, rfl, ⟨rfl, by simp [Value.oneCell']⟩, h2⟩
/-- A slice of one's own is handed back, and nobody writes it any more. -/
theorem retok_freeze {fn : Func} {K : V → List Ch → Prop} {sv : Value} {E k : Nat} {rows : List (List V)} {H' : List Ch} (hv : s.get d = some (.own sv)) (ht : Take (.vec sv E k rows) H H') (h : RetOk j fn ((d, .ro rows) :: s) H' K) : RetOk j fn s H K := fun a w st => by
  obtain ⟨st', hc⟩ := st_freeze st ht
  obtain ⟨x, v, s2, H2, k1, k2, k3, k4⟩ := h a w (st_slot st' hv fun x hx => by simp only [conc] at hx; rw [hx.1]; exact hc)
  exact ⟨x, v, s2, H2, k1, k2, k3, k4⟩
theorem by_small {a b c : Nat} (h : (a + b) * c ≤ 140737488355328 := by first | omega | (simp only [List.length_map, List.length_cons, List.length_nil, List.length_append]; omega)) : (a + b) * c ≤ 140737488355328 := h
end Go.AX

set_option linter.unusedVariables false
set_option linter.unusedSimpArgs false
namespace Go.AX
open Go.ChangeShapes Go.WideShapes Go.ChangeAt Go.RowKit
/-- A table: its block, its type, what it holds. -/
def kbox (k : Nat × TypeId × List Value) : Ch := .box k.1 k.2.1 (k.2.2.map V.raw)
theorem concL_raws {w : World} {ow : Nat → Prop} : ∀ {xs l : List Value}, concL w ow (xs.map V.raw) l ↔ l = xs
  | [], l => by simp [concL]
  | x :: xs, l => by
    simp only [List.map_cons, concL, conc]
    constructor
    · rintro ⟨y, ys, rfl, rfl, h⟩
      rw [concL_raws.1 h]
    · rintro rfl
      exact ⟨x, xs, rfl, rfl, concL_raws.2 rfl⟩
theorem blks_kbox (ks : List (Nat × TypeId × List Value)) : blks (ks.map kbox) = ks.map (·.1) := by
  induction ks with
  | nil => rfl
  | cons k ks ih => simp only [List.map_cons, blks, List.filterMap_cons, kbox, Ch.blk]; simp only [blks] at ih; rw [ih]
/-- It gives v, and the tables stay. -/
def FunK (P : Program) (ks : List (Nat × TypeId × List Value)) (f : FuncId) (vs : List V) (v : V) : Prop := TriR P f vs (ks.map kbox) fun u H' => u = v ∧ H' = ks.map kbox
theorem calls_of_funK {P : Program} {ks : List (Nat × TypeId × List Value)} {f : FuncId} {vs : List V} {v : V} (h : FunK P ks f vs v) {W : World} {xs : List Value}
    (hk : ∀ k ∈ ks, W.heap[k.1]? = some (.cells k.2.2.toArray k.2.1 (0, 0)) ∧ ∀ y ∈ k.2.2, y.oneCell' = true) (hnd : (ks.map (·.1)).Nodup) (hx : concL W (own (ks.map kbox)) vs xs) :
    Calls P f xs.toArray W fun e w' => ∃ x, e = .returned x ∧ conc w' (own (ks.map kbox)) v x ∧ Below W.heap.size W w' := by
  have hs : ∀ c ∈ ks.map kbox, c.sat W (own (ks.map kbox)) := fun c hc => by
    obtain ⟨k, hk1, rfl⟩ := List.mem_map.1 hc
    exact ⟨k.2.2, (hk k hk1).1, concL_raws.2 rfl, (hk k hk1).2⟩
  refine (h [] W xs ⟨by rw [List.append_nil, blks_kbox]; exact hnd, by rw [List.append_nil]; exact hs⟩ (by rw [List.append_nil]; exact hx)).mono fun e w' ⟨ae, H', h1, _, h3, h4, u, hae, hu, hH⟩ => ?_
  subst hae hu hH
  rw [List.append_nil] at h1 h3
  obtain ⟨x, rfl, hx⟩ := h1
  refine ⟨x, rfl, hx, ⟨h4.os, h4.tape, h4.output, h4.size, fun b hb => ?_⟩⟩
  by_cases ho : own (ks.map kbox) b
  · have ho' : b ∈ ks.map (·.1) := by rw [← blks_kbox]; exact ho
    obtain ⟨k, hk1, rfl⟩ := List.mem_map.1 ho'
    obtain ⟨l, h5, h6, h7⟩ := h3 _ (List.mem_map_of_mem hk1)
    rw [concL_raws.1 h6] at h5
    exact h5.trans (hk k hk1).1.symm
  · exact h4.block b hb ho
/-- The contract of a law over tables. -/
theorem law_contractK {P : Program} {ks : List (Nat × TypeId × List Value)} {f : FuncId} {fn : Func} {s : ChangeSpec} {tb : TypeId}
    (hl : laidOutB P = true) (hrd : fn.params.toList.all (fun t => P.readableRec t && decide (t < P.types.size)) = true) (hvars : s.vars = []) (hrt : fn.resultTypes = #[tb]) (hub : P.underlying tb = some .bool)
    {H : Type} {enc : TypeId × Value → H} {W : World} {args : Array Value} {ds gs : List (DataW H)} {before : List MemPlace}
    (hk : ∀ k ∈ ks, W.heap[k.1]? = some (.cells k.2.2.toArray k.2.1 (0, 0)) ∧ ∀ y ∈ k.2.2, y.oneCell' = true) (hnd' : (ks.map (·.1)).Nodup)
    (hW : DataW.Whole enc P fn.params.toList s.vars false W args.toList ds gs before)
    (rd : ∀ p, DataW.TrodAll enc P W 0 (fun _ => true) true fn.params.toList args.toList ds p → gs = [] → s.fn H (ds ++ gs) = { results := [.lit (.bool true)], args := ds, vars := [] } ∧ ∃ vs, concL W (own (ks.map kbox)) vs args.toList ∧ FunK P ks f vs (.raw (.bool true))) :
    Calls P f args W fun e W' => ∃ v, e = .returned v ∧ s.post enc P fn false true false false W args v W' := by
  have hW' := hW
  obtain ⟨p, q, hA0, hV, rfl, hfz, hnd⟩ := hW
  rw [hvars] at hV
  obtain ⟨rfl, rfl⟩ := trodVars_none hV
  obtain ⟨hs, vs, hc, hf⟩ := rd p hA0 rfl
  have hcall := calls_of_funK hf (W := W) hk hnd' hc
  refine (show Calls P f args W _ from hcall).mono fun e W' ⟨x, he, hx, hb⟩ => ?_
  simp only [conc] at hx
  subst hx
  exact ⟨_, he, post_true hl hrd hvars hrt hub hW' hs hb⟩
/-- The block of a laid table of numbers. -/
theorem tab_block {P : Program} {W : World} {l : List (String × DataW Unit)} {name : String} {k : IntKind} {zs : List Int} {g : Nat} {t e : TypeId} {n : Nat} {zero : Array Value} (hL : laidMet P l W) (hm : (name, Lib.tabData k zs) ∈ l)
    (hsh : W.ShapedOpen P) (hg : P.globalNamed name = some g) (hgs : Nat.blt g P.globals.size = true) (hz : ((begin P (fun _ _ => 0) default).world.heap[g]?).bind Obj.row? = some (zero, t))
    (hty : (P.globals[g]?).map (·.type) = some t) (ht : P.underlying t = some (.array n e)) (he : P.underlying e = some (.int k)) (hce : P.cellsOf e = 1) (hct : P.cellsOf t = n) :
    W.heap[g]? = some (.cells (zs.map fun z => Value.int k z).toArray t (0, 0)) := by
  obtain ⟨g', t', cs, fuel, p, hg', ht', hvar, hd⟩ := Lib.laidMet.reads hL hm
  obtain rfl := Option.some.inj (hg.symm.trans hg')
  obtain rfl := Option.some.inj (hty.symm.trans ht')
  have hc := Lib.cells_of_tab ht he hce hct hd
  obtain ⟨cs', h1, _, _⟩ := hsh.1 g zero t (by simpa using hgs) hz
  unfold World.var? at hvar
  rw [hg] at hvar
  simp only [Option.bind_some, h1, Option.some.injEq] at hvar
  subst hvar
  rw [h1, ← hc]
end Go.AX

set_option linter.unusedVariables false
set_option linter.unusedSimpArgs false
namespace Go.AX
open Go.ChangeShapes Go.WideShapes Go.ChangeAt Go.RowKit
theorem funK_of_calls {P : Program} {ks : List (Nat × TypeId × List Value)} {f : FuncId} {args : List Value} {u : V}
    (h : ∀ W : World, (∀ k ∈ ks, W.heap[k.1]? = some (.cells k.2.2.toArray k.2.1 (0, 0))) → Calls P f args.toArray W fun e w' => ∃ x, e = .returned x ∧ Below W.heap.size W w' ∧ ∀ ow : Nat → Prop, (∀ b, ow b → b < W.heap.size) → conc w' ow u x) :
    FunK P ks f (args.map V.raw) u := fun F w xs hp hx => by
  obtain rfl := concL_raws.1 hx
  have hs := fun c (hc : c ∈ ks.map kbox) => hp.sat c (List.mem_append_left _ hc)
  have ht : ∀ k ∈ ks, w.heap[k.1]? = some (.cells k.2.2.toArray k.2.1 (0, 0)) := fun k hk => by
    obtain ⟨l, h5, h6, h7⟩ := hs _ (List.mem_map_of_mem hk)
    rw [concL_raws.1 h6] at h5
    exact h5
  refine (h w ht).mono fun e w' ⟨x, he, hb, hc⟩ => ⟨.ret u, ks.map kbox, ⟨x, he, hc _ fun b hb => own_lt hp hb⟩, ?_, fun c hc => ?_, ⟨hb.os, hb.tape, hb.output, hb.size, fun b hb' _ => hb.block b hb', fun b hb' => .inl hb'⟩, u, rfl, rfl, rfl⟩
  · have := hp.nd
    rw [blks_append] at this
    exact (List.nodup_append.1 this).1
  · obtain ⟨k, hk, rfl⟩ := List.mem_map.1 hc
    obtain ⟨l, h5, h6, h7⟩ := hs _ (List.mem_map_of_mem hk)
    rw [concL_raws.1 h6] at h5
    refine ⟨k.2.2, ?_, concL_raws.2 rfl, fun y hy => h7 y (by rw [concL_raws.1 h6]; exact hy)⟩
    rw [hb.block _ (own_lt hp (List.mem_filterMap.2 ⟨kbox k, List.mem_append_left _ (List.mem_map_of_mem hk), rfl⟩))]
    exact h5
/-- A new slice of values is memory that nobody writes any more. -/
theorem conc_ro_new {W w' : World} {ow : Nat → Prop} (how : ∀ b, ow b → b < W.heap.size) {A c n : Nat} {vs : List Value} (hA : W.heap.size ≤ A) (hA' : A < w'.heap.size) (hn : vs.length = n) (hc : n ≤ c) (hm : c ≤ maxLen)
    (hv : ∀ i v, vs[i]? = some v → w'.cell? ⟨A, i, none⟩ = some v ∧ v.oneCell' = true) : conc w' ow (.ro (vs.map fun v => [V.raw v])) (.slice (some ⟨A, 0, none⟩) n c) := by
  simp only [conc]
  refine ⟨some ⟨A, 0, none⟩, c, by rw [List.length_map, hn], by rw [List.length_map, hn]; exact hc, hm, .inr ⟨A, 0, 1, rfl, hA', fun ho => absurd (how A ho) (by omega), ?_⟩⟩
  have key : ∀ (l : List Value) (o : Nat), (∀ i v, l[i]? = some v → w'.cell? ⟨A, o + i, none⟩ = some v ∧ v.oneCell' = true) → concRows w' ow A 1 o (l.map fun v => [V.raw v]) := by
    intro l
    induction l with
    | nil => intro o _; simp [concRows]
    | cons v l ih =>
      intro o h
      simp only [List.map_cons, concRows, List.length_singleton, concAt, true_and, and_true]
      refine ⟨⟨v, (h 0 v rfl).1, (h 0 v rfl).2, by simp [conc]⟩, ih (o + 1) fun i x hx => ?_⟩
      have := h (i + 1) x hx
      rw [show o + 1 + i = o + (i + 1) from by omega]
      exact this
  exact key vs 0 fun i v hi => by rw [Nat.zero_add]; exact hv i v hi
end Go.AX

set_option linter.unusedVariables false
set_option linter.unusedSimpArgs false
namespace Go.AX
variable {P : Program} {N : Nat} {j : J P N} {Q : Exit → Sl → List Ch → Prop} {K : Sl → List Ch → Prop} {s so : Sl} {H R : List Ch}
variable {d : Nat} {dst : Option Tmp} {ty : TypeId} {pos : String} {after : Array Edge} {ops : Array Oper} {rest : List Oper}
/-- Operations in the fence, calls of yield among them. -/
def RLI (j : J P N) (ops : Array Oper) (l : List Oper) (Q : Exit → Sl → List Ch → Prop) (s : Sl) (H : List Ch) : Prop := NoOut Q → ∀ a w, St j s H a w → wpListIn j.fence 0 P ops (liftE j Q) l a w
theorem rli_nil (h : Q .normal s H) : RLI j ops [] Q s H := fun _ a w st => ⟨s, H, st, h⟩
theorem op_in2 {o : Oper} {a : Act} {w : World} {K : Act → World → Prop} {Q Q' : Exit → Act → World → Prop} (hp : ∀ c a w, Q (.panic c) a w → Q' (.panic c) a w) (hl : LetsOut Q → LetsOut Q') (hd : noDefer o = true) (h : o.wp P a w K Q) : o.wpIn j.fence 0 P a w K Q' := by
  refine ⟨fun _ _ => trivial, ?_⟩
  rw [Oper.semAt_eq _ _ _ (noDefer_ne hd)]
  unfold Oper.wp at h
  revert h
  have hdep : ¬ (j.fence.depth.isSome = true) := by simp [J.fence, Fence.wide]
  cases (execOp a.eval o).run P w with
  | ok x w1 =>
    cases x <;> intro h
    case value => exact h
    case skip => exact h
    case defer => exact h
    case enter => exact ⟨fun k => absurd k hdep, calls_in (Calls.mono h fun e w' k => by
      cases e with
      | returned v => exact k
      | panicked c => exact hp _ _ _ k
      | outgrown => exact hl k)⟩
    case row => exact ⟨fun k => absurd k hdep, rows_in h⟩
    all_goals exact h.elim
  | halt x w1 => intro h; cases x <;> first | exact hp _ _ _ h | exact h.elim
theorem list_app {l2 : List Oper} (hno : NoOut Q) : ∀ {l1 : List Oper} {a : Act} {w : World}, (l1.all noDefer = true) → wpList P ops (liftE j (Then (RLI j ops l2 Q) Q)) l1 a w → wpListIn j.fence 0 P ops (liftE j Q) (l1 ++ l2) a w
  | [], a, w, _, h => by
    obtain ⟨s, H, st, h1⟩ := h
    exact h1 hno a w st
  | o :: l1, a, w, hd, h => by
    simp only [List.all_cons, Bool.and_eq_true] at hd
    unfold wpList at h
    rw [List.cons_append]
    unfold wpListIn
    by_cases e : Region.wanted o (yielded ops a.tmps) = true
    · rw [if_pos e] at h
      rw [if_pos e]
      rcases h with h | h
      · exact op_in2 (Q := liftE j (Then (RLI j ops l2 Q) Q)) (Q' := liftE j Q) (fun c a w k => k) (fun k => absurd k (noLets (noOut_then hno))) hd.1 (Oper.wp_mono (fun a w k => list_app hno hd.2 k) h)
      · exact absurd h.2 (noLets (noOut_then hno))
    · rw [if_neg e] at h
      rw [if_neg e]
      exact ⟨fun _ _ => trivial, list_app hno hd.2 h⟩
/-- A region, cut ahead of a call of yield. -/
theorem aw_region_cut {id : Nat} {l : List Oper} (k : Nat) (h : RL j l.toArray (l.take k) (Then (RLI j l.toArray (l.drop k) Q) Q) s H) (hd : (l.take k).all noDefer = true := by decide) : AW j (.region id l.toArray false) Q s H := fun hq a w st =>
  wpIn_region_lit (by have := list_app hq hd (h a w st); rwa [List.take_append_drop] at this)
/-- What a call of yield does: a round of the loop whose record is l. -/
def YTri (P : Program) (l : Nat) (vs : List V) (H : List Ch) (Post : Bool → List Ch → Prop) : Prop :=
  ∀ (F : List Ch) (w : World) (xs : List Value), Hp (own (H ++ F)) (H ++ F) w → concL w (own (H ++ F)) vs xs →
    ∃ fn tmps assign body, (Instr.yield l xs.toArray).run P w = .ok (.round l fn tmps assign body) w ∧
      RoundIn Fence.wide 0 P l fn tmps assign body w fun e w' => ∃ b H', e = .returned (.bool b) ∧ (blks H').Nodup ∧ (∀ c ∈ H', c.sat w' (own (H' ++ F))) ∧ Evo (own H) w (own H') w' ∧ Post b H'
theorem round_in {n l : Nat} {f : FuncId} {tmps : Array Value} {assign body : Code} {w : World} {R : Ending → World → Prop} (h : RoundIn Fence.wide n P l f tmps assign body w R) : RoundIn j.fence n P l f tmps assign body w R := by
  unfold J.fence
  cases e : j.rd with
  | none => exact h
  | some l => exact h
theorem rli_yield {l : Nat} {fop : Operand} {args : Array Operand} {tys : Array TypeId} {vs : List V} {Hf Hr : List Ch} {Post : Bool → List Ch → Prop}
    (hf : s.ev fop = some (.raw (.func (.yield l) #[] #[]))) (ha : s.evs args.toList = some vs) (hp : Pick Hf H Hr) (ht : YTri P l vs Hf Post) (hN : Nat.blt d N = true)
    (hk : ∀ b H', Post b H' → RLI j ops rest Q ((d, .raw (.bool b)) :: s) (H' ++ Hr)) : RLI j ops (⟨some d, .call { callee := .value fop, args := args, argTypes := tys }, ty, pos, after, none⟩ :: rest) Q s H := fun hno a w st => by
  have h1 := st.sl.ev hf
  simp only [conc] at h1
  have h2 := st.sl.evs ha
  have hpm := hp.perm
  have hpF : (H ++ j.F).Perm (Hf ++ (Hr ++ j.F)) := by rw [← List.append_assoc]; exact hpm.append_right _
  obtain ⟨fn, tmps, assign, body, hy, hr⟩ := ht (Hr ++ j.F) w _ ((own_funext hpF ▸ st.hp).perm hpF) (own_funext hpF ▸ h2)
  unfold wpListIn
  rw [if_pos (by simp [Region.wanted])]
  refine ⟨fun _ _ => trivial, ?_⟩
  rw [Oper.semAt_eq _ _ _ (by simp)]
  have hrun : (execOp a.eval ⟨some d, .call { callee := .value fop, args := args, argTypes := tys }, ty, pos, after, none⟩).run P w = .ok (.round l fn tmps assign body) w := by
    simp only [execOp, resolve, h1, Deferred.ofValue, Sem.run_bind, Sem.run_pure, Result.andThen_ok, invoke]
    rw [← hy]
    have e3 : Array.map a.eval args = (List.map a.eval args.toList).toArray := by
      apply Array.toList_inj.1
      simp
    rw [e3, Array.empty_append]
  rw [hrun, Oper.uponIn_round]
  refine ⟨fun k => by simp [J.fence, Fence.wide] at k, round_in (hr.mono fun e w' ⟨b, H', he, k2, k3, k4, k5⟩ => ?_)⟩
  subst he
  have e1 : own (H' ++ (Hr ++ j.F)) = own (H' ++ Hr ++ j.F) := by rw [List.append_assoc]
  obtain ⟨st', _, _⟩ := St.eff (Hf := Hf) (Hf' := H') (Hr := Hr) st hpm k4 k2 (fun c hc => e1 ▸ k3 c hc)
  exact hk b H' k5 hno _ _ (st'.put (d := some d) (v := .raw (.bool b)) rfl (fun i hi => by cases hi; exact Nat.le_of_ble_eq_true hN))
/-- An object of one's own becomes another one. -/
theorem st_obj {l : Nat} {o o' : Obj} {a : Act} {w : World} (ht : Take (.obj l o) H R) (st : St j s H a w) : w.heap[l]? = some o ∧ St j s (.obj l o' :: R) a (w.putObj l o') := by
  have hpm : H.Perm ([.obj l o] ++ R) := ht.perm
  have hl : w.heap[l]? = some o := st.hp.sat _ (List.mem_append_left _ (hpm.mem_iff.2 (List.mem_cons_self)))
  have hlt : l < w.heap.size := (Array.getElem?_eq_some_iff.1 hl).1
  refine ⟨hl, (St.eff (w' := w.putObj l o') (Hf := [.obj l o]) (Hf' := [.obj l o']) st hpm ⟨rfl, rfl, rfl, by simp, fun b hb ho => ?_, fun b hb => .inl ?_⟩ (by simp [blks, Ch.blk]) fun c hc => ?_).1⟩
  · exact World.putObj_heap_other (fun e => ho (by subst e; simp [own, blks, Ch.blk]))
  · simpa [own, blks, Ch.blk] using hb
  · rw [List.mem_singleton.1 hc]
    exact World.putObj_heap_same hlt
/-- The parameters of a round are put. -/
def putAll (s : Sl) : List Nat → List V → Sl
  | p :: ps, v :: vs => putAll ((p, v) :: s) ps vs
  | _, _ => s
theorem slok_putAll {w : World} {ow : Nat → Prop} : ∀ {ps : List Nat} {vs : List V} {xs : List Value} {s : Sl} {tmps : Array Value}, SlOk N s ow tmps w → concL w ow vs xs → ps.length = vs.length → (∀ p ∈ ps, p < N) →
    SlOk N (putAll s ps vs) ow ((ps.zip xs).foldl (fun t (p, a) => t.setIfInBounds p a) tmps) w
  | [], vs, xs, s, tmps, h, hx, hl, hp => by simpa [putAll] using h
  | p :: ps, [], xs, s, tmps, h, hx, hl, hp => by simp at hl
  | p :: ps, v :: vs, xs, s, tmps, h, hx, hl, hp => by
    simp only [concL] at hx
    obtain ⟨x, xs, rfl, h1, h2⟩ := hx
    have h3 := SlOk.put (a := { tmps := tmps, defers := [] }) h (some p) v x h1 (fun i hi => by cases hi; exact hp p (List.mem_cons_self))
    show SlOk N (putAll ((p, v) :: s) ps vs) ow ((ps.zip xs).foldl (fun t (p, a) => t.setIfInBounds p a) (tmps.setIfInBounds p x)) w
    exact slok_putAll h3 h2 (by simpa using hl) fun q hq => hp q (List.mem_cons_of_mem _ hq)
/-- How a round may end: what its record is behind it. -/
def RoundQ (l : Nat) (r : Loop) (Post : Bool → List Ch → Prop) : Exit → Sl → List Ch → Prop
  | .normal, s, H => ∃ R, Take (.obj l (.loop { r with state := .busy })) H R ∧ Post true (.obj l (.loop { r with state := .ready, pending := none }) :: R)
  | .ret, s, H => ∃ R, Take (.obj l (.loop { r with state := .busy })) H R ∧ Post false (.obj l (.loop { r with state := .done, pending := some .ret }) :: R)
  | .exit id, s, H => ∃ R, Take (.obj l (.loop { r with state := .busy })) H R ∧ Post false (.obj l (.loop { r with state := .done, pending := some (.exit id) }) :: R)
  | _, _, _ => False
theorem ytri_of {l : Nat} {r : Loop} {vs : List V} {Post : Bool → List Ch → Prop} {sr : Sl} (hrd : r.state = .ready) (hsl : ∀ (ow : Nat → Prop) (w : World), SlOk N sr ow r.tmps w) (hps : r.params.size = vs.length) (hpn : ∀ p ∈ r.params.toList, p < N)
    (hbody : ∀ j : J P N, j.rd = some l → AW j r.assign (Then (fun s1 H1 => ∃ R, Take (.obj l (.loop r)) H1 R ∧ AW j r.body (RoundQ l r Post) s1 (.obj l (.loop { r with state := .busy }) :: R)) (fun _ _ _ => False)) (putAll sr r.params.toList vs) (.obj l (.loop r) :: H)) :
    YTri P l vs (.obj l (.loop r) :: H) Post := fun F w xs hp hv => by
  have hl : w.heap[l]? = some (.loop r) := hp.sat (.obj l (.loop r)) (List.mem_append_left _ (List.mem_cons_self))
  have hxl := concL_length hv
  refine ⟨_, _, _, _, run_yield hl (by simp [hxl, hps]), roundIn_of_wpIn (F := Fence.wide) trivial ?_⟩
  let j : J P N := { F := F, H0 := own (.obj l (.loop r) :: H), w0 := w, rd := some l }
  have st : St j (putAll sr r.params.toList vs) (.obj l (.loop r) :: H) { tmps := (r.params.zip xs.toArray).foldl (fun tmps (t, a) => tmps.setIfInBounds t a) r.tmps, defers := [] } w := by
    refine ⟨?_, hp, Evo.refl _ _, rfl⟩
    have := slok_putAll (ps := r.params.toList) (hsl (own (.obj l (.loop r) :: H ++ F)) w) hv (by simpa using hps) hpn
    have e : (r.params.zip xs.toArray).foldl (fun tmps (t, a) => tmps.setIfInBounds t a) r.tmps = (r.params.toList.zip xs).foldl (fun t (p, a) => t.setIfInBounds p a) r.tmps := by
      rw [← Array.foldl_toList]
      simp
    rw [e]
    exact this
  refine wpIn_mono' (F := j.fence) (fun e a' w' h' => ?_) (hbody j rfl (fun _ _ k => k) _ w st)
  obtain ⟨s1, H1, st1, hq⟩ := h'
  cases e with
  | normal =>
    obtain ⟨R1, ht, hb⟩ := hq
    obtain ⟨hl1, st2⟩ := st_obj (o' := .loop { r with state := .busy }) ht st1
    refine ⟨_, run_beginRound hl1 hrd, wpIn_mono' (F := j.fence) (fun e a' w' h' => ?_) (hb (fun _ _ k => k) _ _ st2)⟩
    obtain ⟨s3, H3, st3, hq3⟩ := h'
    have fin : ∀ (jump : Option Code) (b : Bool) (R3 : List Ch), jump.isNone = b → Take (.obj l (.loop { r with state := .busy })) H3 R3 →
        Post b (.obj l (.loop { r with state := if jump.isNone then .ready else .done, pending := jump }) :: R3) →
        ∃ v w1, (Instr.endRound l jump).run P w' = .ok v w1 ∧ ∃ b H', (Ending.returned v) = .returned (.bool b) ∧ (blks H').Nodup ∧ (∀ c ∈ H', c.sat w1 (own (H' ++ F))) ∧ Evo (own (.obj l (.loop r) :: H)) w (own H') w1 ∧ Post b H' := fun jump b R3 hj ht3 hP => by
      obtain ⟨hl3, st4⟩ := st_obj (o' := .loop { r with state := if jump.isNone then .ready else .done, pending := jump }) ht3 st3
      have hnd := st4.hp.nd
      rw [blks_append] at hnd
      exact ⟨_, _, run_endRound jump hl3, b, _, by rw [hj], (List.nodup_append.1 hnd).1, fun c hc => st4.hp.sat c (List.mem_append_left _ hc), st4.evo, hP⟩
    cases e with
    | normal => obtain ⟨R3, k1, k2⟩ := hq3; exact fin none true R3 rfl k1 k2
    | ret => obtain ⟨R3, k1, k2⟩ := hq3; exact fin (some .ret) false R3 rfl k1 k2
    | exit id => obtain ⟨R3, k1, k2⟩ := hq3; exact fin (some (.exit id)) false R3 rfl k1 k2
    | goto t => exact hq3.elim
    | panic c => exact hq3.elim
    | outgrown => exact hq3.elim
  | _ => exact hq
theorem st_new_obj {a : Act} {w : World} (o : Obj) (st : St j s H a w) : St j s (.obj w.heap.size o :: H) a (w.alloc o) := by
  have e : Evo (own []) w (own [Ch.obj w.heap.size o]) (w.alloc o) :=
    ⟨rfl, rfl, rfl, by simp, fun b hb _ => heap_alloc_old w _ hb, fun b hb => .inr (by simp [own, blks, Ch.blk] at hb; omega)⟩
  exact (St.eff (w' := w.alloc o) (Hf := []) (Hf' := [.obj w.heap.size o]) (Hr := H) st (.refl _) e (by simp [blks, Ch.blk]) fun c hc => by
    rw [List.mem_singleton.1 hc]
    exact heap_alloc_new w _).1
/-- A post that speaks of act and world. -/
def Sem (j : J P N) (QQ : Exit → Act → World → Prop) (e : Exit) (s : Sl) (H : List Ch) : Prop := e ≠ .outgrown ∧ ∀ a w, St j s H a w → QQ e a w
theorem noOut_sem {QQ : Exit → Act → World → Prop} : NoOut (Sem j QQ) := fun s H k => k.1 rfl
def AWG (j : J P N) (c : Code) (QQ : Exit → Act → World → Prop) (s : Sl) (H : List Ch) : Prop := ∀ a w, St j s H a w → c.wpIn j.fence 0 P QQ a w
theorem awg_aw {c : Code} {QQ : Exit → Act → World → Prop} (h : AW j c (Sem j QQ) s H) : AWG j c QQ s H := fun a w st =>
  wpIn_mono' (fun e a' w' h' => let ⟨s', H', st', k⟩ := h'; k.2 a' w' st') (h noOut_sem a w st)
theorem awg_seq {x y : Code} {QQ : Exit → Act → World → Prop} (h : AW j x (Then (AWG j y QQ) (Sem j QQ)) s H) : AWG j (x.seq y) QQ s H := fun a w st =>
  wpIn_seq (wpIn_mono' (fun e a' w' h' => by
    obtain ⟨s', H', st', k⟩ := h'
    cases e with
    | normal => exact k a' w' st'
    | _ => exact k.2 a' w' st') (h (noOut_then noOut_sem) a w st))
/-- What follows a code that stands first in another one. -/
theorem awg_seq_in {x y : Code} {QQ : Exit → Act → World → Prop} (h : AWG j x (Exit.then (fun a w => y.wpIn j.fence 0 P QQ a w) QQ) s H) : AWG j (x.seq y) QQ s H := fun a w st => wpIn_seq (h a w st)
/-- The mark that a range over a function leaves among the deferred calls. -/
def mark (D : Nat) : List Deferred := [{ target := .collected D, args := #[] }]
theorem awg_rangeFunc {g : Operand} {ps : Array Tmp} {assign body : Code} {QQ : Exit → Act → World → Prop} {f : FuncId} {cap : List V} {Hf Hr : List Ch} {KN KR : List Ch → Prop} [en : Ent P f] (hrd : j.rd = none) (hdf : j.df = [])
    (hg : s.ev g = some (.fn f cap)) (hp : Pick Hf H Hr)
    (ht : ∀ (D l : Nat) (fn : FuncId) (tmps : Array Value), tmps.size = N → (∀ i v, s.get i = some (.raw v) → tmps[i]? = some v) →
      TriR P f (.raw (.func (.yield l) #[] #[]) :: cap) (.obj l (.loop { state := .ready, pending := none, fn := fn, tmps := tmps, params := ps, assign := assign, body := body, defers := D }) :: Hf)
        (fun v H' => ∃ r R, H' = .obj l (.loop r) :: R ∧ r.state ≠ .busy ∧ ((r.pending = none ∧ KN R) ∨ (r.pending = some .ret ∧ KR R))))
    (hN : ∀ (D l : Nat) (o : Obj) (R : List Ch), KN R → ∀ a w, St ({ j with df := mark D } : J P N) s (.obj l o :: (R ++ (.obj D (.deferred (some [])) :: Hr))) a w → QQ .normal a w)
    (hR : ∀ (D l : Nat) (o : Obj) (R : List Ch), KR R → ∀ a w, St ({ j with df := mark D } : J P N) s (.obj l o :: (R ++ (.obj D (.deferred (some [])) :: Hr))) a w → QQ .ret a w) :
    AWG j (.rangeFunc g ps assign body) QQ s H := fun a w st => by
  have hround : j.fence.round = none := hrd
  refine wpIn_rangeFunc fun fn hfn => ?_
  obtain ⟨l0, lc, h1, hl0, hlc⟩ := asFn_conc (o := s.ev g) (f := f) (b := []) (cap := cap) hg (by rw [hg]; rfl) (st.sl.ev hg)
  obtain rfl : l0 = [] := hl0
  let w2 : World := (w.alloc (.deferred (some []))).alloc (.loop { state := .ready, pending := none, fn := fn, tmps := a.tmps, params := ps, assign := assign, body := body, defers := w.heap.size })
  refine ⟨w.heap.size + 1, mark w.heap.size, w2, { target := .fn (.func f) lc.toArray, args := #[.func (.yield (w.heap.size + 1)) #[] #[]] }, w2, f, #[.func (.yield (w.heap.size + 1)) #[] #[]] ++ lc.toArray, w2, by rw [hround]; exact run_enterLoop_outer fn a.tmps ps assign body, ?_, fun _ _ => trivial, ?_, fun k => by simp [J.fence, Fence.wide] at k, ?_⟩
  · have h1' : a.eval g = .func (.func f) #[] lc.toArray := h1
    simp only [resolve, rangeCall, h1', Deferred.ofValue, Sem.run_bind, Sem.run_pure, Result.andThen_ok]
    simp [Act.eval]
  · simp [invoke, en.h]
  · have stD := st_new_obj (.deferred (some [])) st
    have stL := st_new_obj (.loop { state := .ready, pending := none, fn := fn, tmps := a.tmps, params := ps, assign := assign, body := body, defers := w.heap.size }) stD
    have hsz : (w.alloc (.deferred (some []))).heap.size = w.heap.size + 1 := by simp
    rw [hsz] at stL
    have htr := ht w.heap.size (w.heap.size + 1) fn a.tmps st.sl.1 (fun i v hv => by
      obtain ⟨x, k1, k2⟩ := st.sl.2 i _ hv
      simp only [conc] at k2
      rw [k1, k2])
    have hpm := hp.perm
    have hpm2 : (Ch.obj (w.heap.size + 1) (.loop { state := .ready, pending := none, fn := fn, tmps := a.tmps, params := ps, assign := assign, body := body, defers := w.heap.size }) :: Ch.obj w.heap.size (.deferred (some [])) :: H).Perm
        ((Ch.obj (w.heap.size + 1) (.loop { state := .ready, pending := none, fn := fn, tmps := a.tmps, params := ps, assign := assign, body := body, defers := w.heap.size }) :: Hf) ++ (Ch.obj w.heap.size (.deferred (some [])) :: Hr)) := by
      rw [List.cons_append]
      exact ((hpm.cons _).trans (List.perm_middle.symm)).cons _
    have st3 := stL.perm hpm2
    have hg3 := st3.sl.ev hg
    simp only [conc] at hg3
    obtain ⟨lc', hlc', hlc2⟩ := hg3
    have hlce : lc' = lc := by
      have := hlc'.symm.trans h1
      simpa using this
    subst hlce
    have hcall := htr ((Ch.obj w.heap.size (.deferred (some [])) :: Hr) ++ j.F) w2 (.func (.yield (w.heap.size + 1)) #[] #[] :: lc') (by rw [← List.append_assoc]; exact st3.hp) ⟨_, _, rfl, rfl, by rw [← List.append_assoc]; exact hlc2⟩
    have earr : (Value.func (.yield (w.heap.size + 1)) #[] #[] :: lc').toArray = #[Value.func (.yield (w.heap.size + 1)) #[] #[]] ++ lc'.toArray := by simp
    rw [earr] at hcall
    refine calls_in (Calls.mono hcall fun e w' ⟨ae, H', k1, k2, k3, k4, v, hae, r, R, hH, hst, hcase⟩ => ?_)
    subst hae hH
    obtain ⟨x, rfl, _⟩ := k1
    obtain ⟨st', _, _⟩ := St.eff (Hf' := .obj (w.heap.size + 1) (.loop r) :: R) st3 (.refl _) k4 k2 (fun c hc => by rw [List.append_assoc]; exact k3 c hc)
    obtain ⟨hl4, st4⟩ := st_obj (o' := .loop { r with state := .exhausted }) .here st'
    have st5 : St ({ j with df := mark w.heap.size } : J P N) s (.obj (w.heap.size + 1) (.loop { r with state := .exhausted }) :: (R ++ (.obj w.heap.size (.deferred (some [])) :: Hr))) { tmps := a.tmps, defers := mark w.heap.size ++ a.defers } (w'.putObj (w.heap.size + 1) (.loop { r with state := .exhausted })) :=
      ⟨st4.sl, st4.hp, st4.evo, by rw [st.df, hdf]; simp⟩
    rcases hcase with ⟨hpd, hk⟩ | ⟨hpd, hk⟩
    · exact ⟨none, _, (run_endLoop hl4 hst).trans (congrArg (fun q => Result.ok q (w'.putObj (w.heap.size + 1) (.loop { r with state := .exhausted }))) hpd), hN _ _ _ _ hk _ _ st5⟩
    · exact ⟨some .ret, _, (run_endLoop hl4 hst).trans (congrArg (fun q => Result.ok q (w'.putObj (w.heap.size + 1) (.loop { r with state := .exhausted }))) hpd), wpIn_ret (hR _ _ _ _ hk _ _ st5)⟩
/-- What a function that holds a range over a function gives at its end. -/
def RF (j : J P N) (Post : AEnd → List Ch → Prop) (e : Ending) (w : World) : Prop := ∃ ae H', concEnd w (own (H' ++ j.F)) ae e ∧ (blks H').Nodup ∧ (∀ c ∈ H', c.sat w (own (H' ++ j.F))) ∧ Evo j.H0 j.w0 (own H') w ∧ Post ae H'
theorem leaves0 {fn : Func} {Post : AEnd → List Ch → Prop} {j' : J P N} {a : Act} {w : World} (st : St j s H a w) (hF : j.F = j'.F) (h0 : j.H0 = j'.H0) (hw : j.w0 = j'.w0) (h : RetOk j fn s H fun v H' => Post (.ret v) H') :
    LeavesInM Fence.wide 0 P fn a.tmps (RF j' Post) [] .returning w := by
  obtain ⟨x, v, s2, H2, k1, k2, k3, k4⟩ := h a w st
  have hnd := k2.hp.nd
  rw [blks_append] at hnd
  refine ⟨x, k1, .ret v, H2, ⟨x, rfl, hF ▸ k3⟩, (List.nodup_append.1 hnd).1, fun c hc => hF ▸ k2.hp.sat c (List.mem_append_left _ hc), ?_, k4⟩
  rw [← h0, ← hw]
  exact k2.evo
theorem sem_ret0 {fn : Func} {Post : AEnd → List Ch → Prop} (hdf : j.df = []) (h : RetOk j fn s H fun v H' => Post (.ret v) H') : Sem j (bodyPostM Fence.wide 0 P fn (RF j Post)) .ret s H := ⟨by simp, fun a w st => by
  show LeavesInM Fence.wide 0 P fn a.tmps _ a.defers .returning w
  rw [st.df, hdf]
  exact leaves0 st rfl rfl rfl h⟩
theorem sem_retM {fn : Func} {Post : AEnd → List Ch → Prop} {j' : J P N} {D : Nat} (hF : j.F = j'.F) (h0 : j.H0 = j'.H0) (hw : j.w0 = j'.w0) (hdf : j.df = mark D) (ht : Take (.obj D (.deferred (some []))) H R) (h : RetOk j fn s (.obj D (.deferred none) :: R) fun v H' => Post (.ret v) H') :
    Sem j (bodyPostM Fence.wide 0 P fn (RF j' Post)) .ret s H := ⟨by simp, fun a w st => by
  show LeavesInM Fence.wide 0 P fn a.tmps _ a.defers .returning w
  rw [st.df, hdf]
  obtain ⟨hl, st2⟩ := st_obj (o' := .deferred none) ht st
  exact ⟨by simp, .inl ⟨D, _, rfl, run_takeDeferred hl, leaves0 st2 hF h0 hw h⟩⟩⟩
theorem tri_ofM {f : FuncId} {fn : Func} {c : Code} {vs : List V} {Post : AEnd → List Ch → Prop} (hf : P.funcs[f]? = some fn) (hb : fn.body = some c) (hN : fn.ntmps = N) (hn0 : Nat.ble vs.length N = true)
    (h : ∀ j : J P N, j.rd = none → j.df = [] → AWG j c (bodyPostM Fence.wide 0 P fn (RF j Post)) (initS 0 vs) H) : Tri P f vs H Post := fun F w xs hp hv => by
  have hn := Nat.le_of_ble_eq_true hn0
  have hxl := concL_length hv
  let j : J P N := { F := F, H0 := own H, w0 := w }
  have st : St j (initS 0 vs) H { tmps := xs.toArray ++ Array.replicate (fn.ntmps - xs.toArray.size) undef, defers := [] } w := by
    refine ⟨⟨by simp [hN]; omega, fun i v hi => ?_⟩, hp, Evo.refl _ _, rfl⟩
    obtain ⟨m, x, rfl, h1, h2⟩ := initS_get 0 hv i v hi
    have hm : m < xs.length := (List.getElem?_eq_some_iff.1 h1).1
    refine ⟨x, ?_, h2⟩
    rw [Nat.zero_add, Array.getElem?_append_left (by simpa using hm)]
    simpa using h1
  exact callsIn_wide.1 (callsIn_of_wp_marks (F := Fence.wide) (n := 0) hf hb trivial (h j rfl rfl _ w st))
theorem awg_block {id : Nat} {c : Code} {QQ : Exit → Act → World → Prop} (h : AWG j c (Exit.inBlock id QQ) s H) : AWG j (.block id c) QQ s H := fun a w st => wpIn_block (h a w st)
end Go.AX

set_option linter.unusedVariables false
set_option linter.unusedSimpArgs false
namespace Go.AX
variable {P : Program} {N : Nat} {j : J P N} {Q : Exit → Sl → List Ch → Prop} {K : Sl → List Ch → Prop} {s so : Sl} {H R : List Ch}
variable {dst : Option Tmp} {ty : TypeId} {pos : String} {after : Array Edge} {g : Option (Nat × Bool)} {T T' : TypeId} {x y : Operand} {m n : Int}
theorem pv_sub_u8 (hx : s.ev x = some (.raw (.int .u8 m))) (hy : s.ev y = some (.raw (.int .u8 n))) (h : 0 ≤ m - n ∧ m - n ≤ 255) : PureV j s H ⟨dst, .binOp .sub T x y T', ty, pos, after, g⟩ (.raw (.int .u8 (m - n))) := by
  have := pv_sub (j := j) (H := H) (dst := dst) (ty := ty) (pos := pos) (after := after) (g := g) (T := T) (T' := T') hx hy
  rwa [IntWalk.u8_in _ h] at this
variable {E1 Hs F : List Ch} {D : TypeDesc} {sz bs : Nat} {z : Value} {v : V}
/-- A load, in a drawn region, of a box that the caller owns. -/
theorem hv_load_boxF {b k : Nat} {B : TypeId} {cells : List V} [t : Ty P T D sz bs z] (hj : DrawJ j Hs F E1) (hx : so.ev x = some (.raw (.pointer (some ⟨b, k, none⟩)))) (hm : Ch.box b B cells ∈ F) (hD : aggOf D = false) (hc : cells[k]? = some v) :
    HV j so E1 ⟨dst, .load T x, ty, pos, after, g⟩ v :=
  hv_load_box (Hs := Hs ++ F) (F := []) ⟨hj.f.trans (List.append_nil _).symm, hj.h0⟩ hx (List.mem_append_right _ hm) hD hc
theorem DrawJ.memF (hj : DrawJ j Hs F E1) {c : Ch} (hc : c ∈ F) (E : List Ch) : c ∈ E ++ j.F := by
  rw [hj.f]; exact List.mem_append_right _ (List.mem_append_right _ hc)
theorem by_memjf {c : Ch} (h : c ∈ H ++ F := by first | exact by_memj | exact DrawJ.memF (by assumption) (by assumption) _) : c ∈ H ++ F := h
end Go.AX

set_option linter.unusedVariables false
set_option linter.unusedSimpArgs false
namespace Go.AX
variable {P : Program} {N : Nat} {j : J P N} {Q : Exit → Sl → List Ch → Prop} {K : Sl → List Ch → Prop} {s so : Sl} {H R : List Ch}
variable {d : Nat} {dst : Option Tmp} {ty : TypeId} {pos : String} {after : Array Edge} {g : Option (Nat × Bool)} {T T' : TypeId} {x y : Operand} {sz bs : Nat} {z : Value}
theorem run_append_str_where (w : World) (t u ty e : TypeId) (i : TypeInfo) (ht : P.underlying t = some (.slice e)) (hu : P.underlying u = some .string) (hi : P.info? e = some i) (hz : i.zero = some (.int .u8 0))
    (hsize : i.size = 1) (hby : i.bytes = 1) (v : Value) (n : Nat) (xs : List Value) (hown : w.ownsRow 0 e 1 v n xs) (p : ByteArray) (h63 : n + p.size ≤ maxLen) (hbytes : n + p.size ≤ 140737488355328) :
    ∃ v' w', (Builtin.append_ #[t, u] ty #[v, .string p]).run P w = .ok v' w' ∧ w'.ownsRow 0 e 1 v' (n + p.size) (xs ++ Lib.strCells p) ∧ w.grownBy w' v.ownBlock ∧ ∀ b, v'.ownBlock = some b → v.ownBlock = some b ∨ w.heap.size ≤ b := by
  obtain ⟨v', w', k1, k2, k3, _⟩ := Lib.run_append_own_string (P := P) w 0 t u ty e i ht hu hi hz hsize hby v n xs hown p h63 hbytes (Nat.zero_le _)
  refine ⟨v', w', k1, k2, k3, fun b hb => ?_⟩
  have hxl : xs.length = n := by simpa using hown.1
  rcases hown.2 with ⟨rfl, rfl⟩ | ⟨gg, cap, cur, rfl, hbg, hg, hnc, hcm, hcs, htake⟩
  · obtain ⟨v2, w2, q1, q2, _, _⟩ := Lib.run_append_own_string (P := P) w w.heap.size t u ty e i ht hu hi hz hsize hby (.slice none 0 0) 0 xs ⟨by simpa using hxl, .inl ⟨rfl, rfl⟩⟩ p h63 hbytes (Nat.le_refl _)
    rw [k1] at q1
    cases q1
    exact .inr (q2.lt b hb).1
  · by_cases hroom : n + p.size ≤ cap
    · have hr := Lib.run_append_room_string (P := P) w t u ty e i ht hu hi hsize gg n cap cur hg p hroom (by rw [show cur.size = cap by simpa using hcs]; omega)
      rw [k1] at hr
      cases hr
      exact .inl hb
    · have holds : ∀ j u, xs[j]? = some u → w.cell? ((⟨gg, 0, none⟩ : Addr).add j) = some u := hown.cells (g := gg) rfl
      have hr := Lib.run_append_grow_string (P := P) w t u ty e i (.int .u8 0) ht hu hi hz ⟨gg, 0, none⟩ n cap xs (by rw [hsize]; simpa using hxl) holds p (by omega) (by simp only [maxLen] at h63; omega) (by rw [hby]; exact growslice_fits (by omega) (by omega))
      rw [k1] at hr
      cases hr
      right
      have hb' : w.heap.size = b := Option.some.inj hb
      omega
theorem strCells_raw {w : World} {ow : Nat → Prop} (p : ByteArray) : concL w ow ((nums p).map br).flatten (Lib.strCells p) := by
  rw [br_flat]
  have : Lib.strCells p = (nums p).map fun b => Value.int .u8 b := by unfold Lib.strCells nums; rw [List.map_map]; rfl
  have e2 : ((nums p).map fun b => V.raw (.int .u8 b)) = ((nums p).map fun b => Value.int .u8 b).map V.raw := by rw [List.map_map]; rfl
  rw [this, e2]
  exact concL_raws.2 rfl
/-- 'append(own, text...)'. -/
theorem op_append_str {e : Nat} {zs sv zt : Value} {szT bsT st' bt' : Nat} {rows : List (List V)} {p : ByteArray} {H' : List Ch} [t : Ty P T (.slice e) szT bsT zs] [te : Ty P e (.int .u8) 1 1 (.int .u8 0)] [ts : Ty P T' .string st' bt' zt]
    (hx : s.ev x = some (.own sv)) (ht : Take (.vec sv e 1 rows) H H') (hy : s.ev y = some (.raw (.string p))) (hb : rows.length + p.size ≤ 140737488355328) (hN : Nat.blt d N = true)
    (h : ∀ sv', K ((d, .own sv') :: s) (.vec sv' e 1 (rows ++ (nums p).map br) :: H')) : OP j ⟨some d, .call { callee := .builtin .append, args := #[x, y], argTypes := #[T, T'] }, ty, pos, after, none⟩ K Q s H :=
  op_eff rfl hN fun a w st => by
    have h1 := st.sl.ev hx
    have h2 := st.sl.ev hy
    simp only [conc] at h1 h2
    obtain ⟨l, ho, hl1, h1c, hr⟩ := st.hp.sat _ (List.mem_append_left _ ht.mem)
    obtain ⟨i, hi1, hi2, hi3, hi4⟩ := te.i
    obtain ⟨sv', w', k1, k2, k3, k4⟩ := run_append_str_where (P := P) w T T' ty e i t.u ts.u hi1 (by first | exact hi4 | exact hi2 | exact hi3) (by first | exact hi2 | exact hi3 | exact hi4) (by first | exact hi3 | exact hi2 | exact hi4) sv rows.length l ho p (by simp only [maxLen]; omega) hb
    have ev : Evo (own [Ch.vec sv e 1 rows]) w (own [Ch.vec sv' e 1 (rows ++ (nums p).map br)]) w' := by
      have e1 : ∀ (sv : Value) rows b, own [Ch.vec sv e 1 rows] b ↔ sv.ownBlock = some b := by
        intro sv rows b
        cases hsv : sv.ownBlock <;> simp [own, blks, Ch.blk, hsv, eq_comm]
      exact ⟨k3.os, k3.tape, k3.output, k3.size, fun b hb hn => k3.block b hb (fun e => hn ((e1 _ _ _).2 e.symm)), fun b hb => by
        rcases k4 b ((e1 _ _ _).1 hb) with h | h
        · exact .inl ((e1 _ _ _).2 h)
        · exact .inr h⟩
    have hp1 := ht.perm
    have kk : Keeps (own (H ++ j.F)) w (own (Ch.vec sv' e 1 (rows ++ (nums p).map br) :: H' ++ j.F)) w' := by
      have hq : own (H ++ j.F) = own (Ch.vec sv e 1 rows :: H' ++ j.F) := own_funext (hp1.append_right _)
      rw [hq]
      have := (ev.frame (of := own (H' ++ j.F))).keeps
      have q1 : (fun b => own [Ch.vec sv e 1 rows] b ∨ own (H' ++ j.F) b) = own (Ch.vec sv e 1 rows :: H' ++ j.F) := funext fun b => propext (own_append [_] _ b).symm
      have q2 : (fun b => own [Ch.vec sv' e 1 (rows ++ (nums p).map br)] b ∨ own (H' ++ j.F) b) = own (Ch.vec sv' e 1 (rows ++ (nums p).map br) :: H' ++ j.F) := funext fun b => propext (own_append [_] _ b).symm
      rwa [q1, q2] at this
    have sat' : (Ch.vec sv' e 1 (rows ++ (nums p).map br)).sat w' (own (Ch.vec sv' e 1 (rows ++ (nums p).map br) :: H' ++ j.F)) := by
      refine ⟨l ++ Lib.strCells p, by rw [List.length_append, List.length_map, nums_len]; exact k2, ?_, fun y hy => ?_, fun r hr' => ?_⟩
      · rw [List.flatten_append]
        exact concL_append (concL_keep kk _ _ hl1) (strCells_raw p)
      · rcases List.mem_append.1 hy with hy | hy
        · exact h1c y hy
        · exact Lib.strCells_oneCell p y hy
      · rcases List.mem_append.1 hr' with hr' | hr'
        · exact hr r hr'
        · obtain ⟨_, _, rfl⟩ := List.mem_map.1 hr'; rfl
    have st' := (St.eff (Hf := [.vec sv e 1 rows]) (Hf' := [.vec sv' e 1 (rows ++ (nums p).map br)]) (Hr := H') st hp1 ev (by simp only [blks, List.filterMap_cons, List.filterMap_nil, Ch.blk]; cases sv'.ownBlock <;> simp) (fun c hc => by simp only [List.mem_singleton] at hc; subst hc; exact sat')).1
    obtain ⟨A', c', hf', _⟩ := own_form k2
    refine ⟨sv', w', .own sv', _, ?_, st', by simp only [conc]; exact ⟨trivial, by rw [hf']; rfl⟩, h sv'⟩
    simp [execOp, resolve, invoke, builtin, h1.1, h2, k1]
/-- A slice of one's own that holds something. -/
theorem own_some {w : World} {sv : Value} {E : TypeId} {n : Nat} {l : List Value} (h : w.ownsRow 0 E 1 sv n l) (hn : 0 < n) : ∃ b c cur, sv = .slice (some ⟨b, 0, none⟩) n c ∧ w.heap[b]? = some (.cells cur E (0, 0)) ∧ n ≤ c ∧ n ≤ cur.size ∧ c ≤ maxLen := by
  rcases h.2 with ⟨rfl, rfl⟩ | ⟨gg, cap, cur, rfl, hbg, hg, hnc, hcm, hcs, htake⟩
  · omega
  · exact ⟨gg, cap, cur, rfl, hg, hnc, by rw [show cur.size = cap by simpa using hcs]; exact hnc, hcm⟩
/-- 'unsafe.SliceData(own)' of a slice that holds something. -/
theorem op_sliceData {E : TypeId} {sv : Value} {rows : List (List V)} {ts : Array TypeId} (hx : s.ev x = some (.own sv)) (hm : Ch.vec sv E 1 rows ∈ H ++ j.F) (hn : 0 < rows.length) (hN : Nat.blt d N = true)
    (h : K ((d, .vp sv 1 0 0) :: s) H) : OP j ⟨some d, .call { callee := .builtin .unsafeSliceData, args := #[x], argTypes := ts }, ty, pos, after, none⟩ K Q s H :=
  op_eff rfl hN fun a w st => by
    have h1 := st.sl.ev hx
    simp only [conc] at h1
    obtain ⟨l, ho, _⟩ := st.hp.sat _ hm
    obtain ⟨b, c, cur, rfl, hg, hc, _⟩ := own_some ho hn
    refine ⟨.pointer (some ⟨b, 0, none⟩), w, .vp (.slice (some ⟨b, 0, none⟩) rows.length c) 1 0 0, H, ?_, st, ⟨b, _, _, rfl, by simp⟩, h⟩
    simp [execOp, resolve, invoke, builtin, h1.1, Lib.run_unsafeSliceData_row (P := P) w ts ty ⟨b, 0, none⟩ rows.length c (by omega)]
/-- 'unsafe.String(p, n)' of all bytes of a slice of one's own: it is written no more. -/
theorem op_unsafeString {pt it e : TypeId} {sv zp ze : Value} {sp bp : Nat} {l : List Int} {H' : List Ch} [tp : Ty P pt (.pointer e) sp bp zp] [te : Ty P e (.int .u8) 1 1 ze]
    (hx : s.ev x = some (.vp sv 1 0 0)) (hy : s.ev y = some (.raw (.int .i64 l.length))) (ht : Take (.vec sv e 1 (l.map br)) H H') (hl0 : 0 < l.length) (hl : ∀ v ∈ l, 0 ≤ v ∧ v ≤ 255) (hN : Nat.blt d N = true) (hce : P.cellsOf e = 1)
    (h : K ((d, .raw (.string (strOfNums l))) :: s) H') : OP j ⟨some d, .call { callee := .builtin .unsafeString, args := #[x, y], argTypes := #[pt, it] }, ty, pos, after, none⟩ K Q s H :=
  op_eff rfl hN fun a w st => by
    have h1 := st.sl.ev hx
    have h2 := st.sl.ev hy
    simp only [conc] at h1 h2
    obtain ⟨xs, ho, k1, k2, k3⟩ := st.hp.sat _ (List.mem_append_left _ ht.mem)
    rw [br_flat] at k1
    obtain rfl := concL_br k1
    obtain ⟨b, c, cur, rfl, hg, hc, hcur, hcm⟩ := own_some ho (by rw [List.length_map]; exact hl0)
    rw [List.length_map] at hc hcur ho
    obtain ⟨b', n', c', hsv, h1'⟩ := h1
    cases hsv
    have hcells : ∀ i v, (l.map (Value.int .u8))[i]? = some v → w.cell? ⟨b, i, none⟩ = some v := fun i v hv => by
      have := ho.cells (g := b) rfl i v hv
      rwa [Addr.add_lit, Nat.zero_add] at this
    let lb : List UInt8 := l.map fun v => UInt8.ofNat v.toNat
    have hlb : lb.length = l.length := List.length_map ..
    have hnat : ∀ v ∈ l, ((UInt8.ofNat v.toNat).toNat : Int) = v := fun v hv => by
      have := hl v hv
      rw [UInt8.toNat_ofNat']
      omega
    have hrun := Lib.run_unsafeString_row (P := P) w pt it ty e tp.u hce b cur.size (by simp [World.shape?, hg]) lb (by intro q; rw [q] at hlb; simp at hlb; omega) (by rw [hlb]; exact hcur) (by rw [hlb]; simp only [maxLen] at hcm; omega) (fun q u hu => by
      rw [Addr.add_lit, Nat.zero_add]
      rw [List.getElem?_map] at hu
      cases hq : l[q]? with
      | none => rw [hq] at hu; cases hu
      | some v =>
        rw [hq] at hu
        cases hu
        rw [hcells q (.int .u8 v) (by rw [List.getElem?_map, hq]; rfl), hnat v (List.mem_of_getElem? hq)])
    rw [hlb] at hrun
    have hstr : (⟨lb.toArray⟩ : ByteArray) = strOfNums l := rfl
    have hblk : ∀ k, k ≠ b → (w.freeze ⟨b, 0, none⟩ l.length).heap[k]? = w.heap[k]? := fun k hk => by
      unfold World.freeze
      split
      · rfl
      · simp [Array.getElem?_modify, Ne.symm hk]
    have hsz : (w.freeze ⟨b, 0, none⟩ l.length).heap.size = w.heap.size := by
      unfold World.freeze
      split <;> simp
    have ev : Evo (own [Ch.vec (.slice (some ⟨b, 0, none⟩) (l.map br).length c) e 1 (l.map br)]) w (own []) (w.freeze ⟨b, 0, none⟩ l.length) := by
      refine ⟨by unfold World.freeze; split <;> rfl, by unfold World.freeze; split <;> rfl, by unfold World.freeze; split <;> rfl, by rw [hsz]; exact Nat.le_refl _, fun k _ hk => hblk k fun q => hk ?_, fun k hk => by simp [own, blks] at hk⟩
      subst q
      simp [own, blks, Ch.blk, Value.ownBlock]
    have st' := (St.eff (Hf := [.vec (.slice (some ⟨b, 0, none⟩) (l.map br).length c) e 1 (l.map br)]) (Hf' := []) (Hr := H') st ht.perm ev (by simp [blks]) (fun c hc => by simp at hc)).1
    refine ⟨.string (strOfNums l), _, .raw (.string (strOfNums l)), H', ?_, st', rfl, h⟩
    rw [← hstr]
    have hp0 : a.eval x = .pointer (some ⟨b, 0, none⟩) := by rw [h1']
    simp [execOp, resolve, invoke, builtin, hp0, h2, hrun]
theorem run_eql_ptr_nil2 {P : Program} {w : World} {tp te : TypeId} {j : TypeInfo} (hp : P.underlying tp = some (.pointer te)) (hte : P.info? te = some j) :
    (binOp .eql tp (.pointer none) (.pointer none)).run P w = .ok (.bool true) w := by
  have h : ∀ d : Nat, (Op.equalIn (d + 1) tp (.pointer none) (.pointer none)).run P w = .ok true w := fun d => by
    simp [Op.equalIn, run_underlying hp, sizeOf, typeInfo, hte]
  simp only [binOp]
  simp [Op.equal, Op.maxDepth, h 9999]
theorem run_eql_ptr_nil1 {P : Program} {w : World} {tp te : TypeId} {j : TypeInfo} {a : Addr} (hp : P.underlying tp = some (.pointer te)) (hte : P.info? te = some j) :
    (binOp .eql tp (.pointer (some a)) (.pointer none)).run P w = .ok (.bool false) w := by
  have h : ∀ d : Nat, (Op.equalIn (d + 1) tp (.pointer (some a)) (.pointer none)).run P w = .ok false w := fun d => by
    simp [Op.equalIn, run_underlying hp, sizeOf, typeInfo, hte]
  simp only [binOp]
  simp [Op.equal, Op.maxDepth, h 9999]
theorem pv_eql_ptr_nil2 {e sp bp : Nat} {zp : Value} {i : TypeInfo} [t : Ty P T (.pointer e) sp bp zp] (hx : s.ev x = some (.raw (.pointer none))) (hy : s.ev y = some (.raw (.pointer none))) (hi : P.info? e = some i) : PureV j s H ⟨dst, .binOp .eql T x y T', ty, pos, after, g⟩ (.raw (.bool true)) :=
  pv_bin hx hy (fun w => by simp [go_sem]) fun w => run_eql_ptr_nil2 t.u hi
theorem pv_eql_ptr_nil1 {e sp bp : Nat} {zp : Value} {i : TypeInfo} {ad : Addr} [t : Ty P T (.pointer e) sp bp zp] (hx : s.ev x = some (.raw (.pointer (some ad)))) (hy : s.ev y = some (.raw (.pointer none))) (hi : P.info? e = some i) : PureV j s H ⟨dst, .binOp .eql T x y T', ty, pos, after, g⟩ (.raw (.bool false)) :=
  pv_bin hx hy (fun w => by simp [go_sem]) fun w => run_eql_ptr_nil1 t.u hi
theorem pv_neq_ptr_same {e sp bp : Nat} {zp : Value} {i : TypeInfo} {ad : Addr} [t : Ty P T (.pointer e) sp bp zp] (hx : s.ev x = some (.raw (.pointer (some ad)))) (hy : s.ev y = some (.raw (.pointer (some ad)))) (hi : P.info? e = some i) : PureV j s H ⟨dst, .binOp .neq T x y T', ty, pos, after, g⟩ (.raw (.bool false)) :=
  pv_bin hx hy (fun w => by simp [go_sem]) fun w => Lib.run_neq_ptr_same w _ t.u hi
/-- '*T' to unsafe.Pointer and back, at a variable of one's own: the address as it is. -/
theorem vv_to_unsafe {b E e sp bp su bu : Nat} {zp zu : Value} {i : TypeInfo} {cells : List V} [t : Ty P T (.pointer e) sp bp zp] [t' : Ty P T' .unsafePointer su bu zu] (hx : s.ev x = some (.raw (.pointer (some ⟨b, 0, none⟩)))) (hm : Ch.box b E cells ∈ H ++ j.F) (hi : P.info? e = some i) (hs : i.size ≠ 0) (hc : 0 < cells.length) :
    ValV j s H ⟨dst, .convert T T' x, ty, pos, after, g⟩ (.raw (.pointer (some ⟨b, 0, none⟩))) := fun a w st => by
  have h1 := st.sl.ev hx
  simp only [conc] at h1
  obtain ⟨l, k1, k2, _⟩ := box_cells st hm
  have hl := concL_length k2
  refine ⟨_, ?_, rfl⟩
  simp [execOp, h1, Lib.run_to_unsafe w ⟨b, 0, none⟩ t.u t'.u hi hs (e := E) (cells := l.length) (by simp [World.shape?, k1]) (by show 0 < l.length; omega)]
theorem vv_from_unsafe {b e sp bp su bu : Nat} {zp zu : Value} {i : TypeInfo} {cells : List V} [t : Ty P T' (.pointer e) sp bp zp] [t' : Ty P T .unsafePointer su bu zu] (hx : s.ev x = some (.raw (.pointer (some ⟨b, 0, none⟩)))) (hm : Ch.box b e cells ∈ H ++ j.F) (hi : P.info? e = some i) (hlies : liesAt P P.depth e (cells.length / P.cellsOf e) 0 e 1 = true) :
    ValV j s H ⟨dst, .convert T T' x, ty, pos, after, g⟩ (.raw (.pointer (some ⟨b, 0, none⟩))) := fun a w st => by
  have h1 := st.sl.ev hx
  simp only [conc] at h1
  obtain ⟨l, k1, k2, _⟩ := box_cells st hm
  have hl := concL_length k2
  refine ⟨_, ?_, rfl⟩
  simp [execOp, h1, Lib.run_from_unsafe w ⟨b, 0, none⟩ t'.u t.u hi (e := e) (cells := l.length) (by simp [World.shape?, k1]) (by rw [hl]; exact hlies)]
/-- A call of internal/abi.NoEscape: its argument as it is. -/
theorem pv_noEscape {f : FuncId} {fn : Func} {v : Value} {ts : Array TypeId} (hx : s.ev x = some (.raw v)) (hf : P.funcs[f]? = some fn) (hn : (fn.name == "runtime.NumGoroutine") = false) (hb : fn.body.isNone = true) (h1 : Extern.findNext fn = none) (h2 : Extern.find fn = some Extern.AbiNoEscape.same) :
    PureV j s H ⟨dst, .call { callee := .value (.func f), args := #[x], argTypes := ts }, ty, pos, after, g⟩ (.raw v) := fun a w st => by
  have h3 := st.sl.ev hx
  simp only [conc] at h3
  refine ⟨v, fun w' => ?_, rfl⟩
  have := run_callFunc_extern hf hn hb h1 h2 #[v] w'
  rw [Lib.run_noEscape] at this
  have e : a.eval (.func f) = .func (.func f) #[] #[] := rfl
  simp [execOp, resolve, e, Deferred.ofValue, invoke, h3, this]
end Go.AX

set_option linter.unusedVariables false
set_option linter.unusedSimpArgs false
namespace Go.AX
variable {P : Program} {N : Nat} {j : J P N} {Q : Exit → Sl → List Ch → Prop} {s : Sl} {H Hr : List Ch} {K : Sl → List Ch → Prop}
variable {d : Nat} {ty : TypeId} {pos : String} {after : Array Edge}
theorem op_perm {o : Oper} {K2 : Sl → List Ch → Prop} (h : OP j o K2 Q s H) (hk : ∀ s' H', K2 s' H' → ∃ H2, H'.Perm H2 ∧ K s' H2) : OP j o K Q s H := fun a w st K' hK =>
  h a w st K' fun a' w' hl => by
    obtain ⟨s', H', st', k⟩ := hl
    obtain ⟨H2, hp, k2⟩ := hk s' H' k
    exact hK a' w' ⟨s', H2, st'.perm hp, k2⟩
theorem op_callK {c : Ch} {f : FuncId} {fop : Operand} {args : Array Operand} {tys : Array TypeId} {bf cap vs : List V} {v : V} [en : Ent P f]
    (hf : asFn (s.ev fop) = some (f, bf, cap)) (ha : s.evs args.toList = some vs) (ht : TriR P f (bf ++ vs ++ cap) [c] fun u H' => u = v ∧ H' = [c]) (hp : Take c H Hr) (hN : Nat.blt d N = true)
    (hk : K ((d, v) :: s) H) : OP j ⟨some d, .call { callee := .value fop, args := args, argTypes := tys }, ty, pos, after, none⟩ K Q s H :=
  op_perm (K2 := fun s' H' => s' = (d, v) :: s ∧ H' = c :: Hr) (op_callR hf ha (.cons hp .nil) ht hN fun u H' h => by obtain ⟨rfl, rfl⟩ := h; exact ⟨rfl, rfl⟩)
    fun s' H' h => by obtain ⟨rfl, rfl⟩ := h; exact ⟨H, hp.perm.symm, hk⟩
end Go.AX

set_option linter.unusedVariables false
set_option linter.unusedSimpArgs false
namespace Go.AX
def headOk (k : IntKind) : List V → Bool
  | .raw (.int k' _) :: _ => decide (k' ≠ k)
  | .raw _ :: _ => true
  | _ => false
mutual
def awayV (k : IntKind) : V → Bool
  | .raw _ => true
  | .ro rows => awayR k rows
  | .agg cs => awayL k cs
  | _ => false
def awayL (k : IntKind) : List V → Bool
  | [] => true
  | v :: vs => awayV k v && awayL k vs
def awayR (k : IntKind) : List (List V) → Bool
  | [] => true
  | r :: rs => (headOk k r && awayL k r) && awayR k rs
end
section
variable {k : IntKind} {w : World} {ow ow1 : Nat → Prop}
theorem head_apart {r : List V} {b o : Nat} (how : ∀ b, ow b → ∃ (cs : Array Value) (T : TypeId), w.heap[b]? = some (.cells cs T (0, 0)) ∧ ∀ y ∈ cs.toList, ∃ n, y = .int k n)
    (hr : headOk k r = true) (h : concAt w ow1 b o r) : ¬ ow b := fun q => by
  obtain ⟨cs, T, hc, hi⟩ := how b q
  obtain ⟨z, r', rfl, hz⟩ : ∃ z r', r = .raw z :: r' ∧ ∀ n, z ≠ .int k n := by
    cases r with
    | nil => simp [headOk] at hr
    | cons v r' =>
      cases v with
      | raw z =>
        refine ⟨z, r', rfl, fun n e => ?_⟩
        subst e
        simp [headOk] at hr
      | _ => simp [headOk] at hr
  simp only [concAt] at h
  obtain ⟨⟨y, hy, _, hs⟩, _⟩ := h
  simp only [conc] at hs
  subst hs
  simp only [World.cell?, hc] at hy
  have hm : y ∈ cs.toList := by
    have := Array.mem_of_getElem? (by simpa using hy)
    exact Array.mem_toList_iff.2 this
  obtain ⟨n, hn⟩ := hi y hm
  exact hz n hn
mutual
theorem conc_apart (how : ∀ b, ow b → ∃ (cs : Array Value) (T : TypeId), w.heap[b]? = some (.cells cs T (0, 0)) ∧ ∀ y ∈ cs.toList, ∃ n, y = .int k n) : ∀ (v : V) (x : Value), awayV k v = true → conc w ow1 v x → conc w ow v x
  | .raw v, x, _, h => by simpa only [conc] using h
  | .ro rows, x, ha, h => by
    rw [awayV] at ha
    simp only [conc] at h ⊢
    obtain ⟨A, c, rfl, h1, h2, h3⟩ := h
    refine ⟨A, c, rfl, h1, h2, ?_⟩
    rcases h3 with h3 | ⟨b, o, sz, rfl, hb, ho, hr⟩
    · exact .inl h3
    · cases hrows : rows with
      | nil => exact .inl ⟨rfl, fun e => by cases e⟩
      | cons r rs =>
        rw [hrows] at ha hr
        refine .inr ⟨b, o, sz, rfl, hb, ?_, hrows ▸ concRows_apart how b sz o rows (hrows ▸ ha) (hrows ▸ hr)⟩
        rw [awayR] at ha
        simp only [Bool.and_eq_true] at ha
        simp only [concRows] at hr
        exact head_apart how ha.1.1 hr.2.1
  | .agg cs, x, ha, h => by
    rw [awayV] at ha
    simp only [conc] at h ⊢
    obtain ⟨l, rfl, hl, h1⟩ := h
    exact ⟨l, rfl, concL_apart how cs l ha hl, h1⟩
  | .rop _ _, _, ha, _ => by simp [awayV] at ha
  | .tup _, _, ha, _ => by simp [awayV] at ha
  | .fn _ _, _, ha, _ => by simp [awayV] at ha
  | .mf _ _, _, ha, _ => by simp [awayV] at ha
  | .ifc _ _, _, ha, _ => by simp [awayV] at ha
  | .own _, _, ha, _ => by simp [awayV] at ha
  | .vp _ _ _ _, _, ha, _ => by simp [awayV] at ha
theorem concL_apart (how : ∀ b, ow b → ∃ (cs : Array Value) (T : TypeId), w.heap[b]? = some (.cells cs T (0, 0)) ∧ ∀ y ∈ cs.toList, ∃ n, y = .int k n) : ∀ (vs : List V) (l : List Value), awayL k vs = true → concL w ow1 vs l → concL w ow vs l
  | [], l, _, h => h
  | v :: vs, l, ha, h => by
    rw [awayL] at ha
    simp only [Bool.and_eq_true] at ha
    simp only [concL] at h ⊢
    obtain ⟨x, xs, rfl, h1, h2⟩ := h
    exact ⟨x, xs, rfl, conc_apart how v x ha.1 h1, concL_apart how vs xs ha.2 h2⟩
theorem concAt_apart (how : ∀ b, ow b → ∃ (cs : Array Value) (T : TypeId), w.heap[b]? = some (.cells cs T (0, 0)) ∧ ∀ y ∈ cs.toList, ∃ n, y = .int k n) (b : Nat) : ∀ (o : Nat) (vs : List V), awayL k vs = true → concAt w ow1 b o vs → concAt w ow b o vs
  | _, [], _, h => h
  | o, v :: vs, ha, h => by
    rw [awayL] at ha
    simp only [Bool.and_eq_true] at ha
    simp only [concAt] at h ⊢
    obtain ⟨⟨x, h1, h2, h3⟩, h4⟩ := h
    exact ⟨⟨x, h1, h2, conc_apart how v x ha.1 h3⟩, concAt_apart how b (o + 1) vs ha.2 h4⟩
theorem concRows_apart (how : ∀ b, ow b → ∃ (cs : Array Value) (T : TypeId), w.heap[b]? = some (.cells cs T (0, 0)) ∧ ∀ y ∈ cs.toList, ∃ n, y = .int k n) (b sz : Nat) : ∀ (o : Nat) (rs : List (List V)), awayR k rs = true → concRows w ow1 b sz o rs → concRows w ow b sz o rs
  | _, [], _, h => h
  | o, r :: rs, ha, h => by
    rw [awayR] at ha
    simp only [Bool.and_eq_true] at ha
    simp only [concRows] at h ⊢
    exact ⟨h.1, concAt_apart how b o r ha.1.2 h.2.1, concRows_apart how b sz (o + sz) rs ha.2 h.2.2⟩
end
end
end Go.AX

