/- AX 14: '==' of structs whose fields are whole numbers, strings and Bools. -/
import Derived.Test.YtobablbklkpchaaAxDraw
import Derived.Laws.StructEq
set_option linter.unusedVariables false
set_option linter.unusedSimpArgs false
namespace Go.AX
variable {P : Program} {N : Nat} {j : J P N} {s : Sl} {H : List Ch}
variable {dst : Option Tmp} {ty : TypeId} {pos : String} {after : Array Edge} {g : Option (Nat × Bool)} {T T' : TypeId} {x y : Operand}
inductive SK where
  | int (k : IntKind)
  | str
  | bool
def SK.desc : SK → TypeDesc
  | .int k => .int k
  | .str => .string
  | .bool => .bool
def eqSc : SK → Value → Value → Option Bool
  | .int _, .int k a, .int k' b => if k = k' then some (decide (a = b)) else none
  | .str, .string a, .string b => some (decide (a = b))
  | .bool, .bool a, .bool b => some (a == b)
  | _, _, _ => none
def eqR (cs ds : List V) : List (Nat × SK) → Option Bool
  | [] => some true
  | (o, k) :: r => match cs[o]?, ds[o]? with
    | some (.raw a), some (.raw b) => match eqSc k a b, eqR cs ds r with
      | some p, some q => some (p && q)
      | _, _ => none
    | _, _ => none
def FlatF (P : Program) : List Field → List (Nat × SK) → Prop
  | [], [] => True
  | f :: fs, (o, k) :: r => f.name ≠ "_" ∧ f.offset = o ∧ P.underlying f.type = some k.desc ∧ FlatF P fs r
  | _, _ => False
theorem flat_nil : FlatF P [] [] := trivial
theorem flat_cons {f : Field} {fs : List Field} {o : Nat} {k : SK} {r : List (Nat × SK)} (h1 : f.name ≠ "_") (ho : f.offset = o) (hu : P.underlying f.type = some k.desc) (h : FlatF P fs r) : FlatF P (f :: fs) ((o, k) :: r) := ⟨h1, ho, hu, h⟩
class FlatEq (P : Program) (T : TypeId) (fl : outParam (List (Nat × SK))) : Prop where
  guard : P.eqGuardType P.depth T = false
  held : P.stoodInHeld T = false
  fs : ∃ fs : Array Field, P.underlying T = some (.struct fs) ∧ FlatF P fs.toList fl
theorem run_eqSc {d : Nat} {t : TypeId} {k : SK} {a b : Value} {p : Bool} (hu : P.underlying t = some k.desc) (h : eqSc k a b = some p) (w : World) : (Op.equalIn (d + 1) t a b).run P w = .ok p w := by
  cases k with
  | int k =>
    cases a <;> cases b <;> simp only [eqSc] at h <;> try contradiction
    split at h
    · rename_i e
      subst e
      simp only [Option.some.injEq] at h
      subst h
      rw [run_equalIn_int w d t _ k _ _ hu]
      rfl
    · cases h
  | str =>
    cases a <;> cases b <;> simp only [eqSc] at h <;> try contradiction
    simp only [Option.some.injEq] at h
    subst h
    rw [run_equalIn_string w d t _ _ hu, ba_beq]
  | bool =>
    cases a <;> cases b <;> simp only [eqSc] at h <;> try contradiction
    simp only [Option.some.injEq] at h
    subst h
    exact run_equalIn_bool' w d t _ _ hu
theorem run_part_sc {t : TypeId} {k : SK} {xs : Array Value} {o : Nat} {a : Value} (hu : P.underlying t = some k.desc) (h : xs[o]? = some a) (w : World) : (part t xs o).run P w = .ok a w := by
  cases k <;> simp [part, Go.isAgg, run_underlying hu, SK.desc, h]
theorem run_eqR {d : Nat} {cs ds : List V} {w0 : World} {ow : Nat → Prop} {xs ys : List Value} (hx : concL w0 ow cs xs) (hy : concL w0 ow ds ys) (w : World) : ∀ {fs : List Field} {fl : List (Nat × SK)} {b : Bool}, FlatF P fs fl → eqR cs ds fl = some b → (Op.eqFields (d + 1) xs.toArray ys.toArray fs).run P w = .ok b w
  | [], [], b, _, h => by simp only [eqR, Option.some.injEq] at h; subst h; simp [Op.eqFields]
  | [], _ :: _, _, h, _ => h.elim
  | _ :: _, [], _, h, _ => h.elim
  | f :: fs, (o, k) :: r, b, hf, h => by
    obtain ⟨h1, h2, h3, h4⟩ := hf
    simp only [eqR] at h
    split at h
    · rename_i a a' e1 e2
      split at h
      · rename_i p q e3 e4
        simp only [Option.some.injEq] at h
        subst h
        obtain ⟨u, hu, hu2⟩ := concL_get hx o _ e1
        obtain ⟨u', hu', hu2'⟩ := concL_get hy o _ e2
        simp only [conc] at hu2 hu2'
        subst hu2 hu2' h2
        have ih := run_eqR (d := d) hx hy w h4 e4
        rw [Op.eqFields]
        simp only [if_pos h1, Sem.run_bind, run_part_sc h3 (show xs.toArray[f.offset]? = some _ by simpa using hu) w, run_part_sc h3 (show ys.toArray[f.offset]? = some _ by simpa using hu') w, run_eqSc h3 e3 w, Result.andThen_ok]
        cases p
        · simp
        · simpa using ih
      · cases h
    · cases h
theorem pv_eql_agg {fl : List (Nat × SK)} {cs ds : List V} {b : Bool} [t : FlatEq P T fl] (hx : s.ev x = some (.agg cs)) (hy : s.ev y = some (.agg ds)) (h : eqR cs ds fl = some b) : PureV j s H ⟨dst, .binOp .eql T x y T', ty, pos, after, g⟩ (.raw (.bool b)) := fun a w st => by
  have h1 := st.sl.ev hx
  have h2 := st.sl.ev hy
  simp only [conc] at h1 h2
  obtain ⟨xs, h1, hL1, _⟩ := h1
  obtain ⟨ys, h2, hL2, _⟩ := h2
  obtain ⟨fs, hu, hf⟩ := t.fs
  have hfs : P.fieldsOf T = fs := by simp [Program.fieldsOf, hu]
  refine ⟨.bool b, fun w' => ?_, rfl⟩
  have e := run_eqR (d := 9998) hL1 hL2 w' hf h
  simp [execOp, h1, h2, run_eqGuard_agg w' _ _ _ _ _ _ t.guard, run_eql_struct, run_equalIn_struct w' 9999 T _ _ (by rw [hfs]; exact hu) t.held, hfs, e]
theorem pv_neq_agg {fl : List (Nat × SK)} {cs ds : List V} {b : Bool} [t : FlatEq P T fl] (hx : s.ev x = some (.agg cs)) (hy : s.ev y = some (.agg ds)) (h : eqR cs ds fl = some b) : PureV j s H ⟨dst, .binOp .neq T x y T', ty, pos, after, g⟩ (.raw (.bool (!b))) := fun a w st => by
  have h1 := st.sl.ev hx
  have h2 := st.sl.ev hy
  simp only [conc] at h1 h2
  obtain ⟨xs, h1, hL1, _⟩ := h1
  obtain ⟨ys, h2, hL2, _⟩ := h2
  obtain ⟨fs, hu, hf⟩ := t.fs
  have hfs : P.fieldsOf T = fs := by simp [Program.fieldsOf, hu]
  refine ⟨.bool (!b), fun w' => ?_, rfl⟩
  have e := run_eqR (d := 9998) hL1 hL2 w' hf h
  simp [execOp, h1, h2, run_eqGuard_agg w' _ _ _ _ _ _ t.guard, run_neq_struct, run_equalIn_struct w' 9999 T _ _ (by rw [hfs]; exact hu) t.held, hfs, e]
end Go.AX
