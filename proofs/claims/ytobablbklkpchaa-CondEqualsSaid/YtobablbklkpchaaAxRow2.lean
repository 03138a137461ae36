/- AX 23: from the reading of a call's arguments to its contract. -/
import Derived.Test.YtobablbklkpchaaAxRow
set_option linter.unusedVariables false
set_option linter.unusedSimpArgs false
namespace Go.AX
open Go.ChangeShapes Go.WideShapes Go.ChangeAt Go.RowKit
section
variable {H : Type} {enc : TypeId × Value → H} {P : Program} {w : World} {t e : TypeId} {v : Value} {u : V} {r : Reach} {b : Nat}
theorem rdg_arg (h1 : v.oneCell' = true) (h : Rdg w v.cells.toList [u]) : conc w ow0 u v := by
  rw [one_cells h1] at h
  obtain ⟨x, xs, hx, h2, h3⟩ := h.1
  simp only [List.cons.injEq] at hx
  rw [hx.1]
  exact h2
theorem arg_slice (ht : P.underlying t = some (.slice e)) (hval : Value.okWide P w r b t v) (h : Rdg w v.cells.toList [u]) : conc w ow0 u v := by
  obtain ⟨a, l, c, rfl⟩ := okWide_slice ht hval
  exact rdg_arg rfl h
theorem arg_string (ht : P.underlying t = some .string) (hval : Value.okWide P w r b t v) (h : Rdg w v.cells.toList [u]) : conc w ow0 u v := by
  obtain ⟨a, rfl⟩ := okWide_string ht hval
  exact rdg_arg rfl h
theorem arg_int {k : IntKind} (ht : P.underlying t = some (.int k)) (hval : Value.okWide P w r b t v) (h : Rdg w v.cells.toList [u]) : conc w ow0 u v := by
  obtain ⟨a, rfl⟩ := okWide_int ht hval
  exact rdg_arg rfl h
theorem arg_bool (ht : P.underlying t = some .bool) (hval : Value.okWide P w r b t v) (h : Rdg w v.cells.toList [u]) : conc w ow0 u v := by
  obtain ⟨a, rfl⟩ := okWide_bool ht hval
  exact rdg_arg rfl h
theorem arg_struct {fs : Array Field} {us : List V} (ht : P.underlying t = some (.struct fs)) (hval : Value.okWide P w r b t v) (h : Rdg w v.cells.toList us) : conc w ow0 (.agg us) v := by
  obtain ⟨cs, rfl, _⟩ : ∃ cs, v = .agg cs ∧ cs.size = P.cellsOf t ∧ Row.okWide P w r b t cs := by
    simpa only [Value.okWide, ht] using hval
  exact ⟨cs.toList, by simp, h.1, h.2⟩
end
/-- The contract of a law, from what its arguments stand for. -/
theorem law_contract {P : Program} {f : FuncId} {fn : Func} {s : ChangeSpec} {tb : TypeId}
    (hl : laidOutB P = true) (hrd : fn.params.toList.all (fun t => P.readableRec t && decide (t < P.types.size)) = true) (hvars : s.vars = []) (hrt : fn.resultTypes = #[tb]) (hub : P.underlying tb = some .bool)
    {H : Type} {enc : TypeId × Value → H} {W : World} {args : Array Value} {ds gs : List (DataW H)} {before : List MemPlace}
    (hW : DataW.Whole enc P fn.params.toList s.vars false W args.toList ds gs before)
    (rd : ∀ p, DataW.TrodAll enc P W 0 (fun _ => true) true fn.params.toList args.toList ds p → gs = [] → s.fn H (ds ++ gs) = { results := [.lit (.bool true)], args := ds, vars := [] } ∧ ∃ vs, concL W ow0 vs args.toList ∧ Fun P f vs (.raw (.bool true))) :
    Calls P f args W fun e W' => ∃ v, e = .returned v ∧ s.post enc P fn false true false false W args v W' := by
  have hW' := hW
  obtain ⟨p, q, hA0, hV, rfl, hfz, hnd⟩ := hW
  rw [hvars] at hV
  obtain ⟨rfl, rfl⟩ := trodVars_none hV
  obtain ⟨hs, vs, hc, hf⟩ := rd p hA0 rfl
  have hcall := calls_of_fun hf (W := W) hc
  refine (show Calls P f args W _ from hcall).mono fun e W' ⟨x, he, hx, hb⟩ => ?_
  simp only [conc] at hx
  subst hx
  exact ⟨_, he, post_true hl hrd hvars hrt hub hW' hs hb⟩
end Go.AX
