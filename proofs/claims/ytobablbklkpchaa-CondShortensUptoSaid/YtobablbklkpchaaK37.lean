/- CondShortens: for all code and packets the law returns true: code made shorter is safe, takes the same packets with no more instructions, has no block that is not reached, and stays as it is when it is made shorter again. Conditions: what is read is of bulk at most 1048576 (the second form). -/
import Derived.Test.YtobablbklkpchaaK36
import Derived.Test.YtobablbklkpchaaRows
set_option linter.unusedVariables false
set_option linter.unusedSimpArgs false
set_option maxRecDepth 20000
namespace Go.Proofs.Ytobablbklkpchaa
open Go Go.AX Go.RowKit Go.ChangeShapes Go.ChangeAt Go.WideShapes
theorem condShortensContract (H : Type) (enc : TypeId × Value → H) (W : World) (base : Nat) (args : Array Value) (ds gs : List (DataW H)) (before : List MemPlace)
    (hval : ∀ (j : Nat) t v, Try.f5.params[j]? = some t → args[j]? = some v → Value.okWide Try.prog W .any base t v)
    (hW : DataW.Whole enc Try.prog Try.f5.params.toList Rows.condShortensSpec.vars false W args.toList ds gs before) (hk : Rows.uptoSmall H (ds ++ gs) = true) :
    Calls Try.prog 5 args W fun e W' => ∃ v, e = .returned v ∧ Rows.condShortensSpec.post enc Try.prog Try.f5 false true false false W args v W' := by
  refine law_contract (by kernel_rfl) (by kernel_rfl) rfl rfl Try.underlying4 hW fun p hA hg => ?_
  subst hg
  rw [Try.params5] at hA hval
  obtain ⟨v0, vs0, d0, ds0, p0, q0, hargs, rfl, rfl, h0, r0⟩ := trodAll_cons hA
  obtain ⟨v1, vs1, d1, ds1, p1, q1, rfl, rfl, rfl, h1, r1⟩ := trodAll_cons r0
  obtain ⟨rfl, rfl, rfl⟩ := trodAll_nil r1
  obtain rfl : args = #[v0, v1] := by cases args; simp_all
  refine ⟨rfl, ?_⟩
  obtain ⟨fu0, hf0⟩ := h0
  obtain ⟨L, hl, k0⟩ := rdCodeB hf0
  have c0 := arg_slice Try.underlying22 (hval 0 22 v0 rfl rfl) k0
  obtain ⟨fu1, hf1⟩ := h1
  obtain ⟨data, hd, k1⟩ := rdBytesB hf1
  have c1 := arg_slice Try.underlying23 (hval 1 23 v1 rfl rfl) k1
  have hkb := of_decide_eq_true hk
  refine ⟨_, ?_, shortens5 L data hd.1 (by have := of_decide_eq_true hk; simp only [List.append_nil, List.cons_append, List.nil_append, Rows.uptoBulkAll] at this; omega) (by have := of_decide_eq_true hk; simp only [List.append_nil, List.cons_append, List.nil_append, Rows.uptoBulkAll] at this; omega)⟩
  exact ⟨_, _, rfl, c0, ⟨_, _, rfl, c1, rfl⟩⟩
set_option maxRecDepth 100000 in
theorem condShortensLifted (os : Os) (started : os.Started) (H : Type) (enc : TypeId × Value → H) (F : Stop.Interp) :
    ReturnsInHanded {} Try.checked os 5 .any ((Rows.OpenSpec.upto Rows.condShortensSpec).pre6 enc Try.prog Try.f5 Rows.condShortensUptoRow.domain false) (((Rows.OpenSpec.upto Rows.condShortensSpec).at F).post enc Try.prog Try.f5 false true false false) := by
  refine returnsInHanded_of_cond (C := Try.checked) (s := Rows.OpenSpec.upto Rows.condShortensSpec) (k := Rows.uptoSmall) rfl (by kernel_rfl) started (by kernel_rfl) Try.func5
    (OpenSpec.witness (enc := enc) (C := Try.checked) (s := Rows.OpenSpec.upto Rows.condShortensSpec) (k := Rows.uptoSmall) rfl false ⟨#[], #[.slice none 0 0, .slice none 0 0], []⟩ 8 (by kernel_rfl) (by kernel_rfl) (by kernel_rfl)
      (x := ([.nil, .nil], [], [])) (by kernel_rfl) rfl (by kernel_rfl)) ?_
  intro W base args ds gs before hval hW _ hk _
  exact condShortensContract H enc W base args ds gs before hval hW hk
theorem condShortensUpto : Rows.CondShortensUptoSaid :=
  OpenClaim.holds_of_cond 5 Try.f5 rfl rfl rfl rfl rfl rfl rfl ⟨rfl, rfl, rfl, rfl, rfl⟩ rfl rfl rfl rfl rfl (by kernel_rfl) Try.func5 (by kernel_rfl)
    (of_decide_eq_true (by kernel_rfl)) (by unfold Func.isWrapper; first | (rw [if_pos (by decide +kernel)]; kernel_rfl) | (rw [if_neg (by decide +kernel)]; exact ⟨rfl, rfl⟩))
    (fun os started H enc _ F => condShortensLifted os started H enc F)
#print axioms condShortensUpto
end Go.Proofs.Ytobablbklkpchaa
