/- CondEquals: for all codes and packets the law returns true: Equal of the program answers as the one of the reference. Conditions: none. -/
import Derived.Test.YtobablbklkpchaaK18
import Derived.Test.YtobablbklkpchaaRows
set_option linter.unusedVariables false
set_option linter.unusedSimpArgs false
set_option maxRecDepth 20000
namespace Go.Proofs.Ytobablbklkpchaa
open Go Go.AX Go.RowKit Go.ChangeShapes Go.ChangeAt Go.WideShapes
theorem condEqualsContract (H : Type) (enc : TypeId × Value → H) (W : World) (base : Nat) (args : Array Value) (ds gs : List (DataW H)) (before : List MemPlace)
    (hval : ∀ (j : Nat) t v, Try.f4.params[j]? = some t → args[j]? = some v → Value.okWide Try.prog W .any base t v)
    (hW : DataW.Whole enc Try.prog Try.f4.params.toList Rows.condEqualsSpec.vars false W args.toList ds gs before) :
    Calls Try.prog 4 args W fun e W' => ∃ v, e = .returned v ∧ Rows.condEqualsSpec.post enc Try.prog Try.f4 false true false false W args v W' := by
  refine law_contract (by kernel_rfl) (by kernel_rfl) rfl rfl Try.underlying4 hW fun p hA hg => ?_
  subst hg
  rw [Try.params4] at hA hval
  obtain ⟨v0, vs0, d0, ds0, p0, q0, hargs, rfl, rfl, h0, r0⟩ := trodAll_cons hA
  obtain ⟨v1, vs1, d1, ds1, p1, q1, rfl, rfl, rfl, h1, r1⟩ := trodAll_cons r0
  obtain ⟨v2, vs2, d2, ds2, p2, q2, rfl, rfl, rfl, h2, r2⟩ := trodAll_cons r1
  obtain ⟨rfl, rfl, rfl⟩ := trodAll_nil r2
  obtain rfl : args = #[v0, v1, v2] := by cases args; simp_all
  refine ⟨rfl, ?_⟩
  obtain ⟨fu0, hf0⟩ := h0
  obtain ⟨L, k0⟩ := rdCode hf0
  have c0 := arg_slice Try.underlying22 (hval 0 22 v0 rfl rfl) k0
  obtain ⟨fu1, hf1⟩ := h1
  obtain ⟨M, k1⟩ := rdCode hf1
  have c1 := arg_slice Try.underlying22 (hval 1 22 v1 rfl rfl) k1
  obtain ⟨fu2, hf2⟩ := h2
  obtain ⟨ps, hd, k2⟩ := rdPackets hf2
  have c2 := arg_slice Try.underlying31 (hval 2 31 v2 rfl rfl) k2
  refine ⟨_, ?_, equals4 L M ps hd⟩
  exact ⟨_, _, rfl, c0, ⟨_, _, rfl, c1, ⟨_, _, rfl, c2, rfl⟩⟩⟩
set_option maxRecDepth 100000 in
theorem condEqualsLifted (os : Os) (started : os.Started) (H : Type) (enc : TypeId × Value → H) :
    ReturnsInHanded {} Try.checked os 4 .any (Rows.condEqualsSpec.pre6 enc Try.prog Try.f4 Rows.condEqualsRow.domain false) (Rows.condEqualsSpec.post enc Try.prog Try.f4 false true false false) := by
  refine returnsInHanded_of_change (C := Try.checked) (by kernel_rfl) started (by kernel_rfl) Try.func4
    (ChangeSpec.witness6 (enc := enc) (C := Try.checked) false ⟨#[], #[.slice none 0 0, .slice none 0 0, .slice none 0 0], []⟩ 8 (by kernel_rfl) (by kernel_rfl) (by kernel_rfl) (by kernel_rfl)) ?_
  intro W base args ds gs before hval hW _ _
  exact condEqualsContract H enc W base args ds gs before hval hW
theorem condEqualsHolds : Rows.CondEqualsSaid :=
  OpenClaim.holds_of_wide 4 Try.f4 rfl rfl rfl rfl rfl rfl rfl ⟨rfl, rfl, rfl, rfl, rfl⟩ rfl rfl rfl rfl rfl (by kernel_rfl) Try.func4 (by kernel_rfl)
    (of_decide_eq_true (by kernel_rfl)) (by unfold Func.isWrapper; first | (rw [if_pos (by decide +kernel)]; kernel_rfl) | (rw [if_neg (by decide +kernel)]; exact ⟨rfl, rfl⟩))
    (fun os started H enc _ => condEqualsLifted os started H enc)
#print axioms condEqualsHolds
end Go.Proofs.Ytobablbklkpchaa
