/- CertParts: for all bytes the law returns true: Parts of the program gives the parts, and the error, of the reference. Conditions: none. -/
import Derived.Test.YtepmllodaoanmaaK9
import Derived.Test.YtepmllodaoanmaaRows
set_option linter.unusedVariables false
set_option linter.unusedSimpArgs false
set_option maxRecDepth 20000
namespace Go.Proofs.Ytepmllodaoanmaa
open Go Go.AX Go.RowKit Go.ChangeShapes Go.ChangeAt Go.WideShapes
theorem certPartsContract (H : Type) (enc : TypeId × Value → H) (W : World) (base : Nat) (args : Array Value) (ds gs : List (DataW H)) (before : List MemPlace)
    (hval : ∀ (j : Nat) t v, Try.f4.params[j]? = some t → args[j]? = some v → Value.okWide Try.prog W .any base t v)
    (hW : DataW.Whole enc Try.prog Try.f4.params.toList Rows.certPartsSpec.vars false W args.toList ds gs before) :
    Calls Try.prog 4 args W fun e W' => ∃ v, e = .returned v ∧ Rows.certPartsSpec.post enc Try.prog Try.f4 false true false false W args v W' := by
  refine law_contract (by kernel_rfl) (by kernel_rfl) rfl rfl Try.underlying4 hW fun p hA hg => ?_
  subst hg
  rw [Try.params4] at hA hval
  obtain ⟨v0, vs0, d0, ds0, p0, q0, hargs, rfl, rfl, h0, r0⟩ := trodAll_cons hA
  obtain ⟨rfl, rfl, rfl⟩ := trodAll_nil r0
  obtain rfl : args = #[v0] := by cases args; simp_all
  refine ⟨rfl, ?_⟩
  obtain ⟨fu0, hf0⟩ := h0
  obtain ⟨b, hb, k0⟩ := rdBytes hf0
  have c0 := arg_slice Try.underlying25 (hval 0 25 v0 rfl rfl) k0
  refine ⟨_, ?_, partsLaw4 b hb⟩
  exact ⟨_, _, rfl, c0, rfl⟩
set_option maxRecDepth 100000 in
theorem certPartsLifted (os : Os) (started : os.Started) (H : Type) (enc : TypeId × Value → H) :
    ReturnsInHanded {} Try.checked os 4 .any (Rows.certPartsSpec.pre6 enc Try.prog Try.f4 Rows.certPartsRow.domain false) (Rows.certPartsSpec.post enc Try.prog Try.f4 false true false false) := by
  refine returnsInHanded_of_change (C := Try.checked) (by kernel_rfl) started (by kernel_rfl) Try.func4
    (ChangeSpec.witness6 (enc := enc) (C := Try.checked) false ⟨#[], #[.slice none 0 0], []⟩ 8 (by kernel_rfl) (by kernel_rfl) (by kernel_rfl) (by kernel_rfl)) ?_
  intro W base args ds gs before hval hW _ _
  exact certPartsContract H enc W base args ds gs before hval hW
theorem certPartsHolds : Rows.CertPartsSaid :=
  OpenClaim.holds_of_wide 4 Try.f4 rfl rfl rfl rfl rfl rfl rfl ⟨rfl, rfl, rfl, rfl, rfl⟩ rfl rfl rfl rfl rfl (by kernel_rfl) Try.func4 (by kernel_rfl)
    (of_decide_eq_true (by kernel_rfl)) (by unfold Func.isWrapper; first | (rw [if_pos (by decide +kernel)]; kernel_rfl) | (rw [if_neg (by decide +kernel)]; exact ⟨rfl, rfl⟩))
    (fun os started H enc _ => certPartsLifted os started H enc)
#print axioms certPartsHolds
end Go.Proofs.Ytepmllodaoanmaa
