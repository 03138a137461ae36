/- CertWrites: for all types and values the law returns true: which values are of a type, and how they are written by basic and by packed rules, is as the reference tells. Conditions: what is read is of bulk at most 1048576 (the second form). -/
import Derived.Test.YtepmllodaoanmaaK61
import Derived.Test.YtepmllodaoanmaaRows
set_option linter.unusedVariables false
set_option linter.unusedSimpArgs false
set_option maxRecDepth 20000
namespace Go.Proofs.Ytepmllodaoanmaa
open Go Go.AX Go.RowKit Go.ChangeShapes Go.ChangeAt Go.WideShapes
theorem certWritesContract (H : Type) (enc : TypeId × Value → H) (W : World) (base : Nat) (args : Array Value) (ds gs : List (DataW H)) (before : List MemPlace)
    (hval : ∀ (j : Nat) t v, Try.f3.params[j]? = some t → args[j]? = some v → Value.okWide Try.prog W .any base t v)
    (hW : DataW.Whole enc Try.prog Try.f3.params.toList Rows.certWritesSpec.vars false W args.toList ds gs before) (hk : Rows.uptoSmall H (ds ++ gs) = true) :
    Calls Try.prog 3 args W fun e W' => ∃ v, e = .returned v ∧ Rows.certWritesSpec.post enc Try.prog Try.f3 false true false false W args v W' := by
  refine law_contract (by kernel_rfl) (by kernel_rfl) rfl rfl Try.underlying4 hW fun p hA hg => ?_
  subst hg
  rw [Try.params3] at hA hval
  obtain ⟨v0, vs0, d0, ds0, p0, q0, hargs, rfl, rfl, h0, r0⟩ := trodAll_cons hA
  obtain ⟨v1, vs1, d1, ds1, p1, q1, rfl, rfl, rfl, h1, r1⟩ := trodAll_cons r0
  obtain ⟨rfl, rfl, rfl⟩ := trodAll_nil r1
  obtain rfl : args = #[v0, v1] := by cases args; simp_all
  refine ⟨rfl, ?_⟩
  obtain ⟨fu0, hf0⟩ := h0
  obtain ⟨t, hw, k0⟩ := rdTyp _ _ (Nat.lt_succ_self _) _ _ _ hf0
  have c0 := arg_struct Try.underlying24 (hval 0 24 v0 rfl rfl) k0
  obtain ⟨fu1, hf1⟩ := h1
  obtain ⟨a, ⟨ha1, ha2⟩, k1⟩ := rdDat _ _ (Nat.lt_succ_self _) _ _ _ hf1
  have c1 := arg_struct Try.underlying28 (hval 1 28 v1 rfl rfl) k1
  have hkb := of_decide_eq_true hk
  refine ⟨_, ?_, writes3 t a (by have := of_decide_eq_true hk; simp only [List.append_nil, List.cons_append, List.nil_append, Rows.uptoBulkAll] at this; omega) (by have := of_decide_eq_true hk; simp only [List.append_nil, List.cons_append, List.nil_append, Rows.uptoBulkAll] at this; omega) (ha2 (by have := of_decide_eq_true hk; simp only [List.append_nil, List.cons_append, List.nil_append, Rows.uptoBulkAll] at this; omega))⟩
  exact ⟨_, _, rfl, c0, ⟨_, _, rfl, c1, rfl⟩⟩
set_option maxRecDepth 100000 in
theorem certWritesLifted (os : Os) (started : os.Started) (H : Type) (enc : TypeId × Value → H) (F : Stop.Interp) :
    ReturnsInHanded {} Try.checked os 3 .any ((Rows.OpenSpec.upto Rows.certWritesSpec).pre6 enc Try.prog Try.f3 Rows.certWritesUptoRow.domain false) (((Rows.OpenSpec.upto Rows.certWritesSpec).at F).post enc Try.prog Try.f3 false true false false) := by
  refine returnsInHanded_of_cond (C := Try.checked) (s := Rows.OpenSpec.upto Rows.certWritesSpec) (k := Rows.uptoSmall) rfl (by kernel_rfl) started (by kernel_rfl) Try.func3
    (OpenSpec.witness (enc := enc) (C := Try.checked) (s := Rows.OpenSpec.upto Rows.certWritesSpec) (k := Rows.uptoSmall) rfl false ⟨#[], #[.agg #[.int .i64 0, .string ⟨#[]⟩, .int .i64 0, .int .i64 0, .bool false, .slice none 0 0], .agg #[.int .i64 0, .int .i64 0, .slice none 0 0, .bool false, .slice none 0 0]], []⟩ 8 (by kernel_rfl) (by kernel_rfl) (by kernel_rfl)
      (x := ([.agg [.lit (.int .i64 0), .lit (.string []), .lit (.int .i64 0), .lit (.int .i64 0), .lit (.bool false), .nil], .agg [.lit (.int .i64 0), .lit (.int .i64 0), .nil, .lit (.bool false), .nil]], [], [])) (by kernel_rfl) rfl (by kernel_rfl)) ?_
  intro W base args ds gs before hval hW _ hk _
  exact certWritesContract H enc W base args ds gs before hval hW hk
theorem certWritesUpto : Rows.CertWritesUptoSaid :=
  OpenClaim.holds_of_cond 3 Try.f3 rfl rfl rfl rfl rfl rfl rfl ⟨rfl, rfl, rfl, rfl, rfl⟩ rfl rfl rfl rfl rfl (by kernel_rfl) Try.func3 (by kernel_rfl)
    (of_decide_eq_true (by kernel_rfl)) (by unfold Func.isWrapper; first | (rw [if_pos (by decide +kernel)]; kernel_rfl) | (rw [if_neg (by decide +kernel)]; exact ⟨rfl, rfl⟩))
    (fun os started H enc _ F => certWritesLifted os started H enc F)
#print axioms certWritesUpto
end Go.Proofs.Ytepmllodaoanmaa
