/- LexQuotes: for every text the law returns true: the two ways to quote it agree, they agree on whether it is a word, and a quoted text of at most two hundred bytes reads back as one token that is the text. The card: the listed variables are tied to the text of the program. -/
import Derived.Test.YtbhbjlhobdoomaaDoorK35
import Derived.Test.YtbhbjlhobdoomaaDoorTie
import Derived.Test.YtbhbjlhobdoomaaDoorCards
import Derived.Deep.DeepWitnessRowRef
import Derived.Lay
set_option linter.unusedVariables false
set_option linter.unusedSimpArgs false
set_option maxRecDepth 100000
namespace Go.Proofs.YtbhbjlhobdoomaaDoor
open Go Go.AX Go.RowKit Go.ChangeShapes Go.ChangeAt Go.WideShapes
theorem asciiSpace_is : (Rows.laid_strings_asciiSpace : DataW Unit) = Lib.tabData .u8 Lib.asciiSpaceTab := by kernel_rfl
theorem ks_block {W : World} (hL : laidMet Tryd.prog Rows.lexQuotesRow.laid W) (hsh : W.ShapedOpen Tryd.prog) : ∀ k ∈ ks, W.heap[k.1]? = some (.cells k.2.2.toArray k.2.1 (0, 0)) ∧ ∀ y ∈ k.2.2, y.oneCell' = true := by
  intro k hk
  obtain rfl := List.mem_singleton.1 hk
  refine ⟨?_, by decide +kernel⟩
  exact tab_block (P := Tryd.prog) (W := W) (l := Rows.lexQuotesRow.laid) (name := "strings.asciiSpace") (k := .u8) (zs := Lib.asciiSpaceTab) (g := 1) (t := 94) (e := 5) (n := 256) (zero := Array.replicate 256 (.int .u8 0)) hL
    (by rw [← asciiSpace_is]; exact .tail _ (.head _)) hsh (by kernel_rfl) (by kernel_rfl) (by kernel_rfl) (by kernel_rfl) Tryd.underlying94 Tryd.underlying5 (by kernel_rfl) (by kernel_rfl)
theorem lexQuotesContract (H : Type) (enc : TypeId × Value → H) (W : World) (base : Nat) (args : Array Value) (ds gs : List (DataW H)) (before : List MemPlace)
    (hval : ∀ (j : Nat) t v, Tryd.f5.params[j]? = some t → args[j]? = some v → Value.okWide Tryd.prog W .any base t v)
    (hW : DataW.Whole enc Tryd.prog Tryd.f5.params.toList Rows.lexQuotesSpec.vars false W args.toList ds gs before)
    (hL : laidMet Tryd.prog Rows.lexQuotesRow.laid W) (hsh : W.ShapedOpen Tryd.prog) :
    Calls Tryd.prog 5 args W fun e W' => ∃ v, e = .returned v ∧ Rows.lexQuotesSpec.post enc Tryd.prog Tryd.f5 false true false false W args v W' := by
  refine law_contractK (ks := ks) (by kernel_rfl) (by kernel_rfl) rfl rfl Tryd.underlying4 (ks_block hL hsh) (by decide) hW fun p hA hg => ?_
  subst hg
  rw [Tryd.params5] at hA hval
  obtain ⟨v0, vs0, d0, ds0, p0, q0, hargs, rfl, rfl, h0, r0⟩ := trodAll_cons hA
  obtain ⟨rfl, rfl, rfl⟩ := trodAll_nil r0
  obtain rfl : args = #[v0] := by cases args; simp_all
  refine ⟨rfl, ?_⟩
  obtain ⟨fu0, hf0⟩ := h0
  obtain ⟨s0, hs0, e0, k0⟩ := rd_string Tryd.underlying9 hf0
  have c0 := arg_string Tryd.underlying9 (hval 0 9 v0 rfl rfl) k0
  refine ⟨_, ?_, lexQuotes5 s0⟩
  simp only [conc] at c0
  subst c0
  exact ⟨_, _, rfl, rfl, rfl⟩
theorem lexQuotes_laid_met (os : Os) (args : Array Value) : laidMet Tryd.prog Rows.lexQuotesRow.laid ((World.laidAll Tryd.prog os Rows.lexQuotesRow.laid).forCall (fun _ _ => 0) ⟨#[], args, []⟩).memory :=
  laidMet_laidAll _ (by kernel_rfl) (by kernel_rfl)
theorem lexQuotes_witness (os : Os) {H : Type} (enc : TypeId × Value → H) :
    (OpenSpec.ofChange Rows.lexQuotesSpec).preRow enc Tryd.prog Tryd.f5 Rows.lexQuotesRow.domain false Rows.lexQuotesRow.laid ((World.laidAll Tryd.prog os Rows.lexQuotesRow.laid).forCall (fun _ _ => 0) ⟨#[], #[.string ⟨#[]⟩], []⟩).memory #[.string ⟨#[]⟩] := by
  have hw : (DataW.whole enc Tryd.prog ((World.laidAll Tryd.prog os Rows.lexQuotesRow.laid).forCall (fun _ _ => 0) ⟨#[], #[.string ⟨#[]⟩], []⟩).memory Tryd.f5.params.toList (OpenSpec.ofChange Rows.lexQuotesSpec).vars false #[Value.string ⟨#[]⟩].toList 8).map (fun x => (x.1, x.2.1)) = some ([.lit (.string [])], []) := by kernel_rfl
  obtain ⟨⟨x1, x2, x3⟩, hx, hx1⟩ := Option.map_eq_some_iff.1 hw
  simp only [Prod.mk.injEq] at hx1
  obtain ⟨rfl, rfl⟩ := hx1
  exact OpenSpec.preRow_of_cond 8 hx (by kernel_rfl) (fun k hk => by cases hk) (by kernel_rfl) (lexQuotes_laid_met os _)
set_option maxHeartbeats 2000000 in
theorem lexQuotesLifted (os : Os) (started : os.Started) (H : Type) (enc : TypeId × Value → H) (F : Stop.Interp) :
    ReturnsInHanded {} Tryd.checked os 5 .any ((OpenSpec.ofChange Rows.lexQuotesSpec).preRow enc Tryd.prog Tryd.f5 Rows.lexQuotesRow.domain false Rows.lexQuotesRow.laid) (((OpenSpec.ofChange Rows.lexQuotesSpec).at F).post enc Tryd.prog Tryd.f5 false true false false) := by
  refine returnsInHanded_of_row (C := Tryd.checked) (s := (OpenSpec.ofChange Rows.lexQuotesSpec)) (by kernel_rfl) started (by kernel_rfl) Tryd.func5
    (witness_row_atRef (enc := enc) (C := Tryd.checked) false (World.laidAll Tryd.prog os Rows.lexQuotesRow.laid) #[.string ⟨#[]⟩] (World.laidAll_os _ _ _) (by kernel_rfl) (by kernel_rfl) (by kernel_rfl) (lexQuotes_witness os enc)) ?_
  intro W base args ds gs before hval hW _ _ _ hL hsh _
  have hL2 : laidMet Tryd.prog Rows.lexQuotesRow.laid W := by first | exact hL | (rw [MakeChecks.laidMetH_plain _ _ _ (by kernel_rfl)] at hL; exact hL)
  exact lexQuotesContract H enc W base args ds gs before hval hW hL2 hsh
theorem lexQuotesHolds : Rows.LexQuotesSaid :=
  OpenClaim.holds_of_cond 5 Tryd.f5 rfl rfl rfl rfl rfl rfl rfl ⟨rfl, rfl, rfl, rfl, rfl⟩ rfl rfl rfl rfl rfl (by kernel_rfl) Tryd.func5 (by kernel_rfl)
    (of_decide_eq_true (by kernel_rfl)) (by unfold Func.isWrapper; first | (rw [if_pos (by decide +kernel)]; kernel_rfl) | (rw [if_neg (by decide +kernel)]; exact ⟨rfl, rfl⟩))
    (fun os started H enc _ F0 => by rw [OpenClaim.pre_eq_preRow]; exact lexQuotesLifted os started H enc F0)
theorem lexQuotesCardHolds : Rows.LexQuotesCardSaid :=
  Claim7.holds_tied_plain_at .later [] [.listed, .data] true (true, "9133d1ed270fd32c2e4cd9ece03d0d5d90fd9a25883df61929e13e9e26e2c9fd") false lexQuotesHolds (fun _ h => by cases h) (by kernel_rfl) (fun _ h => by cases h) lexQuotes_row_tie rfl ⟨rfl, rfl⟩ (by kernel_rfl) rfl
    (fun f fn hf hfn => by
      obtain rfl : f = 5 := Option.some.inj ((show Tryd.prog.funcNamed "wireglass/wireglasslaw04.LexQuotes" = some 5 by kernel_rfl).symm.trans hf) |>.symm
      obtain rfl : fn = Tryd.f5 := (Option.some.inj (Tryd.func5.symm.trans hfn)).symm
      exact ⟨by kernel_rfl, fun j t ht => by
        rw [Tryd.params5] at ht
        have hm : t ∈ [9] := by simpa using Array.mem_of_getElem? ht
        have hall : ([9].all fun u => !Tryd.prog.wantsStandIn u) = true := by kernel_rfl
        exact (show Tryd.prog.wantsStandIn t = false by simpa using List.all_eq_true.1 hall t hm)⟩)
    (by kernel_rfl)
#print axioms lexQuotesCardHolds
end Go.Proofs.YtbhbjlhobdoomaaDoor
