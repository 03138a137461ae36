/- LexWrites: for all tokens the law returns true: which source tokens have, that these are its tokens, and when tokens are equal. Conditions: what is read is of bulk at most 1048576 (the second form). The card: the listed variables are tied to the text of the program. -/
import Derived.Test.YtbhbjlhobdoomaaDoorK46
import Derived.Test.YtbhbjlhobdoomaaDoorK45
import Derived.Test.YtbhbjlhobdoomaaDoorTie
import Derived.Test.YtbhbjlhobdoomaaDoorCards
import Derived.Test.YtbhbjlhobdoomaaDoorAx0
import Derived.Deep.DeepWitnessRowRef
import Derived.Lay
set_option linter.unusedVariables false
set_option linter.unusedSimpArgs false
set_option maxRecDepth 100000
namespace Go.Proofs.YtbhbjlhobdoomaaDoor
open Go Go.AX Go.RowKit Go.ChangeShapes Go.ChangeAt Go.WideShapes
theorem asciiSpace_is : (Rows.laid_strings_asciiSpace : DataW Unit) = Lib.tabData .u8 Lib.asciiSpaceTab := by kernel_rfl
theorem pow10_is : (Rows.laid_internal_strconv_uint64pow10 : DataW Unit) = Lib.tabData .u64 Lib.pow10Tab := by kernel_rfl
theorem ks_block {W : World} (hL : laidMet Tryd.prog Rows.lexWritesUptoRow.laid W) (hsh : W.ShapedOpen Tryd.prog) : ∀ k ∈ ks2, W.heap[k.1]? = some (.cells k.2.2.toArray k.2.1 (0, 0)) ∧ ∀ y ∈ k.2.2, y.oneCell' = true := by
  intro k hk
  rcases List.mem_cons.1 hk with rfl | hk
  · refine ⟨?_, by decide +kernel⟩
    exact tab_block (P := Tryd.prog) (W := W) (l := Rows.lexWritesUptoRow.laid) (name := "strings.asciiSpace") (k := .u8) (zs := Lib.asciiSpaceTab) (g := 1) (t := 94) (e := 5) (n := 256) (zero := Array.replicate 256 (.int .u8 0)) hL
      (by rw [← asciiSpace_is]; exact .tail _ (.tail _ (.tail _ (.tail _ (.head _))))) hsh (by kernel_rfl) (by kernel_rfl) (by kernel_rfl) (by kernel_rfl) Tryd.underlying94 Tryd.underlying5 (by kernel_rfl) (by kernel_rfl)
  · obtain rfl := List.mem_singleton.1 hk
    refine ⟨?_, by decide +kernel⟩
    exact tab_block (P := Tryd.prog) (W := W) (l := Rows.lexWritesUptoRow.laid) (name := "internal/strconv.uint64pow10") (k := .u64) (zs := Lib.pow10Tab) (g := 3) (t := 121) (e := 109) (n := 20) (zero := Array.replicate 20 (.int .u64 0)) hL
      (by rw [← pow10_is]; exact .tail _ (.tail _ (.head _))) hsh (by kernel_rfl) (by kernel_rfl) (by kernel_rfl) (by kernel_rfl) Tryd.underlying121 Tryd.underlying109 (by kernel_rfl) (by kernel_rfl)
theorem lexWritesContract (H : Type) (enc : TypeId × Value → H) (W : World) (base : Nat) (args : Array Value) (ds gs : List (DataW H)) (before : List MemPlace)
    (hval : ∀ (j : Nat) t v, Tryd.f6.params[j]? = some t → args[j]? = some v → Value.okWide Tryd.prog W .any base t v)
    (hW : DataW.Whole enc Tryd.prog Tryd.f6.params.toList Rows.lexWritesSpec.vars false W args.toList ds gs before) (hk : Rows.uptoSmall H (ds ++ gs) = true)
    (hL : laidMet Tryd.prog Rows.lexWritesUptoRow.laid W) (hsh : W.ShapedOpen Tryd.prog) :
    Calls Tryd.prog 6 args W fun e W' => ∃ v, e = .returned v ∧ Rows.lexWritesSpec.post enc Tryd.prog Tryd.f6 false true false false W args v W' := by
  refine law_contractK (ks := ks2) (by kernel_rfl) (by kernel_rfl) rfl rfl Tryd.underlying4 (ks_block hL hsh) (by decide) hW fun p hA hg => ?_
  subst hg
  rw [Tryd.params6] at hA hval
  obtain ⟨v0, vs0, d0, ds0, p0, q0, hargs, rfl, rfl, h0, r0⟩ := trodAll_cons hA
  obtain ⟨v1, vs1, d1, ds1, p1, q1, rfl, rfl, rfl, h1, r1⟩ := trodAll_cons r0
  obtain ⟨rfl, rfl, rfl⟩ := trodAll_nil r1
  obtain rfl : args = #[v0, v1] := by cases args; simp_all
  refine ⟨rfl, ?_⟩
  have how := tabs_ints (w := W) fun k hk => (ks_block hL hsh k hk).1
  obtain ⟨fu0, hf0⟩ := h0
  obtain ⟨l0, hi0, hb0, k0⟩ := rdToks hf0
  have c0 := conc_away (arg_slice Tryd.underlying23 (hval 0 23 v0 rfl rfl) k0) how
  obtain ⟨fu1, hf1⟩ := h1
  obtain ⟨l1, hi1, hb1, k1⟩ := rdToks hf1
  have c1 := conc_away (arg_slice Tryd.underlying23 (hval 1 23 v1 rfl rfl) k1) how
  have hkb : Rows.uptoBulk d0 + Rows.uptoBulk d1 ≤ 1048576 := by have := of_decide_eq_true hk; simp only [List.append_nil, List.cons_append, List.nil_append, Rows.uptoBulkAll] at this; omega
  refine ⟨_, ?_, lexWrites6 l0 l1 hi0 (by omega) (by omega) (by omega) (by omega)⟩
  exact ⟨_, _, rfl, c0, _, _, rfl, c1, rfl⟩
theorem lexWrites_laid_met (os : Os) (args : Array Value) : laidMet Tryd.prog Rows.lexWritesUptoRow.laid ((World.laidAll Tryd.prog os Rows.lexWritesUptoRow.laid).forCall (fun _ _ => 0) ⟨#[], args, []⟩).memory :=
  laidMet_laidAll _ (by kernel_rfl) (by kernel_rfl)
theorem lexWrites_witness (os : Os) {H : Type} (enc : TypeId × Value → H) :
    (Rows.OpenSpec.upto Rows.lexWritesSpec).preRow enc Tryd.prog Tryd.f6 Rows.lexWritesUptoRow.domain false Rows.lexWritesUptoRow.laid ((World.laidAll Tryd.prog os Rows.lexWritesUptoRow.laid).forCall (fun _ _ => 0) ⟨#[], #[.slice none 0 0, .slice none 0 0], []⟩).memory #[.slice none 0 0, .slice none 0 0] := by
  have hw : (DataW.whole enc Tryd.prog ((World.laidAll Tryd.prog os Rows.lexWritesUptoRow.laid).forCall (fun _ _ => 0) ⟨#[], #[.slice none 0 0, .slice none 0 0], []⟩).memory Tryd.f6.params.toList (Rows.OpenSpec.upto Rows.lexWritesSpec).vars false #[Value.slice none 0 0, Value.slice none 0 0].toList 8).map (fun x => (x.1, x.2.1)) = some ([.nil, .nil], []) := by kernel_rfl
  obtain ⟨⟨x1, x2, x3⟩, hx, hx1⟩ := Option.map_eq_some_iff.1 hw
  simp only [Prod.mk.injEq] at hx1
  obtain ⟨rfl, rfl⟩ := hx1
  exact OpenSpec.preRow_of_cond 8 hx (by kernel_rfl) (fun k hk => by cases hk; kernel_rfl) (by kernel_rfl) (lexWrites_laid_met os _)
set_option maxHeartbeats 2000000 in
theorem lexWritesLifted (os : Os) (started : os.Started) (H : Type) (enc : TypeId × Value → H) (F : Stop.Interp) :
    ReturnsInHanded {} Tryd.checked os 6 .any ((Rows.OpenSpec.upto Rows.lexWritesSpec).preRow enc Tryd.prog Tryd.f6 Rows.lexWritesUptoRow.domain false Rows.lexWritesUptoRow.laid) (((Rows.OpenSpec.upto Rows.lexWritesSpec).at F).post enc Tryd.prog Tryd.f6 false true false false) := by
  refine returnsInHanded_of_row (C := Tryd.checked) (s := (Rows.OpenSpec.upto Rows.lexWritesSpec)) (by kernel_rfl) started (by kernel_rfl) Tryd.func6
    (witness_row_atRef (enc := enc) (C := Tryd.checked) false (World.laidAll Tryd.prog os Rows.lexWritesUptoRow.laid) #[.slice none 0 0, .slice none 0 0] (World.laidAll_os _ _ _) (by kernel_rfl) (by kernel_rfl) (by kernel_rfl) (lexWrites_witness os enc)) ?_
  intro W base args ds gs before hval hW _ hk _ hL hsh _
  have hL2 : laidMet Tryd.prog Rows.lexWritesUptoRow.laid W := by first | exact hL | (rw [MakeChecks.laidMetH_plain _ _ _ (by kernel_rfl)] at hL; exact hL)
  exact lexWritesContract H enc W base args ds gs before hval hW (hk _ rfl) hL2 hsh
theorem lexWritesUpto : Rows.LexWritesUptoSaid :=
  OpenClaim.holds_of_cond 6 Tryd.f6 rfl rfl rfl rfl rfl rfl rfl ⟨rfl, rfl, rfl, rfl, rfl⟩ rfl rfl rfl rfl rfl (by kernel_rfl) Tryd.func6 (by kernel_rfl)
    (of_decide_eq_true (by kernel_rfl)) (by unfold Func.isWrapper; first | (rw [if_pos (by decide +kernel)]; kernel_rfl) | (rw [if_neg (by decide +kernel)]; exact ⟨rfl, rfl⟩))
    (fun os started H enc _ F0 => by rw [OpenClaim.pre_eq_preRow]; exact lexWritesLifted os started H enc F0)
theorem lexWritesUptoCardHolds : Rows.LexWritesUptoCardSaid :=
  Claim7.holds_tied_plain_at .later [] [.data, .data, .data, .listed, .data] true (true, "9133d1ed270fd32c2e4cd9ece03d0d5d90fd9a25883df61929e13e9e26e2c9fd") false lexWritesUpto (fun _ h => by cases h) (by kernel_rfl) (fun _ h => by cases h) lexWritesUpto_row_tie rfl ⟨rfl, rfl⟩ (by kernel_rfl) rfl
    (fun f fn hf hfn => by
      obtain rfl : f = 6 := Option.some.inj ((show Tryd.prog.funcNamed "wireglass/wireglasslaw04.LexWrites" = some 6 by kernel_rfl).symm.trans hf) |>.symm
      obtain rfl : fn = Tryd.f6 := (Option.some.inj (Tryd.func6.symm.trans hfn)).symm
      exact ⟨by kernel_rfl, fun j t ht => by
        rw [Tryd.params6] at ht
        have hm : t ∈ [23, 23] := by simpa using Array.mem_of_getElem? ht
        have hall : ([23, 23].all fun u => !Tryd.prog.wantsStandIn u) = true := by kernel_rfl
        exact (show Tryd.prog.wantsStandIn t = false by simpa using List.all_eq_true.1 hall t hm)⟩)
    (by kernel_rfl)
#print axioms lexWritesUptoCardHolds
end Go.Proofs.YtbhbjlhobdoomaaDoor
