/- LexPlaces: for every text and numbers the law returns true: the line and column of a place, and the texts of numbers and addresses, are the reference's. Conditions: none. The card: the listed variables are tied to the text of the program. -/
import Derived.Test.YtbhbjlhobdoomaaDoorK55
import Derived.Test.YtbhbjlhobdoomaaDoorTie
import Derived.Test.YtbhbjlhobdoomaaDoorCards
import Derived.Test.YtbhbjlhobdoomaaDoorAx1
import Derived.Test.YtbhbjlhobdoomaaDoorAx1
import Derived.Deep.DeepWitnessRowRef
import Derived.Lay
set_option linter.unusedVariables false
set_option linter.unusedSimpArgs false
set_option maxRecDepth 100000
namespace Go.Proofs.YtbhbjlhobdoomaaDoor
open Go Go.AX Go.RowKit Go.ChangeShapes Go.ChangeAt Go.WideShapes
theorem tab0_is : (Rows.laid_strings_asciiSpace : DataW Unit) = Lib.tabData .u8 Lib.asciiSpaceTab := by kernel_rfl
theorem tab1_is : (Rows.laid_internal_strconv_uint64pow10 : DataW Unit) = Lib.tabData .u64 Lib.pow10Tab := by kernel_rfl
theorem ks_block {W : World} (hL : laidMet Tryd.prog Rows.lexPlacesRow.laid W) (hsh : W.ShapedOpen Tryd.prog) : ∀ k ∈ ks2, W.heap[k.1]? = some (.cells k.2.2.toArray k.2.1 (0, 0)) ∧ ∀ y ∈ k.2.2, y.oneCell' = true := by
  intro k hk
  rcases List.mem_cons.1 hk with rfl | hk
  · refine ⟨?_, by decide +kernel⟩
    exact tab_block (P := Tryd.prog) (W := W) (l := Rows.lexPlacesRow.laid) (name := "strings.asciiSpace") (k := .u8) (zs := Lib.asciiSpaceTab) (g := 1) (t := 94) (e := 5) (n := 256) (zero := Array.replicate 256 (.int .u8 0)) hL
      (by rw [← tab0_is]; repeat (first | exact .head _ | apply List.Mem.tail)) hsh (by kernel_rfl) (by kernel_rfl) (by kernel_rfl) (by kernel_rfl) Tryd.underlying94 Tryd.underlying5 (by kernel_rfl) (by kernel_rfl)
  obtain rfl := List.mem_singleton.1 hk
  · refine ⟨?_, by decide +kernel⟩
    exact tab_block (P := Tryd.prog) (W := W) (l := Rows.lexPlacesRow.laid) (name := "internal/strconv.uint64pow10") (k := .u64) (zs := Lib.pow10Tab) (g := 3) (t := 121) (e := 109) (n := 20) (zero := Array.replicate 20 (.int .u64 0)) hL
      (by rw [← tab1_is]; repeat (first | exact .head _ | apply List.Mem.tail)) hsh (by kernel_rfl) (by kernel_rfl) (by kernel_rfl) (by kernel_rfl) Tryd.underlying121 Tryd.underlying109 (by kernel_rfl) (by kernel_rfl)
theorem lexPlacesContract (H : Type) (enc : TypeId × Value → H) (W : World) (base : Nat) (args : Array Value) (ds gs : List (DataW H)) (before : List MemPlace)
    (hval : ∀ (j : Nat) t v, Tryd.f7.params[j]? = some t → args[j]? = some v → Value.okWide Tryd.prog W .any base t v)
    (hW : DataW.Whole enc Tryd.prog Tryd.f7.params.toList Rows.lexPlacesSpec.vars false W args.toList ds gs before)
    (hL : laidMet Tryd.prog Rows.lexPlacesRow.laid W) (hsh : W.ShapedOpen Tryd.prog) :
    Calls Tryd.prog 7 args W fun e W' => ∃ v, e = .returned v ∧ Rows.lexPlacesSpec.post enc Tryd.prog Tryd.f7 false true false false W args v W' := by
  refine law_contractK (ks := ks2) (by kernel_rfl) (by kernel_rfl) rfl rfl Tryd.underlying4 (ks_block hL hsh) (by decide) hW fun p hA hg => ?_
  subst hg
  rw [Tryd.params7] at hA hval
  obtain ⟨v0, vs0, d0, ds0, p0, q0, hargs, rfl, rfl, h0, r0⟩ := trodAll_cons hA
  obtain ⟨v1, vs1, d1, ds1, p1, q1, rfl, rfl, rfl, h1, r1⟩ := trodAll_cons r0
  obtain ⟨v2, vs2, d2, ds2, p2, q2, rfl, rfl, rfl, h2, r2⟩ := trodAll_cons r1
  obtain ⟨rfl, rfl, rfl⟩ := trodAll_nil r2
  obtain rfl : args = #[v0, v1, v2] := by cases args; simp_all
  refine ⟨rfl, ?_⟩
  obtain ⟨fu0, hf0⟩ := h0
  obtain ⟨s0, hs0, e0, k0⟩ := rd_string Tryd.underlying9 hf0
  have c0 := arg_string Tryd.underlying9 (hval 0 9 v0 rfl rfl) k0
  simp only [conc] at c0
  subst c0
  obtain ⟨n1, rfl, rfl, rfl, hr1⟩ := open_int Tryd.underlying3 (hval 1 3 v1 rfl rfl) h1
  obtain ⟨n2, rfl, rfl, rfl, hr2⟩ := open_int Tryd.underlying3 (hval 2 3 v2 rfl rfl) h2
  refine ⟨_, ?_, lexPlaces7 s0 n1 n2 (by have h1 : IntKind.i64.min = -9223372036854775808 := (by decide); have h2 : IntKind.i64.max = 9223372036854775807 := (by decide); simp only [Lit.wf, h1, h2, decide_eq_true_eq, Bool.and_eq_true] at hr2; exact hr2)⟩
  exact ⟨_, _, rfl, rfl, ⟨_, _, rfl, rfl, ⟨_, _, rfl, rfl, rfl⟩⟩⟩
theorem lexPlaces_laid_met (os : Os) (args : Array Value) : laidMet Tryd.prog Rows.lexPlacesRow.laid ((World.laidAll Tryd.prog os Rows.lexPlacesRow.laid).forCall (fun _ _ => 0) ⟨#[], args, []⟩).memory :=
  laidMet_laidAll _ (by kernel_rfl) (by kernel_rfl)
theorem lexPlaces_witness (os : Os) {H : Type} (enc : TypeId × Value → H) :
    (OpenSpec.ofChange Rows.lexPlacesSpec).preRow enc Tryd.prog Tryd.f7 Rows.lexPlacesRow.domain false Rows.lexPlacesRow.laid ((World.laidAll Tryd.prog os Rows.lexPlacesRow.laid).forCall (fun _ _ => 0) ⟨#[], #[.string ⟨#[]⟩, .int .i64 0, .int .i64 0], []⟩).memory #[.string ⟨#[]⟩, .int .i64 0, .int .i64 0] := by
  have hw : (DataW.whole enc Tryd.prog ((World.laidAll Tryd.prog os Rows.lexPlacesRow.laid).forCall (fun _ _ => 0) ⟨#[], #[.string ⟨#[]⟩, .int .i64 0, .int .i64 0], []⟩).memory Tryd.f7.params.toList (OpenSpec.ofChange Rows.lexPlacesSpec).vars false #[Value.string ⟨#[]⟩, Value.int .i64 0, Value.int .i64 0].toList 8).map (fun x => (x.1, x.2.1)) = some ([.lit (.string []), .lit (.int .i64 0), .lit (.int .i64 0)], []) := by kernel_rfl
  obtain ⟨⟨x1, x2, x3⟩, hx, hx1⟩ := Option.map_eq_some_iff.1 hw
  simp only [Prod.mk.injEq] at hx1
  obtain ⟨rfl, rfl⟩ := hx1
  exact OpenSpec.preRow_of_cond 8 hx (by kernel_rfl) (fun k hk => by cases hk) (by kernel_rfl) (lexPlaces_laid_met os _)
set_option maxHeartbeats 2000000 in
theorem lexPlacesLifted (os : Os) (started : os.Started) (H : Type) (enc : TypeId × Value → H) (F : Stop.Interp) :
    ReturnsInHanded {} Tryd.checked os 7 .any ((OpenSpec.ofChange Rows.lexPlacesSpec).preRow enc Tryd.prog Tryd.f7 Rows.lexPlacesRow.domain false Rows.lexPlacesRow.laid) (((OpenSpec.ofChange Rows.lexPlacesSpec).at F).post enc Tryd.prog Tryd.f7 false true false false) := by
  refine returnsInHanded_of_row (C := Tryd.checked) (s := (OpenSpec.ofChange Rows.lexPlacesSpec)) (by kernel_rfl) started (by kernel_rfl) Tryd.func7
    (witness_row_atRef (enc := enc) (C := Tryd.checked) false (World.laidAll Tryd.prog os Rows.lexPlacesRow.laid) #[.string ⟨#[]⟩, .int .i64 0, .int .i64 0] (World.laidAll_os _ _ _) (by kernel_rfl) (by kernel_rfl) (by kernel_rfl) (lexPlaces_witness os enc)) ?_
  intro W base args ds gs before hval hW _ _ _ hL hsh _
  have hL2 : laidMet Tryd.prog Rows.lexPlacesRow.laid W := by first | exact hL | (rw [MakeChecks.laidMetH_plain _ _ _ (by kernel_rfl)] at hL; exact hL)
  exact lexPlacesContract H enc W base args ds gs before hval hW hL2 hsh
theorem lexPlacesHolds : Rows.LexPlacesSaid :=
  OpenClaim.holds_of_cond 7 Tryd.f7 rfl rfl rfl rfl rfl rfl rfl ⟨rfl, rfl, rfl, rfl, rfl⟩ rfl rfl rfl rfl rfl (by kernel_rfl) Tryd.func7 (by kernel_rfl)
    (of_decide_eq_true (by kernel_rfl)) (by unfold Func.isWrapper; first | (rw [if_pos (by decide +kernel)]; kernel_rfl) | (rw [if_neg (by decide +kernel)]; exact ⟨rfl, rfl⟩))
    (fun os started H enc _ F0 => by rw [OpenClaim.pre_eq_preRow]; exact lexPlacesLifted os started H enc F0)
theorem lexPlacesCardHolds : Rows.LexPlacesCardSaid :=
  Claim7.holds_tied_plain_at .later [] [.data, .data, .data, .listed, .data] true (true, "9133d1ed270fd32c2e4cd9ece03d0d5d90fd9a25883df61929e13e9e26e2c9fd") false lexPlacesHolds (fun _ h => by cases h) (by kernel_rfl) (fun _ h => by cases h) lexPlaces_row_tie rfl ⟨rfl, rfl⟩ (by kernel_rfl) rfl
    (fun f fn hf hfn => by
      obtain rfl : f = 7 := Option.some.inj ((show Tryd.prog.funcNamed "wireglass/wireglasslaw04.LexPlaces" = some 7 by kernel_rfl).symm.trans hf) |>.symm
      obtain rfl : fn = Tryd.f7 := (Option.some.inj (Tryd.func7.symm.trans hfn)).symm
      exact ⟨by kernel_rfl, fun j t ht => by
        rw [Tryd.params7] at ht
        have hm : t ∈ [9, 3, 3] := by simpa using Array.mem_of_getElem? ht
        have hall : ([9, 3, 3].all fun u => !Tryd.prog.wantsStandIn u) = true := by kernel_rfl
        exact (show Tryd.prog.wantsStandIn t = false by simpa using List.all_eq_true.1 hall t hm)⟩)
    (by kernel_rfl)
#print axioms lexPlacesCardHolds
end Go.Proofs.YtbhbjlhobdoomaaDoor
