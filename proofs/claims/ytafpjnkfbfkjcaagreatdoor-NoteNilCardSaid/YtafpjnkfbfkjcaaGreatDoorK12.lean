/- NoteNil: for every text and number the law returns true: the methods of no book give what the document says. Conditions: none. The card: the listed variables are tied to the text of the program. -/
import Derived.Test.YtafpjnkfbfkjcaaGreatDoorK11
import Derived.Test.YtafpjnkfbfkjcaaGreatDoorTie
import Derived.Test.YtafpjnkfbfkjcaaGreatDoorCards
import Derived.Test.YtafpjnkfbfkjcaaGreatDoorAx1
import Derived.Test.YtafpjnkfbfkjcaaGreatDoorAx1
import Derived.Deep.DeepWitnessRowRef
import Derived.Lay
set_option linter.unusedVariables false
set_option linter.unusedSimpArgs false
set_option maxRecDepth 100000
namespace Go.Proofs.YtafpjnkfbfkjcaaGreatDoor
open Go Go.AX Go.RowKit Go.ChangeShapes Go.ChangeAt Go.WideShapes
theorem noteNilContract (H : Type) (enc : TypeId × Value → H) (W : World) (base : Nat) (args : Array Value) (ds gs : List (DataW H)) (before : List MemPlace)
    (hval : ∀ (j : Nat) t v, Tryz.f7.params[j]? = some t → args[j]? = some v → Value.okWide Tryz.prog W .any base t v)
    (hW : DataW.Whole enc Tryz.prog Tryz.f7.params.toList Rows.noteNilSpec.vars false W args.toList ds gs before)
    (hL : laidMet Tryz.prog Rows.noteNilRow.laid W) (hsh : W.ShapedOpen Tryz.prog) :
    Calls Tryz.prog 7 args W fun e W' => ∃ v, e = .returned v ∧ Rows.noteNilSpec.post enc Tryz.prog Tryz.f7 false true false false W args v W' := by
  refine law_contractK (ks := []) (by kernel_rfl) (by kernel_rfl) rfl rfl Tryz.underlying4 (fun k hk => by cases hk) (by decide) hW fun p hA hg => ?_
  subst hg
  rw [Tryz.params7] at hA hval
  obtain ⟨v0, vs0, d0, ds0, p0, q0, hargs, rfl, rfl, h0, r0⟩ := trodAll_cons hA
  obtain ⟨v1, vs1, d1, ds1, p1, q1, rfl, rfl, rfl, h1, r1⟩ := trodAll_cons r0
  obtain ⟨rfl, rfl, rfl⟩ := trodAll_nil r1
  obtain rfl : args = #[v0, v1] := by cases args; simp_all
  refine ⟨rfl, ?_⟩
  obtain ⟨fu0, hf0⟩ := h0
  obtain ⟨s0, hs0, e0, k0⟩ := rd_string Tryz.underlying9 hf0
  have c0 := arg_string Tryz.underlying9 (hval 0 9 v0 rfl rfl) k0
  simp only [conc] at c0
  subst c0
  obtain ⟨n1, rfl, rfl, rfl, hr1⟩ := open_int Tryz.underlying3 (hval 1 3 v1 rfl rfl) h1
  refine ⟨_, ?_, noteNil7 s0 n1⟩
  exact ⟨_, _, rfl, rfl, ⟨_, _, rfl, rfl, rfl⟩⟩
theorem noteNil_laid_met (os : Os) (args : Array Value) : laidMet Tryz.prog Rows.noteNilRow.laid ((World.laidAll Tryz.prog os Rows.noteNilRow.laid).forCall (fun _ _ => 0) ⟨#[], args, []⟩).memory :=
  laidMet_laidAll _ (by kernel_rfl) (by kernel_rfl)
theorem noteNil_witness (os : Os) {H : Type} (enc : TypeId × Value → H) :
    (OpenSpec.ofChange Rows.noteNilSpec).preRow enc Tryz.prog Tryz.f7 Rows.noteNilRow.domain false Rows.noteNilRow.laid ((World.laidAll Tryz.prog os Rows.noteNilRow.laid).forCall (fun _ _ => 0) ⟨#[], #[.string ⟨#[]⟩, .int .i64 0], []⟩).memory #[.string ⟨#[]⟩, .int .i64 0] := by
  have hw : (DataW.whole enc Tryz.prog ((World.laidAll Tryz.prog os Rows.noteNilRow.laid).forCall (fun _ _ => 0) ⟨#[], #[.string ⟨#[]⟩, .int .i64 0], []⟩).memory Tryz.f7.params.toList (OpenSpec.ofChange Rows.noteNilSpec).vars false #[Value.string ⟨#[]⟩, Value.int .i64 0].toList 8).map (fun x => (x.1, x.2.1)) = some ([.lit (.string []), .lit (.int .i64 0)], []) := by kernel_rfl
  obtain ⟨⟨x1, x2, x3⟩, hx, hx1⟩ := Option.map_eq_some_iff.1 hw
  simp only [Prod.mk.injEq] at hx1
  obtain ⟨rfl, rfl⟩ := hx1
  exact OpenSpec.preRow_of_cond 8 hx (by kernel_rfl) (fun k hk => by cases hk) (by kernel_rfl) (noteNil_laid_met os _)
set_option maxHeartbeats 2000000 in
theorem noteNilLifted (os : Os) (started : os.Started) (H : Type) (enc : TypeId × Value → H) (F : Stop.Interp) :
    ReturnsInHanded {} Tryz.checked os 7 .any ((OpenSpec.ofChange Rows.noteNilSpec).preRow enc Tryz.prog Tryz.f7 Rows.noteNilRow.domain false Rows.noteNilRow.laid) (((OpenSpec.ofChange Rows.noteNilSpec).at F).post enc Tryz.prog Tryz.f7 false true false false) := by
  refine returnsInHanded_of_row (C := Tryz.checked) (s := (OpenSpec.ofChange Rows.noteNilSpec)) (by kernel_rfl) started (by kernel_rfl) Tryz.func7
    (witness_row_atRef (enc := enc) (C := Tryz.checked) false (World.laidAll Tryz.prog os Rows.noteNilRow.laid) #[.string ⟨#[]⟩, .int .i64 0] (World.laidAll_os _ _ _) (by kernel_rfl) (by kernel_rfl) (by kernel_rfl) (noteNil_witness os enc)) ?_
  intro W base args ds gs before hval hW _ _ _ hL hsh _
  have hL2 : laidMet Tryz.prog Rows.noteNilRow.laid W := by first | exact hL | (rw [MakeChecks.laidMetH_plain _ _ _ (by kernel_rfl)] at hL; exact hL)
  exact noteNilContract H enc W base args ds gs before hval hW hL2 hsh
theorem noteNilHolds : Rows.NoteNilSaid :=
  OpenClaim.holds_of_cond 7 Tryz.f7 rfl rfl rfl rfl rfl rfl rfl ⟨rfl, rfl, rfl, rfl, rfl⟩ rfl rfl rfl rfl rfl (by kernel_rfl) Tryz.func7 (by kernel_rfl)
    (of_decide_eq_true (by kernel_rfl)) (by unfold Func.isWrapper; first | (rw [if_pos (by decide +kernel)]; kernel_rfl) | (rw [if_neg (by decide +kernel)]; exact ⟨rfl, rfl⟩))
    (fun os started H enc _ F0 => by rw [OpenClaim.pre_eq_preRow]; exact noteNilLifted os started H enc F0)
theorem noteNilCardHolds : Rows.NoteNilCardSaid :=
  Claim7.holds_tied_plain_at .later [] [.data, .data, .data, .listed, .data] true (true, "a54d29f26c08644821b3e5461fb08e148df54551ea59d3e263afbd03f35af9b6") true noteNilHolds (fun _ h => by cases h) (by kernel_rfl) (fun _ h => by cases h) noteNil_row_tie rfl ⟨rfl, rfl⟩ (by kernel_rfl) rfl
    (fun f fn hf hfn => by
      obtain rfl : f = 7 := Option.some.inj ((show Tryz.prog.funcNamed "wireglass/wireglasslaw28.NoteNil" = some 7 by kernel_rfl).symm.trans hf) |>.symm
      obtain rfl : fn = Tryz.f7 := (Option.some.inj (Tryz.func7.symm.trans hfn)).symm
      exact ⟨by kernel_rfl, fun j t ht => by
        rw [Tryz.params7] at ht
        have hm : t ∈ [9, 3] := by simpa using Array.mem_of_getElem? ht
        have hall : ([9, 3].all fun u => !Tryz.prog.wantsStandIn u) = true := by kernel_rfl
        exact (show Tryz.prog.wantsStandIn t = false by simpa using List.all_eq_true.1 hall t hm)⟩)
    (by kernel_rfl)
#print axioms noteNilCardHolds
end Go.Proofs.YtafpjnkfbfkjcaaGreatDoor
