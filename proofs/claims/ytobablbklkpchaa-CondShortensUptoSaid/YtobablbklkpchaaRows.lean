/-
  No cell of these rows narrows 'for every input' (looked for: loops, veiled, ifaces, maps, wideKeys, modest, calm, conditions, laid).
  DERIVED. THE GIVEN ROWS OF THIS SEAT. 4 by the template 'for every input the law returns true; each argument reads behind the call as it read before'; 0 by the template 'total and deterministic' (their statements: YtobablbklkpchaaTotals.lean).
  GIVEN WITH THE SEED: the statements are not yours to turn. If you find one false, say at which input.
  Laid BY PROGRAM, IN A SANDBOX (cutbox-rows.mjs): the forced cells as the released guide's own fill.sh prints them over the translation 15568609e9300501… (all of the seat's roots in one cut). By AI agents, Wed Nov 11 2026. No macro, syntax, notation, axiom, sorry.
-/
import Derived.Test.YtobablbklkpchaaChecked
import GoSem.Claim
import GoSem.ClaimJoined
import GoSem.ClaimMapViews
import Derived.JoinedTies
import Derived.KernelRfl
namespace Go.Proofs.Ytobablbklkpchaa
/- THE CELL 'sum', in the pinned program and in every row, IS THE sha256 OF THE DUMP (.gsa) THAT YtobablbklkpchaaProg.lean LOADS. Nothing in Lean hashes anything: it is a label: what it is worth is what the hold of that sum in a sandbox is worth. -/
noncomputable def Try.pinned : Pinned := { name := "ytobablbklkpchaa", sum := "15568609e9300501fb8c629469c3a6708077cc1fce4ce87101ddaaefd2f5d67a", checked := Try.checked }
namespace Rows
def none {H : Type} : Left H := { results := [], args := [] }

/-- 'wireglasslaw13.CondRuns': WHATEVER THE INPUT: true; the input reads as it did. -/
def condRunsSpec : ChangeSpec := { name := "condRuns", fn := fun _ => fun
  | [d1, d2, d3] => { results := [.lit (.bool true)], args := [d1, d2, d3] }
  | _ => none }
def condRunsRow : OpenClaim := { program := "ytobablbklkpchaa", sum := "15568609e9300501fb8c629469c3a6708077cc1fce4ce87101ddaaefd2f5d67a", func := "wireglass/wireglasslaw13.CondRuns", spec := "condRuns", unfollowed := true, recurses := true, apart := false }
def CondRunsSaid : Prop := condRunsRow.holds Try.pinned (OpenSpec.ofChange condRunsSpec)

/-- ITS FALSE NEIGHBOUR: 'it returns false'. Refute it at one input. -/
def condRunsWrong : ChangeSpec := { name := "condRuns", fn := fun _ => fun
  | [d1, d2, d3] => { results := [.lit (.bool false)], args := [d1, d2, d3] }
  | _ => none }
def CondRunsWrongFalsely : Prop := condRunsRow.holds Try.pinned (OpenSpec.ofChange condRunsWrong)

/-- 'wireglasslaw13.CondEquals': WHATEVER THE INPUT: true; the input reads as it did. -/
def condEqualsSpec : ChangeSpec := { name := "condEquals", fn := fun _ => fun
  | [d1, d2, d3] => { results := [.lit (.bool true)], args := [d1, d2, d3] }
  | _ => none }
def condEqualsRow : OpenClaim := { program := "ytobablbklkpchaa", sum := "15568609e9300501fb8c629469c3a6708077cc1fce4ce87101ddaaefd2f5d67a", func := "wireglass/wireglasslaw13.CondEquals", spec := "condEquals", unfollowed := true, recurses := true, apart := false }
def CondEqualsSaid : Prop := condEqualsRow.holds Try.pinned (OpenSpec.ofChange condEqualsSpec)

/-- ITS FALSE NEIGHBOUR: 'it returns false'. Refute it at one input. -/
def condEqualsWrong : ChangeSpec := { name := "condEquals", fn := fun _ => fun
  | [d1, d2, d3] => { results := [.lit (.bool false)], args := [d1, d2, d3] }
  | _ => none }
def CondEqualsWrongFalsely : Prop := condEqualsRow.holds Try.pinned (OpenSpec.ofChange condEqualsWrong)

/-- 'wireglasslaw13.CondShortens': WHATEVER THE INPUT: true; the input reads as it did. -/
def condShortensSpec : ChangeSpec := { name := "condShortens", fn := fun _ => fun
  | [d1, d2] => { results := [.lit (.bool true)], args := [d1, d2] }
  | _ => none }
def condShortensRow : OpenClaim := { program := "ytobablbklkpchaa", sum := "15568609e9300501fb8c629469c3a6708077cc1fce4ce87101ddaaefd2f5d67a", func := "wireglass/wireglasslaw13.CondShortens", spec := "condShortens", unfollowed := true, recurses := true, apart := false }
def CondShortensSaid : Prop := condShortensRow.holds Try.pinned (OpenSpec.ofChange condShortensSpec)

/-- ITS FALSE NEIGHBOUR: 'it returns false'. Refute it at one input. -/
def condShortensWrong : ChangeSpec := { name := "condShortens", fn := fun _ => fun
  | [d1, d2] => { results := [.lit (.bool false)], args := [d1, d2] }
  | _ => none }
def CondShortensWrongFalsely : Prop := condShortensRow.holds Try.pinned (OpenSpec.ofChange condShortensWrong)

/-- 'wireglasslaw13.CondBlocks': WHATEVER THE INPUT: true; the input reads as it did. -/
def condBlocksSpec : ChangeSpec := { name := "condBlocks", fn := fun _ => fun
  | [d] => { results := [.lit (.bool true)], args := [d] }
  | _ => none }
def condBlocksRow : OpenClaim := { program := "ytobablbklkpchaa", sum := "15568609e9300501fb8c629469c3a6708077cc1fce4ce87101ddaaefd2f5d67a", func := "wireglass/wireglasslaw13.CondBlocks", spec := "condBlocks", unfollowed := true, recurses := true, apart := false }
def CondBlocksSaid : Prop := condBlocksRow.holds Try.pinned (OpenSpec.ofChange condBlocksSpec)

/-- ITS FALSE NEIGHBOUR: 'it returns false'. Refute it at one input. -/
def condBlocksWrong : ChangeSpec := { name := "condBlocks", fn := fun _ => fun
  | [d] => { results := [.lit (.bool false)], args := [d] }
  | _ => none }
def CondBlocksWrongFalsely : Prop := condBlocksRow.holds Try.pinned (OpenSpec.ofChange condBlocksWrong)

/- THE SECOND FORM. 'bulk': how many values and letters a reading holds, each counted each time it is reached (what is shared counts as often as it is met; a slice's spare places count too). A statement '..UptoSaid' is the law's where the arguments, and the package variables that the reading takes, are together of bulk at most 1048576: NARROWER than '..Said'. Prove '..Said' where nothing that the law and all that it calls make is longer than what came in: it says more and counts as full. Else prove '..UptoSaid'. A law counts once. -/
mutual
def uptoBulk {H : Type} : DataW H → Nat
  | .lit (.string bytes) => bytes.length + 1
  | .lit _ => 1
  | .nil => 1
  | .ptr d => uptoBulk d + 1
  | .slice elems spare => uptoBulkAll elems + uptoBulkAll spare + 1
  | .agg parts => uptoBulkAll parts + 1
  | .iface _ d => uptoBulk d + 1
  | .map entries => uptoBulkEntries entries + 1
  | .held _ => 1
def uptoBulkAll {H : Type} : List (DataW H) → Nat
  | [] => 0
  | d :: r => uptoBulk d + uptoBulkAll r
def uptoBulkEntries {H : Type} : List (Lit × DataW H) → Nat
  | [] => 0
  | x :: r => uptoBulkEntry x + uptoBulkEntries r
def uptoBulkEntry {H : Type} : Lit × DataW H → Nat
  | (.string bytes, d) => bytes.length + uptoBulk d + 1
  | (_, d) => uptoBulk d + 1
 end
def uptoSmall : (H : Type) → List (DataW H) → Bool := fun _ ds => decide (uptoBulkAll ds ≤ 1048576)
def OpenSpec.upto (s : _root_.Go.ChangeSpec) : _root_.Go.OpenSpec := { _root_.Go.OpenSpec.ofChange s with cond := some uptoSmall }

/-- 'wireglasslaw13.CondRuns', WHERE WHAT IT READS IS OF BULK AT MOST 1048576: true; the input reads as it did. -/
def condRunsUptoRow : OpenClaim := { program := "ytobablbklkpchaa", sum := "15568609e9300501fb8c629469c3a6708077cc1fce4ce87101ddaaefd2f5d67a", func := "wireglass/wireglasslaw13.CondRuns", spec := "condRuns", unfollowed := true, recurses := true, apart := false, narrowed := true }
def CondRunsUptoSaid : Prop := condRunsUptoRow.holds Try.pinned (OpenSpec.upto condRunsSpec)

/-- 'wireglasslaw13.CondEquals', WHERE WHAT IT READS IS OF BULK AT MOST 1048576: true; the input reads as it did. -/
def condEqualsUptoRow : OpenClaim := { program := "ytobablbklkpchaa", sum := "15568609e9300501fb8c629469c3a6708077cc1fce4ce87101ddaaefd2f5d67a", func := "wireglass/wireglasslaw13.CondEquals", spec := "condEquals", unfollowed := true, recurses := true, apart := false, narrowed := true }
def CondEqualsUptoSaid : Prop := condEqualsUptoRow.holds Try.pinned (OpenSpec.upto condEqualsSpec)

/-- 'wireglasslaw13.CondShortens', WHERE WHAT IT READS IS OF BULK AT MOST 1048576: true; the input reads as it did. -/
def condShortensUptoRow : OpenClaim := { program := "ytobablbklkpchaa", sum := "15568609e9300501fb8c629469c3a6708077cc1fce4ce87101ddaaefd2f5d67a", func := "wireglass/wireglasslaw13.CondShortens", spec := "condShortens", unfollowed := true, recurses := true, apart := false, narrowed := true }
def CondShortensUptoSaid : Prop := condShortensUptoRow.holds Try.pinned (OpenSpec.upto condShortensSpec)

/-- 'wireglasslaw13.CondBlocks', WHERE WHAT IT READS IS OF BULK AT MOST 1048576: true; the input reads as it did. -/
def condBlocksUptoRow : OpenClaim := { program := "ytobablbklkpchaa", sum := "15568609e9300501fb8c629469c3a6708077cc1fce4ce87101ddaaefd2f5d67a", func := "wireglass/wireglasslaw13.CondBlocks", spec := "condBlocks", unfollowed := true, recurses := true, apart := false, narrowed := true }
def CondBlocksUptoSaid : Prop := condBlocksUptoRow.holds Try.pinned (OpenSpec.upto condBlocksSpec)

end Rows
end Go.Proofs.Ytobablbklkpchaa
