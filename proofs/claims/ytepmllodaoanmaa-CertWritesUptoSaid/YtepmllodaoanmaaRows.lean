/-
  NARROWER THAN 'FOR EVERY INPUT', by the rows' own cells (each row's printed sentence says how): CertWrites: loops · CertSames: loops · CertBits: loops.
  DERIVED. THE GIVEN ROWS OF THIS SEAT. 4 by the template 'for every input the law returns true; each argument reads behind the call as it read before'; 0 by the template 'total and deterministic' (their statements: YtepmllodaoanmaaTotals.lean).
  GIVEN WITH THE SEED: the statements are not yours to turn. If you find one false, say at which input.
  Laid BY PROGRAM, IN A SANDBOX (cutbox-rows.mjs): the forced cells as the released guide's own fill.sh prints them over the translation 5d51f8fa6a6a7502… (all of the seat's roots in one cut). By AI agents, Wed Nov 11 2026. No macro, syntax, notation, axiom, sorry.
-/
import Derived.Test.YtepmllodaoanmaaChecked
import GoSem.Claim
import GoSem.ClaimJoined
import GoSem.ClaimMapViews
import Derived.JoinedTies
import Derived.KernelRfl
namespace Go.Proofs.Ytepmllodaoanmaa
/- THE CELL 'sum', in the pinned program and in every row, IS THE sha256 OF THE DUMP (.gsa) THAT YtepmllodaoanmaaProg.lean LOADS. Nothing in Lean hashes anything: it is a label: what it is worth is what the hold of that sum in a sandbox is worth. -/
noncomputable def Try.pinned : Pinned := { name := "ytepmllodaoanmaa", sum := "5d51f8fa6a6a75024a5482f35b3531f9045360acb47777d140caea09aafed5b3", checked := Try.checked }
namespace Rows
def none {H : Type} : Left H := { results := [], args := [] }

/-- 'wireglasslaw22.CertWrites': WHATEVER THE INPUT: true; the input reads as it did. -/
def certWritesSpec : ChangeSpec := { name := "certWrites", fn := fun _ => fun
  | [d1, d2] => { results := [.lit (.bool true)], args := [d1, d2] }
  | _ => none }
def certWritesRow : OpenClaim := { program := "ytepmllodaoanmaa", sum := "5d51f8fa6a6a75024a5482f35b3531f9045360acb47777d140caea09aafed5b3", func := "wireglass/wireglasslaw22.CertWrites", spec := "certWrites", unfollowed := true, recurses := true, loops := true, apart := false }
def CertWritesSaid : Prop := certWritesRow.holds Try.pinned (OpenSpec.ofChange certWritesSpec)

/-- ITS FALSE NEIGHBOUR: 'it returns false'. Refute it at one input. -/
def certWritesWrong : ChangeSpec := { name := "certWrites", fn := fun _ => fun
  | [d1, d2] => { results := [.lit (.bool false)], args := [d1, d2] }
  | _ => none }
def CertWritesWrongFalsely : Prop := certWritesRow.holds Try.pinned (OpenSpec.ofChange certWritesWrong)

/-- 'wireglasslaw22.CertParts': WHATEVER THE INPUT: true; the input reads as it did. -/
def certPartsSpec : ChangeSpec := { name := "certParts", fn := fun _ => fun
  | [d] => { results := [.lit (.bool true)], args := [d] }
  | _ => none }
def certPartsRow : OpenClaim := { program := "ytepmllodaoanmaa", sum := "5d51f8fa6a6a75024a5482f35b3531f9045360acb47777d140caea09aafed5b3", func := "wireglass/wireglasslaw22.CertParts", spec := "certParts", unfollowed := true, recurses := true, apart := false }
def CertPartsSaid : Prop := certPartsRow.holds Try.pinned (OpenSpec.ofChange certPartsSpec)

/-- ITS FALSE NEIGHBOUR: 'it returns false'. Refute it at one input. -/
def certPartsWrong : ChangeSpec := { name := "certParts", fn := fun _ => fun
  | [d] => { results := [.lit (.bool false)], args := [d] }
  | _ => none }
def CertPartsWrongFalsely : Prop := certPartsRow.holds Try.pinned (OpenSpec.ofChange certPartsWrong)

/-- 'wireglasslaw22.CertSames': WHATEVER THE INPUT: true; the input reads as it did. -/
def certSamesSpec : ChangeSpec := { name := "certSames", fn := fun _ => fun
  | [d1, d2, d3] => { results := [.lit (.bool true)], args := [d1, d2, d3] }
  | _ => none }
def certSamesRow : OpenClaim := { program := "ytepmllodaoanmaa", sum := "5d51f8fa6a6a75024a5482f35b3531f9045360acb47777d140caea09aafed5b3", func := "wireglass/wireglasslaw22.CertSames", spec := "certSames", unfollowed := true, recurses := true, loops := true, apart := false }
def CertSamesSaid : Prop := certSamesRow.holds Try.pinned (OpenSpec.ofChange certSamesSpec)

/-- ITS FALSE NEIGHBOUR: 'it returns false'. Refute it at one input. -/
def certSamesWrong : ChangeSpec := { name := "certSames", fn := fun _ => fun
  | [d1, d2, d3] => { results := [.lit (.bool false)], args := [d1, d2, d3] }
  | _ => none }
def CertSamesWrongFalsely : Prop := certSamesRow.holds Try.pinned (OpenSpec.ofChange certSamesWrong)

/-- 'wireglasslaw22.CertBits': WHATEVER THE INPUT: true; the input reads as it did. -/
def certBitsSpec : ChangeSpec := { name := "certBits", fn := fun _ => fun
  | [d] => { results := [.lit (.bool true)], args := [d] }
  | _ => none }
def certBitsRow : OpenClaim := { program := "ytepmllodaoanmaa", sum := "5d51f8fa6a6a75024a5482f35b3531f9045360acb47777d140caea09aafed5b3", func := "wireglass/wireglasslaw22.CertBits", spec := "certBits", unfollowed := true, recurses := true, loops := true, apart := false }
def CertBitsSaid : Prop := certBitsRow.holds Try.pinned (OpenSpec.ofChange certBitsSpec)

/-- ITS FALSE NEIGHBOUR: 'it returns false'. Refute it at one input. -/
def certBitsWrong : ChangeSpec := { name := "certBits", fn := fun _ => fun
  | [d] => { results := [.lit (.bool false)], args := [d] }
  | _ => none }
def CertBitsWrongFalsely : Prop := certBitsRow.holds Try.pinned (OpenSpec.ofChange certBitsWrong)

/- THE SECOND FORM. 'bulk': how many values and letters a reading holds, each counted each time it is reached (what is shared counts as often as it is met; a slice's spare places count too). A statement '..UptoSaid' is the law's where the arguments, and the package variables that the reading takes, are together of bulk at most 1048576: NARROWER than '..Said'. Prove '..Said' where nothing that the law and all that it calls make is longer than what came in: it says more and counts as full. Else prove '..UptoSaid'. A law counts once. -/
mutual
def uptoBulk {H : Type} : DataW H → Nat
  | .lit (.string bytes) => bytes.length + 1
  | .lit _ => 1
  | .nil => 1
  | .ptr d => uptoBulk d + 1
  | .slice elems spare => uptoBulkAll elems + uptoBulkAll spare + 1
  | .agg parts => uptoBulkAll parts + 1
  | .iface _ d => uptoBulk d + 1
  | .map entries => uptoBulkEntries entries + 1
  | .held _ => 1
def uptoBulkAll {H : Type} : List (DataW H) → Nat
  | [] => 0
  | d :: r => uptoBulk d + uptoBulkAll r
def uptoBulkEntries {H : Type} : List (Lit × DataW H) → Nat
  | [] => 0
  | x :: r => uptoBulkEntry x + uptoBulkEntries r
def uptoBulkEntry {H : Type} : Lit × DataW H → Nat
  | (.string bytes, d) => bytes.length + uptoBulk d + 1
  | (_, d) => uptoBulk d + 1
 end
def uptoSmall : (H : Type) → List (DataW H) → Bool := fun _ ds => decide (uptoBulkAll ds ≤ 1048576)
def OpenSpec.upto (s : _root_.Go.ChangeSpec) : _root_.Go.OpenSpec := { _root_.Go.OpenSpec.ofChange s with cond := some uptoSmall }

/-- 'wireglasslaw22.CertWrites', WHERE WHAT IT READS IS OF BULK AT MOST 1048576: true; the input reads as it did. -/
def certWritesUptoRow : OpenClaim := { program := "ytepmllodaoanmaa", sum := "5d51f8fa6a6a75024a5482f35b3531f9045360acb47777d140caea09aafed5b3", func := "wireglass/wireglasslaw22.CertWrites", spec := "certWrites", unfollowed := true, recurses := true, loops := true, apart := false, narrowed := true }
def CertWritesUptoSaid : Prop := certWritesUptoRow.holds Try.pinned (OpenSpec.upto certWritesSpec)

/-- 'wireglasslaw22.CertParts', WHERE WHAT IT READS IS OF BULK AT MOST 1048576: true; the input reads as it did. -/
def certPartsUptoRow : OpenClaim := { program := "ytepmllodaoanmaa", sum := "5d51f8fa6a6a75024a5482f35b3531f9045360acb47777d140caea09aafed5b3", func := "wireglass/wireglasslaw22.CertParts", spec := "certParts", unfollowed := true, recurses := true, apart := false, narrowed := true }
def CertPartsUptoSaid : Prop := certPartsUptoRow.holds Try.pinned (OpenSpec.upto certPartsSpec)

/-- 'wireglasslaw22.CertSames', WHERE WHAT IT READS IS OF BULK AT MOST 1048576: true; the input reads as it did. -/
def certSamesUptoRow : OpenClaim := { program := "ytepmllodaoanmaa", sum := "5d51f8fa6a6a75024a5482f35b3531f9045360acb47777d140caea09aafed5b3", func := "wireglass/wireglasslaw22.CertSames", spec := "certSames", unfollowed := true, recurses := true, loops := true, apart := false, narrowed := true }
def CertSamesUptoSaid : Prop := certSamesUptoRow.holds Try.pinned (OpenSpec.upto certSamesSpec)

/-- 'wireglasslaw22.CertBits', WHERE WHAT IT READS IS OF BULK AT MOST 1048576: true; the input reads as it did. -/
def certBitsUptoRow : OpenClaim := { program := "ytepmllodaoanmaa", sum := "5d51f8fa6a6a75024a5482f35b3531f9045360acb47777d140caea09aafed5b3", func := "wireglass/wireglasslaw22.CertBits", spec := "certBits", unfollowed := true, recurses := true, loops := true, apart := false, narrowed := true }
def CertBitsUptoSaid : Prop := certBitsUptoRow.holds Try.pinned (OpenSpec.upto certBitsSpec)

end Rows
end Go.Proofs.Ytepmllodaoanmaa
