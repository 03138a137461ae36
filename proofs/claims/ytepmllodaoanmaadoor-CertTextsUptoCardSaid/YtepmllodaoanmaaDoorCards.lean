/-
  DERIVED. GIVEN WITH THE SEED: THE CARDS: each row of YtepmllodaoanmaaDoorRows.lean that lists a variable, with what it lists TIED to the program's text (the seventh form; the later family's looks); each row that meets fmt, with fmt's text TOLD by the authors' own Lean function (tested against real Go, not proved from fmt's source: count such statements apart). THE CARD IS WHAT COUNTS. Prove the row's statement (the work); the ties are given (YtepmllodaoanmaaDoorTie.lean); close each card by the builder's one call (the guide's Derived/Test/ToyasCard.lean, 'card_holds'). Laid BY PROGRAM, IN A SANDBOX (cutbox-door.mjs). By AI agents, Wed Nov 11 2026. No macro, syntax, notation, axiom, sorry.
-/
import Derived.Test.YtepmllodaoanmaaDoorRows
import GoSem.ClaimSeven
namespace Go.Proofs.YtepmllodaoanmaaDoor
namespace Rows

/-- THE TIED CARD OF 'wireglasslaw22.CertTexts'. -/
def certTextsCard : Claim7 := { stood := { row := certTextsRow, standIns := [], harness := (true, "20355f481ac16757542302cc11799681d9a6975a32cb23469848ca393c6759c7"), looks := false }, kinds := [], alts := [], laidByText := true, laidKinds := [.data, .data, .data], laidTests := true, laidLooks := .later }
def CertTextsCardSaid : Prop := Claim7.holds Tryd.pinned (.plain (OpenSpec.ofChange certTextsSpec)) certTextsCard

/-- THE TIED CARD OF 'wireglasslaw22.CertReads'. -/
def certReadsCard : Claim7 := { stood := { row := certReadsRow, standIns := [], harness := (true, "20355f481ac16757542302cc11799681d9a6975a32cb23469848ca393c6759c7"), looks := false }, kinds := [], alts := [], laidByText := true, laidKinds := [.data, .pinned], laidTests := true, laidLooks := .later }
def CertReadsCardSaid : Prop := Claim7.holds Tryd.pinned (.plain (OpenSpec.ofChange certReadsSpec)) certReadsCard

/-- THE TIED CARD OF 'wireglasslaw22.CertBack'. -/
def certBackCard : Claim7 := { stood := { row := certBackRow, standIns := [], harness := (true, "20355f481ac16757542302cc11799681d9a6975a32cb23469848ca393c6759c7"), looks := false }, kinds := [], alts := [], laidByText := true, laidKinds := [.data, .pinned], laidTests := true, laidLooks := .later }
def CertBackCardSaid : Prop := Claim7.holds Tryd.pinned (.plain (OpenSpec.ofChange certBackSpec)) certBackCard

/-- THE SECOND FORM's CARD OF 'wireglasslaw22.CertTexts'. -/
def certTextsUptoCard : Claim7 := { stood := { row := certTextsUptoRow, standIns := [], harness := (true, "20355f481ac16757542302cc11799681d9a6975a32cb23469848ca393c6759c7"), looks := false }, kinds := [], alts := [], laidByText := true, laidKinds := [.data, .data, .data], laidTests := true, laidLooks := .later }
def CertTextsUptoCardSaid : Prop := Claim7.holds Tryd.pinned (.plain (OpenSpec.upto certTextsSpec)) certTextsUptoCard

/-- THE SECOND FORM's CARD OF 'wireglasslaw22.CertReads'. -/
def certReadsUptoCard : Claim7 := { stood := { row := certReadsUptoRow, standIns := [], harness := (true, "20355f481ac16757542302cc11799681d9a6975a32cb23469848ca393c6759c7"), looks := false }, kinds := [], alts := [], laidByText := true, laidKinds := [.data, .pinned], laidTests := true, laidLooks := .later }
def CertReadsUptoCardSaid : Prop := Claim7.holds Tryd.pinned (.plain (OpenSpec.upto certReadsSpec)) certReadsUptoCard

/-- THE SECOND FORM's CARD OF 'wireglasslaw22.CertBack'. -/
def certBackUptoCard : Claim7 := { stood := { row := certBackUptoRow, standIns := [], harness := (true, "20355f481ac16757542302cc11799681d9a6975a32cb23469848ca393c6759c7"), looks := false }, kinds := [], alts := [], laidByText := true, laidKinds := [.data, .pinned], laidTests := true, laidLooks := .later }
def CertBackUptoCardSaid : Prop := Claim7.holds Tryd.pinned (.plain (OpenSpec.upto certBackSpec)) certBackUptoCard
end Rows
end Go.Proofs.YtepmllodaoanmaaDoor
