/-
  DERIVED. GIVEN WITH THE SEED: THE CARDS: each row of YtafpjnkfbfkjcaaGreatDoorRows.lean that lists a variable, with what it lists TIED to the program's text (the seventh form; the later family's looks); each row that meets fmt, with fmt's text TOLD by the authors' own Lean function (tested against real Go, not proved from fmt's source: count such statements apart). THE CARD IS WHAT COUNTS. Prove the row's statement (the work); the ties are given (YtafpjnkfbfkjcaaGreatDoorTie.lean); close each card by the builder's one call (the guide's Derived/Test/ToyasCard.lean, 'card_holds'). Laid BY PROGRAM, IN A SANDBOX (cutbox-door.mjs). By AI agents, Wed Nov 11 2026. No macro, syntax, notation, axiom, sorry.
-/
import Derived.Test.YtafpjnkfbfkjcaaGreatDoorRows
import GoSem.ClaimSeven
namespace Go.Proofs.YtafpjnkfbfkjcaaGreatDoor
namespace Rows

/-- THE TIED CARD OF 'wireglasslaw28.NoteSums'. -/
def noteSumsCard : Claim7 := { stood := { row := noteSumsRow, standIns := [], harness := (true, "a54d29f26c08644821b3e5461fb08e148df54551ea59d3e263afbd03f35af9b6"), looks := true }, kinds := [], alts := [], laidByText := true, laidKinds := [.data, .data, .data, .listed, .data], laidTests := true, laidLooks := .later }
def NoteSumsCardSaid : Prop := Claim7.holds Tryz.pinned (.plain (OpenSpec.ofChange noteSumsSpec)) noteSumsCard

/-- THE TIED CARD OF 'wireglasslaw28.NotePlays'. -/
def notePlaysCard : Claim7 := { stood := { row := notePlaysRow, standIns := [], harness := (true, "a54d29f26c08644821b3e5461fb08e148df54551ea59d3e263afbd03f35af9b6"), looks := true }, kinds := [], alts := [], laidByText := true, laidKinds := [.data, .data, .data, .listed, .data], laidTests := true, laidLooks := .later }
def NotePlaysCardSaid : Prop := Claim7.holds Tryz.pinned (.plain (OpenSpec.ofChange notePlaysSpec)) notePlaysCard

/-- THE TIED CARD OF 'wireglasslaw28.NoteMerges'. -/
def noteMergesCard : Claim7 := { stood := { row := noteMergesRow, standIns := [], harness := (true, "a54d29f26c08644821b3e5461fb08e148df54551ea59d3e263afbd03f35af9b6"), looks := true }, kinds := [], alts := [], laidByText := true, laidKinds := [.data, .data, .data, .listed, .data], laidTests := true, laidLooks := .later }
def NoteMergesCardSaid : Prop := Claim7.holds Tryz.pinned (.plain (OpenSpec.ofChange noteMergesSpec)) noteMergesCard

/-- THE TIED CARD OF 'wireglasslaw28.NoteCopies'. -/
def noteCopiesCard : Claim7 := { stood := { row := noteCopiesRow, standIns := [], harness := (true, "a54d29f26c08644821b3e5461fb08e148df54551ea59d3e263afbd03f35af9b6"), looks := true }, kinds := [], alts := [], laidByText := true, laidKinds := [.data, .data, .data, .listed, .data], laidTests := true, laidLooks := .later }
def NoteCopiesCardSaid : Prop := Claim7.holds Tryz.pinned (.plain (OpenSpec.ofChange noteCopiesSpec)) noteCopiesCard

/-- THE TIED CARD OF 'wireglasslaw28.NoteNil'. -/
def noteNilCard : Claim7 := { stood := { row := noteNilRow, standIns := [], harness := (true, "a54d29f26c08644821b3e5461fb08e148df54551ea59d3e263afbd03f35af9b6"), looks := true }, kinds := [], alts := [], laidByText := true, laidKinds := [.data, .data, .data, .listed, .data], laidTests := true, laidLooks := .later }
def NoteNilCardSaid : Prop := Claim7.holds Tryz.pinned (.plain (OpenSpec.ofChange noteNilSpec)) noteNilCard

/-- THE SECOND FORM's CARD OF 'wireglasslaw28.NoteSums'. -/
def noteSumsUptoCard : Claim7 := { stood := { row := noteSumsUptoRow, standIns := [], harness := (true, "a54d29f26c08644821b3e5461fb08e148df54551ea59d3e263afbd03f35af9b6"), looks := true }, kinds := [], alts := [], laidByText := true, laidKinds := [.data, .data, .data, .listed, .data], laidTests := true, laidLooks := .later }
def NoteSumsUptoCardSaid : Prop := Claim7.holds Tryz.pinned (.plain (OpenSpec.upto noteSumsSpec)) noteSumsUptoCard

/-- THE SECOND FORM's CARD OF 'wireglasslaw28.NotePlays'. -/
def notePlaysUptoCard : Claim7 := { stood := { row := notePlaysUptoRow, standIns := [], harness := (true, "a54d29f26c08644821b3e5461fb08e148df54551ea59d3e263afbd03f35af9b6"), looks := true }, kinds := [], alts := [], laidByText := true, laidKinds := [.data, .data, .data, .listed, .data], laidTests := true, laidLooks := .later }
def NotePlaysUptoCardSaid : Prop := Claim7.holds Tryz.pinned (.plain (OpenSpec.upto notePlaysSpec)) notePlaysUptoCard

/-- THE SECOND FORM's CARD OF 'wireglasslaw28.NoteMerges'. -/
def noteMergesUptoCard : Claim7 := { stood := { row := noteMergesUptoRow, standIns := [], harness := (true, "a54d29f26c08644821b3e5461fb08e148df54551ea59d3e263afbd03f35af9b6"), looks := true }, kinds := [], alts := [], laidByText := true, laidKinds := [.data, .data, .data, .listed, .data], laidTests := true, laidLooks := .later }
def NoteMergesUptoCardSaid : Prop := Claim7.holds Tryz.pinned (.plain (OpenSpec.upto noteMergesSpec)) noteMergesUptoCard

/-- THE SECOND FORM's CARD OF 'wireglasslaw28.NoteCopies'. -/
def noteCopiesUptoCard : Claim7 := { stood := { row := noteCopiesUptoRow, standIns := [], harness := (true, "a54d29f26c08644821b3e5461fb08e148df54551ea59d3e263afbd03f35af9b6"), looks := true }, kinds := [], alts := [], laidByText := true, laidKinds := [.data, .data, .data, .listed, .data], laidTests := true, laidLooks := .later }
def NoteCopiesUptoCardSaid : Prop := Claim7.holds Tryz.pinned (.plain (OpenSpec.upto noteCopiesSpec)) noteCopiesUptoCard

/-- THE SECOND FORM's CARD OF 'wireglasslaw28.NoteNil'. -/
def noteNilUptoCard : Claim7 := { stood := { row := noteNilUptoRow, standIns := [], harness := (true, "a54d29f26c08644821b3e5461fb08e148df54551ea59d3e263afbd03f35af9b6"), looks := true }, kinds := [], alts := [], laidByText := true, laidKinds := [.data, .data, .data, .listed, .data], laidTests := true, laidLooks := .later }
def NoteNilUptoCardSaid : Prop := Claim7.holds Tryz.pinned (.plain (OpenSpec.upto noteNilSpec)) noteNilUptoCard
end Rows
end Go.Proofs.YtafpjnkfbfkjcaaGreatDoor
