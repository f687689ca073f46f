/-
  DERIVED. GIVEN WITH THE SEED: THE CARDS: each row of YteglgcfbmjlnkaaDoorRows.lean that lists a variable, with what it lists TIED to the program's text (the seventh form; the later family's looks); each row that meets fmt, with fmt's text TOLD by the authors' own Lean function (tested against real Go, not proved from fmt's source: count such statements apart). THE CARD IS WHAT COUNTS. Prove the row's statement (the work); the ties are given (YteglgcfbmjlnkaaDoorTie.lean); close each card by the builder's one call (the guide's Derived/Test/ToyasCard.lean, 'card_holds'). Laid BY PROGRAM, IN A SANDBOX (cutbox-door.mjs). By AI agents, Wed Nov 11 2026. No macro, syntax, notation, axiom, sorry.
-/
import Derived.Test.YteglgcfbmjlnkaaDoorRows
import GoSem.ClaimSeven
namespace Go.Proofs.YteglgcfbmjlnkaaDoor
namespace Rows

/-- THE TIED CARD OF 'salvorlaw07.LratextReads'. -/
def lratextReadsCard : Claim7 := { stood := { row := lratextReadsRow, standIns := [], harness := (true, "3c43e8fa3b7dd328f45f19aa33238e9a4d08939814615c37b0de859b71edd597"), looks := true }, kinds := [], alts := [], laidByText := true, laidKinds := [.data, .data, .data, .data, .sentinel, .sentinel, .pinned], laidTests := true, laidLooks := .later }
def LratextReadsCardSaid : Prop := Claim7.holds Tryd.pinned (.plain (OpenSpec.ofChange lratextReadsSpec)) lratextReadsCard

/-- THE TIED CARD OF 'salvorlaw07.LratextOrder'. -/
def lratextOrderCard : Claim7 := { stood := { row := lratextOrderRow, standIns := [], harness := (true, "3c43e8fa3b7dd328f45f19aa33238e9a4d08939814615c37b0de859b71edd597"), looks := true }, kinds := [], alts := [], laidByText := true, laidKinds := [.data, .data, .data, .data, .sentinel, .sentinel, .pinned], laidTests := true, laidLooks := .later }
def LratextOrderCardSaid : Prop := Claim7.holds Tryd.pinned (.plain (OpenSpec.ofChange lratextOrderSpec)) lratextOrderCard

/-- THE TIED CARD OF 'salvorlaw07.LratextLines'. -/
def lratextLinesCard : Claim7 := { stood := { row := lratextLinesRow, standIns := [], harness := (true, "3c43e8fa3b7dd328f45f19aa33238e9a4d08939814615c37b0de859b71edd597"), looks := true }, kinds := [], alts := [], laidByText := true, laidKinds := [.data, .data, .data, .data, .sentinel, .sentinel, .pinned], laidTests := true, laidLooks := .later }
def LratextLinesCardSaid : Prop := Claim7.holds Tryd.pinned (.plain (OpenSpec.ofChange lratextLinesSpec)) lratextLinesCard

/-- THE TIED CARD OF 'salvorlaw07.LratextWrong'. -/
def lratextWrongCard : Claim7 := { stood := { row := lratextWrongRow, standIns := [], harness := (true, "3c43e8fa3b7dd328f45f19aa33238e9a4d08939814615c37b0de859b71edd597"), looks := true }, kinds := [], alts := [], laidByText := true, laidKinds := [.data, .data, .data, .data, .sentinel, .sentinel, .pinned], laidTests := true, laidLooks := .later }
def LratextWrongCardSaid : Prop := Claim7.holds Tryd.pinned (.plain (OpenSpec.ofChange lratextWrongSpec)) lratextWrongCard

/-- THE TIED CARD OF 'salvorlaw07.LratextCuts'. -/
def lratextCutsCard : Claim7 := { stood := { row := lratextCutsRow, standIns := [], harness := (true, "3c43e8fa3b7dd328f45f19aa33238e9a4d08939814615c37b0de859b71edd597"), looks := true }, kinds := [], alts := [], laidByText := true, laidKinds := [.data, .data, .data, .data, .sentinel, .sentinel, .pinned], laidTests := true, laidLooks := .later }
def LratextCutsCardSaid : Prop := Claim7.holds Tryd.pinned (.plain (OpenSpec.ofChange lratextCutsSpec)) lratextCutsCard

/-- THE TIED CARD OF 'salvorlaw07.LratextBack'. -/
def lratextBackCard : Claim7 := { stood := { row := lratextBackRow, standIns := [], harness := (true, "3c43e8fa3b7dd328f45f19aa33238e9a4d08939814615c37b0de859b71edd597"), looks := true }, kinds := [], alts := [], laidByText := true, laidKinds := [.data, .data, .data, .data, .sentinel, .sentinel, .pinned], laidTests := true, laidLooks := .later }
def LratextBackCardSaid : Prop := Claim7.holds Tryd.pinned (.plain (OpenSpec.ofChange lratextBackSpec)) lratextBackCard

/-- THE SECOND FORM's CARD OF 'salvorlaw07.LratextReads'. -/
def lratextReadsUptoCard : Claim7 := { stood := { row := lratextReadsUptoRow, standIns := [], harness := (true, "3c43e8fa3b7dd328f45f19aa33238e9a4d08939814615c37b0de859b71edd597"), looks := true }, kinds := [], alts := [], laidByText := true, laidKinds := [.data, .data, .data, .data, .sentinel, .sentinel, .pinned], laidTests := true, laidLooks := .later }
def LratextReadsUptoCardSaid : Prop := Claim7.holds Tryd.pinned (.plain (OpenSpec.upto lratextReadsSpec)) lratextReadsUptoCard

/-- THE SECOND FORM's CARD OF 'salvorlaw07.LratextOrder'. -/
def lratextOrderUptoCard : Claim7 := { stood := { row := lratextOrderUptoRow, standIns := [], harness := (true, "3c43e8fa3b7dd328f45f19aa33238e9a4d08939814615c37b0de859b71edd597"), looks := true }, kinds := [], alts := [], laidByText := true, laidKinds := [.data, .data, .data, .data, .sentinel, .sentinel, .pinned], laidTests := true, laidLooks := .later }
def LratextOrderUptoCardSaid : Prop := Claim7.holds Tryd.pinned (.plain (OpenSpec.upto lratextOrderSpec)) lratextOrderUptoCard

/-- THE SECOND FORM's CARD OF 'salvorlaw07.LratextLines'. -/
def lratextLinesUptoCard : Claim7 := { stood := { row := lratextLinesUptoRow, standIns := [], harness := (true, "3c43e8fa3b7dd328f45f19aa33238e9a4d08939814615c37b0de859b71edd597"), looks := true }, kinds := [], alts := [], laidByText := true, laidKinds := [.data, .data, .data, .data, .sentinel, .sentinel, .pinned], laidTests := true, laidLooks := .later }
def LratextLinesUptoCardSaid : Prop := Claim7.holds Tryd.pinned (.plain (OpenSpec.upto lratextLinesSpec)) lratextLinesUptoCard

/-- THE SECOND FORM's CARD OF 'salvorlaw07.LratextWrong'. -/
def lratextWrongUptoCard : Claim7 := { stood := { row := lratextWrongUptoRow, standIns := [], harness := (true, "3c43e8fa3b7dd328f45f19aa33238e9a4d08939814615c37b0de859b71edd597"), looks := true }, kinds := [], alts := [], laidByText := true, laidKinds := [.data, .data, .data, .data, .sentinel, .sentinel, .pinned], laidTests := true, laidLooks := .later }
def LratextWrongUptoCardSaid : Prop := Claim7.holds Tryd.pinned (.plain (OpenSpec.upto lratextWrongSpec)) lratextWrongUptoCard

/-- THE SECOND FORM's CARD OF 'salvorlaw07.LratextCuts'. -/
def lratextCutsUptoCard : Claim7 := { stood := { row := lratextCutsUptoRow, standIns := [], harness := (true, "3c43e8fa3b7dd328f45f19aa33238e9a4d08939814615c37b0de859b71edd597"), looks := true }, kinds := [], alts := [], laidByText := true, laidKinds := [.data, .data, .data, .data, .sentinel, .sentinel, .pinned], laidTests := true, laidLooks := .later }
def LratextCutsUptoCardSaid : Prop := Claim7.holds Tryd.pinned (.plain (OpenSpec.upto lratextCutsSpec)) lratextCutsUptoCard

/-- THE SECOND FORM's CARD OF 'salvorlaw07.LratextBack'. -/
def lratextBackUptoCard : Claim7 := { stood := { row := lratextBackUptoRow, standIns := [], harness := (true, "3c43e8fa3b7dd328f45f19aa33238e9a4d08939814615c37b0de859b71edd597"), looks := true }, kinds := [], alts := [], laidByText := true, laidKinds := [.data, .data, .data, .data, .sentinel, .sentinel, .pinned], laidTests := true, laidLooks := .later }
def LratextBackUptoCardSaid : Prop := Claim7.holds Tryd.pinned (.plain (OpenSpec.upto lratextBackSpec)) lratextBackUptoCard
end Rows
end Go.Proofs.YteglgcfbmjlnkaaDoor
