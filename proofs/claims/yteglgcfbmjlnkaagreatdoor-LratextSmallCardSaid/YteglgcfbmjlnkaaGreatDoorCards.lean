/-
  DERIVED. GIVEN WITH THE SEED: THE CARDS: each row of YteglgcfbmjlnkaaGreatDoorRows.lean that lists a variable, with what it lists TIED to the program's text (the seventh form; the later family's looks); each row that meets fmt, with fmt's text TOLD by the authors' own Lean function (tested against real Go, not proved from fmt's source: count such statements apart). THE CARD IS WHAT COUNTS. Prove the row's statement (the work); the ties are given (YteglgcfbmjlnkaaGreatDoorTie.lean); close each card by the builder's one call (the guide's Derived/Test/ToyasCard.lean, 'card_holds'). Laid BY PROGRAM, IN A SANDBOX (cutbox-door.mjs). By AI agents, Wed Nov 11 2026. No macro, syntax, notation, axiom, sorry.
-/
import Derived.Test.YteglgcfbmjlnkaaGreatDoorRows
import GoSem.ClaimSeven
namespace Go.Proofs.YteglgcfbmjlnkaaGreatDoor
namespace Rows

/-- THE TIED CARD OF 'salvorlaw07.LratextTells'. -/
def lratextTellsCard : Claim7 := { stood := { row := lratextTellsRow, standIns := [], harness := (true, "10207d70f3a0039c750e14c14b048975c42908a4f2043d8b556d4d7faa579d1d"), looks := true }, kinds := [], alts := [], laidByText := true, laidKinds := [.data, .data, .data, .data, .sentinel, .sentinel, .pinned], laidTests := true, laidLooks := .later }
def LratextTellsCardSaid : Prop := Claim7.holds Tryz.pinned (.plain (OpenSpec.ofChange lratextTellsSpec)) lratextTellsCard

/-- THE TIED CARD OF 'salvorlaw07.LratextSmall'. -/
def lratextSmallCard : Claim7 := { stood := { row := lratextSmallRow, standIns := [], harness := (true, "10207d70f3a0039c750e14c14b048975c42908a4f2043d8b556d4d7faa579d1d"), looks := true }, kinds := [], alts := [], laidByText := true, laidKinds := [.data, .data, .data, .data, .sentinel, .sentinel, .pinned], laidTests := true, laidLooks := .later }
def LratextSmallCardSaid : Prop := Claim7.holds Tryz.pinned (.plain (OpenSpec.ofChange lratextSmallSpec)) lratextSmallCard

/-- THE SECOND FORM's CARD OF 'salvorlaw07.LratextTells'. -/
def lratextTellsUptoCard : Claim7 := { stood := { row := lratextTellsUptoRow, standIns := [], harness := (true, "10207d70f3a0039c750e14c14b048975c42908a4f2043d8b556d4d7faa579d1d"), looks := true }, kinds := [], alts := [], laidByText := true, laidKinds := [.data, .data, .data, .data, .sentinel, .sentinel, .pinned], laidTests := true, laidLooks := .later }
def LratextTellsUptoCardSaid : Prop := Claim7.holds Tryz.pinned (.plain (OpenSpec.upto lratextTellsSpec)) lratextTellsUptoCard

/-- THE SECOND FORM's CARD OF 'salvorlaw07.LratextSmall'. -/
def lratextSmallUptoCard : Claim7 := { stood := { row := lratextSmallUptoRow, standIns := [], harness := (true, "10207d70f3a0039c750e14c14b048975c42908a4f2043d8b556d4d7faa579d1d"), looks := true }, kinds := [], alts := [], laidByText := true, laidKinds := [.data, .data, .data, .data, .sentinel, .sentinel, .pinned], laidTests := true, laidLooks := .later }
def LratextSmallUptoCardSaid : Prop := Claim7.holds Tryz.pinned (.plain (OpenSpec.upto lratextSmallSpec)) lratextSmallUptoCard
end Rows
end Go.Proofs.YteglgcfbmjlnkaaGreatDoor
