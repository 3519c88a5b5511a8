/-
  DERIVED. GIVEN WITH THE SEED: THE CARDS: each row of YtondomklkapogaaGreatDoorRows.lean that lists a variable, with what it lists TIED to the program's text (the seventh form; the later family's looks); each row that meets fmt, with fmt's text TOLD by the authors' own Lean function (tested against real Go, not proved from fmt's source: count such statements apart). THE CARD IS WHAT COUNTS. Prove the row's statement (the work); the ties are given (YtondomklkapogaaGreatDoorTie.lean); close each card by the builder's one call (the guide's Derived/Test/ToyasCard.lean, 'card_holds'). Laid BY PROGRAM, IN A SANDBOX (cutbox-door.mjs). By AI agents, Wed Nov 11 2026. No macro, syntax, notation, axiom, sorry.
-/
import Derived.Test.YtondomklkapogaaGreatDoorRows
import GoSem.ClaimSeven
namespace Go.Proofs.YtondomklkapogaaGreatDoor
namespace Rows

/-- THE TIED CARD OF 'lyceumlaw36.JournalTells'. -/
def journalTellsCard : Claim7 := { stood := { row := journalTellsRow, standIns := [], harness := (true, "ad4db8e689e38c0d0296a3d00c816162b4cc2d85c0ef44b32ff3d55651846d88"), looks := true }, kinds := [], alts := [], laidByText := true, laidKinds := [.data], laidTests := true, laidLooks := .later }
def JournalTellsCardSaid : Prop := Claim7.holds Tryz.pinned (.plain (OpenSpec.ofChange journalTellsSpec)) journalTellsCard

/-- THE TIED CARD OF 'lyceumlaw36.JournalOpens'. -/
def journalOpensCard : Claim7 := { stood := { row := journalOpensRow, standIns := [], harness := (true, "ad4db8e689e38c0d0296a3d00c816162b4cc2d85c0ef44b32ff3d55651846d88"), looks := true }, kinds := [], alts := [], laidByText := true, laidKinds := [.data], laidTests := true, laidLooks := .later }
def JournalOpensCardSaid : Prop := Claim7.holds Tryz.pinned (.plain (OpenSpec.ofChange journalOpensSpec)) journalOpensCard

/-- THE TIED CARD OF 'lyceumlaw36.JournalSmall'. -/
def journalSmallCard : Claim7 := { stood := { row := journalSmallRow, standIns := [], harness := (true, "ad4db8e689e38c0d0296a3d00c816162b4cc2d85c0ef44b32ff3d55651846d88"), looks := true }, kinds := [], alts := [], laidByText := true, laidKinds := [.data], laidTests := true, laidLooks := .later }
def JournalSmallCardSaid : Prop := Claim7.holds Tryz.pinned (.plain (OpenSpec.ofChange journalSmallSpec)) journalSmallCard

/-- THE SECOND FORM's CARD OF 'lyceumlaw36.JournalTells'. -/
def journalTellsUptoCard : Claim7 := { stood := { row := journalTellsUptoRow, standIns := [], harness := (true, "ad4db8e689e38c0d0296a3d00c816162b4cc2d85c0ef44b32ff3d55651846d88"), looks := true }, kinds := [], alts := [], laidByText := true, laidKinds := [.data], laidTests := true, laidLooks := .later }
def JournalTellsUptoCardSaid : Prop := Claim7.holds Tryz.pinned (.plain (OpenSpec.upto journalTellsSpec)) journalTellsUptoCard

/-- THE SECOND FORM's CARD OF 'lyceumlaw36.JournalOpens'. -/
def journalOpensUptoCard : Claim7 := { stood := { row := journalOpensUptoRow, standIns := [], harness := (true, "ad4db8e689e38c0d0296a3d00c816162b4cc2d85c0ef44b32ff3d55651846d88"), looks := true }, kinds := [], alts := [], laidByText := true, laidKinds := [.data], laidTests := true, laidLooks := .later }
def JournalOpensUptoCardSaid : Prop := Claim7.holds Tryz.pinned (.plain (OpenSpec.upto journalOpensSpec)) journalOpensUptoCard

/-- THE SECOND FORM's CARD OF 'lyceumlaw36.JournalSmall'. -/
def journalSmallUptoCard : Claim7 := { stood := { row := journalSmallUptoRow, standIns := [], harness := (true, "ad4db8e689e38c0d0296a3d00c816162b4cc2d85c0ef44b32ff3d55651846d88"), looks := true }, kinds := [], alts := [], laidByText := true, laidKinds := [.data], laidTests := true, laidLooks := .later }
def JournalSmallUptoCardSaid : Prop := Claim7.holds Tryz.pinned (.plain (OpenSpec.upto journalSmallSpec)) journalSmallUptoCard
end Rows
end Go.Proofs.YtondomklkapogaaGreatDoor
