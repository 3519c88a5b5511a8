/-
  DERIVED. GIVEN WITH THE SEED: THE CARDS: each row of YtondomklkapogaaDoorRows.lean that lists a variable, with what it lists TIED to the program's text (the seventh form; the later family's looks); each row that meets fmt, with fmt's text TOLD by the authors' own Lean function (tested against real Go, not proved from fmt's source: count such statements apart). THE CARD IS WHAT COUNTS. Prove the row's statement (the work); the ties are given (YtondomklkapogaaDoorTie.lean); close each card by the builder's one call (the guide's Derived/Test/ToyasCard.lean, 'card_holds'). Laid BY PROGRAM, IN A SANDBOX (cutbox-door.mjs). By AI agents, Wed Nov 11 2026. No macro, syntax, notation, axiom, sorry.
-/
import Derived.Test.YtondomklkapogaaDoorRows
import GoSem.ClaimSeven
namespace Go.Proofs.YtondomklkapogaaDoor
namespace Rows

/-- THE TIED CARD OF 'lyceumlaw36.JournalKeeps'. -/
def journalKeepsCard : Claim7 := { stood := { row := journalKeepsRow, standIns := [], harness := (true, "ec2b0d006dbd7a0d522234599f2cc6d89e738fb69d41e70321d2361ed92a7bf4"), looks := true }, kinds := [], alts := [], laidByText := true, laidKinds := [.data], laidTests := true, laidLooks := .later }
def JournalKeepsCardSaid : Prop := Claim7.holds Tryd.pinned (.plain (OpenSpec.ofChange journalKeepsSpec)) journalKeepsCard

/-- THE TIED CARD OF 'lyceumlaw36.JournalTorn'. -/
def journalTornCard : Claim7 := { stood := { row := journalTornRow, standIns := [], harness := (true, "ec2b0d006dbd7a0d522234599f2cc6d89e738fb69d41e70321d2361ed92a7bf4"), looks := true }, kinds := [], alts := [], laidByText := true, laidKinds := [.data], laidTests := true, laidLooks := .later }
def JournalTornCardSaid : Prop := Claim7.holds Tryd.pinned (.plain (OpenSpec.ofChange journalTornSpec)) journalTornCard

/-- THE TIED CARD OF 'lyceumlaw36.JournalFlips'. -/
def journalFlipsCard : Claim7 := { stood := { row := journalFlipsRow, standIns := [], harness := (true, "ec2b0d006dbd7a0d522234599f2cc6d89e738fb69d41e70321d2361ed92a7bf4"), looks := true }, kinds := [], alts := [], laidByText := true, laidKinds := [.data], laidTests := true, laidLooks := .later }
def JournalFlipsCardSaid : Prop := Claim7.holds Tryd.pinned (.plain (OpenSpec.ofChange journalFlipsSpec)) journalFlipsCard

/-- THE TIED CARD OF 'lyceumlaw36.JournalLong'. -/
def journalLongCard : Claim7 := { stood := { row := journalLongRow, standIns := [], harness := (true, "ec2b0d006dbd7a0d522234599f2cc6d89e738fb69d41e70321d2361ed92a7bf4"), looks := true }, kinds := [], alts := [], laidByText := true, laidKinds := [.data], laidTests := true, laidLooks := .later }
def JournalLongCardSaid : Prop := Claim7.holds Tryd.pinned (.plain (OpenSpec.ofChange journalLongSpec)) journalLongCard

/-- THE TIED CARD OF 'lyceumlaw36.JournalCompacts'. -/
def journalCompactsCard : Claim7 := { stood := { row := journalCompactsRow, standIns := [], harness := (true, "ec2b0d006dbd7a0d522234599f2cc6d89e738fb69d41e70321d2361ed92a7bf4"), looks := true }, kinds := [], alts := [], laidByText := true, laidKinds := [.data], laidTests := true, laidLooks := .later }
def JournalCompactsCardSaid : Prop := Claim7.holds Tryd.pinned (.plain (OpenSpec.ofChange journalCompactsSpec)) journalCompactsCard

/-- THE TIED CARD OF 'lyceumlaw36.JournalBatch'. -/
def journalBatchCard : Claim7 := { stood := { row := journalBatchRow, standIns := [], harness := (true, "ec2b0d006dbd7a0d522234599f2cc6d89e738fb69d41e70321d2361ed92a7bf4"), looks := true }, kinds := [], alts := [], laidByText := true, laidKinds := [.data], laidTests := true, laidLooks := .later }
def JournalBatchCardSaid : Prop := Claim7.holds Tryd.pinned (.plain (OpenSpec.ofChange journalBatchSpec)) journalBatchCard

/-- THE TIED CARD OF 'lyceumlaw36.JournalWrong'. -/
def journalWrongCard : Claim7 := { stood := { row := journalWrongRow, standIns := [], harness := (true, "ec2b0d006dbd7a0d522234599f2cc6d89e738fb69d41e70321d2361ed92a7bf4"), looks := true }, kinds := [], alts := [], laidByText := true, laidKinds := [.data], laidTests := true, laidLooks := .later }
def JournalWrongCardSaid : Prop := Claim7.holds Tryd.pinned (.plain (OpenSpec.ofChange journalWrongSpec)) journalWrongCard

/-- THE SECOND FORM's CARD OF 'lyceumlaw36.JournalKeeps'. -/
def journalKeepsUptoCard : Claim7 := { stood := { row := journalKeepsUptoRow, standIns := [], harness := (true, "ec2b0d006dbd7a0d522234599f2cc6d89e738fb69d41e70321d2361ed92a7bf4"), looks := true }, kinds := [], alts := [], laidByText := true, laidKinds := [.data], laidTests := true, laidLooks := .later }
def JournalKeepsUptoCardSaid : Prop := Claim7.holds Tryd.pinned (.plain (OpenSpec.upto journalKeepsSpec)) journalKeepsUptoCard

/-- THE SECOND FORM's CARD OF 'lyceumlaw36.JournalTorn'. -/
def journalTornUptoCard : Claim7 := { stood := { row := journalTornUptoRow, standIns := [], harness := (true, "ec2b0d006dbd7a0d522234599f2cc6d89e738fb69d41e70321d2361ed92a7bf4"), looks := true }, kinds := [], alts := [], laidByText := true, laidKinds := [.data], laidTests := true, laidLooks := .later }
def JournalTornUptoCardSaid : Prop := Claim7.holds Tryd.pinned (.plain (OpenSpec.upto journalTornSpec)) journalTornUptoCard

/-- THE SECOND FORM's CARD OF 'lyceumlaw36.JournalFlips'. -/
def journalFlipsUptoCard : Claim7 := { stood := { row := journalFlipsUptoRow, standIns := [], harness := (true, "ec2b0d006dbd7a0d522234599f2cc6d89e738fb69d41e70321d2361ed92a7bf4"), looks := true }, kinds := [], alts := [], laidByText := true, laidKinds := [.data], laidTests := true, laidLooks := .later }
def JournalFlipsUptoCardSaid : Prop := Claim7.holds Tryd.pinned (.plain (OpenSpec.upto journalFlipsSpec)) journalFlipsUptoCard

/-- THE SECOND FORM's CARD OF 'lyceumlaw36.JournalLong'. -/
def journalLongUptoCard : Claim7 := { stood := { row := journalLongUptoRow, standIns := [], harness := (true, "ec2b0d006dbd7a0d522234599f2cc6d89e738fb69d41e70321d2361ed92a7bf4"), looks := true }, kinds := [], alts := [], laidByText := true, laidKinds := [.data], laidTests := true, laidLooks := .later }
def JournalLongUptoCardSaid : Prop := Claim7.holds Tryd.pinned (.plain (OpenSpec.upto journalLongSpec)) journalLongUptoCard

/-- THE SECOND FORM's CARD OF 'lyceumlaw36.JournalCompacts'. -/
def journalCompactsUptoCard : Claim7 := { stood := { row := journalCompactsUptoRow, standIns := [], harness := (true, "ec2b0d006dbd7a0d522234599f2cc6d89e738fb69d41e70321d2361ed92a7bf4"), looks := true }, kinds := [], alts := [], laidByText := true, laidKinds := [.data], laidTests := true, laidLooks := .later }
def JournalCompactsUptoCardSaid : Prop := Claim7.holds Tryd.pinned (.plain (OpenSpec.upto journalCompactsSpec)) journalCompactsUptoCard

/-- THE SECOND FORM's CARD OF 'lyceumlaw36.JournalBatch'. -/
def journalBatchUptoCard : Claim7 := { stood := { row := journalBatchUptoRow, standIns := [], harness := (true, "ec2b0d006dbd7a0d522234599f2cc6d89e738fb69d41e70321d2361ed92a7bf4"), looks := true }, kinds := [], alts := [], laidByText := true, laidKinds := [.data], laidTests := true, laidLooks := .later }
def JournalBatchUptoCardSaid : Prop := Claim7.holds Tryd.pinned (.plain (OpenSpec.upto journalBatchSpec)) journalBatchUptoCard

/-- THE SECOND FORM's CARD OF 'lyceumlaw36.JournalWrong'. -/
def journalWrongUptoCard : Claim7 := { stood := { row := journalWrongUptoRow, standIns := [], harness := (true, "ec2b0d006dbd7a0d522234599f2cc6d89e738fb69d41e70321d2361ed92a7bf4"), looks := true }, kinds := [], alts := [], laidByText := true, laidKinds := [.data], laidTests := true, laidLooks := .later }
def JournalWrongUptoCardSaid : Prop := Claim7.holds Tryd.pinned (.plain (OpenSpec.upto journalWrongSpec)) journalWrongUptoCard
end Rows
end Go.Proofs.YtondomklkapogaaDoor
