/-
  DERIVED. GIVEN WITH THE SEED: THE CARDS: each row of YtbcfpdlhieaepaaGreatDoorRows.lean that lists a variable, with what it lists TIED to the program's text (the seventh form; the later family's looks); each row that meets fmt, with fmt's text TOLD by the authors' own Lean function (tested against real Go, not proved from fmt's source: count such statements apart). THE CARD IS WHAT COUNTS. Prove the row's statement (the work); the ties are given (YtbcfpdlhieaepaaGreatDoorTie.lean); close each card by the builder's one call (the guide's Derived/Test/ToyasCard.lean, 'card_holds'). Laid BY PROGRAM, IN A SANDBOX (cutbox-door.mjs). By AI agents, Wed Nov 11 2026. No macro, syntax, notation, axiom, sorry.
-/
import Derived.Test.YtbcfpdlhieaepaaGreatDoorRows
import GoSem.ClaimSeven
namespace Go.Proofs.YtbcfpdlhieaepaaGreatDoor
namespace Rows

/-- THE TIED CARD OF 'lyceumlaw37.SchoolAgain'. -/
def schoolAgainCard : Claim7 := { stood := { row := schoolAgainRow, standIns := [], harness := (true, "90182da7eddbaefc52769742a303a0bc82eeaa1ecdb0f3a6ae38f94655338167"), looks := true }, kinds := [], alts := [], laidByText := true, laidKinds := [.data], laidTests := true, laidLooks := .later }
def SchoolAgainCardSaid : Prop := Claim7.holds Tryz.pinned (.plain (OpenSpec.ofChange schoolAgainSpec)) schoolAgainCard

/-- THE TIED CARD OF 'lyceumlaw37.SchoolWrong'. -/
def schoolWrongCard : Claim7 := { stood := { row := schoolWrongRow, standIns := [], harness := (true, "90182da7eddbaefc52769742a303a0bc82eeaa1ecdb0f3a6ae38f94655338167"), looks := true }, kinds := [], alts := [], laidByText := true, laidKinds := [.data], laidTests := true, laidLooks := .later }
def SchoolWrongCardSaid : Prop := Claim7.holds Tryz.pinned (.plain (OpenSpec.ofChange schoolWrongSpec)) schoolWrongCard

/-- THE TIED CARD OF 'lyceumlaw37.SchoolApart'. -/
def schoolApartCard : Claim7 := { stood := { row := schoolApartRow, standIns := [], harness := (true, "90182da7eddbaefc52769742a303a0bc82eeaa1ecdb0f3a6ae38f94655338167"), looks := true }, kinds := [], alts := [], laidByText := true, laidKinds := [.data], laidTests := true, laidLooks := .later }
def SchoolApartCardSaid : Prop := Claim7.holds Tryz.pinned (.plain (OpenSpec.ofChange schoolApartSpec)) schoolApartCard

/-- THE TIED CARD OF 'lyceumlaw37.SchoolKeeps'. -/
def schoolKeepsCard : Claim7 := { stood := { row := schoolKeepsRow, standIns := [], harness := (true, "90182da7eddbaefc52769742a303a0bc82eeaa1ecdb0f3a6ae38f94655338167"), looks := true }, kinds := [], alts := [], laidByText := true, laidKinds := [.data], laidTests := true, laidLooks := .later }
def SchoolKeepsCardSaid : Prop := Claim7.holds Tryz.pinned (.plain (OpenSpec.ofChange schoolKeepsSpec)) schoolKeepsCard

/-- THE TIED CARD OF 'lyceumlaw37.SchoolRules'. -/
def schoolRulesCard : Claim7 := { stood := { row := schoolRulesRow, standIns := [], harness := (true, "90182da7eddbaefc52769742a303a0bc82eeaa1ecdb0f3a6ae38f94655338167"), looks := true }, kinds := [], alts := [], laidByText := true, laidKinds := [.data], laidTests := true, laidLooks := .later }
def SchoolRulesCardSaid : Prop := Claim7.holds Tryz.pinned (.plain (OpenSpec.ofChange schoolRulesSpec)) schoolRulesCard

/-- THE TIED CARD OF 'lyceumlaw37.SchoolFixed'. -/
def schoolFixedCard : Claim7 := { stood := { row := schoolFixedRow, standIns := [], harness := (true, "90182da7eddbaefc52769742a303a0bc82eeaa1ecdb0f3a6ae38f94655338167"), looks := true }, kinds := [], alts := [], laidByText := true, laidKinds := [.data], laidTests := true, laidLooks := .later }
def SchoolFixedCardSaid : Prop := Claim7.holds Tryz.pinned (.plain (OpenSpec.ofChange schoolFixedSpec)) schoolFixedCard

/-- THE TIED CARD OF 'lyceumlaw37.SchoolOpens'. -/
def schoolOpensCard : Claim7 := { stood := { row := schoolOpensRow, standIns := [], harness := (true, "90182da7eddbaefc52769742a303a0bc82eeaa1ecdb0f3a6ae38f94655338167"), looks := true }, kinds := [], alts := [], laidByText := true, laidKinds := [.data], laidTests := true, laidLooks := .later }
def SchoolOpensCardSaid : Prop := Claim7.holds Tryz.pinned (.plain (OpenSpec.ofChange schoolOpensSpec)) schoolOpensCard

/-- THE TIED CARD OF 'lyceumlaw37.SchoolSmall'. -/
def schoolSmallCard : Claim7 := { stood := { row := schoolSmallRow, standIns := [], harness := (true, "90182da7eddbaefc52769742a303a0bc82eeaa1ecdb0f3a6ae38f94655338167"), looks := true }, kinds := [], alts := [], laidByText := true, laidKinds := [.data], laidTests := true, laidLooks := .later }
def SchoolSmallCardSaid : Prop := Claim7.holds Tryz.pinned (.plain (OpenSpec.ofChange schoolSmallSpec)) schoolSmallCard

/-- THE SECOND FORM's CARD OF 'lyceumlaw37.SchoolAgain'. -/
def schoolAgainUptoCard : Claim7 := { stood := { row := schoolAgainUptoRow, standIns := [], harness := (true, "90182da7eddbaefc52769742a303a0bc82eeaa1ecdb0f3a6ae38f94655338167"), looks := true }, kinds := [], alts := [], laidByText := true, laidKinds := [.data], laidTests := true, laidLooks := .later }
def SchoolAgainUptoCardSaid : Prop := Claim7.holds Tryz.pinned (.plain (OpenSpec.upto schoolAgainSpec)) schoolAgainUptoCard

/-- THE SECOND FORM's CARD OF 'lyceumlaw37.SchoolWrong'. -/
def schoolWrongUptoCard : Claim7 := { stood := { row := schoolWrongUptoRow, standIns := [], harness := (true, "90182da7eddbaefc52769742a303a0bc82eeaa1ecdb0f3a6ae38f94655338167"), looks := true }, kinds := [], alts := [], laidByText := true, laidKinds := [.data], laidTests := true, laidLooks := .later }
def SchoolWrongUptoCardSaid : Prop := Claim7.holds Tryz.pinned (.plain (OpenSpec.upto schoolWrongSpec)) schoolWrongUptoCard

/-- THE SECOND FORM's CARD OF 'lyceumlaw37.SchoolApart'. -/
def schoolApartUptoCard : Claim7 := { stood := { row := schoolApartUptoRow, standIns := [], harness := (true, "90182da7eddbaefc52769742a303a0bc82eeaa1ecdb0f3a6ae38f94655338167"), looks := true }, kinds := [], alts := [], laidByText := true, laidKinds := [.data], laidTests := true, laidLooks := .later }
def SchoolApartUptoCardSaid : Prop := Claim7.holds Tryz.pinned (.plain (OpenSpec.upto schoolApartSpec)) schoolApartUptoCard

/-- THE SECOND FORM's CARD OF 'lyceumlaw37.SchoolKeeps'. -/
def schoolKeepsUptoCard : Claim7 := { stood := { row := schoolKeepsUptoRow, standIns := [], harness := (true, "90182da7eddbaefc52769742a303a0bc82eeaa1ecdb0f3a6ae38f94655338167"), looks := true }, kinds := [], alts := [], laidByText := true, laidKinds := [.data], laidTests := true, laidLooks := .later }
def SchoolKeepsUptoCardSaid : Prop := Claim7.holds Tryz.pinned (.plain (OpenSpec.upto schoolKeepsSpec)) schoolKeepsUptoCard

/-- THE SECOND FORM's CARD OF 'lyceumlaw37.SchoolRules'. -/
def schoolRulesUptoCard : Claim7 := { stood := { row := schoolRulesUptoRow, standIns := [], harness := (true, "90182da7eddbaefc52769742a303a0bc82eeaa1ecdb0f3a6ae38f94655338167"), looks := true }, kinds := [], alts := [], laidByText := true, laidKinds := [.data], laidTests := true, laidLooks := .later }
def SchoolRulesUptoCardSaid : Prop := Claim7.holds Tryz.pinned (.plain (OpenSpec.upto schoolRulesSpec)) schoolRulesUptoCard

/-- THE SECOND FORM's CARD OF 'lyceumlaw37.SchoolFixed'. -/
def schoolFixedUptoCard : Claim7 := { stood := { row := schoolFixedUptoRow, standIns := [], harness := (true, "90182da7eddbaefc52769742a303a0bc82eeaa1ecdb0f3a6ae38f94655338167"), looks := true }, kinds := [], alts := [], laidByText := true, laidKinds := [.data], laidTests := true, laidLooks := .later }
def SchoolFixedUptoCardSaid : Prop := Claim7.holds Tryz.pinned (.plain (OpenSpec.upto schoolFixedSpec)) schoolFixedUptoCard

/-- THE SECOND FORM's CARD OF 'lyceumlaw37.SchoolOpens'. -/
def schoolOpensUptoCard : Claim7 := { stood := { row := schoolOpensUptoRow, standIns := [], harness := (true, "90182da7eddbaefc52769742a303a0bc82eeaa1ecdb0f3a6ae38f94655338167"), looks := true }, kinds := [], alts := [], laidByText := true, laidKinds := [.data], laidTests := true, laidLooks := .later }
def SchoolOpensUptoCardSaid : Prop := Claim7.holds Tryz.pinned (.plain (OpenSpec.upto schoolOpensSpec)) schoolOpensUptoCard

/-- THE SECOND FORM's CARD OF 'lyceumlaw37.SchoolSmall'. -/
def schoolSmallUptoCard : Claim7 := { stood := { row := schoolSmallUptoRow, standIns := [], harness := (true, "90182da7eddbaefc52769742a303a0bc82eeaa1ecdb0f3a6ae38f94655338167"), looks := true }, kinds := [], alts := [], laidByText := true, laidKinds := [.data], laidTests := true, laidLooks := .later }
def SchoolSmallUptoCardSaid : Prop := Claim7.holds Tryz.pinned (.plain (OpenSpec.upto schoolSmallSpec)) schoolSmallUptoCard
end Rows
end Go.Proofs.YtbcfpdlhieaepaaGreatDoor
