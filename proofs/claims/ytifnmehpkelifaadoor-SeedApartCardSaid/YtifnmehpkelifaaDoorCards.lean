/-
  DERIVED. GIVEN WITH THE SEED: THE CARDS: each row of YtifnmehpkelifaaDoorRows.lean that lists a variable, with what it lists TIED to the program's text (the seventh form; the later family's looks); each row that meets fmt, with fmt's text TOLD by the authors' own Lean function (tested against real Go, not proved from fmt's source: count such statements apart). THE CARD IS WHAT COUNTS. Prove the row's statement (the work); the ties are given (YtifnmehpkelifaaDoorTie.lean); close each card by the builder's one call (the guide's Derived/Test/ToyasCard.lean, 'card_holds'). Laid BY PROGRAM, IN A SANDBOX (cutbox-door.mjs). By AI agents, Wed Nov 11 2026. No macro, syntax, notation, axiom, sorry.
-/
import Derived.Test.YtifnmehpkelifaaDoorRows
import GoSem.ClaimSeven
namespace Go.Proofs.YtifnmehpkelifaaDoor
namespace Rows

/-- THE TIED CARD OF 'lyceumlaw01.SeedDraws'. -/
def seedDrawsCard : Claim7 := { stood := { row := seedDrawsRow, standIns := [], harness := (true, "c1e8785ae044d8eed4fb75bd9ea93895bd3c865b33ef7c6e9255b4ca61e32780"), looks := false }, kinds := [], alts := [], laidByText := true, laidKinds := [.data], laidTests := true, laidLooks := .later }
def SeedDrawsCardSaid : Prop := Claim7.holds Tryd.pinned (.plain (OpenSpec.ofChange seedDrawsSpec)) seedDrawsCard

/-- THE TIED CARD OF 'lyceumlaw01.SeedWeighs'. -/
def seedWeighsCard : Claim7 := { stood := { row := seedWeighsRow, standIns := [], harness := (true, "c1e8785ae044d8eed4fb75bd9ea93895bd3c865b33ef7c6e9255b4ca61e32780"), looks := false }, kinds := [], alts := [], laidByText := true, laidKinds := [.data], laidTests := true, laidLooks := .later }
def SeedWeighsCardSaid : Prop := Claim7.holds Tryd.pinned (.plain (OpenSpec.ofChange seedWeighsSpec)) seedWeighsCard

/-- THE TIED CARD OF 'lyceumlaw01.SeedFair'. -/
def seedFairCard : Claim7 := { stood := { row := seedFairRow, standIns := [], harness := (true, "c1e8785ae044d8eed4fb75bd9ea93895bd3c865b33ef7c6e9255b4ca61e32780"), looks := false }, kinds := [], alts := [], laidByText := true, laidKinds := [.data], laidTests := true, laidLooks := .later }
def SeedFairCardSaid : Prop := Claim7.holds Tryd.pinned (.plain (OpenSpec.ofChange seedFairSpec)) seedFairCard

/-- THE TIED CARD OF 'lyceumlaw01.SeedSteps'. -/
def seedStepsCard : Claim7 := { stood := { row := seedStepsRow, standIns := [], harness := (true, "c1e8785ae044d8eed4fb75bd9ea93895bd3c865b33ef7c6e9255b4ca61e32780"), looks := false }, kinds := [], alts := [], laidByText := true, laidKinds := [.data], laidTests := true, laidLooks := .later }
def SeedStepsCardSaid : Prop := Claim7.holds Tryd.pinned (.plain (OpenSpec.ofChange seedStepsSpec)) seedStepsCard

/-- THE TIED CARD OF 'lyceumlaw01.SeedLists'. -/
def seedListsCard : Claim7 := { stood := { row := seedListsRow, standIns := [], harness := (true, "c1e8785ae044d8eed4fb75bd9ea93895bd3c865b33ef7c6e9255b4ca61e32780"), looks := false }, kinds := [], alts := [], laidByText := true, laidKinds := [.data], laidTests := true, laidLooks := .later }
def SeedListsCardSaid : Prop := Claim7.holds Tryd.pinned (.plain (OpenSpec.ofChange seedListsSpec)) seedListsCard

/-- THE TIED CARD OF 'lyceumlaw01.SeedWrong'. -/
def seedWrongCard : Claim7 := { stood := { row := seedWrongRow, standIns := [], harness := (true, "c1e8785ae044d8eed4fb75bd9ea93895bd3c865b33ef7c6e9255b4ca61e32780"), looks := false }, kinds := [], alts := [], laidByText := true, laidKinds := [.data], laidTests := true, laidLooks := .later }
def SeedWrongCardSaid : Prop := Claim7.holds Tryd.pinned (.plain (OpenSpec.ofChange seedWrongSpec)) seedWrongCard

/-- THE TIED CARD OF 'lyceumlaw01.SeedTells'. -/
def seedTellsCard : Claim7 := { stood := { row := seedTellsRow, standIns := [], harness := (true, "c1e8785ae044d8eed4fb75bd9ea93895bd3c865b33ef7c6e9255b4ca61e32780"), looks := false }, kinds := [], alts := [], laidByText := true, laidKinds := [.data], laidTests := true, laidLooks := .later }
def SeedTellsCardSaid : Prop := Claim7.holds Tryd.pinned (.plain (OpenSpec.ofChange seedTellsSpec)) seedTellsCard

/-- THE TIED CARD OF 'lyceumlaw01.SeedSmall'. -/
def seedSmallCard : Claim7 := { stood := { row := seedSmallRow, standIns := [], harness := (true, "c1e8785ae044d8eed4fb75bd9ea93895bd3c865b33ef7c6e9255b4ca61e32780"), looks := false }, kinds := [], alts := [], laidByText := true, laidKinds := [.data], laidTests := true, laidLooks := .later }
def SeedSmallCardSaid : Prop := Claim7.holds Tryd.pinned (.plain (OpenSpec.ofChange seedSmallSpec)) seedSmallCard

/-- THE TIED CARD OF 'lyceumlaw01.SeedApart'. -/
def seedApartCard : Claim7 := { stood := { row := seedApartRow, standIns := [], harness := (true, "c1e8785ae044d8eed4fb75bd9ea93895bd3c865b33ef7c6e9255b4ca61e32780"), looks := false }, kinds := [], alts := [], laidByText := true, laidKinds := [.data], laidTests := true, laidLooks := .later }
def SeedApartCardSaid : Prop := Claim7.holds Tryd.pinned (.plain (OpenSpec.ofChange seedApartSpec)) seedApartCard

/-- THE SECOND FORM's CARD OF 'lyceumlaw01.SeedDraws'. -/
def seedDrawsUptoCard : Claim7 := { stood := { row := seedDrawsUptoRow, standIns := [], harness := (true, "c1e8785ae044d8eed4fb75bd9ea93895bd3c865b33ef7c6e9255b4ca61e32780"), looks := false }, kinds := [], alts := [], laidByText := true, laidKinds := [.data], laidTests := true, laidLooks := .later }
def SeedDrawsUptoCardSaid : Prop := Claim7.holds Tryd.pinned (.plain (OpenSpec.upto seedDrawsSpec)) seedDrawsUptoCard

/-- THE SECOND FORM's CARD OF 'lyceumlaw01.SeedWeighs'. -/
def seedWeighsUptoCard : Claim7 := { stood := { row := seedWeighsUptoRow, standIns := [], harness := (true, "c1e8785ae044d8eed4fb75bd9ea93895bd3c865b33ef7c6e9255b4ca61e32780"), looks := false }, kinds := [], alts := [], laidByText := true, laidKinds := [.data], laidTests := true, laidLooks := .later }
def SeedWeighsUptoCardSaid : Prop := Claim7.holds Tryd.pinned (.plain (OpenSpec.upto seedWeighsSpec)) seedWeighsUptoCard

/-- THE SECOND FORM's CARD OF 'lyceumlaw01.SeedFair'. -/
def seedFairUptoCard : Claim7 := { stood := { row := seedFairUptoRow, standIns := [], harness := (true, "c1e8785ae044d8eed4fb75bd9ea93895bd3c865b33ef7c6e9255b4ca61e32780"), looks := false }, kinds := [], alts := [], laidByText := true, laidKinds := [.data], laidTests := true, laidLooks := .later }
def SeedFairUptoCardSaid : Prop := Claim7.holds Tryd.pinned (.plain (OpenSpec.upto seedFairSpec)) seedFairUptoCard

/-- THE SECOND FORM's CARD OF 'lyceumlaw01.SeedSteps'. -/
def seedStepsUptoCard : Claim7 := { stood := { row := seedStepsUptoRow, standIns := [], harness := (true, "c1e8785ae044d8eed4fb75bd9ea93895bd3c865b33ef7c6e9255b4ca61e32780"), looks := false }, kinds := [], alts := [], laidByText := true, laidKinds := [.data], laidTests := true, laidLooks := .later }
def SeedStepsUptoCardSaid : Prop := Claim7.holds Tryd.pinned (.plain (OpenSpec.upto seedStepsSpec)) seedStepsUptoCard

/-- THE SECOND FORM's CARD OF 'lyceumlaw01.SeedLists'. -/
def seedListsUptoCard : Claim7 := { stood := { row := seedListsUptoRow, standIns := [], harness := (true, "c1e8785ae044d8eed4fb75bd9ea93895bd3c865b33ef7c6e9255b4ca61e32780"), looks := false }, kinds := [], alts := [], laidByText := true, laidKinds := [.data], laidTests := true, laidLooks := .later }
def SeedListsUptoCardSaid : Prop := Claim7.holds Tryd.pinned (.plain (OpenSpec.upto seedListsSpec)) seedListsUptoCard

/-- THE SECOND FORM's CARD OF 'lyceumlaw01.SeedWrong'. -/
def seedWrongUptoCard : Claim7 := { stood := { row := seedWrongUptoRow, standIns := [], harness := (true, "c1e8785ae044d8eed4fb75bd9ea93895bd3c865b33ef7c6e9255b4ca61e32780"), looks := false }, kinds := [], alts := [], laidByText := true, laidKinds := [.data], laidTests := true, laidLooks := .later }
def SeedWrongUptoCardSaid : Prop := Claim7.holds Tryd.pinned (.plain (OpenSpec.upto seedWrongSpec)) seedWrongUptoCard

/-- THE SECOND FORM's CARD OF 'lyceumlaw01.SeedTells'. -/
def seedTellsUptoCard : Claim7 := { stood := { row := seedTellsUptoRow, standIns := [], harness := (true, "c1e8785ae044d8eed4fb75bd9ea93895bd3c865b33ef7c6e9255b4ca61e32780"), looks := false }, kinds := [], alts := [], laidByText := true, laidKinds := [.data], laidTests := true, laidLooks := .later }
def SeedTellsUptoCardSaid : Prop := Claim7.holds Tryd.pinned (.plain (OpenSpec.upto seedTellsSpec)) seedTellsUptoCard

/-- THE SECOND FORM's CARD OF 'lyceumlaw01.SeedSmall'. -/
def seedSmallUptoCard : Claim7 := { stood := { row := seedSmallUptoRow, standIns := [], harness := (true, "c1e8785ae044d8eed4fb75bd9ea93895bd3c865b33ef7c6e9255b4ca61e32780"), looks := false }, kinds := [], alts := [], laidByText := true, laidKinds := [.data], laidTests := true, laidLooks := .later }
def SeedSmallUptoCardSaid : Prop := Claim7.holds Tryd.pinned (.plain (OpenSpec.upto seedSmallSpec)) seedSmallUptoCard

/-- THE SECOND FORM's CARD OF 'lyceumlaw01.SeedApart'. -/
def seedApartUptoCard : Claim7 := { stood := { row := seedApartUptoRow, standIns := [], harness := (true, "c1e8785ae044d8eed4fb75bd9ea93895bd3c865b33ef7c6e9255b4ca61e32780"), looks := false }, kinds := [], alts := [], laidByText := true, laidKinds := [.data], laidTests := true, laidLooks := .later }
def SeedApartUptoCardSaid : Prop := Claim7.holds Tryd.pinned (.plain (OpenSpec.upto seedApartSpec)) seedApartUptoCard
end Rows
end Go.Proofs.YtifnmehpkelifaaDoor
