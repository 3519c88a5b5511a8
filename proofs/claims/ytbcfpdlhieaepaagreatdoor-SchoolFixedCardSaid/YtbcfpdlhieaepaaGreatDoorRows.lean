/-
  NARROWER THAN 'FOR EVERY INPUT', by the rows' own cells (each row's printed sentence says how): SchoolAgain: laid · SchoolWrong: laid · SchoolApart: laid · SchoolKeeps: laid · SchoolRules: laid · SchoolFixed: laid · SchoolOpens: laid · SchoolSmall: laid.
  DERIVED. THE GIVEN ROWS OF THIS SEAT. 8 by the template 'for every input the law returns true; each argument reads behind the call as it read before'; 0 by the template 'total and deterministic' (their statements: YtbcfpdlhieaepaaGreatDoorTotals.lean).
  GIVEN WITH THE SEED: the statements are not yours to turn. If you find one false, say at which input.
  Laid BY PROGRAM, IN A SANDBOX (cutbox-rows.mjs): the forced cells as the released guide's own fill.sh prints them over the translation 1b6cad08a93c7b39… (all of the seat's roots in one cut). By AI agents, Wed Nov 11 2026. No macro, syntax, notation, axiom, sorry.
-/
import Derived.Test.YtbcfpdlhieaepaaGreatDoorChecked
import GoSem.Claim
import GoSem.ClaimJoined
import GoSem.ClaimMapViews
import Derived.JoinedTies
import Derived.KernelRfl
namespace Go.Proofs.YtbcfpdlhieaepaaGreatDoor
/- THE CELL 'sum', in the pinned program and in every row, IS THE sha256 OF THE DUMP (.gsa) THAT YtbcfpdlhieaepaaGreatDoorProg.lean LOADS. Nothing in Lean hashes anything: it is a label: what it is worth is what the hold of that sum in a sandbox is worth. -/
noncomputable def Tryz.pinned : Pinned := { name := "ytbcfpdlhieaepaagreatdoor", sum := "1b6cad08a93c7b396743da9c46e760ac0aef7caff84e921dad1865f2399ee63b", checked := Tryz.checked }
namespace Rows
def none {H : Type} : Left H := { results := [], args := [] }

/- WHAT THE LISTED PACKAGE-LEVEL VARIABLES READ AS WHEN THE CALL BEGINS. Each datum BY PROGRAM (the guide's laid-datum.mjs) off the statement by which the dump's own 'gosem.cut.vars' lays the variable. In a bare row this is a premise. The card (YtbcfpdlhieaepaaGreatDoorCards.lean) ties it to the program's text. -/
def laid_lyceum_seed_steps {H : Type} : DataW H := .agg [.agg [.lit (.int .u64 30), .lit (.int .u64 13787848793156543929)], .agg [.lit (.int .u64 27), .lit (.int .u64 10723151780598845931)], .agg [.lit (.int .u64 31), .lit (.int .u64 1)]]

/-- 'lyceumlaw37.SchoolAgain': WHATEVER THE INPUT: true; the input reads as it did. -/
def schoolAgainSpec : ChangeSpec := { name := "schoolAgain", fn := fun _ => fun
  | [d] => { results := [.lit (.bool true)], args := [d] }
  | _ => none }
def schoolAgainRow : OpenClaim := { program := "ytbcfpdlhieaepaagreatdoor", sum := "1b6cad08a93c7b396743da9c46e760ac0aef7caff84e921dad1865f2399ee63b", func := "lyceum/lyceumlaw37.SchoolAgain", spec := "schoolAgain", inPlace := ["internal/bytealg.IndexByteString", "internal/bytealg.IndexString"], unfollowed := true, recurses := true, named := ["lyceum/seed.steps", "internal/bytealg.MaxLen"], apart := false, laid := [("lyceum/seed.steps", laid_lyceum_seed_steps)] }
def SchoolAgainSaid : Prop := schoolAgainRow.holds Tryz.pinned (OpenSpec.ofChange schoolAgainSpec)

/-- ITS FALSE NEIGHBOUR: 'it returns false'. Refute it at one input. -/
def schoolAgainWrong : ChangeSpec := { name := "schoolAgain", fn := fun _ => fun
  | [d] => { results := [.lit (.bool false)], args := [d] }
  | _ => none }
def SchoolAgainWrongFalsely : Prop := schoolAgainRow.holds Tryz.pinned (OpenSpec.ofChange schoolAgainWrong)

/-- 'lyceumlaw37.SchoolWrong': WHATEVER THE INPUT: true; the input reads as it did. -/
def schoolWrongSpec : ChangeSpec := { name := "schoolWrong", fn := fun _ => fun
  | [d] => { results := [.lit (.bool true)], args := [d] }
  | _ => none }
def schoolWrongRow : OpenClaim := { program := "ytbcfpdlhieaepaagreatdoor", sum := "1b6cad08a93c7b396743da9c46e760ac0aef7caff84e921dad1865f2399ee63b", func := "lyceum/lyceumlaw37.SchoolWrong", spec := "schoolWrong", inPlace := ["internal/bytealg.IndexByteString", "internal/bytealg.IndexString"], unfollowed := true, recurses := true, named := ["lyceum/seed.steps", "internal/bytealg.MaxLen"], apart := false, laid := [("lyceum/seed.steps", laid_lyceum_seed_steps)] }
def SchoolWrongSaid : Prop := schoolWrongRow.holds Tryz.pinned (OpenSpec.ofChange schoolWrongSpec)

/-- ITS FALSE NEIGHBOUR: 'it returns false'. Refute it at one input. -/
def schoolWrongWrong : ChangeSpec := { name := "schoolWrong", fn := fun _ => fun
  | [d] => { results := [.lit (.bool false)], args := [d] }
  | _ => none }
def SchoolWrongWrongFalsely : Prop := schoolWrongRow.holds Tryz.pinned (OpenSpec.ofChange schoolWrongWrong)

/-- 'lyceumlaw37.SchoolApart': WHATEVER THE INPUT: true; the input reads as it did. -/
def schoolApartSpec : ChangeSpec := { name := "schoolApart", fn := fun _ => fun
  | [d1, d2, d3] => { results := [.lit (.bool true)], args := [d1, d2, d3] }
  | _ => none }
def schoolApartRow : OpenClaim := { program := "ytbcfpdlhieaepaagreatdoor", sum := "1b6cad08a93c7b396743da9c46e760ac0aef7caff84e921dad1865f2399ee63b", func := "lyceum/lyceumlaw37.SchoolApart", spec := "schoolApart", inPlace := ["internal/bytealg.IndexByteString", "internal/bytealg.IndexString"], unfollowed := true, recurses := true, named := ["lyceum/seed.steps", "internal/bytealg.MaxLen"], apart := false, laid := [("lyceum/seed.steps", laid_lyceum_seed_steps)] }
def SchoolApartSaid : Prop := schoolApartRow.holds Tryz.pinned (OpenSpec.ofChange schoolApartSpec)

/-- ITS FALSE NEIGHBOUR: 'it returns false'. Refute it at one input. -/
def schoolApartWrong : ChangeSpec := { name := "schoolApart", fn := fun _ => fun
  | [d1, d2, d3] => { results := [.lit (.bool false)], args := [d1, d2, d3] }
  | _ => none }
def SchoolApartWrongFalsely : Prop := schoolApartRow.holds Tryz.pinned (OpenSpec.ofChange schoolApartWrong)

/-- 'lyceumlaw37.SchoolKeeps': WHATEVER THE INPUT: true; the input reads as it did. -/
def schoolKeepsSpec : ChangeSpec := { name := "schoolKeeps", fn := fun _ => fun
  | [d1, d2, d3] => { results := [.lit (.bool true)], args := [d1, d2, d3] }
  | _ => none }
def schoolKeepsRow : OpenClaim := { program := "ytbcfpdlhieaepaagreatdoor", sum := "1b6cad08a93c7b396743da9c46e760ac0aef7caff84e921dad1865f2399ee63b", func := "lyceum/lyceumlaw37.SchoolKeeps", spec := "schoolKeeps", inPlace := ["internal/bytealg.IndexByteString", "internal/bytealg.IndexString"], unfollowed := true, recurses := true, named := ["lyceum/seed.steps", "internal/bytealg.MaxLen"], apart := false, laid := [("lyceum/seed.steps", laid_lyceum_seed_steps)] }
def SchoolKeepsSaid : Prop := schoolKeepsRow.holds Tryz.pinned (OpenSpec.ofChange schoolKeepsSpec)

/-- ITS FALSE NEIGHBOUR: 'it returns false'. Refute it at one input. -/
def schoolKeepsWrong : ChangeSpec := { name := "schoolKeeps", fn := fun _ => fun
  | [d1, d2, d3] => { results := [.lit (.bool false)], args := [d1, d2, d3] }
  | _ => none }
def SchoolKeepsWrongFalsely : Prop := schoolKeepsRow.holds Tryz.pinned (OpenSpec.ofChange schoolKeepsWrong)

/-- 'lyceumlaw37.SchoolRules': WHATEVER THE INPUT: true; the input reads as it did. -/
def schoolRulesSpec : ChangeSpec := { name := "schoolRules", fn := fun _ => fun
  | [d] => { results := [.lit (.bool true)], args := [d] }
  | _ => none }
def schoolRulesRow : OpenClaim := { program := "ytbcfpdlhieaepaagreatdoor", sum := "1b6cad08a93c7b396743da9c46e760ac0aef7caff84e921dad1865f2399ee63b", func := "lyceum/lyceumlaw37.SchoolRules", spec := "schoolRules", inPlace := ["internal/bytealg.IndexByteString", "internal/bytealg.IndexString"], unfollowed := true, recurses := true, named := ["lyceum/seed.steps", "internal/bytealg.MaxLen"], apart := false, laid := [("lyceum/seed.steps", laid_lyceum_seed_steps)] }
def SchoolRulesSaid : Prop := schoolRulesRow.holds Tryz.pinned (OpenSpec.ofChange schoolRulesSpec)

/-- ITS FALSE NEIGHBOUR: 'it returns false'. Refute it at one input. -/
def schoolRulesWrong : ChangeSpec := { name := "schoolRules", fn := fun _ => fun
  | [d] => { results := [.lit (.bool false)], args := [d] }
  | _ => none }
def SchoolRulesWrongFalsely : Prop := schoolRulesRow.holds Tryz.pinned (OpenSpec.ofChange schoolRulesWrong)

/-- 'lyceumlaw37.SchoolFixed': WHATEVER THE INPUT: true; the input reads as it did. -/
def schoolFixedSpec : ChangeSpec := { name := "schoolFixed", fn := fun _ => fun
  | [d] => { results := [.lit (.bool true)], args := [d] }
  | _ => none }
def schoolFixedRow : OpenClaim := { program := "ytbcfpdlhieaepaagreatdoor", sum := "1b6cad08a93c7b396743da9c46e760ac0aef7caff84e921dad1865f2399ee63b", func := "lyceum/lyceumlaw37.SchoolFixed", spec := "schoolFixed", inPlace := ["internal/bytealg.IndexByteString", "internal/bytealg.IndexString"], unfollowed := true, recurses := true, named := ["lyceum/seed.steps", "internal/bytealg.MaxLen"], apart := false, laid := [("lyceum/seed.steps", laid_lyceum_seed_steps)] }
def SchoolFixedSaid : Prop := schoolFixedRow.holds Tryz.pinned (OpenSpec.ofChange schoolFixedSpec)

/-- ITS FALSE NEIGHBOUR: 'it returns false'. Refute it at one input. -/
def schoolFixedWrong : ChangeSpec := { name := "schoolFixed", fn := fun _ => fun
  | [d] => { results := [.lit (.bool false)], args := [d] }
  | _ => none }
def SchoolFixedWrongFalsely : Prop := schoolFixedRow.holds Tryz.pinned (OpenSpec.ofChange schoolFixedWrong)

/-- 'lyceumlaw37.SchoolOpens': WHATEVER THE INPUT: true; the input reads as it did. -/
def schoolOpensSpec : ChangeSpec := { name := "schoolOpens", fn := fun _ => fun
  | [d1, d2] => { results := [.lit (.bool true)], args := [d1, d2] }
  | _ => none }
def schoolOpensRow : OpenClaim := { program := "ytbcfpdlhieaepaagreatdoor", sum := "1b6cad08a93c7b396743da9c46e760ac0aef7caff84e921dad1865f2399ee63b", func := "lyceum/lyceumlaw37.SchoolOpens", spec := "schoolOpens", inPlace := ["internal/bytealg.IndexByteString", "internal/bytealg.IndexString"], unfollowed := true, recurses := true, named := ["lyceum/seed.steps", "internal/bytealg.MaxLen"], apart := false, laid := [("lyceum/seed.steps", laid_lyceum_seed_steps)] }
def SchoolOpensSaid : Prop := schoolOpensRow.holds Tryz.pinned (OpenSpec.ofChange schoolOpensSpec)

/-- ITS FALSE NEIGHBOUR: 'it returns false'. Refute it at one input. -/
def schoolOpensWrong : ChangeSpec := { name := "schoolOpens", fn := fun _ => fun
  | [d1, d2] => { results := [.lit (.bool false)], args := [d1, d2] }
  | _ => none }
def SchoolOpensWrongFalsely : Prop := schoolOpensRow.holds Tryz.pinned (OpenSpec.ofChange schoolOpensWrong)

/-- 'lyceumlaw37.SchoolSmall': WHATEVER THE INPUT: true; the input reads as it did. -/
def schoolSmallSpec : ChangeSpec := { name := "schoolSmall", fn := fun _ => fun
  | [] => { results := [.lit (.bool true)], args := [] }
  | _ => none }
def schoolSmallRow : OpenClaim := { program := "ytbcfpdlhieaepaagreatdoor", sum := "1b6cad08a93c7b396743da9c46e760ac0aef7caff84e921dad1865f2399ee63b", func := "lyceum/lyceumlaw37.SchoolSmall", spec := "schoolSmall", inPlace := ["internal/bytealg.IndexByteString", "internal/bytealg.IndexString"], unfollowed := true, recurses := true, named := ["lyceum/seed.steps", "internal/bytealg.MaxLen"], apart := false, laid := [("lyceum/seed.steps", laid_lyceum_seed_steps)] }
def SchoolSmallSaid : Prop := schoolSmallRow.holds Tryz.pinned (OpenSpec.ofChange schoolSmallSpec)

/-- ITS FALSE NEIGHBOUR: 'it returns false'. Refute it at one input. -/
def schoolSmallWrong : ChangeSpec := { name := "schoolSmall", fn := fun _ => fun
  | [] => { results := [.lit (.bool false)], args := [] }
  | _ => none }
def SchoolSmallWrongFalsely : Prop := schoolSmallRow.holds Tryz.pinned (OpenSpec.ofChange schoolSmallWrong)

/- THE SECOND FORM. 'bulk': how many values and letters a reading holds, each counted each time it is reached (what is shared counts as often as it is met; a slice's spare places count too). A statement '..UptoSaid' is the law's where the arguments, and the package variables that the reading takes, are together of bulk at most 1048576: NARROWER than '..Said'. Prove '..Said' where nothing that the law and all that it calls make is longer than what came in: it says more and counts as full. Else prove '..UptoSaid'. A law counts once. -/
mutual
def uptoBulk {H : Type} : DataW H → Nat
  | .lit (.string bytes) => bytes.length + 1
  | .lit _ => 1
  | .nil => 1
  | .ptr d => uptoBulk d + 1
  | .slice elems spare => uptoBulkAll elems + uptoBulkAll spare + 1
  | .agg parts => uptoBulkAll parts + 1
  | .iface _ d => uptoBulk d + 1
  | .map entries => uptoBulkEntries entries + 1
  | .held _ => 1
def uptoBulkAll {H : Type} : List (DataW H) → Nat
  | [] => 0
  | d :: r => uptoBulk d + uptoBulkAll r
def uptoBulkEntries {H : Type} : List (Lit × DataW H) → Nat
  | [] => 0
  | x :: r => uptoBulkEntry x + uptoBulkEntries r
def uptoBulkEntry {H : Type} : Lit × DataW H → Nat
  | (.string bytes, d) => bytes.length + uptoBulk d + 1
  | (_, d) => uptoBulk d + 1
 end
def uptoSmall : (H : Type) → List (DataW H) → Bool := fun _ ds => decide (uptoBulkAll ds ≤ 1048576)
def OpenSpec.upto (s : _root_.Go.ChangeSpec) : _root_.Go.OpenSpec := { _root_.Go.OpenSpec.ofChange s with cond := some uptoSmall }

/-- 'lyceumlaw37.SchoolAgain', WHERE WHAT IT READS IS OF BULK AT MOST 1048576: true; the input reads as it did. -/
def schoolAgainUptoRow : OpenClaim := { program := "ytbcfpdlhieaepaagreatdoor", sum := "1b6cad08a93c7b396743da9c46e760ac0aef7caff84e921dad1865f2399ee63b", func := "lyceum/lyceumlaw37.SchoolAgain", spec := "schoolAgain", inPlace := ["internal/bytealg.IndexByteString", "internal/bytealg.IndexString"], unfollowed := true, recurses := true, named := ["lyceum/seed.steps", "internal/bytealg.MaxLen"], apart := false, laid := [("lyceum/seed.steps", laid_lyceum_seed_steps)], narrowed := true }
def SchoolAgainUptoSaid : Prop := schoolAgainUptoRow.holds Tryz.pinned (OpenSpec.upto schoolAgainSpec)

/-- 'lyceumlaw37.SchoolWrong', WHERE WHAT IT READS IS OF BULK AT MOST 1048576: true; the input reads as it did. -/
def schoolWrongUptoRow : OpenClaim := { program := "ytbcfpdlhieaepaagreatdoor", sum := "1b6cad08a93c7b396743da9c46e760ac0aef7caff84e921dad1865f2399ee63b", func := "lyceum/lyceumlaw37.SchoolWrong", spec := "schoolWrong", inPlace := ["internal/bytealg.IndexByteString", "internal/bytealg.IndexString"], unfollowed := true, recurses := true, named := ["lyceum/seed.steps", "internal/bytealg.MaxLen"], apart := false, laid := [("lyceum/seed.steps", laid_lyceum_seed_steps)], narrowed := true }
def SchoolWrongUptoSaid : Prop := schoolWrongUptoRow.holds Tryz.pinned (OpenSpec.upto schoolWrongSpec)

/-- 'lyceumlaw37.SchoolApart', WHERE WHAT IT READS IS OF BULK AT MOST 1048576: true; the input reads as it did. -/
def schoolApartUptoRow : OpenClaim := { program := "ytbcfpdlhieaepaagreatdoor", sum := "1b6cad08a93c7b396743da9c46e760ac0aef7caff84e921dad1865f2399ee63b", func := "lyceum/lyceumlaw37.SchoolApart", spec := "schoolApart", inPlace := ["internal/bytealg.IndexByteString", "internal/bytealg.IndexString"], unfollowed := true, recurses := true, named := ["lyceum/seed.steps", "internal/bytealg.MaxLen"], apart := false, laid := [("lyceum/seed.steps", laid_lyceum_seed_steps)], narrowed := true }
def SchoolApartUptoSaid : Prop := schoolApartUptoRow.holds Tryz.pinned (OpenSpec.upto schoolApartSpec)

/-- 'lyceumlaw37.SchoolKeeps', WHERE WHAT IT READS IS OF BULK AT MOST 1048576: true; the input reads as it did. -/
def schoolKeepsUptoRow : OpenClaim := { program := "ytbcfpdlhieaepaagreatdoor", sum := "1b6cad08a93c7b396743da9c46e760ac0aef7caff84e921dad1865f2399ee63b", func := "lyceum/lyceumlaw37.SchoolKeeps", spec := "schoolKeeps", inPlace := ["internal/bytealg.IndexByteString", "internal/bytealg.IndexString"], unfollowed := true, recurses := true, named := ["lyceum/seed.steps", "internal/bytealg.MaxLen"], apart := false, laid := [("lyceum/seed.steps", laid_lyceum_seed_steps)], narrowed := true }
def SchoolKeepsUptoSaid : Prop := schoolKeepsUptoRow.holds Tryz.pinned (OpenSpec.upto schoolKeepsSpec)

/-- 'lyceumlaw37.SchoolRules', WHERE WHAT IT READS IS OF BULK AT MOST 1048576: true; the input reads as it did. -/
def schoolRulesUptoRow : OpenClaim := { program := "ytbcfpdlhieaepaagreatdoor", sum := "1b6cad08a93c7b396743da9c46e760ac0aef7caff84e921dad1865f2399ee63b", func := "lyceum/lyceumlaw37.SchoolRules", spec := "schoolRules", inPlace := ["internal/bytealg.IndexByteString", "internal/bytealg.IndexString"], unfollowed := true, recurses := true, named := ["lyceum/seed.steps", "internal/bytealg.MaxLen"], apart := false, laid := [("lyceum/seed.steps", laid_lyceum_seed_steps)], narrowed := true }
def SchoolRulesUptoSaid : Prop := schoolRulesUptoRow.holds Tryz.pinned (OpenSpec.upto schoolRulesSpec)

/-- 'lyceumlaw37.SchoolFixed', WHERE WHAT IT READS IS OF BULK AT MOST 1048576: true; the input reads as it did. -/
def schoolFixedUptoRow : OpenClaim := { program := "ytbcfpdlhieaepaagreatdoor", sum := "1b6cad08a93c7b396743da9c46e760ac0aef7caff84e921dad1865f2399ee63b", func := "lyceum/lyceumlaw37.SchoolFixed", spec := "schoolFixed", inPlace := ["internal/bytealg.IndexByteString", "internal/bytealg.IndexString"], unfollowed := true, recurses := true, named := ["lyceum/seed.steps", "internal/bytealg.MaxLen"], apart := false, laid := [("lyceum/seed.steps", laid_lyceum_seed_steps)], narrowed := true }
def SchoolFixedUptoSaid : Prop := schoolFixedUptoRow.holds Tryz.pinned (OpenSpec.upto schoolFixedSpec)

/-- 'lyceumlaw37.SchoolOpens', WHERE WHAT IT READS IS OF BULK AT MOST 1048576: true; the input reads as it did. -/
def schoolOpensUptoRow : OpenClaim := { program := "ytbcfpdlhieaepaagreatdoor", sum := "1b6cad08a93c7b396743da9c46e760ac0aef7caff84e921dad1865f2399ee63b", func := "lyceum/lyceumlaw37.SchoolOpens", spec := "schoolOpens", inPlace := ["internal/bytealg.IndexByteString", "internal/bytealg.IndexString"], unfollowed := true, recurses := true, named := ["lyceum/seed.steps", "internal/bytealg.MaxLen"], apart := false, laid := [("lyceum/seed.steps", laid_lyceum_seed_steps)], narrowed := true }
def SchoolOpensUptoSaid : Prop := schoolOpensUptoRow.holds Tryz.pinned (OpenSpec.upto schoolOpensSpec)

/-- 'lyceumlaw37.SchoolSmall', WHERE WHAT IT READS IS OF BULK AT MOST 1048576: true; the input reads as it did. -/
def schoolSmallUptoRow : OpenClaim := { program := "ytbcfpdlhieaepaagreatdoor", sum := "1b6cad08a93c7b396743da9c46e760ac0aef7caff84e921dad1865f2399ee63b", func := "lyceum/lyceumlaw37.SchoolSmall", spec := "schoolSmall", inPlace := ["internal/bytealg.IndexByteString", "internal/bytealg.IndexString"], unfollowed := true, recurses := true, named := ["lyceum/seed.steps", "internal/bytealg.MaxLen"], apart := false, laid := [("lyceum/seed.steps", laid_lyceum_seed_steps)], narrowed := true }
def SchoolSmallUptoSaid : Prop := schoolSmallUptoRow.holds Tryz.pinned (OpenSpec.upto schoolSmallSpec)

end Rows
end Go.Proofs.YtbcfpdlhieaepaaGreatDoor
