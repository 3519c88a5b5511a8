/-
  NARROWER THAN 'FOR EVERY INPUT', by the rows' own cells (each row's printed sentence says how): JournalTells: laid · JournalOpens: laid · JournalSmall: laid.
  DERIVED. THE GIVEN ROWS OF THIS SEAT. 3 by the template 'for every input the law returns true; each argument reads behind the call as it read before'; 0 by the template 'total and deterministic' (their statements: YtondomklkapogaaGreatDoorTotals.lean).
  GIVEN WITH THE SEED: the statements are not yours to turn. If you find one false, say at which input.
  Laid BY PROGRAM, IN A SANDBOX (cutbox-rows.mjs): the forced cells as the released guide's own fill.sh prints them over the translation 4786a541e1299715… (all of the seat's roots in one cut). By AI agents, Wed Nov 11 2026. No macro, syntax, notation, axiom, sorry.
-/
import Derived.Test.YtondomklkapogaaGreatDoorChecked
import GoSem.Claim
import GoSem.ClaimJoined
import GoSem.ClaimMapViews
import Derived.JoinedTies
import Derived.KernelRfl
namespace Go.Proofs.YtondomklkapogaaGreatDoor
/- THE CELL 'sum', in the pinned program and in every row, IS THE sha256 OF THE DUMP (.gsa) THAT YtondomklkapogaaGreatDoorProg.lean LOADS. Nothing in Lean hashes anything: it is a label: what it is worth is what the hold of that sum in a sandbox is worth. -/
noncomputable def Tryz.pinned : Pinned := { name := "ytondomklkapogaagreatdoor", sum := "4786a541e1299715223df931b3c36e63f5b5f3e686cc9821f17e8831dd37f930", checked := Tryz.checked }
namespace Rows
def none {H : Type} : Left H := { results := [], args := [] }

/- WHAT THE LISTED PACKAGE-LEVEL VARIABLES READ AS WHEN THE CALL BEGINS. Each datum BY PROGRAM (the guide's laid-datum.mjs) off the statement by which the dump's own 'gosem.cut.vars' lays the variable. In a bare row this is a premise. The card (YtondomklkapogaaGreatDoorCards.lean) ties it to the program's text. -/
def laid_lyceum_seed_steps {H : Type} : DataW H := .agg [.agg [.lit (.int .u64 30), .lit (.int .u64 13787848793156543929)], .agg [.lit (.int .u64 27), .lit (.int .u64 10723151780598845931)], .agg [.lit (.int .u64 31), .lit (.int .u64 1)]]

/-- 'lyceumlaw36.JournalTells': WHATEVER THE INPUT: true; the input reads as it did. -/
def journalTellsSpec : ChangeSpec := { name := "journalTells", fn := fun _ => fun
  | [d1, d2] => { results := [.lit (.bool true)], args := [d1, d2] }
  | _ => none }
def journalTellsRow : OpenClaim := { program := "ytondomklkapogaagreatdoor", sum := "4786a541e1299715223df931b3c36e63f5b5f3e686cc9821f17e8831dd37f930", func := "lyceum/lyceumlaw36.JournalTells", spec := "journalTells", unfollowed := true, recurses := true, named := ["lyceum/seed.steps"], apart := false, laid := [("lyceum/seed.steps", laid_lyceum_seed_steps)] }
def JournalTellsSaid : Prop := journalTellsRow.holds Tryz.pinned (OpenSpec.ofChange journalTellsSpec)

/-- ITS FALSE NEIGHBOUR: 'it returns false'. Refute it at one input. -/
def journalTellsWrong : ChangeSpec := { name := "journalTells", fn := fun _ => fun
  | [d1, d2] => { results := [.lit (.bool false)], args := [d1, d2] }
  | _ => none }
def JournalTellsWrongFalsely : Prop := journalTellsRow.holds Tryz.pinned (OpenSpec.ofChange journalTellsWrong)

/-- 'lyceumlaw36.JournalOpens': WHATEVER THE INPUT: true; the input reads as it did. -/
def journalOpensSpec : ChangeSpec := { name := "journalOpens", fn := fun _ => fun
  | [d1, d2, d3, d4, d5, d6, d7] => { results := [.lit (.bool true)], args := [d1, d2, d3, d4, d5, d6, d7] }
  | _ => none }
def journalOpensRow : OpenClaim := { program := "ytondomklkapogaagreatdoor", sum := "4786a541e1299715223df931b3c36e63f5b5f3e686cc9821f17e8831dd37f930", func := "lyceum/lyceumlaw36.JournalOpens", spec := "journalOpens", unfollowed := true, recurses := true, named := ["lyceum/seed.steps"], apart := false, laid := [("lyceum/seed.steps", laid_lyceum_seed_steps)] }
def JournalOpensSaid : Prop := journalOpensRow.holds Tryz.pinned (OpenSpec.ofChange journalOpensSpec)

/-- ITS FALSE NEIGHBOUR: 'it returns false'. Refute it at one input. -/
def journalOpensWrong : ChangeSpec := { name := "journalOpens", fn := fun _ => fun
  | [d1, d2, d3, d4, d5, d6, d7] => { results := [.lit (.bool false)], args := [d1, d2, d3, d4, d5, d6, d7] }
  | _ => none }
def JournalOpensWrongFalsely : Prop := journalOpensRow.holds Tryz.pinned (OpenSpec.ofChange journalOpensWrong)

/-- 'lyceumlaw36.JournalSmall': WHATEVER THE INPUT: true; the input reads as it did. -/
def journalSmallSpec : ChangeSpec := { name := "journalSmall", fn := fun _ => fun
  | [] => { results := [.lit (.bool true)], args := [] }
  | _ => none }
def journalSmallRow : OpenClaim := { program := "ytondomklkapogaagreatdoor", sum := "4786a541e1299715223df931b3c36e63f5b5f3e686cc9821f17e8831dd37f930", func := "lyceum/lyceumlaw36.JournalSmall", spec := "journalSmall", unfollowed := true, recurses := true, named := ["lyceum/seed.steps"], apart := false, laid := [("lyceum/seed.steps", laid_lyceum_seed_steps)] }
def JournalSmallSaid : Prop := journalSmallRow.holds Tryz.pinned (OpenSpec.ofChange journalSmallSpec)

/-- ITS FALSE NEIGHBOUR: 'it returns false'. Refute it at one input. -/
def journalSmallWrong : ChangeSpec := { name := "journalSmall", fn := fun _ => fun
  | [] => { results := [.lit (.bool false)], args := [] }
  | _ => none }
def JournalSmallWrongFalsely : Prop := journalSmallRow.holds Tryz.pinned (OpenSpec.ofChange journalSmallWrong)

/- THE SECOND FORM. 'bulk': how many values and letters a reading holds, each counted each time it is reached (what is shared counts as often as it is met; a slice's spare places count too). A statement '..UptoSaid' is the law's where the arguments, and the package variables that the reading takes, are together of bulk at most 1048576: NARROWER than '..Said'. Prove '..Said' where nothing that the law and all that it calls make is longer than what came in: it says more and counts as full. Else prove '..UptoSaid'. A law counts once. -/
mutual
def uptoBulk {H : Type} : DataW H → Nat
  | .lit (.string bytes) => bytes.length + 1
  | .lit _ => 1
  | .nil => 1
  | .ptr d => uptoBulk d + 1
  | .slice elems spare => uptoBulkAll elems + uptoBulkAll spare + 1
  | .agg parts => uptoBulkAll parts + 1
  | .iface _ d => uptoBulk d + 1
  | .map entries => uptoBulkEntries entries + 1
  | .held _ => 1
def uptoBulkAll {H : Type} : List (DataW H) → Nat
  | [] => 0
  | d :: r => uptoBulk d + uptoBulkAll r
def uptoBulkEntries {H : Type} : List (Lit × DataW H) → Nat
  | [] => 0
  | x :: r => uptoBulkEntry x + uptoBulkEntries r
def uptoBulkEntry {H : Type} : Lit × DataW H → Nat
  | (.string bytes, d) => bytes.length + uptoBulk d + 1
  | (_, d) => uptoBulk d + 1
 end
def uptoSmall : (H : Type) → List (DataW H) → Bool := fun _ ds => decide (uptoBulkAll ds ≤ 1048576)
def OpenSpec.upto (s : _root_.Go.ChangeSpec) : _root_.Go.OpenSpec := { _root_.Go.OpenSpec.ofChange s with cond := some uptoSmall }

/-- 'lyceumlaw36.JournalTells', WHERE WHAT IT READS IS OF BULK AT MOST 1048576: true; the input reads as it did. -/
def journalTellsUptoRow : OpenClaim := { program := "ytondomklkapogaagreatdoor", sum := "4786a541e1299715223df931b3c36e63f5b5f3e686cc9821f17e8831dd37f930", func := "lyceum/lyceumlaw36.JournalTells", spec := "journalTells", unfollowed := true, recurses := true, named := ["lyceum/seed.steps"], apart := false, laid := [("lyceum/seed.steps", laid_lyceum_seed_steps)], narrowed := true }
def JournalTellsUptoSaid : Prop := journalTellsUptoRow.holds Tryz.pinned (OpenSpec.upto journalTellsSpec)

/-- 'lyceumlaw36.JournalOpens', WHERE WHAT IT READS IS OF BULK AT MOST 1048576: true; the input reads as it did. -/
def journalOpensUptoRow : OpenClaim := { program := "ytondomklkapogaagreatdoor", sum := "4786a541e1299715223df931b3c36e63f5b5f3e686cc9821f17e8831dd37f930", func := "lyceum/lyceumlaw36.JournalOpens", spec := "journalOpens", unfollowed := true, recurses := true, named := ["lyceum/seed.steps"], apart := false, laid := [("lyceum/seed.steps", laid_lyceum_seed_steps)], narrowed := true }
def JournalOpensUptoSaid : Prop := journalOpensUptoRow.holds Tryz.pinned (OpenSpec.upto journalOpensSpec)

/-- 'lyceumlaw36.JournalSmall', WHERE WHAT IT READS IS OF BULK AT MOST 1048576: true; the input reads as it did. -/
def journalSmallUptoRow : OpenClaim := { program := "ytondomklkapogaagreatdoor", sum := "4786a541e1299715223df931b3c36e63f5b5f3e686cc9821f17e8831dd37f930", func := "lyceum/lyceumlaw36.JournalSmall", spec := "journalSmall", unfollowed := true, recurses := true, named := ["lyceum/seed.steps"], apart := false, laid := [("lyceum/seed.steps", laid_lyceum_seed_steps)], narrowed := true }
def JournalSmallUptoSaid : Prop := journalSmallUptoRow.holds Tryz.pinned (OpenSpec.upto journalSmallSpec)

end Rows
end Go.Proofs.YtondomklkapogaaGreatDoor
