/-
  NARROWER THAN 'FOR EVERY INPUT', by the rows' own cells (each row's printed sentence says how): JournalKeeps: laid · JournalTorn: laid · JournalFlips: laid · JournalLong: laid · JournalCompacts: laid · JournalBatch: laid · JournalWrong: laid.
  DERIVED. THE GIVEN ROWS OF THIS SEAT. 7 by the template 'for every input the law returns true; each argument reads behind the call as it read before'; 0 by the template 'total and deterministic' (their statements: YtondomklkapogaaDoorTotals.lean).
  GIVEN WITH THE SEED: the statements are not yours to turn. If you find one false, say at which input.
  Laid BY PROGRAM, IN A SANDBOX (cutbox-rows.mjs): the forced cells as the released guide's own fill.sh prints them over the translation 65e861896ae84fed… (all of the seat's roots in one cut). By AI agents, Wed Nov 11 2026. No macro, syntax, notation, axiom, sorry.
-/
import Derived.Test.YtondomklkapogaaDoorChecked
import GoSem.Claim
import GoSem.ClaimJoined
import GoSem.ClaimMapViews
import Derived.JoinedTies
import Derived.KernelRfl
namespace Go.Proofs.YtondomklkapogaaDoor
/- THE CELL 'sum', in the pinned program and in every row, IS THE sha256 OF THE DUMP (.gsa) THAT YtondomklkapogaaDoorProg.lean LOADS. Nothing in Lean hashes anything: it is a label: what it is worth is what the hold of that sum in a sandbox is worth. -/
noncomputable def Tryd.pinned : Pinned := { name := "ytondomklkapogaadoor", sum := "65e861896ae84fed87456d2c51aa1d88863557470b27638d8281b3e60283b469", checked := Tryd.checked }
namespace Rows
def none {H : Type} : Left H := { results := [], args := [] }

/- WHAT THE LISTED PACKAGE-LEVEL VARIABLES READ AS WHEN THE CALL BEGINS. Each datum BY PROGRAM (the guide's laid-datum.mjs) off the statement by which the dump's own 'gosem.cut.vars' lays the variable. In a bare row this is a premise. The card (YtondomklkapogaaDoorCards.lean) ties it to the program's text. -/
def laid_lyceum_seed_steps {H : Type} : DataW H := .agg [.agg [.lit (.int .u64 30), .lit (.int .u64 13787848793156543929)], .agg [.lit (.int .u64 27), .lit (.int .u64 10723151780598845931)], .agg [.lit (.int .u64 31), .lit (.int .u64 1)]]

/-- 'lyceumlaw36.JournalKeeps': WHATEVER THE INPUT: true; the input reads as it did. -/
def journalKeepsSpec : ChangeSpec := { name := "journalKeeps", fn := fun _ => fun
  | [d1, d2] => { results := [.lit (.bool true)], args := [d1, d2] }
  | _ => none }
def journalKeepsRow : OpenClaim := { program := "ytondomklkapogaadoor", sum := "65e861896ae84fed87456d2c51aa1d88863557470b27638d8281b3e60283b469", func := "lyceum/lyceumlaw36.JournalKeeps", spec := "journalKeeps", unfollowed := true, recurses := true, named := ["lyceum/seed.steps"], apart := false, laid := [("lyceum/seed.steps", laid_lyceum_seed_steps)] }
def JournalKeepsSaid : Prop := journalKeepsRow.holds Tryd.pinned (OpenSpec.ofChange journalKeepsSpec)

/-- ITS FALSE NEIGHBOUR: 'it returns false'. Refute it at one input. -/
def journalKeepsWrong : ChangeSpec := { name := "journalKeeps", fn := fun _ => fun
  | [d1, d2] => { results := [.lit (.bool false)], args := [d1, d2] }
  | _ => none }
def JournalKeepsWrongFalsely : Prop := journalKeepsRow.holds Tryd.pinned (OpenSpec.ofChange journalKeepsWrong)

/-- 'lyceumlaw36.JournalTorn': WHATEVER THE INPUT: true; the input reads as it did. -/
def journalTornSpec : ChangeSpec := { name := "journalTorn", fn := fun _ => fun
  | [d1, d2, d3, d4] => { results := [.lit (.bool true)], args := [d1, d2, d3, d4] }
  | _ => none }
def journalTornRow : OpenClaim := { program := "ytondomklkapogaadoor", sum := "65e861896ae84fed87456d2c51aa1d88863557470b27638d8281b3e60283b469", func := "lyceum/lyceumlaw36.JournalTorn", spec := "journalTorn", unfollowed := true, recurses := true, named := ["lyceum/seed.steps"], apart := false, laid := [("lyceum/seed.steps", laid_lyceum_seed_steps)] }
def JournalTornSaid : Prop := journalTornRow.holds Tryd.pinned (OpenSpec.ofChange journalTornSpec)

/-- ITS FALSE NEIGHBOUR: 'it returns false'. Refute it at one input. -/
def journalTornWrong : ChangeSpec := { name := "journalTorn", fn := fun _ => fun
  | [d1, d2, d3, d4] => { results := [.lit (.bool false)], args := [d1, d2, d3, d4] }
  | _ => none }
def JournalTornWrongFalsely : Prop := journalTornRow.holds Tryd.pinned (OpenSpec.ofChange journalTornWrong)

/-- 'lyceumlaw36.JournalFlips': WHATEVER THE INPUT: true; the input reads as it did. -/
def journalFlipsSpec : ChangeSpec := { name := "journalFlips", fn := fun _ => fun
  | [d1, d2, d3, d4, d5] => { results := [.lit (.bool true)], args := [d1, d2, d3, d4, d5] }
  | _ => none }
def journalFlipsRow : OpenClaim := { program := "ytondomklkapogaadoor", sum := "65e861896ae84fed87456d2c51aa1d88863557470b27638d8281b3e60283b469", func := "lyceum/lyceumlaw36.JournalFlips", spec := "journalFlips", unfollowed := true, recurses := true, named := ["lyceum/seed.steps"], apart := false, laid := [("lyceum/seed.steps", laid_lyceum_seed_steps)] }
def JournalFlipsSaid : Prop := journalFlipsRow.holds Tryd.pinned (OpenSpec.ofChange journalFlipsSpec)

/-- ITS FALSE NEIGHBOUR: 'it returns false'. Refute it at one input. -/
def journalFlipsWrong : ChangeSpec := { name := "journalFlips", fn := fun _ => fun
  | [d1, d2, d3, d4, d5] => { results := [.lit (.bool false)], args := [d1, d2, d3, d4, d5] }
  | _ => none }
def JournalFlipsWrongFalsely : Prop := journalFlipsRow.holds Tryd.pinned (OpenSpec.ofChange journalFlipsWrong)

/-- 'lyceumlaw36.JournalLong': WHATEVER THE INPUT: true; the input reads as it did. -/
def journalLongSpec : ChangeSpec := { name := "journalLong", fn := fun _ => fun
  | [d] => { results := [.lit (.bool true)], args := [d] }
  | _ => none }
def journalLongRow : OpenClaim := { program := "ytondomklkapogaadoor", sum := "65e861896ae84fed87456d2c51aa1d88863557470b27638d8281b3e60283b469", func := "lyceum/lyceumlaw36.JournalLong", spec := "journalLong", unfollowed := true, recurses := true, named := ["lyceum/seed.steps"], apart := false, laid := [("lyceum/seed.steps", laid_lyceum_seed_steps)] }
def JournalLongSaid : Prop := journalLongRow.holds Tryd.pinned (OpenSpec.ofChange journalLongSpec)

/-- ITS FALSE NEIGHBOUR: 'it returns false'. Refute it at one input. -/
def journalLongWrong : ChangeSpec := { name := "journalLong", fn := fun _ => fun
  | [d] => { results := [.lit (.bool false)], args := [d] }
  | _ => none }
def JournalLongWrongFalsely : Prop := journalLongRow.holds Tryd.pinned (OpenSpec.ofChange journalLongWrong)

/-- 'lyceumlaw36.JournalCompacts': WHATEVER THE INPUT: true; the input reads as it did. -/
def journalCompactsSpec : ChangeSpec := { name := "journalCompacts", fn := fun _ => fun
  | [d1, d2] => { results := [.lit (.bool true)], args := [d1, d2] }
  | _ => none }
def journalCompactsRow : OpenClaim := { program := "ytondomklkapogaadoor", sum := "65e861896ae84fed87456d2c51aa1d88863557470b27638d8281b3e60283b469", func := "lyceum/lyceumlaw36.JournalCompacts", spec := "journalCompacts", unfollowed := true, recurses := true, named := ["lyceum/seed.steps"], apart := false, laid := [("lyceum/seed.steps", laid_lyceum_seed_steps)] }
def JournalCompactsSaid : Prop := journalCompactsRow.holds Tryd.pinned (OpenSpec.ofChange journalCompactsSpec)

/-- ITS FALSE NEIGHBOUR: 'it returns false'. Refute it at one input. -/
def journalCompactsWrong : ChangeSpec := { name := "journalCompacts", fn := fun _ => fun
  | [d1, d2] => { results := [.lit (.bool false)], args := [d1, d2] }
  | _ => none }
def JournalCompactsWrongFalsely : Prop := journalCompactsRow.holds Tryd.pinned (OpenSpec.ofChange journalCompactsWrong)

/-- 'lyceumlaw36.JournalBatch': WHATEVER THE INPUT: true; the input reads as it did. -/
def journalBatchSpec : ChangeSpec := { name := "journalBatch", fn := fun _ => fun
  | [d1, d2, d3] => { results := [.lit (.bool true)], args := [d1, d2, d3] }
  | _ => none }
def journalBatchRow : OpenClaim := { program := "ytondomklkapogaadoor", sum := "65e861896ae84fed87456d2c51aa1d88863557470b27638d8281b3e60283b469", func := "lyceum/lyceumlaw36.JournalBatch", spec := "journalBatch", unfollowed := true, recurses := true, named := ["lyceum/seed.steps"], apart := false, laid := [("lyceum/seed.steps", laid_lyceum_seed_steps)] }
def JournalBatchSaid : Prop := journalBatchRow.holds Tryd.pinned (OpenSpec.ofChange journalBatchSpec)

/-- ITS FALSE NEIGHBOUR: 'it returns false'. Refute it at one input. -/
def journalBatchWrong : ChangeSpec := { name := "journalBatch", fn := fun _ => fun
  | [d1, d2, d3] => { results := [.lit (.bool false)], args := [d1, d2, d3] }
  | _ => none }
def JournalBatchWrongFalsely : Prop := journalBatchRow.holds Tryd.pinned (OpenSpec.ofChange journalBatchWrong)

/-- 'lyceumlaw36.JournalWrong': WHATEVER THE INPUT: true; the input reads as it did. -/
def journalWrongSpec : ChangeSpec := { name := "journalWrong", fn := fun _ => fun
  | [d1, d2] => { results := [.lit (.bool true)], args := [d1, d2] }
  | _ => none }
def journalWrongRow : OpenClaim := { program := "ytondomklkapogaadoor", sum := "65e861896ae84fed87456d2c51aa1d88863557470b27638d8281b3e60283b469", func := "lyceum/lyceumlaw36.JournalWrong", spec := "journalWrong", unfollowed := true, recurses := true, named := ["lyceum/seed.steps"], apart := false, laid := [("lyceum/seed.steps", laid_lyceum_seed_steps)] }
def JournalWrongSaid : Prop := journalWrongRow.holds Tryd.pinned (OpenSpec.ofChange journalWrongSpec)

/-- ITS FALSE NEIGHBOUR: 'it returns false'. Refute it at one input. -/
def journalWrongWrong : ChangeSpec := { name := "journalWrong", fn := fun _ => fun
  | [d1, d2] => { results := [.lit (.bool false)], args := [d1, d2] }
  | _ => none }
def JournalWrongWrongFalsely : Prop := journalWrongRow.holds Tryd.pinned (OpenSpec.ofChange journalWrongWrong)

/- THE SECOND FORM. 'bulk': how many values and letters a reading holds, each counted each time it is reached (what is shared counts as often as it is met; a slice's spare places count too). A statement '..UptoSaid' is the law's where the arguments, and the package variables that the reading takes, are together of bulk at most 1048576: NARROWER than '..Said'. Prove '..Said' where nothing that the law and all that it calls make is longer than what came in: it says more and counts as full. Else prove '..UptoSaid'. A law counts once. -/
mutual
def uptoBulk {H : Type} : DataW H → Nat
  | .lit (.string bytes) => bytes.length + 1
  | .lit _ => 1
  | .nil => 1
  | .ptr d => uptoBulk d + 1
  | .slice elems spare => uptoBulkAll elems + uptoBulkAll spare + 1
  | .agg parts => uptoBulkAll parts + 1
  | .iface _ d => uptoBulk d + 1
  | .map entries => uptoBulkEntries entries + 1
  | .held _ => 1
def uptoBulkAll {H : Type} : List (DataW H) → Nat
  | [] => 0
  | d :: r => uptoBulk d + uptoBulkAll r
def uptoBulkEntries {H : Type} : List (Lit × DataW H) → Nat
  | [] => 0
  | x :: r => uptoBulkEntry x + uptoBulkEntries r
def uptoBulkEntry {H : Type} : Lit × DataW H → Nat
  | (.string bytes, d) => bytes.length + uptoBulk d + 1
  | (_, d) => uptoBulk d + 1
 end
def uptoSmall : (H : Type) → List (DataW H) → Bool := fun _ ds => decide (uptoBulkAll ds ≤ 1048576)
def OpenSpec.upto (s : _root_.Go.ChangeSpec) : _root_.Go.OpenSpec := { _root_.Go.OpenSpec.ofChange s with cond := some uptoSmall }

/-- 'lyceumlaw36.JournalKeeps', WHERE WHAT IT READS IS OF BULK AT MOST 1048576: true; the input reads as it did. -/
def journalKeepsUptoRow : OpenClaim := { program := "ytondomklkapogaadoor", sum := "65e861896ae84fed87456d2c51aa1d88863557470b27638d8281b3e60283b469", func := "lyceum/lyceumlaw36.JournalKeeps", spec := "journalKeeps", unfollowed := true, recurses := true, named := ["lyceum/seed.steps"], apart := false, laid := [("lyceum/seed.steps", laid_lyceum_seed_steps)], narrowed := true }
def JournalKeepsUptoSaid : Prop := journalKeepsUptoRow.holds Tryd.pinned (OpenSpec.upto journalKeepsSpec)

/-- 'lyceumlaw36.JournalTorn', WHERE WHAT IT READS IS OF BULK AT MOST 1048576: true; the input reads as it did. -/
def journalTornUptoRow : OpenClaim := { program := "ytondomklkapogaadoor", sum := "65e861896ae84fed87456d2c51aa1d88863557470b27638d8281b3e60283b469", func := "lyceum/lyceumlaw36.JournalTorn", spec := "journalTorn", unfollowed := true, recurses := true, named := ["lyceum/seed.steps"], apart := false, laid := [("lyceum/seed.steps", laid_lyceum_seed_steps)], narrowed := true }
def JournalTornUptoSaid : Prop := journalTornUptoRow.holds Tryd.pinned (OpenSpec.upto journalTornSpec)

/-- 'lyceumlaw36.JournalFlips', WHERE WHAT IT READS IS OF BULK AT MOST 1048576: true; the input reads as it did. -/
def journalFlipsUptoRow : OpenClaim := { program := "ytondomklkapogaadoor", sum := "65e861896ae84fed87456d2c51aa1d88863557470b27638d8281b3e60283b469", func := "lyceum/lyceumlaw36.JournalFlips", spec := "journalFlips", unfollowed := true, recurses := true, named := ["lyceum/seed.steps"], apart := false, laid := [("lyceum/seed.steps", laid_lyceum_seed_steps)], narrowed := true }
def JournalFlipsUptoSaid : Prop := journalFlipsUptoRow.holds Tryd.pinned (OpenSpec.upto journalFlipsSpec)

/-- 'lyceumlaw36.JournalLong', WHERE WHAT IT READS IS OF BULK AT MOST 1048576: true; the input reads as it did. -/
def journalLongUptoRow : OpenClaim := { program := "ytondomklkapogaadoor", sum := "65e861896ae84fed87456d2c51aa1d88863557470b27638d8281b3e60283b469", func := "lyceum/lyceumlaw36.JournalLong", spec := "journalLong", unfollowed := true, recurses := true, named := ["lyceum/seed.steps"], apart := false, laid := [("lyceum/seed.steps", laid_lyceum_seed_steps)], narrowed := true }
def JournalLongUptoSaid : Prop := journalLongUptoRow.holds Tryd.pinned (OpenSpec.upto journalLongSpec)

/-- 'lyceumlaw36.JournalCompacts', WHERE WHAT IT READS IS OF BULK AT MOST 1048576: true; the input reads as it did. -/
def journalCompactsUptoRow : OpenClaim := { program := "ytondomklkapogaadoor", sum := "65e861896ae84fed87456d2c51aa1d88863557470b27638d8281b3e60283b469", func := "lyceum/lyceumlaw36.JournalCompacts", spec := "journalCompacts", unfollowed := true, recurses := true, named := ["lyceum/seed.steps"], apart := false, laid := [("lyceum/seed.steps", laid_lyceum_seed_steps)], narrowed := true }
def JournalCompactsUptoSaid : Prop := journalCompactsUptoRow.holds Tryd.pinned (OpenSpec.upto journalCompactsSpec)

/-- 'lyceumlaw36.JournalBatch', WHERE WHAT IT READS IS OF BULK AT MOST 1048576: true; the input reads as it did. -/
def journalBatchUptoRow : OpenClaim := { program := "ytondomklkapogaadoor", sum := "65e861896ae84fed87456d2c51aa1d88863557470b27638d8281b3e60283b469", func := "lyceum/lyceumlaw36.JournalBatch", spec := "journalBatch", unfollowed := true, recurses := true, named := ["lyceum/seed.steps"], apart := false, laid := [("lyceum/seed.steps", laid_lyceum_seed_steps)], narrowed := true }
def JournalBatchUptoSaid : Prop := journalBatchUptoRow.holds Tryd.pinned (OpenSpec.upto journalBatchSpec)

/-- 'lyceumlaw36.JournalWrong', WHERE WHAT IT READS IS OF BULK AT MOST 1048576: true; the input reads as it did. -/
def journalWrongUptoRow : OpenClaim := { program := "ytondomklkapogaadoor", sum := "65e861896ae84fed87456d2c51aa1d88863557470b27638d8281b3e60283b469", func := "lyceum/lyceumlaw36.JournalWrong", spec := "journalWrong", unfollowed := true, recurses := true, named := ["lyceum/seed.steps"], apart := false, laid := [("lyceum/seed.steps", laid_lyceum_seed_steps)], narrowed := true }
def JournalWrongUptoSaid : Prop := journalWrongUptoRow.holds Tryd.pinned (OpenSpec.upto journalWrongSpec)

end Rows
end Go.Proofs.YtondomklkapogaaDoor
