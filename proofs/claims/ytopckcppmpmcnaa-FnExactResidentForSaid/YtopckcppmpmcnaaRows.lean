/-
  No cell of these rows narrows 'for every input' (looked for: loops, veiled, ifaces, maps, wideKeys, modest, calm, conditions, laid).
  DERIVED. THE GIVEN ROWS OF THIS SEAT. 16 by the template 'for every input the law returns true; each argument reads behind the call as it read before'; 0 by the template 'total and deterministic' (their statements: YtopckcppmpmcnaaTotals.lean).
  GIVEN WITH THE SEED: the statements are not yours to turn. If you find one false, say at which input.
  Laid BY PROGRAM, IN A SANDBOX (cutbox-rows.mjs): the forced cells as the released guide's own fill.sh prints them over the translation c039e06322602093… (all of the seat's roots in one cut). By AI agents, Wed Nov 11 2026. No macro, syntax, notation, axiom, sorry.
-/
import Derived.Test.YtopckcppmpmcnaaChecked
import GoSem.Claim
import GoSem.ClaimJoined
import GoSem.ClaimMapViews
import Derived.JoinedTies
import Derived.KernelRfl
namespace Go.Proofs.Ytopckcppmpmcnaa
/- THE CELL 'sum', in the pinned program and in every row, IS THE sha256 OF THE DUMP (.gsa) THAT YtopckcppmpmcnaaProg.lean LOADS. Nothing in Lean hashes anything: it is a label: what it is worth is what the hold of that sum in a sandbox is worth. -/
noncomputable def Try.pinned : Pinned := { name := "ytopckcppmpmcnaa", sum := "c039e06322602093244c7c755e2904f99735eb41f822da1b20b7ff99d69787bb", checked := Try.checked }
namespace Rows
def none {H : Type} : Left H := { results := [], args := [] }

/-- 'laws.FnExactListOk': WHATEVER THE INPUT: true; the input reads as it did. -/
def fnExactListOkSpec : ChangeSpec := { name := "fnExactListOk", fn := fun _ => fun
  | [d] => { results := [.lit (.bool true)], args := [d] }
  | _ => none }
def fnExactListOkRow : OpenClaim := { program := "ytopckcppmpmcnaa", sum := "c039e06322602093244c7c755e2904f99735eb41f822da1b20b7ff99d69787bb", func := "loop.example/g00985/laws.FnExactListOk", spec := "fnExactListOk", unfollowed := true, recurses := true, apart := false }
def FnExactListOkSaid : Prop := fnExactListOkRow.holds Try.pinned (OpenSpec.ofChange fnExactListOkSpec)

/-- ITS FALSE NEIGHBOUR: 'it returns false'. Refute it at one input. -/
def fnExactListOkWrong : ChangeSpec := { name := "fnExactListOk", fn := fun _ => fun
  | [d] => { results := [.lit (.bool false)], args := [d] }
  | _ => none }
def FnExactListOkWrongFalsely : Prop := fnExactListOkRow.holds Try.pinned (OpenSpec.ofChange fnExactListOkWrong)

/-- 'laws.FnExactCriticalPath': WHATEVER THE INPUT: true; the input reads as it did. -/
def fnExactCriticalPathSpec : ChangeSpec := { name := "fnExactCriticalPath", fn := fun _ => fun
  | [d] => { results := [.lit (.bool true)], args := [d] }
  | _ => none }
def fnExactCriticalPathRow : OpenClaim := { program := "ytopckcppmpmcnaa", sum := "c039e06322602093244c7c755e2904f99735eb41f822da1b20b7ff99d69787bb", func := "loop.example/g00985/laws.FnExactCriticalPath", spec := "fnExactCriticalPath", unfollowed := true, recurses := true, apart := false }
def FnExactCriticalPathSaid : Prop := fnExactCriticalPathRow.holds Try.pinned (OpenSpec.ofChange fnExactCriticalPathSpec)

/-- ITS FALSE NEIGHBOUR: 'it returns false'. Refute it at one input. -/
def fnExactCriticalPathWrong : ChangeSpec := { name := "fnExactCriticalPath", fn := fun _ => fun
  | [d] => { results := [.lit (.bool false)], args := [d] }
  | _ => none }
def FnExactCriticalPathWrongFalsely : Prop := fnExactCriticalPathRow.holds Try.pinned (OpenSpec.ofChange fnExactCriticalPathWrong)

/-- 'laws.FnExactStallCycles': WHATEVER THE INPUT: true; the input reads as it did. -/
def fnExactStallCyclesSpec : ChangeSpec := { name := "fnExactStallCycles", fn := fun _ => fun
  | [d] => { results := [.lit (.bool true)], args := [d] }
  | _ => none }
def fnExactStallCyclesRow : OpenClaim := { program := "ytopckcppmpmcnaa", sum := "c039e06322602093244c7c755e2904f99735eb41f822da1b20b7ff99d69787bb", func := "loop.example/g00985/laws.FnExactStallCycles", spec := "fnExactStallCycles", unfollowed := true, recurses := true, apart := false }
def FnExactStallCyclesSaid : Prop := fnExactStallCyclesRow.holds Try.pinned (OpenSpec.ofChange fnExactStallCyclesSpec)

/-- ITS FALSE NEIGHBOUR: 'it returns false'. Refute it at one input. -/
def fnExactStallCyclesWrong : ChangeSpec := { name := "fnExactStallCycles", fn := fun _ => fun
  | [d] => { results := [.lit (.bool false)], args := [d] }
  | _ => none }
def FnExactStallCyclesWrongFalsely : Prop := fnExactStallCyclesRow.holds Try.pinned (OpenSpec.ofChange fnExactStallCyclesWrong)

/-- 'laws.FnExactTotalTime': WHATEVER THE INPUT: true; the input reads as it did. -/
def fnExactTotalTimeSpec : ChangeSpec := { name := "fnExactTotalTime", fn := fun _ => fun
  | [d] => { results := [.lit (.bool true)], args := [d] }
  | _ => none }
def fnExactTotalTimeRow : OpenClaim := { program := "ytopckcppmpmcnaa", sum := "c039e06322602093244c7c755e2904f99735eb41f822da1b20b7ff99d69787bb", func := "loop.example/g00985/laws.FnExactTotalTime", spec := "fnExactTotalTime", unfollowed := true, recurses := true, apart := false }
def FnExactTotalTimeSaid : Prop := fnExactTotalTimeRow.holds Try.pinned (OpenSpec.ofChange fnExactTotalTimeSpec)

/-- ITS FALSE NEIGHBOUR: 'it returns false'. Refute it at one input. -/
def fnExactTotalTimeWrong : ChangeSpec := { name := "fnExactTotalTime", fn := fun _ => fun
  | [d] => { results := [.lit (.bool false)], args := [d] }
  | _ => none }
def FnExactTotalTimeWrongFalsely : Prop := fnExactTotalTimeRow.holds Try.pinned (OpenSpec.ofChange fnExactTotalTimeWrong)

/-- 'laws.FnExactIssueTimes': WHATEVER THE INPUT: true; the input reads as it did. -/
def fnExactIssueTimesSpec : ChangeSpec := { name := "fnExactIssueTimes", fn := fun _ => fun
  | [d] => { results := [.lit (.bool true)], args := [d] }
  | _ => none }
def fnExactIssueTimesRow : OpenClaim := { program := "ytopckcppmpmcnaa", sum := "c039e06322602093244c7c755e2904f99735eb41f822da1b20b7ff99d69787bb", func := "loop.example/g00985/laws.FnExactIssueTimes", spec := "fnExactIssueTimes", unfollowed := true, recurses := true, apart := false }
def FnExactIssueTimesSaid : Prop := fnExactIssueTimesRow.holds Try.pinned (OpenSpec.ofChange fnExactIssueTimesSpec)

/-- ITS FALSE NEIGHBOUR: 'it returns false'. Refute it at one input. -/
def fnExactIssueTimesWrong : ChangeSpec := { name := "fnExactIssueTimes", fn := fun _ => fun
  | [d] => { results := [.lit (.bool false)], args := [d] }
  | _ => none }
def FnExactIssueTimesWrongFalsely : Prop := fnExactIssueTimesRow.holds Try.pinned (OpenSpec.ofChange fnExactIssueTimesWrong)

/-- 'laws.FnExactIssueAll': WHATEVER THE INPUT: true; the input reads as it did. -/
def fnExactIssueAllSpec : ChangeSpec := { name := "fnExactIssueAll", fn := fun _ => fun
  | [d1, d2, d3] => { results := [.lit (.bool true)], args := [d1, d2, d3] }
  | _ => none }
def fnExactIssueAllRow : OpenClaim := { program := "ytopckcppmpmcnaa", sum := "c039e06322602093244c7c755e2904f99735eb41f822da1b20b7ff99d69787bb", func := "loop.example/g00985/laws.FnExactIssueAll", spec := "fnExactIssueAll", unfollowed := true, recurses := true, apart := false }
def FnExactIssueAllSaid : Prop := fnExactIssueAllRow.holds Try.pinned (OpenSpec.ofChange fnExactIssueAllSpec)

/-- ITS FALSE NEIGHBOUR: 'it returns false'. Refute it at one input. -/
def fnExactIssueAllWrong : ChangeSpec := { name := "fnExactIssueAll", fn := fun _ => fun
  | [d1, d2, d3] => { results := [.lit (.bool false)], args := [d1, d2, d3] }
  | _ => none }
def FnExactIssueAllWrongFalsely : Prop := fnExactIssueAllRow.holds Try.pinned (OpenSpec.ofChange fnExactIssueAllWrong)

/-- 'laws.FnExactResidentFor': WHATEVER THE INPUT: true; the input reads as it did. -/
def fnExactResidentForSpec : ChangeSpec := { name := "fnExactResidentFor", fn := fun _ => fun
  | [d] => { results := [.lit (.bool true)], args := [d] }
  | _ => none }
def fnExactResidentForRow : OpenClaim := { program := "ytopckcppmpmcnaa", sum := "c039e06322602093244c7c755e2904f99735eb41f822da1b20b7ff99d69787bb", func := "loop.example/g00985/laws.FnExactResidentFor", spec := "fnExactResidentFor", unfollowed := true, recurses := true, apart := false }
def FnExactResidentForSaid : Prop := fnExactResidentForRow.holds Try.pinned (OpenSpec.ofChange fnExactResidentForSpec)

/-- ITS FALSE NEIGHBOUR: 'it returns false'. Refute it at one input. -/
def fnExactResidentForWrong : ChangeSpec := { name := "fnExactResidentFor", fn := fun _ => fun
  | [d] => { results := [.lit (.bool false)], args := [d] }
  | _ => none }
def FnExactResidentForWrongFalsely : Prop := fnExactResidentForRow.holds Try.pinned (OpenSpec.ofChange fnExactResidentForWrong)

/-- 'laws.FnScores': WHATEVER THE INPUT: true; the input reads as it did. -/
def fnScoresSpec : ChangeSpec := { name := "fnScores", fn := fun _ => fun
  | [d] => { results := [.lit (.bool true)], args := [d] }
  | _ => none }
def fnScoresRow : OpenClaim := { program := "ytopckcppmpmcnaa", sum := "c039e06322602093244c7c755e2904f99735eb41f822da1b20b7ff99d69787bb", func := "loop.example/g00985/laws.FnScores", spec := "fnScores", unfollowed := true, recurses := true, apart := false }
def FnScoresSaid : Prop := fnScoresRow.holds Try.pinned (OpenSpec.ofChange fnScoresSpec)

/-- ITS FALSE NEIGHBOUR: 'it returns false'. Refute it at one input. -/
def fnScoresWrong : ChangeSpec := { name := "fnScores", fn := fun _ => fun
  | [d] => { results := [.lit (.bool false)], args := [d] }
  | _ => none }
def FnScoresWrongFalsely : Prop := fnScoresRow.holds Try.pinned (OpenSpec.ofChange fnScoresWrong)

/-- 'laws.FnHiding': WHATEVER THE INPUT: true; the input reads as it did. -/
def fnHidingSpec : ChangeSpec := { name := "fnHiding", fn := fun _ => fun
  | [d] => { results := [.lit (.bool true)], args := [d] }
  | _ => none }
def fnHidingRow : OpenClaim := { program := "ytopckcppmpmcnaa", sum := "c039e06322602093244c7c755e2904f99735eb41f822da1b20b7ff99d69787bb", func := "loop.example/g00985/laws.FnHiding", spec := "fnHiding", unfollowed := true, recurses := true, apart := false }
def FnHidingSaid : Prop := fnHidingRow.holds Try.pinned (OpenSpec.ofChange fnHidingSpec)

/-- ITS FALSE NEIGHBOUR: 'it returns false'. Refute it at one input. -/
def fnHidingWrong : ChangeSpec := { name := "fnHiding", fn := fun _ => fun
  | [d] => { results := [.lit (.bool false)], args := [d] }
  | _ => none }
def FnHidingWrongFalsely : Prop := fnHidingRow.holds Try.pinned (OpenSpec.ofChange fnHidingWrong)

/-- 'laws.FnIssues': WHATEVER THE INPUT: true; the input reads as it did. -/
def fnIssuesSpec : ChangeSpec := { name := "fnIssues", fn := fun _ => fun
  | [d] => { results := [.lit (.bool true)], args := [d] }
  | _ => none }
def fnIssuesRow : OpenClaim := { program := "ytopckcppmpmcnaa", sum := "c039e06322602093244c7c755e2904f99735eb41f822da1b20b7ff99d69787bb", func := "loop.example/g00985/laws.FnIssues", spec := "fnIssues", unfollowed := true, recurses := true, apart := false }
def FnIssuesSaid : Prop := fnIssuesRow.holds Try.pinned (OpenSpec.ofChange fnIssuesSpec)

/-- ITS FALSE NEIGHBOUR: 'it returns false'. Refute it at one input. -/
def fnIssuesWrong : ChangeSpec := { name := "fnIssues", fn := fun _ => fun
  | [d] => { results := [.lit (.bool false)], args := [d] }
  | _ => none }
def FnIssuesWrongFalsely : Prop := fnIssuesRow.holds Try.pinned (OpenSpec.ofChange fnIssuesWrong)

/-- 'laws.FnExactIdleCycles': WHATEVER THE INPUT: true; the input reads as it did. -/
def fnExactIdleCyclesSpec : ChangeSpec := { name := "fnExactIdleCycles", fn := fun _ => fun
  | [d] => { results := [.lit (.bool true)], args := [d] }
  | _ => none }
def fnExactIdleCyclesRow : OpenClaim := { program := "ytopckcppmpmcnaa", sum := "c039e06322602093244c7c755e2904f99735eb41f822da1b20b7ff99d69787bb", func := "loop.example/g00985/laws.FnExactIdleCycles", spec := "fnExactIdleCycles", apart := false }
def FnExactIdleCyclesSaid : Prop := fnExactIdleCyclesRow.holds Try.pinned (OpenSpec.ofChange fnExactIdleCyclesSpec)

/-- ITS FALSE NEIGHBOUR: 'it returns false'. Refute it at one input. -/
def fnExactIdleCyclesWrong : ChangeSpec := { name := "fnExactIdleCycles", fn := fun _ => fun
  | [d] => { results := [.lit (.bool false)], args := [d] }
  | _ => none }
def FnExactIdleCyclesWrongFalsely : Prop := fnExactIdleCyclesRow.holds Try.pinned (OpenSpec.ofChange fnExactIdleCyclesWrong)

/-- 'laws.FnExactCyclesOf': WHATEVER THE INPUT: true; the input reads as it did. -/
def fnExactCyclesOfSpec : ChangeSpec := { name := "fnExactCyclesOf", fn := fun _ => fun
  | [d] => { results := [.lit (.bool true)], args := [d] }
  | _ => none }
def fnExactCyclesOfRow : OpenClaim := { program := "ytopckcppmpmcnaa", sum := "c039e06322602093244c7c755e2904f99735eb41f822da1b20b7ff99d69787bb", func := "loop.example/g00985/laws.FnExactCyclesOf", spec := "fnExactCyclesOf", apart := false }
def FnExactCyclesOfSaid : Prop := fnExactCyclesOfRow.holds Try.pinned (OpenSpec.ofChange fnExactCyclesOfSpec)

/-- ITS FALSE NEIGHBOUR: 'it returns false'. Refute it at one input. -/
def fnExactCyclesOfWrong : ChangeSpec := { name := "fnExactCyclesOf", fn := fun _ => fun
  | [d] => { results := [.lit (.bool false)], args := [d] }
  | _ => none }
def FnExactCyclesOfWrongFalsely : Prop := fnExactCyclesOfRow.holds Try.pinned (OpenSpec.ofChange fnExactCyclesOfWrong)

/-- 'laws.FnExactWarpTimes': WHATEVER THE INPUT: true; the input reads as it did. -/
def fnExactWarpTimesSpec : ChangeSpec := { name := "fnExactWarpTimes", fn := fun _ => fun
  | [d1, d2] => { results := [.lit (.bool true)], args := [d1, d2] }
  | _ => none }
def fnExactWarpTimesRow : OpenClaim := { program := "ytopckcppmpmcnaa", sum := "c039e06322602093244c7c755e2904f99735eb41f822da1b20b7ff99d69787bb", func := "loop.example/g00985/laws.FnExactWarpTimes", spec := "fnExactWarpTimes", apart := false }
def FnExactWarpTimesSaid : Prop := fnExactWarpTimesRow.holds Try.pinned (OpenSpec.ofChange fnExactWarpTimesSpec)

/-- ITS FALSE NEIGHBOUR: 'it returns false'. Refute it at one input. -/
def fnExactWarpTimesWrong : ChangeSpec := { name := "fnExactWarpTimes", fn := fun _ => fun
  | [d1, d2] => { results := [.lit (.bool false)], args := [d1, d2] }
  | _ => none }
def FnExactWarpTimesWrongFalsely : Prop := fnExactWarpTimesRow.holds Try.pinned (OpenSpec.ofChange fnExactWarpTimesWrong)

/-- 'laws.FnExactAssignBlocks': WHATEVER THE INPUT: true; the input reads as it did. -/
def fnExactAssignBlocksSpec : ChangeSpec := { name := "fnExactAssignBlocks", fn := fun _ => fun
  | [d1, d2] => { results := [.lit (.bool true)], args := [d1, d2] }
  | _ => none }
def fnExactAssignBlocksRow : OpenClaim := { program := "ytopckcppmpmcnaa", sum := "c039e06322602093244c7c755e2904f99735eb41f822da1b20b7ff99d69787bb", func := "loop.example/g00985/laws.FnExactAssignBlocks", spec := "fnExactAssignBlocks", unfollowed := true, recurses := true, apart := false }
def FnExactAssignBlocksSaid : Prop := fnExactAssignBlocksRow.holds Try.pinned (OpenSpec.ofChange fnExactAssignBlocksSpec)

/-- ITS FALSE NEIGHBOUR: 'it returns false'. Refute it at one input. -/
def fnExactAssignBlocksWrong : ChangeSpec := { name := "fnExactAssignBlocks", fn := fun _ => fun
  | [d1, d2] => { results := [.lit (.bool false)], args := [d1, d2] }
  | _ => none }
def FnExactAssignBlocksWrongFalsely : Prop := fnExactAssignBlocksRow.holds Try.pinned (OpenSpec.ofChange fnExactAssignBlocksWrong)

/-- 'laws.FnExactSortedTimes': WHATEVER THE INPUT: true; the input reads as it did. -/
def fnExactSortedTimesSpec : ChangeSpec := { name := "fnExactSortedTimes", fn := fun _ => fun
  | [d] => { results := [.lit (.bool true)], args := [d] }
  | _ => none }
def fnExactSortedTimesRow : OpenClaim := { program := "ytopckcppmpmcnaa", sum := "c039e06322602093244c7c755e2904f99735eb41f822da1b20b7ff99d69787bb", func := "loop.example/g00985/laws.FnExactSortedTimes", spec := "fnExactSortedTimes", unfollowed := true, recurses := true, apart := false }
def FnExactSortedTimesSaid : Prop := fnExactSortedTimesRow.holds Try.pinned (OpenSpec.ofChange fnExactSortedTimesSpec)

/-- ITS FALSE NEIGHBOUR: 'it returns false'. Refute it at one input. -/
def fnExactSortedTimesWrong : ChangeSpec := { name := "fnExactSortedTimes", fn := fun _ => fun
  | [d] => { results := [.lit (.bool false)], args := [d] }
  | _ => none }
def FnExactSortedTimesWrongFalsely : Prop := fnExactSortedTimesRow.holds Try.pinned (OpenSpec.ofChange fnExactSortedTimesWrong)

/-- 'laws.FnLaunches': WHATEVER THE INPUT: true; the input reads as it did. -/
def fnLaunchesSpec : ChangeSpec := { name := "fnLaunches", fn := fun _ => fun
  | [d] => { results := [.lit (.bool true)], args := [d] }
  | _ => none }
def fnLaunchesRow : OpenClaim := { program := "ytopckcppmpmcnaa", sum := "c039e06322602093244c7c755e2904f99735eb41f822da1b20b7ff99d69787bb", func := "loop.example/g00985/laws.FnLaunches", spec := "fnLaunches", unfollowed := true, recurses := true, apart := false }
def FnLaunchesSaid : Prop := fnLaunchesRow.holds Try.pinned (OpenSpec.ofChange fnLaunchesSpec)

/-- ITS FALSE NEIGHBOUR: 'it returns false'. Refute it at one input. -/
def fnLaunchesWrong : ChangeSpec := { name := "fnLaunches", fn := fun _ => fun
  | [d] => { results := [.lit (.bool false)], args := [d] }
  | _ => none }
def FnLaunchesWrongFalsely : Prop := fnLaunchesRow.holds Try.pinned (OpenSpec.ofChange fnLaunchesWrong)

/- THE SECOND FORM. 'bulk': how many values and letters a reading holds, each counted each time it is reached (what is shared counts as often as it is met; a slice's spare places count too). A statement '..UptoSaid' is the law's where the arguments, and the package variables that the reading takes, are together of bulk at most 1048576: NARROWER than '..Said'. Prove '..Said' where nothing that the law and all that it calls make is longer than what came in: it says more and counts as full. Else prove '..UptoSaid'. A law counts once. -/
mutual
def uptoBulk {H : Type} : DataW H → Nat
  | .lit (.string bytes) => bytes.length + 1
  | .lit _ => 1
  | .nil => 1
  | .ptr d => uptoBulk d + 1
  | .slice elems spare => uptoBulkAll elems + uptoBulkAll spare + 1
  | .agg parts => uptoBulkAll parts + 1
  | .iface _ d => uptoBulk d + 1
  | .map entries => uptoBulkEntries entries + 1
  | .held _ => 1
def uptoBulkAll {H : Type} : List (DataW H) → Nat
  | [] => 0
  | d :: r => uptoBulk d + uptoBulkAll r
def uptoBulkEntries {H : Type} : List (Lit × DataW H) → Nat
  | [] => 0
  | x :: r => uptoBulkEntry x + uptoBulkEntries r
def uptoBulkEntry {H : Type} : Lit × DataW H → Nat
  | (.string bytes, d) => bytes.length + uptoBulk d + 1
  | (_, d) => uptoBulk d + 1
 end
def uptoSmall : (H : Type) → List (DataW H) → Bool := fun _ ds => decide (uptoBulkAll ds ≤ 1048576)
def OpenSpec.upto (s : _root_.Go.ChangeSpec) : _root_.Go.OpenSpec := { _root_.Go.OpenSpec.ofChange s with cond := some uptoSmall }

/-- 'laws.FnExactListOk', WHERE WHAT IT READS IS OF BULK AT MOST 1048576: true; the input reads as it did. -/
def fnExactListOkUptoRow : OpenClaim := { program := "ytopckcppmpmcnaa", sum := "c039e06322602093244c7c755e2904f99735eb41f822da1b20b7ff99d69787bb", func := "loop.example/g00985/laws.FnExactListOk", spec := "fnExactListOk", unfollowed := true, recurses := true, apart := false, narrowed := true }
def FnExactListOkUptoSaid : Prop := fnExactListOkUptoRow.holds Try.pinned (OpenSpec.upto fnExactListOkSpec)

/-- 'laws.FnExactCriticalPath', WHERE WHAT IT READS IS OF BULK AT MOST 1048576: true; the input reads as it did. -/
def fnExactCriticalPathUptoRow : OpenClaim := { program := "ytopckcppmpmcnaa", sum := "c039e06322602093244c7c755e2904f99735eb41f822da1b20b7ff99d69787bb", func := "loop.example/g00985/laws.FnExactCriticalPath", spec := "fnExactCriticalPath", unfollowed := true, recurses := true, apart := false, narrowed := true }
def FnExactCriticalPathUptoSaid : Prop := fnExactCriticalPathUptoRow.holds Try.pinned (OpenSpec.upto fnExactCriticalPathSpec)

/-- 'laws.FnExactStallCycles', WHERE WHAT IT READS IS OF BULK AT MOST 1048576: true; the input reads as it did. -/
def fnExactStallCyclesUptoRow : OpenClaim := { program := "ytopckcppmpmcnaa", sum := "c039e06322602093244c7c755e2904f99735eb41f822da1b20b7ff99d69787bb", func := "loop.example/g00985/laws.FnExactStallCycles", spec := "fnExactStallCycles", unfollowed := true, recurses := true, apart := false, narrowed := true }
def FnExactStallCyclesUptoSaid : Prop := fnExactStallCyclesUptoRow.holds Try.pinned (OpenSpec.upto fnExactStallCyclesSpec)

/-- 'laws.FnExactTotalTime', WHERE WHAT IT READS IS OF BULK AT MOST 1048576: true; the input reads as it did. -/
def fnExactTotalTimeUptoRow : OpenClaim := { program := "ytopckcppmpmcnaa", sum := "c039e06322602093244c7c755e2904f99735eb41f822da1b20b7ff99d69787bb", func := "loop.example/g00985/laws.FnExactTotalTime", spec := "fnExactTotalTime", unfollowed := true, recurses := true, apart := false, narrowed := true }
def FnExactTotalTimeUptoSaid : Prop := fnExactTotalTimeUptoRow.holds Try.pinned (OpenSpec.upto fnExactTotalTimeSpec)

/-- 'laws.FnExactIssueTimes', WHERE WHAT IT READS IS OF BULK AT MOST 1048576: true; the input reads as it did. -/
def fnExactIssueTimesUptoRow : OpenClaim := { program := "ytopckcppmpmcnaa", sum := "c039e06322602093244c7c755e2904f99735eb41f822da1b20b7ff99d69787bb", func := "loop.example/g00985/laws.FnExactIssueTimes", spec := "fnExactIssueTimes", unfollowed := true, recurses := true, apart := false, narrowed := true }
def FnExactIssueTimesUptoSaid : Prop := fnExactIssueTimesUptoRow.holds Try.pinned (OpenSpec.upto fnExactIssueTimesSpec)

/-- 'laws.FnExactIssueAll', WHERE WHAT IT READS IS OF BULK AT MOST 1048576: true; the input reads as it did. -/
def fnExactIssueAllUptoRow : OpenClaim := { program := "ytopckcppmpmcnaa", sum := "c039e06322602093244c7c755e2904f99735eb41f822da1b20b7ff99d69787bb", func := "loop.example/g00985/laws.FnExactIssueAll", spec := "fnExactIssueAll", unfollowed := true, recurses := true, apart := false, narrowed := true }
def FnExactIssueAllUptoSaid : Prop := fnExactIssueAllUptoRow.holds Try.pinned (OpenSpec.upto fnExactIssueAllSpec)

/-- 'laws.FnExactResidentFor', WHERE WHAT IT READS IS OF BULK AT MOST 1048576: true; the input reads as it did. -/
def fnExactResidentForUptoRow : OpenClaim := { program := "ytopckcppmpmcnaa", sum := "c039e06322602093244c7c755e2904f99735eb41f822da1b20b7ff99d69787bb", func := "loop.example/g00985/laws.FnExactResidentFor", spec := "fnExactResidentFor", unfollowed := true, recurses := true, apart := false, narrowed := true }
def FnExactResidentForUptoSaid : Prop := fnExactResidentForUptoRow.holds Try.pinned (OpenSpec.upto fnExactResidentForSpec)

/-- 'laws.FnScores', WHERE WHAT IT READS IS OF BULK AT MOST 1048576: true; the input reads as it did. -/
def fnScoresUptoRow : OpenClaim := { program := "ytopckcppmpmcnaa", sum := "c039e06322602093244c7c755e2904f99735eb41f822da1b20b7ff99d69787bb", func := "loop.example/g00985/laws.FnScores", spec := "fnScores", unfollowed := true, recurses := true, apart := false, narrowed := true }
def FnScoresUptoSaid : Prop := fnScoresUptoRow.holds Try.pinned (OpenSpec.upto fnScoresSpec)

/-- 'laws.FnHiding', WHERE WHAT IT READS IS OF BULK AT MOST 1048576: true; the input reads as it did. -/
def fnHidingUptoRow : OpenClaim := { program := "ytopckcppmpmcnaa", sum := "c039e06322602093244c7c755e2904f99735eb41f822da1b20b7ff99d69787bb", func := "loop.example/g00985/laws.FnHiding", spec := "fnHiding", unfollowed := true, recurses := true, apart := false, narrowed := true }
def FnHidingUptoSaid : Prop := fnHidingUptoRow.holds Try.pinned (OpenSpec.upto fnHidingSpec)

/-- 'laws.FnIssues', WHERE WHAT IT READS IS OF BULK AT MOST 1048576: true; the input reads as it did. -/
def fnIssuesUptoRow : OpenClaim := { program := "ytopckcppmpmcnaa", sum := "c039e06322602093244c7c755e2904f99735eb41f822da1b20b7ff99d69787bb", func := "loop.example/g00985/laws.FnIssues", spec := "fnIssues", unfollowed := true, recurses := true, apart := false, narrowed := true }
def FnIssuesUptoSaid : Prop := fnIssuesUptoRow.holds Try.pinned (OpenSpec.upto fnIssuesSpec)

/-- 'laws.FnExactIdleCycles', WHERE WHAT IT READS IS OF BULK AT MOST 1048576: true; the input reads as it did. -/
def fnExactIdleCyclesUptoRow : OpenClaim := { program := "ytopckcppmpmcnaa", sum := "c039e06322602093244c7c755e2904f99735eb41f822da1b20b7ff99d69787bb", func := "loop.example/g00985/laws.FnExactIdleCycles", spec := "fnExactIdleCycles", apart := false, narrowed := true }
def FnExactIdleCyclesUptoSaid : Prop := fnExactIdleCyclesUptoRow.holds Try.pinned (OpenSpec.upto fnExactIdleCyclesSpec)

/-- 'laws.FnExactCyclesOf', WHERE WHAT IT READS IS OF BULK AT MOST 1048576: true; the input reads as it did. -/
def fnExactCyclesOfUptoRow : OpenClaim := { program := "ytopckcppmpmcnaa", sum := "c039e06322602093244c7c755e2904f99735eb41f822da1b20b7ff99d69787bb", func := "loop.example/g00985/laws.FnExactCyclesOf", spec := "fnExactCyclesOf", apart := false, narrowed := true }
def FnExactCyclesOfUptoSaid : Prop := fnExactCyclesOfUptoRow.holds Try.pinned (OpenSpec.upto fnExactCyclesOfSpec)

/-- 'laws.FnExactWarpTimes', WHERE WHAT IT READS IS OF BULK AT MOST 1048576: true; the input reads as it did. -/
def fnExactWarpTimesUptoRow : OpenClaim := { program := "ytopckcppmpmcnaa", sum := "c039e06322602093244c7c755e2904f99735eb41f822da1b20b7ff99d69787bb", func := "loop.example/g00985/laws.FnExactWarpTimes", spec := "fnExactWarpTimes", apart := false, narrowed := true }
def FnExactWarpTimesUptoSaid : Prop := fnExactWarpTimesUptoRow.holds Try.pinned (OpenSpec.upto fnExactWarpTimesSpec)

/-- 'laws.FnExactAssignBlocks', WHERE WHAT IT READS IS OF BULK AT MOST 1048576: true; the input reads as it did. -/
def fnExactAssignBlocksUptoRow : OpenClaim := { program := "ytopckcppmpmcnaa", sum := "c039e06322602093244c7c755e2904f99735eb41f822da1b20b7ff99d69787bb", func := "loop.example/g00985/laws.FnExactAssignBlocks", spec := "fnExactAssignBlocks", unfollowed := true, recurses := true, apart := false, narrowed := true }
def FnExactAssignBlocksUptoSaid : Prop := fnExactAssignBlocksUptoRow.holds Try.pinned (OpenSpec.upto fnExactAssignBlocksSpec)

/-- 'laws.FnExactSortedTimes', WHERE WHAT IT READS IS OF BULK AT MOST 1048576: true; the input reads as it did. -/
def fnExactSortedTimesUptoRow : OpenClaim := { program := "ytopckcppmpmcnaa", sum := "c039e06322602093244c7c755e2904f99735eb41f822da1b20b7ff99d69787bb", func := "loop.example/g00985/laws.FnExactSortedTimes", spec := "fnExactSortedTimes", unfollowed := true, recurses := true, apart := false, narrowed := true }
def FnExactSortedTimesUptoSaid : Prop := fnExactSortedTimesUptoRow.holds Try.pinned (OpenSpec.upto fnExactSortedTimesSpec)

/-- 'laws.FnLaunches', WHERE WHAT IT READS IS OF BULK AT MOST 1048576: true; the input reads as it did. -/
def fnLaunchesUptoRow : OpenClaim := { program := "ytopckcppmpmcnaa", sum := "c039e06322602093244c7c755e2904f99735eb41f822da1b20b7ff99d69787bb", func := "loop.example/g00985/laws.FnLaunches", spec := "fnLaunches", unfollowed := true, recurses := true, apart := false, narrowed := true }
def FnLaunchesUptoSaid : Prop := fnLaunchesUptoRow.holds Try.pinned (OpenSpec.upto fnLaunchesSpec)

end Rows
end Go.Proofs.Ytopckcppmpmcnaa
