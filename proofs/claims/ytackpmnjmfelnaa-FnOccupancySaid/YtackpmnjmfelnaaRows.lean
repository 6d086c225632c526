/-
  No cell of these rows narrows 'for every input' (looked for: loops, veiled, ifaces, maps, wideKeys, modest, calm, conditions, laid).
  DERIVED. THE GIVEN ROWS OF THIS SEAT. 12 by the template 'for every input the law returns true; each argument reads behind the call as it read before'; 0 by the template 'total and deterministic' (their statements: YtackpmnjmfelnaaTotals.lean).
  GIVEN WITH THE SEED: the statements are not yours to turn. If you find one false, say at which input.
  Laid BY PROGRAM, IN A SANDBOX (cutbox-rows.mjs): the forced cells as the released guide's own fill.sh prints them over the translation 1217b4b650e05328… (all of the seat's roots in one cut). By AI agents, Wed Nov 11 2026. No macro, syntax, notation, axiom, sorry.
-/
import Derived.Test.YtackpmnjmfelnaaChecked
import GoSem.Claim
import GoSem.ClaimJoined
import GoSem.ClaimMapViews
import Derived.JoinedTies
import Derived.KernelRfl
namespace Go.Proofs.Ytackpmnjmfelnaa
/- THE CELL 'sum', in the pinned program and in every row, IS THE sha256 OF THE DUMP (.gsa) THAT YtackpmnjmfelnaaProg.lean LOADS. Nothing in Lean hashes anything: it is a label: what it is worth is what the hold of that sum in a sandbox is worth. -/
noncomputable def Try.pinned : Pinned := { name := "ytackpmnjmfelnaa", sum := "1217b4b650e053286ac4abbf6808eff89c87ce1ccf1749377a39c67382128865", checked := Try.checked }
namespace Rows
def none {H : Type} : Left H := { results := [], args := [] }

/-- 'laws.FnExactNeedOk': WHATEVER THE INPUT: true; the input reads as it did. -/
def fnExactNeedOkSpec : ChangeSpec := { name := "fnExactNeedOk", fn := fun _ => fun
  | [d] => { results := [.lit (.bool true)], args := [d] }
  | _ => none }
def fnExactNeedOkRow : OpenClaim := { program := "ytackpmnjmfelnaa", sum := "1217b4b650e053286ac4abbf6808eff89c87ce1ccf1749377a39c67382128865", func := "loop.example/g00985/laws.FnExactNeedOk", spec := "fnExactNeedOk", apart := false }
def FnExactNeedOkSaid : Prop := fnExactNeedOkRow.holds Try.pinned (OpenSpec.ofChange fnExactNeedOkSpec)

/-- ITS FALSE NEIGHBOUR: 'it returns false'. Refute it at one input. -/
def fnExactNeedOkWrong : ChangeSpec := { name := "fnExactNeedOk", fn := fun _ => fun
  | [d] => { results := [.lit (.bool false)], args := [d] }
  | _ => none }
def FnExactNeedOkWrongFalsely : Prop := fnExactNeedOkRow.holds Try.pinned (OpenSpec.ofChange fnExactNeedOkWrong)

/-- 'laws.FnExactLatencyOf': WHATEVER THE INPUT: true; the input reads as it did. -/
def fnExactLatencyOfSpec : ChangeSpec := { name := "fnExactLatencyOf", fn := fun _ => fun
  | [d] => { results := [.lit (.bool true)], args := [d] }
  | _ => none }
def fnExactLatencyOfRow : OpenClaim := { program := "ytackpmnjmfelnaa", sum := "1217b4b650e053286ac4abbf6808eff89c87ce1ccf1749377a39c67382128865", func := "loop.example/g00985/laws.FnExactLatencyOf", spec := "fnExactLatencyOf", apart := false }
def FnExactLatencyOfSaid : Prop := fnExactLatencyOfRow.holds Try.pinned (OpenSpec.ofChange fnExactLatencyOfSpec)

/-- ITS FALSE NEIGHBOUR: 'it returns false'. Refute it at one input. -/
def fnExactLatencyOfWrong : ChangeSpec := { name := "fnExactLatencyOf", fn := fun _ => fun
  | [d] => { results := [.lit (.bool false)], args := [d] }
  | _ => none }
def FnExactLatencyOfWrongFalsely : Prop := fnExactLatencyOfRow.holds Try.pinned (OpenSpec.ofChange fnExactLatencyOfWrong)

/-- 'laws.FnExactLimitsOk': WHATEVER THE INPUT: true; the input reads as it did. -/
def fnExactLimitsOkSpec : ChangeSpec := { name := "fnExactLimitsOk", fn := fun _ => fun
  | [d] => { results := [.lit (.bool true)], args := [d] }
  | _ => none }
def fnExactLimitsOkRow : OpenClaim := { program := "ytackpmnjmfelnaa", sum := "1217b4b650e053286ac4abbf6808eff89c87ce1ccf1749377a39c67382128865", func := "loop.example/g00985/laws.FnExactLimitsOk", spec := "fnExactLimitsOk", unfollowed := true, recurses := true, apart := false }
def FnExactLimitsOkSaid : Prop := fnExactLimitsOkRow.holds Try.pinned (OpenSpec.ofChange fnExactLimitsOkSpec)

/-- ITS FALSE NEIGHBOUR: 'it returns false'. Refute it at one input. -/
def fnExactLimitsOkWrong : ChangeSpec := { name := "fnExactLimitsOk", fn := fun _ => fun
  | [d] => { results := [.lit (.bool false)], args := [d] }
  | _ => none }
def FnExactLimitsOkWrongFalsely : Prop := fnExactLimitsOkRow.holds Try.pinned (OpenSpec.ofChange fnExactLimitsOkWrong)

/-- 'laws.FnExactActOk': WHATEVER THE INPUT: true; the input reads as it did. -/
def fnExactActOkSpec : ChangeSpec := { name := "fnExactActOk", fn := fun _ => fun
  | [d] => { results := [.lit (.bool true)], args := [d] }
  | _ => none }
def fnExactActOkRow : OpenClaim := { program := "ytackpmnjmfelnaa", sum := "1217b4b650e053286ac4abbf6808eff89c87ce1ccf1749377a39c67382128865", func := "loop.example/g00985/laws.FnExactActOk", spec := "fnExactActOk", apart := false }
def FnExactActOkSaid : Prop := fnExactActOkRow.holds Try.pinned (OpenSpec.ofChange fnExactActOkSpec)

/-- ITS FALSE NEIGHBOUR: 'it returns false'. Refute it at one input. -/
def fnExactActOkWrong : ChangeSpec := { name := "fnExactActOk", fn := fun _ => fun
  | [d] => { results := [.lit (.bool false)], args := [d] }
  | _ => none }
def FnExactActOkWrongFalsely : Prop := fnExactActOkRow.holds Try.pinned (OpenSpec.ofChange fnExactActOkWrong)

/-- 'laws.FnExactTimesOk': WHATEVER THE INPUT: true; the input reads as it did. -/
def fnExactTimesOkSpec : ChangeSpec := { name := "fnExactTimesOk", fn := fun _ => fun
  | [d] => { results := [.lit (.bool true)], args := [d] }
  | _ => none }
def fnExactTimesOkRow : OpenClaim := { program := "ytackpmnjmfelnaa", sum := "1217b4b650e053286ac4abbf6808eff89c87ce1ccf1749377a39c67382128865", func := "loop.example/g00985/laws.FnExactTimesOk", spec := "fnExactTimesOk", unfollowed := true, recurses := true, apart := false }
def FnExactTimesOkSaid : Prop := fnExactTimesOkRow.holds Try.pinned (OpenSpec.ofChange fnExactTimesOkSpec)

/-- ITS FALSE NEIGHBOUR: 'it returns false'. Refute it at one input. -/
def fnExactTimesOkWrong : ChangeSpec := { name := "fnExactTimesOk", fn := fun _ => fun
  | [d] => { results := [.lit (.bool false)], args := [d] }
  | _ => none }
def FnExactTimesOkWrongFalsely : Prop := fnExactTimesOkRow.holds Try.pinned (OpenSpec.ofChange fnExactTimesOkWrong)

/-- 'laws.FnExactFits': WHATEVER THE INPUT: true; the input reads as it did. -/
def fnExactFitsSpec : ChangeSpec := { name := "fnExactFits", fn := fun _ => fun
  | [d1, d2, d3] => { results := [.lit (.bool true)], args := [d1, d2, d3] }
  | _ => none }
def fnExactFitsRow : OpenClaim := { program := "ytackpmnjmfelnaa", sum := "1217b4b650e053286ac4abbf6808eff89c87ce1ccf1749377a39c67382128865", func := "loop.example/g00985/laws.FnExactFits", spec := "fnExactFits", unfollowed := true, recurses := true, apart := false }
def FnExactFitsSaid : Prop := fnExactFitsRow.holds Try.pinned (OpenSpec.ofChange fnExactFitsSpec)

/-- ITS FALSE NEIGHBOUR: 'it returns false'. Refute it at one input. -/
def fnExactFitsWrong : ChangeSpec := { name := "fnExactFits", fn := fun _ => fun
  | [d1, d2, d3] => { results := [.lit (.bool false)], args := [d1, d2, d3] }
  | _ => none }
def FnExactFitsWrongFalsely : Prop := fnExactFitsRow.holds Try.pinned (OpenSpec.ofChange fnExactFitsWrong)

/-- 'laws.FnExactLeastSpan': WHATEVER THE INPUT: true; the input reads as it did. -/
def fnExactLeastSpanSpec : ChangeSpec := { name := "fnExactLeastSpan", fn := fun _ => fun
  | [d1, d2] => { results := [.lit (.bool true)], args := [d1, d2] }
  | _ => none }
def fnExactLeastSpanRow : OpenClaim := { program := "ytackpmnjmfelnaa", sum := "1217b4b650e053286ac4abbf6808eff89c87ce1ccf1749377a39c67382128865", func := "loop.example/g00985/laws.FnExactLeastSpan", spec := "fnExactLeastSpan", unfollowed := true, recurses := true, apart := false }
def FnExactLeastSpanSaid : Prop := fnExactLeastSpanRow.holds Try.pinned (OpenSpec.ofChange fnExactLeastSpanSpec)

/-- ITS FALSE NEIGHBOUR: 'it returns false'. Refute it at one input. -/
def fnExactLeastSpanWrong : ChangeSpec := { name := "fnExactLeastSpan", fn := fun _ => fun
  | [d1, d2] => { results := [.lit (.bool false)], args := [d1, d2] }
  | _ => none }
def FnExactLeastSpanWrongFalsely : Prop := fnExactLeastSpanRow.holds Try.pinned (OpenSpec.ofChange fnExactLeastSpanWrong)

/-- 'laws.FnExactBlocksPerCore': WHATEVER THE INPUT: true; the input reads as it did. -/
def fnExactBlocksPerCoreSpec : ChangeSpec := { name := "fnExactBlocksPerCore", fn := fun _ => fun
  | [d1, d2] => { results := [.lit (.bool true)], args := [d1, d2] }
  | _ => none }
def fnExactBlocksPerCoreRow : OpenClaim := { program := "ytackpmnjmfelnaa", sum := "1217b4b650e053286ac4abbf6808eff89c87ce1ccf1749377a39c67382128865", func := "loop.example/g00985/laws.FnExactBlocksPerCore", spec := "fnExactBlocksPerCore", unfollowed := true, recurses := true, apart := false }
def FnExactBlocksPerCoreSaid : Prop := fnExactBlocksPerCoreRow.holds Try.pinned (OpenSpec.ofChange fnExactBlocksPerCoreSpec)

/-- ITS FALSE NEIGHBOUR: 'it returns false'. Refute it at one input. -/
def fnExactBlocksPerCoreWrong : ChangeSpec := { name := "fnExactBlocksPerCore", fn := fun _ => fun
  | [d1, d2] => { results := [.lit (.bool false)], args := [d1, d2] }
  | _ => none }
def FnExactBlocksPerCoreWrongFalsely : Prop := fnExactBlocksPerCoreRow.holds Try.pinned (OpenSpec.ofChange fnExactBlocksPerCoreWrong)

/-- 'laws.FnExactMakespan': WHATEVER THE INPUT: true; the input reads as it did. -/
def fnExactMakespanSpec : ChangeSpec := { name := "fnExactMakespan", fn := fun _ => fun
  | [d1, d2] => { results := [.lit (.bool true)], args := [d1, d2] }
  | _ => none }
def fnExactMakespanRow : OpenClaim := { program := "ytackpmnjmfelnaa", sum := "1217b4b650e053286ac4abbf6808eff89c87ce1ccf1749377a39c67382128865", func := "loop.example/g00985/laws.FnExactMakespan", spec := "fnExactMakespan", unfollowed := true, recurses := true, apart := false }
def FnExactMakespanSaid : Prop := fnExactMakespanRow.holds Try.pinned (OpenSpec.ofChange fnExactMakespanSpec)

/-- ITS FALSE NEIGHBOUR: 'it returns false'. Refute it at one input. -/
def fnExactMakespanWrong : ChangeSpec := { name := "fnExactMakespan", fn := fun _ => fun
  | [d1, d2] => { results := [.lit (.bool false)], args := [d1, d2] }
  | _ => none }
def FnExactMakespanWrongFalsely : Prop := fnExactMakespanRow.holds Try.pinned (OpenSpec.ofChange fnExactMakespanWrong)

/-- 'laws.FnExactOccupancyOf': WHATEVER THE INPUT: true; the input reads as it did. -/
def fnExactOccupancyOfSpec : ChangeSpec := { name := "fnExactOccupancyOf", fn := fun _ => fun
  | [d1, d2] => { results := [.lit (.bool true)], args := [d1, d2] }
  | _ => none }
def fnExactOccupancyOfRow : OpenClaim := { program := "ytackpmnjmfelnaa", sum := "1217b4b650e053286ac4abbf6808eff89c87ce1ccf1749377a39c67382128865", func := "loop.example/g00985/laws.FnExactOccupancyOf", spec := "fnExactOccupancyOf", unfollowed := true, recurses := true, apart := false }
def FnExactOccupancyOfSaid : Prop := fnExactOccupancyOfRow.holds Try.pinned (OpenSpec.ofChange fnExactOccupancyOfSpec)

/-- ITS FALSE NEIGHBOUR: 'it returns false'. Refute it at one input. -/
def fnExactOccupancyOfWrong : ChangeSpec := { name := "fnExactOccupancyOf", fn := fun _ => fun
  | [d1, d2] => { results := [.lit (.bool false)], args := [d1, d2] }
  | _ => none }
def FnExactOccupancyOfWrongFalsely : Prop := fnExactOccupancyOfRow.holds Try.pinned (OpenSpec.ofChange fnExactOccupancyOfWrong)

/-- 'laws.FnExactLimitedBy': WHATEVER THE INPUT: true; the input reads as it did. -/
def fnExactLimitedBySpec : ChangeSpec := { name := "fnExactLimitedBy", fn := fun _ => fun
  | [d1, d2] => { results := [.lit (.bool true)], args := [d1, d2] }
  | _ => none }
def fnExactLimitedByRow : OpenClaim := { program := "ytackpmnjmfelnaa", sum := "1217b4b650e053286ac4abbf6808eff89c87ce1ccf1749377a39c67382128865", func := "loop.example/g00985/laws.FnExactLimitedBy", spec := "fnExactLimitedBy", unfollowed := true, recurses := true, apart := false }
def FnExactLimitedBySaid : Prop := fnExactLimitedByRow.holds Try.pinned (OpenSpec.ofChange fnExactLimitedBySpec)

/-- ITS FALSE NEIGHBOUR: 'it returns false'. Refute it at one input. -/
def fnExactLimitedByWrong : ChangeSpec := { name := "fnExactLimitedBy", fn := fun _ => fun
  | [d1, d2] => { results := [.lit (.bool false)], args := [d1, d2] }
  | _ => none }
def FnExactLimitedByWrongFalsely : Prop := fnExactLimitedByRow.holds Try.pinned (OpenSpec.ofChange fnExactLimitedByWrong)

/-- 'laws.FnOccupancy': WHATEVER THE INPUT: true; the input reads as it did. -/
def fnOccupancySpec : ChangeSpec := { name := "fnOccupancy", fn := fun _ => fun
  | [d] => { results := [.lit (.bool true)], args := [d] }
  | _ => none }
def fnOccupancyRow : OpenClaim := { program := "ytackpmnjmfelnaa", sum := "1217b4b650e053286ac4abbf6808eff89c87ce1ccf1749377a39c67382128865", func := "loop.example/g00985/laws.FnOccupancy", spec := "fnOccupancy", unfollowed := true, recurses := true, apart := false }
def FnOccupancySaid : Prop := fnOccupancyRow.holds Try.pinned (OpenSpec.ofChange fnOccupancySpec)

/-- ITS FALSE NEIGHBOUR: 'it returns false'. Refute it at one input. -/
def fnOccupancyWrong : ChangeSpec := { name := "fnOccupancy", fn := fun _ => fun
  | [d] => { results := [.lit (.bool false)], args := [d] }
  | _ => none }
def FnOccupancyWrongFalsely : Prop := fnOccupancyRow.holds Try.pinned (OpenSpec.ofChange fnOccupancyWrong)

/- THE SECOND FORM. 'bulk': how many values and letters a reading holds, each counted each time it is reached (what is shared counts as often as it is met; a slice's spare places count too). A statement '..UptoSaid' is the law's where the arguments, and the package variables that the reading takes, are together of bulk at most 1048576: NARROWER than '..Said'. Prove '..Said' where nothing that the law and all that it calls make is longer than what came in: it says more and counts as full. Else prove '..UptoSaid'. A law counts once. -/
mutual
def uptoBulk {H : Type} : DataW H → Nat
  | .lit (.string bytes) => bytes.length + 1
  | .lit _ => 1
  | .nil => 1
  | .ptr d => uptoBulk d + 1
  | .slice elems spare => uptoBulkAll elems + uptoBulkAll spare + 1
  | .agg parts => uptoBulkAll parts + 1
  | .iface _ d => uptoBulk d + 1
  | .map entries => uptoBulkEntries entries + 1
  | .held _ => 1
def uptoBulkAll {H : Type} : List (DataW H) → Nat
  | [] => 0
  | d :: r => uptoBulk d + uptoBulkAll r
def uptoBulkEntries {H : Type} : List (Lit × DataW H) → Nat
  | [] => 0
  | x :: r => uptoBulkEntry x + uptoBulkEntries r
def uptoBulkEntry {H : Type} : Lit × DataW H → Nat
  | (.string bytes, d) => bytes.length + uptoBulk d + 1
  | (_, d) => uptoBulk d + 1
 end
def uptoSmall : (H : Type) → List (DataW H) → Bool := fun _ ds => decide (uptoBulkAll ds ≤ 1048576)
def OpenSpec.upto (s : _root_.Go.ChangeSpec) : _root_.Go.OpenSpec := { _root_.Go.OpenSpec.ofChange s with cond := some uptoSmall }

/-- 'laws.FnExactNeedOk', WHERE WHAT IT READS IS OF BULK AT MOST 1048576: true; the input reads as it did. -/
def fnExactNeedOkUptoRow : OpenClaim := { program := "ytackpmnjmfelnaa", sum := "1217b4b650e053286ac4abbf6808eff89c87ce1ccf1749377a39c67382128865", func := "loop.example/g00985/laws.FnExactNeedOk", spec := "fnExactNeedOk", apart := false, narrowed := true }
def FnExactNeedOkUptoSaid : Prop := fnExactNeedOkUptoRow.holds Try.pinned (OpenSpec.upto fnExactNeedOkSpec)

/-- 'laws.FnExactLatencyOf', WHERE WHAT IT READS IS OF BULK AT MOST 1048576: true; the input reads as it did. -/
def fnExactLatencyOfUptoRow : OpenClaim := { program := "ytackpmnjmfelnaa", sum := "1217b4b650e053286ac4abbf6808eff89c87ce1ccf1749377a39c67382128865", func := "loop.example/g00985/laws.FnExactLatencyOf", spec := "fnExactLatencyOf", apart := false, narrowed := true }
def FnExactLatencyOfUptoSaid : Prop := fnExactLatencyOfUptoRow.holds Try.pinned (OpenSpec.upto fnExactLatencyOfSpec)

/-- 'laws.FnExactLimitsOk', WHERE WHAT IT READS IS OF BULK AT MOST 1048576: true; the input reads as it did. -/
def fnExactLimitsOkUptoRow : OpenClaim := { program := "ytackpmnjmfelnaa", sum := "1217b4b650e053286ac4abbf6808eff89c87ce1ccf1749377a39c67382128865", func := "loop.example/g00985/laws.FnExactLimitsOk", spec := "fnExactLimitsOk", unfollowed := true, recurses := true, apart := false, narrowed := true }
def FnExactLimitsOkUptoSaid : Prop := fnExactLimitsOkUptoRow.holds Try.pinned (OpenSpec.upto fnExactLimitsOkSpec)

/-- 'laws.FnExactActOk', WHERE WHAT IT READS IS OF BULK AT MOST 1048576: true; the input reads as it did. -/
def fnExactActOkUptoRow : OpenClaim := { program := "ytackpmnjmfelnaa", sum := "1217b4b650e053286ac4abbf6808eff89c87ce1ccf1749377a39c67382128865", func := "loop.example/g00985/laws.FnExactActOk", spec := "fnExactActOk", apart := false, narrowed := true }
def FnExactActOkUptoSaid : Prop := fnExactActOkUptoRow.holds Try.pinned (OpenSpec.upto fnExactActOkSpec)

/-- 'laws.FnExactTimesOk', WHERE WHAT IT READS IS OF BULK AT MOST 1048576: true; the input reads as it did. -/
def fnExactTimesOkUptoRow : OpenClaim := { program := "ytackpmnjmfelnaa", sum := "1217b4b650e053286ac4abbf6808eff89c87ce1ccf1749377a39c67382128865", func := "loop.example/g00985/laws.FnExactTimesOk", spec := "fnExactTimesOk", unfollowed := true, recurses := true, apart := false, narrowed := true }
def FnExactTimesOkUptoSaid : Prop := fnExactTimesOkUptoRow.holds Try.pinned (OpenSpec.upto fnExactTimesOkSpec)

/-- 'laws.FnExactFits', WHERE WHAT IT READS IS OF BULK AT MOST 1048576: true; the input reads as it did. -/
def fnExactFitsUptoRow : OpenClaim := { program := "ytackpmnjmfelnaa", sum := "1217b4b650e053286ac4abbf6808eff89c87ce1ccf1749377a39c67382128865", func := "loop.example/g00985/laws.FnExactFits", spec := "fnExactFits", unfollowed := true, recurses := true, apart := false, narrowed := true }
def FnExactFitsUptoSaid : Prop := fnExactFitsUptoRow.holds Try.pinned (OpenSpec.upto fnExactFitsSpec)

/-- 'laws.FnExactLeastSpan', WHERE WHAT IT READS IS OF BULK AT MOST 1048576: true; the input reads as it did. -/
def fnExactLeastSpanUptoRow : OpenClaim := { program := "ytackpmnjmfelnaa", sum := "1217b4b650e053286ac4abbf6808eff89c87ce1ccf1749377a39c67382128865", func := "loop.example/g00985/laws.FnExactLeastSpan", spec := "fnExactLeastSpan", unfollowed := true, recurses := true, apart := false, narrowed := true }
def FnExactLeastSpanUptoSaid : Prop := fnExactLeastSpanUptoRow.holds Try.pinned (OpenSpec.upto fnExactLeastSpanSpec)

/-- 'laws.FnExactBlocksPerCore', WHERE WHAT IT READS IS OF BULK AT MOST 1048576: true; the input reads as it did. -/
def fnExactBlocksPerCoreUptoRow : OpenClaim := { program := "ytackpmnjmfelnaa", sum := "1217b4b650e053286ac4abbf6808eff89c87ce1ccf1749377a39c67382128865", func := "loop.example/g00985/laws.FnExactBlocksPerCore", spec := "fnExactBlocksPerCore", unfollowed := true, recurses := true, apart := false, narrowed := true }
def FnExactBlocksPerCoreUptoSaid : Prop := fnExactBlocksPerCoreUptoRow.holds Try.pinned (OpenSpec.upto fnExactBlocksPerCoreSpec)

/-- 'laws.FnExactMakespan', WHERE WHAT IT READS IS OF BULK AT MOST 1048576: true; the input reads as it did. -/
def fnExactMakespanUptoRow : OpenClaim := { program := "ytackpmnjmfelnaa", sum := "1217b4b650e053286ac4abbf6808eff89c87ce1ccf1749377a39c67382128865", func := "loop.example/g00985/laws.FnExactMakespan", spec := "fnExactMakespan", unfollowed := true, recurses := true, apart := false, narrowed := true }
def FnExactMakespanUptoSaid : Prop := fnExactMakespanUptoRow.holds Try.pinned (OpenSpec.upto fnExactMakespanSpec)

/-- 'laws.FnExactOccupancyOf', WHERE WHAT IT READS IS OF BULK AT MOST 1048576: true; the input reads as it did. -/
def fnExactOccupancyOfUptoRow : OpenClaim := { program := "ytackpmnjmfelnaa", sum := "1217b4b650e053286ac4abbf6808eff89c87ce1ccf1749377a39c67382128865", func := "loop.example/g00985/laws.FnExactOccupancyOf", spec := "fnExactOccupancyOf", unfollowed := true, recurses := true, apart := false, narrowed := true }
def FnExactOccupancyOfUptoSaid : Prop := fnExactOccupancyOfUptoRow.holds Try.pinned (OpenSpec.upto fnExactOccupancyOfSpec)

/-- 'laws.FnExactLimitedBy', WHERE WHAT IT READS IS OF BULK AT MOST 1048576: true; the input reads as it did. -/
def fnExactLimitedByUptoRow : OpenClaim := { program := "ytackpmnjmfelnaa", sum := "1217b4b650e053286ac4abbf6808eff89c87ce1ccf1749377a39c67382128865", func := "loop.example/g00985/laws.FnExactLimitedBy", spec := "fnExactLimitedBy", unfollowed := true, recurses := true, apart := false, narrowed := true }
def FnExactLimitedByUptoSaid : Prop := fnExactLimitedByUptoRow.holds Try.pinned (OpenSpec.upto fnExactLimitedBySpec)

/-- 'laws.FnOccupancy', WHERE WHAT IT READS IS OF BULK AT MOST 1048576: true; the input reads as it did. -/
def fnOccupancyUptoRow : OpenClaim := { program := "ytackpmnjmfelnaa", sum := "1217b4b650e053286ac4abbf6808eff89c87ce1ccf1749377a39c67382128865", func := "loop.example/g00985/laws.FnOccupancy", spec := "fnOccupancy", unfollowed := true, recurses := true, apart := false, narrowed := true }
def FnOccupancyUptoSaid : Prop := fnOccupancyUptoRow.holds Try.pinned (OpenSpec.upto fnOccupancySpec)

end Rows
end Go.Proofs.Ytackpmnjmfelnaa
