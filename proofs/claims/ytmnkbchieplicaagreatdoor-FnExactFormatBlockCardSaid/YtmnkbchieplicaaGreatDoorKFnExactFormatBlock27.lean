/- What the copies and comparisons of lists of whole numbers in the laws come to. -/
import Derived.Test.YtmnkbchieplicaaGreatDoorKFnExactFormatBlock26
namespace Go.Proofs.YtmnkbchieplicaaGreatDoor.Q
open Go.RowKit Go.Proofs.YtmnkbchieplicaaGreatDoorW.PrintWords Go.Proofs.YtmnkbchieplicaaGreatDoorW.PrintLast Go.Proofs.YtmnkbchieplicaaGreatDoorW.PrintMore
set_option linter.unusedVariables false
set_option linter.unusedSimpArgs false

theorem wrap_succ {i n : Nat} (h : i < n) (hn : n ≤ 9223372036854775807) : wrap64 ((i : Int) + 1) = ((i + 1 : Nat) : Int) := by unfold wrap64; omega
end Go.Proofs.YtmnkbchieplicaaGreatDoor.Q
