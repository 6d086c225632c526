/- The premise of what reads the library's tables: they stay as they are laid. -/
import Derived.Test.YtmnkbchieplicaaGreatDoorKFnExactFormatBlock04
import Derived.Lib.SmallJoins
import Derived.Lib.AppendIntMem
namespace Go.Proofs.YtmnkbchieplicaaGreatDoor.Q
open Go Go.RowKit Go.Proofs.YtmnkbchieplicaaGreatDoorW.PrintWords Go.Proofs.YtmnkbchieplicaaGreatDoorW.PrintLast Go.Proofs.YtmnkbchieplicaaGreatDoorW.PrintMore
set_option linter.unusedVariables false
set_option linter.unusedSimpArgs false

def PowIs (w : World) : Prop := Lib.TabIs Tryz.prog w "internal/strconv.uint64pow10" .u64 Lib.pow10Tab
theorem PowIs.tab {w : World} (h : PowIs w) : Lib.TabIs Tryz.prog w "internal/strconv.uint64pow10" .u64 Lib.pow10Tab := h
theorem pow_some : (Tryz.prog.globalNamed "internal/strconv.uint64pow10").isSome = true := by kernel_rfl
theorem PowIs.on {w w' : World} (h : PowIs w) (hb : Below w.heap.size w w') : PowIs w' := by
  obtain ⟨g, hg⟩ := Option.isSome_iff_exists.1 pow_some
  exact Joins.tab_stays hg h hb (Nat.le_refl _)

end Go.Proofs.YtmnkbchieplicaaGreatDoor.Q
