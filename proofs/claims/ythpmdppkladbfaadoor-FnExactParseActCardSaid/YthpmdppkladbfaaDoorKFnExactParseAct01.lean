/- The premise of what reads the library's tables: they stay as they are laid. -/
import Derived.Test.YthpmdppkladbfaaDoorKFnExactParseAct00
import Derived.Lib.SmallJoins
import Derived.Lib.AppendIntMem
import Derived.Lib.Space
namespace Go.Proofs.YthpmdppkladbfaaDoor.Q
open Go Go.RowKit Go.Proofs.YthpmdppkladbfaaDoorW.PrintWords Go.Proofs.YthpmdppkladbfaaDoorW.PrintLast Go.Proofs.YthpmdppkladbfaaDoorW.PrintMore
set_option linter.unusedVariables false
set_option linter.unusedSimpArgs false

/-- What stands in the library's variables. -/
structure PowIs (w : World) : Prop where
  tab : Lib.TabIs Tryd.prog w "internal/strconv.uint64pow10" .u64 Lib.pow10Tab
  sp : Lib.TabIs Tryd.prog w "strings.asciiSpace" .u8 Lib.asciiSpaceTab
  syn : ∃ (tp : TypeId) (p : Value), w.var? Tryd.prog "strconv.ErrSyntax" = some #[.iface tp p]
  rng : ∃ (tp : TypeId) (p : Value), w.var? Tryd.prog "strconv.ErrRange" = some #[.iface tp p]
theorem pow_some : (Tryd.prog.globalNamed "internal/strconv.uint64pow10").isSome = true := by kernel_rfl
theorem space_some : (Tryd.prog.globalNamed "strings.asciiSpace").isSome = true := by kernel_rfl
theorem syn_some : (Tryd.prog.globalNamed "strconv.ErrSyntax").isSome = true := by kernel_rfl
theorem rng_some : (Tryd.prog.globalNamed "strconv.ErrRange").isSome = true := by kernel_rfl
theorem PowIs.on {w w' : World} (h : PowIs w) (hb : Below w.heap.size w w') : PowIs w' := by
  obtain ⟨g, hg⟩ := Option.isSome_iff_exists.1 pow_some
  obtain ⟨g1, hg1⟩ := Option.isSome_iff_exists.1 space_some
  obtain ⟨g2, hg2⟩ := Option.isSome_iff_exists.1 syn_some
  obtain ⟨g3, hg3⟩ := Option.isSome_iff_exists.1 rng_some
  obtain ⟨t1, p1, e1⟩ := h.syn
  obtain ⟨t2, p2, e2⟩ := h.rng
  exact ⟨Joins.tab_stays hg h.tab hb (Nat.le_refl _), Joins.tab_stays hg1 h.sp hb (Nat.le_refl _), ⟨t1, p1, Joins.var_stays hg2 e1 hb (Nat.le_refl _)⟩, ⟨t2, p2, Joins.var_stays hg3 e2 hb (Nat.le_refl _)⟩⟩

end Go.Proofs.YthpmdppkladbfaaDoor.Q
