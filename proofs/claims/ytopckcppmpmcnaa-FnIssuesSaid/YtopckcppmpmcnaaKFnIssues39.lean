/- What the functions on the cycles of slots come to. -/
import Derived.Test.YtopckcppmpmcnaaKFnIssues38
namespace Go.Proofs.Ytopckcppmpmcnaa.Q
open Go.RowKit Go.Maps Go.Proofs.YtopckcppmpmcnaaW.PrintWords Go.Proofs.YtopckcppmpmcnaaW.PrintLast Go.Proofs.YtopckcppmpmcnaaW.PrintMore
set_option linter.unusedVariables false
set_option linter.unusedSimpArgs false

theorem cyc_has_at (l : List S49) (i : Nat) (x : Int) : Maps.has (cycSet l i) (.int .i64 x) = true ↔ ∃ s ∈ l.take i, s.f0 = x := by
  unfold cycSet
  rw [has_setOf _ _ _ (by intro y hy; simp only [cycKeys, List.mem_map] at hy; obtain ⟨s, _, rfl⟩ := hy; trivial), cycKeys]
  simp only [List.any_map, List.any_eq_true, Function.comp_def]
  constructor
  · rintro ⟨s, hs, h⟩; exact ⟨s, hs, by simpa [Lit.sameKey] using h⟩
  · rintro ⟨s, hs, h⟩; exact ⟨s, hs, by simpa [Lit.sameKey] using h⟩
theorem cyc_tidy (l : List S49) (i : Nat) : Tidy (cycSet l i) := by
  unfold cycSet
  exact tidy_setOf _ _ (by intro y hy; simp only [cycKeys, List.mem_map] at hy; obtain ⟨s, _, rfl⟩ := hy; trivial)
end Go.Proofs.Ytopckcppmpmcnaa.Q
