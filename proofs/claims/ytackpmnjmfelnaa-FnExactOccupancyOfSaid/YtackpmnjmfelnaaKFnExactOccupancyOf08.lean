/- The pure statement of FnExactOccupancyOf. -/
import Derived.Test.YtackpmnjmfelnaaKFnExactOccupancyOf07
namespace Go.Proofs.Ytackpmnjmfelnaa.Q
open Go.RowKit Go.Proofs.YtackpmnjmfelnaaW.PrintWords Go.Proofs.YtackpmnjmfelnaaW.PrintLast Go.Proofs.YtackpmnjmfelnaaW.PrintMore
set_option linter.unusedVariables false
set_option linter.unusedSimpArgs false

theorem FnExactOccupancyOf : ∀ (a0_0 : Int) (a0_1 : Int) (a0_2 : Int) (a0_3 : Int) (a1_0 : Int) (a1_1 : Int) (a1_2 : Int), (Lit.int .i64 a0_0).wf = true → (Lit.int .i64 a0_1).wf = true → (Lit.int .i64 a0_2).wf = true → (Lit.int .i64 a0_3).wf = true → (Lit.int .i64 a1_0).wf = true → (Lit.int .i64 a1_1).wf = true → (Lit.int .i64 a1_2).wf = true → ∃ k, laws_FnExactOccupancyOf.f k a0_0 a0_1 a0_2 a0_3 a1_0 a1_1 a1_2 = some true := by
  intro a b c d x y z _ _ _ _ _ _ _
  refine ⟨1, ?_⟩
  simp only [laws_FnExactOccupancyOf.f, laws_toLimits.f, laws_toNeed.f, Option.bind_some, spec_OccupancyOf.f, impl_OccupancyOf.f, spec_BlocksPerCore_f 0, areSizes_f]
  unfold perCore
  by_cases h : (limB a b c d && needB x y z) = true
  · have h' := h
    rw [Bool.and_eq_true] at h'
    have hr := most_range h'.1 h'.2
    rw [if_pos h, if_pos h, impl_most_f h'.1 h'.2, if_neg (show ¬ mostZ a b c d x y z < 0 by omega)]
    by_cases ha : a = 0
    · rw [if_pos ha, if_pos ha]
      have : mn (mostZ a b c d x y z) 0 = 0 := by unfold mn; split <;> omega
      simp [this]
    · rw [if_neg ha, if_neg ha]
      simp
  · rw [if_neg h, if_neg h]
    simp [mn]

end Go.Proofs.Ytackpmnjmfelnaa.Q
