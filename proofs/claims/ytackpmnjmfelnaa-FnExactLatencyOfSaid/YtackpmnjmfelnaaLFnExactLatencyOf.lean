/- The pure statement of FnExactLatencyOf. -/
import Derived.Test.YtackpmnjmfelnaaQ1
import Derived.Test.YtackpmnjmfelnaaHIn
namespace Go.Proofs.Ytackpmnjmfelnaa.Q
open Go.RowKit Go.Proofs.YtackpmnjmfelnaaW.PrintWords Go.Proofs.YtackpmnjmfelnaaW.PrintLast Go.Proofs.YtackpmnjmfelnaaW.PrintMore
set_option linter.unusedVariables false
set_option linter.unusedSimpArgs false

theorem FnExactLatencyOf : ∀ (a0_0 : Int) (a0_1 : Int) (a0_2 : Int) (a0_3 : Int), (Lit.int .i64 a0_0).wf = true → (Lit.int .i64 a0_1).wf = true → (Lit.int .i64 a0_2).wf = true → (Lit.int .i64 a0_3).wf = true → laws_FnExactLatencyOf.f a0_0 a0_1 a0_2 a0_3 = some true := by
  intro a b c d _ _ _ _
  simp only [laws_FnExactLatencyOf.f, laws_toIns.f, spec_LatencyOf.f, impl_LatencyOf.f, Option.bind_some]
  by_cases h : a = 5
  · simp [h]
  · by_cases h2 : a = 13
    · simp [h2]
    · simp [h, h2]

end Go.Proofs.Ytackpmnjmfelnaa.Q
