/- The pure statement of FnExactLimitsOk. -/
import Derived.Test.YtackpmnjmfelnaaQ2
import Derived.Test.YtackpmnjmfelnaaHLimits
namespace Go.Proofs.Ytackpmnjmfelnaa.Q
open Go.RowKit Go.Proofs.YtackpmnjmfelnaaW.PrintWords Go.Proofs.YtackpmnjmfelnaaW.PrintLast Go.Proofs.YtackpmnjmfelnaaW.PrintMore
set_option linter.unusedVariables false
set_option linter.unusedSimpArgs false

theorem FnExactLimitsOk : ∀ (a0_0 : Int) (a0_1 : Int) (a0_2 : Int) (a0_3 : Int), (Lit.int .i64 a0_0).wf = true → (Lit.int .i64 a0_1).wf = true → (Lit.int .i64 a0_2).wf = true → (Lit.int .i64 a0_3).wf = true → laws_FnExactLimitsOk.f a0_0 a0_1 a0_2 a0_3 = some true := by
  intro a b c d _ _ _ _
  simp only [laws_FnExactLimitsOk.f, laws_toLimits.f, spec_LimitsOk.f, impl_LimitsOk.f, l01In_f, Option.bind_some]
  cases h0 : inR 0 1000000 a <;> cases h1 : inR 0 1000000 b <;> cases h2 : inR 0 1000000 c <;> cases h3 : inR 0 1000000 d <;> simp [h0, h1, h2, h3]

end Go.Proofs.Ytackpmnjmfelnaa.Q
