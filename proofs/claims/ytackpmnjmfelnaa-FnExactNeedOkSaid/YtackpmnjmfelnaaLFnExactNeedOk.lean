/- The pure statement of FnExactNeedOk. -/
import Derived.Test.YtackpmnjmfelnaaQ1
import Derived.Test.YtackpmnjmfelnaaHIn
namespace Go.Proofs.Ytackpmnjmfelnaa.Q
open Go.RowKit Go.Proofs.YtackpmnjmfelnaaW.PrintWords Go.Proofs.YtackpmnjmfelnaaW.PrintLast Go.Proofs.YtackpmnjmfelnaaW.PrintMore
set_option linter.unusedVariables false
set_option linter.unusedSimpArgs false

theorem FnExactNeedOk : ∀ (a0_0 : Int) (a0_1 : Int) (a0_2 : Int), (Lit.int .i64 a0_0).wf = true → (Lit.int .i64 a0_1).wf = true → (Lit.int .i64 a0_2).wf = true → laws_FnExactNeedOk.f a0_0 a0_1 a0_2 = some true := by
  intro a b c _ _ _
  simp only [laws_FnExactNeedOk.f, laws_toNeed.f, spec_NeedOk.f, impl_NeedOk.f, l01In_f, within_f, Option.bind_some]
  cases inR 1 1000 a <;> cases inR 0 1000 b <;> simp

end Go.Proofs.Ytackpmnjmfelnaa.Q
