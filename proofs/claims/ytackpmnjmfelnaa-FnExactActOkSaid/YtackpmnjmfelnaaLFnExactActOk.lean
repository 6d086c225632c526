/- The pure statement of FnExactActOk. -/
import Derived.Test.YtackpmnjmfelnaaQ2
import Derived.Test.YtackpmnjmfelnaaHIn
namespace Go.Proofs.Ytackpmnjmfelnaa.Q
open Go.RowKit Go.Proofs.YtackpmnjmfelnaaW.PrintWords Go.Proofs.YtackpmnjmfelnaaW.PrintLast Go.Proofs.YtackpmnjmfelnaaW.PrintMore
set_option linter.unusedVariables false
set_option linter.unusedSimpArgs false

theorem FnExactActOk : ∀ (a0_0 : Int) (a0_1 : Int) (a0_2 : Int), (Lit.int .i64 a0_0).wf = true → (Lit.int .i64 a0_1).wf = true → (Lit.int .i64 a0_2).wf = true → laws_FnExactActOk.f a0_0 a0_1 a0_2 = some true := by
  intro a b c _ _ _
  simp only [laws_FnExactActOk.f, laws_toAct.f, spec_ActOk.f, impl_ActOk.f, spec_IsWord.f, impl_IsWord.f, impl_isStride.f, l01In_f, within_f, Option.bind_some]
  by_cases h1 : a = 1
  · subst h1; cases inR 0 2 b <;> simp
  · by_cases h2 : a = 2
    · subst h2; cases inR 0 1000 b <;> simp
    · by_cases h3 : a = 3
      · subst h3; cases inR 0 100 b <;> simp
      · by_cases h4 : a = 4
        · subst h4; cases inR 0 31 b <;> simp
        · simp [h1, h2, h3, h4]

end Go.Proofs.Ytackpmnjmfelnaa.Q
