/- The pure statement of FnExactBlocksPerCore. -/
import Derived.Test.YtackpmnjmfelnaaQ4
import Derived.Test.YtackpmnjmfelnaaPOcc
namespace Go.Proofs.Ytackpmnjmfelnaa.Q
open Go.RowKit Go.Proofs.YtackpmnjmfelnaaW.PrintWords Go.Proofs.YtackpmnjmfelnaaW.PrintLast Go.Proofs.YtackpmnjmfelnaaW.PrintMore
set_option linter.unusedVariables false
set_option linter.unusedSimpArgs false

theorem FnExactBlocksPerCore : ∀ (a0_0 : Int) (a0_1 : Int) (a0_2 : Int) (a0_3 : Int) (a1_0 : Int) (a1_1 : Int) (a1_2 : Int), (Lit.int .i64 a0_0).wf = true → (Lit.int .i64 a0_1).wf = true → (Lit.int .i64 a0_2).wf = true → (Lit.int .i64 a0_3).wf = true → (Lit.int .i64 a1_0).wf = true → (Lit.int .i64 a1_1).wf = true → (Lit.int .i64 a1_2).wf = true → ∃ k, laws_FnExactBlocksPerCore.f k a0_0 a0_1 a0_2 a0_3 a1_0 a1_1 a1_2 = some true := by
  intro a b c d x y z _ _ _ _ _ _ _
  refine ⟨1, ?_⟩
  simp only [laws_FnExactBlocksPerCore.f, laws_toLimits.f, laws_toNeed.f, Option.bind_some, spec_BlocksPerCore_f 0, impl_BlocksPerCore_f]
  simp

end Go.Proofs.Ytackpmnjmfelnaa.Q
