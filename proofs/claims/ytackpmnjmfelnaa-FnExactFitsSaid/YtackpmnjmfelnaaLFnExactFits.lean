/- The pure statement of FnExactFits. -/
import Derived.Test.YtackpmnjmfelnaaQ3
import Derived.Test.YtackpmnjmfelnaaPOcc
namespace Go.Proofs.Ytackpmnjmfelnaa.Q
open Go.RowKit Go.Proofs.YtackpmnjmfelnaaW.PrintWords Go.Proofs.YtackpmnjmfelnaaW.PrintLast Go.Proofs.YtackpmnjmfelnaaW.PrintMore
set_option linter.unusedVariables false
set_option linter.unusedSimpArgs false

theorem FnExactFits : ∀ (a0_0 : Int) (a0_1 : Int) (a0_2 : Int) (a0_3 : Int) (a1_0 : Int) (a1_1 : Int) (a1_2 : Int) (a2 : Int), (Lit.int .i64 a0_0).wf = true → (Lit.int .i64 a0_1).wf = true → (Lit.int .i64 a0_2).wf = true → (Lit.int .i64 a0_3).wf = true → (Lit.int .i64 a1_0).wf = true → (Lit.int .i64 a1_1).wf = true → (Lit.int .i64 a1_2).wf = true → (Lit.int .i64 a2).wf = true → laws_FnExactFits.f a0_0 a0_1 a0_2 a0_3 a1_0 a1_1 a1_2 a2 = some true := by
  intro a b c d x y z n _ _ _ _ _ _ _ _
  simp only [laws_FnExactFits.f, laws_toLimits.f, laws_toNeed.f, Option.bind_some, spec_Fits.f, impl_Fits.f, spec_LimitsOk_f, spec_NeedOk_f, areSizes_f, l01In_f, within_f]
  cases limB a b c d
  · simp
  cases needB x y z
  · simp
  by_cases h : inR 0 d n = true
  · have hd := (inR_iff _ _ _).1 h
    simp only [h, Bool.and_self, if_true]
    unfold impl_lacking.f
    rw [if_neg (show ¬ n > d by omega)]
    by_cases h1 : wrap64 (n * x) ≤ a
    · rw [if_pos h1, if_neg (show ¬ wrap64 (n * x) > a by omega)]
      by_cases h2 : wrap64 (wrap64 (n * x) * y) ≤ b
      · rw [if_pos h2, if_neg (show ¬ wrap64 (wrap64 (n * x) * y) > b by omega)]
        by_cases h3 : wrap64 (n * z) ≤ c
        · rw [if_neg (show ¬ wrap64 (n * z) > c by omega)]; simp [h3]
        · rw [if_pos (show wrap64 (n * z) > c by omega)]; simp [h3]
      · rw [if_neg h2, if_pos (show wrap64 (wrap64 (n * x) * y) > b by omega)]; simp
    · rw [if_neg h1, if_pos (show wrap64 (n * x) > a by omega)]; simp
  · simp [h]

end Go.Proofs.Ytackpmnjmfelnaa.Q
