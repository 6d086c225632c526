/- The pure statement of FnExactLimitedBy. -/
import Derived.Test.YtackpmnjmfelnaaKFnExactLimitedBy07
namespace Go.Proofs.Ytackpmnjmfelnaa.Q
open Go.RowKit Go.Proofs.YtackpmnjmfelnaaW.PrintWords Go.Proofs.YtackpmnjmfelnaaW.PrintLast Go.Proofs.YtackpmnjmfelnaaW.PrintMore
set_option linter.unusedVariables false
set_option linter.unusedSimpArgs false

theorem FnExactLimitedBy : ∀ (a0_0 : Int) (a0_1 : Int) (a0_2 : Int) (a0_3 : Int) (a1_0 : Int) (a1_1 : Int) (a1_2 : Int), (Lit.int .i64 a0_0).wf = true → (Lit.int .i64 a0_1).wf = true → (Lit.int .i64 a0_2).wf = true → (Lit.int .i64 a0_3).wf = true → (Lit.int .i64 a1_0).wf = true → (Lit.int .i64 a1_1).wf = true → (Lit.int .i64 a1_2).wf = true → ∃ k, laws_FnExactLimitedBy.f k a0_0 a0_1 a0_2 a0_3 a1_0 a1_1 a1_2 = some true := by
  intro a b c d x y z _ _ _ _ _ _ _
  refine ⟨1, ?_⟩
  simp only [laws_FnExactLimitedBy.f, laws_toLimits.f, laws_toNeed.f, Option.bind_some, spec_LimitedBy.f, impl_LimitedBy.f, spec_BlocksPerCore_f 0, areSizes_f]
  unfold perCore
  by_cases h : (limB a b c d && needB x y z) = true
  · have h' := h
    rw [Bool.and_eq_true] at h'
    have hr := most_range h'.1 h'.2
    obtain ⟨⟨a1, a2⟩, ⟨b1, b2⟩, ⟨c1, c2⟩, ⟨d1, d2⟩⟩ := limB_iff h'.1
    obtain ⟨⟨x1, x2⟩, ⟨y1, y2⟩, ⟨z1, z2⟩⟩ := needB_iff h'.2
    have hno : ¬ (mostZ a b c d x y z + 1 ≤ d ∧ (mostZ a b c d x y z + 1) * x ≤ a ∧ (mostZ a b c d x y z + 1) * x * y ≤ b ∧ (mostZ a b c d x y z + 1) * z ≤ c) := by
      rw [← le_mostZ x1 y1 z1 b1 c1]; omega
    rw [if_pos h, if_pos h, impl_most_f h'.1 h'.2]
    generalize mostZ a b c d x y z = k at *
    simp only [Option.bind_some]
    unfold impl_lacking.f
    have m1 := mul_small (show 0 ≤ k + 1 by omega) (show k + 1 ≤ 1000001 by omega) (show 0 ≤ x by omega) x2
    have m2 := mul_small m1.1 m1.2 y1 y2
    have m3 := mul_small (show 0 ≤ k + 1 by omega) (show k + 1 ≤ 1000001 by omega) z1 z2
    rw [wrap_in (x := k + 1) (by omega) (by omega), wrap_in (x := (k + 1) * x) (by omega) (by omega), wrap_in (x := (k + 1) * x * y) (by omega) (by omega), wrap_in (x := (k + 1) * z) (by omega) (by omega), if_neg (show ¬ k + 1 = 0 by omega)]
    by_cases e1 : k + 1 > d
    · rw [if_pos e1, if_pos e1]; simp
    · rw [if_neg e1, if_neg e1]
      by_cases e2 : (k + 1) * x > a
      · rw [if_pos e2, if_pos e2]; simp
      · rw [if_neg e2, if_neg e2]
        by_cases e3 : (k + 1) * x * y > b
        · rw [if_pos e3, if_pos e3]; simp
        · rw [if_neg e3, if_neg e3, if_pos (show (k + 1) * z > c from by
            refine Int.not_le.1 fun e4 => hno ⟨by omega, by omega, by omega, e4⟩)]; simp
  · rw [if_neg h, if_neg h]
    simp [wrap64]

end Go.Proofs.Ytackpmnjmfelnaa.Q
